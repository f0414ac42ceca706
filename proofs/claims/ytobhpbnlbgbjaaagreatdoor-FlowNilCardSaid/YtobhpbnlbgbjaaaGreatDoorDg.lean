/- Slices that are made, maps, iterators. -/
import Derived.Test.YtobhpbnlbgbjaaaGreatDoorD13
import Derived.Laws.BitsLemmas
set_option linter.unusedSectionVars false
set_option linter.unusedSimpArgs false
set_option linter.unusedVariables false
set_option linter.unusedSimpArgs false
namespace Go.Proofs.YtobhpbnlbgbjaaaGreatDoor
open Go Go.RowKit
set_option linter.unusedSectionVars false
variable [mode : Inhabited ModeT]

section
variable {P : Program} {K : KW} {w : World} {h : Heap} {HF : Nat → Option AObj} {V : Nat → Prop} {ow : Nat → Option OKey} {hc : Nat → Option AObj}

theorem fillF_den {sz : Nat} : ∀ {ps : List (Nat × AV)} {vps : List (Nat × Value)} {cs cs' : List AV} {arr : Array Value}, fillF sz cs ps = some cs' → DenP K ps vps → DenL K cs arr.toList →
    ∃ arr', Instr.fill (fun i => some (i * sz, sz)) arr vps = some arr' ∧ DenL K cs' arr'.toList ∧ cs'.length = cs.length
  | [], _, cs, cs', arr, h, .nil, hd => by simp [fillF] at h; subst h; exact ⟨arr, rfl, hd, rfl⟩
  | (i, x) :: ps, _, cs, cs', arr, h, .cons (v := v) hx hp, hd => by
    simp only [fillF] at h
    split at h
    · rename_i hcond
      obtain ⟨c1, c2, c3⟩ := hcond
      have hcl := hx.cells
      have hl1 : v.cells.size = sz := by have := hcl.length; simp at this; omega
      have hl2 : arr.size = cs.length := by have := hd.length; simpa using this
      have hle : i * sz + sz ≤ cs.length := by rw [Nat.succ_mul] at c3; exact c3
      have hsp : (v.cells.zipIdx.foldl (fun cs (c, j) => cs.setIfInBounds (i * sz + j) c) arr).toList = arr.toList.take (i * sz) ++ v.cells.toList ++ arr.toList.drop (i * sz + v.cells.toList.length) := by
        have := foldl_splice (i * sz) v.cells.toList 0 arr (by simp; omega)
        rw [← Array.foldl_toList, Array.toList_zipIdx]
        exact this
      obtain ⟨arr', h1, h2, h3⟩ := fillF_den (arr := v.cells.zipIdx.foldl (fun cs (c, j) => cs.setIfInBounds (i * sz + j) c) arr) h hp (by
          rw [hsp]
          exact denL_splice hd hcl)
      refine ⟨arr', ?_, h2, ?_⟩
      · unfold Instr.fill
        simp only []
        rw [if_neg (by simp [hl1]; omega)]
        exact h1
      · rw [h3]; unfold spliceL; simp only [List.length_append, List.length_take, List.length_drop]; omega
    · exact nomatch h

theorem repL_get {zs : List AV} {n : Nat} (hd : zs.length = n) (hn : 0 < n) : ∀ (len j : Nat), j < len * n → (repL zs len)[j]? = zs[j % n]?
  | 0, j, h => by simp at h
  | len + 1, j, h => by
    simp only [repL]
    rw [List.getElem?_append]
    split
    · rename_i hj; rw [hd] at hj; rw [Nat.mod_eq_of_lt hj]
    · rename_i hj
      rw [hd] at hj ⊢
      rw [Nat.succ_mul] at h
      rw [repL_get hd hn len (j - n) (by omega), ← Nat.mod_eq_sub_mod (a := j) (b := n) (by omega)]

theorem repL_length (zs : List AV) : ∀ len, (repL zs len).length = len * zs.length
  | 0 => by simp [repL]
  | len + 1 => by simp only [repL, List.length_append, repL_length zs len, Nat.succ_mul]; omega

theorem zerosF_den {zs : List AV} {zv : Value} {n len : Nat} (hz : DenL K zs zv.cells.toList) (hd : zs.length = n) (hn : 0 < n) :
    DenL K (repL zs len) ((Array.range (len * n)).map fun i => zv.cells[i % zv.cells.size]!).toList := by
  have hsz : zv.cells.size = n := by have := hz.length; simpa [hd] using this
  have hfl : (repL zs len).length = len * n := by rw [repL_length, hd]
  refine DenL.of_index (by simp [hfl]) fun j x v hx hv => ?_
  have hj : j < len * n := by
    rcases Nat.lt_or_ge j (len * n) with h | h
    · exact h
    · rw [List.getElem?_eq_none (by rw [hfl]; exact h)] at hx; exact nomatch hx
  rw [repL_get hd hn len j hj] at hx
  have hm : j % n < n := Nat.mod_lt _ hn
  have hv' : zv.cells.toList[j % n]? = some v := by
    rw [Array.getElem?_toList] at hv ⊢
    rw [Array.getElem?_map, Array.getElem?_range, if_pos hj] at hv
    simp only [Option.map_some, Option.some.injEq, hsz] at hv
    have : j % n < zv.cells.size := by omega
    rw [Array.getElem?_eq_getElem this]
    rw [getElem!_pos zv.cells (j % n) this] at hv
    rw [hv]
  exact hz.index _ _ _ hx hv'

/-- a new row -/
theorem row_new {place : Option Nat} {e : TypeId} {cs : List AV} {id : Nat} {h' : Heap} {arr : Array Value} {n len : Nat} (hk : Fit K h HF V w) (hp : ∀ r, place = some r → V r) (hn : newFree place h e cs true = some (id, h')) (hd : DenL K cs arr.toList) (hl : cs.length = n) (sz : Nat) (hsz : sz ≠ 0) (hlen : len * sz ≤ n) (cap : Nat) (hcap : cap * sz = n) :
    ∃ K', Kext K K' ∧ Den K' (.row id 0 0 len sz) (.slice (some ⟨w.heap.size, 0, none⟩) len cap) ∧ Fit K' h' HF (afterV place h.length h'.length V) (w.alloc (.cells arr e)) ∧ h.length ≤ h'.length := by
  have hal : arr.size = n := by have := hd.length; simp at this; omega
  obtain ⟨K', hext, hrow, hfit, hle⟩ := gives_newFree (vs := arr) hk hp hn (by rw [List.take_of_length_le (by simp; omega)]; exact hd) (fun _ => by omega)
  refine ⟨K', hext, ?_, hfit, hle⟩
  have := Den.row (K := K') id 0 0 len sz _ hrow hsz (by simp only; omega)
  simpa [hal, ← hcap, Nat.mul_div_cancel _ (Nat.pos_of_ne_zero hsz)] using this

theorem gives_buildSliceF {a : Act} {t : TypeId} {len : Nat} {parts : Array (Nat × Operand)} {ps : List (Nat × AV)} {v : AV} {place : Option Nat} {h' : Heap} (hk : Fit K h HF V w) (hpl : ∀ r, place = some r → V r) (hp : DenP K ps (parts.toList.map fun (i, x) => (i, a.eval x))) (hb : buildSliceF P place h t len ps = some (v, h')) :
    ∃ u w' K', (Instr.buildSlice t len (parts.map fun (i, x) => (i, a.eval x))).run P w = .ok u w' ∧ Kext K K' ∧ Den K' v u ∧ Fit K' h' HF (afterV place h.length h'.length V) w' ∧ h.length ≤ h'.length := by
  unfold buildSliceF at hb
  split at hb
  case h_2 => exact nomatch hb
  rename_i elem hu
  split at hb
  case h_2 => exact nomatch hb
  rename_i n z hn hz
  split at hb
  case isFalse => exact nomatch hb
  rename_i hcond
  obtain ⟨c1, c2, c3⟩ := hcond
  split at hb
  case h_2 => exact nomatch hb
  rename_i cs hcs
  split at hb
  case h_2 => exact nomatch hb
  rename_i id h'' hnf
  cases hb
  obtain ⟨zv, h1, h2, _⟩ := run_zeroValue' (P := P) (w := w) (K := K) hz
  have hzc := h2.cells
  have hn0 : 0 < n := Nat.pos_of_ne_zero c3
  have hlim : ¬ len * n > 2 ^ 24 := by omega
  have key : ∀ zc : Array Value, DenL K (repL z.cells len) ((Array.range (len * n)).map fun i => zc[i % zc.size]!).toList →
      ∃ u w' K', (do
        let some cells := Instr.fill (fun i => some (i * n, n)) ((Array.range (len * n)).map (zc[· % zc.size]!)) (parts.map fun (i, x) => (i, a.eval x)).toList
          | stuck "buildSlice: a part of the wrong size"
        pure (.slice (some (← newRow elem cells)) len len) : Sem Value).run P w = .ok u w' ∧ Kext K K' ∧ Den K' (.row id 0 0 len n) u ∧ Fit K' h' HF (afterV place h.length h'.length V) w' ∧ h.length ≤ h'.length := by
    intro zc hzc'
    obtain ⟨arr', h3, h4, h5⟩ := fillF_den hcs hp hzc'
    rw [repL_length, c2] at h5
    obtain ⟨K', g1, g2, g3, g4⟩ := row_new hk hpl hnf h4 h5 n c3 (Nat.le_refl _) len rfl
    refine ⟨_, _, K', ?_, g1, g2, g3, g4⟩
    rw [Array.toList_map, h3]
    simp only [Sem.run_bind, newRow, run_newObj_alloc, Result.andThen_ok, Sem.run_pure]
  by_cases h0 : len * n = 0
  · have := key #[] (by
      have hl0 : len = 0 := by rcases Nat.mul_eq_zero.1 h0 with h | h <;> omega
      subst hl0; simpa [repL] using DenL.nil)
    obtain ⟨u, w', K', g1, g2⟩ := this
    refine ⟨u, w', K', ?_, g2⟩
    rw [← g1]
    simp only [Instr.buildSlice, Sem.run_bind, run_underlying' hu, Result.andThen_ok, run_sizeOf' hn, if_neg hlim, if_pos h0, Sem.run_pure]
    try rfl
  · have := key zv.cells (zerosF_den hzc c2 hn0)
    obtain ⟨u, w', K', g1, g2⟩ := this
    refine ⟨u, w', K', ?_, g2⟩
    rw [← g1]
    simp only [Instr.buildSlice, Sem.run_bind, run_underlying' hu, Result.andThen_ok, run_sizeOf' hn, if_neg hlim, if_neg h0, Sem.run_pure, h1]
    try rfl

theorem i64_in' (n : Int) (h : -9223372036854775808 ≤ n ∧ n ≤ 9223372036854775807) : IntKind.i64.wrap n = n := by rw [IntKind.wrap_i64]; omega

theorem gives_makeSliceA {t : TypeId} {l c v : AV} {vl vc : Value} {place : Option Nat} {h' : Heap} (hk : Fit K h HF V w) (hpl : ∀ r, place = some r → V r) (hb : makeSliceA P place h t l c = some (v, h')) (hl : Den K l vl) (hcc : Den K c vc) :
    ∃ u w' K', (Instr.makeSlice t vl vc).run P w = .ok u w' ∧ Kext K K' ∧ Den K' v u ∧ Fit K' h' HF (afterV place h.length h'.length V) w' ∧ h.length ≤ h'.length := by
  unfold makeSliceA at hb
  split at hb
  case h_2 => exact nomatch hb
  rename_i elem kl l kc c hu
  cases hl with | dat hl => ?_
  cases hl
  cases hcc with | dat hcc => ?_
  cases hcc
  split at hb
  case h_2 => exact nomatch hb
  rename_i n z info hn hz hinfo
  split at hb
  case isFalse => exact nomatch hb
  rename_i hcond
  obtain ⟨c1, c2, c3, c4, c5, c6, c7, c8⟩ := hcond
  split at hb
  case h_2 => exact nomatch hb
  rename_i id h'' hnf
  cases hb
  obtain ⟨zv, h1, h2, _⟩ := run_zeroValue' (P := P) (w := w) (K := K) hz
  have hti : (typeInfo elem).run P w = .ok info w := by simp [typeInfo, program, Sem.run, hinfo]
  have hn0 : 0 < n := Nat.pos_of_ne_zero c7
  have hwl := i64_in' l (by omega)
  have hwc := i64_in' c (by omega)
  have hb1 : ((info.bytes : Int) * c : Int) ≤ 2 ^ 48 := by rw [Int.mul_comm]; omega
  have hb2 : ((info.bytes : Int) * l : Int) ≤ 2 ^ 48 := by
    have := Int.mul_le_mul_of_nonneg_left c2 (Int.natCast_nonneg info.bytes)
    omega
  have hd : DenL K (repL z.cells c.toNat) ((Array.range (c.toNat * n)).map fun i => (if c.toNat * n = 0 then #[] else zv.cells)[i % (if c.toNat * n = 0 then #[] else zv.cells).size]!).toList := by
    by_cases h0 : c.toNat * n = 0
    · have hl0 : c.toNat = 0 := by rcases Nat.mul_eq_zero.1 h0 with h | h <;> omega
      rw [hl0]
      simpa [repL] using DenL.nil
    · rw [if_neg h0]; exact zerosF_den h2.cells c6 hn0
  have hmul : l.toNat * n ≤ c.toNat * n := Nat.mul_le_mul_right n (by omega)
  obtain ⟨K', g1, g2, g3, g4⟩ := row_new (len := l.toNat) hk hpl hnf hd (by rw [repL_length, c6]) n c7 hmul c.toNat rfl
  refine ⟨_, _, K', ?_, g1, g2, g3, g4⟩
  have hnl : ¬ l < 0 := by omega
  have hnc : ¬ c < 0 := by omega
  have hlc : ¬ l > c := by omega
  have hbc : ¬ (info.bytes : Int) * c > 2 ^ 48 := by omega
  simp only [Instr.makeSlice, Sem.run_bind, run_underlying' hu, Result.andThen_ok, asInt, asIntOf, Sem.run_pure, hti, hwl, hwc]
  simp only [hnl, hnc, hlc, hbc, decide_false, Bool.or_false, Bool.false_eq_true, if_false, Sem.run_bind, run_askRoom, Result.andThen_ok, run_sizeOf' hn]
  by_cases h0 : c.toNat * n = 0
  · simp only [h0, if_true, Sem.run_pure, Result.andThen_ok, newRow, Sem.run_bind, run_newObj_alloc]
  · simp only [h0, if_false, Sem.run_bind, h1, Sem.run_pure, Result.andThen_ok, newRow, run_newObj_alloc]

/-- a new map, a new iterator -/
theorem gives_obj {place : Option Nat} {o : AObj} {id : Nat} {h' : Heap} {obj : Obj} (hk : Fit K h HF V w) (hp : ∀ r, place = some r → V r) (ha : allocObj place h o = some (id, h')) (ho : o.isFr = true)
    (hat : ∀ K2 : KW, Kext K K2 → K2.blk id = some w.heap.size → FreeAt K2 id o w.heap.size obj) :
    ∃ K', Kext K K' ∧ K'.blk id = some w.heap.size ∧ Fit K' h' HF (afterV place h.length h'.length V) (w.alloc obj) ∧ h.length ≤ h'.length := by
  obtain ⟨hv, hcomb, hlen, hhf, hvl, hvi⟩ := alloc_fit hk hp ha
  obtain ⟨ow, hok⟩ := hk.ok
  have hext := kext_withFr (b := w.heap.size) (n := 0) (hok.fresh id hv).2.1 (hok.freshr id hv)
  have hb : (withFr K id w.heap.size 0).blk id = some w.heap.size := by simp [withFr]
  obtain ⟨ow', hok', _⟩ := hok.newFr hv ho (n := 0) (hat _ hext hb)
  exact ⟨_, hext, hb, ⟨⟨ow', by rw [hcomb]; exact hok'.virgin hvi⟩, hhf, hvl⟩, hlen⟩

/-- a map, an iterator turns -/
theorem turn_obj {id : Nat} {o o' : AObj} (hk : Fit K h HF V w) (hid : h[id]? = some (some o)) (ho : o.isFr = true) (ho' : o'.isFr = true) {b : Nat} {obj obj' : Obj} (hb : K.blk id = some b) (hheap : w.heap[b]? = some obj) (hown : ∀ ow, OkW K (comb h HF) V w ow → ow b = some (.fr id) ∧ ¬ K.base.old b ∧ ∀ off sp, K.imm ⟨b, off, sp⟩ = none)
    (hnc : ∀ vs e f, obj ≠ .cells vs e f) (hat : FreeAt K id o' b obj') : Fit K (h.set id (some o')) HF V { w with heap := w.heap.setIfInBounds b obj' } := by
  obtain ⟨ow, hok⟩ := hk.ok
  obtain ⟨h1, h2, h3⟩ := hown ow hok
  have hlt := lt_of_heap hheap
  have hoth : ∀ x, x ≠ b → (w.heap.setIfInBounds b obj')[x]? = w.heap[x]? := fun x hx => by rw [Array.getElem?_setIfInBounds]; rw [if_neg (fun e => hx e.symm)]
  have hok2 := (hok.turnFr (comb_some hid) ho (o' := o') ho' (row := K.row) (w' := { w with heap := w.heap.setIfInBounds b obj' }) (fun _ _ _ h => h) (fun _ _ _ => rfl) hat (by show (w.heap.setIfInBounds b obj')[b]? = _; rw [Array.getElem?_setIfInBounds]; simp [hlt]) h2 h3 (Or.inr h1)
    (hok.below.step rfl rfl rfl ⟨by simp, fun k hk' => hoth k (by intro e; subst e; first | exact absurd hk' (by assumption) | exact absurd hk' hb.base | exact absurd hk' (by simpa using hbase))⟩) (by simp) (fun x k g1 g2 => hoth x (fun e => by rw [e, h1] at g1; exact g2 (Option.some.inj g1).symm)) fun a c ha => by
      have g1 := hok.imm a c ha
      obtain ⟨vs, e, f, g2, _⟩ := cell_block g1
      have : a.block ≠ b := by rintro rfl; rw [hheap] at g2; exact hnc _ _ _ (Option.some.inj g2)
      rw [cell_same (w' := { w with heap := w.heap.setIfInBounds b obj' }) (hoth _ this)]; exact g1).1
  refine ⟨⟨_, by rw [comb_set (lt_of_some hid)]; exact hok2⟩, fun i o hi' => ?_, fun i hi' => hk.vlen i (by simpa using hi')⟩
  have h2 := hk.hf i o hi'
  have : id ≠ i := by rintro rfl; rw [hid] at h2; cases h2
  rw [List.getElem?_set_ne this]; exact h2

theorem run_getObj' {r : Nat} {o : Obj} (hb : w.heap[r]? = some o) (hn : ∀ vs e f, o ≠ .cells vs e f) : (getObj r).run P w = .ok o w := by
  cases o <;> first | exact (hn _ _ _ rfl).elim | simp [getObj, Sem.run, hb]

theorem run_setObj' {r : Nat} {o : Obj} (o' : Obj) (hb : w.heap[r]? = some o) (hn : ∀ vs e f, o ≠ .cells vs e f) : (setObj r o').run P w = .ok () { w with heap := w.heap.setIfInBounds r o' } := by
  cases o <;> first | exact (hn _ _ _ rfl).elim | simp [setObj, Sem.run, hb]

theorem gives_makeMap {t : TypeId} {kt et : TypeId} {place : Option Nat} {id : Nat} {h' : Heap} (hk : Fit K h HF V w) (hp : ∀ r, place = some r → V r) (ha : allocObj place h (.mp [] 0 0) = some (id, h')) :
    ∃ u w' K', (Instr.makeMap t none).run P w = .ok u w' ∧ Kext K K' ∧ Den K' (.mapv (some id)) u ∧ Fit K' h' HF (afterV place h.length h'.length V) w' ∧ h.length ≤ h'.length := by
  obtain ⟨K', g1, g2, g3, g4⟩ := gives_obj (obj := .map #[] 0) hk hp ha rfl fun K2 _ hb => .mp [] 0 0 _ #[] hb .nil rfl
  exact ⟨_, _, K', by simp [Instr.makeMap], g1, .mapv id _ g2, g3, g4⟩

/- keys -/

theorem keyEq_true {k k' : D} (h : keyEq k k' = some true) : k = k' := by
  unfold keyEq at h
  split at h
  · split at h
    · rename_i e; subst e; simp at h; rw [h]
    · exact nomatch h
  · simp at h; rw [h]
  · simp at h; rw [h]
  · exact nomatch h

theorem run_checkKey {kt : TypeId} {k : D} {key : Value} {empty : Bool} {n : Nat} (hk : keyOk P kt k = true) (hd : DenD K.imm k key) : (Instr.checkKey empty (n + 1) kt key).run P w = .ok () w := by
  unfold keyOk at hk
  split at hk
  · split at hk
    · rename_i hu; cases hd; simp [Instr.checkKey, run_underlying' hu]
    · exact nomatch hk
  · split at hk
    · rename_i hu; cases hd; simp [Instr.checkKey, run_underlying' hu]
    · exact nomatch hk
  · split at hk
    · rename_i hu; cases hd; simp [Instr.checkKey, run_underlying' hu]
    · exact nomatch hk
  · exact nomatch hk

theorem sameNow_eq {kt : TypeId} {kd : TypeDesc} {k k' : D} {key key' : Value} {b : Bool} (hu : P.underlying kt = some kd) (hk : keyOk P kt k = true) (h1 : DenD K.imm k key) (h2 : DenD K.imm k' key') (he : keyEq k k' = some b) : Instr.sameNow kd key key' = some b := by
  unfold keyOk at hk
  unfold keyEq at he
  split at he
  · split at he
    · rename_i e
      subst e
      cases h1; cases h2
      simp only at hk
      split at hk
      · rename_i hu'; rw [hu] at hu'; cases hu'; simpa [Instr.sameNow] using he
      · exact nomatch hk
    · exact nomatch he
  · cases h1; cases h2
    simp only at hk
    split at hk
    · rename_i hu'; rw [hu] at hu'; cases hu'; simp only [Instr.sameNow, str_beq]; exact he
    · exact nomatch hk
  · cases h1; cases h2
    simp only at hk
    split at hk
    · rename_i hu'; rw [hu] at hu'; cases hu'; simpa [Instr.sameNow] using he
    · exact nomatch hk
  · exact nomatch he

theorem findNow_eq {kt : TypeId} {kd : TypeDesc} {k : D} {key : Value} (hu : P.underlying kt = some kd) (hk : keyOk P kt k = true) (h1 : DenD K.imm k key) : ∀ {es : List (D × AV × Nat)} {ms : List MapEntry} {i : Nat} {r : Option (Nat × AV)}, EntL K es ms → findA k es i = some r →
    ∃ r', Instr.findNow kd key ms i = some r' ∧ match r with | none => r' = none | some (j, v) => ∃ u, r' = some (j, u) ∧ Den K v u ∧ i ≤ j ∧ ∃ k' b m, es[j - i]? = some (k', v, b) ∧ ms[j - i]? = some m ∧ k' = k ∧ DenD K.imm k' m.key
  | [], _, i, r, .nil, h => by simp [findA] at h; subst h; exact ⟨none, rfl, rfl⟩
  | (k', v, n) :: es, _, i, r, .cons (key := key') (val := val') hkd hvd hes, h => by
    simp only [findA] at h
    split at h
    · rename_i he
      cases h
      have := keyEq_true he
      subst this
      refine ⟨_, by simp only [Instr.findNow, sameNow_eq hu hk h1 hkd he], _, rfl, hvd, Nat.le_refl _, k, n, { key := key', val := val', born := n }, ?_, ?_, rfl, hkd⟩
      · rw [Nat.sub_self]; rfl
      · rw [Nat.sub_self]; rfl
    · rename_i he
      obtain ⟨r', g1, g2⟩ := findNow_eq hu hk h1 hes h
      refine ⟨r', by simp only [Instr.findNow, sameNow_eq hu hk h1 hkd he]; exact g1, ?_⟩
      cases r with
      | none => exact g2
      | some p =>
        obtain ⟨j, v'⟩ := p
        obtain ⟨u, e1, e2, e3, k2, b, m, e4, e5, e6⟩ := g2
        refine ⟨u, e1, e2, by omega, k2, b, m, ?_, ?_, e6⟩
        · rw [show j - i = (j - (i + 1)) + 1 by omega]; exact e4
        · rw [show j - i = (j - (i + 1)) + 1 by omega]; exact e5
    · exact nomatch h

theorem keyOk_underlying {kt : TypeId} {k : D} (hk : keyOk P kt k = true) : ∃ kd, P.underlying kt = some kd := by
  unfold keyOk at hk
  split at hk
  · split at hk
    · rename_i hu; exact ⟨_, hu⟩
    · exact nomatch hk
  · split at hk
    · rename_i hu; exact ⟨_, hu⟩
    · exact nomatch hk
  · split at hk
    · rename_i hu; exact ⟨_, hu⟩
    · exact nomatch hk
  · exact nomatch hk

theorem run_findKey {kt : TypeId} {k : D} {key : Value} (hk : keyOk P kt k = true) (h1 : DenD K.imm k key) {es : List (D × AV × Nat)} {ms : List MapEntry} {r : Option (Nat × AV)} (he : EntL K es ms) (hf : findA k es 0 = some r) :
    ∃ r', (Instr.findKey kt key ms).run P w = .ok r' w ∧ match r with | none => r' = none | some (j, v) => ∃ u, r' = some (j, u) ∧ Den K v u ∧ ∃ k' b m, es[j]? = some (k', v, b) ∧ ms[j]? = some m ∧ k' = k ∧ DenD K.imm k' m.key := by
  obtain ⟨kd, hu⟩ := keyOk_underlying hk
  obtain ⟨r', g1, g2⟩ := findNow_eq hu hk h1 he hf
  refine ⟨r', by simp only [Instr.findKey, Sem.run_bind, run_underlying' hu, Result.andThen_ok, g1, Sem.run_pure], ?_⟩
  cases r with
  | none => exact g2
  | some p =>
    obtain ⟨j, v'⟩ := p
    obtain ⟨u, e1, e2, e3, k2, b, m, e4, e5, e6⟩ := g2
    exact ⟨u, e1, e2, k2, b, m, e4, e5, e6⟩

theorem run_lookupA {t : TypeId} {x i v : AV} {vx vi : Value} {ok : Bool} (hk : OkW K (comb h HF) V w ow) (hl : lookupA P t x i ok h = some v) (hx : Den K x vx) (hi : Den K i vi) : ∃ u, (Instr.lookup t vx vi ok).run P w = .ok u w ∧ Den K v u := by
  unfold lookupA at hl
  split at hl
  case h_2 => exact nomatch hl
  rename_i kt et k hu
  cases hi with | dat hi => ?_
  split at hl
  case isFalse => exact nomatch hl
  rename_i hkey
  split at hl
  case h_2 => exact nomatch hl
  rename_i es hes
  have hm : ∃ ms : Array MapEntry, EntL K es ms.toList ∧ ((vx = .map none ∧ ms = #[]) ∨ ∃ b clock, vx = .map (some b) ∧ w.heap[b]? = some (.map ms clock)) := by
    split at hes
    · cases hes; cases hx; exact ⟨#[], .nil, Or.inl ⟨rfl, rfl⟩⟩
    · rename_i id
      split at hes
      · rename_i es' clock lim hid
        cases hes
        cases hx with
        | mapv _ b hb =>
          obtain ⟨b', obj, hf, hheap, _⟩ := hk.fr id _ (comb_some hid) rfl
          cases hf with
          | mp _ _ _ _ ms hb' hd hu =>
            obtain rfl : b' = b := by rw [hb] at hb'; exact (Option.some.inj hb').symm
            exact ⟨ms, hd, Or.inr ⟨b', clock, rfl, hheap⟩⟩
      · exact nomatch hes
    · exact nomatch hes
  obtain ⟨ms, hent, hrun⟩ := hm
  have hck := run_checkKey (P := P) (w := w) (empty := ms.isEmpty) (n := 9999) hkey hi
  split at hl
  · rename_i j v' hf
    obtain ⟨r', g1, u, rfl, g2, _⟩ := run_findKey (P := P) (w := w) hkey hi hent hf
    cases hl
    refine ⟨if ok then .tuple #[u, .bool true] else u, ?_, ?_⟩
    · rcases hrun with ⟨rfl, rfl⟩ | ⟨b, clock, rfl, hheap⟩
      · simp only [Instr.lookup, Sem.run_bind, run_underlying' hu, Result.andThen_ok, Sem.run_pure, hck, g1]
      · simp only [Instr.lookup, Sem.run_bind, run_underlying' hu, Result.andThen_ok, run_getObj' hheap (fun _ _ _ e => nomatch e), Sem.run_pure, hck, g1]
    · cases ok
      · exact g2
      · exact Den.of_tuple (.cons g2 (.cons (.dat (.bool _)) .nil))
  · rename_i hf
    obtain ⟨r', g1, rfl⟩ := run_findKey (P := P) (w := w) hkey hi hent hf
    simp only [Option.map_eq_some_iff] at hl
    obtain ⟨z, hz, rfl⟩ := hl
    obtain ⟨zv, h1, h2, _⟩ := run_zeroValue' (P := P) (w := w) (K := K) hz
    refine ⟨if ok then .tuple #[zv, .bool false] else zv, ?_, ?_⟩
    · rcases hrun with ⟨rfl, rfl⟩ | ⟨b, clock, rfl, hheap⟩
      · simp only [Instr.lookup, Sem.run_bind, run_underlying' hu, Result.andThen_ok, Sem.run_pure, hck, g1, h1]
      · simp only [Instr.lookup, Sem.run_bind, run_underlying' hu, Result.andThen_ok, run_getObj' hheap (fun _ _ _ e => nomatch e), Sem.run_pure, hck, g1, h1]
    · cases ok
      · exact h2
      · exact Den.of_tuple (.cons h2 (.cons (.dat (.bool _)) .nil))
  · exact nomatch hl

theorem EntL.length {es : List (D × AV × Nat)} {ms : List MapEntry} (h : EntL K es ms) : ms.length = es.length := by induction h <;> simp [*]

theorem EntL.append {es es' : List (D × AV × Nat)} {ms ms' : List MapEntry} (h : EntL K es ms) (h' : EntL K es' ms') : EntL K (es ++ es') (ms ++ ms') := by
  induction h with
  | nil => exact h'
  | cons a b _ ih => exact .cons a b ih

theorem EntL.setVal {v : AV} {val key : Value} : ∀ {es : List (D × AV × Nat)} {ms : List MapEntry} {j : Nat} {k : D} {v0 : AV} {b : Nat}, EntL K es ms → es[j]? = some (k, v0, b) → DenD K.imm k key → Den K v val → EntL K (YtobhpbnlbgbjaaaGreatDoor.setVal v es j) (ms.modify j fun e => { e with key := key, val := val })
  | _, _, _, _, _, _, .nil, he, _, _ => by simp at he
  | _, _, 0, _, _, _, .cons h1 h2 hs, he, hk, hv => by
    simp at he
    obtain ⟨rfl, rfl, rfl⟩ := he
    simp only [YtobhpbnlbgbjaaaGreatDoor.setVal, List.modify_zero_cons]
    exact .cons hk hv hs
  | _, _, j + 1, _, _, _, .cons h1 h2 hs, he, hk, hv => by
    simp only [YtobhpbnlbgbjaaaGreatDoor.setVal, List.modify_succ_cons]
    exact .cons h1 h2 (EntL.setVal hs (by simpa using he) hk hv)

theorem sameBits_key {k : D} {a b : Value} (h1 : DenD K.imm k a) (h2 : DenD K.imm k b) {kt : TypeId} (hk : keyOk P kt k = true) : Instr.sameBits 10000 a b = true := by
  unfold keyOk at hk
  split at hk
  · cases h1; cases h2; simp [Instr.sameBits]
  · cases h1; cases h2; simp [Instr.sameBits, str_beq]
  · cases h1; cases h2; simp [Instr.sameBits]
  · exact nomatch hk

theorem undersL_map_append {n : Nat} {es es' : List (D × AV × Nat)} (h : undersL n (es.map fun e => e.2.1) = true) (h' : undersL n (es'.map fun e => e.2.1) = true) : undersL n ((es ++ es').map fun e => e.2.1) = true := by
  rw [List.map_append]; exact undersL_append h h'

theorem undersL_setVal {n : Nat} {v : AV} (hv : v.under n = true) : ∀ {es : List (D × AV × Nat)} {j : Nat}, undersL n (es.map fun e => e.2.1) = true → undersL n ((setVal v es j).map fun e => e.2.1) = true
  | [], _, h => h
  | (k, v0, b) :: es, 0, h => by
    simp only [List.map_cons, undersL, Bool.and_eq_true, setVal] at h ⊢
    exact ⟨hv, h.2⟩
  | (k, v0, b) :: es, j + 1, h => by
    simp only [List.map_cons, undersL, Bool.and_eq_true, setVal] at h ⊢
    exact ⟨h.1, undersL_setVal hv h.2⟩

theorem run_mapUpdateA {t : TypeId} {x i v : AV} {vx vi vv : Value} {h' : Heap} (hk : Fit K h HF V w) (hl : mapUpdateA P t x i v h = some h') (hx : Den K x vx) (hi : Den K i vi) (hv : Den K v vv) :
    ∃ w' K', (Instr.mapUpdate t vx vi vv).run P w = .ok () w' ∧ Kext K K' ∧ Fit K' h' HF V w' ∧ h'.length = h.length := by
  unfold mapUpdateA at hl
  split at hl
  case h_2 => exact nomatch hl
  rename_i kt et id k hu
  cases hi with | dat hi => ?_
  split at hl
  case isFalse => exact nomatch hl
  rename_i hkey
  split at hl
  case h_2 => exact nomatch hl
  rename_i es clock lim hid
  cases hx with
  | mapv _ b hb =>
  obtain ⟨ow, hok⟩ := hk.ok
  obtain ⟨b', obj, hf, hheap, hown, hbase, himm⟩ := hok.fr id _ (comb_some hid) rfl
  have hown' : ∀ ow, OkW K (comb h HF) V w ow → ow b' = some (.fr id) ∧ ¬ K.base.old b' ∧ ∀ off sp, K.imm ⟨b', off, sp⟩ = none := fun ow hok => by
    obtain ⟨b2, obj2, hf2, hheap2, hown2, hbase2, himm2⟩ := hok.fr id _ (comb_some hid) rfl
    have e1 : b2 = b' := by
      cases hf with
      | mp _ _ _ _ _ hb1 _ _ => cases hf2 with | mp _ _ _ _ _ hb2 _ _ => rw [hb1] at hb2; exact (Option.some.inj hb2).symm
    subst e1
    exact ⟨hown2, hbase2, himm2⟩
  cases hf with
  | mp _ _ _ _ ms hb' hd hun =>
  obtain rfl : b' = b := by rw [hb] at hb'; exact (Option.some.inj hb').symm
  have hck := run_checkKey (P := P) (w := w) (empty := false) (n := 9999) hkey hi
  have hget := run_getObj' (P := P) hheap (fun _ _ _ e => nomatch e)
  split at hl
  · rename_i j v0 lim' hf hlim
    cases hl
    obtain ⟨r', g1, u, rfl, g2, k', bn, m, e1, e2, rfl, e3⟩ := run_findKey (P := P) (w := w) hkey hi hd hf
    have hlk := limA_ok hlim
    have hvu : v.under lim' = true := by have := hlk.2; simp only [undersL, Bool.and_true] at this; exact this
    have hmj : ms[j]? = some m := by rw [← Array.getElem?_toList]; exact e2
    have hst : (Instr.keyThatStays (((ms[j]?).map (·.key)).getD vi) vi).run P w = .ok vi w := by
      simp only [Instr.keyThatStays, hmj, Option.map_some, Option.getD_some, sameBits_key e3 hi hkey, if_true, Sem.run_pure]
    refine ⟨_, K, ?_, Kext.refl K, turn_obj (o' := .mp (setVal v es j) clock lim') (obj' := .map (ms.modify j fun e => { e with key := vi, val := vv }) clock) hk hid rfl rfl hb hheap hown' (fun _ _ _ e => nomatch e)
      (.mp _ _ _ _ _ hb (by rw [Array.toList_modify]; exact hd.setVal e1 hi hv) (undersL_setVal hvu (undersL_mono hlk.1 hun))), by simp⟩
    simp only [Instr.mapUpdate, Sem.run_bind, run_underlying' hu, Result.andThen_ok, hget, hck, g1, hst, run_setObj' _ hheap (fun _ _ _ e => nomatch e)]
  · rename_i lim' hf hlim
    cases hl
    obtain ⟨r', g1, rfl⟩ := run_findKey (P := P) (w := w) hkey hi hd hf
    have hlk := limA_ok hlim
    refine ⟨_, K, ?_, Kext.refl K, turn_obj (o' := .mp (es ++ [(k, v, clock)]) (clock + 1) lim') (obj' := .map (ms.push { key := vi, val := vv, born := clock }) (clock + 1)) hk hid rfl rfl hb hheap hown' (fun _ _ _ e => nomatch e)
      (.mp _ _ _ _ _ hb (by rw [Array.toList_push]; exact hd.append (.cons hi hv .nil)) (undersL_map_append (undersL_mono hlk.1 hun) hlk.2)), by simp⟩
    simp only [Instr.mapUpdate, Sem.run_bind, run_underlying' hu, Result.andThen_ok, hget, hck, g1, run_setObj' _ hheap (fun _ _ _ e => nomatch e)]
  · exact nomatch hl

theorem gives_rangeA {t : TypeId} {x v : AV} {vx : Value} {place : Option Nat} {h' : Heap} (hk : Fit K h HF V w) (hp : ∀ r, place = some r → V r) (hr : rangeA P place t x h = some (v, h')) (hx : Den K x vx) :
    ∃ u w' K', (Instr.range t vx).run P w = .ok u w' ∧ Kext K K' ∧ Den K' v u ∧ Fit K' h' HF (afterV place h.length h'.length V) w' ∧ h.length ≤ h'.length := by
  unfold rangeA at hr
  split at hr
  case h_2 => exact nomatch hr
  rename_i o ho
  split at hr
  case h_2 => exact nomatch hr
  rename_i id h'' ha
  cases hr
  obtain ⟨ow, hok⟩ := hk.ok
  split at ho
  · rename_i s hu
    cases ho
    cases hx with | dat hx => ?_
    cases hx
    obtain ⟨K', g1, g2, g3, g4⟩ := gives_obj (obj := .stringIter ⟨s.toArray⟩ 0) hk hp ha rfl fun K2 _ hb => .sit s 0 _ hb
    exact ⟨_, _, K', by simp [Instr.range, run_underlying' hu], g1, .ptr id 0 _ g2, g3, g4⟩
  · rename_i kt et hu
    cases ho
    cases hx
    obtain ⟨K', g1, g2, g3, g4⟩ := gives_obj (obj := .mapIter none 0 #[] 0) hk hp ha rfl fun K2 _ hb => .mit0 _ 0 0 [] hb
    exact ⟨_, _, K', by simp [Instr.range, run_underlying' hu], g1, .ptr id 0 _ g2, g3, g4⟩
  · rename_i kt et m hu
    split at ho
    · rename_i es clock lim hid
      cases ho
      cases hx with
      | mapv _ b hb =>
      obtain ⟨b', obj, hf, hheap, _⟩ := hok.fr m _ (comb_some hid) rfl
      cases hf with
      | mp _ _ _ _ ms hb' hd hun =>
      obtain rfl : b' = b := by rw [hb] at hb'; exact (Option.some.inj hb').symm
      obtain ⟨K', g1, g2, g3, g4⟩ := gives_obj (obj := .mapIter (some b') clock #[] clock) hk hp ha rfl fun K2 he hb2 => .mit m _ b' clock clock [] hb2 (he.blk _ _ hb)
      exact ⟨_, _, K', by simp [Instr.range, run_underlying' hu, run_getObj' hheap (fun _ _ _ e => nomatch e)], g1, .ptr id 0 _ g2, g3, g4⟩
    · exact nomatch ho
  · exact nomatch ho

theorem decode_ascii {s : List UInt8} {pos : Nat} {b : UInt8} (hb : s[pos]? = some b) (h : b.toNat < 128) : Utf8.decode ⟨s.toArray⟩ pos = (b.toNat, 1) := by
  have hlt : pos < s.length := lt_of_some hb
  have hg : (ByteArray.mk s.toArray).get! pos = b := by
    rw [List.getElem?_eq_getElem hlt] at hb
    have := Option.some.inj hb
    simp [ByteArray.get!, hlt, this]
  unfold Utf8.decode
  simp only [Nat.add_zero, hg]
  rw [if_pos (by simpa using h)]

theorem run_nextA {x v : AV} {vx : Value} {isS : Bool} {ty : TypeId} {h' : Heap} (hk : Fit K h HF V w) (hn : nextA x isS h = some (v, h')) (hx : Den K x vx) :
    ∃ u w', (Instr.next vx isS ty).run P w = .ok u w' ∧ Den K v u ∧ Fit K h' HF V w' ∧ h'.length = h.length := by
  obtain ⟨ow, hok⟩ := hk.ok
  unfold nextA at hn
  split at hn
  · rename_i id
    cases hx with
    | ptr _ _ b hb =>
    split at hn
    case h_2 => exact nomatch hn
    rename_i s pos hid
    obtain ⟨b', obj, hf, hheap, hown, hbase, himm⟩ := hok.fr id _ (comb_some hid) rfl
    have hown' : ∀ ow, OkW K (comb h HF) V w ow → ow b' = some (.fr id) ∧ ¬ K.base.old b' ∧ ∀ off sp, K.imm ⟨b', off, sp⟩ = none := fun ow hok => by
      obtain ⟨b2, obj2, hf2, hheap2, hown2, hbase2, himm2⟩ := hok.fr id _ (comb_some hid) rfl
      have e1 : b2 = b' := by
        cases hf with
        | sit _ _ _ hb1 => cases hf2 with | sit _ _ _ hb2 => rw [hb1] at hb2; exact (Option.some.inj hb2).symm
      subst e1
      exact ⟨hown2, hbase2, himm2⟩
    cases hf with
    | sit _ _ _ hb' =>
    obtain rfl : b' = b := by rw [hb] at hb'; exact (Option.some.inj hb').symm
    have hget := run_getObj' (P := P) hheap (fun _ _ _ e => nomatch e)
    split at hn
    · rename_i c hc
      split at hn
      · rename_i hasc
        cases hn
        have hlt : pos < s.length := lt_of_some hc
        have hsz : (ByteArray.mk s.toArray).size = s.length := by simp [ByteArray.size]
        refine ⟨_, _, ?_, Den.of_tuple (vs := #[.bool true, .int .i64 pos, .int .i32 c.toNat]) (.cons (.dat (.bool _)) (.cons (.dat (.int _ _)) (.cons (.dat (.int _ _)) .nil))), turn_obj (o' := .sit s (pos + 1)) (obj' := .stringIter ⟨s.toArray⟩ (pos + 1)) hk hid rfl rfl hb hheap hown' (fun _ _ _ e => nomatch e) (.sit _ _ _ hb), by simp⟩
        have hdec := decode_ascii hc hasc
        unfold Instr.next
        simp only [Sem.run_bind, hget, Result.andThen_ok, hsz, if_pos hlt, hdec, run_setObj' _ hheap (fun _ _ _ e => nomatch e), Sem.run_pure, goInt]
      · exact nomatch hn
    · rename_i hc
      cases hn
      have hge : ¬ pos < s.length := fun hlt => by rw [List.getElem?_eq_getElem hlt] at hc; exact nomatch hc
      have hsz : (ByteArray.mk s.toArray).size = s.length := by simp [ByteArray.size]
      refine ⟨_, w, ?_, Den.of_tuple (vs := #[.bool false]) (.cons (.dat (.bool _)) .nil), hk, rfl⟩
      unfold Instr.next
      simp only [Sem.run_bind, hget, Result.andThen_ok, hsz, if_neg hge, Sem.run_pure]
  · rename_i id
    cases hx with
    | ptr _ _ b hb =>
    split at hn
    · rename_i since seen last hid
      cases hn
      obtain ⟨b', obj, hf, hheap, hown, hbase, himm⟩ := hok.fr id _ (comb_some hid) rfl
      cases hf with
      | mit0 _ _ _ _ hb' =>
      obtain rfl : b' = b := by rw [hb] at hb'; exact (Option.some.inj hb').symm
      have hget := run_getObj' (P := P) hheap (fun _ _ _ e => nomatch e)
      refine ⟨_, w, ?_, Den.of_tuple (vs := #[.bool false]) (.cons (.dat (.bool _)) .nil), hk, rfl⟩
      unfold Instr.next
      simp only [Sem.run_bind, hget, Result.andThen_ok, Sem.run_pure]
    · rename_i m since seen last hid
      split at hn
      · rename_i clock lim hm
        cases hn
        obtain ⟨b', obj, hf, hheap, hown, hbase, himm⟩ := hok.fr id _ (comb_some hid) rfl
        cases hf with
        | mit _ _ bm _ _ _ hb' hbm =>
        obtain rfl : b' = b := by rw [hb] at hb'; exact (Option.some.inj hb').symm
        obtain ⟨b2, obj2, hf2, hheap2, _⟩ := hok.fr m _ (comb_some hm) rfl
        cases hf2 with
        | mp _ _ _ _ ms hb2 hd _ =>
        obtain rfl : b2 = bm := by rw [hbm] at hb2; exact (Option.some.inj hb2).symm
        have hms : ms = #[] := by
          have := hd.length
          apply Array.ext'
          exact List.eq_nil_of_length_eq_zero (by simpa using this)
        subst hms
        have hget := run_getObj' (P := P) hheap (fun _ _ _ e => nomatch e)
        have hget2 := run_getObj' (P := P) hheap2 (fun _ _ _ e => nomatch e)
        refine ⟨_, w, ?_, Den.of_tuple (vs := #[.bool false]) (.cons (.dat (.bool _)) .nil), hk, rfl⟩
        unfold Instr.next
        simp [Sem.run_bind, hget, Result.andThen_ok, hget2, Sem.run_pure, Question.forced]
      · exact nomatch hn
    · exact nomatch hn
  · exact nomatch hn

end
end Go.Proofs.YtobhpbnlbgbjaaaGreatDoor
