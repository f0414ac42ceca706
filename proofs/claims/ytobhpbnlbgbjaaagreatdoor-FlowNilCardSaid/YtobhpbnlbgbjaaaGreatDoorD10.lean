/- append. -/
import Derived.Test.YtobhpbnlbgbjaaaGreatDoorD9
import Derived.Laws.Append
set_option linter.unusedSectionVars false
set_option linter.unusedSimpArgs false
set_option linter.unusedVariables false
set_option linter.unusedSimpArgs false
namespace Go.Proofs.YtobhpbnlbgbjaaaGreatDoor
open Go Go.RowKit
set_option linter.unusedSectionVars false
variable [mode : Inhabited ModeT]

section
variable {P : Program} {K : KW} {w : World} {HF : Nat → Option AObj} {V : Nat → Prop} {ow : Nat → Option OKey}

theorem oneCell_D {imm : Imm} {d : D} {v : Value} (h : DenD imm d v) (hf : d.flat = true) : v.oneCell' = true := by
  cases h <;> first | rfl | simp [D.flat] at hf

theorem oneCells_D {imm : Imm} : ∀ {ds : List D} {vs : List Value}, DenDL imm ds vs → ds.all D.flat = true → ∀ u, u ∈ vs → u.oneCell' = true
  | [], _, .nil, _, u, hu => by simp at hu
  | d :: ds, _, .cons h hs, hc, u, hu => by
    simp only [List.all_cons, Bool.and_eq_true] at hc
    rcases List.mem_cons.1 hu with rfl | hm
    · exact oneCell_D h hc.1
    · exact oneCells_D hs hc.2 u hm

theorem fits_sz {sz : Nat} {xs : List D} (h : xs.all (fitsD sz) = true) : ∀ e, e ∈ xs → e.cells.length = sz := fun e he => by
  have := List.all_eq_true.1 h e he
  simp only [fitsD, Bool.and_eq_true, beq_iff_eq] at this
  exact this.1

theorem fits_flat {sz : Nat} {xs : List D} (h : xs.all (fitsD sz) = true) : (xs.flatMap D.cells).all D.flat = true := by
  rw [List.all_flatMap, List.all_eq_true]
  intro e he
  have := List.all_eq_true.1 h e he
  simp only [fitsD, Bool.and_eq_true] at this
  exact this.2

/-- what is appended -/
structure More (P : Program) (K : KW) (sz : Nat) (vx : Value) (xs : List D) (news : List Value) : Prop where
  szs : ∀ e, e ∈ xs → e.cells.length = sz
  den : DenDL K.imm (xs.flatMap D.cells) news
  one : ∀ u, u ∈ news → u.oneCell' = true
  len : ∀ w : World, (Builtin.lenOf vx).run P w = .ok xs.length w
  cells : ∀ w : World, (∀ a c, K.imm a = some c → w.cell? a = some c) → (Builtin.firstCells sz xs.length vx).run P w = .ok news.toArray w

theorem more_slice {sz : Nat} {es : List D} {x : AV} {vx : Value} (hx : Den K x vx) (he : elems x = some es) (hf : es.all (fitsD sz) = true) : ∃ news, More P K sz vx es news := by
  obtain ⟨a, cap, rfl, hcap, b, o, sz', ha, hsz, vs, hd, hv⟩ := den_elems hx he
  have hl : vs.length = es.length * sz := by rw [hd.length, flat_length (fits_sz hf)]
  refine ⟨vs, fits_sz hf, hd, oneCells_D hd (fits_flat hf), fun w => rfl, fun w hw => ?_⟩
  by_cases hne : es = []
  · subst hne
    have : vs = [] := List.eq_nil_of_length_eq_zero (by simpa using hl)
    subst this
    cases a <;> simp [Builtin.firstCells, loadCells, loadCellsFrom]
  · rw [ha hne]
    simp only [Builtin.firstCells]
    have := run_loadCells_row (P := P) (w := w) (b := b) (o := o) (n := es.length * sz) (vs := vs) (by omega) fun j v hj => hw _ _ (hv j v hj)
    rw [this, List.take_of_length_le (by omega)]

theorem more_den {sz : Nat} {x : AV} {vx : Value} {xs : List D} (hm : moreA sz x = some xs) (hx : Den K x vx) : ∃ news, More P K sz vx xs news := by
  unfold moreA at hm
  split at hm
  · cases hm; exact more_slice hx (by simp [elems]) (by simp)
  · split at hm
    · rename_i hf; cases hm; exact more_slice hx (by simp [elems]) hf
    · exact nomatch hm
  · split at hm
    · rename_i hf; cases hm; exact more_slice hx (by simp [elems]) hf
    · exact nomatch hm
  · rename_i s
    split at hm
    · rename_i h1
      cases hm
      subst h1
      cases hx with | dat hx => ?_
      cases hx
      have hz : (ByteArray.mk s.toArray).size = s.length := by simp [ByteArray.size]
      refine ⟨s.map fun b => Value.int .u8 b.toNat, ?_, denDL_ints s, ?_, fun w => ?_, fun w hw => ?_⟩
      · intro e he
        simp at he
        obtain ⟨b, _, rfl⟩ := he
        rfl
      · intro u hu
        simp at hu
        obtain ⟨b, _, rfl⟩ := hu
        rfl
      · simp [Builtin.lenOf, hz]
      · have : (ByteArray.mk s.toArray).extract 0 s.length = ByteArray.mk s.toArray := by
          apply ByteArray.ext
          rw [ByteArray.data_extract]
          apply Array.ext'
          rw [Array.toList_extract, List.extract_eq_take_drop]
          simp
        simp only [Builtin.firstCells, List.length_map, this]
        simp
    · exact nomatch hm
  · exact nomatch hm

structure AppTypes (P : Program) (ts : Array TypeId) (elem : TypeId) (info : TypeInfo) : Prop where
  s : ∃ t, ts[0]? = some t ∧ P.underlying t = some (.slice elem)
  x : ∃ t d, ts[1]? = some t ∧ P.underlying t = some d ∧ ∀ k, d ≠ .int k
  info : P.info? elem = some info

theorem run_append_in {ts : Array TypeId} {ty elem : TypeId} {info : TypeInfo} (ht : AppTypes P ts elem info) {vx : Value} {xs : List D} {news : List Value} (hm : More P K info.size vx xs news) (hw : ∀ a c, K.imm a = some c → w.cell? a = some c) {b len cap : Nat} (hn : len + xs.length ≤ cap) :
    (Builtin.append_ ts ty #[.slice (some ⟨b, 0, none⟩) len cap, vx]).run P w = ((storeCells ⟨b, len * info.size, none⟩ news).run P w).andThen fun _ w' => .ok (.slice (some ⟨b, 0, none⟩) (len + xs.length) cap) w' := by
  obtain ⟨⟨t1, h1, h2⟩, ⟨t2, d, h3, h4, h5⟩, h6⟩ := ht
  have hd : (match d with | .int _ => true | _ => false) = false := by cases d <;> first | rfl | exact absurd rfl (h5 _)
  have hsz : (sizeOf elem).run P w = .ok info.size w := run_sizeOf' (by simp [sizeA, h6])
  unfold Builtin.append_
  simp only [h1, h3, List.getElem?_toArray, List.getElem?_cons_zero, List.getElem?_cons_succ, Sem.run_bind, run_underlying' h2, Result.andThen_ok, hsz, run_underlying' h4, Sem.run_pure]
  simp only [Bool.false_eq_true, if_false, Sem.run_bind, hm.len w, Result.andThen_ok, Bool.not_false, if_true, if_pos hn, hm.cells w hw, addr_add, Nat.zero_add]
  rfl

theorem run_askRoom (n : Nat) : (askRoom n).run P w = .ok () w := by
  unfold askRoom
  split
  · simp [mark, Sem.run]
  · rfl

theorem run_append_grow {ts : Array TypeId} {ty elem : TypeId} {info : TypeInfo} (ht : AppTypes P ts elem info) {vx : Value} {xs : List D} {news old : List Value} (hm : More P K info.size vx xs news) (hw : ∀ a c, K.imm a = some c → w.cell? a = some c)
    {base : Option Addr} {len cap : Nat} (hn : ¬ len + xs.length ≤ cap) (hroom : roomOk (len + xs.length) info.bytes = true) (hold : ∀ w : World, (∀ a c, K.imm a = some c → w.cell? a = some c) → (Builtin.firstCells info.size len (.slice base len cap)).run P w = .ok old.toArray w)
    {zv : Value} (hz : info.zero = some zv) (hzs : zv.cells.size = info.size) :
    ∃ cap' rest, (Builtin.append_ ts ty #[.slice base len cap, vx]).run P w = .ok (.slice (some ⟨w.heap.size, 0, none⟩) (len + xs.length) cap') (w.drew.alloc (.cells (old ++ news ++ rest).toArray elem)) ∧ len + xs.length ≤ cap' ∧ rest.length = (cap' - (len + xs.length)) * info.size := by
  obtain ⟨⟨t1, h1, h2⟩, ⟨t2, d, h3, h4, h5⟩, h6⟩ := ht
  have hd : (match d with | .int _ => true | _ => false) = false := by cases d <;> first | rfl | exact absurd rfl (h5 _)
  have hsz : (sizeOf elem).run P w = .ok info.size w := run_sizeOf' (by simp [sizeA, h6])
  have hti : ∀ w : World, (typeInfo elem).run P w = .ok info w := fun w => by simp [typeInfo, program, Sem.run, h6]
  simp only [roomOk, decide_eq_true_eq] at hroom
  obtain ⟨r1, r2⟩ := hroom
  have hnext := nextslicecap_le (need := len + xs.length) (old := cap) (by omega)
  have hbytes : ¬ Builtin.nextslicecap (len + xs.length) cap * info.bytes > 2 ^ 48 := by
    have := Nat.mul_le_mul_right info.bytes hnext
    omega
  obtain ⟨cap', w', hc1, rfl, hc2⟩ := choose_cap (P := P) (w := w) (need := len + xs.length) (old := cap) (elem := elem)
  have hw' : ∀ a c, K.imm a = some c → w.drew.cell? a = some c := fun a c h => hw a c h
  refine ⟨cap', (Builtin.zeroCells zv.cells (cap' - (len + xs.length))).toList, ?_, hc2, by simp [Builtin.zeroCells, hzs]⟩
  unfold Builtin.append_
  simp only [h1, h3, List.getElem?_toArray, List.getElem?_cons_zero, List.getElem?_cons_succ, Sem.run_bind, run_underlying' h2, Result.andThen_ok, hsz, run_underlying' h4, Sem.run_pure]
  simp only [Bool.false_eq_true, if_false, Sem.run_bind, hm.len w, Result.andThen_ok, Bool.not_false, if_true, if_neg hn, hti w, false_or]
  have hmax : ¬ (((len + xs.length : Nat) : Int) > IntKind.i64.max ∧ info.bytes = 0) := by
    rintro ⟨h, _⟩
    simp at h
    omega
  rw [if_neg hmax]
  simp only [Sem.run_bind, hti w, Result.andThen_ok]
  rw [if_neg hbytes]
  have hti' := hti w.drew
  have hzr : (zeroValue elem).run P w.drew = .ok zv w.drew := by simp [zeroValue, typeInfo, program, Sem.run, h6, hz]
  simp only [Sem.run_bind, hc1, Result.andThen_ok, hti', run_askRoom, hold w.drew hw', hm.cells w.drew hw', hzr, newRow, run_newObj_alloc, Sem.run_pure, if_true]
  simp
  congr 2
  apply Array.ext'
  simp

/-- a new growing row -/
theorem OkW.newTip {hc : Nat → Option AObj} (hk : OkW K hc V w ow) {id n sz cap : Nat} {e : TypeId} {arr : Array Value} (hv : V id) (hsz : cap * sz ≤ arr.size) :
    ∃ K' ow', K' = withTip (withImm K w.heap.size (n * sz) arr) id n ⟨w.heap.size, cap, sz, e⟩ ∧ Kext K (withImm K w.heap.size (n * sz) arr) ∧ Kext K K' ∧ OkW K' (upd hc id (some (.tip e n sz))) (fun i => V i ∧ i ≠ id) (w.alloc (.cells arr e)) ow' := by
  obtain ⟨f1, f2, f3, f4⟩ := hk.fresh id hv
  have hnone := hk.not_own_new
  obtain ⟨hk1, hext1⟩ := (hk.push (.cells arr e)).told (m := n * sz) (heap_pushW_new w _) hnone hk.base_le
  have hext2 : Kext (withImm K w.heap.size (n * sz) arr) (withTip (withImm K w.heap.size (n * sz) arr) id n ⟨w.heap.size, cap, sz, e⟩) := kext_withTip (f3 n)
  let K' := withTip (withImm K w.heap.size (n * sz) arr) id n ⟨w.heap.size, cap, sz, e⟩
  let ow' : Nat → Option OKey := fun b => if b = w.heap.size then some (.tip id) else ow b
  have hkeep : ∀ b k, ow b = some k → ow' b = some k := fun b k h1 => by
    have : b ≠ w.heap.size := by have := hk.own b k h1; omega
    simp [ow', this, h1]
  refine ⟨K', ow', rfl, hext1, hext1.trans hext2, ⟨hk1.imm, hk1.below, fun id' e' cs ver hid => ?_, fun id' e' n' sz' hid => ?_, fun id' e' n' sz' hid => ?_, fun i hi => ?_, fun id' e' cs ver hid => ?_, fun b k hb => ?_, fun id' o hid ho => ?_, fun i hi v => hk.freshr i hi.1 v⟩⟩
  · by_cases hi : id' = id
    · subst hi; rw [upd_same] at hid; cases hid
    · rw [upd_ne hi] at hid
      obtain ⟨b, vs, hb⟩ := hk1.box id' e' cs ver hid
      exact ⟨b, vs, hb.blk, hkeep _ _ hb.own, hb.base, hb.heap, hb.imm, hb.den.mono hext2, fun i c hc' => (hb.cell i c hc').mono hext2 (Nat.le_refl _) fun r n v hf ho => ⟨⟨hf.blk, hf.imm, hf.base⟩, hkeep _ _ ho⟩, hb.under⟩
  · by_cases hi : id' = id
    · subst hi; rw [upd_same] at hid; cases hid
      refine ⟨⟨w.heap.size, cap, sz, e⟩, withTip_key, rfl, rfl, ⟨⟨arr, 0, 0, heap_pushW_new _ _, hsz, Nat.zero_le _⟩, fun off sp ho => ?_, hk.base_le⟩, by simp [ow']⟩
      show (withImm K w.heap.size (n * sz) arr).imm ⟨w.heap.size, off, sp⟩ = none
      rw [withImm_above ho]
      cases hm : K.imm ⟨w.heap.size, off, sp⟩ with
      | none => rfl
      | some v =>
        obtain ⟨vs, e', f, g1, _⟩ := cell_block (hk.imm _ _ hm)
        have := lt_of_heap g1
        simp at this
    · rw [upd_ne hi] at hid
      obtain ⟨r, h1, h2, h3, h4, h5⟩ := hk1.tip id' e' n' sz' hid
      exact ⟨r, hext2.key _ _ h1, h2, h3, ⟨h4.blk, h4.imm, h4.base⟩, hkeep _ _ h5⟩
  · by_cases hi : id' = id
    · subst hi; rw [upd_same] at hid; cases hid
      intro n'' hn''
      have hne : ¬ n'' = n := by omega
      have : K.key (.tip id' n'') = none := f3 n''
      simp [K', withTip, withKey, withImm, hne, this]
    · rw [upd_ne hi] at hid
      intro n'' hn''
      have := hk1.more id' e' n' sz' hid n'' hn''
      simp [K', withTip, withKey, hi, this]
  · obtain ⟨g1, g2, g3, g4⟩ := hk.fresh i hi.1
    exact ⟨by rw [upd_ne hi.2]; exact g1, g2, fun n' => by simp [K', withTip, withKey, withImm, hi.2, g3 n'], fun off v => by simp [K', withTip, withKey, withImm, g4 off v]⟩
  · by_cases hi : id' = id
    · subst hi; rw [upd_same] at hid; cases hid
    · rw [upd_ne hi] at hid
      intro off v hv'
      have := hk.ver id' e' cs ver hid off v hv'
      simp [K', withTip, withKey, withImm, this]
  · simp only [ow'] at hb
    rw [size_pushW]
    split at hb
    · omega
    · have := hk.own b k hb; omega
  · by_cases hi : id' = id
    · subst hi; rw [upd_same] at hid; cases hid; cases ho
    · rw [upd_ne hi] at hid
      exact (hk1.fr id' o hid ho).mono hext2 (fun _ => rfl) fun b hb => ⟨rfl, hkeep _ _ hb, fun _ _ h => h⟩

end
end Go.Proofs.YtobhpbnlbgbjaaaGreatDoor
