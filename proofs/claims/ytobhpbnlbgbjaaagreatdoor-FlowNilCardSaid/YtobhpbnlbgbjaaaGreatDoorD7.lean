/- Composite literals; stores; new boxes. -/
import Derived.Test.YtobhpbnlbgbjaaaGreatDoorD6
set_option linter.unusedSectionVars false
set_option linter.unusedSimpArgs false
set_option linter.unusedVariables false
set_option linter.unusedSimpArgs false
namespace Go.Proofs.YtobhpbnlbgbjaaaGreatDoor
open Go Go.RowKit
set_option linter.unusedSectionVars false
variable [mode : Inhabited ModeT]

section
variable {P : Program} {K : KW} {w : World} {hc : Nat → Option AObj} {V : Nat → Prop} {ow : Nat → Option OKey}

theorem denL_splice {cs xs : List AV} {vs us : List Value} {off : Nat} (h : DenL K cs vs) (hx : DenL K xs us) : DenL K (spliceL cs off xs) (vs.take off ++ us ++ vs.drop (off + us.length)) := by
  unfold spliceL
  rw [hx.length]
  exact ((h.take off).append hx).append (h.drop _)

theorem foldl_splice (off : Nat) : ∀ (vs : List Value) (k : Nat) (arr : Array Value), off + k + vs.length ≤ arr.size →
    ((vs.zipIdx k).foldl (fun cs (c, j) => cs.setIfInBounds (off + j) c) arr).toList = arr.toList.take (off + k) ++ vs ++ arr.toList.drop (off + k + vs.length)
  | [], k, arr, _ => by simp
  | v :: vs, k, arr, h => by
    simp only [List.length_cons] at h
    simp only [List.zipIdx_cons, List.foldl_cons]
    rw [foldl_splice off vs (k + 1) _ (by simp; omega)]
    have hlt : off + k < arr.toList.length := by simp; omega
    have e1 : (arr.setIfInBounds (off + k) v).toList = arr.toList.take (off + k) ++ v :: arr.toList.drop (off + k + 1) := by
      rw [Array.toList_setIfInBounds, List.set_eq_take_append_cons_drop, if_pos hlt]
    rw [e1]
    have hl : (arr.toList.take (off + k)).length = off + k := by rw [List.length_take]; omega
    have e2 : (arr.toList.take (off + k) ++ v :: arr.toList.drop (off + k + 1)).take (off + (k + 1)) = arr.toList.take (off + k) ++ [v] := by
      rw [List.take_append, hl, List.take_of_length_le (by omega)]
      have : off + (k + 1) - (off + k) = 1 := by omega
      rw [this]; simp
    have e3 : (arr.toList.take (off + k) ++ v :: arr.toList.drop (off + k + 1)).drop (off + (k + 1) + vs.length) = arr.toList.drop (off + k + (vs.length + 1)) := by
      rw [List.drop_append, hl, List.drop_of_length_le (by omega)]
      have : off + (k + 1) + vs.length - (off + k) = vs.length + 1 := by omega
      rw [this, List.drop_succ_cons, List.drop_drop, List.nil_append]
      congr 1; omega
    rw [e2, e3]
    simp [List.length_cons]

/-- the parts of a literal, place by place -/
inductive DenP (K : KW) : List (Nat × AV) → List (Nat × Value) → Prop where
  | nil : DenP K [] []
  | cons {i : Nat} {x : AV} {v : Value} {xs : List (Nat × AV)} {vs : List (Nat × Value)} : Den K x v → DenP K xs vs → DenP K ((i, x) :: xs) ((i, v) :: vs)

theorem den_evalParts {ts : List AV} {a : Act} (h : DenL K ts a.tmps.toList) : ∀ {xs : List (Nat × Operand)} {vs : List (Nat × AV)}, evalParts ts xs = some vs → DenP K vs (xs.map fun (i, x) => (i, a.eval x))
  | [], vs, hx => by simp [evalParts] at hx; subst hx; exact .nil
  | (i, x) :: xs, vs, hx => by
    simp only [evalParts] at hx
    split at hx
    · rename_i v hv
      simp at hx
      obtain ⟨r, hr, rfl⟩ := hx
      exact .cons (den_evalX h hv) (den_evalParts h hr)
    · exact nomatch hx

theorem fill_den {place : Nat → Option (Nat × Nat)} : ∀ {ps : List (Nat × AV)} {vps : List (Nat × Value)} {cs cs' : List AV} {arr : Array Value}, fillA place cs ps = some cs' → DenP K ps vps → DenL K cs arr.toList →
    ∃ arr', Instr.fill place arr vps = some arr' ∧ DenL K cs' arr'.toList
  | [], _, cs, cs', arr, h, .nil, hd => by simp [fillA] at h; subst h; exact ⟨arr, rfl, hd⟩
  | (i, x) :: ps, _, cs, cs', arr, h, .cons (v := v) hx hp, hd => by
    simp only [fillA] at h
    split at h
    · exact nomatch h
    · rename_i off size hpl
      split at h
      · rename_i hcond
        obtain ⟨c1, c2⟩ := hcond
        have hcl := hx.cells
        have hl1 : v.cells.size = size := by have := hcl.length; simp at this; omega
        have hl2 : arr.size = cs.length := by have := hd.length; simpa using this
        have hsp : (v.cells.zipIdx.foldl (fun cs (c, j) => cs.setIfInBounds (off + j) c) arr).toList = arr.toList.take off ++ v.cells.toList ++ arr.toList.drop (off + v.cells.toList.length) := by
          have := foldl_splice off v.cells.toList 0 arr (by simp; omega)
          rw [← Array.foldl_toList, Array.toList_zipIdx]
          exact this
        obtain ⟨arr', h1, h2⟩ := fill_den (arr := v.cells.zipIdx.foldl (fun cs (c, j) => cs.setIfInBounds (off + j) c) arr) h hp (by rw [hsp]; exact denL_splice hd hcl)
        refine ⟨arr', ?_, h2⟩
        unfold Instr.fill
        simp only [hpl]
        rw [if_neg (by simp [hl1]; omega)]
        exact h1
      · exact nomatch h

theorem run_mapM_places : ∀ {fs : List Field} {pl : List (Nat × Nat)}, fieldPlaces P fs = some pl → (fs.mapM fun f => (do pure (f.offset, ← sizeOf f.type) : Sem (Nat × Nat))).run P w = .ok pl w
  | [], pl, h => by simp [fieldPlaces] at h; subst h; rfl
  | f :: fs, pl, h => by
    simp only [fieldPlaces] at h
    split at h
    · rename_i n hn
      simp only [Option.map_eq_some_iff] at h
      obtain ⟨r, hr, rfl⟩ := h
      simp only [List.mapM_cons, Sem.run_bind, run_sizeOf' hn, Result.andThen_ok, Sem.run_pure, run_mapM_places hr]
    · exact nomatch h

theorem run_buildA {a : Act} {t : TypeId} {parts : Array (Nat × Operand)} {ps : List (Nat × AV)} {v : AV} (hp : DenP K ps (parts.toList.map fun (i, x) => (i, a.eval x))) (h : buildA P t ps = some v) :
    ∃ u, (Instr.build t (parts.map fun (i, x) => (i, a.eval x))).run P w = .ok u w ∧ Den K v u := by
  unfold buildA at h
  split at h
  · rename_i z fields hz hu
    split at h
    · rename_i pl hpl
      simp only [Option.map_eq_some_iff] at h
      obtain ⟨cs, hcs, rfl⟩ := h
      obtain ⟨zv, h1, h2, _⟩ := run_zeroValue' (P := P) (w := w) (K := K) hz
      obtain ⟨arr', h3, h4⟩ := fill_den hcs hp h2.cells
      refine ⟨.agg arr', ?_, den_mkAgg h4⟩
      have hpl' : (fields.mapM fun f => (do pure (f.offset, ← sizeOf f.type) : Sem (Nat × Nat))).run P w = .ok pl.toArray w := by
        rw [Array.mapM_eq_mapM_toList]
        rw [Sem.run_map, run_mapM_places hpl]
        rfl
      simp only [Instr.build, Sem.run_bind, h1, Result.andThen_ok, run_underlying' hu, hpl', Array.toList_map]
      have : (fun (i : Nat) => pl.toArray[i]?) = fun (i : Nat) => pl[i]? := by funext i; simp
      rw [this, h3]
      rfl
    · exact nomatch h
  · rename_i z n elem hz hu
    split at h
    · rename_i sz hs
      simp only [Option.map_eq_some_iff] at h
      obtain ⟨cs, hcs, rfl⟩ := h
      obtain ⟨zv, h1, h2, _⟩ := run_zeroValue' (P := P) (w := w) (K := K) hz
      obtain ⟨arr', h3, h4⟩ := fill_den hcs hp h2.cells
      refine ⟨.agg arr', ?_, den_mkAgg h4⟩
      simp only [Instr.build, Sem.run_bind, h1, Result.andThen_ok, run_underlying' hu, run_sizeOf' hs, Array.toList_map]
      rw [h3]
      rfl
    · exact nomatch h
  · exact nomatch h

theorem cells_toD {x : AV} {v : Value} {d : D} (h : Den K x v) (hd : x.toD = some d) : DenDL K.imm d.cells v.cells.toList := by
  have := (Den.dat (K := K) (den_toD h hd)).cells
  have e : (AV.dat d).cells = d.cells.map .dat := by cases d <;> rfl
  rw [e] at this
  exact denDL_of_map this

theorem flat_set {sz : Nat} : ∀ {es : List D} {i : Nat} {d : D}, (∀ e, e ∈ es → e.cells.length = sz) → d.cells.length = sz → i < es.length →
    (es.set i d).flatMap D.cells = (es.flatMap D.cells).take (i * sz) ++ d.cells ++ (es.flatMap D.cells).drop (i * sz + sz)
  | [], i, d, _, _, h => by simp at h
  | e :: es, 0, d, h, hd, _ => by
    have he := h e (by simp)
    simp only [List.set_cons_zero, List.flatMap_cons, Nat.zero_mul, List.take_zero, List.nil_append, Nat.zero_add]
    rw [List.drop_append, ← he, List.drop_length]
    simp
  | e :: es, i + 1, d, h, hd, hi => by
    have he := h e (by simp)
    simp only [List.set_cons_succ, List.flatMap_cons]
    rw [flat_set (fun x hx => h x (by simp [hx])) hd (by simpa using hi)]
    rw [List.take_append, List.drop_append, he]
    have e1 : (i + 1) * sz = sz + i * sz := by rw [Nat.add_mul]; omega
    have e2 : (i + 1) * sz - sz = i * sz := by omega
    have e3 : (i + 1) * sz + sz - sz = i * sz + sz := by omega
    have hA : sz ≤ (i + 1) * sz := by rw [e1]; omega
    have hB : sz ≤ (i + 1) * sz + sz := by omega
    rw [e2, e3, List.take_of_length_le (l := e.cells) (by omega), List.drop_of_length_le (l := e.cells) (by omega)]
    simp

theorem fillS_den {sz : Nat} : ∀ {ps : List (Nat × AV)} {vps : List (Nat × Value)} {es es' : List D} {arr : Array Value}, fillS sz es ps = some es' → DenP K ps vps → (∀ e, e ∈ es → e.cells.length = sz) → DenDL K.imm (es.flatMap D.cells) arr.toList →
    ∃ arr', Instr.fill (fun i => some (i * sz, sz)) arr vps = some arr' ∧ DenDL K.imm (es'.flatMap D.cells) arr'.toList ∧ (∀ e, e ∈ es' → e.cells.length = sz) ∧ es'.length = es.length
  | [], _, es, es', arr, h, .nil, hs, hd => by simp [fillS] at h; subst h; exact ⟨arr, rfl, hd, hs, rfl⟩
  | (i, x) :: ps, _, es, es', arr, h, .cons (v := v) hx hp, hs, hd => by
    simp only [fillS] at h
    split at h
    · rename_i d hdx
      split at h
      · rename_i hcond
        obtain ⟨c1, c2⟩ := hcond
        have hcl := cells_toD hx hdx
        have hl1 : v.cells.size = sz := by have := hcl.length; simp at this; omega
        have hl2 : arr.size = es.length * sz := by have := hd.length; rw [flat_length hs] at this; simpa using this
        have hle : i * sz + sz ≤ es.length * sz := by
          have : (i + 1) * sz ≤ es.length * sz := Nat.mul_le_mul_right sz c2
          rw [Nat.succ_mul] at this; exact this
        have hsp : (v.cells.zipIdx.foldl (fun cs (c, j) => cs.setIfInBounds (i * sz + j) c) arr).toList = arr.toList.take (i * sz) ++ v.cells.toList ++ arr.toList.drop (i * sz + v.cells.toList.length) := by
          have := foldl_splice (i * sz) v.cells.toList 0 arr (by simp; omega)
          rw [← Array.foldl_toList, Array.toList_zipIdx]
          exact this
        obtain ⟨arr', h1, h2, h3, h4⟩ := fillS_den (arr := v.cells.zipIdx.foldl (fun cs (c, j) => cs.setIfInBounds (i * sz + j) c) arr) h hp (fun e he => by
            rcases List.mem_or_eq_of_mem_set he with h' | h'
            · exact hs e h'
            · rw [h']; exact c1) (by
            rw [hsp, flat_set hs c1 c2]
            have : v.cells.toList.length = sz := by simpa using hl1
            rw [this]
            exact ((hd.take _).append hcl).append (hd.drop _))
        refine ⟨arr', ?_, h2, h3, by rw [h4]; simp⟩
        unfold Instr.fill
        simp only []
        rw [if_neg (by simp [hl1]; omega)]
        exact h1
      · exact nomatch h
    · exact nomatch h

theorem flat_replicate {d : D} {n : Nat} (hd : d.cells.length = n) (hn : 0 < n) : ∀ (len j : Nat), j < len * n → ((List.replicate len d).flatMap D.cells)[j]? = d.cells[j % n]?
  | 0, j, h => by simp at h
  | len + 1, j, h => by
    rw [List.replicate_succ, List.flatMap_cons, List.getElem?_append]
    split
    · rename_i hj; rw [hd] at hj; rw [Nat.mod_eq_of_lt hj]
    · rename_i hj
      rw [hd] at hj ⊢
      rw [Nat.succ_mul] at h
      rw [flat_replicate hd hn len (j - n) (by omega), ← Nat.mod_eq_sub_mod (a := j) (b := n) (by omega)]

theorem zeros_den {d : D} {zv : Value} {n len : Nat} (hz : DenDL K.imm d.cells zv.cells.toList) (hd : d.cells.length = n) (hn : 0 < n) :
    DenDL K.imm ((List.replicate len d).flatMap D.cells) ((Array.range (len * n)).map fun i => zv.cells[i % zv.cells.size]!).toList := by
  have hsz : zv.cells.size = n := by have := hz.length; simpa [hd] using this
  have hfl : ((List.replicate len d).flatMap D.cells).length = len * n := by
    rw [flat_length (sz := n) (fun e he => by rw [(List.mem_replicate.1 he).2]; exact hd)]; simp
  refine DenDL.of_index (by simp [hfl]) fun j x v hx hv => ?_
  have hj : j < len * n := by
    rcases Nat.lt_or_ge j (len * n) with h | h
    · exact h
    · rw [List.getElem?_eq_none (by rw [hfl]; exact h)] at hx; exact nomatch hx
  rw [flat_replicate hd hn len j hj] at hx
  have hm : j % n < n := Nat.mod_lt _ hn
  have hv' : zv.cells.toList[j % n]? = some v := by
    rw [Array.getElem?_toList] at hv ⊢
    rw [Array.getElem?_map, Array.getElem?_range, if_pos hj] at hv
    simp only [Option.map_some, Option.some.injEq, hsz] at hv
    have : j % n < zv.cells.size := by omega
    rw [Array.getElem?_eq_getElem this]
    rw [getElem!_pos zv.cells (j % n) this] at hv
    rw [hv]
  exact hz.index _ _ _ hx hv'

theorem gives_buildSliceA {a : Act} {t : TypeId} {len : Nat} {parts : Array (Nat × Operand)} {ps : List (Nat × AV)} {v : AV} (hok : Ok K hc V w) (hp : DenP K ps (parts.toList.map fun (i, x) => (i, a.eval x))) (h : buildSliceA P t len ps = some v) :
    Gives P K w (Instr.buildSlice t len (parts.map fun (i, x) => (i, a.eval x))) v hc V := by
  unfold buildSliceA at h
  split at h
  · rename_i elem hu
    split at h
    · rename_i n z hn hz
      split at h
      · rename_i zd hzd
        split at h
        · rename_i hcond
          obtain ⟨c1, c2, c3⟩ := hcond
          simp only [Option.map_eq_some_iff] at h
          obtain ⟨es, hes, rfl⟩ := h
          obtain ⟨ow, hk⟩ := hok
          obtain ⟨zv, h1, h2, _⟩ := run_zeroValue' (P := P) (w := w) (K := K) hz
          have hzc := cells_toD h2 hzd
          have hsz : zv.cells.size = n := by have := hzc.length; simpa [c2] using this
          have key : ∀ zc : Array Value, DenDL K.imm ((List.replicate len zd).flatMap D.cells) ((Array.range (len * n)).map fun i => zc[i % zc.size]!).toList →
              Gives P K w (do
                let some cells := Instr.fill (fun i => some (i * n, n)) ((Array.range (len * n)).map (zc[· % zc.size]!)) (parts.map fun (i, x) => (i, a.eval x)).toList
                  | stuck "buildSlice: a part of the wrong size"
                pure (.slice (some (← newRow elem cells)) len len)) (.own .full es) hc V := by
            intro zc hzc'
            obtain ⟨arr', h3, h4, h5, h6⟩ := fillS_den hes hp (fun e he => by rw [(List.mem_replicate.1 he).2]; exact c2) hzc'
            obtain ⟨hk2, hext⟩ := hk.row arr' elem
            refine ⟨.slice (some ⟨w.heap.size, 0, none⟩) len len, _, _, ?_, hext, ?_, ow, hk2⟩
            · rw [Array.toList_map, h3]
              simp only [Sem.run_bind, newRow, run_newObj_alloc, Result.andThen_ok, Sem.run_pure]
            · have hl : es.length = len := by rw [h6]; simp
              have := Den.full (K := withImm K w.heap.size arr'.size arr') es ⟨w.heap.size, 0, none⟩ w.heap.size 0 n (fun _ => rfl) (cells_withImm (K := K) h5 h4 (by simp) (fun j v hj => by rw [← Array.getElem?_toList]; exact hj) hext)
              rwa [hl] at this
          have hlim : ¬ len * n > 2 ^ 24 := by omega
          by_cases h0 : len * n = 0
          · have := key #[] (by rw [h0]; have : len = 0 := by rcases Nat.mul_eq_zero.1 h0 with h | h <;> omega
                                subst this; simpa using DenDL.nil)
            obtain ⟨u, w', K', g1, g2⟩ := this
            refine ⟨u, w', K', ?_, g2⟩
            rw [← g1]
            simp only [Instr.buildSlice, Sem.run_bind, run_underlying' hu, Result.andThen_ok, run_sizeOf' hn, if_neg hlim, if_pos h0, Sem.run_pure]
            try rfl
          · have := key zv.cells (zeros_den hzc c2 (by omega))
            obtain ⟨u, w', K', g1, g2⟩ := this
            refine ⟨u, w', K', ?_, g2⟩
            rw [← g1]
            simp only [Instr.buildSlice, Sem.run_bind, run_underlying' hu, Result.andThen_ok, run_sizeOf' hn, if_neg hlim, if_neg h0, Sem.run_pure, h1]
            try rfl
        · exact nomatch h
      · exact nomatch h
    · exact nomatch h
  · exact nomatch h

end
end Go.Proofs.YtobhpbnlbgbjaaaGreatDoor
