/- Slices of slices, min and max, composite literals. -/
import Derived.Test.YtobhpbnlbgbjaaaGreatDoorD5
set_option linter.unusedSectionVars false
set_option linter.unusedSimpArgs false
set_option linter.unusedVariables false
set_option linter.unusedSimpArgs false
namespace Go.Proofs.YtobhpbnlbgbjaaaGreatDoor
open Go Go.RowKit
set_option linter.unusedSectionVars false
variable [mode : Inhabited ModeT]

section
variable {P : Program} {K : KW} {w : World} {hc : Nat → Option AObj} {V : Nat → Prop} {ow : Nat → Option OKey}

theorem run_bound {ts : List AV} {a : Act} (hts : DenL K ts a.tmps.toList) {x : Operand} {dflt top n y : Nat} {code : BoundsCode} (h : boundA ts (some x) dflt top = some n) (hy : top ≤ y) :
    (Instr.sliceBound (a.eval x) y code).run P w = .ok n w ∧ n ≤ top := by
  simp only [boundA] at h
  split at h
  · rename_i k i he
    split at h
    · rename_i hi
      cases h
      have hd := den_evalX hts he
      generalize a.eval x = v at hd ⊢
      cases hd with | dat hd => ?_
      cases hd
      refine ⟨?_, by omega⟩
      have : 0 ≤ i ∧ i ≤ (y : Int) := by omega
      simp [Instr.sliceBound, asIntOf, this]
    · exact nomatch h
  · exact nomatch h

theorem run_bounds2 {ts : List AV} {a : Act} (hts : DenL K ts a.tmps.toList) {lo hi : Option Operand} {len cap h l : Nat} {sl : Bool} (hcap : len ≤ cap) (h1 : boundA ts hi len len = some h) (h2 : boundA ts lo 0 h = some l) :
    (Instr.sliceBounds sl len cap (lo.map a.eval) (hi.map a.eval) none).run P w = .ok (l, h, cap) w ∧ l ≤ h ∧ h ≤ len := by
  have e1 : ∃ r, (match hi.map a.eval with | some v => Instr.sliceBound v cap (if sl then .sliceAcap else .sliceAlen) | none => pure len : Sem Nat).run P w = .ok r w ∧ r = h ∧ h ≤ len := by
    cases hi with
    | none => simp [boundA] at h1; subst h1; exact ⟨_, rfl, rfl, Nat.le_refl _⟩
    | some x => obtain ⟨g1, g2⟩ := run_bound (P := P) (w := w) hts (y := cap) (code := if sl then .sliceAcap else .sliceAlen) h1 hcap; exact ⟨_, g1, rfl, g2⟩
  have e2 : ∃ r, (match lo.map a.eval with | some v => Instr.sliceBound v h .sliceB | none => pure 0 : Sem Nat).run P w = .ok r w ∧ r = l ∧ l ≤ h := by
    cases lo with
    | none => simp [boundA] at h2; subst h2; exact ⟨_, rfl, rfl, Nat.zero_le _⟩
    | some x => obtain ⟨g1, g2⟩ := run_bound (P := P) (w := w) hts (y := h) (code := .sliceB) h2 (Nat.le_refl _); exact ⟨_, g1, rfl, g2⟩
  obtain ⟨r1, e1, rfl, g1⟩ := e1
  obtain ⟨r2, e2, rfl, g2⟩ := e2
  refine ⟨?_, g2, g1⟩
  unfold Instr.sliceBounds
  cases hi with
  | none =>
    simp [boundA] at h1
    subst h1
    simp only [Option.map_none, Sem.run_bind, Sem.run_pure, Result.andThen_ok, Option.isSome_none, Bool.false_eq_true, if_false]
    cases lo with
    | none => simp only [Option.map_none, Sem.run_pure, Result.ok.injEq, and_true] at e2; subst e2; rfl
    | some y => simp only [Option.map_some] at e2 ⊢; simp only [Sem.run_bind, e2, Result.andThen_ok, Sem.run_pure]
  | some x =>
    simp only [Option.map_some] at e1 ⊢
    simp only [Sem.run_bind, Sem.run_pure, Result.andThen_ok, Option.isSome_none, Bool.false_eq_true, if_false, e1]
    cases lo with
    | none => simp only [Option.map_none, Sem.run_pure, Result.ok.injEq, and_true] at e2; subst e2; rfl
    | some y => simp only [Option.map_some] at e2 ⊢; simp only [Sem.run_bind, e2, Result.andThen_ok, Sem.run_pure]

theorem run_bounds3 {ts : List AV} {a : Act} (hts : DenL K ts a.tmps.toList) {lo : Option Operand} {hi mx : Operand} {len cap h l m : Nat} (hcap : len ≤ cap) (h0 : boundA ts (some mx) 0 len = some m) (h1 : boundA ts (some hi) 0 m = some h)
    (h2 : boundA ts lo 0 h = some l) : (Instr.sliceBounds true len cap (lo.map a.eval) (some (a.eval hi)) (some (a.eval mx))).run P w = .ok (l, h, m) w ∧ l ≤ h ∧ h ≤ m ∧ m ≤ len := by
  obtain ⟨e0, g0⟩ := run_bound (P := P) (w := w) hts (y := cap) (code := .slice3Acap) h0 hcap
  obtain ⟨e1, g1⟩ := run_bound (P := P) (w := w) hts (y := m) (code := .slice3B) h1 (Nat.le_refl _)
  have e2 : ∃ r, (match lo.map a.eval with | some v => Instr.sliceBound v h .slice3C | none => pure 0 : Sem Nat).run P w = .ok r w ∧ r = l ∧ l ≤ h := by
    cases lo with
    | none => simp [boundA] at h2; subst h2; exact ⟨_, rfl, rfl, Nat.zero_le _⟩
    | some x => obtain ⟨g1, g2⟩ := run_bound (P := P) (w := w) hts (y := h) (code := .slice3C) h2 (Nat.le_refl _); exact ⟨_, g1, rfl, g2⟩
  obtain ⟨r2, e2, rfl, g2⟩ := e2
  refine ⟨?_, g2, g1, g0⟩
  unfold Instr.sliceBounds
  simp only [Sem.run_bind, if_true, e0, Result.andThen_ok, e1, Option.isSome_some]
  cases lo with
  | none => simp only [Option.map_none, Sem.run_pure, Result.ok.injEq, and_true] at e2; subst e2; rfl
  | some y => simp only [Option.map_some] at e2 ⊢; simp only [Sem.run_bind, e2, Result.andThen_ok, Sem.run_pure]

/-- where a piece of a slice's elements lies -/
theorem piece {imm : Imm} {b o sz n l h m : Nat} {a : Option Addr} {es : List D} (hcells : Cells imm b o sz es) (ha : es ≠ [] → a = some ⟨b, o, none⟩) (hs : sized n es = true) (hl : l ≤ h) (hh : h ≤ es.length) (hm : h ≤ m) :
    ((es.drop l).take (h - l)).length = h - l ∧ Cells imm b (o + l * sz) sz ((es.drop l).take (h - l)) ∧ (((es.drop l).take (h - l)) ≠ [] → (if m = l then a else a.map (·.add (l * n))) = some ⟨b, o + l * sz, none⟩) := by
  refine ⟨by simp; omega, (hcells.drop l (by omega)).take (h - l) (by simp; omega), fun hne => ?_⟩
  have hlt : l < h := by
    rcases Nat.lt_or_ge l h with h' | h'
    · exact h'
    · exfalso; apply hne; have : h - l = 0 := by omega
      simp [this]
  have hes : es ≠ [] := by rintro rfl; simp at hh; omega
  have hn : n = sz := by
    cases es with
    | nil => exact absurd rfl hes
    | cons e es => simp [sized] at hs; rw [← hs]; exact hcells.1 e (by simp)
  rw [if_neg (by omega), ha hes, Option.map_some, addr_add, hn]

theorem run_slice_slice {t elem : TypeId} {n : Nat} {a : Option Addr} {len cap l h m : Nat} {lo hi mx : Option Value} (hu : P.underlying t = some (.slice elem)) (hn : sizeA P elem = some n)
    (hb : (Instr.sliceBounds true len cap lo hi mx).run P w = .ok (l, h, m) w) : (Instr.sliceAt t (.slice a len cap) lo hi mx).run P w = .ok (.slice (if m = l then a else a.map (·.add (l * n))) (h - l) (m - l)) w := by
  simp only [Instr.sliceAt, Sem.run_bind, run_underlying' hu, Result.andThen_ok, Instr.slice, hb, run_sizeOf' hn]
  rfl

theorem den_nils {v : Value} (h : Den K (.dat .nils) v) : v = .slice none 0 0 := by
  cases h with | dat h => ?_
  cases h
  rfl

theorem den_none {x : AV} {v : Value} (h : Den K x v) {es : List D} (he : elems x = some es) {n c : Nat} (hv : v = .slice none n c) : x = .dat .nils := by
  cases h with
  | dat h => cases h <;> simp_all
  | any _ _ => simp [elems] at he
  | _ => simp_all

theorem run_sliceA {ts : List AV} {a : Act} (hts : DenL K ts a.tmps.toList) {t : TypeId} {x v : AV} {vx : Value} {lo hi mx : Option Operand} (h : sliceA P t x lo hi mx ts = some v) (hx : Den K x vx) :
    ∃ u, (Instr.sliceAt t vx (lo.map a.eval) (hi.map a.eval) (mx.map a.eval)).run P w = .ok u w ∧ Den K v u := by
  unfold sliceA at h
  split at h
  · rename_i s hu
    split at h
    · exact nomatch h
    · rename_i hmx
      have : mx = none := by cases mx <;> simp at hmx ⊢
      subst this
      split at h
      · rename_i hh h1
        split at h
        · rename_i l h2
          cases h
          cases hx with | dat hx => ?_
          cases hx
          obtain ⟨e1, e2, e3⟩ := run_bounds2 (P := P) (w := w) hts (sl := false) (Nat.le_refl _) h1 h2
          have hz : (ByteArray.mk s.toArray).size = s.length := by simp [ByteArray.size]
          refine ⟨.string ⟨((s.drop l).take (hh - l)).toArray⟩, ?_, .dat (.str _)⟩
          have hex : (ByteArray.mk s.toArray).extract l hh = ⟨((s.drop l).take (hh - l)).toArray⟩ := by
            apply ByteArray.ext
            rw [ByteArray.data_extract]
            apply Array.ext'
            rw [Array.toList_extract, List.extract_eq_take_drop]
          simp only [Instr.sliceAt, Sem.run_bind, run_underlying' hu, Result.andThen_ok, Instr.slice, Option.map_none, Option.isSome_none, Bool.false_eq_true, if_false, hz, e1, Sem.run_pure, hex]
        · exact nomatch h
      · exact nomatch h
  · rename_i elem id ver off len n hu
    split at h
    · exact nomatch h
    rename_i hn
    have hn : sizeA P elem = some n := by simpa using hn
    cases hx with
    | row _ _ _ _ _ r hr hz hle =>
    have hcap : len ≤ (r.n - off) / n := (Nat.le_div_iff_mul_le (by omega)).2 (by omega)
    split at h
    · split at h
      · rename_i hh h1
        split at h
        · rename_i l h2
          obtain ⟨e1, e2, e3⟩ := run_bounds2 (P := P) (w := w) hts (sl := true) hcap h1 h2
          refine ⟨_, run_slice_slice hu hn e1, ?_⟩
          split at h
          · rename_i hl0
            subst hl0
            cases h
            have ha : (if (r.n - off) / n = 0 then some (⟨r.b, r.o + off, none⟩ : Addr) else (some (⟨r.b, r.o + off, none⟩ : Addr)).map (·.add (0 * n))) = some ⟨r.b, r.o + off, none⟩ := by
              split
              · rfl
              · rw [Nat.zero_mul, Option.map_some, addr_add, Nat.add_zero]
            rw [ha, Nat.sub_zero, Nat.sub_zero]
            refine .row id ver off hh n r hr hz (Nat.le_trans ?_ hle)
            have := Nat.mul_le_mul_right n e3
            omega
          · rename_i hl0
            split at h
            · rename_i hlh
              cases h
              rw [if_neg (by omega), Option.map_some, addr_add]
              have h3 : l * n ≤ hh * n := Nat.mul_le_mul_right n e2
              have h4 := Nat.mul_le_mul_right n e3
              have hdiv : (r.n - (off + l * n)) / n = (r.n - off) / n - l := by
                rw [Nat.sub_add_eq, Nat.mul_comm l n, Nat.sub_mul_div_of_le (r.n - off) n l (by rw [Nat.mul_comm n l]; omega)]
              have := Den.row (K := K) id ver (off + l * n) (hh - l) n r hr hz (by rw [Nat.sub_mul]; omega)
              rwa [hdiv, ← Nat.add_assoc] at this
            · rename_i hlh
              cases h
              have hz0 : hh - l = 0 := by omega
              rw [hz0]
              have hsome : ∃ a', (if (r.n - off) / n = l then some (⟨r.b, r.o + off, none⟩ : Addr) else (some (⟨r.b, r.o + off, none⟩ : Addr)).map (·.add (l * n))) = some a' := by split <;> exact ⟨_, rfl⟩
              obtain ⟨a', ha'⟩ := hsome
              rw [ha']
              exact .dat (DenD.of_cells (es := []) (b := 0) (o := 0) (sz := 0) (Nat.zero_le _) (fun h => absurd rfl h) ⟨by simp, [], .nil, by simp⟩)
        · exact nomatch h
      · exact nomatch h
    · rename_i mm
      split at h
      · exact nomatch h
      · rename_i hx'
        split at h
        · rename_i m h0
          split at h
          · rename_i hh h1
            split at h
            · rename_i l h2
              obtain ⟨e1, e2, e3, e4⟩ := run_bounds3 (P := P) (w := w) hts hcap h0 h1 h2
              refine ⟨_, run_slice_slice hu hn e1, ?_⟩
              split at h
              · rename_i hlm
                cases h
                subst hlm
                have hz0 : hh - l = 0 := by omega
                rw [hz0, Nat.sub_self, if_pos rfl]
                exact .full [] _ 0 0 0 (fun h => absurd rfl h) ⟨by simp, [], .nil, by simp⟩
              · exact nomatch h
            · exact nomatch h
          · exact nomatch h
        · exact nomatch h
  · rename_i elem hu _
    split at h
    · rename_i n es hn he
      split at h
      · rename_i hs
        obtain ⟨ad, cap, rfl, hcap, b, o, sz, ha, hcells⟩ := den_elems hx he
        split at h
        · split at h
          · rename_i hh h1
            split at h
            · rename_i l h2
              obtain ⟨e1, e2, e3⟩ := run_bounds2 (P := P) (w := w) hts (sl := true) hcap h1 h2
              refine ⟨_, run_slice_slice hu hn e1, ?_⟩
              obtain ⟨p1, p2, p3⟩ := piece (m := cap) hcells ha hs e2 e3 (by omega)
              have p4 : ∀ a' : Addr, ad = some a' → ∃ a'', (if cap = l then ad else ad.map (·.add (l * n))) = some a'' := fun a' e => by rw [e]; split <;> exact ⟨_, rfl⟩
              simp only at h
              split at h
              · cases h
                have hnl := den_nils hx
                simp [elems] at he
                subst he
                simp at hnl
                obtain ⟨rfl, rfl⟩ := hnl
                simp at e3
                subst e3
                simp at e2
                subst e2
                exact .dat .nils
              · rename_i es0 _
                simp [elems] at he
                subst he
                cases hx with
                | full _ a' b' o' sz' ha' hc' =>
                  obtain ⟨a'', ha''⟩ := p4 a' rfl
                  split at h
                  · rename_i hhe
                    cases h
                    subst hhe
                    rw [ha''] at p3 ⊢
                    have := Den.full (K := K) _ a'' b (o + l * sz) sz (fun h => Option.some.inj (p3 h)) p2
                    rwa [p1] at this
                  · cases h
                    rw [ha''] at p3 ⊢
                    have := DenD.of_cells (imm := K.imm) (cap := es0.length - l) (by rw [p1]; omega) (fun h => Option.some.inj (p3 h)) p2
                    rw [p1] at this
                    exact .dat this
              · rename_i hnn hnf
                cases h
                have hsome : ∃ a', ad = some a' := by
                  cases ad with
                  | some a' => exact ⟨a', rfl⟩
                  | none =>
                    exact (hnn (den_none hx he rfl)).elim
                obtain ⟨a', rfl⟩ := hsome
                obtain ⟨a'', ha''⟩ := p4 a' rfl
                rw [ha''] at p3 ⊢
                have := DenD.of_cells (imm := K.imm) (cap := cap - l) (by rw [p1]; omega) (fun h => Option.some.inj (p3 h)) p2
                rw [p1] at this
                exact .dat this
            · exact nomatch h
          · exact nomatch h
        · rename_i mm
          split at h
          · exact nomatch h
          · rename_i hx'
            split at h
            · rename_i m h0
              split at h
              · rename_i hh h1
                split at h
                · rename_i l h2
                  obtain ⟨e1, e2, e3, e4⟩ := run_bounds3 (P := P) (w := w) hts hcap h0 h1 h2
                  refine ⟨_, run_slice_slice hu hn e1, ?_⟩
                  obtain ⟨p1, p2, p3⟩ := piece (m := m) hcells ha hs e2 (by omega) e3
                  have p4 : ∀ a' : Addr, ad = some a' → ∃ a'', (if m = l then ad else ad.map (·.add (l * n))) = some a'' := fun a' e => by rw [e]; split <;> exact ⟨_, rfl⟩
                  simp only at h
                  split at h
                  · cases h
                    have hnl := den_nils hx
                    simp [elems] at he
                    subst he
                    simp at hnl
                    obtain ⟨rfl, rfl⟩ := hnl
                    simp at e4
                    subst e4
                    simp at e3
                    subst e3
                    simp at e2
                    subst e2
                    exact .dat .nils
                  · rename_i es0 _
                    simp [elems] at he
                    subst he
                    cases hx with
                    | full _ a' b' o' sz' ha' hc' =>
                      obtain ⟨a'', ha''⟩ := p4 a' rfl
                      split at h
                      · rename_i hhe
                        cases h
                        subst hhe
                        rw [ha''] at p3 ⊢
                        have := Den.full (K := K) _ a'' b (o + l * sz) sz (fun h => Option.some.inj (p3 h)) p2
                        rwa [p1] at this
                      · cases h
                        rw [ha''] at p3 ⊢
                        have := DenD.of_cells (imm := K.imm) (cap := m - l) (by rw [p1]; omega) (fun h => Option.some.inj (p3 h)) p2
                        rw [p1] at this
                        exact .dat this
                  · rename_i hnn hnf
                    have hsome : ∃ a', ad = some a' := by
                      cases ad with
                      | some a' => exact ⟨a', rfl⟩
                      | none =>
                        exact (hnn (den_none hx he rfl)).elim
                    obtain ⟨a', rfl⟩ := hsome
                    obtain ⟨a'', ha''⟩ := p4 a' rfl
                    split at h
                    · rename_i hhe
                      cases h
                      subst hhe
                      rw [ha''] at p3 ⊢
                      have := Den.full (K := K) _ a'' b (o + l * sz) sz (fun h => Option.some.inj (p3 h)) p2
                      rwa [p1] at this
                    · cases h
                      rw [ha''] at p3 ⊢
                      have := DenD.of_cells (imm := K.imm) (cap := m - l) (by rw [p1]; omega) (fun h => Option.some.inj (p3 h)) p2
                      rw [p1] at this
                      exact .dat this
                · exact nomatch h
              · exact nomatch h
            · exact nomatch h
      · exact nomatch h
    · exact nomatch h
  · exact nomatch h

theorem run_mm2 {isMax : Bool} {a b v : AV} {va vb : Value} (h : mm2 isMax a b = some v) (ha : Den K a va) (hb : Den K b vb) :
    ∃ u, ((if isMax then Builtin.max2 else Builtin.min2) va vb).run P w = .ok u w ∧ Den K v u := by
  unfold mm2 at h
  split at h
  · cases h
    cases ha with | dat ha => ?_
    cases hb with | dat hb => ?_
    cases ha; cases hb
    cases isMax
    · exact ⟨_, by simp [Builtin.min2], .dat (.int _ _)⟩
    · exact ⟨_, by simp [Builtin.max2], .dat (.int _ _)⟩
  · exact nomatch h

theorem run_minMaxA {isMax : Bool} : ∀ {l : List AV} {a v : AV} {va : Value} {vl : List Value}, minMaxA isMax a l = some v → Den K a va → DenL K l vl →
    ∃ u, (vl.foldlM (if isMax then Builtin.max2 else Builtin.min2) va).run P w = .ok u w ∧ Den K v u
  | [], a, v, va, _, h, ha, .nil => by simp [minMaxA] at h; subst h; exact ⟨va, rfl, ha⟩
  | b :: l, a, v, va, _, h, ha, .cons hb hl => by
    simp only [minMaxA] at h
    split at h
    · rename_i c hc
      obtain ⟨u, h1, h2⟩ := run_mm2 (P := P) (w := w) hc ha hb
      obtain ⟨u', h3, h4⟩ := run_minMaxA h h2 hl
      exact ⟨u', by simp only [List.foldlM_cons, Sem.run_bind, h1, Result.andThen_ok, h3], h4⟩
    · exact nomatch h

end
end Go.Proofs.YtobhpbnlbgbjaaaGreatDoor
