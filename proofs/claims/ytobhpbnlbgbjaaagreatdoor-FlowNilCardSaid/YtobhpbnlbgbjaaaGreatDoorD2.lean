/- Equality, and the other operations that only compute. -/
import Derived.Test.YtobhpbnlbgbjaaaGreatDoorD1
import Derived.Laws.StructEq
import Derived.ChangeKeysEq
set_option linter.unusedSectionVars false
set_option linter.unusedSimpArgs false
set_option linter.unusedVariables false
set_option linter.unusedSimpArgs false
namespace Go.Proofs.YtobhpbnlbgbjaaaGreatDoor
open Go Go.RowKit
set_option linter.unusedSectionVars false
variable [mode : Inhabited ModeT]

section
variable {P : Program} {K : KW} {w : World}

theorem run_partD {t : TypeId} {cs : List D} {vs : Array Value} {off : Nat} {d : D} (hd : DenDL K.imm cs vs.toList) (h : partD P t cs off = some d) :
    ∃ u, (part t vs off).run P w = .ok u w ∧ DenD K.imm d u := by
  unfold partD at h
  split at h
  · rename_i n ha hs
    split at h
    · rename_i hle
      cases h
      refine ⟨.agg (vs.extract off (off + n)), by simp [part, run_isAgg' ha, run_sizeOf' hs], .of_agg ?_⟩
      have : (vs.extract off (off + n)).toList = (vs.toList.drop off).take n := by
        rw [Array.toList_extract, List.extract_eq_take_drop]; congr 1; omega
      rw [this]
      exact (hd.drop off).take n
    · exact nomatch h
  · rename_i n ha hs
    have hl := hd.length
    have hoff : off < cs.length := by
      rcases Nat.lt_or_ge off cs.length with h' | h'
      · exact h'
      · rw [List.getElem?_eq_none h'] at h; exact nomatch h
    have hu : vs.toList[off]? = some (vs.toList[off]'(by rw [hl]; exact hoff)) := List.getElem?_eq_getElem _
    have hden := hd.index off d _ h hu
    rw [Array.getElem?_toList] at hu
    exact ⟨_, by simp only [part, Sem.run_bind, run_isAgg' ha, Result.andThen_ok, Bool.false_eq_true, if_false, hu]; rfl, hden⟩
  · exact nomatch h

theorem run_eqFieldsD {d : Nat} {eq : TypeId → D → D → Option Bool} {xs ys : List D} {vx vy : Array Value} (hx : DenDL K.imm xs vx.toList) (hy : DenDL K.imm ys vy.toList)
    (he : ∀ t a b va vb r, eq t a b = some r → DenD K.imm a va → DenD K.imm b vb → (Op.equalIn d t va vb).run P w = .ok r w) :
    ∀ {fs : List Field} {r : Bool}, eqFieldsD P eq xs ys fs = some r → (Op.eqFields d vx vy fs).run P w = .ok r w
  | [], r, h => by simp [eqFieldsD] at h; subst h; simp [Op.eqFields]
  | f :: fs, r, h => by
    simp only [eqFieldsD] at h
    split at h
    · exact nomatch h
    · rename_i hn
      split at h
      · rename_i a b ha hb
        obtain ⟨va, h1, h2⟩ := run_partD (P := P) (w := w) hx ha
        obtain ⟨vb, h3, h4⟩ := run_partD (P := P) (w := w) hy hb
        simp only [Op.eqFields, hn, ne_eq, not_false_eq_true, if_true, Sem.run_bind, h1, h3, Result.andThen_ok]
        split at h
        · rename_i he'
          rw [he _ _ _ _ _ _ he' h2 h4]
          simpa using run_eqFieldsD hx hy he h
        · rename_i he'
          rw [he _ _ _ _ _ _ he' h2 h4]
          cases h
          simp
        · exact nomatch h
      · exact nomatch h

theorem str_beq (a b : List UInt8) : ((ByteArray.mk a.toArray) == (ByteArray.mk b.toArray)) = (a == b) := by
  rw [beq_toListBytes, toList_mk, toList_mk]

theorem run_eqD : ∀ {n : Nat} {t : TypeId} {x y : D} {vx vy : Value} {r : Bool}, eqD P n t x y = some r → DenD K.imm x vx → DenD K.imm y vy →
    ∀ m, n ≤ m → (Op.equalIn m t vx vy).run P w = .ok r w
  | 0, _, _, _, _, _, _, h, _, _, _, _ => by simp [eqD] at h
  | n + 1, t, x, y, vx, vy, r, h, hx, hy, m, hm => by
    obtain ⟨m, rfl⟩ : ∃ k, m = k + 1 := ⟨m - 1, by omega⟩
    simp only [eqD] at h
    split at h
    · rename_i hu; cases h; cases hx; cases hy; simp [Op.equalIn, run_underlying' hu]
    · rename_i hu
      split at h
      · rename_i hk; cases h; cases hx; cases hy; subst hk; simp [Op.equalIn, run_underlying' hu]
      · exact nomatch h
    · rename_i hu
      obtain rfl := Option.some.inj h
      cases hx; cases hy
      simp only [Op.equalIn, Sem.run_bind, run_underlying' hu, Result.andThen_ok, str_beq]
      rfl
    · rename_i fields xs ys hu
      split at h
      · exact nomatch h
      · rename_i hst
        obtain ⟨va, rfl, ha⟩ := hx.agg_list
        obtain ⟨vb, rfl, hb⟩ := hy.agg_list
        have hf : P.fieldsOf t = fields := by simp [Program.fieldsOf, hu]
        rw [run_equalIn_struct w m t va vb (by rw [hf]; exact hu) (by simpa using hst), hf]
        exact run_eqFieldsD ha hb (fun t a b va vb r he h1 h2 => run_eqD he h1 h2 m (by omega)) h
    · exact nomatch h

theorem run_eqA {t : TypeId} {x y : AV} {vx vy : Value} {r : Bool} (h : eqA P t x y = some r) (hx : Den K x vx) (hy : Den K y vy) :
    (Op.equal t vx vy).run P w = .ok r w ∧ ∀ xo yo op, (eqGuard op t xo yo vx vy).run P w = .ok () w := by
  unfold eqA at h
  unfold Op.equal
  obtain ⟨md, hd, hm8⟩ : ∃ m, Op.maxDepth = m + 1 ∧ 8 ≤ m := ⟨9999, rfl, by decide⟩
  split at h
  · rename_i hu; cases h; cases hx with | dat hx => cases hx; cases hy with | dat hy => cases hy; exact ⟨by rw [hd]; simp [Op.equalIn, run_underlying' hu], fun xo yo op => by simp [eqGuard_at_bool]⟩
  · rename_i a b hu
    split at h
    · exact nomatch h
    · rename_i hg
      cases hx with
      | dat hx =>
        cases hy with
        | dat hy =>
          refine ⟨run_eqD h hx hy _ (by rw [hd]; omega), fun xo yo op => ?_⟩
          obtain ⟨va, rfl, ha⟩ := hx.agg_list
          obtain ⟨vb, rfl, hb⟩ := hy.agg_list
          have hg' : P.eqGuardType P.depth t = false := by simpa using hg
          cases op <;> simp [eqGuard, program, Sem.run, hg']
  · rename_i b hu
    cases hx
    cases hy <;> cases h <;> exact ⟨by rw [hd]; simp [Op.equalIn, run_underlying' hu], fun xo yo op => by simp [eqGuard_at_pointer]⟩
  · rename_i hu; cases h; cases hx; cases hy; exact ⟨by rw [hd]; simp [Op.equalIn, run_underlying' hu], fun xo yo op => by simp [eqGuard_at_pointer]⟩
  · rename_i e a b hu
    split at h
    · rename_i hc
      obtain ⟨h1, h2, h3⟩ := hc
      obtain ⟨i, o⟩ := a
      obtain ⟨i', o'⟩ := b
      simp only at h1
      subst h1
      cases hx with
      | ptr _ _ bx hbx =>
        cases hy with
        | ptr _ _ by' hby =>
          have : by' = bx := by rw [hbx] at hby; exact (Option.some.inj hby).symm
          subst this
          refine ⟨?_, fun xo yo op => by simp [eqGuard_at_pointer]⟩
          cases hz : sizeA P e with
          | none => rw [hz] at h3; exact nomatch h3
          | some n =>
            have hn : n ≠ 0 := fun e0 => h2 (by rw [hz, e0])
            obtain rfl := Option.some.inj h
            rw [hd]
            simp only [Op.equalIn, Sem.run_bind, run_underlying' hu, Result.andThen_ok, run_sizeOf' hz, ne_eq, hn, not_false_eq_true, if_true]
            simp only [sameAddr, beq_self_eq_true, if_true]
            have : ((⟨by', o, none⟩ : Addr) == ⟨by', o', none⟩) = ((i, o) == (i, o')) := by
              rw [Bool.eq_iff_iff]; simp
            rw [this]
            rfl
    · exact nomatch h
  · rename_i hu; cases h; cases hx; cases hy; exact ⟨by rw [hd]; simp [Op.equalIn, run_underlying' hu], fun xo yo op => by simp [eqGuard_at_pointer]⟩
  · rename_i hu; cases h; cases hx with | dat hx => cases hx; cases hy with | dat hy => cases hy; exact ⟨by rw [hd]; simp [Op.equalIn, run_underlying' hu], fun xo yo op => by simp [eqGuard_at_slice]⟩
  · rename_i hu
    cases h
    cases hy with
    | dat hy =>
      cases hy
      cases hx <;> exact ⟨by rw [hd]; simp [Op.equalIn, run_underlying' hu], fun xo yo op => by simp [eqGuard_at_slice]⟩
  · rename_i hu
    cases h
    cases hy with
    | dat hy =>
      cases hy
      cases hx <;> exact ⟨by rw [hd]; simp [Op.equalIn, run_underlying' hu], fun xo yo op => by simp [eqGuard_at_slice]⟩
  · rename_i hu; cases h; cases hx; cases hy; exact ⟨by rw [hd]; simp [Op.equalIn, run_underlying' hu], fun xo yo op => by simp [eqGuard_at_pointer]⟩
  · rename_i e i v o i' v' o' hu
    split at h
    · rename_i hc
      obtain ⟨rfl, rfl, h2, h3⟩ := hc
      cases hx with
      | fp _ _ _ rx hrx =>
        cases hy with
        | fp _ _ _ ry hry =>
          obtain rfl : ry = rx := by rw [hrx] at hry; exact (Option.some.inj hry).symm
          refine ⟨?_, fun xo yo op => by simp [eqGuard_at_pointer]⟩
          cases hz : sizeA P e with
          | none => rw [hz] at h3; exact nomatch h3
          | some n =>
            have hn : n ≠ 0 := fun e0 => h2 (by rw [hz, e0])
            obtain rfl := Option.some.inj h
            rw [hd]
            simp only [Op.equalIn, Sem.run_bind, run_underlying' hu, Result.andThen_ok, run_sizeOf' hz, ne_eq, hn, not_false_eq_true, if_true]
            simp only [sameAddr, beq_self_eq_true, if_true]
            have : ((⟨ry.b, ry.o + o, none⟩ : Addr) == ⟨ry.b, ry.o + o', none⟩) = (o == o') := by
              rw [Bool.eq_iff_iff]; simp
            rw [this]
            rfl
    · exact nomatch h
  · rename_i hu
    cases h
    cases hy
    cases hx <;> exact ⟨by rw [hd]; simp [Op.equalIn, run_underlying' hu], fun xo yo op => by cases op <;> simp [eqGuard]⟩
  · rename_i hu
    cases h
    cases hy with
    | dat hy =>
      cases hy
      cases hx with
      | dat hx => cases hx; exact ⟨by rw [hd]; simp [Op.equalIn, run_underlying' hu], fun xo yo op => by simp [eqGuard_at_slice]⟩
  · rename_i hu; cases h; cases hx; cases hy; exact ⟨by rw [hd]; simp [Op.equalIn, run_underlying' hu], fun xo yo op => by simp [eqGuard_at_nilFunc]⟩
  · rename_i hu; cases h; cases hx; cases hy; exact ⟨by rw [hd]; simp [Op.equalIn, run_underlying' hu], fun xo yo op => by simp [eqGuard_at_func]⟩
  · exact nomatch h

end
end Go.Proofs.YtobhpbnlbgbjaaaGreatDoor
