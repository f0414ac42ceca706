/- The operations that only compute, and what is read: each does what the evaluator says. -/
import Derived.Test.YtobhpbnlbgbjaaaGreatDoorC
import Derived.Laws.Cells
import Derived.Laws.Strings
set_option linter.unusedSectionVars false
set_option linter.unusedSimpArgs false
set_option linter.unusedVariables false
set_option linter.unusedSimpArgs false
namespace Go.Proofs.YtobhpbnlbgbjaaaGreatDoor
open Go Go.RowKit
set_option linter.unusedSectionVars false
variable [mode : Inhabited ModeT]

section
variable {P : Program} {K : KW} {w : World}

theorem den_getD {ts : List AV} {vs : Array Value} (h : DenL K ts vs.toList) (t : Nat) : Den K (ts.getD t undefA) (vs.getD t undef) := by
  rw [Array.getD_eq_getD_getElem?, List.getD_eq_getElem?_getD, ← Array.getElem?_toList]
  cases ht : ts[t]? with
  | some x =>
    obtain ⟨v, hv, hd⟩ := h.get ht
    simpa [hv] using hd
  | none =>
    have hl : ts.length ≤ t := by
      rcases Nat.lt_or_ge t ts.length with h' | h'
      · rw [List.getElem?_eq_getElem h'] at ht; exact nomatch ht
      · exact h'
    have : vs.toList[t]? = none := List.getElem?_eq_none (by rw [h.length]; exact hl)
    simpa [this] using den_undef

theorem den_evalX {ts : List AV} {a : Act} (h : DenL K ts a.tmps.toList) {x : Operand} {v : AV} (hx : evalX ts x = some v) : Den K v (a.eval x) := by
  cases x with
  | tmp t => simp [evalX] at hx; subst hx; exact den_getD h t
  | const c => exact den_cstV hx
  | global g => simp [evalX] at hx
  | func f => simp [evalX] at hx; subst hx; exact Den.of_func (va := #[]) (vc := #[]) .nil .nil

theorem den_evalL {ts : List AV} {a : Act} (h : DenL K ts a.tmps.toList) : ∀ {xs : List Operand} {vs : List AV}, evalL ts xs = some vs → DenL K vs (xs.map a.eval)
  | [], vs, hx => by simp [evalL] at hx; subst hx; exact .nil
  | x :: xs, vs, hx => by
    simp only [evalL] at hx
    split at hx
    · rename_i v hv
      simp at hx
      obtain ⟨r, hr, rfl⟩ := hx
      exact .cons (den_evalX h hv) (den_evalL h hr)
    · exact nomatch hx

/- what the program's tables say -/
theorem run_sizeOf' {t : TypeId} {n : Nat} (h : sizeA P t = some n) : (sizeOf t).run P w = .ok n w := by
  unfold sizeA at h
  cases hi : P.info? t with
  | none => rw [hi] at h; exact nomatch h
  | some i => rw [hi] at h; simp at h; subst h; simp [sizeOf, typeInfo, program, Sem.run, hi]

theorem run_underlying' {t : TypeId} {d : TypeDesc} (h : P.underlying t = some d) : (underlying t).run P w = .ok d w := by
  simp [underlying, program, Sem.run, h]

theorem run_zeroValue' {t : TypeId} {z : AV} (h : zeroA P t = some z) : ∃ v, (zeroValue t).run P w = .ok v w ∧ Den K z v ∧ ∃ i, P.info? t = some i ∧ i.zero = some v := by
  unfold zeroA at h
  cases hi : P.info? t with
  | none => rw [hi] at h; exact nomatch h
  | some i =>
    rw [hi] at h
    simp only [Option.bind_some] at h
    cases hz : i.zero with
    | none => rw [hz] at h; exact nomatch h
    | some v =>
      rw [hz] at h
      simp only [Option.bind_some] at h
      exact ⟨v, by simp [zeroValue, typeInfo, program, Sem.run, hi, hz], den_cstV h, i, rfl, hz⟩

theorem run_isAgg' {t : TypeId} {b : Bool} (h : isAggA P t = some b) : (isAgg t).run P w = .ok b w := by
  unfold isAggA at h
  split at h
  · rename_i hu; cases h; simp [isAgg, run_underlying' hu]
  · rename_i hu; cases h; simp [isAgg, run_underlying' hu]
  · rename_i d h1 h2 hu
    cases h
    simp only [isAgg, Sem.run_bind, run_underlying' hu, Result.andThen_ok]
    rfl
  · exact nomatch h

/-- a part of a row -/
theorem run_part {t : TypeId} {cs : List AV} {vs : Array Value} {off : Nat} {v : AV} (hd : DenL K cs vs.toList) (h : partA P t cs off = some v) :
    ∃ u, (part t vs off).run P w = .ok u w ∧ Den K v u := by
  unfold partA at h
  split at h
  · rename_i n ha hs
    split at h
    · rename_i hle
      cases h
      refine ⟨.agg (vs.extract off (off + n)), by simp [part, run_isAgg' ha, run_sizeOf' hs], den_mkAgg ?_⟩
      have : (vs.extract off (off + n)).toList = (vs.toList.drop off).take n := by
        rw [Array.toList_extract, List.extract_eq_take_drop]; congr 1; omega
      rw [this]
      exact (hd.drop off).take n
    · exact nomatch h
  · rename_i n ha hs
    obtain ⟨u, hu, hden⟩ := hd.get h
    rw [Array.getElem?_toList] at hu
    exact ⟨u, by simp [part, run_isAgg' ha, hu], hden⟩
  · exact nomatch h

/-- what the loads of a row's cells give -/
theorem run_loadCells_row {b o n : Nat} {vs : List Value} (hn : n ≤ vs.length) (h : ∀ (j : Nat) (v : Value), vs[j]? = some v → w.cell? ⟨b, o + j, none⟩ = some v) :
    (loadCells ⟨b, o, none⟩ n).run P w = .ok (vs.take n).toArray w := by
  have hl : (vs.take n).length = n := by simp [Nat.min_eq_left hn]
  have := run_loadCells_list (P := P) w ⟨b, o, none⟩ (vs.take n) fun j v hj => by
    rw [List.getElem?_take] at hj
    split at hj
    · have := h j v hj
      rw [Addr.add_lit]; exact this
    · exact nomatch hj
  rwa [hl] at this

theorem cell_run {a : Addr} {v : Value} (h : w.cell? a = some v) : (load a).run P w = .ok v w := by simp [h]

/-- a load out of a row of cells, from 'off' on -/
theorem run_loadVar_cells {t : TypeId} {cs : List AV} {vs : List Value} {b o off : Nat} {v : AV} (hd : DenL K cs vs) (hv : ∀ (j : Nat) (v : Value), vs[j]? = some v → w.cell? ⟨b, o + j, none⟩ = some v)
    (h : partA P t cs off = some v) : ∃ u, (loadVar t ⟨b, o + off, none⟩).run P w = .ok u w ∧ Den K v u := by
  unfold partA at h
  split at h
  · rename_i n ha hs
    split at h
    · rename_i hle
      cases h
      refine ⟨.agg ((vs.drop off).take n).toArray, ?_, den_mkAgg (by simpa using (hd.drop off).take n)⟩
      simp only [loadVar, Sem.run_bind, run_isAgg' ha, Result.andThen_ok, if_true, run_sizeOf' hs]
      rw [run_loadCells_row (vs := vs.drop off) (by rw [List.length_drop, hd.length]; omega) fun j v hj => by
        rw [List.getElem?_drop] at hj
        rw [Nat.add_assoc]; exact hv _ v hj]
      rfl
    · exact nomatch h
  · rename_i n ha hs
    obtain ⟨u, hu, hden⟩ := hd.get h
    exact ⟨u, by simp only [loadVar, Sem.run_bind, run_isAgg' ha, Result.andThen_ok, Bool.false_eq_true, if_false]; exact cell_run (hv _ u hu), hden⟩
  · exact nomatch h

theorem den_intOp {op : BinOp} {k : IntKind} {a b : Int} {d : D} {t : TypeId} (h : intOp op k a b = some d) : ∃ v, (binOp op t (.int k a) (.int k b)).run P w = .ok v w ∧ DenD K.imm d v := by
  cases op <;> simp only [intOp] at h
  case quo =>
    split at h
    · exact nomatch h
    · rename_i hb; cases h; exact ⟨_, by simp [binOp, Op.intDiv, hb], .int _ _⟩
  case rem =>
    split at h
    · exact nomatch h
    · rename_i hb; cases h; exact ⟨_, by simp [binOp, Op.intDiv, hb], .int _ _⟩
  case shl => exact nomatch h
  case shr => exact nomatch h
  all_goals cases h
  all_goals first
    | exact ⟨_, by simp [binOp, Op.intArith, Op.intBits, Op.intCmp], .int _ _⟩
    | exact ⟨_, by simp [binOp, Op.intArith, Op.intBits, Op.intCmp], .bool _⟩

theorem den_shiftOp {op : BinOp} {k k' : IntKind} {a b : Int} {d : D} {t : TypeId} (h : shiftOp op k a b = some d) : ∃ v, (binOp op t (.int k a) (.int k' b)).run P w = .ok v w ∧ DenD K.imm d v := by
  unfold shiftOp at h
  split at h
  · exact nomatch h
  · rename_i hb
    cases op <;> simp at h
    · cases h; exact ⟨_, by simp [binOp, Op.shift, hb], .int _ _⟩
    · cases h; exact ⟨_, by simp [binOp, Op.shift, hb], .int _ _⟩

theorem toList_mk (s : List UInt8) : (ByteArray.mk s.toArray).toList = s := by rw [ByteArray.toList_eq]

theorem den_strOp {op : BinOp} {a b : List UInt8} {d : D} {t : TypeId} (h : strOp op a b = some d) : ∃ v, (binOp op t (.string ⟨a.toArray⟩) (.string ⟨b.toArray⟩)).run P w = .ok v w ∧ DenD K.imm d v := by
  cases op <;> simp only [strOp] at h
  case add =>
    split at h
    · rename_i hl
      cases h
      refine ⟨.string ⟨(a ++ b).toArray⟩, ?_, .str _⟩
      have e : (ByteArray.mk a.toArray ++ ByteArray.mk b.toArray : ByteArray) = ⟨(a ++ b).toArray⟩ := by
        apply ByteArray.ext; simp
      have hs : ¬ (((ByteArray.mk a.toArray).size + (ByteArray.mk b.toArray).size : Nat) : Int) > IntKind.i64.max := by
        simp [ByteArray.size]; omega
      simp only [binOp, Op.stringOp, e, if_neg hs, Sem.run_pure]
    · exact nomatch h
  all_goals first
    | (obtain rfl := Option.some.inj h; exact ⟨_, by simp only [binOp, Op.stringOp, toList_mk]; rfl, .bool _⟩)
    | exact nomatch h

end

end Go.Proofs.YtobhpbnlbgbjaaaGreatDoor
