/- unsafe.String of a growing slice's bytes. -/
import Derived.Test.YtfdcjngclelnhaaGa
import Derived.Laws.Cells
import Derived.Laws.Strings
import Derived.Laws.StructEq
import Derived.ChangeKeysEq
import Derived.Laws.BytesString
import Derived.Laws.NewFold
import Derived.Lib.FrozenHead
import Derived.Laws.Append
set_option linter.unusedSimpArgs false
namespace Go.Proofs.Ytfdcjngclelnhaa
open Go Go.RowKit

section
variable {P : Program} {K : KW} {w : World}

theorem den_getD {ts : List AV} {vs : Array Value} (h : DenL K ts vs.toList) (t : Nat) : Den K (ts.getD t undefA) (vs.getD t undef) := by
  rw [Array.getD_eq_getD_getElem?, List.getD_eq_getElem?_getD, ← Array.getElem?_toList]
  cases ht : ts[t]? with
  | some x =>
    obtain ⟨v, hv, hd⟩ := h.get ht
    simpa [hv] using hd
  | none =>
    have hl : ts.length ≤ t := by
      rcases Nat.lt_or_ge t ts.length with h' | h'
      · rw [List.getElem?_eq_getElem h'] at ht; exact nomatch ht
      · exact h'
    have : vs.toList[t]? = none := List.getElem?_eq_none (by rw [h.length]; exact hl)
    simpa [this] using den_undef

theorem den_evalX {ts : List AV} {a : Act} (h : DenL K ts a.tmps.toList) {x : Operand} {v : AV} (hx : evalX ts x = some v) : Den K v (a.eval x) := by
  cases x with
  | tmp t => simp [evalX] at hx; subst hx; exact den_getD h t
  | const c => exact den_cstV hx
  | global g => simp [evalX] at hx
  | func f => simp [evalX] at hx; subst hx; exact Den.of_func (va := #[]) (vc := #[]) .nil .nil

theorem den_evalL {ts : List AV} {a : Act} (h : DenL K ts a.tmps.toList) : ∀ {xs : List Operand} {vs : List AV}, evalL ts xs = some vs → DenL K vs (xs.map a.eval)
  | [], vs, hx => by simp [evalL] at hx; subst hx; exact .nil
  | x :: xs, vs, hx => by
    simp only [evalL] at hx
    split at hx
    · rename_i v hv
      simp at hx
      obtain ⟨r, hr, rfl⟩ := hx
      exact .cons (den_evalX h hv) (den_evalL h hr)
    · exact nomatch hx

/- what the program's tables say -/
theorem run_sizeOf' {t : TypeId} {n : Nat} (h : sizeA P t = some n) : (sizeOf t).run P w = .ok n w := by
  unfold sizeA at h
  cases hi : P.info? t with
  | none => rw [hi] at h; exact nomatch h
  | some i => rw [hi] at h; simp at h; subst h; simp [sizeOf, typeInfo, program, Sem.run, hi]

theorem run_underlying' {t : TypeId} {d : TypeDesc} (h : P.underlying t = some d) : (underlying t).run P w = .ok d w := by
  simp [underlying, program, Sem.run, h]

theorem run_zeroValue' {t : TypeId} {z : AV} (h : zeroA P t = some z) : ∃ v, (zeroValue t).run P w = .ok v w ∧ Den K z v ∧ ∃ i, P.info? t = some i ∧ i.zero = some v := by
  unfold zeroA at h
  cases hi : P.info? t with
  | none => rw [hi] at h; exact nomatch h
  | some i =>
    rw [hi] at h
    simp only [Option.bind_some] at h
    cases hz : i.zero with
    | none => rw [hz] at h; exact nomatch h
    | some v =>
      rw [hz] at h
      simp only [Option.bind_some] at h
      exact ⟨v, by simp [zeroValue, typeInfo, program, Sem.run, hi, hz], den_cstV h, i, rfl, hz⟩

theorem run_isAgg' {t : TypeId} {b : Bool} (h : isAggA P t = some b) : (isAgg t).run P w = .ok b w := by
  unfold isAggA at h
  split at h
  · rename_i hu; cases h; simp [isAgg, run_underlying' hu]
  · rename_i hu; cases h; simp [isAgg, run_underlying' hu]
  · rename_i d h1 h2 hu
    cases h
    simp only [isAgg, Sem.run_bind, run_underlying' hu, Result.andThen_ok]
    rfl
  · exact nomatch h

/-- a part of a row -/
theorem run_part {t : TypeId} {cs : List AV} {vs : Array Value} {off : Nat} {v : AV} (hd : DenL K cs vs.toList) (h : partA P t cs off = some v) :
    ∃ u, (part t vs off).run P w = .ok u w ∧ Den K v u := by
  unfold partA at h
  split at h
  · rename_i n ha hs
    split at h
    · rename_i hle
      cases h
      refine ⟨.agg (vs.extract off (off + n)), by simp [part, run_isAgg' ha, run_sizeOf' hs], den_mkAgg ?_⟩
      have : (vs.extract off (off + n)).toList = (vs.toList.drop off).take n := by
        rw [Array.toList_extract, List.extract_eq_take_drop]; congr 1; omega
      rw [this]
      exact (hd.drop off).take n
    · exact nomatch h
  · rename_i n ha hs
    obtain ⟨u, hu, hden⟩ := hd.get h
    rw [Array.getElem?_toList] at hu
    exact ⟨u, by simp [part, run_isAgg' ha, hu], hden⟩
  · exact nomatch h

/-- what the loads of a row's cells give -/
theorem run_loadCells_row {b o n : Nat} {vs : List Value} (hn : n ≤ vs.length) (h : ∀ (j : Nat) (v : Value), vs[j]? = some v → w.cell? ⟨b, o + j, none⟩ = some v) :
    (loadCells ⟨b, o, none⟩ n).run P w = .ok (vs.take n).toArray w := by
  have hl : (vs.take n).length = n := by simp [Nat.min_eq_left hn]
  have := run_loadCells_list (P := P) w ⟨b, o, none⟩ (vs.take n) fun j v hj => by
    rw [List.getElem?_take] at hj
    split at hj
    · have := h j v hj
      rw [Addr.add_lit]; exact this
    · exact nomatch hj
  rwa [hl] at this

theorem cell_run {a : Addr} {v : Value} (h : w.cell? a = some v) : (load a).run P w = .ok v w := by simp [h]

/-- a load out of a row of cells, from 'off' on -/
theorem run_loadVar_cells {t : TypeId} {cs : List AV} {vs : List Value} {b o off : Nat} {v : AV} (hd : DenL K cs vs) (hv : ∀ (j : Nat) (v : Value), vs[j]? = some v → w.cell? ⟨b, o + j, none⟩ = some v)
    (h : partA P t cs off = some v) : ∃ u, (loadVar t ⟨b, o + off, none⟩).run P w = .ok u w ∧ Den K v u := by
  unfold partA at h
  split at h
  · rename_i n ha hs
    split at h
    · rename_i hle
      cases h
      refine ⟨.agg ((vs.drop off).take n).toArray, ?_, den_mkAgg (by simpa using (hd.drop off).take n)⟩
      simp only [loadVar, Sem.run_bind, run_isAgg' ha, Result.andThen_ok, if_true, run_sizeOf' hs]
      rw [run_loadCells_row (vs := vs.drop off) (by rw [List.length_drop, hd.length]; omega) fun j v hj => by
        rw [List.getElem?_drop] at hj
        rw [Nat.add_assoc]; exact hv _ v hj]
      rfl
    · exact nomatch h
  · rename_i n ha hs
    obtain ⟨u, hu, hden⟩ := hd.get h
    exact ⟨u, by simp only [loadVar, Sem.run_bind, run_isAgg' ha, Result.andThen_ok, Bool.false_eq_true, if_false]; exact cell_run (hv _ u hu), hden⟩
  · exact nomatch h

theorem den_intOp {op : BinOp} {k : IntKind} {a b : Int} {d : D} {t : TypeId} (h : intOp op k a b = some d) : ∃ v, (binOp op t (.int k a) (.int k b)).run P w = .ok v w ∧ DenD K.imm d v := by
  cases op <;> simp only [intOp] at h
  case quo =>
    split at h
    · exact nomatch h
    · rename_i hb; cases h; exact ⟨_, by simp [binOp, Op.intDiv, hb], .int _ _⟩
  case rem =>
    split at h
    · exact nomatch h
    · rename_i hb; cases h; exact ⟨_, by simp [binOp, Op.intDiv, hb], .int _ _⟩
  case shl => exact nomatch h
  case shr => exact nomatch h
  all_goals cases h
  all_goals first
    | exact ⟨_, by simp [binOp, Op.intArith, Op.intBits, Op.intCmp], .int _ _⟩
    | exact ⟨_, by simp [binOp, Op.intArith, Op.intBits, Op.intCmp], .bool _⟩

theorem den_shiftOp {op : BinOp} {k k' : IntKind} {a b : Int} {d : D} {t : TypeId} (h : shiftOp op k a b = some d) : ∃ v, (binOp op t (.int k a) (.int k' b)).run P w = .ok v w ∧ DenD K.imm d v := by
  unfold shiftOp at h
  split at h
  · exact nomatch h
  · rename_i hb
    cases op <;> simp at h
    · cases h; exact ⟨_, by simp [binOp, Op.shift, hb], .int _ _⟩
    · cases h; exact ⟨_, by simp [binOp, Op.shift, hb], .int _ _⟩

theorem toList_mk (s : List UInt8) : (ByteArray.mk s.toArray).toList = s := by rw [ByteArray.toList_eq]

theorem den_strOp {op : BinOp} {a b : List UInt8} {d : D} {t : TypeId} (h : strOp op a b = some d) : ∃ v, (binOp op t (.string ⟨a.toArray⟩) (.string ⟨b.toArray⟩)).run P w = .ok v w ∧ DenD K.imm d v := by
  cases op <;> simp only [strOp] at h
  case add =>
    split at h
    · rename_i hl
      cases h
      refine ⟨.string ⟨(a ++ b).toArray⟩, ?_, .str _⟩
      have e : (ByteArray.mk a.toArray ++ ByteArray.mk b.toArray : ByteArray) = ⟨(a ++ b).toArray⟩ := by
        apply ByteArray.ext; simp
      have hs : ¬ (((ByteArray.mk a.toArray).size + (ByteArray.mk b.toArray).size : Nat) : Int) > IntKind.i64.max := by
        simp [ByteArray.size]; omega
      simp only [binOp, Op.stringOp, e, if_neg hs, Sem.run_pure]
    · exact nomatch h
  all_goals first
    | (obtain rfl := Option.some.inj h; exact ⟨_, by simp only [binOp, Op.stringOp, toList_mk]; rfl, .bool _⟩)
    | exact nomatch h

end

end Go.Proofs.Ytfdcjngclelnhaa

set_option linter.unusedSimpArgs false
namespace Go.Proofs.Ytfdcjngclelnhaa
open Go Go.RowKit

section
variable {P : Program} {K : KW} {w : World}

theorem run_partD {t : TypeId} {cs : List D} {vs : Array Value} {off : Nat} {d : D} (hd : DenDL K.imm cs vs.toList) (h : partD P t cs off = some d) :
    ∃ u, (part t vs off).run P w = .ok u w ∧ DenD K.imm d u := by
  unfold partD at h
  split at h
  · rename_i n ha hs
    split at h
    · rename_i hle
      cases h
      refine ⟨.agg (vs.extract off (off + n)), by simp [part, run_isAgg' ha, run_sizeOf' hs], .of_agg ?_⟩
      have : (vs.extract off (off + n)).toList = (vs.toList.drop off).take n := by
        rw [Array.toList_extract, List.extract_eq_take_drop]; congr 1; omega
      rw [this]
      exact (hd.drop off).take n
    · exact nomatch h
  · rename_i n ha hs
    have hl := hd.length
    have hoff : off < cs.length := by
      rcases Nat.lt_or_ge off cs.length with h' | h'
      · exact h'
      · rw [List.getElem?_eq_none h'] at h; exact nomatch h
    have hu : vs.toList[off]? = some (vs.toList[off]'(by rw [hl]; exact hoff)) := List.getElem?_eq_getElem _
    have hden := hd.index off d _ h hu
    rw [Array.getElem?_toList] at hu
    exact ⟨_, by simp only [part, Sem.run_bind, run_isAgg' ha, Result.andThen_ok, Bool.false_eq_true, if_false, hu]; rfl, hden⟩
  · exact nomatch h

theorem run_eqFieldsD {d : Nat} {eq : TypeId → D → D → Option Bool} {xs ys : List D} {vx vy : Array Value} (hx : DenDL K.imm xs vx.toList) (hy : DenDL K.imm ys vy.toList)
    (he : ∀ t a b va vb r, eq t a b = some r → DenD K.imm a va → DenD K.imm b vb → (Op.equalIn d t va vb).run P w = .ok r w) :
    ∀ {fs : List Field} {r : Bool}, eqFieldsD P eq xs ys fs = some r → (Op.eqFields d vx vy fs).run P w = .ok r w
  | [], r, h => by simp [eqFieldsD] at h; subst h; simp [Op.eqFields]
  | f :: fs, r, h => by
    simp only [eqFieldsD] at h
    split at h
    · exact nomatch h
    · rename_i hn
      split at h
      · rename_i a b ha hb
        obtain ⟨va, h1, h2⟩ := run_partD (P := P) (w := w) hx ha
        obtain ⟨vb, h3, h4⟩ := run_partD (P := P) (w := w) hy hb
        simp only [Op.eqFields, hn, ne_eq, not_false_eq_true, if_true, Sem.run_bind, h1, h3, Result.andThen_ok]
        split at h
        · rename_i he'
          rw [he _ _ _ _ _ _ he' h2 h4]
          simpa using run_eqFieldsD hx hy he h
        · rename_i he'
          rw [he _ _ _ _ _ _ he' h2 h4]
          cases h
          simp
        · exact nomatch h
      · exact nomatch h

theorem str_beq (a b : List UInt8) : ((ByteArray.mk a.toArray) == (ByteArray.mk b.toArray)) = (a == b) := by
  rw [beq_toListBytes, toList_mk, toList_mk]

theorem run_eqD : ∀ {n : Nat} {t : TypeId} {x y : D} {vx vy : Value} {r : Bool}, eqD P n t x y = some r → DenD K.imm x vx → DenD K.imm y vy →
    ∀ m, n ≤ m → (Op.equalIn m t vx vy).run P w = .ok r w
  | 0, _, _, _, _, _, _, h, _, _, _, _ => by simp [eqD] at h
  | n + 1, t, x, y, vx, vy, r, h, hx, hy, m, hm => by
    obtain ⟨m, rfl⟩ : ∃ k, m = k + 1 := ⟨m - 1, by omega⟩
    simp only [eqD] at h
    split at h
    · rename_i hu; cases h; cases hx; cases hy; simp [Op.equalIn, run_underlying' hu]
    · rename_i hu
      split at h
      · rename_i hk; cases h; cases hx; cases hy; subst hk; simp [Op.equalIn, run_underlying' hu]
      · exact nomatch h
    · rename_i hu
      obtain rfl := Option.some.inj h
      cases hx; cases hy
      simp only [Op.equalIn, Sem.run_bind, run_underlying' hu, Result.andThen_ok, str_beq]
      rfl
    · rename_i fields xs ys hu
      split at h
      · exact nomatch h
      · rename_i hst
        obtain ⟨va, rfl, ha⟩ := hx.agg_list
        obtain ⟨vb, rfl, hb⟩ := hy.agg_list
        have hf : P.fieldsOf t = fields := by simp [Program.fieldsOf, hu]
        rw [run_equalIn_struct w m t va vb (by rw [hf]; exact hu) (by simpa using hst), hf]
        exact run_eqFieldsD ha hb (fun t a b va vb r he h1 h2 => run_eqD he h1 h2 m (by omega)) h
    · exact nomatch h

theorem run_eqA {t : TypeId} {x y : AV} {vx vy : Value} {r : Bool} (h : eqA P t x y = some r) (hx : Den K x vx) (hy : Den K y vy) :
    (Op.equal t vx vy).run P w = .ok r w ∧ ∀ xo yo op, (eqGuard op t xo yo vx vy).run P w = .ok () w := by
  unfold eqA at h
  unfold Op.equal
  obtain ⟨md, hd, hm8⟩ : ∃ m, Op.maxDepth = m + 1 ∧ 8 ≤ m := ⟨9999, rfl, by decide⟩
  split at h
  · rename_i hu; cases h; cases hx with | dat hx => cases hx; cases hy with | dat hy => cases hy; exact ⟨by rw [hd]; simp [Op.equalIn, run_underlying' hu], fun xo yo op => by simp [eqGuard_at_bool]⟩
  · rename_i a b hu
    split at h
    · exact nomatch h
    · rename_i hg
      cases hx with
      | dat hx =>
        cases hy with
        | dat hy =>
          refine ⟨run_eqD h hx hy _ (by rw [hd]; omega), fun xo yo op => ?_⟩
          obtain ⟨va, rfl, ha⟩ := hx.agg_list
          obtain ⟨vb, rfl, hb⟩ := hy.agg_list
          have hg' : P.eqGuardType P.depth t = false := by simpa using hg
          cases op <;> simp [eqGuard, program, Sem.run, hg']
  · rename_i b hu
    cases hx
    cases hy <;> cases h <;> exact ⟨by rw [hd]; simp [Op.equalIn, run_underlying' hu], fun xo yo op => by simp [eqGuard_at_pointer]⟩
  · rename_i hu; cases h; cases hx; cases hy; exact ⟨by rw [hd]; simp [Op.equalIn, run_underlying' hu], fun xo yo op => by simp [eqGuard_at_pointer]⟩
  · rename_i e a b hu
    split at h
    · rename_i hc
      obtain ⟨h1, h2, h3⟩ := hc
      obtain ⟨i, o⟩ := a
      obtain ⟨i', o'⟩ := b
      simp only at h1
      subst h1
      cases hx with
      | ptr _ _ bx hbx =>
        cases hy with
        | ptr _ _ by' hby =>
          have : by' = bx := by rw [hbx] at hby; exact (Option.some.inj hby).symm
          subst this
          refine ⟨?_, fun xo yo op => by simp [eqGuard_at_pointer]⟩
          cases hz : sizeA P e with
          | none => rw [hz] at h3; exact nomatch h3
          | some n =>
            have hn : n ≠ 0 := fun e0 => h2 (by rw [hz, e0])
            obtain rfl := Option.some.inj h
            rw [hd]
            simp only [Op.equalIn, Sem.run_bind, run_underlying' hu, Result.andThen_ok, run_sizeOf' hz, ne_eq, hn, not_false_eq_true, if_true]
            simp only [sameAddr, beq_self_eq_true, if_true]
            have : ((⟨by', o, none⟩ : Addr) == ⟨by', o', none⟩) = ((i, o) == (i, o')) := by
              rw [Bool.eq_iff_iff]; simp
            rw [this]
            rfl
    · exact nomatch h
  · rename_i hu; cases h; cases hx; cases hy; exact ⟨by rw [hd]; simp [Op.equalIn, run_underlying' hu], fun xo yo op => by simp [eqGuard_at_pointer]⟩
  · rename_i hu; cases h; cases hx with | dat hx => cases hx; cases hy with | dat hy => cases hy; exact ⟨by rw [hd]; simp [Op.equalIn, run_underlying' hu], fun xo yo op => by simp [eqGuard_at_slice]⟩
  · rename_i hu
    cases h
    cases hy with
    | dat hy =>
      cases hy
      cases hx <;> exact ⟨by rw [hd]; simp [Op.equalIn, run_underlying' hu], fun xo yo op => by simp [eqGuard_at_slice]⟩
  · rename_i hu
    cases h
    cases hy with
    | dat hy =>
      cases hy
      cases hx with
      | dat hx => cases hx; exact ⟨by rw [hd]; simp [Op.equalIn, run_underlying' hu], fun xo yo op => by simp [eqGuard_at_slice]⟩
  · rename_i hu; cases h; cases hx; cases hy; exact ⟨by rw [hd]; simp [Op.equalIn, run_underlying' hu], fun xo yo op => by simp [eqGuard_at_nilFunc]⟩
  · rename_i hu; cases h; cases hx; cases hy; exact ⟨by rw [hd]; simp [Op.equalIn, run_underlying' hu], fun xo yo op => by simp [eqGuard_at_func]⟩
  · exact nomatch h

end
end Go.Proofs.Ytfdcjngclelnhaa

set_option linter.unusedSimpArgs false
namespace Go.Proofs.Ytfdcjngclelnhaa
open Go Go.RowKit

section
variable {P : Program} {K : KW} {w : World}

theorem eqGuard_other {op : BinOp} {t : TypeId} {xo yo : Operand} {vx vy : Value} (h1 : op ≠ .eql) (h2 : op ≠ .neq) : (eqGuard op t xo yo vx vy).run P w = .ok () w := by
  cases op <;> first | rfl | exact absurd rfl h1 | exact absurd rfl h2

theorem run_eql {t : TypeId} {vx vy : Value} {r : Bool} (h : (Op.equal t vx vy).run P w = .ok r w) (hi : ∀ k a k' b, ¬ (vx = .int k a ∧ vy = .int k' b)) (hs : ∀ a b, ¬ (vx = .string a ∧ vy = .string b))
    (hf : ∀ k a k' b, ¬ (vx = .float k a ∧ vy = .float k' b)) (hc : ∀ k a b k' c d, ¬ (vx = .complex k a b ∧ vy = .complex k' c d)) : (binOp .eql t vx vy).run P w = .ok (.bool r) w ∧ (binOp .neq t vx vy).run P w = .ok (.bool (!r)) w := by
  unfold binOp
  constructor
  all_goals
    split
    all_goals first
      | (simp only [Sem.run_bind, h, Result.andThen_ok]; rfl)
      | (exfalso; exact hi _ _ _ _ ⟨rfl, rfl⟩)
      | (exfalso; exact hs _ _ ⟨rfl, rfl⟩)
      | (exfalso; exact hf _ _ _ _ ⟨rfl, rfl⟩)
      | (exfalso; exact hc _ _ _ _ _ _ ⟨rfl, rfl⟩)
      | (exfalso; contradiction)
      | (simp_all; done)

theorem run_binA {op : BinOp} {t : TypeId} {x y v : AV} {vx vy : Value} {xo yo : Operand} (h : binA P op t x y = some v) (hx : Den K x vx) (hy : Den K y vy) :
    ∃ u, (do eqGuard op t xo yo vx vy; binOp op t vx vy : Sem Value).run P w = .ok u w ∧ Den K v u := by
  unfold binA at h
  split at h
  · rename_i k a k' b
    cases hx with | dat hx => ?_
    cases hy with | dat hy => ?_
    cases hx; cases hy
    split at h
    · simp only [Option.map_eq_some_iff] at h
      obtain ⟨d, hd, rfl⟩ := h
      obtain ⟨u, h1, h2⟩ := den_shiftOp (P := P) (w := w) (K := K) (k' := k') (t := t) hd
      exact ⟨u, by simp only [Sem.run_bind, eqGuard_at_int, Sem.run_pure, Result.andThen_ok]; exact h1, .dat h2⟩
    · simp only [Option.map_eq_some_iff] at h
      obtain ⟨d, hd, rfl⟩ := h
      obtain ⟨u, h1, h2⟩ := den_shiftOp (P := P) (w := w) (K := K) (k' := k') (t := t) hd
      exact ⟨u, by simp only [Sem.run_bind, eqGuard_at_int, Sem.run_pure, Result.andThen_ok]; exact h1, .dat h2⟩
    · split at h
      · rename_i hk
        subst hk
        simp only [Option.map_eq_some_iff] at h
        obtain ⟨d, hd, rfl⟩ := h
        obtain ⟨u, h1, h2⟩ := den_intOp (P := P) (w := w) (K := K) (t := t) hd
        exact ⟨u, by simp only [Sem.run_bind, eqGuard_at_int, Sem.run_pure, Result.andThen_ok]; exact h1, .dat h2⟩
      · exact nomatch h
  · rename_i a b
    cases hx with | dat hx => ?_
    cases hy with | dat hy => ?_
    cases hx; cases hy
    simp only [Option.map_eq_some_iff] at h
    obtain ⟨d, hd, rfl⟩ := h
    obtain ⟨u, h1, h2⟩ := den_strOp (P := P) (w := w) (K := K) (t := t) hd
    exact ⟨u, by simp only [Sem.run_bind, eqGuard_at_string, Sem.run_pure, Result.andThen_ok]; exact h1, .dat h2⟩
  · rename_i hni hns
    have hi : ∀ k a k' b, ¬ (vx = .int k a ∧ vy = .int k' b) := by
      rintro k a k' b ⟨rfl, rfl⟩
      cases hx with | dat hx => ?_
      cases hy with | dat hy => ?_
      cases hx; cases hy
      exact hni _ _ _ _ rfl rfl
    have hs : ∀ a b, ¬ (vx = .string a ∧ vy = .string b) := by
      rintro a b ⟨rfl, rfl⟩
      cases hx with | dat hx => ?_
      cases hy with | dat hy => ?_
      cases hx; cases hy
      exact hns _ _ rfl rfl
    have hf : ∀ k a k' b, ¬ (vx = .float k a ∧ vy = .float k' b) := by
      rintro k a k' b ⟨rfl, rfl⟩
      cases hx with | dat hx => cases hx
    have hc : ∀ k a b k' c d, ¬ (vx = .complex k a b ∧ vy = .complex k' c d) := by
      rintro k a b k' c d ⟨rfl, rfl⟩
      cases hx with | dat hx => cases hx
    split at h
    · simp only [Option.map_eq_some_iff] at h
      obtain ⟨r, hr, rfl⟩ := h
      obtain ⟨h1, h2⟩ := run_eqA (w := w) hr hx hy
      obtain ⟨h3, _⟩ := run_eql h1 hi hs hf hc
      exact ⟨_, by simp only [Sem.run_bind, h2, Result.andThen_ok]; exact h3, .dat (.bool _)⟩
    · simp only [Option.map_eq_some_iff] at h
      obtain ⟨r, hr, rfl⟩ := h
      obtain ⟨h1, h2⟩ := run_eqA (w := w) hr hx hy
      obtain ⟨_, h3⟩ := run_eql h1 hi hs hf hc
      exact ⟨_, by simp only [Sem.run_bind, h2, Result.andThen_ok]; exact h3, .dat (.bool _)⟩
    · exact nomatch h

theorem run_unA {op : UnOp} {x v : AV} {vx : Value} (h : unA op x = some v) (hx : Den K x vx) : ∃ u, (Op.unary op vx).run P w = .ok u w ∧ Den K v u := by
  unfold unA at h
  split at h
  · cases h; cases hx with | dat hx => ?_
    cases hx; exact ⟨_, by simp [Op.unary, Op.intArith], .dat (.int _ _)⟩
  · cases h; cases hx with | dat hx => ?_
    cases hx; exact ⟨_, by simp [Op.unary], .dat (.bool _)⟩
  · exact nomatch h

theorem run_fieldA {t : TypeId} {x v : AV} {vx : Value} {f : Nat} (h : fieldA P t x f = some v) (hx : Den K x vx) : ∃ u, (Instr.field t vx f).run P w = .ok u w ∧ Den K v u := by
  unfold fieldA at h
  split at h
  · rename_i fields hu
    split at h
    · rename_i fd hf
      split at h
      · cases hx with | dat hx => ?_
        obtain ⟨vs, rfl, hl⟩ := hx.agg_list
        obtain ⟨u, h1, h2⟩ := run_part (P := P) (w := w) (DenL.of_dat hl) h
        exact ⟨u, by simp [Instr.field, run_underlying' hu, hf, asAgg, h1], h2⟩
      · obtain ⟨vs, rfl, hl⟩ := hx.agg_list
        obtain ⟨u, h1, h2⟩ := run_part (P := P) (w := w) hl h
        exact ⟨u, by simp [Instr.field, run_underlying' hu, hf, asAgg, h1], h2⟩
      · exact nomatch h
    · exact nomatch h
  · exact nomatch h

theorem addr_add (b o n : Nat) : Addr.add ⟨b, o, none⟩ n = ⟨b, o + n, none⟩ := Addr.add_lit b o n

theorem run_fieldAddrA {t : TypeId} {x v : AV} {vx : Value} {f : Nat} (h : fieldAddrA P t x f = some v) (hx : Den K x vx) : ∃ u, (Instr.fieldAt t vx f).run P w = .ok u w ∧ Den K v u := by
  unfold fieldAddrA at h
  split at h
  · rename_i fields hu
    split at h
    · rename_i fd hf
      split at h
      · rename_i n hs
        split at h
        · cases h
          cases hx with
          | ptr id off b hb =>
            exact ⟨_, by simp [Instr.fieldAt, run_underlying' hu, hf, Instr.sureAddr, fieldPlace, run_sizeOf' hs, addr_add], .ptr _ _ b hb⟩
        · cases h
          cases hx with
          | ep cs off b o vs hd hv =>
            exact ⟨_, by simp [Instr.fieldAt, run_underlying' hu, hf, Instr.sureAddr, fieldPlace, run_sizeOf' hs, addr_add, Nat.add_assoc], .ep _ _ b o vs hd hv⟩
        · exact nomatch h
      · exact nomatch h
    · exact nomatch h
  · exact nomatch h

theorem run_indexA {t : TypeId} {x i v : AV} {vx vi : Value} (h : indexA P t x i = some v) (hx : Den K x vx) (hi : Den K i vi) : ∃ u, (Instr.index t vx vi).run P w = .ok u w ∧ Den K v u := by
  unfold indexA at h
  split at h
  · rename_i k n
    cases hi with | dat hi => ?_
    cases hi
    split at h
    · exact nomatch h
    · rename_i hn
      have hn' : 0 ≤ n := by omega
      split at h
      · rename_i s hu
        split at h
        · rename_i b hb
          cases h
          cases hx with | dat hx => ?_
          cases hx
          have hg : (ByteArray.mk s.toArray)[n.toNat]? = some b := by
            have hlt : n.toNat < s.length := by
              rcases Nat.lt_or_ge n.toNat s.length with h' | h'
              · exact h'
              · rw [List.getElem?_eq_none h'] at hb; exact nomatch hb
            rw [List.getElem?_eq_getElem hlt] at hb
            have hsz : n.toNat < (ByteArray.mk s.toArray).size := by simpa [ByteArray.size] using hlt
            rw [getElem?_pos (ByteArray.mk s.toArray) n.toNat hsz]
            exact hb
          exact ⟨_, by simp [Instr.index, asIntOf, run_underlying' hu, hn', hg], .dat (.int _ _)⟩
        · exact nomatch h
      · rename_i len elem hu
        split at h
        · rename_i sz hs
          split at h
          · rename_i hlt
            split at h
            · cases hx with | dat hx => ?_
              obtain ⟨vs, rfl, hl⟩ := hx.agg_list
              obtain ⟨u, h1, h2⟩ := run_part (P := P) (w := w) (DenL.of_dat hl) h
              exact ⟨u, by simp [Instr.index, asIntOf, run_underlying' hu, hn', hlt, run_sizeOf' hs, h1], h2⟩
            · obtain ⟨vs, rfl, hl⟩ := hx.agg_list
              obtain ⟨u, h1, h2⟩ := run_part (P := P) (w := w) hl h
              exact ⟨u, by simp [Instr.index, asIntOf, run_underlying' hu, hn', hlt, run_sizeOf' hs, h1], h2⟩
            · exact nomatch h
          · exact nomatch h
        · exact nomatch h
      · exact nomatch h
  · exact nomatch h

theorem run_indexAddrA {t : TypeId} {x i v : AV} {vx vi : Value} (h : indexAddrA P t x i = some v) (hx : Den K x vx) (hi : Den K i vi) : ∃ u, (Instr.indexAt t vx vi).run P w = .ok u w ∧ Den K v u := by
  unfold indexAddrA at h
  split at h
  · rename_i k n
    cases hi with | dat hi => ?_
    cases hi
    split at h
    · exact nomatch h
    · rename_i hn
      have hn' : 0 ≤ n := by omega
      split at h
      · rename_i elem hu
        split at h
        · rename_i sz es hs he
          split at h
          · rename_i e hee
            split at h
            · rename_i hsz
              cases h
              obtain ⟨a, cap, rfl, hcap, b, o, sz', ha, hcells⟩ := den_elems hx he
              have hlt : n.toNat < es.length := by
                rcases Nat.lt_or_ge n.toNat es.length with h' | h'
                · exact h'
                · rw [List.getElem?_eq_none h'] at hee; exact nomatch hee
              have hne : es ≠ [] := by rintro rfl; simp at hlt
              obtain ⟨h1, vs, h2, h3⟩ := hcells.elem hee
              obtain rfl : sz' = sz := by omega
              rw [ha hne]
              have hlt' : n < (es.length : Int) := by omega
              refine ⟨.pointer (some ⟨b, o + n.toNat * sz', none⟩), ?_, ?_⟩
              · simp only [Instr.indexAt, asIntOf, Sem.run_bind, Sem.run_pure, Result.andThen_ok, run_underlying' hu, run_sizeOf' hs, hn', hlt', and_self, if_true, addr_add]
              · exact .ep e.cells 0 b (o + n.toNat * sz') vs h2 h3
            · exact nomatch h
          · exact nomatch h
        · exact nomatch h
      · rename_i len elem hu
        split at h
        · rename_i sz hs
          split at h
          · rename_i hlt
            split at h
            · cases h
              cases hx with
              | ptr id off b hb =>
                exact ⟨_, by simp only [Instr.indexAt, asIntOf, Sem.run_bind, Sem.run_pure, Result.andThen_ok, run_underlying' hu, run_sizeOf' hs, Instr.sureAddr, hn', hlt, and_self, if_true, addr_add], .ptr _ _ b hb⟩
            · cases h
              cases hx with
              | ep cs off b o vs hd hv =>
                exact ⟨_, by simp only [Instr.indexAt, asIntOf, Sem.run_bind, Sem.run_pure, Result.andThen_ok, run_underlying' hu, run_sizeOf' hs, Instr.sureAddr, hn', hlt, and_self, if_true, addr_add, Nat.add_assoc], .ep _ _ b o vs hd hv⟩
            · exact nomatch h
          · exact nomatch h
        · exact nomatch h
      · exact nomatch h
  · exact nomatch h

theorem run_lenA {t ty : TypeId} {x v : AV} {vx : Value} {ts : Array TypeId} {vs : Array Value} (h : lenA P t x = some v) (hx : Den K x vx) (ht : ts[0]? = some t) (hv : vs[0]? = some vx) : ∃ u, (Builtin.len_ ts ty vs).run P w = .ok u w ∧ Den K v u := by
  unfold lenA at h
  split at h
  · rename_i s hu
    cases h
    cases hx with | dat hx => ?_
    cases hx
    have hz : (ByteArray.mk s.toArray).size = s.length := by simp [ByteArray.size]
    exact ⟨_, by simp only [Builtin.len_, ht, hv, Sem.run_bind, run_underlying' hu, Result.andThen_ok, hz, goInt, Sem.run_pure], .dat (.int _ _)⟩
  · rename_i e hu
    simp only [Option.map_eq_some_iff] at h
    obtain ⟨es, he, rfl⟩ := h
    obtain ⟨a, cap, rfl, _⟩ := den_elems hx he
    exact ⟨_, by simp [Builtin.len_, ht, hv, run_underlying' hu, goInt], .dat (.int _ _)⟩
  · rename_i n e hu
    cases h
    exact ⟨_, by simp [Builtin.len_, ht, hv, run_underlying' hu, goInt], .dat (.int _ _)⟩
  · exact nomatch h

theorem run_nilCheckA {a : Act} {o : Oper} {xo : Operand} {x v : AV} (ho : o.op = .nilCheck xo) (h : nilCheckA x = some v) (hx : Den K x (a.eval xo)) : (execOp a.eval o).run P w = .ok (.value (a.eval xo)) w ∧ Den K v (a.eval xo) := by
  have he : execOp a.eval o = execOp a.eval { o with op := .nilCheck xo } := by cases o; simp only at ho; subst ho; rfl
  rw [he]
  simp only [execOp]
  generalize a.eval xo = vx at hx
  unfold nilCheckA at h
  split at h
  · exact nomatch h
  · exact nomatch h
  · exact nomatch h
  · cases h
    obtain ⟨va, vc, rfl, _⟩ := hx.func_list
    exact ⟨rfl, hx⟩
  · exact nomatch h
  · rename_i h1 h2 h3 h4 h5
    cases h
    refine ⟨?_, hx⟩
    cases hx with
    | func fn a c va vc => exact (h5 _ _ _ rfl).elim
    | dat h => cases h <;> rfl
    | pnil => exact (h1 rfl).elim
    | nilFunc => exact (h3 rfl).elim
    | nilIface => exact (h2 rfl).elim
    | _ => rfl

end
end Go.Proofs.Ytfdcjngclelnhaa

set_option linter.unusedSimpArgs false
namespace Go.Proofs.Ytfdcjngclelnhaa
open Go Go.RowKit

section
variable {P : Program} {K : KW} {w : World} {hc : Nat → Option AObj} {V : Nat → Prop} {ow : Nat → Option OKey}

theorem BoxOk.cell_at {id : Nat} {e : TypeId} {cs : List AV} {ver b : Nat} {vs : Array Value} (h : BoxOk K w ow id e cs ver b vs) (j : Nat) (v : Value) (hv : vs.toList[j]? = some v) : w.cell? ⟨b, 0 + j, none⟩ = some v := by
  rw [cell_of h.heap, Nat.zero_add, ← Array.getElem?_toList]; exact hv

theorem run_loadA {t : TypeId} {x v : AV} {vx : Value} {h : Heap} (hk : OkW K hc V w ow) (hh : ∀ id o, h[id]? = some (some o) → hc id = some o) (hl : loadA P t x h = some v) (hx : Den K x vx) :
    ∃ u, (Instr.loadAt t vx).run P w = .ok u w ∧ Den K v u := by
  unfold loadA at hl
  split at hl
  · rename_i id off
    split at hl
    · rename_i e cs ver hid
      obtain ⟨b, vs, hb⟩ := hk.box id _ _ _ (hh _ _ hid)
      cases hx with
      | ptr _ _ b' hb' =>
        obtain rfl : b' = b := by rw [hb.blk] at hb'; exact (Option.some.inj hb').symm
        obtain ⟨u, h1, h2⟩ := run_loadVar_cells (P := P) (w := w) hb.den hb.cell_at hl
        rw [Nat.zero_add] at h1
        exact ⟨u, by simp [Instr.loadAt, Instr.sureAddr, h1], h2⟩
    · exact nomatch hl
  · cases hx with
    | ep _ _ b o vs hd hv =>
      obtain ⟨u, h1, h2⟩ := run_loadVar_cells (P := P) (w := w) (DenL.of_dat hd) (fun j v hj => hk.imm _ _ (hv j v hj)) hl
      exact ⟨u, by simp [Instr.loadAt, Instr.sureAddr, h1], h2⟩
  · exact nomatch hl

theorem shape_of {b : Nat} {vs : Array Value} {e : TypeId} {f : Nat × Nat} (h : w.heap[b]? = some (.cells vs e f)) : w.shape? b = some (e, vs.size) := by simp [World.shape?, h]

theorem run_viewAt {b : Nat} {vs : Array Value} {e : TypeId} {f : Nat × Nat} (h : w.heap[b]? = some (.cells vs e f)) : (viewAt b).run P w = .ok none w := by
  simp [viewAt, shape_of h]

theorem run_convPtr {s d : TypeId} {o : Option (Nat × Nat)} {v : AV} {vx : Value} {h : Heap} (hk : OkW K hc V w ow) (hh : ∀ id o, h[id]? = some (some o) → hc id = some o) (hl : convPtr P s d (.ptr o) h = some v) (hx : Den K (.ptr o) vx) :
    ∃ u, (convert s d vx).run P w = .ok u w ∧ Den K v u := by
  unfold convPtr at hl
  split at hl
  · rename_i e h1 h2 h3
    cases hl
    cases h3
    cases hx
    exact ⟨_, by simp [convert, run_underlying' h1, run_underlying' h2, Conv.unsafePointer], .pnil⟩
  · rename_i t id off h1 h2 h3
    cases h3
    split at hl
    · rename_i e cs ver hid
      split at hl
      · rename_i hc'
        obtain ⟨g1, g2, g3⟩ := hc'
        cases hl
        obtain ⟨b, vs, hb⟩ := hk.box id _ _ _ (hh _ _ hid)
        cases hx with
        | ptr _ _ b' hb' =>
          obtain rfl : b' = b := by rw [hb.blk] at hb'; exact (Option.some.inj hb').symm
          have hsz : vs.size = cs.length := by have := hb.den.length; simpa using this
          cases hz : sizeA P t with
          | none => rw [hz] at g3; exact nomatch g3
          | some n =>
            have hn : n ≠ 0 := fun e0 => g2 (by rw [hz, e0])
            refine ⟨_, ?_, .ptr _ _ b' hb'⟩
            have hlt : ¬ vs.size ≤ off := by omega
            simp [convert, run_underlying' h1, run_underlying' h2, Conv.unsafePointer, Conv.seenAt, run_viewAt hb.heap, cellsIn, shape_of hb.heap, run_sizeOf' hz, hn, hlt]
      · exact nomatch hl
    · exact nomatch hl
  · rename_i e h1 h2 h3
    cases hl
    cases h3
    cases hx
    exact ⟨_, by simp [convert, run_underlying' h1, run_underlying' h2, Conv.unsafePointer], .pnil⟩
  · rename_i u id off h1 h2 h3
    cases h3
    split at hl
    · rename_i e cs ver hid
      split at hl
      · rename_i hc'
        obtain ⟨g1, g2⟩ := hc'
        cases hl
        obtain ⟨b, vs, hb⟩ := hk.box id _ _ _ (hh _ _ hid)
        cases hx with
        | ptr _ _ b' hb' =>
          obtain rfl : b' = b := by rw [hb.blk] at hb'; exact (Option.some.inj hb').symm
          have hsz : vs.size = cs.length := by have := hb.den.length; simpa using this
          cases hz : sizeA P u with
          | none => rw [hz] at g1; exact nomatch g1
          | some n =>
            refine ⟨_, ?_, .ptr _ _ b' hb'⟩
            simp only [convert, Sem.run_bind, run_underlying' h1, run_underlying' h2, Result.andThen_ok, Conv.unsafePointer, Conv.seenAt, run_viewAt hb.heap, Sem.run_pure, run_sizeOf' hz, variablesAt, run_shape, shape_of hb.heap, run_program, hsz, g2, Bool.or_true, decide_eq_true_eq, or_true, if_true]
      · exact nomatch hl
    · exact nomatch hl
  · exact nomatch hl

theorem bytesOf_den : ∀ {es : List D} {s : List UInt8} {vs : List Value}, bytesOf es = some s → DenDL K.imm (es.flatMap D.cells) vs → ∃ ns : List Int, vs = ns.map (Value.int .u8) ∧ s = ns.map fun n => UInt8.ofNat n.toNat
  | [], s, vs, h, hd => by
    simp [bytesOf] at h
    subst h
    cases hd
    exact ⟨[], rfl, rfl⟩
  | e :: es, s, vs, h, hd => by
    unfold bytesOf at h
    split at h
    case h_1 heq => exact nomatch heq
    case h_3 => exact nomatch h
    rename_i n r' heq
    cases heq
    simp only [Option.map_eq_some_iff] at h
    obtain ⟨r, hr, rfl⟩ := h
    simp only [List.flatMap_cons, D.cells, List.cons_append, List.nil_append] at hd
    cases hd with
    | cons h1 h2 =>
      cases h1
      obtain ⟨ns, e1, e2⟩ := bytesOf_den hr h2
      exact ⟨n :: ns, by rw [e1]; rfl, by rw [e2]; rfl⟩

theorem foldl_push (ns : List Int) : ∀ acc : ByteArray, ns.foldl (fun r n => r.push (UInt8.ofNat n.toNat)) acc = ⟨(acc.data.toList ++ ns.map fun n => UInt8.ofNat n.toNat).toArray⟩ := by
  induction ns with
  | nil => intro acc; cases acc; simp
  | cons n ns ih => intro acc; simp [ih]

theorem heap_freeze_ne {a : Addr} {n b : Nat} (h : b ≠ a.block) : (w.freeze a n).heap[b]? = w.heap[b]? := by
  unfold World.freeze
  split
  · rfl
  · simp only [Array.getElem?_modify]; rw [if_neg (fun e => h e.symm)]

theorem size_freeze {a : Addr} {n : Nat} : (w.freeze a n).heap.size = w.heap.size := by
  unfold World.freeze; split <;> simp

theorem heap_freeze_at {a : Addr} {n : Nat} {vs : Array Value} {e : TypeId} {lo hi : Nat} (h : w.heap[a.block]? = some (.cells vs e (lo, hi))) :
    (w.freeze a n).heap[a.block]? = some (.cells vs e (if n = 0 then (lo, hi) else if lo == hi then (a.off, a.off + n) else (min lo a.off, max hi (a.off + n)))) := by
  unfold World.freeze
  split
  · exact h
  · simp only [Array.getElem?_modify, if_true, h, Option.map_some]

theorem OkW.freeze {K : KW} {h : Nat → Option AObj} (hk : OkW K h V w ow) {a : Addr} {n : Nat} {vs : Array Value} {e : TypeId} {lo hi : Nat} (hb : w.heap[a.block]? = some (.cells vs e (lo, hi))) (hn : ow a.block = none) (hbase : K.base.heap.size ≤ a.block) : OkW K h V (w.freeze a n) ow := by
  refine hk.world ?_ (by rw [size_freeze]; omega) (fun b k ho => heap_freeze_ne fun e => by rw [e, hn] at ho; exact nomatch ho) fun x c hx => ?_
  · refine hk.below.trans ⟨?_, ?_, ?_, by rw [size_freeze]; omega, fun k hk => heap_freeze_ne (by omega)⟩ <;> (unfold World.freeze; split <;> rfl)
  · have := hk.imm x c hx
    by_cases hx' : x.block = a.block
    · obtain ⟨vs', e', f', g1, g2, g3⟩ := cell_block this
      rw [hx', hb] at g1
      cases g1
      obtain ⟨xb, xo, xs⟩ := x
      simp only at hx' g2 g3
      subst g2; subst hx'
      rw [cell_of (heap_freeze_at hb)]; exact g3
    · rw [cell_same (heap_freeze_ne hx')]; exact this

theorem choose_cap {need old : Nat} {elem : TypeId} : ∃ cap w', (choose (.appendCap need old elem)).run P w = .ok cap w' ∧ w' = w.drew ∧ need ≤ cap := by
  refine ⟨(Question.appendCap need old elem).cut (w.tape w.drawn (.appendCap need old elem)), w.drew, ?_, rfl, ?_⟩
  · simp [choose, Sem.run, Question.forced]
  · simp [Question.cut]

end
end Go.Proofs.Ytfdcjngclelnhaa

set_option linter.unusedSimpArgs false
namespace Go.Proofs.Ytfdcjngclelnhaa
open Go Go.RowKit

/-- an operation gives a value, and leaves a world that fits a heap -/
def Gives (P : Program) (K : KW) (w : World) (s : Sem Value) (v : AV) (h : Nat → Option AObj) (V : Nat → Prop) : Prop :=
  ∃ u w' K', s.run P w = .ok u w' ∧ Kext K K' ∧ Den K' v u ∧ Ok K' h V w'

section
variable {P : Program} {K : KW} {w : World} {hc : Nat → Option AObj} {V : Nat → Prop} {ow : Nat → Option OKey}

theorem Gives.same {s : Sem Value} {v : AV} (hok : Ok K hc V w) (h : ∃ u, s.run P w = .ok u w ∧ Den K v u) : Gives P K w s v hc V := by
  obtain ⟨u, h1, h2⟩ := h
  exact ⟨u, w, K, h1, Kext.refl K, h2, hok⟩

theorem OkW.not_own_new (hk : OkW K hc V w ow) : ow w.heap.size = none := by
  cases ho : ow w.heap.size with
  | none => rfl
  | some k => have := hk.own _ _ ho; omega

theorem denDL_ints {imm : Imm} (s : List UInt8) : DenDL imm ((s.map fun b => D.int .u8 b.toNat).flatMap D.cells) (s.map fun b => Value.int .u8 b.toNat) := by
  induction s with
  | nil => exact .nil
  | cons b s ih => simp only [List.map_cons, List.flatMap_cons, D.cells, List.cons_append, List.nil_append]; exact .cons (.int _ _) ih

/-- the elements of a block whose first cells are told -/
theorem cells_withImm {b m sz : Nat} {arr : Array Value} {es : List D} {vs : List Value} (hsz : ∀ e, e ∈ es → e.cells.length = sz) (hd : DenDL K.imm (es.flatMap D.cells) vs) (hl : vs.length ≤ m)
    (harr : ∀ (j : Nat) (v : Value), vs[j]? = some v → arr[j]? = some v) (hext : Kext K (withImm K b m arr)) : Cells (withImm K b m arr).imm b 0 sz es := by
  refine ⟨hsz, vs, hd.mono hext.imm, fun j v hj => ?_⟩
  have hjl : j < vs.length := by
    rcases Nat.lt_or_ge j vs.length with h | h
    · exact h
    · rw [List.getElem?_eq_none h] at hj; exact nomatch hj
  rw [Nat.zero_add, withImm_in (by omega)]
  exact harr j v hj

theorem gives_convA {s d : TypeId} {x v : AV} {vx : Value} (hok : Ok K hc V w) (h : convA P s d x = some v) (hx : Den K x vx) : Gives P K w (convert s d vx) v hc V := by
  unfold convA at h
  split at h
  · rename_i sd k k' n h1 h2
    cases h
    cases hx with | dat hx => ?_
    cases hx
    exact .same hok ⟨_, by simp [convert, run_underlying' h1, run_underlying' h2, Conv.intToInt], .dat (.int _ _)⟩
  · rename_i sd s h1 h2
    cases h
    cases hx with | dat hx => ?_
    cases hx
    refine .same hok ⟨_, ?_, .dat (.str _)⟩
    simp only [convert, Sem.run_bind, run_underlying' h1, run_underlying' h2, Result.andThen_ok]
    rfl
  · rename_i e h1 h2 _
    split at h
    · rename_i es h3 h4
      simp only [Option.map_eq_some_iff] at h
      obtain ⟨s, hs, rfl⟩ := h
      obtain ⟨a, cap, rfl, hcap, b, o, sz, ha, hsz, vs, hd, hv⟩ := den_elems hx h4
      obtain ⟨ns, rfl, rfl⟩ := bytesOf_den hs hd
      obtain ⟨ow, hk⟩ := hok
      refine .same ⟨ow, hk⟩ ⟨.string ⟨(ns.map fun n => UInt8.ofNat n.toNat).toArray⟩, ?_, .dat (.str _)⟩
      rw [run_convert_bytes_string (P := P) w _ _ e a es.length cap h1 h3 h2]
      by_cases hne : es = []
      · subst hne
        cases ns with
        | nil =>
          cases a with
          | none => simp [Conv.bytesToString]; rfl
          | some a =>
            rw [List.length_nil, run_bytesToString (P := P) w a 0 cap [] (by simp [loadCells, loadCellsFrom])]
            rfl
        | cons n ns => have := hd.length; simp at this
      · rw [ha hne]
        have hlen : (ns.map (Value.int .u8)).length = es.length := by
          have h1 := hd.length
          have h2 := flat_length hsz
          have h3 : sz = 1 := by
            cases es with
            | nil => exact absurd rfl hne
            | cons e es =>
              have := hsz e (by simp)
              unfold bytesOf at hs
              split at hs
              case h_1 heq => exact nomatch heq
              case h_3 => exact nomatch hs
              rename_i n r' heq
              cases heq
              simpa [D.cells] using this.symm
          rw [h3] at h2; omega
        rw [run_bytesToString (P := P) w ⟨b, o, none⟩ es.length cap ns]
        · rw [foldl_push]; rfl
        · have := run_loadCells_row (P := P) (w := w) (b := b) (o := o) (n := es.length) (vs := ns.map (Value.int .u8)) (by omega) fun j v hj => hk.imm _ _ (hv j v hj)
          rw [this, List.take_of_length_le (by omega)]
    · exact nomatch h
  · rename_i e s h1 h2
    split at h
    · rename_i h3 h4
      cases h
      cases hx with | dat hx => ?_
      cases hx
      obtain ⟨ow, hk⟩ := hok
      obtain ⟨cap, w', hcap, rfl, hle⟩ := choose_cap (P := P) (w := w) (need := s.length) (old := 0) (elem := e)
      let arr : Array Value := (s.map fun b => Value.int .u8 b.toNat).toArray ++ Array.replicate (cap - s.length) (.int .u8 0)
      have hk1 := hk.drew
      obtain ⟨hk2, hext⟩ := hk1.row arr e
      have hnew := hk1.not_own_new
      have hb := heap_pushW_new w.drew (.cells arr e)
      have hk3 := hk2.freeze (a := ⟨w.drew.heap.size, arr.size, none⟩) (n := 1) hb hnew hk1.base_le
      refine ⟨.slice (some ⟨w.drew.heap.size, 0, none⟩) s.length cap, _, _, ?_, hext, .dat ?_, ow, hk3⟩
      · have hz : (ByteArray.mk s.toArray).size = s.length := by simp [ByteArray.size]
        have hel : (Array.map (fun b : UInt8 => Value.int .u8 (b.toNat : Int)) (ByteArray.mk s.toArray).data) = (s.map fun b => Value.int .u8 b.toNat).toArray := by simp
        simp only [convert, Sem.run_bind, run_underlying' h1, run_underlying' h2, run_underlying' h3, Result.andThen_ok, Conv.stringToBytes, hz, hcap, hel, newRow, run_newObj_alloc, markStringish, Sem.run_pure, run_shape]
        rw [shape_of hb]
        simp only [run_freeze, Result.andThen_ok]
        rfl
      · have hl : s.length = (s.map fun b => D.int .u8 b.toNat).length := by simp
        rw [hl]
        refine .of_cells (b := w.drew.heap.size) (o := 0) (sz := 1) (by simpa using hle) (fun _ => rfl) ?_
        refine cells_withImm (K := K) (vs := s.map fun b => Value.int .u8 b.toNat) ?_ (denDL_ints s) (by simp [arr]) (fun j v hj => ?_) hext
        · intro e he
          simp at he
          obtain ⟨b, _, rfl⟩ := he
          rfl
        · have hjl : j < (s.map fun b => Value.int .u8 b.toNat).length := by
            rcases Nat.lt_or_ge j (s.map fun b => Value.int .u8 b.toNat).length with h | h
            · exact h
            · rw [List.getElem?_eq_none h] at hj; exact nomatch hj
          rw [Array.getElem?_append_left (by simpa using hjl)]
          simpa using hj
    · exact nomatch h
  · exact nomatch h

end
end Go.Proofs.Ytfdcjngclelnhaa

set_option linter.unusedSimpArgs false
namespace Go.Proofs.Ytfdcjngclelnhaa
open Go Go.RowKit

section
variable {P : Program} {K : KW} {w : World} {hc : Nat → Option AObj} {V : Nat → Prop} {ow : Nat → Option OKey}

theorem run_bound {ts : List AV} {a : Act} (hts : DenL K ts a.tmps.toList) {x : Operand} {dflt top n y : Nat} {code : BoundsCode} (h : boundA ts (some x) dflt top = some n) (hy : top ≤ y) :
    (Instr.sliceBound (a.eval x) y code).run P w = .ok n w ∧ n ≤ top := by
  simp only [boundA] at h
  split at h
  · rename_i k i he
    split at h
    · rename_i hi
      cases h
      have hd := den_evalX hts he
      generalize a.eval x = v at hd ⊢
      cases hd with | dat hd => ?_
      cases hd
      refine ⟨?_, by omega⟩
      have : 0 ≤ i ∧ i ≤ (y : Int) := by omega
      simp [Instr.sliceBound, asIntOf, this]
    · exact nomatch h
  · exact nomatch h

theorem run_bounds2 {ts : List AV} {a : Act} (hts : DenL K ts a.tmps.toList) {lo hi : Option Operand} {len cap h l : Nat} {sl : Bool} (hcap : len ≤ cap) (h1 : boundA ts hi len len = some h) (h2 : boundA ts lo 0 h = some l) :
    (Instr.sliceBounds sl len cap (lo.map a.eval) (hi.map a.eval) none).run P w = .ok (l, h, cap) w ∧ l ≤ h ∧ h ≤ len := by
  have e1 : ∃ r, (match hi.map a.eval with | some v => Instr.sliceBound v cap (if sl then .sliceAcap else .sliceAlen) | none => pure len : Sem Nat).run P w = .ok r w ∧ r = h ∧ h ≤ len := by
    cases hi with
    | none => simp [boundA] at h1; subst h1; exact ⟨_, rfl, rfl, Nat.le_refl _⟩
    | some x => obtain ⟨g1, g2⟩ := run_bound (P := P) (w := w) hts (y := cap) (code := if sl then .sliceAcap else .sliceAlen) h1 hcap; exact ⟨_, g1, rfl, g2⟩
  have e2 : ∃ r, (match lo.map a.eval with | some v => Instr.sliceBound v h .sliceB | none => pure 0 : Sem Nat).run P w = .ok r w ∧ r = l ∧ l ≤ h := by
    cases lo with
    | none => simp [boundA] at h2; subst h2; exact ⟨_, rfl, rfl, Nat.zero_le _⟩
    | some x => obtain ⟨g1, g2⟩ := run_bound (P := P) (w := w) hts (y := h) (code := .sliceB) h2 (Nat.le_refl _); exact ⟨_, g1, rfl, g2⟩
  obtain ⟨r1, e1, rfl, g1⟩ := e1
  obtain ⟨r2, e2, rfl, g2⟩ := e2
  refine ⟨?_, g2, g1⟩
  unfold Instr.sliceBounds
  cases hi with
  | none =>
    simp [boundA] at h1
    subst h1
    simp only [Option.map_none, Sem.run_bind, Sem.run_pure, Result.andThen_ok, Option.isSome_none, Bool.false_eq_true, if_false]
    cases lo with
    | none => simp only [Option.map_none, Sem.run_pure, Result.ok.injEq, and_true] at e2; subst e2; rfl
    | some y => simp only [Option.map_some] at e2 ⊢; simp only [Sem.run_bind, e2, Result.andThen_ok, Sem.run_pure]
  | some x =>
    simp only [Option.map_some] at e1 ⊢
    simp only [Sem.run_bind, Sem.run_pure, Result.andThen_ok, Option.isSome_none, Bool.false_eq_true, if_false, e1]
    cases lo with
    | none => simp only [Option.map_none, Sem.run_pure, Result.ok.injEq, and_true] at e2; subst e2; rfl
    | some y => simp only [Option.map_some] at e2 ⊢; simp only [Sem.run_bind, e2, Result.andThen_ok, Sem.run_pure]

theorem run_bounds3 {ts : List AV} {a : Act} (hts : DenL K ts a.tmps.toList) {lo : Option Operand} {hi mx : Operand} {len cap h l m : Nat} (hcap : len ≤ cap) (h0 : boundA ts (some mx) 0 len = some m) (h1 : boundA ts (some hi) 0 m = some h)
    (h2 : boundA ts lo 0 h = some l) : (Instr.sliceBounds true len cap (lo.map a.eval) (some (a.eval hi)) (some (a.eval mx))).run P w = .ok (l, h, m) w ∧ l ≤ h ∧ h ≤ m ∧ m ≤ len := by
  obtain ⟨e0, g0⟩ := run_bound (P := P) (w := w) hts (y := cap) (code := .slice3Acap) h0 hcap
  obtain ⟨e1, g1⟩ := run_bound (P := P) (w := w) hts (y := m) (code := .slice3B) h1 (Nat.le_refl _)
  have e2 : ∃ r, (match lo.map a.eval with | some v => Instr.sliceBound v h .slice3C | none => pure 0 : Sem Nat).run P w = .ok r w ∧ r = l ∧ l ≤ h := by
    cases lo with
    | none => simp [boundA] at h2; subst h2; exact ⟨_, rfl, rfl, Nat.zero_le _⟩
    | some x => obtain ⟨g1, g2⟩ := run_bound (P := P) (w := w) hts (y := h) (code := .slice3C) h2 (Nat.le_refl _); exact ⟨_, g1, rfl, g2⟩
  obtain ⟨r2, e2, rfl, g2⟩ := e2
  refine ⟨?_, g2, g1, g0⟩
  unfold Instr.sliceBounds
  simp only [Sem.run_bind, if_true, e0, Result.andThen_ok, e1, Option.isSome_some]
  cases lo with
  | none => simp only [Option.map_none, Sem.run_pure, Result.ok.injEq, and_true] at e2; subst e2; rfl
  | some y => simp only [Option.map_some] at e2 ⊢; simp only [Sem.run_bind, e2, Result.andThen_ok, Sem.run_pure]

/-- where a piece of a slice's elements lies -/
theorem piece {imm : Imm} {b o sz n l h m : Nat} {a : Option Addr} {es : List D} (hcells : Cells imm b o sz es) (ha : es ≠ [] → a = some ⟨b, o, none⟩) (hs : sized n es = true) (hl : l ≤ h) (hh : h ≤ es.length) (hm : h ≤ m) :
    ((es.drop l).take (h - l)).length = h - l ∧ Cells imm b (o + l * sz) sz ((es.drop l).take (h - l)) ∧ (((es.drop l).take (h - l)) ≠ [] → (if m = l then a else a.map (·.add (l * n))) = some ⟨b, o + l * sz, none⟩) := by
  refine ⟨by simp; omega, (hcells.drop l (by omega)).take (h - l) (by simp; omega), fun hne => ?_⟩
  have hlt : l < h := by
    rcases Nat.lt_or_ge l h with h' | h'
    · exact h'
    · exfalso; apply hne; have : h - l = 0 := by omega
      simp [this]
  have hes : es ≠ [] := by rintro rfl; simp at hh; omega
  have hn : n = sz := by
    cases es with
    | nil => exact absurd rfl hes
    | cons e es => simp [sized] at hs; rw [← hs]; exact hcells.1 e (by simp)
  rw [if_neg (by omega), ha hes, Option.map_some, addr_add, hn]

theorem run_slice_slice {t elem : TypeId} {n : Nat} {a : Option Addr} {len cap l h m : Nat} {lo hi mx : Option Value} (hu : P.underlying t = some (.slice elem)) (hn : sizeA P elem = some n)
    (hb : (Instr.sliceBounds true len cap lo hi mx).run P w = .ok (l, h, m) w) : (Instr.sliceAt t (.slice a len cap) lo hi mx).run P w = .ok (.slice (if m = l then a else a.map (·.add (l * n))) (h - l) (m - l)) w := by
  simp only [Instr.sliceAt, Sem.run_bind, run_underlying' hu, Result.andThen_ok, Instr.slice, hb, run_sizeOf' hn]
  rfl

theorem den_nils {v : Value} (h : Den K (.dat .nils) v) : v = .slice none 0 0 := by
  cases h with | dat h => ?_
  cases h
  rfl

theorem den_none {x : AV} {v : Value} (h : Den K x v) {n c : Nat} (hv : v = .slice none n c) : x = .dat .nils := by
  cases h with
  | dat h => cases h <;> simp_all
  | _ => simp_all

theorem run_sliceA {ts : List AV} {a : Act} (hts : DenL K ts a.tmps.toList) {t : TypeId} {x v : AV} {vx : Value} {lo hi mx : Option Operand} (h : sliceA P t x lo hi mx ts = some v) (hx : Den K x vx) :
    ∃ u, (Instr.sliceAt t vx (lo.map a.eval) (hi.map a.eval) (mx.map a.eval)).run P w = .ok u w ∧ Den K v u := by
  unfold sliceA at h
  split at h
  · rename_i s hu
    split at h
    · exact nomatch h
    · rename_i hmx
      have : mx = none := by cases mx <;> simp at hmx ⊢
      subst this
      split at h
      · rename_i hh h1
        split at h
        · rename_i l h2
          cases h
          cases hx with | dat hx => ?_
          cases hx
          obtain ⟨e1, e2, e3⟩ := run_bounds2 (P := P) (w := w) hts (sl := false) (Nat.le_refl _) h1 h2
          have hz : (ByteArray.mk s.toArray).size = s.length := by simp [ByteArray.size]
          refine ⟨.string ⟨((s.drop l).take (hh - l)).toArray⟩, ?_, .dat (.str _)⟩
          have hex : (ByteArray.mk s.toArray).extract l hh = ⟨((s.drop l).take (hh - l)).toArray⟩ := by
            apply ByteArray.ext
            rw [ByteArray.data_extract]
            apply Array.ext'
            rw [Array.toList_extract, List.extract_eq_take_drop]
          simp only [Instr.sliceAt, Sem.run_bind, run_underlying' hu, Result.andThen_ok, Instr.slice, Option.map_none, Option.isSome_none, Bool.false_eq_true, if_false, hz, e1, Sem.run_pure, hex]
        · exact nomatch h
      · exact nomatch h
  · rename_i elem hu
    split at h
    · rename_i n es hn he
      split at h
      · rename_i hs
        obtain ⟨ad, cap, rfl, hcap, b, o, sz, ha, hcells⟩ := den_elems hx he
        split at h
        · split at h
          · rename_i hh h1
            split at h
            · rename_i l h2
              obtain ⟨e1, e2, e3⟩ := run_bounds2 (P := P) (w := w) hts (sl := true) hcap h1 h2
              refine ⟨_, run_slice_slice hu hn e1, ?_⟩
              obtain ⟨p1, p2, p3⟩ := piece (m := cap) hcells ha hs e2 e3 (by omega)
              have p4 : ∀ a' : Addr, ad = some a' → ∃ a'', (if cap = l then ad else ad.map (·.add (l * n))) = some a'' := fun a' e => by rw [e]; split <;> exact ⟨_, rfl⟩
              simp only at h
              split at h
              · cases h
                have hnl := den_nils hx
                simp [elems] at he
                subst he
                simp at hnl
                obtain ⟨rfl, rfl⟩ := hnl
                simp at e3
                subst e3
                simp at e2
                subst e2
                exact .dat .nils
              · rename_i es0
                simp [elems] at he
                subst he
                cases hx with
                | full _ a' b' o' sz' ha' hc' =>
                  obtain ⟨a'', ha''⟩ := p4 a' rfl
                  split at h
                  · rename_i hhe
                    cases h
                    subst hhe
                    rw [ha''] at p3 ⊢
                    have := Den.full (K := K) _ a'' b (o + l * sz) sz (fun h => Option.some.inj (p3 h)) p2
                    rwa [p1] at this
                  · cases h
                    rw [ha''] at p3 ⊢
                    have := DenD.of_cells (imm := K.imm) (cap := es0.length - l) (by rw [p1]; omega) (fun h => Option.some.inj (p3 h)) p2
                    rw [p1] at this
                    exact .dat this
              · rename_i hnn hnf
                cases h
                have hsome : ∃ a', ad = some a' := by
                  cases ad with
                  | some a' => exact ⟨a', rfl⟩
                  | none =>
                    exact (hnn (den_none hx rfl)).elim
                obtain ⟨a', rfl⟩ := hsome
                obtain ⟨a'', ha''⟩ := p4 a' rfl
                rw [ha''] at p3 ⊢
                have := DenD.of_cells (imm := K.imm) (cap := cap - l) (by rw [p1]; omega) (fun h => Option.some.inj (p3 h)) p2
                rw [p1] at this
                exact .dat this
            · exact nomatch h
          · exact nomatch h
        · rename_i mm
          split at h
          · exact nomatch h
          · rename_i hx'
            split at h
            · rename_i m h0
              split at h
              · rename_i hh h1
                split at h
                · rename_i l h2
                  obtain ⟨e1, e2, e3, e4⟩ := run_bounds3 (P := P) (w := w) hts hcap h0 h1 h2
                  refine ⟨_, run_slice_slice hu hn e1, ?_⟩
                  obtain ⟨p1, p2, p3⟩ := piece (m := m) hcells ha hs e2 (by omega) e3
                  have p4 : ∀ a' : Addr, ad = some a' → ∃ a'', (if m = l then ad else ad.map (·.add (l * n))) = some a'' := fun a' e => by rw [e]; split <;> exact ⟨_, rfl⟩
                  simp only at h
                  split at h
                  · cases h
                    have hnl := den_nils hx
                    simp [elems] at he
                    subst he
                    simp at hnl
                    obtain ⟨rfl, rfl⟩ := hnl
                    simp at e4
                    subst e4
                    simp at e3
                    subst e3
                    simp at e2
                    subst e2
                    exact .dat .nils
                  · rename_i es0
                    simp [elems] at he
                    subst he
                    cases hx with
                    | full _ a' b' o' sz' ha' hc' =>
                      obtain ⟨a'', ha''⟩ := p4 a' rfl
                      split at h
                      · rename_i hhe
                        cases h
                        subst hhe
                        rw [ha''] at p3 ⊢
                        have := Den.full (K := K) _ a'' b (o + l * sz) sz (fun h => Option.some.inj (p3 h)) p2
                        rwa [p1] at this
                      · cases h
                        rw [ha''] at p3 ⊢
                        have := DenD.of_cells (imm := K.imm) (cap := m - l) (by rw [p1]; omega) (fun h => Option.some.inj (p3 h)) p2
                        rw [p1] at this
                        exact .dat this
                  · rename_i hnn hnf
                    cases h
                    have hsome : ∃ a', ad = some a' := by
                      cases ad with
                      | some a' => exact ⟨a', rfl⟩
                      | none =>
                        exact (hnn (den_none hx rfl)).elim
                    obtain ⟨a', rfl⟩ := hsome
                    obtain ⟨a'', ha''⟩ := p4 a' rfl
                    rw [ha''] at p3 ⊢
                    have := DenD.of_cells (imm := K.imm) (cap := m - l) (by rw [p1]; omega) (fun h => Option.some.inj (p3 h)) p2
                    rw [p1] at this
                    exact .dat this
                · exact nomatch h
              · exact nomatch h
            · exact nomatch h
      · exact nomatch h
    · exact nomatch h
  · exact nomatch h

theorem run_mm2 {isMax : Bool} {a b v : AV} {va vb : Value} (h : mm2 isMax a b = some v) (ha : Den K a va) (hb : Den K b vb) :
    ∃ u, ((if isMax then Builtin.max2 else Builtin.min2) va vb).run P w = .ok u w ∧ Den K v u := by
  unfold mm2 at h
  split at h
  · cases h
    cases ha with | dat ha => ?_
    cases hb with | dat hb => ?_
    cases ha; cases hb
    cases isMax
    · exact ⟨_, by simp [Builtin.min2], .dat (.int _ _)⟩
    · exact ⟨_, by simp [Builtin.max2], .dat (.int _ _)⟩
  · exact nomatch h

theorem run_minMaxA {isMax : Bool} : ∀ {l : List AV} {a v : AV} {va : Value} {vl : List Value}, minMaxA isMax a l = some v → Den K a va → DenL K l vl →
    ∃ u, (vl.foldlM (if isMax then Builtin.max2 else Builtin.min2) va).run P w = .ok u w ∧ Den K v u
  | [], a, v, va, _, h, ha, .nil => by simp [minMaxA] at h; subst h; exact ⟨va, rfl, ha⟩
  | b :: l, a, v, va, _, h, ha, .cons hb hl => by
    simp only [minMaxA] at h
    split at h
    · rename_i c hc
      obtain ⟨u, h1, h2⟩ := run_mm2 (P := P) (w := w) hc ha hb
      obtain ⟨u', h3, h4⟩ := run_minMaxA h h2 hl
      exact ⟨u', by simp only [List.foldlM_cons, Sem.run_bind, h1, Result.andThen_ok, h3], h4⟩
    · exact nomatch h

end
end Go.Proofs.Ytfdcjngclelnhaa

set_option linter.unusedSimpArgs false
namespace Go.Proofs.Ytfdcjngclelnhaa
open Go Go.RowKit

section
variable {P : Program} {K : KW} {w : World} {hc : Nat → Option AObj} {V : Nat → Prop} {ow : Nat → Option OKey}

theorem denL_splice {cs xs : List AV} {vs us : List Value} {off : Nat} (h : DenL K cs vs) (hx : DenL K xs us) : DenL K (spliceL cs off xs) (vs.take off ++ us ++ vs.drop (off + us.length)) := by
  unfold spliceL
  rw [hx.length]
  exact ((h.take off).append hx).append (h.drop _)

theorem foldl_splice (off : Nat) : ∀ (vs : List Value) (k : Nat) (arr : Array Value), off + k + vs.length ≤ arr.size →
    ((vs.zipIdx k).foldl (fun cs (c, j) => cs.setIfInBounds (off + j) c) arr).toList = arr.toList.take (off + k) ++ vs ++ arr.toList.drop (off + k + vs.length)
  | [], k, arr, _ => by simp
  | v :: vs, k, arr, h => by
    simp only [List.length_cons] at h
    simp only [List.zipIdx_cons, List.foldl_cons]
    rw [foldl_splice off vs (k + 1) _ (by simp; omega)]
    have hlt : off + k < arr.toList.length := by simp; omega
    have e1 : (arr.setIfInBounds (off + k) v).toList = arr.toList.take (off + k) ++ v :: arr.toList.drop (off + k + 1) := by
      rw [Array.toList_setIfInBounds, List.set_eq_take_append_cons_drop, if_pos hlt]
    rw [e1]
    have hl : (arr.toList.take (off + k)).length = off + k := by rw [List.length_take]; omega
    have e2 : (arr.toList.take (off + k) ++ v :: arr.toList.drop (off + k + 1)).take (off + (k + 1)) = arr.toList.take (off + k) ++ [v] := by
      rw [List.take_append, hl, List.take_of_length_le (by omega)]
      have : off + (k + 1) - (off + k) = 1 := by omega
      rw [this]; simp
    have e3 : (arr.toList.take (off + k) ++ v :: arr.toList.drop (off + k + 1)).drop (off + (k + 1) + vs.length) = arr.toList.drop (off + k + (vs.length + 1)) := by
      rw [List.drop_append, hl, List.drop_of_length_le (by omega)]
      have : off + (k + 1) + vs.length - (off + k) = vs.length + 1 := by omega
      rw [this, List.drop_succ_cons, List.drop_drop, List.nil_append]
      congr 1; omega
    rw [e2, e3]
    simp [List.length_cons]

/-- the parts of a literal, place by place -/
inductive DenP (K : KW) : List (Nat × AV) → List (Nat × Value) → Prop where
  | nil : DenP K [] []
  | cons {i : Nat} {x : AV} {v : Value} {xs : List (Nat × AV)} {vs : List (Nat × Value)} : Den K x v → DenP K xs vs → DenP K ((i, x) :: xs) ((i, v) :: vs)

theorem den_evalParts {ts : List AV} {a : Act} (h : DenL K ts a.tmps.toList) : ∀ {xs : List (Nat × Operand)} {vs : List (Nat × AV)}, evalParts ts xs = some vs → DenP K vs (xs.map fun (i, x) => (i, a.eval x))
  | [], vs, hx => by simp [evalParts] at hx; subst hx; exact .nil
  | (i, x) :: xs, vs, hx => by
    simp only [evalParts] at hx
    split at hx
    · rename_i v hv
      simp at hx
      obtain ⟨r, hr, rfl⟩ := hx
      exact .cons (den_evalX h hv) (den_evalParts h hr)
    · exact nomatch hx

theorem fill_den {place : Nat → Option (Nat × Nat)} : ∀ {ps : List (Nat × AV)} {vps : List (Nat × Value)} {cs cs' : List AV} {arr : Array Value}, fillA place cs ps = some cs' → DenP K ps vps → DenL K cs arr.toList →
    ∃ arr', Instr.fill place arr vps = some arr' ∧ DenL K cs' arr'.toList
  | [], _, cs, cs', arr, h, .nil, hd => by simp [fillA] at h; subst h; exact ⟨arr, rfl, hd⟩
  | (i, x) :: ps, _, cs, cs', arr, h, .cons (v := v) hx hp, hd => by
    simp only [fillA] at h
    split at h
    · exact nomatch h
    · rename_i off size hpl
      split at h
      · rename_i hcond
        obtain ⟨c1, c2⟩ := hcond
        have hcl := hx.cells
        have hl1 : v.cells.size = size := by have := hcl.length; simp at this; omega
        have hl2 : arr.size = cs.length := by have := hd.length; simpa using this
        have hsp : (v.cells.zipIdx.foldl (fun cs (c, j) => cs.setIfInBounds (off + j) c) arr).toList = arr.toList.take off ++ v.cells.toList ++ arr.toList.drop (off + v.cells.toList.length) := by
          have := foldl_splice off v.cells.toList 0 arr (by simp; omega)
          rw [← Array.foldl_toList, Array.toList_zipIdx]
          exact this
        obtain ⟨arr', h1, h2⟩ := fill_den (arr := v.cells.zipIdx.foldl (fun cs (c, j) => cs.setIfInBounds (off + j) c) arr) h hp (by rw [hsp]; exact denL_splice hd hcl)
        refine ⟨arr', ?_, h2⟩
        unfold Instr.fill
        simp only [hpl]
        rw [if_neg (by simp [hl1]; omega)]
        exact h1
      · exact nomatch h

theorem run_mapM_places : ∀ {fs : List Field} {pl : List (Nat × Nat)}, fieldPlaces P fs = some pl → (fs.mapM fun f => (do pure (f.offset, ← sizeOf f.type) : Sem (Nat × Nat))).run P w = .ok pl w
  | [], pl, h => by simp [fieldPlaces] at h; subst h; rfl
  | f :: fs, pl, h => by
    simp only [fieldPlaces] at h
    split at h
    · rename_i n hn
      simp only [Option.map_eq_some_iff] at h
      obtain ⟨r, hr, rfl⟩ := h
      simp only [List.mapM_cons, Sem.run_bind, run_sizeOf' hn, Result.andThen_ok, Sem.run_pure, run_mapM_places hr]
    · exact nomatch h

theorem run_buildA {a : Act} {t : TypeId} {parts : Array (Nat × Operand)} {ps : List (Nat × AV)} {v : AV} (hp : DenP K ps (parts.toList.map fun (i, x) => (i, a.eval x))) (h : buildA P t ps = some v) :
    ∃ u, (Instr.build t (parts.map fun (i, x) => (i, a.eval x))).run P w = .ok u w ∧ Den K v u := by
  unfold buildA at h
  split at h
  · rename_i z fields hz hu
    split at h
    · rename_i pl hpl
      simp only [Option.map_eq_some_iff] at h
      obtain ⟨cs, hcs, rfl⟩ := h
      obtain ⟨zv, h1, h2, _⟩ := run_zeroValue' (P := P) (w := w) (K := K) hz
      obtain ⟨arr', h3, h4⟩ := fill_den hcs hp h2.cells
      refine ⟨.agg arr', ?_, den_mkAgg h4⟩
      have hpl' : (fields.mapM fun f => (do pure (f.offset, ← sizeOf f.type) : Sem (Nat × Nat))).run P w = .ok pl.toArray w := by
        rw [Array.mapM_eq_mapM_toList]
        rw [Sem.run_map, run_mapM_places hpl]
        rfl
      simp only [Instr.build, Sem.run_bind, h1, Result.andThen_ok, run_underlying' hu, hpl', Array.toList_map]
      have : (fun (i : Nat) => pl.toArray[i]?) = fun (i : Nat) => pl[i]? := by funext i; simp
      rw [this, h3]
      rfl
    · exact nomatch h
  · rename_i z n elem hz hu
    split at h
    · rename_i sz hs
      simp only [Option.map_eq_some_iff] at h
      obtain ⟨cs, hcs, rfl⟩ := h
      obtain ⟨zv, h1, h2, _⟩ := run_zeroValue' (P := P) (w := w) (K := K) hz
      obtain ⟨arr', h3, h4⟩ := fill_den hcs hp h2.cells
      refine ⟨.agg arr', ?_, den_mkAgg h4⟩
      simp only [Instr.build, Sem.run_bind, h1, Result.andThen_ok, run_underlying' hu, run_sizeOf' hs, Array.toList_map]
      rw [h3]
      rfl
    · exact nomatch h
  · exact nomatch h

theorem cells_toD {x : AV} {v : Value} {d : D} (h : Den K x v) (hd : x.toD = some d) : DenDL K.imm d.cells v.cells.toList := by
  have := (Den.dat (K := K) (den_toD h hd)).cells
  have e : (AV.dat d).cells = d.cells.map .dat := by cases d <;> rfl
  rw [e] at this
  exact denDL_of_map this

theorem flat_set {sz : Nat} : ∀ {es : List D} {i : Nat} {d : D}, (∀ e, e ∈ es → e.cells.length = sz) → d.cells.length = sz → i < es.length →
    (es.set i d).flatMap D.cells = (es.flatMap D.cells).take (i * sz) ++ d.cells ++ (es.flatMap D.cells).drop (i * sz + sz)
  | [], i, d, _, _, h => by simp at h
  | e :: es, 0, d, h, hd, _ => by
    have he := h e (by simp)
    simp only [List.set_cons_zero, List.flatMap_cons, Nat.zero_mul, List.take_zero, List.nil_append, Nat.zero_add]
    rw [List.drop_append, ← he, List.drop_length]
    simp
  | e :: es, i + 1, d, h, hd, hi => by
    have he := h e (by simp)
    simp only [List.set_cons_succ, List.flatMap_cons]
    rw [flat_set (fun x hx => h x (by simp [hx])) hd (by simpa using hi)]
    rw [List.take_append, List.drop_append, he]
    have e1 : (i + 1) * sz = sz + i * sz := by rw [Nat.add_mul]; omega
    have e2 : (i + 1) * sz - sz = i * sz := by omega
    have e3 : (i + 1) * sz + sz - sz = i * sz + sz := by omega
    have hA : sz ≤ (i + 1) * sz := by rw [e1]; omega
    have hB : sz ≤ (i + 1) * sz + sz := by omega
    rw [e2, e3, List.take_of_length_le (l := e.cells) (by omega), List.drop_of_length_le (l := e.cells) (by omega)]
    simp

theorem fillS_den {sz : Nat} : ∀ {ps : List (Nat × AV)} {vps : List (Nat × Value)} {es es' : List D} {arr : Array Value}, fillS sz es ps = some es' → DenP K ps vps → (∀ e, e ∈ es → e.cells.length = sz) → DenDL K.imm (es.flatMap D.cells) arr.toList →
    ∃ arr', Instr.fill (fun i => some (i * sz, sz)) arr vps = some arr' ∧ DenDL K.imm (es'.flatMap D.cells) arr'.toList ∧ (∀ e, e ∈ es' → e.cells.length = sz) ∧ es'.length = es.length
  | [], _, es, es', arr, h, .nil, hs, hd => by simp [fillS] at h; subst h; exact ⟨arr, rfl, hd, hs, rfl⟩
  | (i, x) :: ps, _, es, es', arr, h, .cons (v := v) hx hp, hs, hd => by
    simp only [fillS] at h
    split at h
    · rename_i d hdx
      split at h
      · rename_i hcond
        obtain ⟨c1, c2⟩ := hcond
        have hcl := cells_toD hx hdx
        have hl1 : v.cells.size = sz := by have := hcl.length; simp at this; omega
        have hl2 : arr.size = es.length * sz := by have := hd.length; rw [flat_length hs] at this; simpa using this
        have hle : i * sz + sz ≤ es.length * sz := by
          have : (i + 1) * sz ≤ es.length * sz := Nat.mul_le_mul_right sz c2
          rw [Nat.succ_mul] at this; exact this
        have hsp : (v.cells.zipIdx.foldl (fun cs (c, j) => cs.setIfInBounds (i * sz + j) c) arr).toList = arr.toList.take (i * sz) ++ v.cells.toList ++ arr.toList.drop (i * sz + v.cells.toList.length) := by
          have := foldl_splice (i * sz) v.cells.toList 0 arr (by simp; omega)
          rw [← Array.foldl_toList, Array.toList_zipIdx]
          exact this
        obtain ⟨arr', h1, h2, h3, h4⟩ := fillS_den (arr := v.cells.zipIdx.foldl (fun cs (c, j) => cs.setIfInBounds (i * sz + j) c) arr) h hp (fun e he => by
            rcases List.mem_or_eq_of_mem_set he with h' | h'
            · exact hs e h'
            · rw [h']; exact c1) (by
            rw [hsp, flat_set hs c1 c2]
            have : v.cells.toList.length = sz := by simpa using hl1
            rw [this]
            exact ((hd.take _).append hcl).append (hd.drop _))
        refine ⟨arr', ?_, h2, h3, by rw [h4]; simp⟩
        unfold Instr.fill
        simp only []
        rw [if_neg (by simp [hl1]; omega)]
        exact h1
      · exact nomatch h
    · exact nomatch h

theorem flat_replicate {d : D} {n : Nat} (hd : d.cells.length = n) (hn : 0 < n) : ∀ (len j : Nat), j < len * n → ((List.replicate len d).flatMap D.cells)[j]? = d.cells[j % n]?
  | 0, j, h => by simp at h
  | len + 1, j, h => by
    rw [List.replicate_succ, List.flatMap_cons, List.getElem?_append]
    split
    · rename_i hj; rw [hd] at hj; rw [Nat.mod_eq_of_lt hj]
    · rename_i hj
      rw [hd] at hj ⊢
      rw [Nat.succ_mul] at h
      rw [flat_replicate hd hn len (j - n) (by omega), ← Nat.mod_eq_sub_mod (a := j) (b := n) (by omega)]

theorem zeros_den {d : D} {zv : Value} {n len : Nat} (hz : DenDL K.imm d.cells zv.cells.toList) (hd : d.cells.length = n) (hn : 0 < n) :
    DenDL K.imm ((List.replicate len d).flatMap D.cells) ((Array.range (len * n)).map fun i => zv.cells[i % zv.cells.size]!).toList := by
  have hsz : zv.cells.size = n := by have := hz.length; simpa [hd] using this
  have hfl : ((List.replicate len d).flatMap D.cells).length = len * n := by
    rw [flat_length (sz := n) (fun e he => by rw [(List.mem_replicate.1 he).2]; exact hd)]; simp
  refine DenDL.of_index (by simp [hfl]) fun j x v hx hv => ?_
  have hj : j < len * n := by
    rcases Nat.lt_or_ge j (len * n) with h | h
    · exact h
    · rw [List.getElem?_eq_none (by rw [hfl]; exact h)] at hx; exact nomatch hx
  rw [flat_replicate hd hn len j hj] at hx
  have hm : j % n < n := Nat.mod_lt _ hn
  have hv' : zv.cells.toList[j % n]? = some v := by
    rw [Array.getElem?_toList] at hv ⊢
    rw [Array.getElem?_map, Array.getElem?_range, if_pos hj] at hv
    simp only [Option.map_some, Option.some.injEq, hsz] at hv
    have : j % n < zv.cells.size := by omega
    rw [Array.getElem?_eq_getElem this]
    rw [getElem!_pos zv.cells (j % n) this] at hv
    rw [hv]
  exact hz.index _ _ _ hx hv'

theorem gives_buildSliceA {a : Act} {t : TypeId} {len : Nat} {parts : Array (Nat × Operand)} {ps : List (Nat × AV)} {v : AV} (hok : Ok K hc V w) (hp : DenP K ps (parts.toList.map fun (i, x) => (i, a.eval x))) (h : buildSliceA P t len ps = some v) :
    Gives P K w (Instr.buildSlice t len (parts.map fun (i, x) => (i, a.eval x))) v hc V := by
  unfold buildSliceA at h
  split at h
  · rename_i elem hu
    split at h
    · rename_i n z hn hz
      split at h
      · rename_i zd hzd
        split at h
        · rename_i hcond
          obtain ⟨c1, c2, c3⟩ := hcond
          simp only [Option.map_eq_some_iff] at h
          obtain ⟨es, hes, rfl⟩ := h
          obtain ⟨ow, hk⟩ := hok
          obtain ⟨zv, h1, h2, _⟩ := run_zeroValue' (P := P) (w := w) (K := K) hz
          have hzc := cells_toD h2 hzd
          have hsz : zv.cells.size = n := by have := hzc.length; simpa [c2] using this
          have key : ∀ zc : Array Value, DenDL K.imm ((List.replicate len zd).flatMap D.cells) ((Array.range (len * n)).map fun i => zc[i % zc.size]!).toList →
              Gives P K w (do
                let some cells := Instr.fill (fun i => some (i * n, n)) ((Array.range (len * n)).map (zc[· % zc.size]!)) (parts.map fun (i, x) => (i, a.eval x)).toList
                  | stuck "buildSlice: a part of the wrong size"
                pure (.slice (some (← newRow elem cells)) len len)) (.own .full es) hc V := by
            intro zc hzc'
            obtain ⟨arr', h3, h4, h5, h6⟩ := fillS_den hes hp (fun e he => by rw [(List.mem_replicate.1 he).2]; exact c2) hzc'
            obtain ⟨hk2, hext⟩ := hk.row arr' elem
            refine ⟨.slice (some ⟨w.heap.size, 0, none⟩) len len, _, _, ?_, hext, ?_, ow, hk2⟩
            · rw [Array.toList_map, h3]
              simp only [Sem.run_bind, newRow, run_newObj_alloc, Result.andThen_ok, Sem.run_pure]
            · have hl : es.length = len := by rw [h6]; simp
              have := Den.full (K := withImm K w.heap.size arr'.size arr') es ⟨w.heap.size, 0, none⟩ w.heap.size 0 n (fun _ => rfl) (cells_withImm (K := K) h5 h4 (by simp) (fun j v hj => by rw [← Array.getElem?_toList]; exact hj) hext)
              rwa [hl] at this
          have hlim : ¬ len * n > 2 ^ 24 := by omega
          by_cases h0 : len * n = 0
          · have := key #[] (by rw [h0]; have : len = 0 := by rcases Nat.mul_eq_zero.1 h0 with h | h <;> omega
                                subst this; simpa using DenDL.nil)
            obtain ⟨u, w', K', g1, g2⟩ := this
            refine ⟨u, w', K', ?_, g2⟩
            rw [← g1]
            simp only [Instr.buildSlice, Sem.run_bind, run_underlying' hu, Result.andThen_ok, run_sizeOf' hn, if_neg hlim, if_pos h0, Sem.run_pure]
            try rfl
          · have := key zv.cells (zeros_den hzc c2 (by omega))
            obtain ⟨u, w', K', g1, g2⟩ := this
            refine ⟨u, w', K', ?_, g2⟩
            rw [← g1]
            simp only [Instr.buildSlice, Sem.run_bind, run_underlying' hu, Result.andThen_ok, run_sizeOf' hn, if_neg hlim, if_neg h0, Sem.run_pure, h1]
            try rfl
        · exact nomatch h
      · exact nomatch h
    · exact nomatch h
  · exact nomatch h

end
end Go.Proofs.Ytfdcjngclelnhaa

set_option linter.unusedSimpArgs false
namespace Go.Proofs.Ytfdcjngclelnhaa
open Go Go.RowKit

/-- a heap, its holes filled by a frame -/
def comb (h : Heap) (HF : Nat → Option AObj) : Nat → Option AObj := fun i =>
  match h[i]? with
  | some (some o) => some o
  | some none => HF i
  | none => none

structure Fit (K : KW) (h : Heap) (HF : Nat → Option AObj) (V : Nat → Prop) (w : World) : Prop where
  ok : Ok K (comb h HF) V w
  hf : ∀ i o, HF i = some o → h[i]? = some none
  vlen : ∀ i, h.length ≤ i → V i

/-- which names are still fresh -/
def afterV (place : Option Nat) (n n' : Nat) (V : Nat → Prop) : Nat → Prop := fun i => V i ∧ place ≠ some i ∧ (i < n ∨ n' ≤ i)

section
variable {P : Program} {K : KW} {w : World} {h : Heap} {HF : Nat → Option AObj} {V : Nat → Prop} {ow : Nat → Option OKey}

theorem comb_some {i : Nat} {o : AObj} (hi : h[i]? = some (some o)) : comb h HF i = some o := by simp [comb, hi]

theorem lt_of_some {α : Type} {l : List α} {i : Nat} {x : α} (hi : l[i]? = some x) : i < l.length := by
  rcases Nat.lt_or_ge i l.length with h | h
  · exact h
  · rw [List.getElem?_eq_none h] at hi; exact nomatch hi

theorem comb_push (o : AObj) : comb (h ++ [some o]) HF = upd (comb h HF) h.length (some o) := by
  funext i
  simp only [comb, upd]
  by_cases hi : i = h.length
  · subst hi; simp
  · rw [if_neg hi]
    rcases Nat.lt_or_ge i h.length with h' | h'
    · rw [List.getElem?_append_left h']
    · rw [List.getElem?_eq_none (l := h) h', List.getElem?_eq_none (by simp; omega)]

theorem comb_set {r : Nat} (hr : r < h.length) (o : AObj) : comb (h.set r (some o)) HF = upd (comb h HF) r (some o) := by
  funext i
  simp only [comb, upd]
  by_cases hi : i = r
  · subst hi; simp [List.getElem?_set, hr]
  · rw [if_neg hi, List.getElem?_set_ne (fun e => hi e.symm)]

theorem comb_kill {r : Nat} (hr : r < h.length) (hf : HF r = none) : comb (h.set r none) HF = upd (comb h HF) r none := by
  funext i
  simp only [comb, upd]
  by_cases hi : i = r
  · subst hi; simp [List.getElem?_set, hr, hf]
  · rw [if_neg hi, List.getElem?_set_ne (fun e => hi e.symm)]

theorem Fit.hf_none (hk : Fit K h HF V w) {i : Nat} {o : AObj} (hi : h[i]? = some (some o)) : HF i = none := by
  cases hh : HF i with
  | none => rfl
  | some o' => rw [hk.hf i o' hh] at hi; cases hi

theorem Fit.hf_virgin (hk : Fit K h HF V w) {i : Nat} (hv : V i) : HF i = none := by
  cases hh : HF i with
  | none => rfl
  | some o' =>
    obtain ⟨ow, hok⟩ := hk.ok
    have h1 := (hok.fresh i hv).1
    have h2 := hk.hf i o' hh
    simp [comb, h2, hh] at h1

theorem afterV_same {place : Option Nat} {n : Nat} {V : Nat → Prop} {i : Nat} (h : afterV place n n V i) : V i := h.1

theorem Fit.virgin {V' : Nat → Prop} (hk : Fit K h HF V w) (h1 : ∀ i, V' i → V i) (h2 : ∀ i, h.length ≤ i → V' i) : Fit K h HF V' w := ⟨hk.ok.virgin h1, hk.hf, h2⟩

/-- the state is as it was -/
theorem Fit.after (hk : Fit K h HF V w) {place : Option Nat} (hp : ∀ r, place = some r → r < h.length) : Fit K h HF (afterV place h.length h.length V) w :=
  hk.virgin (fun _ hi => hi.1) fun i hi => ⟨hk.vlen i hi, fun e => by have := hp i e; omega, Or.inr hi⟩

theorem den_sealT {x : AV} {v : Value} (h : Den K x v) : Den K (sealT x) v := by
  unfold sealT
  split
  · exact h
  · exact .dat (den_sealOwn h)
  · exact h

theorem sealT_not (x : AV) : (∀ j es, sealT x ≠ AV.own (.tip j) es) ∧ ∀ a b d f es, sealT x ≠ AV.own (.at a b d f) es := by
  unfold sealT
  split
  · exact ⟨fun _ _ e => (nomatch e), fun _ _ _ _ _ e => (nomatch e)⟩
  · exact ⟨fun _ _ e => (nomatch e), fun _ _ _ _ _ e => (nomatch e)⟩
  · rename_i h1
    exact ⟨fun j es e => h1 _ es e, fun a b d f es e => h1 _ es e⟩

theorem alloc_fit {place : Option Nat} {o : AObj} {id : Nat} {h' : Heap} (hk : Fit K h HF V w) (hp : ∀ r, place = some r → V r) (ha : allocObj place h o = some (id, h')) :
    V id ∧ comb h' HF = upd (comb h HF) id (some o) ∧ h.length ≤ h'.length ∧ (∀ i o', HF i = some o' → h'[i]? = some none) ∧ (∀ i, h'.length ≤ i → afterV place h.length h'.length V i) ∧ (∀ i, afterV place h.length h'.length V i → V i ∧ i ≠ id) := by
  unfold allocObj at ha
  split at ha
  · cases ha
    refine ⟨hk.vlen _ (Nat.le_refl _), comb_push o, by simp, fun i o' hi => ?_, fun i hi => ?_, fun i hi => ?_⟩
    · have := hk.hf i o' hi
      rw [List.getElem?_append_left (lt_of_some this)]; exact this
    · simp at hi; exact ⟨hk.vlen i (by omega), by simp, Or.inr (by simpa using hi)⟩
    · have := hi.2.2; simp at this; exact ⟨hi.1, by omega⟩
  · rename_i r
    split at ha
    · rename_i hr
      cases ha
      have hlt := lt_of_some hr
      refine ⟨hp _ rfl, comb_set hlt o, by simp, fun i o' hi => ?_, fun i hi => ?_, fun i hi => ?_⟩
      · have h1 := hk.hf i o' hi
        have : i ≠ id := by rintro rfl; have := hk.hf_virgin (hp i rfl); rw [this] at hi; exact nomatch hi
        rw [List.getElem?_set_ne (fun e => this e.symm)]; exact h1
      · simp at hi; exact ⟨hk.vlen i hi, by simp; omega, Or.inr (by simpa using hi)⟩
      · exact ⟨hi.1, fun e => hi.2.1 (by rw [e])⟩
    · exact nomatch ha

theorem gives_newVarA {place : Option Nat} {e : TypeId} {cs : List AV} {v : AV} {h' : Heap} {vs : Array Value} (hk : Fit K h HF V w) (hp : ∀ r, place = some r → V r) (hn : newVarA place h e cs = some (v, h')) (hd : DenL K cs vs.toList) :
    ∃ K', Kext K K' ∧ Den K' v (.pointer (some ⟨w.heap.size, 0, none⟩)) ∧ Fit K' h' HF (afterV place h.length h'.length V) (w.alloc (.cells vs e)) ∧ h.length ≤ h'.length := by
  unfold newVarA at hn
  split at hn
  · rename_i id h'' ha
    split at hn
    · rename_i hu
      cases hn
      obtain ⟨hv, hcomb, hlen, hhf, hvl, hvi⟩ := alloc_fit hk hp ha
      obtain ⟨ow, hok⟩ := hk.ok
      obtain ⟨ow', hok', hext⟩ := hok.newBox hv (e := e) (denL_map (fun _ _ => den_sealT) hd) (fun i c hi => by
        rw [List.getElem?_map] at hi
        simp only [Option.map_eq_some_iff] at hi
        obtain ⟨x, _, rfl⟩ := hi
        exact sealT_not x) hu
      refine ⟨_, hext, .ptr _ _ _ (by simp [withBlk]), ⟨⟨ow', ?_⟩, hhf, hvl⟩, hlen⟩
      rw [hcomb]
      exact hok'.virgin hvi
    · exact nomatch hn
  · exact nomatch hn

/- stores -/

theorem OkW.setBox (hk : OkW K (comb h HF) V w ow) {id : Nat} {hc : Nat → Option AObj} {e : TypeId} {cs cs' : List AV} {ver ver' b : Nat} {vs vs' : Array Value} (hcc : hc = comb h HF) (hid : hc id = some (.cells e cs ver)) (hb : BoxOk K w ow id e cs ver b vs)
    (hd : DenL K cs' vs'.toList) (hc' : ∀ (i : Nat) (c : AV), cs'[i]? = some c → CellOk K w ow id i ver' c) (hu : undersL (id + 1) cs' = true) (hv : ver ≤ ver') : OkW K (upd hc id (some (.cells e cs' ver'))) V (w.setRow b vs') ow := by
  subst hcc
  have hne : ∀ b' k, ow b' = some k → (∀ i, k ≠ .box i) → b' ≠ b := fun b' k h1 h2 h3 => by rw [h3, hb.own] at h1; exact h2 _ (Option.some.inj h1).symm
  have hfree : ∀ r n k, Free K w r n → ow r.b = some k → (∀ i, k ≠ .box i) → Free K (w.setRow b vs') r n := fun r n k hf ho hk' => hf.heap (setRow_other w b r.b vs' (hne _ _ ho hk'))
  have hcell : ∀ id i ver c, CellOk K w ow id i ver c → CellOk K (w.setRow b vs') ow id i ver c := fun id i ver c hc => hc.mono (Kext.refl K) (Nat.le_refl _) fun r n v hf ho => ⟨hfree r n _ hf ho (fun _ e => nomatch e), ho⟩
  refine ⟨fun a c ha => ?_, hk.below.trans ⟨rfl, rfl, rfl, by simp, fun k hk' => setRow_other w b k vs' (by have := hb.base; omega)⟩, fun id' e' cs'' ver'' hid' => ?_, fun id' e' n sz hid' => ?_, fun id' e' n sz hid' => ?_, fun i hi => ?_, fun id' e' cs'' ver'' hid' => ?_, fun b' k hb' => by simpa using hk.own b' k hb'⟩
  · have h1 := hk.imm a c ha
    have : a.block ≠ b := by
      rintro rfl
      have := hb.imm a.off a.spot
      rw [show (⟨a.block, a.off, a.spot⟩ : Addr) = a from rfl, ha] at this
      exact nomatch this
    rw [cell_same (setRow_other w b a.block vs' this)]; exact h1
  · by_cases hi : id' = id
    · subst hi
      rw [upd_same] at hid'
      cases hid'
      exact ⟨b, vs', hb.blk, hb.own, hb.base, setRow_heap w b vs vs' e (0, 0) hb.heap, hb.imm, hd, fun i c hi => hcell _ _ _ _ (hc' i c hi), hu⟩
    · rw [upd_ne hi] at hid'
      obtain ⟨b', vs'', hbox⟩ := hk.box id' e' cs'' ver'' hid'
      have hbne : b' ≠ b := by
        rintro rfl
        have h1 := hbox.own
        rw [hb.own] at h1
        cases h1
        exact hi rfl
      exact ⟨b', vs'', hbox.blk, hbox.own, hbox.base, by rw [setRow_other w b b' vs' hbne]; exact hbox.heap, hbox.imm, hbox.den, fun i c hi => hcell _ _ _ _ (hbox.cell i c hi), hbox.under⟩
  · by_cases hi : id' = id
    · subst hi; rw [upd_same] at hid'; exact nomatch hid'
    · rw [upd_ne hi] at hid'
      obtain ⟨r, h1, h2, h3, h4, h5⟩ := hk.tip id' e' n sz hid'
      exact ⟨r, h1, h2, h3, hfree _ _ _ h4 h5 (fun _ e => nomatch e), h5⟩
  · by_cases hi : id' = id
    · subst hi; rw [upd_same] at hid'; exact nomatch hid'
    · rw [upd_ne hi] at hid'; exact hk.more id' e' n sz hid'
  · have := hk.fresh i hi
    have hne : i ≠ id := by rintro rfl; rw [hid] at this; exact nomatch this.1
    exact ⟨by rw [upd_ne hne]; exact this.1, this.2⟩
  · by_cases hi : id' = id
    · subst hi; rw [upd_same] at hid'; cases hid'
      exact fun off v hvv => hk.ver id' _ _ _ hid off v (by omega)
    · rw [upd_ne hi] at hid'; exact hk.ver id' e' cs'' ver'' hid'

/-- a mark goes; what it told of goes to a place in a box -/
theorem OkW.settle {hc : Nat → Option AObj} (hk : OkW K hc V w ow) {i id off v n sz : Nat} {e : TypeId} {r : KRow} (hi : hc i = some (.tip e n sz)) (hr : K.key (.tip i n) = some r) (hf : Free K w r n) (ho : ow r.b = some (.tip i))
    (hv : K.key (.at id off v) = none) {e' : TypeId} {cs : List AV} {ver : Nat} (hid : hc id = some (.cells e' cs ver)) (hver : v < ver) :
    ∃ ow', Kext K (withAt K id off v r) ∧ OkW (withAt K id off v r) (upd hc i none) V w ow' ∧ ow' r.b = some (.at id off v) ∧ Free (withAt K id off v r) w r n ∧
      (∀ id' i' ver' c, CellOk K w ow id' i' ver' c → CellOk (withAt K id off v r) w ow' id' i' ver' c) ∧ (∀ b k, ow b = some k → (∀ j, k ≠ .tip j) → ow' b = some k) := by
  have hext := kext_withAt (r := r) hv
  let ow' : Nat → Option OKey := fun b => if b = r.b then some (.at id off v) else ow b
  have hkeep : ∀ b k, ow b = some k → k ≠ .tip i → ow' b = some k := fun b k h1 h2 => by
    have : b ≠ r.b := by rintro rfl; rw [ho] at h1; exact h2 (Option.some.inj h1).symm
    simp [ow', this, h1]
  have hcell : ∀ id' i' ver' c, CellOk K w ow id' i' ver' c → CellOk (withAt K id off v r) w ow' id' i' ver' c := fun id' i' ver' c hc' =>
    hc'.mono hext (Nat.le_refl _) fun r' n' v' hf' ho' => ⟨⟨hf'.blk, hf'.imm, hf'.base⟩, hkeep _ _ ho' (fun e => nomatch e)⟩
  refine ⟨ow', hext, ⟨hk.imm, hk.below, fun id' e'' cs' ver' hid' => ?_, fun id' e'' n' sz' hid' => ?_, fun id' e'' n' sz' hid' => ?_, fun j hj => ?_, fun id' e'' cs' ver' hid' => ?_, fun b k hb => ?_⟩, by simp [ow'], ⟨hf.blk, hf.imm, hf.base⟩, hcell, fun b k h1 h2 => hkeep b k h1 (h2 i)⟩
  · by_cases hne : id' = i
    · subst hne; rw [upd_same] at hid'; exact nomatch hid'
    · rw [upd_ne hne] at hid'
      obtain ⟨b, vs, hbox⟩ := hk.box id' e'' cs' ver' hid'
      exact ⟨b, vs, hbox.blk, hkeep _ _ hbox.own (fun e => nomatch e), hbox.base, hbox.heap, hbox.imm, hbox.den.mono hext, fun j c hj => hcell _ _ _ _ (hbox.cell j c hj), hbox.under⟩
  · by_cases hne : id' = i
    · subst hne; rw [upd_same] at hid'; exact nomatch hid'
    · rw [upd_ne hne] at hid'
      obtain ⟨r', h1, h2, h3, h4, h5⟩ := hk.tip id' e'' n' sz' hid'
      exact ⟨r', hext.key _ _ h1, h2, h3, ⟨h4.blk, h4.imm, h4.base⟩, hkeep _ _ h5 (fun e => hne (OKey.tip.inj e))⟩
  · by_cases hne : id' = i
    · subst hne; rw [upd_same] at hid'; exact nomatch hid'
    · rw [upd_ne hne] at hid'
      intro n'' hn''
      have := hk.more id' e'' n' sz' hid' n'' hn''
      simp [withAt, withKey, this]
  · obtain ⟨g1, g2, g3, g4⟩ := hk.fresh j hj
    have hji : j ≠ i := by rintro rfl; rw [hi] at g1; exact nomatch g1
    have hjd : j ≠ id := by rintro rfl; rw [hid] at g1; exact nomatch g1
    refine ⟨by rw [upd_ne hji]; exact g1, g2, fun n' => by simp [withAt, withKey, g3 n'], fun off' v' => ?_⟩
    simp [withAt, withKey, g4 off' v', hjd]
  · by_cases hne : id' = i
    · subst hne; rw [upd_same] at hid'; exact nomatch hid'
    · rw [upd_ne hne] at hid'
      intro off' v' hv'
      have := hk.ver id' e'' cs' ver' hid' off' v' hv'
      simp only [withAt, withKey]
      by_cases heq : id' = id ∧ off' = off ∧ v' = v
      · obtain ⟨rfl, rfl, rfl⟩ := heq
        rw [hid] at hid'
        cases hid'
        omega
      · simp [heq, this]
  · simp only [ow'] at hb
    split at hb
    · rename_i hbe; rw [hbe]; exact hf.lt
    · exact hk.own b k hb

end
end Go.Proofs.Ytfdcjngclelnhaa

set_option linter.unusedSimpArgs false
namespace Go.Proofs.Ytfdcjngclelnhaa
open Go Go.RowKit

section
variable {P : Program} {K : KW} {w : World} {HF : Nat → Option AObj} {V : Nat → Prop} {ow : Nat → Option OKey}

structure Settled (K : KW) (ow : Nat → Option OKey) (h : Heap) (HF : Nat → Option AObj) (V : Nat → Prop) (w : World) (id v : Nat) (h' : Heap) (K' : KW) (ow' : Nat → Option OKey) : Prop where
  ext : Kext K K'
  ok : OkW K' (comb h' HF) V w ow'
  cell : ∀ id' i' ver' c, CellOk K w ow id' i' ver' c → CellOk K' w ow' id' i' ver' c
  own : ∀ b k, ow b = some k → (∀ j, k ≠ .tip j) → ow' b = some k
  len : h'.length = h.length
  box : h'[id]? = h[id]?
  hf : ∀ i o, HF i = some o → h'[i]? = some none
  keys : (∀ o' v', v ≤ v' → K.key (.at id o' v') = none) → ∀ o' v', v + 1 ≤ v' → K'.key (.at id o' v') = none

theorem Settled.same {h : Heap} {id v : Nat} (hk : OkW K (comb h HF) V w ow) (hhf : ∀ i o, HF i = some o → h[i]? = some none) : Settled K ow h HF V w id v h K ow :=
  ⟨Kext.refl K, hk, fun _ _ _ _ h => h, fun _ _ h _ => h, rfl, rfl, hhf, fun hkeys o' v' hv => hkeys o' v' (by omega)⟩

theorem settle_ok {h h' : Heap} {id off v ver : Nat} {e : TypeId} {cs : List AV} {x x' : AV} {u : Value} (hk : OkW K (comb h HF) V w ow) (hhf : ∀ i o, HF i = some o → h[i]? = some none)
    (hid : h[id]? = some (some (.cells e cs ver))) (hver : v < ver) (hold : ∀ c, cs[off]? = some c → CellOk K w ow id off ver c) (hkeys : ∀ o' v', v ≤ v' → K.key (.at id o' v') = none) (hx : Den K x u) (hs : settle h id off v cs[off]? x = (x', h')) :
    ∃ K' ow', Settled K ow h HF V w id v h' K' ow' ∧ Den K' x' u ∧ CellOk K' w ow' id off ver x' := by
  unfold settle at hs
  split at hs
  · rename_i i es
    split at hs
    · rename_i e' n sz hi
      split at hs
      · rename_i hc
        obtain ⟨h1, h2⟩ := hc
        cases hs
        obtain ⟨r, g1, g2, g3, g4, g5⟩ := hk.tip i e' n sz (comb_some hi)
        have hhi : HF i = none := by
          cases hh : HF i with
          | none => rfl
          | some o => have := hhf i o hh; rw [hi] at this; cases this
        obtain ⟨ow', k1, k2, k3, k4, k5, k6⟩ := hk.settle (id := id) (off := off) (v := v) (comb_some hi) g1 g4 g5 (hkeys off v (Nat.le_refl _)) (comb_some hid) hver
        refine ⟨_, ow', ⟨k1, ?_, k5, k6, by simp, ?_, fun j o hj => ?_, fun _ o' v' hv' => ?_⟩, ?_, ?_⟩
        · rw [comb_kill (lt_of_some hi) hhi]; exact k2
        · rw [List.getElem?_set_ne h2]
        · have := hhf j o hj
          by_cases hji : i = j
          · subst hji; rw [hhi] at hj; exact nomatch hj
          · rw [List.getElem?_set_ne hji]; exact this
        · have := hkeys o' v' (by omega)
          simp only [withAt, withKey]
          rw [if_neg (by rintro ⟨_, h3, h4⟩; omega)]
          exact this
        · cases hx with
          | tip _ _ r' hr' hcap hcells =>
            rw [← h1] at hr'
            obtain rfl : r' = r := by rw [g1] at hr'; exact (Option.some.inj hr').symm
            have := Den.at (K := withAt K id off v r') id off v es r' withAt_key hcap hcells
            rw [g2] at this
            exact this
        · rw [h1] at k4
          exact ⟨rfl, rfl, hver, r, withAt_key, g2, k4, k3⟩
      · cases hs
        exact ⟨K, ow, .same hk hhf, .dat (den_sealOwn hx), trivial⟩
    · cases hs
      exact ⟨K, ow, .same hk hhf, .dat (den_sealOwn hx), trivial⟩
  · rename_i i o v0 e0 es
    split at hs
    · rename_i i' o' v' e' es' hce
      split at hs
      · rename_i hc
        obtain ⟨rfl, rfl, rfl, rfl, rfl, rfl, hlen⟩ := hc
        cases hs
        refine ⟨K, ow, .same hk hhf, hx, ?_⟩
        have := hold _ hce
        obtain ⟨q1, q2, q3, r, q4, q5, q6, q7⟩ := this
        rw [← hlen] at q6
        exact ⟨q1, q2, q3, r, q4, q5, q6, q7⟩
      · cases hs
        exact ⟨K, ow, .same hk hhf, .dat (den_sealOwn hx), trivial⟩
    · cases hs
      exact ⟨K, ow, .same hk hhf, .dat (den_sealOwn hx), trivial⟩
  · cases hs
    exact ⟨K, ow, .same hk hhf, hx, trivial⟩
  · rename_i h1 h2 h3
    cases hs
    refine ⟨K, ow, .same hk hhf, hx, ?_⟩
    unfold CellOk
    split
    · rename_i j es; exact h1 j es rfl
    · rename_i a b c d es; exact (h2 a b c d es rfl).elim
    · trivial

theorem settleL_ok {id ver : Nat} {e : TypeId} {cs : List AV} : ∀ {xs ws : List AV} {us : List Value} {off v : Nat} {h h' : Heap} {K : KW} {ow : Nat → Option OKey}, OkW K (comb h HF) V w ow → (∀ i o, HF i = some o → h[i]? = some none) →
    h[id]? = some (some (.cells e cs ver)) → v + xs.length ≤ ver → (∀ (i : Nat) (c : AV), cs[i]? = some c → CellOk K w ow id i ver c) → (∀ o' v', v ≤ v' → K.key (.at id o' v') = none) → DenL K xs us → settleL id cs off v h xs = (ws, h') →
    ∃ K' ow', Kext K K' ∧ OkW K' (comb h' HF) V w ow' ∧ (∀ id' i' ver' c, CellOk K w ow id' i' ver' c → CellOk K' w ow' id' i' ver' c) ∧ (∀ b k, ow b = some k → (∀ j, k ≠ .tip j) → ow' b = some k) ∧ h'.length = h.length ∧ h'[id]? = h[id]? ∧
      (∀ i o, HF i = some o → h'[i]? = some none) ∧ DenL K' ws us ∧ ∀ (j : Nat) (c : AV), ws[j]? = some c → CellOk K' w ow' id (off + j) ver c
  | [], ws, us, off, v, h, h', K, ow, hk, hhf, hid, hver, hold, hkeys, hx, hs => by
    simp [settleL] at hs
    obtain ⟨rfl, rfl⟩ := hs
    cases hx
    exact ⟨K, ow, Kext.refl K, hk, fun _ _ _ _ h => h, fun _ _ h _ => h, rfl, rfl, hhf, .nil, fun j c hj => by simp at hj⟩
  | x :: xs, ws, us, off, v, h, h', K, ow, hk, hhf, hid, hver, hold, hkeys, hx, hs => by
    cases hx with
    | cons hx hxs =>
      simp only [List.length_cons] at hver
      simp only [settleL] at hs
      generalize hst : settle h id off v cs[off]? x = p at hs
      obtain ⟨x', h1⟩ := p
      simp only at hs
      generalize hrest : settleL id cs (off + 1) (v + 1) h1 xs = q at hs
      obtain ⟨r', h2⟩ := q
      simp only [Prod.mk.injEq] at hs
      obtain ⟨rfl, rfl⟩ := hs
      obtain ⟨K1, ow1, s1, d1, c1⟩ := settle_ok hk hhf hid (by omega) (fun c hc => hold off c hc) hkeys hx hst
      obtain ⟨K2, ow2, e2, k2, f2, o2, l2, b2, g2, d2, c2⟩ := settleL_ok s1.ok s1.hf (by rw [s1.box]; exact hid) (by omega) (fun i c hc => s1.cell _ _ _ _ (hold i c hc)) (s1.keys hkeys) (hxs.mono s1.ext) hrest
      refine ⟨K2, ow2, s1.ext.trans e2, k2, fun id' i' ver' c hc => f2 _ _ _ _ (s1.cell _ _ _ _ hc), fun b k h3 h4 => o2 b k (s1.own b k h3 h4) h4, by rw [l2, s1.len], by rw [b2, s1.box], g2, .cons (d1.mono e2) d2, fun j c hj => ?_⟩
      cases j with
      | zero => simp at hj; subst hj; exact f2 _ _ _ _ c1
      | succ j =>
        have := c2 j c (by simpa using hj)
        rwa [show off + 1 + j = off + (j + 1) by omega] at this

theorem oneCell_of {x : AV} {u : Value} (h : Den K x u) (hc : x.isCell = true) : u.oneCell' = true := by
  cases h with
  | dat h => cases h <;> first | rfl | simp [AV.isCell] at hc
  | agg => simp [AV.isCell] at hc
  | tuple => simp [AV.isCell] at hc
  | _ => rfl

theorem oneCells_of : ∀ {xs : List AV} {us : List Value}, DenL K xs us → xs.all AV.isCell = true → ∀ u, u ∈ us → u.oneCell' = true
  | [], _, .nil, _, u, hu => by simp at hu
  | x :: xs, _, .cons hx hxs, hc, u, hu => by
    simp only [List.all_cons, Bool.and_eq_true] at hc
    rcases List.mem_cons.1 hu with rfl | h
    · exact oneCell_of hx hc.1
    · exact oneCells_of hxs hc.2 u h

/-- a heap in which a box's version is higher -/
theorem OkW.bump {hc : Nat → Option AObj} (hk : OkW K hc V w ow) {id ver ver' : Nat} {e : TypeId} {cs : List AV} (hid : hc id = some (.cells e cs ver)) (hv : ver ≤ ver') : OkW K (upd hc id (some (.cells e cs ver'))) V w ow := by
  refine ⟨hk.imm, hk.below, fun id' e' cs' ver'' hid' => ?_, fun id' e' n sz hid' => ?_, fun id' e' n sz hid' => ?_, fun i hi => ?_, fun id' e' cs' ver'' hid' => ?_, hk.own⟩
  · by_cases hi : id' = id
    · subst hi; rw [upd_same] at hid'; cases hid'
      obtain ⟨b, vs, hb⟩ := hk.box _ _ _ _ hid
      exact ⟨b, vs, hb.blk, hb.own, hb.base, hb.heap, hb.imm, hb.den, fun i c hc' => (hb.cell i c hc').mono (Kext.refl K) hv fun r n v hf ho => ⟨hf, ho⟩, hb.under⟩
    · rw [upd_ne hi] at hid'; exact hk.box _ _ _ _ hid'
  · by_cases hi : id' = id
    · subst hi; rw [upd_same] at hid'; exact nomatch hid'
    · rw [upd_ne hi] at hid'; exact hk.tip _ _ _ _ hid'
  · by_cases hi : id' = id
    · subst hi; rw [upd_same] at hid'; exact nomatch hid'
    · rw [upd_ne hi] at hid'; exact hk.more _ _ _ _ hid'
  · have := hk.fresh i hi
    have hne : i ≠ id := by rintro rfl; rw [hid] at this; exact nomatch this.1
    exact ⟨by rw [upd_ne hne]; exact this.1, this.2⟩
  · by_cases hi : id' = id
    · subst hi; rw [upd_same] at hid'; cases hid'; exact fun off v h => hk.ver _ _ _ _ hid off v (by omega)
    · rw [upd_ne hi] at hid'; exact hk.ver _ _ _ _ hid'

theorem settle_set {h : Heap} {id off v : Nat} {old : Option AV} {x : AV} {o o' : AObj} (hid : h[id]? = some (some o)) (ho : ∀ e n sz, o ≠ .tip e n sz) (ho' : ∀ e n sz, o' ≠ .tip e n sz) :
    settle (h.set id (some o')) id off v old x = ((settle h id off v old x).1, (settle h id off v old x).2.set id (some o')) ∧ (settle h id off v old x).2[id]? = some (some o) := by
  unfold settle
  split
  · rename_i i es
    by_cases hi : i = id
    · subst hi
      rw [List.getElem?_set_self (lt_of_some hid), hid]
      cases o' with
      | tip e n sz => exact absurd rfl (ho' e n sz)
      | cells a1 a2 a3 =>
        cases o with
        | tip e n sz => exact absurd rfl (ho e n sz)
        | cells b1 b2 b3 => exact ⟨rfl, hid⟩
    · rw [List.getElem?_set_ne (fun e => hi e.symm)]
      generalize h[i]? = q
      cases q with
      | none => exact ⟨rfl, hid⟩
      | some q =>
        cases q with
        | none => exact ⟨rfl, hid⟩
        | some q =>
          cases q with
          | cells a1 a2 a3 => exact ⟨rfl, hid⟩
          | tip e n sz =>
            by_cases hc : n = es.length ∧ i ≠ id
            · simp only [if_pos hc]
              exact ⟨by rw [List.set_comm _ _ (fun e => hi e.symm)], by rw [List.getElem?_set_ne hi]; exact hid⟩
            · simp only [if_neg hc]
              exact ⟨trivial, hid⟩
  · split
    · split
      · exact ⟨rfl, hid⟩
      · exact ⟨rfl, hid⟩
    · exact ⟨rfl, hid⟩
  · exact ⟨rfl, hid⟩
  · exact ⟨rfl, hid⟩

theorem settleL_set {id : Nat} {cs : List AV} {o o' : AObj} (ho : ∀ e n sz, o ≠ .tip e n sz) (ho' : ∀ e n sz, o' ≠ .tip e n sz) : ∀ {xs : List AV} {off v : Nat} {h : Heap}, h[id]? = some (some o) →
    settleL id cs off v (h.set id (some o')) xs = ((settleL id cs off v h xs).1, (settleL id cs off v h xs).2.set id (some o'))
  | [], off, v, h, hid => rfl
  | x :: xs, off, v, h, hid => by
    obtain ⟨h1, h2⟩ := settle_set (off := off) (v := v) (old := cs[off]?) (x := x) hid ho ho'
    simp only [settleL]
    rw [h1]
    simp only []
    rw [settleL_set ho ho' h2]

theorem run_storeA {t : TypeId} {x v : AV} {vx vv : Value} {h h' : Heap} (hk : Fit K h HF V w) (hs : storeA P t x v h = some h') (hx : Den K x vx) (hv : Den K v vv) :
    ∃ w' K', (Instr.storeAt t vx vv).run P w = .ok () w' ∧ Kext K K' ∧ Fit K' h' HF V w' ∧ h'.length = h.length := by
  unfold storeA at hs
  split at hs
  · rename_i id off n hn
    split at hs
    · rename_i e cs ver hid
      dsimp only at hs
      split at hs
      · rename_i hc
        obtain ⟨c1, c2, c3⟩ := hc
        generalize hst : settleL id cs off ver h v.cells = p at hs
        obtain ⟨ws, h1⟩ := p
        simp only at hs
        split at hs
        · rename_i hu
          cases hs
          obtain ⟨ow, hok⟩ := hk.ok
          obtain ⟨b, vs, hb⟩ := hok.box id e cs ver (comb_some hid)
          cases hx with
          | ptr _ _ b' hb' =>
            obtain rfl : b' = b := by rw [hb.blk] at hb'; exact (Option.some.inj hb').symm
            have hcl := hv.cells
            have hl1 : vv.cells.size = n := by have := hcl.length; simp at this; omega
            have hl2 : vs.size = cs.length := by have := hb.den.length; simpa using this
            -- the run
            have hrun : (Instr.storeAt t (.pointer (some ⟨b', off, none⟩)) vv).run P w = .ok () (w.setRow b' (vs.toList.take off ++ vv.cells.toList ++ vs.toList.drop (off + vv.cells.toList.length)).toArray) := by
              have := run_storeCells_atF P b' off e (0, 0) vv.cells.toList 0 vs w hb.heap (by simp) (by simp; omega) (oneCells_of hcl c3)
              rw [Nat.add_zero] at this
              simp only [Instr.storeAt, Instr.sureAddr, Sem.run_bind, Sem.run_pure, Result.andThen_ok, storeVar, run_sizeOf' hn]
              rw [if_neg (by simp [hl1])]
              exact this
            -- the heap with the higher version
            have hcomb : comb (h.set id (some (.cells e cs (ver + n)))) HF = upd (comb h HF) id (some (.cells e cs (ver + n))) := comb_set (lt_of_some hid) _
            have hok1 : OkW K (comb (h.set id (some (.cells e cs (ver + n)))) HF) V w ow := by rw [hcomb]; exact hok.bump (comb_some hid) (by omega)
            have hst1 : settleL id cs off ver (h.set id (some (.cells e cs (ver + n)))) v.cells = (ws, h1.set id (some (.cells e cs (ver + n)))) := by
              rw [settleL_set (o := .cells e cs ver) (by intro _ _ _ h; cases h) (by intro _ _ _ h; cases h) hid, hst]
            have hhf1 : ∀ i o, HF i = some o → (h.set id (some (.cells e cs (ver + n))))[i]? = some none := fun i o hi => by
              have h2 := hk.hf i o hi
              have : id ≠ i := by rintro rfl; rw [hid] at h2; cases h2
              rw [List.getElem?_set_ne this]; exact h2
            obtain ⟨K', ow', e1, e2, e3, e4, e5, e6, e7, e8, e9⟩ := settleL_ok hok1 hhf1 (List.getElem?_set_self (lt_of_some hid)) (by omega) (fun i c hi => (hb.cell i c hi).mono (Kext.refl K) (by omega) fun r n v hf ho => ⟨hf, ho⟩) (hok.ver id e cs ver (comb_some hid)) hcl hst1
            have hlen1 : id < h1.length := by have := lt_of_some hid; simp at e5; omega
            have hid1 : comb (h1.set id (some (.cells e cs (ver + n)))) HF id = some (.cells e cs (ver + n)) := comb_some (List.getElem?_set_self hlen1)
            obtain ⟨b2, vs2, hb2⟩ := e2.box id e cs (ver + n) hid1
            obtain rfl : b2 = b' := by have h3 := hb2.blk; rw [e1.blk _ _ hb.blk] at h3; exact (Option.some.inj h3).symm
            obtain rfl : vs2 = vs := by have h3 := hb2.heap; rw [hb.heap] at h3; cases h3; rfl
            have hwl : ws.length = n := by have := e8.length; simp at this; omega
            have hden := denL_splice (off := off) hb2.den e8
            have hok2 := e2.setBox (vs' := (vs2.toList.take off ++ vv.cells.toList ++ vs2.toList.drop (off + vv.cells.toList.length)).toArray) (cs' := spliceL cs off ws) rfl hid1 hb2 (by simpa using hden) (fun i c hi => by
                unfold spliceL at hi
                rw [List.append_assoc, List.getElem?_append] at hi
                have htl : (cs.take off).length = off := by simp; omega
                split at hi
                · rw [List.getElem?_take] at hi
                  split at hi
                  · exact hb2.cell i c hi
                  · exact nomatch hi
                · rename_i hge
                  rw [htl] at hi hge
                  rw [List.getElem?_append] at hi
                  split at hi
                  · have := e9 _ c hi
                    rwa [show off + (i - off) = i by omega] at this
                  · rename_i hge2
                    rw [List.getElem?_drop] at hi
                    have hieq : off + ws.length + (i - off - ws.length) = i := by omega
                    rw [hieq] at hi
                    exact hb2.cell i c hi) (by
                unfold spliceL
                have hund : ∀ {a b : List AV}, undersL (id + 1) (a ++ b) = (undersL (id + 1) a && undersL (id + 1) b) := by
                  intro a b
                  induction a with
                  | nil => simp [undersL]
                  | cons x xs ih => simp [undersL, ih, Bool.and_assoc]
                have hcs := hb2.under
                have h1 : undersL (id + 1) (cs.take off) = true := by
                  rw [← List.take_append_drop off cs, hund, Bool.and_eq_true] at hcs; exact hcs.1
                have h2 : undersL (id + 1) (cs.drop (off + ws.length)) = true := by
                  rw [← List.take_append_drop (off + ws.length) cs, hund, Bool.and_eq_true] at hcs; exact hcs.2
                rw [hund, hund, h1, h2, hu]; rfl) (Nat.le_refl _)
            refine ⟨_, K', hrun, e1, ⟨⟨ow', ?_⟩, fun i o hi => ?_, fun i hi => ?_⟩, by simp at e5 ⊢; exact e5⟩
            · rw [← comb_set (by simp; exact hlen1), List.set_set] at hok2
              exact hok2
            · have h2 := e7 i o hi
              have : id ≠ i := by rintro rfl; rw [List.getElem?_set_self hlen1] at h2; cases h2
              rw [List.getElem?_set_ne this] at h2 ⊢; exact h2
            · refine hk.vlen i ?_
              simp at hi e5; omega
        · exact nomatch hs
      · exact nomatch hs
    · exact nomatch hs
  · exact nomatch hs

end
end Go.Proofs.Ytfdcjngclelnhaa

set_option linter.unusedSimpArgs false
namespace Go.Proofs.Ytfdcjngclelnhaa
open Go Go.RowKit

section
variable {P : Program} {K : KW} {w : World} {HF : Nat → Option AObj} {V : Nat → Prop} {ow : Nat → Option OKey}

theorem oneCell_D {imm : Imm} {d : D} {v : Value} (h : DenD imm d v) (hf : d.flat = true) : v.oneCell' = true := by
  cases h <;> first | rfl | simp [D.flat] at hf

theorem oneCells_D {imm : Imm} : ∀ {ds : List D} {vs : List Value}, DenDL imm ds vs → ds.all D.flat = true → ∀ u, u ∈ vs → u.oneCell' = true
  | [], _, .nil, _, u, hu => by simp at hu
  | d :: ds, _, .cons h hs, hc, u, hu => by
    simp only [List.all_cons, Bool.and_eq_true] at hc
    rcases List.mem_cons.1 hu with rfl | hm
    · exact oneCell_D h hc.1
    · exact oneCells_D hs hc.2 u hm

theorem fits_sz {sz : Nat} {xs : List D} (h : xs.all (fitsD sz) = true) : ∀ e, e ∈ xs → e.cells.length = sz := fun e he => by
  have := List.all_eq_true.1 h e he
  simp only [fitsD, Bool.and_eq_true, beq_iff_eq] at this
  exact this.1

theorem fits_flat {sz : Nat} {xs : List D} (h : xs.all (fitsD sz) = true) : (xs.flatMap D.cells).all D.flat = true := by
  rw [List.all_flatMap, List.all_eq_true]
  intro e he
  have := List.all_eq_true.1 h e he
  simp only [fitsD, Bool.and_eq_true] at this
  exact this.2

/-- what is appended -/
structure More (P : Program) (K : KW) (sz : Nat) (vx : Value) (xs : List D) (news : List Value) : Prop where
  szs : ∀ e, e ∈ xs → e.cells.length = sz
  den : DenDL K.imm (xs.flatMap D.cells) news
  one : ∀ u, u ∈ news → u.oneCell' = true
  len : ∀ w : World, (Builtin.lenOf vx).run P w = .ok xs.length w
  cells : ∀ w : World, (∀ a c, K.imm a = some c → w.cell? a = some c) → (Builtin.firstCells sz xs.length vx).run P w = .ok news.toArray w

theorem more_slice {sz : Nat} {es : List D} {x : AV} {vx : Value} (hx : Den K x vx) (he : elems x = some es) (hf : es.all (fitsD sz) = true) : ∃ news, More P K sz vx es news := by
  obtain ⟨a, cap, rfl, hcap, b, o, sz', ha, hsz, vs, hd, hv⟩ := den_elems hx he
  have hl : vs.length = es.length * sz := by rw [hd.length, flat_length (fits_sz hf)]
  refine ⟨vs, fits_sz hf, hd, oneCells_D hd (fits_flat hf), fun w => rfl, fun w hw => ?_⟩
  by_cases hne : es = []
  · subst hne
    have : vs = [] := List.eq_nil_of_length_eq_zero (by simpa using hl)
    subst this
    cases a <;> simp [Builtin.firstCells, loadCells, loadCellsFrom]
  · rw [ha hne]
    simp only [Builtin.firstCells]
    have := run_loadCells_row (P := P) (w := w) (b := b) (o := o) (n := es.length * sz) (vs := vs) (by omega) fun j v hj => hw _ _ (hv j v hj)
    rw [this, List.take_of_length_le (by omega)]

theorem more_den {sz : Nat} {x : AV} {vx : Value} {xs : List D} (hm : moreA sz x = some xs) (hx : Den K x vx) : ∃ news, More P K sz vx xs news := by
  unfold moreA at hm
  split at hm
  · cases hm; exact more_slice hx (by simp [elems]) (by simp)
  · split at hm
    · rename_i hf; cases hm; exact more_slice hx (by simp [elems]) hf
    · exact nomatch hm
  · split at hm
    · rename_i hf; cases hm; exact more_slice hx (by simp [elems]) hf
    · exact nomatch hm
  · rename_i s
    split at hm
    · rename_i h1
      cases hm
      subst h1
      cases hx with | dat hx => ?_
      cases hx
      have hz : (ByteArray.mk s.toArray).size = s.length := by simp [ByteArray.size]
      refine ⟨s.map fun b => Value.int .u8 b.toNat, ?_, denDL_ints s, ?_, fun w => ?_, fun w hw => ?_⟩
      · intro e he
        simp at he
        obtain ⟨b, _, rfl⟩ := he
        rfl
      · intro u hu
        simp at hu
        obtain ⟨b, _, rfl⟩ := hu
        rfl
      · simp [Builtin.lenOf, hz]
      · have : (ByteArray.mk s.toArray).extract 0 s.length = ByteArray.mk s.toArray := by
          apply ByteArray.ext
          rw [ByteArray.data_extract]
          apply Array.ext'
          rw [Array.toList_extract, List.extract_eq_take_drop]
          simp
        simp only [Builtin.firstCells, List.length_map, this]
        simp
    · exact nomatch hm
  · exact nomatch hm

structure AppTypes (P : Program) (ts : Array TypeId) (elem : TypeId) (info : TypeInfo) : Prop where
  s : ∃ t, ts[0]? = some t ∧ P.underlying t = some (.slice elem)
  x : ∃ t d, ts[1]? = some t ∧ P.underlying t = some d ∧ ∀ k, d ≠ .int k
  info : P.info? elem = some info

theorem run_append_in {ts : Array TypeId} {ty elem : TypeId} {info : TypeInfo} (ht : AppTypes P ts elem info) {vx : Value} {xs : List D} {news : List Value} (hm : More P K info.size vx xs news) (hw : ∀ a c, K.imm a = some c → w.cell? a = some c) {b len cap : Nat} (hn : len + xs.length ≤ cap) :
    (Builtin.append_ ts ty #[.slice (some ⟨b, 0, none⟩) len cap, vx]).run P w = ((storeCells ⟨b, len * info.size, none⟩ news).run P w).andThen fun _ w' => .ok (.slice (some ⟨b, 0, none⟩) (len + xs.length) cap) w' := by
  obtain ⟨⟨t1, h1, h2⟩, ⟨t2, d, h3, h4, h5⟩, h6⟩ := ht
  have hd : (match d with | .int _ => true | _ => false) = false := by cases d <;> first | rfl | exact absurd rfl (h5 _)
  have hsz : (sizeOf elem).run P w = .ok info.size w := run_sizeOf' (by simp [sizeA, h6])
  unfold Builtin.append_
  simp only [h1, h3, List.getElem?_toArray, List.getElem?_cons_zero, List.getElem?_cons_succ, Sem.run_bind, run_underlying' h2, Result.andThen_ok, hsz, run_underlying' h4, Sem.run_pure]
  simp only [Bool.false_eq_true, if_false, Sem.run_bind, hm.len w, Result.andThen_ok, Bool.not_false, if_true, if_pos hn, hm.cells w hw, addr_add, Nat.zero_add]
  rfl

theorem run_askRoom (n : Nat) : (askRoom n).run P w = .ok () w := by
  unfold askRoom
  split
  · simp [mark, Sem.run]
  · rfl

theorem run_append_grow {ts : Array TypeId} {ty elem : TypeId} {info : TypeInfo} (ht : AppTypes P ts elem info) {vx : Value} {xs : List D} {news old : List Value} (hm : More P K info.size vx xs news) (hw : ∀ a c, K.imm a = some c → w.cell? a = some c)
    {base : Option Addr} {len cap : Nat} (hn : ¬ len + xs.length ≤ cap) (hroom : roomOk (len + xs.length) info.bytes = true) (hold : ∀ w : World, (∀ a c, K.imm a = some c → w.cell? a = some c) → (Builtin.firstCells info.size len (.slice base len cap)).run P w = .ok old.toArray w)
    {zv : Value} (hz : info.zero = some zv) (hzs : zv.cells.size = info.size) :
    ∃ cap' rest, (Builtin.append_ ts ty #[.slice base len cap, vx]).run P w = .ok (.slice (some ⟨w.heap.size, 0, none⟩) (len + xs.length) cap') (w.drew.alloc (.cells (old ++ news ++ rest).toArray elem)) ∧ len + xs.length ≤ cap' ∧ rest.length = (cap' - (len + xs.length)) * info.size := by
  obtain ⟨⟨t1, h1, h2⟩, ⟨t2, d, h3, h4, h5⟩, h6⟩ := ht
  have hd : (match d with | .int _ => true | _ => false) = false := by cases d <;> first | rfl | exact absurd rfl (h5 _)
  have hsz : (sizeOf elem).run P w = .ok info.size w := run_sizeOf' (by simp [sizeA, h6])
  have hti : ∀ w : World, (typeInfo elem).run P w = .ok info w := fun w => by simp [typeInfo, program, Sem.run, h6]
  simp only [roomOk, decide_eq_true_eq] at hroom
  obtain ⟨r1, r2⟩ := hroom
  have hnext := nextslicecap_le (need := len + xs.length) (old := cap) (by omega)
  have hbytes : ¬ Builtin.nextslicecap (len + xs.length) cap * info.bytes > 2 ^ 48 := by
    have := Nat.mul_le_mul_right info.bytes hnext
    omega
  obtain ⟨cap', w', hc1, rfl, hc2⟩ := choose_cap (P := P) (w := w) (need := len + xs.length) (old := cap) (elem := elem)
  have hw' : ∀ a c, K.imm a = some c → w.drew.cell? a = some c := fun a c h => hw a c h
  refine ⟨cap', (Builtin.zeroCells zv.cells (cap' - (len + xs.length))).toList, ?_, hc2, by simp [Builtin.zeroCells, hzs]⟩
  unfold Builtin.append_
  simp only [h1, h3, List.getElem?_toArray, List.getElem?_cons_zero, List.getElem?_cons_succ, Sem.run_bind, run_underlying' h2, Result.andThen_ok, hsz, run_underlying' h4, Sem.run_pure]
  simp only [Bool.false_eq_true, if_false, Sem.run_bind, hm.len w, Result.andThen_ok, Bool.not_false, if_true, if_neg hn, hti w, false_or]
  have hmax : ¬ (((len + xs.length : Nat) : Int) > IntKind.i64.max ∧ info.bytes = 0) := by
    rintro ⟨h, _⟩
    simp at h
    omega
  rw [if_neg hmax]
  simp only [Sem.run_bind, hti w, Result.andThen_ok]
  rw [if_neg hbytes]
  have hti' := hti w.drew
  have hzr : (zeroValue elem).run P w.drew = .ok zv w.drew := by simp [zeroValue, typeInfo, program, Sem.run, h6, hz]
  simp only [Sem.run_bind, hc1, Result.andThen_ok, hti', run_askRoom, hold w.drew hw', hm.cells w.drew hw', hzr, newRow, run_newObj_alloc, Sem.run_pure, if_true]
  simp
  congr 2
  apply Array.ext'
  simp

/-- a new growing row -/
theorem OkW.newTip {hc : Nat → Option AObj} (hk : OkW K hc V w ow) {id n sz cap : Nat} {e : TypeId} {arr : Array Value} (hv : V id) (hsz : cap * sz ≤ arr.size) :
    ∃ K' ow', K' = withTip (withImm K w.heap.size (n * sz) arr) id n ⟨w.heap.size, cap, sz, e⟩ ∧ Kext K (withImm K w.heap.size (n * sz) arr) ∧ Kext K K' ∧ OkW K' (upd hc id (some (.tip e n sz))) (fun i => V i ∧ i ≠ id) (w.alloc (.cells arr e)) ow' := by
  obtain ⟨f1, f2, f3, f4⟩ := hk.fresh id hv
  have hnone := hk.not_own_new
  obtain ⟨hk1, hext1⟩ := (hk.push (.cells arr e)).told (m := n * sz) (heap_pushW_new w _) hnone hk.base_le
  have hext2 : Kext (withImm K w.heap.size (n * sz) arr) (withTip (withImm K w.heap.size (n * sz) arr) id n ⟨w.heap.size, cap, sz, e⟩) := kext_withTip (f3 n)
  let K' := withTip (withImm K w.heap.size (n * sz) arr) id n ⟨w.heap.size, cap, sz, e⟩
  let ow' : Nat → Option OKey := fun b => if b = w.heap.size then some (.tip id) else ow b
  have hkeep : ∀ b k, ow b = some k → ow' b = some k := fun b k h1 => by
    have : b ≠ w.heap.size := by have := hk.own b k h1; omega
    simp [ow', this, h1]
  refine ⟨K', ow', rfl, hext1, hext1.trans hext2, ⟨hk1.imm, hk1.below, fun id' e' cs ver hid => ?_, fun id' e' n' sz' hid => ?_, fun id' e' n' sz' hid => ?_, fun i hi => ?_, fun id' e' cs ver hid => ?_, fun b k hb => ?_⟩⟩
  · by_cases hi : id' = id
    · subst hi; rw [upd_same] at hid; cases hid
    · rw [upd_ne hi] at hid
      obtain ⟨b, vs, hb⟩ := hk1.box id' e' cs ver hid
      exact ⟨b, vs, hb.blk, hkeep _ _ hb.own, hb.base, hb.heap, hb.imm, hb.den.mono hext2, fun i c hc' => (hb.cell i c hc').mono hext2 (Nat.le_refl _) fun r n v hf ho => ⟨⟨hf.blk, hf.imm, hf.base⟩, hkeep _ _ ho⟩, hb.under⟩
  · by_cases hi : id' = id
    · subst hi; rw [upd_same] at hid; cases hid
      refine ⟨⟨w.heap.size, cap, sz, e⟩, withTip_key, rfl, rfl, ⟨⟨arr, 0, 0, heap_pushW_new _ _, hsz, Nat.zero_le _⟩, fun off sp ho => ?_, hk.base_le⟩, by simp [ow']⟩
      show (withImm K w.heap.size (n * sz) arr).imm ⟨w.heap.size, off, sp⟩ = none
      rw [withImm_above ho]
      cases hm : K.imm ⟨w.heap.size, off, sp⟩ with
      | none => rfl
      | some v =>
        obtain ⟨vs, e', f, g1, _⟩ := cell_block (hk.imm _ _ hm)
        have := lt_of_heap g1
        simp at this
    · rw [upd_ne hi] at hid
      obtain ⟨r, h1, h2, h3, h4, h5⟩ := hk1.tip id' e' n' sz' hid
      exact ⟨r, hext2.key _ _ h1, h2, h3, ⟨h4.blk, h4.imm, h4.base⟩, hkeep _ _ h5⟩
  · by_cases hi : id' = id
    · subst hi; rw [upd_same] at hid; cases hid
      intro n'' hn''
      have hne : ¬ n'' = n := by omega
      have : K.key (.tip id' n'') = none := f3 n''
      simp [K', withTip, withKey, withImm, hne, this]
    · rw [upd_ne hi] at hid
      intro n'' hn''
      have := hk1.more id' e' n' sz' hid n'' hn''
      simp [K', withTip, withKey, hi, this]
  · obtain ⟨g1, g2, g3, g4⟩ := hk.fresh i hi.1
    exact ⟨by rw [upd_ne hi.2]; exact g1, g2, fun n' => by simp [K', withTip, withKey, withImm, hi.2, g3 n'], fun off v => by simp [K', withTip, withKey, withImm, g4 off v]⟩
  · by_cases hi : id' = id
    · subst hi; rw [upd_same] at hid; cases hid
    · rw [upd_ne hi] at hid
      intro off v hv'
      have := hk.ver id' e' cs ver hid off v hv'
      simp [K', withTip, withKey, withImm, this]
  · simp only [ow'] at hb
    rw [size_pushW]
    split at hb
    · omega
    · have := hk.own b k hb; omega

end
end Go.Proofs.Ytfdcjngclelnhaa

set_option linter.unusedSimpArgs false
namespace Go.Proofs.Ytfdcjngclelnhaa
open Go Go.RowKit

section
variable {P : Program} {K : KW} {w : World} {h : Heap} {HF : Nat → Option AObj} {V : Nat → Prop} {ow : Nat → Option OKey} {hc : Nat → Option AObj}

def freeOw (ow : Nat → Option OKey) (b : Nat) : Nat → Option OKey := fun x => if x = b then none else ow x

theorem OkW.release (hk : OkW K hc V w ow) {b : Nat} {k0 : OKey} (ho : ow b = some k0) {hc' : Nat → Option AObj} (htip : ∀ id e n sz, hc' id = some (.tip e n sz) → hc id = some (.tip e n sz) ∧ k0 ≠ .tip id)
    (hbox : ∀ id e cs' ver, hc' id = some (.cells e cs' ver) → k0 ≠ .box id ∧ ∃ cs, hc id = some (.cells e cs ver) ∧ undersL (id + 1) cs' = true ∧ (∀ vs, DenL K cs vs → DenL K cs' vs) ∧ ∀ (i : Nat) (c : AV), cs'[i]? = some c → CellOk K w ow id i ver c → CellOk K w (freeOw ow b) id i ver c)
    (hcell : ∀ id e cs cs' ver, hc id = some (.cells e cs ver) → hc' id = some (.cells e cs' ver) → ∀ (i : Nat) (c : AV), cs'[i]? = some c → CellOk K w ow id i ver c) (hnone : ∀ id, hc id = none → hc' id = none) : OkW K hc' V w (freeOw ow b) := by
  have hkeep : ∀ x k, ow x = some k → k ≠ k0 → freeOw ow b x = some k := fun x k h1 h2 => by
    have : x ≠ b := by rintro rfl; rw [ho] at h1; exact h2 (Option.some.inj h1).symm
    simp [freeOw, this, h1]
  refine ⟨hk.imm, hk.below, fun id e cs' ver hid => ?_, fun id e n sz hid => ?_, fun id e n sz hid => ?_, fun i hi => ?_, fun id e cs' ver hid => ?_, fun x k hx => ?_⟩
  · obtain ⟨hk0, cs, h1, h2, h3, h4⟩ := hbox id e cs' ver hid
    obtain ⟨bb, vs, hb⟩ := hk.box id e cs ver h1
    exact ⟨bb, vs, hb.blk, hkeep _ _ hb.own (fun e => hk0 e.symm), hb.base, hb.heap, hb.imm, h3 _ hb.den, fun i c hi => h4 i c hi (hcell id e cs cs' ver h1 hid i c hi), h2⟩
  · obtain ⟨h1, h2⟩ := htip id e n sz hid
    obtain ⟨r, g1, g2, g3, g4, g5⟩ := hk.tip id e n sz h1
    exact ⟨r, g1, g2, g3, g4, hkeep _ _ g5 (fun e => h2 e.symm)⟩
  · exact hk.more id e n sz (htip id e n sz hid).1
  · obtain ⟨g1, g2⟩ := hk.fresh i hi
    exact ⟨hnone i g1, g2⟩
  · obtain ⟨_, cs, h1, _⟩ := hbox id e cs' ver hid
    exact hk.ver id e cs ver h1
  · simp only [freeOw] at hx
    split at hx
    · exact nomatch hx
    · exact hk.own x k hx

/-- a mark gives its right up -/
theorem OkW.releaseTip (hk : OkW K hc V w ow) {id : Nat} {b : Nat} (ho : ow b = some (.tip id)) : OkW K (upd hc id none) V w (freeOw ow b) := by
  refine hk.release ho (fun i e n sz hi => ?_) (fun i e cs' ver hi => ?_) (fun i e cs cs' ver h1 h2 j c hj => ?_) fun i hi => ?_
  · by_cases hne : i = id
    · subst hne; rw [upd_same] at hi; exact nomatch hi
    · rw [upd_ne hne] at hi; exact ⟨hi, fun e => hne (OKey.tip.inj e).symm⟩
  · by_cases hne : i = id
    · subst hne; rw [upd_same] at hi; exact nomatch hi
    · rw [upd_ne hne] at hi
      refine ⟨(by intro e; cases e), cs', hi, ?_, fun vs h => h, fun j c hj hcc => hcc.mono (Kext.refl K) (Nat.le_refl _) fun r n v hf ho' => ⟨hf, ?_⟩⟩
      · obtain ⟨bb, vs, hb⟩ := hk.box i e cs' ver hi
        exact hb.under
      · have : r.b ≠ b := by intro e; rw [e, ho] at ho'; exact nomatch ho'
        simp [freeOw, this, ho']
  · by_cases hne : i = id
    · subst hne; rw [upd_same] at h2; exact nomatch h2
    · rw [upd_ne hne, h1] at h2
      cases h2
      obtain ⟨bb, vs, hb⟩ := hk.box i e cs ver h1
      exact hb.cell j c hj
  · by_cases hne : i = id
    · subst hne; exact upd_same _ _ _
    · rw [upd_ne hne]; exact hi

theorem undersL_set {n : Nat} {x : AV} (hx : x.under n = true) : ∀ {cs : List AV} {i : Nat}, undersL n cs = true → undersL n (cs.set i x) = true
  | [], _, h => by simpa using h
  | c :: cs, 0, h => by simp [undersL] at h ⊢; exact ⟨hx, h.2⟩
  | c :: cs, i + 1, h => by simp [undersL] at h ⊢; exact ⟨h.1, undersL_set hx h.2⟩

theorem denL_setSame {cs : List AV} {vs : List Value} {i : Nat} {x y : AV} (h : DenL K cs vs) (hx : cs[i]? = some x) (hy : ∀ v, Den K x v → Den K y v) : DenL K (cs.set i y) vs := by
  induction h generalizing i with
  | nil => simp at hx
  | cons hd ht ih =>
    cases i with
    | zero => simp at hx; subst hx; exact .cons (hy _ hd) ht
    | succ i => exact .cons hd (ih (by simpa using hx))

/-- a place in a box gives its right up -/
theorem OkW.releaseAt (hk : OkW K hc V w ow) {id off v ver : Nat} {e e' : TypeId} {cs : List AV} {es : List D} {b : Nat} (hid : hc id = some (.cells e cs ver)) (hcs : cs[off]? = some (.own (.at id off v e') es)) (ho : ow b = some (.at id off v)) :
    OkW K (upd hc id (some (.cells e (cs.set off (.dat (.slice es))) ver))) V w (freeOw ow b) := by
  have hoff : off < cs.length := lt_of_some hcs
  refine hk.release ho (fun i e2 n sz hi => ?_) (fun i e2 cs' ver' hi => ?_) (fun i e2 cs1 cs' ver' h1 h2 j c hj => ?_) fun i hi => ?_
  · by_cases hne : i = id
    · subst hne; rw [upd_same] at hi; cases hi
    · rw [upd_ne hne] at hi; exact ⟨hi, by intro e; cases e⟩
  · have hfree : ∀ i (j : Nat) c, CellOk K w ow i j ver' c → (i = id → j ≠ off) → CellOk K w (freeOw ow b) i j ver' c := fun i j c hcc hne => hcc.mono (Kext.refl K) (Nat.le_refl _) fun r n v' hf ho' => ⟨hf, by
      have : r.b ≠ b := by
        intro e3
        rw [e3, ho] at ho'
        cases ho'
        exact hne rfl rfl
      simp [freeOw, this, ho']⟩
    by_cases hne : i = id
    · subst hne
      rw [upd_same] at hi
      cases hi
      obtain ⟨bb, vs, hb⟩ := hk.box _ _ _ _ hid
      refine ⟨(by intro e; cases e), cs, hid, undersL_set (by simp [AV.under]) hb.under, fun vs h => denL_setSame h hcs (fun v hv => .dat (den_sealOwn hv)), fun j c hj hcc => ?_⟩
      rw [List.getElem?_set] at hj
      split at hj
      · rename_i hj'
        subst hj'
        first
          | (rw [if_pos hoff] at hj; cases hj; trivial)
          | (cases hj; trivial)
      · rename_i hj'
        exact hfree _ _ _ hcc (fun _ e => hj' e.symm)
    · rw [upd_ne hne] at hi
      obtain ⟨bb, vs, hb⟩ := hk.box _ _ _ _ hi
      exact ⟨(by intro e; cases e), cs', hi, hb.under, fun vs h => h, fun j c hj hcc => hfree _ _ _ hcc (fun e => absurd e hne)⟩
  · obtain ⟨bb, vs, hb⟩ := hk.box _ _ _ _ h1
    by_cases hne : i = id
    · subst hne
      rw [upd_same] at h2
      rw [hid] at h1
      cases h1
      cases h2
      rw [List.getElem?_set] at hj
      split at hj
      · rename_i hj'
        subst hj'
        first
          | (rw [if_pos hoff] at hj; cases hj; trivial)
          | (cases hj; trivial)
      · exact hb.cell j c hj
    · rw [upd_ne hne, h1] at h2
      cases h2
      exact hb.cell j c hj
  · by_cases hne : i = id
    · subst hne; rw [hid] at hi; exact nomatch hi
    · rw [upd_ne hne]; exact hi

/-- a mark takes a block that nobody owns -/
theorem OkW.claim (hk : OkW K hc V w ow) {id n : Nat} {r : KRow} (hid : hc id = none) (hnV : ∀ i, V i → i ≠ id) (hkeys : ∀ n', n ≤ n' → K.key (.tip id n') = none) (hf : Free K w r n) (hu : ow r.b = none) :
    ∃ ow', Kext K (withTip K id n r) ∧ OkW (withTip K id n r) (upd hc id (some (.tip r.e n r.sz))) V w ow' := by
  have hext : Kext K (withTip K id n r) := kext_withTip (hkeys n (Nat.le_refl _))
  let ow' : Nat → Option OKey := fun b => if b = r.b then some (.tip id) else ow b
  have hkeep : ∀ b k, ow b = some k → ow' b = some k := fun b k h1 => by
    have : b ≠ r.b := by rintro rfl; rw [hu] at h1; exact nomatch h1
    simp [ow', this, h1]
  refine ⟨ow', hext, hk.imm, hk.below, fun id' e' cs ver hid' => ?_, fun id' e' n' sz' hid' => ?_, fun id' e' n' sz' hid' => ?_, fun i hi => ?_, fun id' e' cs ver hid' => ?_, fun b k hb => ?_⟩
  · by_cases hi : id' = id
    · subst hi; rw [upd_same] at hid'; cases hid'
    · rw [upd_ne hi] at hid'
      obtain ⟨b, vs, hb⟩ := hk.box id' e' cs ver hid'
      exact ⟨b, vs, hb.blk, hkeep _ _ hb.own, hb.base, hb.heap, hb.imm, hb.den.mono hext, fun i c hc' => (hb.cell i c hc').mono hext (Nat.le_refl _) fun r n v hf ho => ⟨⟨hf.blk, hf.imm, hf.base⟩, hkeep _ _ ho⟩, hb.under⟩
  · by_cases hi : id' = id
    · subst hi; rw [upd_same] at hid'; cases hid'
      exact ⟨r, withTip_key, rfl, rfl, ⟨hf.blk, hf.imm, hf.base⟩, by simp [ow']⟩
    · rw [upd_ne hi] at hid'
      obtain ⟨r', h1, h2, h3, h4, h5⟩ := hk.tip id' e' n' sz' hid'
      exact ⟨r', hext.key _ _ h1, h2, h3, ⟨h4.blk, h4.imm, h4.base⟩, hkeep _ _ h5⟩
  · by_cases hi : id' = id
    · subst hi; rw [upd_same] at hid'; cases hid'
      intro n'' hn''
      have hne : ¬ n'' = n := by omega
      simp [withTip, withKey, hne, hkeys n'' (by omega)]
    · rw [upd_ne hi] at hid'
      intro n'' hn''
      have := hk.more id' e' n' sz' hid' n'' hn''
      simp [withTip, withKey, hi, this]
  · obtain ⟨g1, g2, g3, g4⟩ := hk.fresh i hi
    have hne := hnV i hi
    exact ⟨by rw [upd_ne hne]; exact g1, g2, fun n' => by simp [withTip, withKey, hne, g3 n'], fun off v => by simp [withTip, withKey, g4 off v]⟩
  · by_cases hi : id' = id
    · subst hi; rw [upd_same] at hid'; cases hid'
    · rw [upd_ne hi] at hid'
      intro off v hv'
      simp [withTip, withKey, hk.ver id' e' cs ver hid' off v hv']
  · simp only [ow'] at hb
    split at hb
    · rename_i hbe; rw [hbe]; exact hf.lt
    · exact hk.own b k hb

theorem cells_append {imm : Imm} {b sz : Nat} {es xs : List D} {news : List Value} (h : Cells imm b 0 sz es) (hs : ∀ e, e ∈ xs → e.cells.length = sz) (hd : DenDL imm (xs.flatMap D.cells) news) (hv : ∀ (j : Nat) (v : Value), news[j]? = some v → imm ⟨b, es.length * sz + j, none⟩ = some v) :
    Cells imm b 0 sz (es ++ xs) := by
  obtain ⟨h1, vs, h2, h3⟩ := h
  have hvl : vs.length = es.length * sz := by rw [h2.length, flat_length h1]
  refine ⟨fun e he => (List.mem_append.1 he).elim (h1 e) (hs e), vs ++ news, by rw [List.flatMap_append]; exact h2.append hd, fun j v hj => ?_⟩
  rw [List.getElem?_append] at hj
  split at hj
  · exact h3 j v hj
  · rename_i hge
    rw [hvl] at hj hge
    have := hv _ v hj
    rwa [show es.length * sz + (j - es.length * sz) = 0 + j by omega] at this

/-- in place -/
theorem extend_in (hk : OkW K hc V w ow) {ts : Array TypeId} {ty elem : TypeId} {info : TypeInfo} (ht : AppTypes P ts elem info) {vx : Value} {xs : List D} {news : List Value} (hm : More P K info.size vx xs news) {r : KRow} (hsz : r.sz = info.size) {es : List D}
    (hcells : Cells K.imm r.b 0 r.sz es) (hf : Free K w r es.length) (hu : ow r.b = none) (hcap : es.length + xs.length ≤ r.cap) {id : Nat} (hid : hc id = none) (hnV : ∀ i, V i → i ≠ id) (hkeys : ∀ n', es.length + xs.length ≤ n' → K.key (.tip id n') = none) :
    ∃ w' K' ow', (Builtin.append_ ts ty #[.slice (some ⟨r.b, 0, none⟩) es.length r.cap, vx]).run P w = .ok (.slice (some ⟨r.b, 0, none⟩) (es.length + xs.length) r.cap) w' ∧ Kext K K' ∧ Den K' (.own (.tip id) (es ++ xs)) (.slice (some ⟨r.b, 0, none⟩) (es.length + xs.length) r.cap) ∧
      OkW K' (upd hc id (some (.tip r.e (es.length + xs.length) r.sz))) V w' ow' := by
  obtain ⟨⟨arr, lo, hi, hblk, hsize, hhi⟩, himm, hbase⟩ := hf
  have hnl : news.length = xs.length * r.sz := by rw [hsz, hm.den.length, flat_length hm.szs]
  have hle : es.length * r.sz + news.length ≤ arr.size := by
    rw [hnl, ← Nat.add_mul]
    exact Nat.le_trans (Nat.mul_le_mul_right _ hcap) hsize
  let arr' : Array Value := (arr.toList.take (es.length * r.sz) ++ news ++ arr.toList.drop (es.length * r.sz + news.length)).toArray
  have hrun := run_append_in (P := P) (w := w) (ty := ty) ht hm hk.imm (b := r.b) hcap
  have hst := run_storeCells_atF P r.b (es.length * r.sz) r.e (lo, hi) news 0 arr w hblk (by simpa using hhi) (by simpa using hle) hm.one
  rw [Nat.add_zero] at hst
  rw [hsz] at hst
  rw [hst, Result.andThen_ok] at hrun
  have hasz : arr'.size = arr.size := by simp [arr']; omega
  have hlow : ∀ off, off < es.length * r.sz → arr'[off]? = arr[off]? := fun off ho => by
    have : (arr.toList.take (es.length * r.sz)).length = es.length * r.sz := by simp; omega
    simp only [arr', List.getElem?_toArray]
    rw [List.append_assoc, List.getElem?_append_left (by omega), List.getElem?_take, if_pos ho, Array.getElem?_toList]
  have hnew : ∀ (j : Nat) (v : Value), news[j]? = some v → arr'[es.length * r.sz + j]? = some v := fun j v hj => by
    have htl : (arr.toList.take (es.length * r.sz)).length = es.length * r.sz := by simp; omega
    simp only [arr', List.getElem?_toArray]
    rw [List.append_assoc, List.getElem?_append_right (by omega), htl, Nat.add_sub_cancel_left, List.getElem?_append_left (lt_of_some hj)]
    exact hj
  have hheap : (w.setRow r.b arr').heap[r.b]? = some (.cells arr' r.e (lo, hi)) := setRow_heap w r.b arr arr' r.e (lo, hi) hblk
  have hk1 : OkW K hc V (w.setRow r.b arr') ow := hk.world (hk.below.trans ⟨rfl, rfl, rfl, by simp, fun k hk' => setRow_other w r.b k arr' (by omega)⟩) (by simp) (fun b k ho => setRow_other w r.b b arr' (fun e => by rw [e, hu] at ho; exact nomatch ho)) fun a c ha => by
    have h1 := hk.imm a c ha
    by_cases hab : a.block = r.b
    · obtain ⟨ab, ao, asp⟩ := a
      simp only at hab
      subst hab
      obtain ⟨vs, e, f, g1, g2, g3⟩ := cell_block h1
      simp only at g2 g3
      subst g2
      rw [hblk] at g1
      cases g1
      have : ao < es.length * r.sz := by
        rcases Nat.lt_or_ge ao (es.length * r.sz) with h | h
        · exact h
        · have := himm ao none h; rw [ha] at this; exact nomatch this
      rw [cell_of hheap, hlow ao this]; exact g3
    · rw [cell_same (setRow_other w r.b a.block arr' hab)]; exact h1
  obtain ⟨hk2, hext2⟩ := hk1.told (m := (es.length + xs.length) * r.sz) hheap hu hbase
  obtain ⟨ow', hext3, hk3⟩ := hk2.claim (r := r) hid hnV (fun n' hn' => hkeys n' hn') ⟨⟨arr', lo, hi, hheap, by omega, Nat.le_trans hhi (Nat.mul_le_mul_right _ (Nat.le_add_right _ _))⟩, fun off sp ho => by
    rw [withImm_above ho]; exact himm off sp (Nat.le_trans (Nat.mul_le_mul_right _ (Nat.le_add_right _ _)) ho), hbase⟩ hu
  refine ⟨_, _, ow', hrun, hext2.trans hext3, ?_, ?_⟩
  · have hlen : (es ++ xs).length = es.length + xs.length := by simp
    have hd : Cells (withTip (withImm K r.b ((es.length + xs.length) * r.sz) arr') id (es.length + xs.length) r).imm r.b 0 r.sz (es ++ xs) → Den (withTip (withImm K r.b ((es.length + xs.length) * r.sz) arr') id (es.length + xs.length) r) (.own (.tip id) (es ++ xs)) (.slice (some ⟨r.b, 0, none⟩) (es.length + xs.length) r.cap) := fun h => by
      have := Den.tip id (es ++ xs) r (by rw [hlen]; exact withTip_key) (by rw [hlen]; exact hcap) h
      rwa [hlen] at this
    refine hd ?_
    refine cells_append (hcells.mono (hext2.trans hext3).imm) (fun e he => by rw [hsz]; exact hm.szs e he) (hm.den.mono (hext2.trans hext3).imm) fun j v hj => ?_
    show (withImm K r.b ((es.length + xs.length) * r.sz) arr').imm ⟨r.b, es.length * r.sz + j, none⟩ = some v
    have hjl := lt_of_some hj
    rw [withImm_in (by rw [Nat.add_mul, ← hnl]; omega)]
    exact hnew j v hj
  · rw [← hsz]; exact hk3

/-- into a new block -/
theorem extend_grow (hk : OkW K hc V w ow) {ts : Array TypeId} {ty elem : TypeId} {info : TypeInfo} (ht : AppTypes P ts elem info) {vx : Value} {xs : List D} {news : List Value} (hm : More P K info.size vx xs news) {es : List D} {base : Option Addr} {cap b o sz : Nat}
    (ha : es ≠ [] → base = some ⟨b, o, none⟩) (hsz : es ≠ [] → sz = info.size) (hcells : Cells K.imm b o sz es) (hcap : ¬ es.length + xs.length ≤ cap) (hroom : roomOk (es.length + xs.length) info.bytes = true) (hz : info.zero.map (fun v => v.cells.size) = some info.size) {id : Nat} (hid : hc id = none)
    (hnV : ∀ i, V i → i ≠ id) (hkeys : ∀ n', es.length + xs.length ≤ n' → K.key (.tip id n') = none) :
    ∃ u w' K' ow', (Builtin.append_ ts ty #[.slice base es.length cap, vx]).run P w = .ok u w' ∧ Kext K K' ∧ Den K' (.own (.tip id) (es ++ xs)) u ∧ OkW K' (upd hc id (some (.tip elem (es.length + xs.length) info.size))) V w' ow' := by
  obtain ⟨zv, hz1, hz2⟩ : ∃ zv, info.zero = some zv ∧ zv.cells.size = info.size := by
    cases hzz : info.zero with
    | none => rw [hzz] at hz; exact nomatch hz
    | some zv => rw [hzz] at hz; exact ⟨zv, rfl, Option.some.inj hz⟩
  obtain ⟨h1, vs, h2, h3⟩ := hcells
  have hszz : ∀ e, e ∈ es → e.cells.length = info.size := fun e he => by rw [h1 e he]; exact hsz (by rintro rfl; simp at he)
  have hvl : vs.length = es.length * info.size := by rw [h2.length, flat_length hszz]
  have hold : ∀ w : World, (∀ a c, K.imm a = some c → w.cell? a = some c) → (Builtin.firstCells info.size es.length (.slice base es.length cap)).run P w = .ok vs.toArray w := fun w hw => by
    by_cases hne : es = []
    · subst hne
      have : vs = [] := List.eq_nil_of_length_eq_zero (by simpa using hvl)
      subst this
      cases base <;> simp [Builtin.firstCells, loadCells, loadCellsFrom]
    · rw [ha hne]
      simp only [Builtin.firstCells]
      have := run_loadCells_row (P := P) (w := w) (b := b) (o := o) (n := es.length * info.size) (vs := vs) (by omega) fun j v hj => hw _ _ (h3 j v hj)
      rw [this, List.take_of_length_le (by omega)]
  obtain ⟨cap', rest, hrun, hc', hrl⟩ := run_append_grow (P := P) (w := w) (ty := ty) ht hm hk.imm hcap hroom hold hz1 hz2
  have hnl : news.length = xs.length * info.size := by rw [hm.den.length, flat_length hm.szs]
  let arr : Array Value := (vs ++ news ++ rest).toArray
  have hasz : arr.size = cap' * info.size := by
    have : (es.length + xs.length) * info.size + (cap' - (es.length + xs.length)) * info.size = cap' * info.size := by rw [← Nat.add_mul]; congr 1; omega
    rw [Nat.add_mul] at this
    simp [arr, hvl, hnl, hrl]; omega
  have hkd := hk.drew
  have hnone : ow w.drew.heap.size = none := hkd.not_own_new
  have hb := heap_pushW_new w.drew (.cells arr elem)
  obtain ⟨hk1, hext1⟩ := (hkd.push (.cells arr elem)).told (m := (es.length + xs.length) * info.size) hb hnone hkd.base_le
  let r : KRow := ⟨w.drew.heap.size, cap', info.size, elem⟩
  obtain ⟨ow', hext2, hk2⟩ := hk1.claim (r := r) (n := es.length + xs.length) hid hnV (fun n' hn' => hkeys n' hn') ⟨⟨arr, 0, 0, hb, by simp only [r]; omega, Nat.zero_le _⟩, fun off sp ho => by
    rw [withImm_above ho]
    cases hmm : K.imm ⟨w.drew.heap.size, off, sp⟩ with
    | none => rfl
    | some v =>
      obtain ⟨vs', e', f, g1, _⟩ := cell_block (hkd.imm _ _ hmm)
      have := lt_of_heap g1
      simp at this, hkd.base_le⟩ hnone
  refine ⟨_, _, _, ow', hrun, hext1.trans hext2, ?_, hk2⟩
  have hlen : (es ++ xs).length = es.length + xs.length := by simp
  have hd : Cells (withTip (withImm K w.drew.heap.size ((es.length + xs.length) * info.size) arr) id (es.length + xs.length) r).imm r.b 0 r.sz (es ++ xs) → Den (withTip (withImm K w.drew.heap.size ((es.length + xs.length) * info.size) arr) id (es.length + xs.length) r) (.own (.tip id) (es ++ xs)) (.slice (some ⟨r.b, 0, none⟩) (es.length + xs.length) r.cap) := fun h => by
    have := Den.tip id (es ++ xs) r (by rw [hlen]; exact withTip_key) (by rw [hlen]; exact hc') h
    rwa [hlen] at this
  refine hd ?_
  refine ⟨fun e he => (List.mem_append.1 he).elim (hszz e) (hm.szs e), vs ++ news, ?_, fun j v hj => ?_⟩
  · rw [List.flatMap_append]; exact (h2.append hm.den).mono (hext1.trans hext2).imm
  · show (withImm K w.drew.heap.size ((es.length + xs.length) * info.size) arr).imm ⟨w.drew.heap.size, 0 + j, none⟩ = some v
    have hjl := lt_of_some hj
    rw [Nat.zero_add, withImm_in (by rw [Nat.add_mul]; simp at hjl; omega)]
    simp only [arr, List.getElem?_toArray]
    rw [List.getElem?_append_left hjl]; exact hj

end
end Go.Proofs.Ytfdcjngclelnhaa

set_option linter.unusedSimpArgs false
namespace Go.Proofs.Ytfdcjngclelnhaa
open Go Go.RowKit

section
variable {P : Program} {K : KW} {w : World} {h : Heap} {HF : Nat → Option AObj} {V : Nat → Prop} {ow : Nat → Option OKey} {hc : Nat → Option AObj}

theorem run_append_none {ts : Array TypeId} {ty elem : TypeId} {info : TypeInfo} (ht : AppTypes P ts elem info) {vx : Value} {news : List Value} (hm : More P K info.size vx [] news) (hw : ∀ a c, K.imm a = some c → w.cell? a = some c) {base : Option Addr} {len cap : Nat} (hn : len ≤ cap) :
    (Builtin.append_ ts ty #[.slice base len cap, vx]).run P w = .ok (.slice base len cap) w := by
  obtain ⟨⟨t1, h1, h2⟩, ⟨t2, d, h3, h4, h5⟩, h6⟩ := ht
  have hd : (match d with | .int _ => true | _ => false) = false := by cases d <;> first | rfl | exact absurd rfl (h5 _)
  have hsz : (sizeOf elem).run P w = .ok info.size w := run_sizeOf' (by simp [sizeA, h6])
  have hnil : news = [] := by
    have := hm.den.length
    exact List.eq_nil_of_length_eq_zero (by simpa using this)
  subst hnil
  unfold Builtin.append_
  have hn' : len + ([] : List D).length ≤ cap := by simpa using hn
  simp only [h1, h3, List.getElem?_toArray, List.getElem?_cons_zero, List.getElem?_cons_succ, Sem.run_bind, run_underlying' h2, Result.andThen_ok, hsz, run_underlying' h4, Sem.run_pure]
  simp only [Bool.false_eq_true, if_false, Sem.run_bind, hm.len w, Result.andThen_ok, Bool.not_false, if_true, if_pos hn', hm.cells w hw]
  cases base <;> simp [storeCells]

/-- a state after a call of append, put together -/
theorem gives_appendA {argTypes : Array TypeId} {ty : TypeId} {place : Option Nat} {s x v : AV} {vs vx : Value} {h' : Heap} (hk : Fit K h HF V w) (hp : ∀ r, place = some r → V r ∧ r < h.length) (ha : appendA P argTypes.toList place s x h = some (v, h')) (hs : Den K s vs) (hx : Den K x vx) :
    ∃ u w' K', (Builtin.append_ argTypes ty #[vs, vx]).run P w = .ok u w' ∧ Kext K K' ∧ Den K' v u ∧ Fit K' h' HF (afterV place h.length h'.length V) w' ∧ h.length ≤ h'.length := by
  unfold appendA at ha
  split at ha
  · rename_i sType xType rest hts
    have ht0 : argTypes[0]? = some sType := by rw [← Array.getElem?_toList, hts]; rfl
    have ht1 : argTypes[1]? = some xType := by rw [← Array.getElem?_toList, hts]; rfl
    split at ha
    · rename_i elem xd hu1 hu2
      split at ha
      · rename_i info hint hinfo
        have hAT : AppTypes P argTypes elem info := ⟨⟨sType, ht0, hu1⟩, ⟨xType, xd, ht1, hu2, fun k e => by subst e; simp at hint⟩, hinfo⟩
        split at ha
        · rename_i xs hxs
          obtain ⟨news, hm⟩ := more_den (P := P) hxs hx
          obtain ⟨ow, hok⟩ := hk.ok
          split at ha
          · exact nomatch ha
          · rename_i hsz0
            split at ha
            · rename_i hemp
              have : xs = [] := by simpa using hemp
              subst this
              split at ha
              · rename_i es hes
                cases ha
                obtain ⟨a, cap, rfl, hcap, _⟩ := den_elems hs hes
                exact ⟨_, w, K, run_append_none hAT hm hok.imm hcap, Kext.refl K, hs, hk.after (fun r hr => (hp r hr).2), Nat.le_refl _⟩
              · exact nomatch ha
            · rename_i hemp
              have hpos : 0 < xs.length := by cases xs with | nil => simp at hemp | cons => simp
              split at ha
              · exact nomatch ha
              · rename_i hzero
                have hzero' : info.zero.map (fun v => v.cells.size) = some info.size := by simpa using hzero
                split at ha
                · -- a mark's slice
                  rename_i id es
                  split at ha
                  · rename_i e n sz hid
                    split at ha
                    · rename_i hcond
                      obtain ⟨c1, c2, c3, c4⟩ := hcond
                      subst c1; subst c2; subst c3
                      cases ha
                      obtain ⟨r, g1, g2, g3, g4, g5⟩ := hok.tip id _ _ _ (comb_some hid)
                      have hlt := lt_of_some hid
                      have hrel := hok.releaseTip g5
                      have hnV : ∀ i, V i → i ≠ id := fun i hi e => by subst e; have := (hok.fresh i hi).1; rw [comb_some hid] at this; exact nomatch this
                      have hkeys : ∀ n', es.length + xs.length ≤ n' → K.key (.tip id n') = none := fun n' hn' => hok.more id _ _ _ (comb_some hid) n' (by omega)
                      have hfin : ∀ o, comb (h.set id (some o)) HF = upd (upd (comb h HF) id none) id (some o) := fun o => by
                        rw [comb_set hlt]; funext i; simp only [upd]; split <;> rfl
                      have hhf : ∀ o i o', HF i = some o' → (h.set id (some o))[i]? = some none := fun o i o' hi => by
                        have h2 := hk.hf i o' hi
                        have : id ≠ i := by rintro rfl; rw [hid] at h2; cases h2
                        rw [List.getElem?_set_ne this]; exact h2
                      have hvl : ∀ i, (h.set id (some (.tip e (es.length + xs.length) info.size))).length ≤ i → afterV place h.length (h.set id (some (.tip e (es.length + xs.length) info.size))).length V i := fun i hi => by
                        simp at hi; exact ⟨hk.vlen i hi, fun e => by have := (hp i e).2; omega, Or.inr (by simpa using hi)⟩
                      cases hs with
                      | tip _ _ r' hr' hcap hcells =>
                        obtain rfl : r' = r := by rw [g1] at hr'; exact (Option.some.inj hr').symm
                        by_cases hin : es.length + xs.length ≤ r'.cap
                        · obtain ⟨w', K', ow', q1, q2, q3, q4⟩ := extend_in (P := P) (ty := ty) hrel hAT hm g3 hcells g4 (by simp [freeOw]) hin (upd_same _ _ _) hnV hkeys
                          rw [g2, g3, ← hfin] at q4
                          exact ⟨_, w', K', q1, q2, q3, ⟨⟨ow', q4.virgin fun i hi => hi.1⟩, hhf _, hvl⟩, by simp⟩
                        · obtain ⟨u, w', K', ow', q1, q2, q3, q4⟩ := extend_grow (P := P) (ty := ty) hrel hAT hm (b := r'.b) (o := 0) (fun _ => rfl) (fun _ => g3) hcells hin c4 hzero' (upd_same _ _ _) hnV hkeys
                          rw [← hfin] at q4
                          exact ⟨u, w', K', q1, q2, q3, ⟨⟨ow', q4.virgin fun i hi => hi.1⟩, hhf _, hvl⟩, by simp⟩
                    · exact nomatch ha
                  · exact nomatch ha
                · -- a slice that lies in a box
                  rename_i b off v0 e0 es
                  split at ha
                  · rename_i be cs ver hb
                    split at ha
                    · rename_i b' off' v' e' es' hcs
                      split at ha
                      · rename_i hcond
                        obtain ⟨rfl, rfl, rfl, rfl, rfl, c6, c9, c7, c8⟩ := hcond
                        split at ha
                        · rename_i id h'' hal
                          cases ha
                          obtain ⟨bb, vv, hbox⟩ := hok.box _ _ _ _ (comb_some hb)
                          obtain ⟨_, _, _, r, g1, g2, g3, g4⟩ := hbox.cell _ _ hcs
                          have hlt := lt_of_some hb
                          have hrel := hok.releaseAt (comb_some hb) hcs g4
                          have hcomb : comb (h.set b' (some (.cells be (cs.set off' (.dat (.slice es'))) ver))) HF = upd (comb h HF) b' (some (.cells be (cs.set off' (.dat (.slice es'))) ver)) := comb_set hlt _
                          rw [← hcomb] at hrel
                          have hfit1 : Fit K (h.set b' (some (.cells be (cs.set off' (.dat (.slice es'))) ver))) HF V w := ⟨⟨_, hrel⟩, fun i o hi => by
                            have h2 := hk.hf i o hi
                            have : b' ≠ i := by rintro rfl; rw [hb] at h2; cases h2
                            rw [List.getElem?_set_ne this]; exact h2, fun i hi => hk.vlen i (by simpa using hi)⟩
                          obtain ⟨a1, a2, a3, a4, a5, a6⟩ := alloc_fit hfit1 (fun r hr => (hp r hr).1) hal
                          have hvir := hrel.virgin (V' := afterV place h.length h'.length V) (fun i hi => hi.1)
                          have hfr := hrel.fresh id a1
                          have hl1 : (h.set b' (some (.cells be (cs.set off' (.dat (.slice es'))) ver))).length = h.length := by simp
                          rw [hl1] at a3 a5 a6
                          cases hs with
                          | «at» _ _ _ _ r' hr' hcap hcells =>
                            obtain rfl : r' = r := by rw [g1] at hr'; exact (Option.some.inj hr').symm
                            have hsz : es ≠ [] → r'.sz = info.size := fun hne => by
                              cases es with
                              | nil => exact absurd rfl hne
                              | cons e es => simp [sized] at c7; rw [← c7]; exact (hcells.1 e (by simp)).symm
                            rw [c6] at g3
                            have hne : es ≠ [] := by rintro rfl; exact c9 rfl
                            by_cases hin : es.length + xs.length ≤ r'.cap
                            · obtain ⟨w', K', ow', q1, q2, q3, q4⟩ := extend_in (P := P) (ty := ty) hvir hAT hm (hsz hne) hcells g3 (by simp [freeOw]) hin hfr.1 (fun i hi => (a6 i hi).2) (fun n' _ => hfr.2.2.1 n')
                              rw [g2, hsz hne, ← a2] at q4
                              exact ⟨_, w', K', q1, q2, q3, ⟨⟨ow', q4⟩, a4, a5⟩, a3⟩
                            · obtain ⟨u, w', K', ow', q1, q2, q3, q4⟩ := extend_grow (P := P) (ty := ty) hvir hAT hm (b := r'.b) (o := 0) (fun _ => rfl) hsz hcells hin c8 hzero' hfr.1 (fun i hi => (a6 i hi).2) (fun n' _ => hfr.2.2.1 n')
                              rw [← a2] at q4
                              exact ⟨u, w', K', q1, q2, q3, ⟨⟨ow', q4⟩, a4, a5⟩, a3⟩
                        · exact nomatch ha
                      · exact nomatch ha
                    · exact nomatch ha
                  · exact nomatch ha
                · -- nobody appends in place
                  rename_i es
                  split at ha
                  · rename_i hcond
                    obtain ⟨c1, c2⟩ := hcond
                    split at ha
                    · rename_i id h'' hal
                      cases ha
                      obtain ⟨a1, a2, a3, a4, a5, a6⟩ := alloc_fit hk (fun r hr => (hp r hr).1) hal
                      have hvir := hok.virgin (V' := afterV place h.length h'.length V) (fun i hi => hi.1)
                      have hfr := hok.fresh id a1
                      cases hs with
                      | full _ a b o sz haa hcells =>
                        have hsz : es ≠ [] → sz = info.size := fun hne => by
                          cases es with
                          | nil => exact absurd rfl hne
                          | cons e es => simp [sized] at c1; rw [← c1]; exact (hcells.1 e (by simp)).symm
                        obtain ⟨u, w', K', ow', q1, q2, q3, q4⟩ := extend_grow (P := P) (ty := ty) hvir hAT hm (base := some a) (cap := es.length) (b := b) (o := o) (fun hne => by rw [haa hne]) hsz hcells (by omega) c2 hzero' hfr.1 (fun i hi => (a6 i hi).2) (fun n' _ => hfr.2.2.1 n')
                        rw [← a2] at q4
                        exact ⟨u, w', K', q1, q2, q3, ⟨⟨ow', q4⟩, a4, a5⟩, a3⟩
                    · exact nomatch ha
                  · exact nomatch ha
                · -- the nil slice
                  split at ha
                  · rename_i c2
                    split at ha
                    · rename_i id h'' hal
                      cases ha
                      obtain ⟨a1, a2, a3, a4, a5, a6⟩ := alloc_fit hk (fun r hr => (hp r hr).1) hal
                      have hvir := hok.virgin (V' := afterV place h.length h'.length V) (fun i hi => hi.1)
                      have hfr := hok.fresh id a1
                      have hnl := den_nils hs
                      subst hnl
                      obtain ⟨u, w', K', ow', q1, q2, q3, q4⟩ := extend_grow (P := P) (ty := ty) hvir hAT hm (es := []) (base := none) (cap := 0) (b := 0) (o := 0) (sz := 0) (by simp) (by simp) ⟨by simp, [], .nil, by simp⟩ (by rw [List.length_nil]; omega) (by simpa using c2) hzero' hfr.1 (fun i hi => (a6 i hi).2) (fun n' _ => hfr.2.2.1 n')
                      simp only [List.length_nil, Nat.zero_add, List.nil_append] at q1 q3 q4
                      rw [← a2] at q4
                      exact ⟨u, w', K', q1, q2, q3, ⟨⟨ow', q4⟩, a4, a5⟩, a3⟩
                    · exact nomatch ha
                  · exact nomatch ha
                · exact nomatch ha
        · exact nomatch ha
      · exact nomatch ha
    · exact nomatch ha
  · exact nomatch ha

end
end Go.Proofs.Ytfdcjngclelnhaa

set_option linter.unusedSimpArgs false
namespace Go.Proofs.Ytfdcjngclelnhaa
open Go Go.RowKit

section
variable {P : Program} {K : KW} {w : World} {h : Heap} {HF : Nat → Option AObj} {V : Nat → Prop} {ow : Nat → Option OKey} {hc : Nat → Option AObj}

theorem run_loadBytes {b : Nat} {ns : List Int} : ∀ (k j : Nat) (acc : ByteArray), j + k ≤ ns.length → (∀ (i : Nat) (n : Int), ns[i]? = some n → w.cell? ⟨b, i, none⟩ = some (.int .u8 n)) →
    (loadBytes ⟨b, j, none⟩ acc k).run P w = .ok (((ns.drop j).take k).foldl (fun r n => r.push (UInt8.ofNat n.toNat)) acc) w
  | 0, j, acc, _, _ => by simp [loadBytes]
  | k + 1, j, acc, hle, hcell => by
    have hj : j < ns.length := by omega
    have hd : ns.drop j = ns[j] :: ns.drop (j + 1) := List.drop_eq_getElem_cons hj
    have hc := hcell j ns[j] (List.getElem?_eq_getElem hj)
    simp only [loadBytes, Sem.run_bind, cell_run hc, Result.andThen_ok, addr_add]
    rw [run_loadBytes k (j + 1) _ (by omega) hcell, hd]
    rfl

theorem lies_bytes {e u : TypeId} {n count : Nat} (h1 : P.cellsOf e = 1) (h2 : sameLayout P P.depth e u = true) (h3 : n ≤ count) : liesAt P P.depth e (count / P.cellsOf e) 0 u n = true := by
  have hd : P.depth = (2 * (P.types.size + Made.depth) + 1) + 1 := rfl
  have hrow : rowAt P (sameLayout P P.depth · u) P.depth e (count / P.cellsOf e) 0 n = true := by
    generalize hq : (sameLayout P P.depth · u) = q
    have hqe : q e = true := by rw [← hq]; exact h2
    rw [hd, h1]
    unfold rowAt
    simp [h1, hqe, h3]
  generalize hm : P.depth = m at hrow ⊢
  rw [hm] at hd
  subst hd
  unfold liesAt
  rw [hm, hrow]
  rfl

theorem fz_le {lo hi n m : Nat} (h1 : hi ≤ m) (h2 : n ≤ m) : (if n = 0 then (lo, hi) else if lo == hi then (0, 0 + n) else (min lo 0, max hi (0 + n))).2 ≤ m := by
  split
  · exact h1
  · split <;> simp <;> omega

theorem OkW.freezeAt (hk : OkW K hc V w ow) {id off v ver : Nat} {e : TypeId} {cs : List AV} {es : List D} {r : KRow} (hid : hc id = some (.cells e cs ver)) (hcs : cs[off]? = some (.own (.at id off v r.e) es)) (hr : K.key (.at id off v) = some r)
    {n : Nat} (hn : n ≤ es.length * r.sz) : OkW K hc V (w.freeze ⟨r.b, 0, none⟩ n) ow := by
  obtain ⟨bb, vv, hbox⟩ := hk.box _ _ _ _ hid
  obtain ⟨_, _, _, r', g1, g2, g3, g4⟩ := hbox.cell _ _ hcs
  obtain rfl : r' = r := by rw [hr] at g1; exact (Option.some.inj g1).symm
  obtain ⟨⟨arr, lo, hi, hblk, hsz, hhi⟩, himm, hbase⟩ := g3
  have hheap := heap_freeze_at (a := ⟨r'.b, 0, none⟩) (n := n) hblk
  have hoth : ∀ b, b ≠ r'.b → (w.freeze ⟨r'.b, 0, none⟩ n).heap[b]? = w.heap[b]? := fun b hb => heap_freeze_ne hb
  have hne : ∀ b k, ow b = some k → k ≠ .at id off v → b ≠ r'.b := fun b k h1 h2 h3 => by rw [h3, g4] at h1; exact h2 (Option.some.inj h1).symm
  have hcell : ∀ i j ver' c, CellOk K w ow i j ver' c → ((i = id ∧ j = off) → c = .own (.at id off v r'.e) es) → CellOk K (w.freeze ⟨r'.b, 0, none⟩ n) ow i j ver' c := fun i j ver' c hcc hq => by
    unfold CellOk at hcc ⊢
    split at hcc
    · exact hcc
    · rename_i id' off' v' e' es'
      obtain ⟨h1, h2, h3, r2, h4, h5, h6, h7⟩ := hcc
      refine ⟨h1, h2, h3, r2, h4, h5, ?_, h7⟩
      by_cases hb : r2.b = r'.b
      · rw [hb, g4] at h7
        cases h7
        have := hq ⟨rfl, rfl⟩
        cases this
        obtain rfl : r2 = r' := by rw [hr] at h4; exact (Option.some.inj h4).symm
        refine ⟨⟨arr, _, _, hheap, hsz, fz_le hhi hn⟩, himm, hbase⟩
      · exact h6.heap (hoth _ hb)
    · trivial
  refine ⟨fun a c ha => ?_, hk.below.trans ⟨?_, ?_, ?_, by rw [size_freeze]; omega, fun k hk' => hoth k (by omega)⟩, fun i e' cs' ver' hi => ?_, fun i e' n' sz' hi => ?_, hk.more, hk.fresh, hk.ver, fun b k hb => by rw [size_freeze]; exact hk.own b k hb⟩
  · have h1 := hk.imm a c ha
    by_cases hab : a.block = r'.b
    · obtain ⟨ab, ao, asp⟩ := a
      simp only at hab
      subst hab
      obtain ⟨vs', e', f', k1, k2, k3⟩ := cell_block h1
      simp only at k2 k3
      subst k2
      rw [hblk] at k1
      cases k1
      rw [cell_of hheap]; exact k3
    · rw [cell_same (hoth _ hab)]; exact h1
  all_goals try (unfold World.freeze; split <;> rfl)
  · obtain ⟨b, vs, hb⟩ := hk.box i e' cs' ver' hi
    refine ⟨b, vs, hb.blk, hb.own, hb.base, by rw [hoth b (hne _ _ hb.own (by intro e; cases e))]; exact hb.heap, hb.imm, hb.den, fun j c hj => hcell _ _ _ _ (hb.cell j c hj) fun hq => ?_, hb.under⟩
    obtain ⟨rfl, rfl⟩ := hq
    rw [hid] at hi
    cases hi
    rw [hcs] at hj
    exact (Option.some.inj hj).symm
  · obtain ⟨r2, h1, h2, h3, h4, h5⟩ := hk.tip i e' n' sz' hi
    exact ⟨r2, h1, h2, h3, h4.heap (hoth _ (hne _ _ h5 (by intro e; cases e))), h5⟩

theorem unsafeString_none (ts : Array TypeId) (ty pt : TypeId) (k : IntKind) (ht : ts[0]? = some pt) : (Builtin.unsafeString_ ts ty #[.pointer none, .int k 0]).run P w = .ok (.string .empty) w := by
  unfold Builtin.unsafeString_
  split
  · show Sem.run P (asInt (.int k 0) >>= _) w = _
    simp [asInt, asIntOf]
  · rename_i hno; exact absurd ht (hno pt)
theorem unsafeString_zero (ts : Array TypeId) (ty pt : TypeId) (k : IntKind) (a : Addr) (ht : ts[0]? = some pt) : (Builtin.unsafeString_ ts ty #[.pointer (some a), .int k 0]).run P w = .ok (.string .empty) w := by
  unfold Builtin.unsafeString_
  split
  · show Sem.run P (asInt (.int k 0) >>= _) w = _
    simp [asInt, asIntOf]
  · rename_i hno; exact absurd ht (hno pt)
theorem unsafeString_some (w' : World) (ts : Array TypeId) (ty pt u : TypeId) (k : IntKind) (a : Addr) (n : Int) (s : ByteArray) (ht : ts[0]? = some pt) (hn : ¬ n < 0) (h0 : ¬ n = 0) (hmax : ¬ n > IntKind.i64.max)
    (he : (elemOf pt).run P w = .ok u w) (hv : (variablesAt a u n.toNat).run P w = .ok true w) (hl : (loadBytes a .empty n.toNat).run P w = .ok s w) (hf : (freeze a n.toNat).run P w = .ok () w') : (Builtin.unsafeString_ ts ty #[.pointer (some a), .int k n]).run P w = .ok (.string s) w' := by
  unfold Builtin.unsafeString_
  split
  · rename_i h
    rw [ht] at h; cases h
    show Sem.run P (asInt (.int k n) >>= _) w = _
    simp only [asInt, asIntOf, Sem.run_bind, Sem.run_pure, Result.andThen_ok, if_neg hn, if_neg hmax, if_neg h0, he, hv, if_true, hl, hf]
  · rename_i hno; exact absurd ht (hno pt)

theorem run_unsafeStringA {ts : Array TypeId} {ty pt : TypeId} {p n v : AV} {vp vn : Value} (hk : Fit K h HF V w) (ht : ts[0]? = some pt) (hs : unsafeStringA P pt p n h = some v) (hp : Den K p vp) (hn : Den K n vn) :
    ∃ u w', (Builtin.unsafeString_ ts ty #[vp, vn]).run P w = .ok u w' ∧ Den K v u ∧ Fit K h HF V w' := by
  unfold unsafeStringA at hs
  split at hs
  · cases hs
    cases hp
    cases hn with | dat hn => ?_
    cases hn
    refine ⟨.string .empty, w, ?_, .dat (.str []), hk⟩
    exact unsafeString_none ts ty pt _ ht
  · rename_i b off v0 e es k n
    split at hs
    · exact nomatch hs
    · rename_i hn0
      cases hp with
      | sdata _ _ _ _ r hr hcap hcells =>
        cases hn with | dat hn => ?_
        cases hn
        split at hs
        · rename_i hz
          cases hs
          subst hz
          refine ⟨.string .empty, w, ?_, .dat (.str []), hk⟩
          exact unsafeString_zero ts ty pt _ _ ht
        · rename_i hnz
          split at hs
          · rename_i be cs ver u hb hu
            split at hs
            · rename_i b' off' v' e' es' hcs
              split at hs
              · rename_i hcond
                obtain ⟨rfl, rfl, rfl, rfl, c5, c6, c7, c8, c9⟩ := hcond
                simp only [Option.map_eq_some_iff] at hs
                obtain ⟨s, hs, rfl⟩ := hs
                obtain ⟨ow, hok⟩ := hk.ok
                obtain ⟨bb, vv, hbox⟩ := hok.box _ _ _ _ (comb_some hb)
                obtain ⟨_, _, _, r2, g1, g2, g3, g4⟩ := hbox.cell _ _ hcs
                obtain rfl : r2 = r := by rw [hr] at g1; exact (Option.some.inj g1).symm
                have g3' := g3
                obtain ⟨⟨arr, lo, hi, hblk, hsz, hhi⟩, himm, hbase⟩ := g3'
                have htk := hcells.take n.toNat c7
                obtain ⟨t1, vs, t2, t3⟩ := htk
                obtain ⟨ns, rfl, rfl⟩ := bytesOf_den hs t2
                have hes : es ≠ [] := by rintro rfl; simp at c7; omega
                have hsz1 : r2.sz = 1 := by
                  have hne : es.take n.toNat ≠ [] := by
                    intro h0
                    have := congrArg List.length h0
                    rw [List.length_take, List.length_nil] at this
                    omega
                  cases hte : es.take n.toNat with
                  | nil => exact absurd hte hne
                  | cons x xs =>
                    have hx := t1 x (by rw [hte]; simp)
                    rw [hte] at hs
                    unfold bytesOf at hs
                    split at hs
                    case h_1 heq => exact nomatch heq
                    case h_3 => exact nomatch hs
                    rename_i m r' heq
                    cases heq
                    simpa [D.cells] using hx.symm
                have hnl : ns.length = n.toNat := by
                  have := t2.length
                  rw [flat_length t1, hsz1] at this
                  simp at this
                  omega
                have hle : es.length ≤ arr.size := by
                  have hsz2 := hsz
                  rw [hsz1, Nat.mul_one] at hsz2
                  omega
                have hlies := lies_bytes (P := P) (n := n.toNat) (count := arr.size) c6 c8 (by omega)
                have hcell : ∀ (i : Nat) (m : Int), ns[i]? = some m → w.cell? ⟨r2.b, i, none⟩ = some (.int .u8 m) := fun i m hi => by
                  have := hok.imm _ _ (t3 i (.int .u8 m) (by simp [hi]))
                  rwa [Nat.zero_add] at this
                have hload := run_loadBytes (P := P) (w := w) (b := r2.b) (ns := ns) n.toNat 0 ByteArray.empty (by omega) hcell
                rw [List.drop_zero, List.take_of_length_le (by omega), foldl_push] at hload
                have helem : (elemOf pt).run P w = .ok u w := by simp [elemOf, run_underlying' hu]
                refine ⟨.string ⟨(ns.map fun n => UInt8.ofNat n.toNat).toArray⟩, w.freeze ⟨r2.b, 0, none⟩ n.toNat, ?_, .dat (.str _), ⟨⟨ow, hok.freezeAt (comb_some hb) (by rw [g2]; exact hcs) hr (by rw [c5, hsz1]; omega)⟩, hk.hf, hk.vlen⟩⟩
                have hmax : ¬ n > IntKind.i64.max := by rw [IntKind.max_i64]; omega
                exact unsafeString_some _ ts ty pt u _ _ n _ ht hn0 hnz hmax helem (by simp only [variablesAt, run_program, run_shape, shape_of hblk, hlies, if_true, Sem.run_bind, Sem.run_pure, Result.andThen_ok]) hload (run_freeze _ _ _ _)
              · exact nomatch hs
            · exact nomatch hs
          · exact nomatch hs
  · exact nomatch hs

end
end Go.Proofs.Ytfdcjngclelnhaa
