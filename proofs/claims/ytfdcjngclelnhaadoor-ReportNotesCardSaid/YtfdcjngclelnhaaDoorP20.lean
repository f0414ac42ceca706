/- The reference's decimal text of a number is its numeral. -/
import Derived.Test.YtfdcjngclelnhaaDoorP8
import Derived.Test.YtfdcjngclelnhaaDoorP5
import Derived.Test.YtfdcjngclelnhaaDoorP6
set_option linter.unusedSectionVars false
set_option linter.unusedSimpArgs false
set_option linter.unusedVariables false
set_option linter.unusedSimpArgs false
namespace Go.Proofs.YtfdcjngclelnhaaDoor
open Go Go.RowKit

/-- what is told when the number has come down to m, behind what was told -/
def decText (m : Nat) (acc : List UInt8) : List UInt8 := if m = 0 ∧ acc ≠ [] then acc else Lib.decDigits m ++ acc

theorem decText_step (m : Nat) (acc : List UInt8) (h : 0 < m ∨ acc = []) : decText (m / 10) (UInt8.ofNat (48 + m % 10) :: acc) = decText m acc := by
  have h1 : ¬ (m = 0 ∧ acc ≠ []) := by
    rintro ⟨rfl, hn⟩
    rcases h with h | h
    · omega
    · exact hn h
  unfold decText
  rw [if_neg h1]
  conv => rhs; rw [Lib.decDigits]
  by_cases h10 : m < 10
  · rw [if_pos ⟨by omega, by simp⟩, dif_pos h10, Nat.mod_eq_of_lt h10]
    rfl
  · rw [if_neg (by omega), dif_neg h10, List.append_assoc]
    rfl

theorem conv35_all : (fun (m : Int) => convA Tryd.prog 3 5 (.dat (.int .i64 m))) = fun m => some (.dat (.int .u8 (IntKind.u8.wrap m))) := by kernel_rfl
theorem conv35 (m : Int) : convA Tryd.prog 3 5 (.dat (.int .i64 m)) = some (.dat (.int .u8 (IntKind.u8.wrap m))) := congrFun conv35_all m
theorem build64_all : (fun (m : Int) => buildSliceA Tryd.prog 64 1 [(0, .dat (.int .u8 m))]) = fun m => some (.own .full [.int .u8 m]) := by kernel_rfl
theorem build64 (m : Int) : buildSliceA Tryd.prog 64 1 [(0, .dat (.int .u8 m))] = some (.own .full [.int .u8 m]) := congrFun build64_all m
theorem conv64_all : (fun (m : Int) => convA Tryd.prog 64 9 (.own .full [.int .u8 m])) = fun m => some (.dat (.str [UInt8.ofNat m.toNat])) := by kernel_rfl
theorem conv64 (m : Int) : convA Tryd.prog 64 9 (.own .full [.int .u8 m]) = some (.dat (.str [UInt8.ofNat m.toNat])) := congrFun conv64_all m
theorem digWrap_all : ((List.range 256).map fun (n : Nat) => IntKind.u8.wrap ((n : Nat) : Int)) = (List.range 256).map fun (n : Nat) => ((n : Nat) : Int) := by kernel_rfl
theorem digWrap (n : Nat) (h : n < 256) : IntKind.u8.wrap ((n : Nat) : Int) = ((n : Nat) : Int) := of_range digWrap_all n h

theorem ten_ne : ((10 : Int) = 0) = False := by simp

structure I36 (n0 : Nat) (n : Nat) (st : St) : Prop where
  len : st.tmps.length = 29
  hh : st.heap = []
  ex : ∃ (m : Nat) (acc : List UInt8), m ≤ n0 ∧ n = m + (if acc = [] then 1 else 0) ∧ st.tmps[0]? = some (.dat (.int .i64 m)) ∧ st.tmps[3]? = some (.dat (.str acc)) ∧ decText m acc = Lib.decDigits n0

theorem dec_small (n0 : Nat) (h0 : (n0 : Int) ≤ 9223372036854775807) : (Lib.decDigits n0).length ≤ 21 := by
  have hi : is64 (n0 : Int) = true := by simp [is64]; omega
  have h := numeral_small hi
  rw [numeral_eq hi] at h
  unfold Lib.itoa at h
  rw [if_neg (by omega), Int.toNat_natCast] at h
  exact h

theorem dec_nat (n0 : Nat) (h0 : (n0 : Int) ≤ 9223372036854775807) : CallsTo Tryd.prog primA 36 [.dat (.int .i64 n0)] [] (.dat (.str (Lib.decDigits n0))) [] := by
  refine CallsTo.body Tryd.func36 rfl rfl (Nat.le_of_ble_eq_true rfl) fun ts hl hts => ?_
  rw [Tryd.ntmps36] at hl
  have h0' := hts 0 _ rfl
  have hsa : sealV (.dat (.int .i64 n0)) = .dat (.int .i64 n0) := rfl
  rw [hsa] at h0'
  clear hts
  have hne : ((n0 : Int) == -9223372036854775808) = false := by rw [beq_eq_false_iff_ne]; omega
  have hng : ¬ ((n0 : Int) < 0) := by omega
  have hds := dec_small n0 h0
  refine Goes.seq ?_
  apply Goes.region 0
  · intro k _
    simp only [regionT, oneOp, wantedA, stepOp, putA, keep, evalX, evalL, evalParts, cstV, cst1, binA, intOp, strOp, unA, callA, builtinA, lenA, elems, minMaxA, mm2, indexA, sliceA, boundA, Tryd.underlying3, Tryd.underlying9, Tryd.underlying5, Tryd.underlying4, List.toList_toArray, List.getD_eq_getElem?_getD, List.getElem?_set, List.length_set, Option.getD_some, Option.map_some, Option.isSome_none, List.append_nil, List.nil_append, List.map_nil, List.map_cons, reduceIte, Nat.reduceEqDiff, Nat.reduceLT, Bool.false_eq_true, Nat.reduceAdd, if_true, if_false, beq_tf, beq_ft, sealV, sealR, tupleA, finishA, resultsA, resultA, Int.toNat_natCast, retA, List.getElem?_toArray, List.getElem?_cons_zero, List.getElem?_cons_succ, Option.bind_some, AV.under, undersL, Bool.and_true, Bool.true_and, List.take_length, nilNil, constX, Bool.true_or, Bool.or_true, Bool.or_false, Bool.false_or, Bool.not_true, Bool.not_false, hl, h0'] <;> rfl
  refine Goes.seq (Goes.seq ?_)
  apply Goes.region 0
  · intro k _
    simp only [regionT, oneOp, wantedA, stepOp, putA, keep, evalX, evalL, evalParts, cstV, cst1, binA, intOp, strOp, unA, callA, builtinA, lenA, elems, minMaxA, mm2, indexA, sliceA, boundA, Tryd.underlying3, Tryd.underlying9, Tryd.underlying5, Tryd.underlying4, List.toList_toArray, List.getD_eq_getElem?_getD, List.getElem?_set, List.length_set, Option.getD_some, Option.map_some, Option.isSome_none, List.append_nil, List.nil_append, List.map_nil, List.map_cons, reduceIte, Nat.reduceEqDiff, Nat.reduceLT, Bool.false_eq_true, Nat.reduceAdd, if_true, if_false, beq_tf, beq_ft, sealV, sealR, tupleA, finishA, resultsA, resultA, Int.toNat_natCast, retA, List.getElem?_toArray, List.getElem?_cons_zero, List.getElem?_cons_succ, Option.bind_some, AV.under, undersL, Bool.and_true, Bool.true_and, List.take_length, nilNil, constX, Bool.true_or, Bool.or_true, Bool.or_false, Bool.false_or, Bool.not_true, Bool.not_false, hl, h0', hne] <;> rfl
  refine Goes.cond false (by simp only [regionT, oneOp, wantedA, stepOp, putA, keep, evalX, evalL, evalParts, cstV, cst1, binA, intOp, strOp, unA, callA, builtinA, lenA, elems, minMaxA, mm2, indexA, sliceA, boundA, Tryd.underlying3, Tryd.underlying9, Tryd.underlying5, Tryd.underlying4, List.toList_toArray, List.getD_eq_getElem?_getD, List.getElem?_set, List.length_set, Option.getD_some, Option.map_some, Option.isSome_none, List.append_nil, List.nil_append, List.map_nil, List.map_cons, reduceIte, Nat.reduceEqDiff, Nat.reduceLT, Bool.false_eq_true, Nat.reduceAdd, if_true, if_false, beq_tf, beq_ft, sealV, sealR, tupleA, finishA, resultsA, resultA, Int.toNat_natCast, retA, List.getElem?_toArray, List.getElem?_cons_zero, List.getElem?_cons_succ, Option.bind_some, AV.under, undersL, Bool.and_true, Bool.true_and, List.take_length, nilNil, constX, Bool.true_or, Bool.or_true, Bool.or_false, Bool.false_or, Bool.not_true, Bool.not_false, hl, hne] <;> rfl) (Goes.skip ?_)
  refine Goes.seq (Goes.seq ?_)
  apply Goes.region 0
  · intro k _
    simp only [regionT, oneOp, wantedA, stepOp, putA, keep, evalX, evalL, evalParts, cstV, cst1, binA, intOp, strOp, unA, callA, builtinA, lenA, elems, minMaxA, mm2, indexA, sliceA, boundA, Tryd.underlying3, Tryd.underlying9, Tryd.underlying5, Tryd.underlying4, List.toList_toArray, List.getD_eq_getElem?_getD, List.getElem?_set, List.length_set, Option.getD_some, Option.map_some, Option.isSome_none, List.append_nil, List.nil_append, List.map_nil, List.map_cons, reduceIte, Nat.reduceEqDiff, Nat.reduceLT, Bool.false_eq_true, Nat.reduceAdd, if_true, if_false, beq_tf, beq_ft, sealV, sealR, tupleA, finishA, resultsA, resultA, Int.toNat_natCast, retA, List.getElem?_toArray, List.getElem?_cons_zero, List.getElem?_cons_succ, Option.bind_some, AV.under, undersL, Bool.and_true, Bool.true_and, List.take_length, nilNil, constX, Bool.true_or, Bool.or_true, Bool.or_false, Bool.false_or, Bool.not_true, Bool.not_false, hl, h0', hng, decide_false] <;> rfl
  refine Goes.cond false (by simp only [regionT, oneOp, wantedA, stepOp, putA, keep, evalX, evalL, evalParts, cstV, cst1, binA, intOp, strOp, unA, callA, builtinA, lenA, elems, minMaxA, mm2, indexA, sliceA, boundA, Tryd.underlying3, Tryd.underlying9, Tryd.underlying5, Tryd.underlying4, List.toList_toArray, List.getD_eq_getElem?_getD, List.getElem?_set, List.length_set, Option.getD_some, Option.map_some, Option.isSome_none, List.append_nil, List.nil_append, List.map_nil, List.map_cons, reduceIte, Nat.reduceEqDiff, Nat.reduceLT, Bool.false_eq_true, Nat.reduceAdd, if_true, if_false, beq_tf, beq_ft, sealV, sealR, tupleA, finishA, resultsA, resultA, Int.toNat_natCast, retA, List.getElem?_toArray, List.getElem?_cons_zero, List.getElem?_cons_succ, Option.bind_some, AV.under, undersL, Bool.and_true, Bool.true_and, List.take_length, nilNil, constX, Bool.true_or, Bool.or_true, Bool.or_false, Bool.false_or, Bool.not_true, Bool.not_false, hl, hng, decide_false] <;> rfl) (Goes.skip ?_)
  refine Goes.seq ?_
  apply Goes.region 0
  · intro k _
    simp only [regionT, oneOp, wantedA, stepOp, putA, keep, evalX, evalL, evalParts, cstV, cst1, binA, intOp, strOp, unA, callA, builtinA, lenA, elems, minMaxA, mm2, indexA, sliceA, boundA, Tryd.underlying3, Tryd.underlying9, Tryd.underlying5, Tryd.underlying4, List.toList_toArray, List.getD_eq_getElem?_getD, List.getElem?_set, List.length_set, Option.getD_some, Option.map_some, Option.isSome_none, List.append_nil, List.nil_append, List.map_nil, List.map_cons, reduceIte, Nat.reduceEqDiff, Nat.reduceLT, Bool.false_eq_true, Nat.reduceAdd, if_true, if_false, beq_tf, beq_ft, sealV, sealR, tupleA, finishA, resultsA, resultA, Int.toNat_natCast, retA, List.getElem?_toArray, List.getElem?_cons_zero, List.getElem?_cons_succ, Option.bind_some, AV.under, undersL, Bool.and_true, Bool.true_and, List.take_length, nilNil, constX, Bool.true_or, Bool.or_true, Bool.or_false, Bool.false_or, Bool.not_true, Bool.not_false, hl, h0'] <;> rfl
  refine Goes.seq (Goes.block (Goes.loop (I36 n0) ?_ (n0 + 1) _ ⟨?_, rfl, n0, [], Nat.le_refl _, rfl, ?_, ?_, ?_⟩))
  rotate_left
  · simp only [regionT, oneOp, wantedA, stepOp, putA, keep, evalX, evalL, evalParts, cstV, cst1, binA, intOp, strOp, unA, callA, builtinA, lenA, elems, minMaxA, mm2, indexA, sliceA, boundA, Tryd.underlying3, Tryd.underlying9, Tryd.underlying5, Tryd.underlying4, List.toList_toArray, List.getD_eq_getElem?_getD, List.getElem?_set, List.length_set, Option.getD_some, Option.map_some, Option.isSome_none, List.append_nil, List.nil_append, List.map_nil, List.map_cons, reduceIte, Nat.reduceEqDiff, Nat.reduceLT, Bool.false_eq_true, Nat.reduceAdd, if_true, if_false, beq_tf, beq_ft, sealV, sealR, tupleA, finishA, resultsA, resultA, Int.toNat_natCast, retA, List.getElem?_toArray, List.getElem?_cons_zero, List.getElem?_cons_succ, Option.bind_some, AV.under, undersL, Bool.and_true, Bool.true_and, List.take_length, nilNil, constX, Bool.true_or, Bool.or_true, Bool.or_false, Bool.false_or, Bool.not_true, Bool.not_false, hl]
  · simp only [regionT, oneOp, wantedA, stepOp, putA, keep, evalX, evalL, evalParts, cstV, cst1, binA, intOp, strOp, unA, callA, builtinA, lenA, elems, minMaxA, mm2, indexA, sliceA, boundA, Tryd.underlying3, Tryd.underlying9, Tryd.underlying5, Tryd.underlying4, List.toList_toArray, List.getD_eq_getElem?_getD, List.getElem?_set, List.length_set, Option.getD_some, Option.map_some, Option.isSome_none, List.append_nil, List.nil_append, List.map_nil, List.map_cons, reduceIte, Nat.reduceEqDiff, Nat.reduceLT, Bool.false_eq_true, Nat.reduceAdd, if_true, if_false, beq_tf, beq_ft, sealV, sealR, tupleA, finishA, resultsA, resultA, Int.toNat_natCast, retA, List.getElem?_toArray, List.getElem?_cons_zero, List.getElem?_cons_succ, Option.bind_some, AV.under, undersL, Bool.and_true, Bool.true_and, List.take_length, nilNil, constX, Bool.true_or, Bool.or_true, Bool.or_false, Bool.false_or, Bool.not_true, Bool.not_false, hl, h0']
  · simp only [regionT, oneOp, wantedA, stepOp, putA, keep, evalX, evalL, evalParts, cstV, cst1, binA, intOp, strOp, unA, callA, builtinA, lenA, elems, minMaxA, mm2, indexA, sliceA, boundA, Tryd.underlying3, Tryd.underlying9, Tryd.underlying5, Tryd.underlying4, List.toList_toArray, List.getD_eq_getElem?_getD, List.getElem?_set, List.length_set, Option.getD_some, Option.map_some, Option.isSome_none, List.append_nil, List.nil_append, List.map_nil, List.map_cons, reduceIte, Nat.reduceEqDiff, Nat.reduceLT, Bool.false_eq_true, Nat.reduceAdd, if_true, if_false, beq_tf, beq_ft, sealV, sealR, tupleA, finishA, resultsA, resultA, Int.toNat_natCast, retA, List.getElem?_toArray, List.getElem?_cons_zero, List.getElem?_cons_succ, Option.bind_some, AV.under, undersL, Bool.and_true, Bool.true_and, List.take_length, nilNil, constX, Bool.true_or, Bool.or_true, Bool.or_false, Bool.false_or, Bool.not_true, Bool.not_false, hl]
  · simp [decText]
  clear hl h0' ts
  rintro n ⟨ts, hh⟩ ⟨hl, hhe, m, acc, hm, rfl, ht0, ht3, htxt⟩
  have hhe2 : hh = _ := hhe
  clear hhe
  subst hhe2
  by_cases hgo : 0 < m ∨ acc = []
  · refine Goes.mid (fun s => s.tmps.length = 29 ∧ s.heap = [] ∧ s.tmps[0]? = some (.dat (.int .i64 m)) ∧ s.tmps[3]? = some (.dat (.str acc))) ?_ ?_
    · refine Goes.seq ?_
      by_cases hpos : (m : Int) > 0
      · apply Goes.region 0
        · intro k _
          simp only [regionT, oneOp, wantedA, stepOp, putA, keep, evalX, evalL, evalParts, cstV, cst1, binA, intOp, strOp, unA, callA, builtinA, lenA, elems, minMaxA, mm2, indexA, sliceA, boundA, Tryd.underlying3, Tryd.underlying9, Tryd.underlying5, Tryd.underlying4, List.toList_toArray, List.getD_eq_getElem?_getD, List.getElem?_set, List.length_set, Option.getD_some, Option.map_some, Option.isSome_none, List.append_nil, List.nil_append, List.map_nil, List.map_cons, reduceIte, Nat.reduceEqDiff, Nat.reduceLT, Bool.false_eq_true, Nat.reduceAdd, if_true, if_false, beq_tf, beq_ft, sealV, sealR, tupleA, finishA, resultsA, resultA, Int.toNat_natCast, retA, List.getElem?_toArray, List.getElem?_cons_zero, List.getElem?_cons_succ, Option.bind_some, AV.under, undersL, Bool.and_true, Bool.true_and, List.take_length, nilNil, constX, Bool.true_or, Bool.or_true, Bool.or_false, Bool.false_or, Bool.not_true, Bool.not_false, hl, ht0, ht3, hpos, decide_true] <;> rfl
        refine Goes.cond true (by simp only [regionT, oneOp, wantedA, stepOp, putA, keep, evalX, evalL, evalParts, cstV, cst1, binA, intOp, strOp, unA, callA, builtinA, lenA, elems, minMaxA, mm2, indexA, sliceA, boundA, Tryd.underlying3, Tryd.underlying9, Tryd.underlying5, Tryd.underlying4, List.toList_toArray, List.getD_eq_getElem?_getD, List.getElem?_set, List.length_set, Option.getD_some, Option.map_some, Option.isSome_none, List.append_nil, List.nil_append, List.map_nil, List.map_cons, reduceIte, Nat.reduceEqDiff, Nat.reduceLT, Bool.false_eq_true, Nat.reduceAdd, if_true, if_false, beq_tf, beq_ft, sealV, sealR, tupleA, finishA, resultsA, resultA, Int.toNat_natCast, retA, List.getElem?_toArray, List.getElem?_cons_zero, List.getElem?_cons_succ, Option.bind_some, AV.under, undersL, Bool.and_true, Bool.true_and, List.take_length, nilNil, constX, Bool.true_or, Bool.or_true, Bool.or_false, Bool.false_or, Bool.not_true, Bool.not_false, hl, hpos, decide_true] <;> rfl) (Goes.skip ⟨rfl, ?_, rfl, ?_, ?_⟩)
        · simp only [regionT, oneOp, wantedA, stepOp, putA, keep, evalX, evalL, evalParts, cstV, cst1, binA, intOp, strOp, unA, callA, builtinA, lenA, elems, minMaxA, mm2, indexA, sliceA, boundA, Tryd.underlying3, Tryd.underlying9, Tryd.underlying5, Tryd.underlying4, List.toList_toArray, List.getD_eq_getElem?_getD, List.getElem?_set, List.length_set, Option.getD_some, Option.map_some, Option.isSome_none, List.append_nil, List.nil_append, List.map_nil, List.map_cons, reduceIte, Nat.reduceEqDiff, Nat.reduceLT, Bool.false_eq_true, Nat.reduceAdd, if_true, if_false, beq_tf, beq_ft, sealV, sealR, tupleA, finishA, resultsA, resultA, Int.toNat_natCast, retA, List.getElem?_toArray, List.getElem?_cons_zero, List.getElem?_cons_succ, Option.bind_some, AV.under, undersL, Bool.and_true, Bool.true_and, List.take_length, nilNil, constX, Bool.true_or, Bool.or_true, Bool.or_false, Bool.false_or, Bool.not_true, Bool.not_false, hl]
        · simp only [regionT, oneOp, wantedA, stepOp, putA, keep, evalX, evalL, evalParts, cstV, cst1, binA, intOp, strOp, unA, callA, builtinA, lenA, elems, minMaxA, mm2, indexA, sliceA, boundA, Tryd.underlying3, Tryd.underlying9, Tryd.underlying5, Tryd.underlying4, List.toList_toArray, List.getD_eq_getElem?_getD, List.getElem?_set, List.length_set, Option.getD_some, Option.map_some, Option.isSome_none, List.append_nil, List.nil_append, List.map_nil, List.map_cons, reduceIte, Nat.reduceEqDiff, Nat.reduceLT, Bool.false_eq_true, Nat.reduceAdd, if_true, if_false, beq_tf, beq_ft, sealV, sealR, tupleA, finishA, resultsA, resultA, Int.toNat_natCast, retA, List.getElem?_toArray, List.getElem?_cons_zero, List.getElem?_cons_succ, Option.bind_some, AV.under, undersL, Bool.and_true, Bool.true_and, List.take_length, nilNil, constX, Bool.true_or, Bool.or_true, Bool.or_false, Bool.false_or, Bool.not_true, Bool.not_false, hl, ht0]
        · simp only [regionT, oneOp, wantedA, stepOp, putA, keep, evalX, evalL, evalParts, cstV, cst1, binA, intOp, strOp, unA, callA, builtinA, lenA, elems, minMaxA, mm2, indexA, sliceA, boundA, Tryd.underlying3, Tryd.underlying9, Tryd.underlying5, Tryd.underlying4, List.toList_toArray, List.getD_eq_getElem?_getD, List.getElem?_set, List.length_set, Option.getD_some, Option.map_some, Option.isSome_none, List.append_nil, List.nil_append, List.map_nil, List.map_cons, reduceIte, Nat.reduceEqDiff, Nat.reduceLT, Bool.false_eq_true, Nat.reduceAdd, if_true, if_false, beq_tf, beq_ft, sealV, sealR, tupleA, finishA, resultsA, resultA, Int.toNat_natCast, retA, List.getElem?_toArray, List.getElem?_cons_zero, List.getElem?_cons_succ, Option.bind_some, AV.under, undersL, Bool.and_true, Bool.true_and, List.take_length, nilNil, constX, Bool.true_or, Bool.or_true, Bool.or_false, Bool.false_or, Bool.not_true, Bool.not_false, hl, ht3]
      · have hacc : acc = [] := by
          rcases hgo with h | h
          · omega
          · exact h
        subst hacc
        apply Goes.region 0
        · intro k _
          simp only [regionT, oneOp, wantedA, stepOp, putA, keep, evalX, evalL, evalParts, cstV, cst1, binA, intOp, strOp, unA, callA, builtinA, lenA, elems, minMaxA, mm2, indexA, sliceA, boundA, Tryd.underlying3, Tryd.underlying9, Tryd.underlying5, Tryd.underlying4, List.toList_toArray, List.getD_eq_getElem?_getD, List.getElem?_set, List.length_set, Option.getD_some, Option.map_some, Option.isSome_none, List.append_nil, List.nil_append, List.map_nil, List.map_cons, reduceIte, Nat.reduceEqDiff, Nat.reduceLT, Bool.false_eq_true, Nat.reduceAdd, if_true, if_false, beq_tf, beq_ft, sealV, sealR, tupleA, finishA, resultsA, resultA, Int.toNat_natCast, retA, List.getElem?_toArray, List.getElem?_cons_zero, List.getElem?_cons_succ, Option.bind_some, AV.under, undersL, Bool.and_true, Bool.true_and, List.take_length, nilNil, constX, Bool.true_or, Bool.or_true, Bool.or_false, Bool.false_or, Bool.not_true, Bool.not_false, hl, ht0, ht3, hpos, decide_false] <;> rfl
        refine Goes.cond true (by simp only [regionT, oneOp, wantedA, stepOp, putA, keep, evalX, evalL, evalParts, cstV, cst1, binA, intOp, strOp, unA, callA, builtinA, lenA, elems, minMaxA, mm2, indexA, sliceA, boundA, Tryd.underlying3, Tryd.underlying9, Tryd.underlying5, Tryd.underlying4, List.toList_toArray, List.getD_eq_getElem?_getD, List.getElem?_set, List.length_set, Option.getD_some, Option.map_some, Option.isSome_none, List.append_nil, List.nil_append, List.map_nil, List.map_cons, reduceIte, Nat.reduceEqDiff, Nat.reduceLT, Bool.false_eq_true, Nat.reduceAdd, if_true, if_false, beq_tf, beq_ft, sealV, sealR, tupleA, finishA, resultsA, resultA, Int.toNat_natCast, retA, List.getElem?_toArray, List.getElem?_cons_zero, List.getElem?_cons_succ, Option.bind_some, AV.under, undersL, Bool.and_true, Bool.true_and, List.take_length, nilNil, constX, Bool.true_or, Bool.or_true, Bool.or_false, Bool.false_or, Bool.not_true, Bool.not_false, hl, hpos, decide_false] <;> rfl) (Goes.skip ⟨rfl, ?_, rfl, ?_, ?_⟩)
        · simp only [regionT, oneOp, wantedA, stepOp, putA, keep, evalX, evalL, evalParts, cstV, cst1, binA, intOp, strOp, unA, callA, builtinA, lenA, elems, minMaxA, mm2, indexA, sliceA, boundA, Tryd.underlying3, Tryd.underlying9, Tryd.underlying5, Tryd.underlying4, List.toList_toArray, List.getD_eq_getElem?_getD, List.getElem?_set, List.length_set, Option.getD_some, Option.map_some, Option.isSome_none, List.append_nil, List.nil_append, List.map_nil, List.map_cons, reduceIte, Nat.reduceEqDiff, Nat.reduceLT, Bool.false_eq_true, Nat.reduceAdd, if_true, if_false, beq_tf, beq_ft, sealV, sealR, tupleA, finishA, resultsA, resultA, Int.toNat_natCast, retA, List.getElem?_toArray, List.getElem?_cons_zero, List.getElem?_cons_succ, Option.bind_some, AV.under, undersL, Bool.and_true, Bool.true_and, List.take_length, nilNil, constX, Bool.true_or, Bool.or_true, Bool.or_false, Bool.false_or, Bool.not_true, Bool.not_false, hl]
        · simp only [regionT, oneOp, wantedA, stepOp, putA, keep, evalX, evalL, evalParts, cstV, cst1, binA, intOp, strOp, unA, callA, builtinA, lenA, elems, minMaxA, mm2, indexA, sliceA, boundA, Tryd.underlying3, Tryd.underlying9, Tryd.underlying5, Tryd.underlying4, List.toList_toArray, List.getD_eq_getElem?_getD, List.getElem?_set, List.length_set, Option.getD_some, Option.map_some, Option.isSome_none, List.append_nil, List.nil_append, List.map_nil, List.map_cons, reduceIte, Nat.reduceEqDiff, Nat.reduceLT, Bool.false_eq_true, Nat.reduceAdd, if_true, if_false, beq_tf, beq_ft, sealV, sealR, tupleA, finishA, resultsA, resultA, Int.toNat_natCast, retA, List.getElem?_toArray, List.getElem?_cons_zero, List.getElem?_cons_succ, Option.bind_some, AV.under, undersL, Bool.and_true, Bool.true_and, List.take_length, nilNil, constX, Bool.true_or, Bool.or_true, Bool.or_false, Bool.false_or, Bool.not_true, Bool.not_false, hl, ht0]
        · simp only [regionT, oneOp, wantedA, stepOp, putA, keep, evalX, evalL, evalParts, cstV, cst1, binA, intOp, strOp, unA, callA, builtinA, lenA, elems, minMaxA, mm2, indexA, sliceA, boundA, Tryd.underlying3, Tryd.underlying9, Tryd.underlying5, Tryd.underlying4, List.toList_toArray, List.getD_eq_getElem?_getD, List.getElem?_set, List.length_set, Option.getD_some, Option.map_some, Option.isSome_none, List.append_nil, List.nil_append, List.map_nil, List.map_cons, reduceIte, Nat.reduceEqDiff, Nat.reduceLT, Bool.false_eq_true, Nat.reduceAdd, if_true, if_false, beq_tf, beq_ft, sealV, sealR, tupleA, finishA, resultsA, resultA, Int.toNat_natCast, retA, List.getElem?_toArray, List.getElem?_cons_zero, List.getElem?_cons_succ, Option.bind_some, AV.under, undersL, Bool.and_true, Bool.true_and, List.take_length, nilNil, constX, Bool.true_or, Bool.or_true, Bool.or_false, Bool.false_or, Bool.not_true, Bool.not_false, hl, ht3]
    clear hl ht0 ht3 ts
    rintro ⟨ts, hh⟩ ⟨hl, hhe, ht0, ht3⟩
    have hhe2 : hh = _ := hhe
    clear hhe
    subst hhe2
    have hrem : Int.tmod (m : Int) 10 = ((m % 10 : Nat) : Int) := by rw [Int.tmod_eq_emod_of_nonneg (by omega)]; omega
    have hquo : Int.tdiv (m : Int) 10 = ((m / 10 : Nat) : Int) := by rw [Int.tdiv_eq_ediv_of_nonneg (by omega)]; omega
    have hw : IntKind.i64.wrap (48 + ((m % 10 : Nat) : Int)) = ((48 + m % 10 : Nat) : Int) := by rw [wrap64 _ (by omega) (by omega)]; omega
    have hwq : IntKind.i64.wrap ((m / 10 : Nat) : Int) = ((m / 10 : Nat) : Int) := wrap64 _ (by omega) (by omega)
    have hd : IntKind.u8.wrap ((48 + m % 10 : Nat) : Int) = ((48 + m % 10 : Nat) : Int) := digWrap _ (by omega)
    have hal : acc.length ≤ 21 := by
      have h1 : acc.length ≤ (Lib.decDigits n0).length := by
        rw [← htxt]; unfold decText
        split
        · exact Nat.le_refl _
        · simp
      omega
    have hlt : [UInt8.ofNat (48 + m % 10)].length + acc.length ≤ 9223372036854775807 := by simp only [List.length_cons, List.length_nil]; omega
    have hcv := conv35 ((48 + m % 10 : Nat) : Int)
    rw [hd] at hcv
    have hbl := build64 ((48 + m % 10 : Nat) : Int)
    have hc64 := conv64 ((48 + m % 10 : Nat) : Int)
    rw [Int.toNat_natCast] at hc64
    refine Goes.block (Goes.seq ?_)
    apply Goes.region 0
    · intro k _
      simp only [regionT, oneOp, wantedA, stepOp, putA, keep, evalX, evalL, evalParts, cstV, cst1, binA, intOp, strOp, unA, callA, builtinA, lenA, elems, minMaxA, mm2, indexA, sliceA, boundA, Tryd.underlying3, Tryd.underlying9, Tryd.underlying5, Tryd.underlying4, List.toList_toArray, List.getD_eq_getElem?_getD, List.getElem?_set, List.length_set, Option.getD_some, Option.map_some, Option.isSome_none, List.append_nil, List.nil_append, List.map_nil, List.map_cons, reduceIte, Nat.reduceEqDiff, Nat.reduceLT, Bool.false_eq_true, Nat.reduceAdd, if_true, if_false, beq_tf, beq_ft, sealV, sealR, tupleA, finishA, resultsA, resultA, Int.toNat_natCast, retA, List.getElem?_toArray, List.getElem?_cons_zero, List.getElem?_cons_succ, Option.bind_some, AV.under, undersL, Bool.and_true, Bool.true_and, List.take_length, nilNil, constX, Bool.true_or, Bool.or_true, Bool.or_false, Bool.false_or, Bool.not_true, Bool.not_false, hl, ht0, ht3, hrem, hw, hcv, hbl, hc64, hlt, ten_ne] <;> rfl
    apply Goes.region 0
    · intro k _
      simp only [regionT, oneOp, wantedA, stepOp, putA, keep, evalX, evalL, evalParts, cstV, cst1, binA, intOp, strOp, unA, callA, builtinA, lenA, elems, minMaxA, mm2, indexA, sliceA, boundA, Tryd.underlying3, Tryd.underlying9, Tryd.underlying5, Tryd.underlying4, List.toList_toArray, List.getD_eq_getElem?_getD, List.getElem?_set, List.length_set, Option.getD_some, Option.map_some, Option.isSome_none, List.append_nil, List.nil_append, List.map_nil, List.map_cons, reduceIte, Nat.reduceEqDiff, Nat.reduceLT, Bool.false_eq_true, Nat.reduceAdd, if_true, if_false, beq_tf, beq_ft, sealV, sealR, tupleA, finishA, resultsA, resultA, Int.toNat_natCast, retA, List.getElem?_toArray, List.getElem?_cons_zero, List.getElem?_cons_succ, Option.bind_some, AV.under, undersL, Bool.and_true, Bool.true_and, List.take_length, nilNil, constX, Bool.true_or, Bool.or_true, Bool.or_false, Bool.false_or, Bool.not_true, Bool.not_false, hl, ht0, hquo, hwq, ten_ne] <;> rfl
    refine ⟨m / 10 + 0, ?_, ⟨?_, rfl, m / 10, UInt8.ofNat (48 + m % 10) :: acc, by omega, by simp, ?_, ?_, ?_⟩⟩
    · rcases Nat.eq_zero_or_pos m with h | h
      · subst h
        rcases hgo with h | h
        · omega
        · simp [h]
      · omega
    · simp only [regionT, oneOp, wantedA, stepOp, putA, keep, evalX, evalL, evalParts, cstV, cst1, binA, intOp, strOp, unA, callA, builtinA, lenA, elems, minMaxA, mm2, indexA, sliceA, boundA, Tryd.underlying3, Tryd.underlying9, Tryd.underlying5, Tryd.underlying4, List.toList_toArray, List.getD_eq_getElem?_getD, List.getElem?_set, List.length_set, Option.getD_some, Option.map_some, Option.isSome_none, List.append_nil, List.nil_append, List.map_nil, List.map_cons, reduceIte, Nat.reduceEqDiff, Nat.reduceLT, Bool.false_eq_true, Nat.reduceAdd, if_true, if_false, beq_tf, beq_ft, sealV, sealR, tupleA, finishA, resultsA, resultA, Int.toNat_natCast, retA, List.getElem?_toArray, List.getElem?_cons_zero, List.getElem?_cons_succ, Option.bind_some, AV.under, undersL, Bool.and_true, Bool.true_and, List.take_length, nilNil, constX, Bool.true_or, Bool.or_true, Bool.or_false, Bool.false_or, Bool.not_true, Bool.not_false, hl]
    · simp only [regionT, oneOp, wantedA, stepOp, putA, keep, evalX, evalL, evalParts, cstV, cst1, binA, intOp, strOp, unA, callA, builtinA, lenA, elems, minMaxA, mm2, indexA, sliceA, boundA, Tryd.underlying3, Tryd.underlying9, Tryd.underlying5, Tryd.underlying4, List.toList_toArray, List.getD_eq_getElem?_getD, List.getElem?_set, List.length_set, Option.getD_some, Option.map_some, Option.isSome_none, List.append_nil, List.nil_append, List.map_nil, List.map_cons, reduceIte, Nat.reduceEqDiff, Nat.reduceLT, Bool.false_eq_true, Nat.reduceAdd, if_true, if_false, beq_tf, beq_ft, sealV, sealR, tupleA, finishA, resultsA, resultA, Int.toNat_natCast, retA, List.getElem?_toArray, List.getElem?_cons_zero, List.getElem?_cons_succ, Option.bind_some, AV.under, undersL, Bool.and_true, Bool.true_and, List.take_length, nilNil, constX, Bool.true_or, Bool.or_true, Bool.or_false, Bool.false_or, Bool.not_true, Bool.not_false, hl]
    · simp only [regionT, oneOp, wantedA, stepOp, putA, keep, evalX, evalL, evalParts, cstV, cst1, binA, intOp, strOp, unA, callA, builtinA, lenA, elems, minMaxA, mm2, indexA, sliceA, boundA, Tryd.underlying3, Tryd.underlying9, Tryd.underlying5, Tryd.underlying4, List.toList_toArray, List.getD_eq_getElem?_getD, List.getElem?_set, List.length_set, Option.getD_some, Option.map_some, Option.isSome_none, List.append_nil, List.nil_append, List.map_nil, List.map_cons, reduceIte, Nat.reduceEqDiff, Nat.reduceLT, Bool.false_eq_true, Nat.reduceAdd, if_true, if_false, beq_tf, beq_ft, sealV, sealR, tupleA, finishA, resultsA, resultA, Int.toNat_natCast, retA, List.getElem?_toArray, List.getElem?_cons_zero, List.getElem?_cons_succ, Option.bind_some, AV.under, undersL, Bool.and_true, Bool.true_and, List.take_length, nilNil, constX, Bool.true_or, Bool.or_true, Bool.or_false, Bool.false_or, Bool.not_true, Bool.not_false, hl] <;> rfl
    · rw [decText_step m acc hgo]; exact htxt
  · have hm0 : m = 0 := by omega
    have hacc : acc ≠ [] := fun h => hgo (Or.inr h)
    subst hm0
    have hpos : ¬ (((0 : Nat) : Int) > 0) := by omega
    have hab : (acc == []) = false := by rw [beq_eq_false_iff_ne]; exact hacc
    refine Goes.seq (Goes.seq ?_)
    apply Goes.region 0
    · intro k _
      simp only [regionT, oneOp, wantedA, stepOp, putA, keep, evalX, evalL, evalParts, cstV, cst1, binA, intOp, strOp, unA, callA, builtinA, lenA, elems, minMaxA, mm2, indexA, sliceA, boundA, Tryd.underlying3, Tryd.underlying9, Tryd.underlying5, Tryd.underlying4, List.toList_toArray, List.getD_eq_getElem?_getD, List.getElem?_set, List.length_set, Option.getD_some, Option.map_some, Option.isSome_none, List.append_nil, List.nil_append, List.map_nil, List.map_cons, reduceIte, Nat.reduceEqDiff, Nat.reduceLT, Bool.false_eq_true, Nat.reduceAdd, if_true, if_false, beq_tf, beq_ft, sealV, sealR, tupleA, finishA, resultsA, resultA, Int.toNat_natCast, retA, List.getElem?_toArray, List.getElem?_cons_zero, List.getElem?_cons_succ, Option.bind_some, AV.under, undersL, Bool.and_true, Bool.true_and, List.take_length, nilNil, constX, Bool.true_or, Bool.or_true, Bool.or_false, Bool.false_or, Bool.not_true, Bool.not_false, hl, ht0, ht3, hpos, decide_false, hab] <;> rfl
    refine Goes.cond false (by simp only [regionT, oneOp, wantedA, stepOp, putA, keep, evalX, evalL, evalParts, cstV, cst1, binA, intOp, strOp, unA, callA, builtinA, lenA, elems, minMaxA, mm2, indexA, sliceA, boundA, Tryd.underlying3, Tryd.underlying9, Tryd.underlying5, Tryd.underlying4, List.toList_toArray, List.getD_eq_getElem?_getD, List.getElem?_set, List.length_set, Option.getD_some, Option.map_some, Option.isSome_none, List.append_nil, List.nil_append, List.map_nil, List.map_cons, reduceIte, Nat.reduceEqDiff, Nat.reduceLT, Bool.false_eq_true, Nat.reduceAdd, if_true, if_false, beq_tf, beq_ft, sealV, sealR, tupleA, finishA, resultsA, resultA, Int.toNat_natCast, retA, List.getElem?_toArray, List.getElem?_cons_zero, List.getElem?_cons_succ, Option.bind_some, AV.under, undersL, Bool.and_true, Bool.true_and, List.take_length, nilNil, constX, Bool.true_or, Bool.or_true, Bool.or_false, Bool.false_or, Bool.not_true, Bool.not_false, hl, hpos, decide_false, hab] <;> rfl) (Goes.exit ?_)
    simp only [if_true]
    have htx : acc = Lib.decDigits n0 := by rw [← htxt]; simp [decText, hacc]
    refine Goes.seq ?_
    apply Goes.region 0
    · intro k _
      simp only [regionT, oneOp, wantedA, stepOp, putA, keep, evalX, evalL, evalParts, cstV, cst1, binA, intOp, strOp, unA, callA, builtinA, lenA, elems, minMaxA, mm2, indexA, sliceA, boundA, Tryd.underlying3, Tryd.underlying9, Tryd.underlying5, Tryd.underlying4, List.toList_toArray, List.getD_eq_getElem?_getD, List.getElem?_set, List.length_set, Option.getD_some, Option.map_some, Option.isSome_none, List.append_nil, List.nil_append, List.map_nil, List.map_cons, reduceIte, Nat.reduceEqDiff, Nat.reduceLT, Bool.false_eq_true, Nat.reduceAdd, if_true, if_false, beq_tf, beq_ft, sealV, sealR, tupleA, finishA, resultsA, resultA, Int.toNat_natCast, retA, List.getElem?_toArray, List.getElem?_cons_zero, List.getElem?_cons_succ, Option.bind_some, AV.under, undersL, Bool.and_true, Bool.true_and, List.take_length, nilNil, constX, Bool.true_or, Bool.or_true, Bool.or_false, Bool.false_or, Bool.not_true, Bool.not_false, hl, ht3] <;> rfl
    apply Goes.ret
    refine ⟨.inr rfl, ?_⟩
    simp only [regionT, oneOp, wantedA, stepOp, putA, keep, evalX, evalL, evalParts, cstV, cst1, binA, intOp, strOp, unA, callA, builtinA, lenA, elems, minMaxA, mm2, indexA, sliceA, boundA, Tryd.underlying3, Tryd.underlying9, Tryd.underlying5, Tryd.underlying4, List.toList_toArray, List.getD_eq_getElem?_getD, List.getElem?_set, List.length_set, Option.getD_some, Option.map_some, Option.isSome_none, List.append_nil, List.nil_append, List.map_nil, List.map_cons, reduceIte, Nat.reduceEqDiff, Nat.reduceLT, Bool.false_eq_true, Nat.reduceAdd, if_true, if_false, beq_tf, beq_ft, sealV, sealR, tupleA, finishA, resultsA, resultA, Int.toNat_natCast, retA, List.getElem?_toArray, List.getElem?_cons_zero, List.getElem?_cons_succ, Option.bind_some, AV.under, undersL, Bool.and_true, Bool.true_and, List.take_length, nilNil, constX, Bool.true_or, Bool.or_true, Bool.or_false, Bool.false_or, Bool.not_true, Bool.not_false, hl, Tryd.results36, htx] <;> rfl

theorem numeral_nat {n : Nat} (h : (n : Int) ≤ 9223372036854775807) : numeral (n : Int) = Lib.decDigits n := by
  rw [numeral_eq (by simp [is64]; omega)]
  unfold Lib.itoa
  rw [if_neg (by omega), Int.toNat_natCast]

theorem numeral_least : numeral (-9223372036854775808) = [45, 57, 50, 50, 51, 51, 55, 50, 48, 51, 54, 56, 53, 52, 55, 55, 53, 56, 48, 56] := by kernel_rfl

theorem dec_calls (n : Int) (h : is64 n = true) : CallsTo Tryd.prog primA 36 [.dat (.int .i64 n)] [] (.dat (.str (numeral n))) [] := by
  have h' := h
  simp only [is64, Bool.and_eq_true, decide_eq_true_eq] at h'
  obtain ⟨hlo, hhi⟩ := h'
  by_cases hn0 : 0 ≤ n
  · obtain ⟨m, rfl⟩ : ∃ m : Nat, n = m := ⟨n.toNat, by omega⟩
    rw [numeral_nat hhi]
    exact dec_nat m hhi
  refine CallsTo.body Tryd.func36 rfl rfl (Nat.le_of_ble_eq_true rfl) fun ts hl hts => ?_
  rw [Tryd.ntmps36] at hl
  have h0 := hts 0 _ rfl
  have hsa : sealV (.dat (.int .i64 n)) = .dat (.int .i64 n) := rfl
  rw [hsa] at h0
  clear hts
  refine Goes.seq ?_
  apply Goes.region 0
  · intro k _
    simp only [regionT, oneOp, wantedA, stepOp, putA, keep, evalX, evalL, evalParts, cstV, cst1, binA, intOp, strOp, unA, callA, builtinA, lenA, elems, minMaxA, mm2, indexA, sliceA, boundA, Tryd.underlying3, Tryd.underlying9, Tryd.underlying5, Tryd.underlying4, List.toList_toArray, List.getD_eq_getElem?_getD, List.getElem?_set, List.length_set, Option.getD_some, Option.map_some, Option.isSome_none, List.append_nil, List.nil_append, List.map_nil, List.map_cons, reduceIte, Nat.reduceEqDiff, Nat.reduceLT, Bool.false_eq_true, Nat.reduceAdd, if_true, if_false, beq_tf, beq_ft, sealV, sealR, tupleA, finishA, resultsA, resultA, Int.toNat_natCast, retA, List.getElem?_toArray, List.getElem?_cons_zero, List.getElem?_cons_succ, Option.bind_some, AV.under, undersL, Bool.and_true, Bool.true_and, List.take_length, nilNil, constX, Bool.true_or, Bool.or_true, Bool.or_false, Bool.false_or, Bool.not_true, Bool.not_false, hl, h0] <;> rfl
  refine Goes.seq (Goes.seq ?_)
  by_cases hle : n = -9223372036854775808
  · subst hle
    apply Goes.region 0
    · intro k _
      simp only [regionT, oneOp, wantedA, stepOp, putA, keep, evalX, evalL, evalParts, cstV, cst1, binA, intOp, strOp, unA, callA, builtinA, lenA, elems, minMaxA, mm2, indexA, sliceA, boundA, Tryd.underlying3, Tryd.underlying9, Tryd.underlying5, Tryd.underlying4, List.toList_toArray, List.getD_eq_getElem?_getD, List.getElem?_set, List.length_set, Option.getD_some, Option.map_some, Option.isSome_none, List.append_nil, List.nil_append, List.map_nil, List.map_cons, reduceIte, Nat.reduceEqDiff, Nat.reduceLT, Bool.false_eq_true, Nat.reduceAdd, if_true, if_false, beq_tf, beq_ft, sealV, sealR, tupleA, finishA, resultsA, resultA, Int.toNat_natCast, retA, List.getElem?_toArray, List.getElem?_cons_zero, List.getElem?_cons_succ, Option.bind_some, AV.under, undersL, Bool.and_true, Bool.true_and, List.take_length, nilNil, constX, Bool.true_or, Bool.or_true, Bool.or_false, Bool.false_or, Bool.not_true, Bool.not_false, hl, h0, beq_self_eq_true] <;> rfl
    refine Goes.cond true (by simp only [regionT, oneOp, wantedA, stepOp, putA, keep, evalX, evalL, evalParts, cstV, cst1, binA, intOp, strOp, unA, callA, builtinA, lenA, elems, minMaxA, mm2, indexA, sliceA, boundA, Tryd.underlying3, Tryd.underlying9, Tryd.underlying5, Tryd.underlying4, List.toList_toArray, List.getD_eq_getElem?_getD, List.getElem?_set, List.length_set, Option.getD_some, Option.map_some, Option.isSome_none, List.append_nil, List.nil_append, List.map_nil, List.map_cons, reduceIte, Nat.reduceEqDiff, Nat.reduceLT, Bool.false_eq_true, Nat.reduceAdd, if_true, if_false, beq_tf, beq_ft, sealV, sealR, tupleA, finishA, resultsA, resultA, Int.toNat_natCast, retA, List.getElem?_toArray, List.getElem?_cons_zero, List.getElem?_cons_succ, Option.bind_some, AV.under, undersL, Bool.and_true, Bool.true_and, List.take_length, nilNil, constX, Bool.true_or, Bool.or_true, Bool.or_false, Bool.false_or, Bool.not_true, Bool.not_false, hl, beq_self_eq_true] <;> rfl) ?_
    refine Goes.seq ?_
    apply Goes.region 0
    · intro k _
      simp only [regionT, oneOp, wantedA, stepOp, putA, keep, evalX, evalL, evalParts, cstV, cst1, binA, intOp, strOp, unA, callA, builtinA, lenA, elems, minMaxA, mm2, indexA, sliceA, boundA, Tryd.underlying3, Tryd.underlying9, Tryd.underlying5, Tryd.underlying4, List.toList_toArray, List.getD_eq_getElem?_getD, List.getElem?_set, List.length_set, Option.getD_some, Option.map_some, Option.isSome_none, List.append_nil, List.nil_append, List.map_nil, List.map_cons, reduceIte, Nat.reduceEqDiff, Nat.reduceLT, Bool.false_eq_true, Nat.reduceAdd, if_true, if_false, beq_tf, beq_ft, sealV, sealR, tupleA, finishA, resultsA, resultA, Int.toNat_natCast, retA, List.getElem?_toArray, List.getElem?_cons_zero, List.getElem?_cons_succ, Option.bind_some, AV.under, undersL, Bool.and_true, Bool.true_and, List.take_length, nilNil, constX, Bool.true_or, Bool.or_true, Bool.or_false, Bool.false_or, Bool.not_true, Bool.not_false, hl] <;> rfl
    apply Goes.ret
    refine ⟨.inr rfl, ?_⟩
    rw [numeral_least]
    simp only [regionT, oneOp, wantedA, stepOp, putA, keep, evalX, evalL, evalParts, cstV, cst1, binA, intOp, strOp, unA, callA, builtinA, lenA, elems, minMaxA, mm2, indexA, sliceA, boundA, Tryd.underlying3, Tryd.underlying9, Tryd.underlying5, Tryd.underlying4, List.toList_toArray, List.getD_eq_getElem?_getD, List.getElem?_set, List.length_set, Option.getD_some, Option.map_some, Option.isSome_none, List.append_nil, List.nil_append, List.map_nil, List.map_cons, reduceIte, Nat.reduceEqDiff, Nat.reduceLT, Bool.false_eq_true, Nat.reduceAdd, if_true, if_false, beq_tf, beq_ft, sealV, sealR, tupleA, finishA, resultsA, resultA, Int.toNat_natCast, retA, List.getElem?_toArray, List.getElem?_cons_zero, List.getElem?_cons_succ, Option.bind_some, AV.under, undersL, Bool.and_true, Bool.true_and, List.take_length, nilNil, constX, Bool.true_or, Bool.or_true, Bool.or_false, Bool.false_or, Bool.not_true, Bool.not_false, hl, Tryd.results36] <;> rfl
  · have hne : (n == -9223372036854775808) = false := by rw [beq_eq_false_iff_ne]; exact hle
    have hng : n < 0 := by omega
    obtain ⟨m, hm⟩ : ∃ m : Nat, -n = m := ⟨(-n).toNat, by omega⟩
    obtain ⟨k0, hc⟩ := dec_nat m (by omega)
    have hneg : IntKind.i64.wrap (0 - n) = (m : Int) := by rw [wrap64 _ (by omega) (by omega)]; omega
    have hds := dec_small m (by omega)
    have hlt : [(45 : UInt8)].length + (Lib.decDigits m).length ≤ 9223372036854775807 := by simp only [List.length_cons, List.length_nil]; omega
    have hnum : numeral n = 45 :: Lib.decDigits m := by
      rw [numeral_eq h]
      unfold Lib.itoa
      rw [if_pos hng]
      have : n.natAbs = m := by omega
      rw [this]
    apply Goes.region 0
    · intro k _
      simp only [regionT, oneOp, wantedA, stepOp, putA, keep, evalX, evalL, evalParts, cstV, cst1, binA, intOp, strOp, unA, callA, builtinA, lenA, elems, minMaxA, mm2, indexA, sliceA, boundA, Tryd.underlying3, Tryd.underlying9, Tryd.underlying5, Tryd.underlying4, List.toList_toArray, List.getD_eq_getElem?_getD, List.getElem?_set, List.length_set, Option.getD_some, Option.map_some, Option.isSome_none, List.append_nil, List.nil_append, List.map_nil, List.map_cons, reduceIte, Nat.reduceEqDiff, Nat.reduceLT, Bool.false_eq_true, Nat.reduceAdd, if_true, if_false, beq_tf, beq_ft, sealV, sealR, tupleA, finishA, resultsA, resultA, Int.toNat_natCast, retA, List.getElem?_toArray, List.getElem?_cons_zero, List.getElem?_cons_succ, Option.bind_some, AV.under, undersL, Bool.and_true, Bool.true_and, List.take_length, nilNil, constX, Bool.true_or, Bool.or_true, Bool.or_false, Bool.false_or, Bool.not_true, Bool.not_false, hl, h0, hne] <;> rfl
    refine Goes.cond false (by simp only [regionT, oneOp, wantedA, stepOp, putA, keep, evalX, evalL, evalParts, cstV, cst1, binA, intOp, strOp, unA, callA, builtinA, lenA, elems, minMaxA, mm2, indexA, sliceA, boundA, Tryd.underlying3, Tryd.underlying9, Tryd.underlying5, Tryd.underlying4, List.toList_toArray, List.getD_eq_getElem?_getD, List.getElem?_set, List.length_set, Option.getD_some, Option.map_some, Option.isSome_none, List.append_nil, List.nil_append, List.map_nil, List.map_cons, reduceIte, Nat.reduceEqDiff, Nat.reduceLT, Bool.false_eq_true, Nat.reduceAdd, if_true, if_false, beq_tf, beq_ft, sealV, sealR, tupleA, finishA, resultsA, resultA, Int.toNat_natCast, retA, List.getElem?_toArray, List.getElem?_cons_zero, List.getElem?_cons_succ, Option.bind_some, AV.under, undersL, Bool.and_true, Bool.true_and, List.take_length, nilNil, constX, Bool.true_or, Bool.or_true, Bool.or_false, Bool.false_or, Bool.not_true, Bool.not_false, hl, hne] <;> rfl) (Goes.skip ?_)
    refine Goes.seq (Goes.seq ?_)
    apply Goes.region 0
    · intro k _
      simp only [regionT, oneOp, wantedA, stepOp, putA, keep, evalX, evalL, evalParts, cstV, cst1, binA, intOp, strOp, unA, callA, builtinA, lenA, elems, minMaxA, mm2, indexA, sliceA, boundA, Tryd.underlying3, Tryd.underlying9, Tryd.underlying5, Tryd.underlying4, List.toList_toArray, List.getD_eq_getElem?_getD, List.getElem?_set, List.length_set, Option.getD_some, Option.map_some, Option.isSome_none, List.append_nil, List.nil_append, List.map_nil, List.map_cons, reduceIte, Nat.reduceEqDiff, Nat.reduceLT, Bool.false_eq_true, Nat.reduceAdd, if_true, if_false, beq_tf, beq_ft, sealV, sealR, tupleA, finishA, resultsA, resultA, Int.toNat_natCast, retA, List.getElem?_toArray, List.getElem?_cons_zero, List.getElem?_cons_succ, Option.bind_some, AV.under, undersL, Bool.and_true, Bool.true_and, List.take_length, nilNil, constX, Bool.true_or, Bool.or_true, Bool.or_false, Bool.false_or, Bool.not_true, Bool.not_false, hl, h0, hng, decide_true] <;> rfl
    refine Goes.cond true (by simp only [regionT, oneOp, wantedA, stepOp, putA, keep, evalX, evalL, evalParts, cstV, cst1, binA, intOp, strOp, unA, callA, builtinA, lenA, elems, minMaxA, mm2, indexA, sliceA, boundA, Tryd.underlying3, Tryd.underlying9, Tryd.underlying5, Tryd.underlying4, List.toList_toArray, List.getD_eq_getElem?_getD, List.getElem?_set, List.length_set, Option.getD_some, Option.map_some, Option.isSome_none, List.append_nil, List.nil_append, List.map_nil, List.map_cons, reduceIte, Nat.reduceEqDiff, Nat.reduceLT, Bool.false_eq_true, Nat.reduceAdd, if_true, if_false, beq_tf, beq_ft, sealV, sealR, tupleA, finishA, resultsA, resultA, Int.toNat_natCast, retA, List.getElem?_toArray, List.getElem?_cons_zero, List.getElem?_cons_succ, Option.bind_some, AV.under, undersL, Bool.and_true, Bool.true_and, List.take_length, nilNil, constX, Bool.true_or, Bool.or_true, Bool.or_false, Bool.false_or, Bool.not_true, Bool.not_false, hl, hng, decide_true] <;> rfl) ?_
    refine Goes.seq ?_
    apply Goes.region k0
    · intro k hk
      simp only [regionT, oneOp, wantedA, stepOp, putA, keep, evalX, evalL, evalParts, cstV, cst1, binA, intOp, strOp, unA, callA, builtinA, lenA, elems, minMaxA, mm2, indexA, sliceA, boundA, Tryd.underlying3, Tryd.underlying9, Tryd.underlying5, Tryd.underlying4, List.toList_toArray, List.getD_eq_getElem?_getD, List.getElem?_set, List.length_set, Option.getD_some, Option.map_some, Option.isSome_none, List.append_nil, List.nil_append, List.map_nil, List.map_cons, reduceIte, Nat.reduceEqDiff, Nat.reduceLT, Bool.false_eq_true, Nat.reduceAdd, if_true, if_false, beq_tf, beq_ft, sealV, sealR, tupleA, finishA, resultsA, resultA, Int.toNat_natCast, retA, List.getElem?_toArray, List.getElem?_cons_zero, List.getElem?_cons_succ, Option.bind_some, AV.under, undersL, Bool.and_true, Bool.true_and, List.take_length, nilNil, constX, Bool.true_or, Bool.or_true, Bool.or_false, Bool.false_or, Bool.not_true, Bool.not_false, hl, h0, hneg, hc k hk, hlt] <;> rfl
    apply Goes.ret
    refine ⟨.inr rfl, ?_⟩
    rw [hnum]
    simp only [regionT, oneOp, wantedA, stepOp, putA, keep, evalX, evalL, evalParts, cstV, cst1, binA, intOp, strOp, unA, callA, builtinA, lenA, elems, minMaxA, mm2, indexA, sliceA, boundA, Tryd.underlying3, Tryd.underlying9, Tryd.underlying5, Tryd.underlying4, List.toList_toArray, List.getD_eq_getElem?_getD, List.getElem?_set, List.length_set, Option.getD_some, Option.map_some, Option.isSome_none, List.append_nil, List.nil_append, List.map_nil, List.map_cons, reduceIte, Nat.reduceEqDiff, Nat.reduceLT, Bool.false_eq_true, Nat.reduceAdd, if_true, if_false, beq_tf, beq_ft, sealV, sealR, tupleA, finishA, resultsA, resultA, Int.toNat_natCast, retA, List.getElem?_toArray, List.getElem?_cons_zero, List.getElem?_cons_succ, Option.bind_some, AV.under, undersL, Bool.and_true, Bool.true_and, List.take_length, nilNil, constX, Bool.true_or, Bool.or_true, Bool.or_false, Bool.false_or, Bool.not_true, Bool.not_false, hl, Tryd.results36] <;> rfl

def pDec : Prim := fun args h => match args with
  | [.dat (.int .i64 n)] => if is64 n = true then some (.dat (.str (numeral n)), h) else none
  | _ => none

/-- .. with the reference's decimal text -/
def primR1 : FuncId → Option Prim := over primA 36 pDec

theorem primsR1_ok : PrimsOk Tryd.prog primR1 := over_ok primsA_ok fun args h v h' hs => by
  unfold pDec at hs
  split at hs
  · split at hs
    · cases hs
      rename_i hv
      exact ⟨rfl, rfl, rfl, dec_calls _ hv⟩
    · cases hs
  · cases hs

end Go.Proofs.YtfdcjngclelnhaaDoor
