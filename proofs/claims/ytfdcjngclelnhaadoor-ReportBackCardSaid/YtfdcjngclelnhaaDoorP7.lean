/- The reader of rows: its small functions. -/
import Derived.Test.YtfdcjngclelnhaaDoorP6
set_option linter.unusedSectionVars false
set_option linter.unusedSimpArgs false
set_option linter.unusedVariables false
set_option linter.unusedSimpArgs false
namespace Go.Proofs.YtfdcjngclelnhaaDoor
open Go Go.RowKit

def pIdx : Prim := fun args h => match args with
  | [.dat (.str s), .dat (.int .u8 c)] => some (.dat (.int .i64 (idxByte c.toNat.toUInt8 s 0)), h)
  | _ => none

theorem idx55 : (fun k s c => call Tryd.prog primC (k + 60) 55 [.dat (.str s), .dat (.int .u8 c)] []) = fun _ s c => some (.dat (.int .i64 (idxByte c.toNat.toUInt8 s 0)), []) := by kernel_rfl

def primD0 : FuncId → Option Prim := over primC 55 pIdx
theorem primsD0_ok : PrimsOk Tryd.prog primD0 := over_ok primsC_ok fun args h v h' hs => by
  unfold pIdx at hs
  split at hs
  · cases hs
    exact ⟨rfl, rfl, rfl, CallsTo.layer fun k => congrFun (congrFun (congrFun idx55 k) _) _⟩
  · cases hs

theorem prefix70_calls (s p : List UInt8) (h : Heap) : CallsTo Tryd.prog primD0 70 [.dat (.str s), .dat (.str p)] h (.dat (.bool (p.isPrefixOf s))) h := by
  refine CallsTo.body Tryd.func70 rfl rfl (Nat.le_of_ble_eq_true rfl) fun ts hl hts => ?_
  rw [Tryd.ntmps70] at hl
  have h0 := hts 0 _ rfl
  have h1 := hts 1 _ rfl
  refine Goes.seq ?_
  apply Goes.region 0
  · intro k _
    simp only [regionT, oneOp, wantedA, stepOp, putA, keep, evalX, evalL, evalParts, cstV, cst1, binA, intOp, strOp, unA, callA, builtinA, lenA, elems, minMaxA, mm2, indexA, sliceA, boundA, Tryd.underlying3, Tryd.underlying9, Tryd.underlying5, Tryd.underlying4, List.toList_toArray, List.getD_eq_getElem?_getD, List.getElem?_set, List.length_set, Option.getD_some, Option.map_some, Option.isSome_none, List.append_nil, List.nil_append, List.map_nil, List.map_cons, reduceIte, Nat.reduceEqDiff, Nat.reduceLT, Bool.false_eq_true, Nat.reduceAdd, if_true, if_false, beq_tf, beq_ft, sealV, sealR, tupleA, finishA, resultsA, resultA, Int.toNat_natCast, retA, List.getElem?_toArray, List.getElem?_cons_zero, List.getElem?_cons_succ, Option.bind_some, AV.under, undersL, Bool.and_true, Bool.true_and, List.take_length, nilNil, constX, Bool.true_or, Bool.or_true, Bool.or_false, Bool.false_or, Bool.not_true, Bool.not_false, hl, h0, h1] <;> rfl
  refine Goes.seq ?_
  by_cases hlen : p.length ≤ s.length
  · have e : p.isPrefixOf s = (s.take p.length == p) := by
      rw [Bool.eq_iff_iff, List.isPrefixOf_iff_prefix, List.prefix_iff_eq_take, beq_iff_eq]
      exact ⟨fun h => h.symm, fun h => h.symm⟩
    have hg : (s.length : Int) ≥ p.length := by omega
    apply Goes.region 0
    · intro k hk
      simp only [regionT, oneOp, wantedA, stepOp, putA, keep, evalX, evalL, evalParts, cstV, cst1, binA, intOp, strOp, unA, callA, builtinA, lenA, elems, minMaxA, mm2, indexA, sliceA, boundA, Tryd.underlying3, Tryd.underlying9, Tryd.underlying5, Tryd.underlying4, List.toList_toArray, List.getD_eq_getElem?_getD, List.getElem?_set, List.length_set, Option.getD_some, Option.map_some, Option.isSome_none, List.append_nil, List.nil_append, List.map_nil, List.map_cons, reduceIte, Nat.reduceEqDiff, Nat.reduceLT, Bool.false_eq_true, Nat.reduceAdd, if_true, if_false, beq_tf, beq_ft, sealV, sealR, tupleA, finishA, resultsA, resultA, Int.toNat_natCast, retA, List.getElem?_toArray, List.getElem?_cons_zero, List.getElem?_cons_succ, Option.bind_some, AV.under, undersL, Bool.and_true, Bool.true_and, List.take_length, nilNil, constX, Bool.true_or, Bool.or_true, Bool.or_false, Bool.false_or, Bool.not_true, Bool.not_false, hl, h0, h1, hg, decide_true, beq_self_eq_true, Int.natCast_nonneg, Int.ofNat_le, hlen, and_self, Nat.sub_zero, List.drop_zero] <;> rfl
    apply Goes.ret
    refine ⟨.inr rfl, ?_⟩
    simp only [regionT, oneOp, wantedA, stepOp, putA, keep, evalX, evalL, evalParts, cstV, cst1, binA, intOp, strOp, unA, callA, builtinA, lenA, elems, minMaxA, mm2, indexA, sliceA, boundA, Tryd.underlying3, Tryd.underlying9, Tryd.underlying5, Tryd.underlying4, List.toList_toArray, List.getD_eq_getElem?_getD, List.getElem?_set, List.length_set, Option.getD_some, Option.map_some, Option.isSome_none, List.append_nil, List.nil_append, List.map_nil, List.map_cons, reduceIte, Nat.reduceEqDiff, Nat.reduceLT, Bool.false_eq_true, Nat.reduceAdd, if_true, if_false, beq_tf, beq_ft, sealV, sealR, tupleA, finishA, resultsA, resultA, Int.toNat_natCast, retA, List.getElem?_toArray, List.getElem?_cons_zero, List.getElem?_cons_succ, Option.bind_some, AV.under, undersL, Bool.and_true, Bool.true_and, List.take_length, nilNil, constX, Bool.true_or, Bool.or_true, Bool.or_false, Bool.false_or, Bool.not_true, Bool.not_false, hl, h0, Tryd.results70, e]
  · have e : p.isPrefixOf s = false := by
      cases hb : p.isPrefixOf s with
      | false => rfl
      | true => exact absurd (List.isPrefixOf_iff_prefix.1 hb).length_le hlen
    have hg : ¬ (s.length : Int) ≥ p.length := by omega
    apply Goes.region 0
    · intro k hk
      simp only [regionT, oneOp, wantedA, stepOp, putA, keep, evalX, evalL, evalParts, cstV, cst1, binA, intOp, strOp, unA, callA, builtinA, lenA, elems, minMaxA, mm2, indexA, sliceA, boundA, Tryd.underlying3, Tryd.underlying9, Tryd.underlying5, Tryd.underlying4, List.toList_toArray, List.getD_eq_getElem?_getD, List.getElem?_set, List.length_set, Option.getD_some, Option.map_some, Option.isSome_none, List.append_nil, List.nil_append, List.map_nil, List.map_cons, reduceIte, Nat.reduceEqDiff, Nat.reduceLT, Bool.false_eq_true, Nat.reduceAdd, if_true, if_false, beq_tf, beq_ft, sealV, sealR, tupleA, finishA, resultsA, resultA, Int.toNat_natCast, retA, List.getElem?_toArray, List.getElem?_cons_zero, List.getElem?_cons_succ, Option.bind_some, AV.under, undersL, Bool.and_true, Bool.true_and, List.take_length, nilNil, constX, Bool.true_or, Bool.or_true, Bool.or_false, Bool.false_or, Bool.not_true, Bool.not_false, hl, h0, h1, hg, decide_false] <;> rfl
    apply Goes.ret
    refine ⟨.inr rfl, ?_⟩
    simp only [regionT, oneOp, wantedA, stepOp, putA, keep, evalX, evalL, evalParts, cstV, cst1, binA, intOp, strOp, unA, callA, builtinA, lenA, elems, minMaxA, mm2, indexA, sliceA, boundA, Tryd.underlying3, Tryd.underlying9, Tryd.underlying5, Tryd.underlying4, List.toList_toArray, List.getD_eq_getElem?_getD, List.getElem?_set, List.length_set, Option.getD_some, Option.map_some, Option.isSome_none, List.append_nil, List.nil_append, List.map_nil, List.map_cons, reduceIte, Nat.reduceEqDiff, Nat.reduceLT, Bool.false_eq_true, Nat.reduceAdd, if_true, if_false, beq_tf, beq_ft, sealV, sealR, tupleA, finishA, resultsA, resultA, Int.toNat_natCast, retA, List.getElem?_toArray, List.getElem?_cons_zero, List.getElem?_cons_succ, Option.bind_some, AV.under, undersL, Bool.and_true, Bool.true_and, List.take_length, nilNil, constX, Bool.true_or, Bool.or_true, Bool.or_false, Bool.false_or, Bool.not_true, Bool.not_false, hl, h0, Tryd.results70, e]


def cutV (s p : List UInt8) : AV := .tuple [.dat (.str (if p.isPrefixOf s then s.drop p.length else s)), .dat (.bool (p.isPrefixOf s))]

theorem cut59_calls (s p : List UInt8) : CallsTo Tryd.prog primD0 59 [.dat (.str s), .dat (.str p)] [] (cutV s p) [] := by
  obtain ⟨k0, hc⟩ := prefix70_calls s p []
  refine CallsTo.body Tryd.func59 rfl rfl (Nat.le_of_ble_eq_true rfl) fun ts hl hts => ?_
  rw [Tryd.ntmps59] at hl
  have h0 := hts 0 _ rfl
  have h1 := hts 1 _ rfl
  refine Goes.seq ?_
  apply Goes.region 0
  · intro k _
    simp only [regionT, oneOp, wantedA, stepOp, putA, keep, evalX, evalL, evalParts, cstV, cst1, binA, intOp, strOp, unA, callA, builtinA, lenA, elems, minMaxA, mm2, indexA, sliceA, boundA, Tryd.underlying3, Tryd.underlying9, Tryd.underlying5, Tryd.underlying4, List.toList_toArray, List.getD_eq_getElem?_getD, List.getElem?_set, List.length_set, Option.getD_some, Option.map_some, Option.isSome_none, List.append_nil, List.nil_append, List.map_nil, List.map_cons, reduceIte, Nat.reduceEqDiff, Nat.reduceLT, Bool.false_eq_true, Nat.reduceAdd, if_true, if_false, beq_tf, beq_ft, sealV, sealR, tupleA, finishA, resultsA, resultA, Int.toNat_natCast, retA, List.getElem?_toArray, List.getElem?_cons_zero, List.getElem?_cons_succ, Option.bind_some, AV.under, undersL, Bool.and_true, Bool.true_and, List.take_length, nilNil, constX, Bool.true_or, Bool.or_true, Bool.or_false, Bool.false_or, Bool.not_true, Bool.not_false, hl, h0, h1] <;> rfl
  refine Goes.seq (Goes.seq ?_)
  cases hp : p.isPrefixOf s with
  | true =>
    rw [hp] at hc
    have hlen : p.length ≤ s.length := (List.isPrefixOf_iff_prefix.1 hp).length_le
    have htk : List.take (s.length - p.length) (List.drop p.length s) = List.drop p.length s := List.take_of_length_le (by rw [List.length_drop]; omega)
    apply Goes.region k0
    · intro k hk
      simp only [regionT, oneOp, wantedA, stepOp, putA, keep, evalX, evalL, evalParts, cstV, cst1, binA, intOp, strOp, unA, callA, builtinA, lenA, elems, minMaxA, mm2, indexA, sliceA, boundA, Tryd.underlying3, Tryd.underlying9, Tryd.underlying5, Tryd.underlying4, List.toList_toArray, List.getD_eq_getElem?_getD, List.getElem?_set, List.length_set, Option.getD_some, Option.map_some, Option.isSome_none, List.append_nil, List.nil_append, List.map_nil, List.map_cons, reduceIte, Nat.reduceEqDiff, Nat.reduceLT, Bool.false_eq_true, Nat.reduceAdd, if_true, if_false, beq_tf, beq_ft, sealV, sealR, tupleA, finishA, resultsA, resultA, Int.toNat_natCast, retA, List.getElem?_toArray, List.getElem?_cons_zero, List.getElem?_cons_succ, Option.bind_some, AV.under, undersL, Bool.and_true, Bool.true_and, List.take_length, nilNil, constX, Bool.true_or, Bool.or_true, Bool.or_false, Bool.false_or, Bool.not_true, Bool.not_false, hl, h0, h1, hc k hk, unA] <;> rfl
    refine Goes.cond false (by simp only [regionT, oneOp, wantedA, stepOp, putA, keep, evalX, evalL, evalParts, cstV, cst1, binA, intOp, strOp, unA, callA, builtinA, lenA, elems, minMaxA, mm2, indexA, sliceA, boundA, Tryd.underlying3, Tryd.underlying9, Tryd.underlying5, Tryd.underlying4, List.toList_toArray, List.getD_eq_getElem?_getD, List.getElem?_set, List.length_set, Option.getD_some, Option.map_some, Option.isSome_none, List.append_nil, List.nil_append, List.map_nil, List.map_cons, reduceIte, Nat.reduceEqDiff, Nat.reduceLT, Bool.false_eq_true, Nat.reduceAdd, if_true, if_false, beq_tf, beq_ft, sealV, sealR, tupleA, finishA, resultsA, resultA, Int.toNat_natCast, retA, List.getElem?_toArray, List.getElem?_cons_zero, List.getElem?_cons_succ, Option.bind_some, AV.under, undersL, Bool.and_true, Bool.true_and, List.take_length, nilNil, constX, Bool.true_or, Bool.or_true, Bool.or_false, Bool.false_or, Bool.not_true, Bool.not_false, hl] <;> rfl) (Goes.skip ?_)
    refine Goes.seq ?_
    apply Goes.region 0
    · intro k hk
      simp only [regionT, oneOp, wantedA, stepOp, putA, keep, evalX, evalL, evalParts, cstV, cst1, binA, intOp, strOp, unA, callA, builtinA, lenA, elems, minMaxA, mm2, indexA, sliceA, boundA, Tryd.underlying3, Tryd.underlying9, Tryd.underlying5, Tryd.underlying4, List.toList_toArray, List.getD_eq_getElem?_getD, List.getElem?_set, List.length_set, Option.getD_some, Option.map_some, Option.isSome_none, List.append_nil, List.nil_append, List.map_nil, List.map_cons, reduceIte, Nat.reduceEqDiff, Nat.reduceLT, Bool.false_eq_true, Nat.reduceAdd, if_true, if_false, beq_tf, beq_ft, sealV, sealR, tupleA, finishA, resultsA, resultA, Int.toNat_natCast, retA, List.getElem?_toArray, List.getElem?_cons_zero, List.getElem?_cons_succ, Option.bind_some, AV.under, undersL, Bool.and_true, Bool.true_and, List.take_length, nilNil, constX, Bool.true_or, Bool.or_true, Bool.or_false, Bool.false_or, Bool.not_true, Bool.not_false, hl, h0, h1, Int.natCast_nonneg, Int.ofNat_le, hlen, and_self, Int.le_refl, true_and, Nat.le_refl, List.take_length, htk] <;> rfl
    apply Goes.ret
    refine ⟨.inr rfl, ?_⟩
    simp only [regionT, oneOp, wantedA, stepOp, putA, keep, evalX, evalL, evalParts, cstV, cst1, binA, intOp, strOp, unA, callA, builtinA, lenA, elems, minMaxA, mm2, indexA, sliceA, boundA, Tryd.underlying3, Tryd.underlying9, Tryd.underlying5, Tryd.underlying4, List.toList_toArray, List.getD_eq_getElem?_getD, List.getElem?_set, List.length_set, Option.getD_some, Option.map_some, Option.isSome_none, List.append_nil, List.nil_append, List.map_nil, List.map_cons, reduceIte, Nat.reduceEqDiff, Nat.reduceLT, Bool.false_eq_true, Nat.reduceAdd, if_true, if_false, beq_tf, beq_ft, sealV, sealR, tupleA, finishA, resultsA, resultA, Int.toNat_natCast, retA, List.getElem?_toArray, List.getElem?_cons_zero, List.getElem?_cons_succ, Option.bind_some, AV.under, undersL, Bool.and_true, Bool.true_and, List.take_length, nilNil, constX, Bool.true_or, Bool.or_true, Bool.or_false, Bool.false_or, Bool.not_true, Bool.not_false, hl, h0, Tryd.results59, cutV, hp, List.map_cons, List.map_nil] <;> rfl
  | false =>
    rw [hp] at hc
    apply Goes.region k0
    · intro k hk
      simp only [regionT, oneOp, wantedA, stepOp, putA, keep, evalX, evalL, evalParts, cstV, cst1, binA, intOp, strOp, unA, callA, builtinA, lenA, elems, minMaxA, mm2, indexA, sliceA, boundA, Tryd.underlying3, Tryd.underlying9, Tryd.underlying5, Tryd.underlying4, List.toList_toArray, List.getD_eq_getElem?_getD, List.getElem?_set, List.length_set, Option.getD_some, Option.map_some, Option.isSome_none, List.append_nil, List.nil_append, List.map_nil, List.map_cons, reduceIte, Nat.reduceEqDiff, Nat.reduceLT, Bool.false_eq_true, Nat.reduceAdd, if_true, if_false, beq_tf, beq_ft, sealV, sealR, tupleA, finishA, resultsA, resultA, Int.toNat_natCast, retA, List.getElem?_toArray, List.getElem?_cons_zero, List.getElem?_cons_succ, Option.bind_some, AV.under, undersL, Bool.and_true, Bool.true_and, List.take_length, nilNil, constX, Bool.true_or, Bool.or_true, Bool.or_false, Bool.false_or, Bool.not_true, Bool.not_false, hl, h0, h1, hc k hk, unA] <;> rfl
    refine Goes.cond true (by simp only [regionT, oneOp, wantedA, stepOp, putA, keep, evalX, evalL, evalParts, cstV, cst1, binA, intOp, strOp, unA, callA, builtinA, lenA, elems, minMaxA, mm2, indexA, sliceA, boundA, Tryd.underlying3, Tryd.underlying9, Tryd.underlying5, Tryd.underlying4, List.toList_toArray, List.getD_eq_getElem?_getD, List.getElem?_set, List.length_set, Option.getD_some, Option.map_some, Option.isSome_none, List.append_nil, List.nil_append, List.map_nil, List.map_cons, reduceIte, Nat.reduceEqDiff, Nat.reduceLT, Bool.false_eq_true, Nat.reduceAdd, if_true, if_false, beq_tf, beq_ft, sealV, sealR, tupleA, finishA, resultsA, resultA, Int.toNat_natCast, retA, List.getElem?_toArray, List.getElem?_cons_zero, List.getElem?_cons_succ, Option.bind_some, AV.under, undersL, Bool.and_true, Bool.true_and, List.take_length, nilNil, constX, Bool.true_or, Bool.or_true, Bool.or_false, Bool.false_or, Bool.not_true, Bool.not_false, hl] <;> rfl) ?_
    refine Goes.seq ?_
    apply Goes.region 0
    · intro k hk
      simp only [regionT, oneOp, wantedA, stepOp, putA, keep, evalX, evalL, evalParts, cstV, cst1, binA, intOp, strOp, unA, callA, builtinA, lenA, elems, minMaxA, mm2, indexA, sliceA, boundA, Tryd.underlying3, Tryd.underlying9, Tryd.underlying5, Tryd.underlying4, List.toList_toArray, List.getD_eq_getElem?_getD, List.getElem?_set, List.length_set, Option.getD_some, Option.map_some, Option.isSome_none, List.append_nil, List.nil_append, List.map_nil, List.map_cons, reduceIte, Nat.reduceEqDiff, Nat.reduceLT, Bool.false_eq_true, Nat.reduceAdd, if_true, if_false, beq_tf, beq_ft, sealV, sealR, tupleA, finishA, resultsA, resultA, Int.toNat_natCast, retA, List.getElem?_toArray, List.getElem?_cons_zero, List.getElem?_cons_succ, Option.bind_some, AV.under, undersL, Bool.and_true, Bool.true_and, List.take_length, nilNil, constX, Bool.true_or, Bool.or_true, Bool.or_false, Bool.false_or, Bool.not_true, Bool.not_false, hl, h0, h1] <;> rfl
    apply Goes.ret
    refine ⟨.inr rfl, ?_⟩
    simp only [regionT, oneOp, wantedA, stepOp, putA, keep, evalX, evalL, evalParts, cstV, cst1, binA, intOp, strOp, unA, callA, builtinA, lenA, elems, minMaxA, mm2, indexA, sliceA, boundA, Tryd.underlying3, Tryd.underlying9, Tryd.underlying5, Tryd.underlying4, List.toList_toArray, List.getD_eq_getElem?_getD, List.getElem?_set, List.length_set, Option.getD_some, Option.map_some, Option.isSome_none, List.append_nil, List.nil_append, List.map_nil, List.map_cons, reduceIte, Nat.reduceEqDiff, Nat.reduceLT, Bool.false_eq_true, Nat.reduceAdd, if_true, if_false, beq_tf, beq_ft, sealV, sealR, tupleA, finishA, resultsA, resultA, Int.toNat_natCast, retA, List.getElem?_toArray, List.getElem?_cons_zero, List.getElem?_cons_succ, Option.bind_some, AV.under, undersL, Bool.and_true, Bool.true_and, List.take_length, nilNil, constX, Bool.true_or, Bool.or_true, Bool.or_false, Bool.false_or, Bool.not_true, Bool.not_false, hl, h0, Tryd.results59, cutV, hp, List.map_cons, List.map_nil] <;> rfl

theorem cut43_calls (s p : List UInt8) : CallsTo Tryd.prog primD0 43 [.dat (.str s), .dat (.str p)] [] (cutV s p) [] := by
  obtain ⟨k0, hc⟩ := cut59_calls s p
  refine CallsTo.body Tryd.func43 rfl rfl (Nat.le_of_ble_eq_true rfl) fun ts hl hts => ?_
  rw [Tryd.ntmps43] at hl
  have h0 := hts 0 _ rfl
  have h1 := hts 1 _ rfl
  simp only [cutV] at hc
  refine Goes.seq ?_
  apply Goes.region 0
  · intro k _
    simp only [regionT, oneOp, wantedA, stepOp, putA, keep, evalX, evalL, evalParts, cstV, cst1, binA, intOp, strOp, unA, callA, builtinA, lenA, elems, minMaxA, mm2, indexA, sliceA, boundA, Tryd.underlying3, Tryd.underlying9, Tryd.underlying5, Tryd.underlying4, List.toList_toArray, List.getD_eq_getElem?_getD, List.getElem?_set, List.length_set, Option.getD_some, Option.map_some, Option.isSome_none, List.append_nil, List.nil_append, List.map_nil, List.map_cons, reduceIte, Nat.reduceEqDiff, Nat.reduceLT, Bool.false_eq_true, Nat.reduceAdd, if_true, if_false, beq_tf, beq_ft, sealV, sealR, tupleA, finishA, resultsA, resultA, Int.toNat_natCast, retA, List.getElem?_toArray, List.getElem?_cons_zero, List.getElem?_cons_succ, Option.bind_some, AV.under, undersL, Bool.and_true, Bool.true_and, List.take_length, nilNil, constX, Bool.true_or, Bool.or_true, Bool.or_false, Bool.false_or, Bool.not_true, Bool.not_false, hl, h0, h1] <;> rfl
  refine Goes.seq ?_
  apply Goes.region k0
  · intro k hk
    simp only [regionT, oneOp, wantedA, stepOp, putA, keep, evalX, evalL, evalParts, cstV, cst1, binA, intOp, strOp, unA, callA, builtinA, lenA, elems, minMaxA, mm2, indexA, sliceA, boundA, Tryd.underlying3, Tryd.underlying9, Tryd.underlying5, Tryd.underlying4, List.toList_toArray, List.getD_eq_getElem?_getD, List.getElem?_set, List.length_set, Option.getD_some, Option.map_some, Option.isSome_none, List.append_nil, List.nil_append, List.map_nil, List.map_cons, reduceIte, Nat.reduceEqDiff, Nat.reduceLT, Bool.false_eq_true, Nat.reduceAdd, if_true, if_false, beq_tf, beq_ft, sealV, sealR, tupleA, finishA, resultsA, resultA, Int.toNat_natCast, retA, List.getElem?_toArray, List.getElem?_cons_zero, List.getElem?_cons_succ, Option.bind_some, AV.under, undersL, Bool.and_true, Bool.true_and, List.take_length, nilNil, constX, Bool.true_or, Bool.or_true, Bool.or_false, Bool.false_or, Bool.not_true, Bool.not_false, hl, h0, h1, hc k hk] <;> rfl
  apply Goes.ret
  refine ⟨.inr rfl, ?_⟩
  simp only [regionT, oneOp, wantedA, stepOp, putA, keep, evalX, evalL, evalParts, cstV, cst1, binA, intOp, strOp, unA, callA, builtinA, lenA, elems, minMaxA, mm2, indexA, sliceA, boundA, Tryd.underlying3, Tryd.underlying9, Tryd.underlying5, Tryd.underlying4, List.toList_toArray, List.getD_eq_getElem?_getD, List.getElem?_set, List.length_set, Option.getD_some, Option.map_some, Option.isSome_none, List.append_nil, List.nil_append, List.map_nil, List.map_cons, reduceIte, Nat.reduceEqDiff, Nat.reduceLT, Bool.false_eq_true, Nat.reduceAdd, if_true, if_false, beq_tf, beq_ft, sealV, sealR, tupleA, finishA, resultsA, resultA, Int.toNat_natCast, retA, List.getElem?_toArray, List.getElem?_cons_zero, List.getElem?_cons_succ, Option.bind_some, AV.under, undersL, Bool.and_true, Bool.true_and, List.take_length, nilNil, constX, Bool.true_or, Bool.or_true, Bool.or_false, Bool.false_or, Bool.not_true, Bool.not_false, hl, h0, Tryd.results43, cutV, List.map_cons, List.map_nil] <;> rfl

def pCut : Prim := fun args h => match args with
  | [.dat (.str s), .dat (.str p)] => some (cutV s p, h)
  | _ => none
def specials : List Nat := List.range 32 ++ [92]
theorem esc_all : (fun k r => specials.map fun n => call Tryd.prog primD0 (k + 60) 54 [.dat (.str (92 :: hexD (n / 16) :: hexD (n % 16) :: r))] []) = fun _ _ => specials.map fun n => some (.tuple [.dat (.int .u8 n), .dat (.bool true)], []) := by kernel_rfl

def escOf (a b : UInt8) : Option Nat := specials.find? fun n => hexD (n / 16) == a && hexD (n % 16) == b

def pEsc : Prim := fun args h => match args with
  | [.dat (.str (92 :: a :: b :: _))] => (escOf a b).map fun (n : Nat) => (.tuple [.dat (.int .u8 (n : Int)), .dat (.bool true)], h)
  | _ => none

theorem esc_at {n : Nat} (h : n ∈ specials) (k : Nat) (r : List UInt8) : call Tryd.prog primD0 (k + 60) 54 [.dat (.str (92 :: hexD (n / 16) :: hexD (n % 16) :: r))] [] = some (.tuple [.dat (.int .u8 n), .dat (.bool true)], []) := by
  obtain ⟨i, hi, rfl⟩ := List.getElem_of_mem h
  have := congrArg (fun l => l[i]?) (congrFun (congrFun esc_all k) r)
  simp only [List.getElem?_map, List.getElem?_eq_getElem hi, Option.map_some, Option.some.injEq] at this
  exact this

def primD : FuncId → Option Prim := over (over primD0 43 pCut) 54 pEsc

theorem primsD_ok : PrimsOk Tryd.prog primD := by
  have h1 : PrimsOk Tryd.prog (over primD0 43 pCut) := over_ok primsD0_ok fun args h v h' hs => by
    unfold pCut at hs
    split at hs
    · cases hs
      exact ⟨rfl, rfl, rfl, cut43_calls _ _⟩
    · cases hs
  have h2 : PrimsOk Tryd.prog (over primD0 54 pEsc) := over_ok primsD0_ok fun args h v h' hs => by
    unfold pEsc at hs
    split at hs
    · rename_i a b r
      simp only [Option.map_eq_some_iff, escOf] at hs
      obtain ⟨n, hn, hs⟩ := hs
      cases hs
      have hm := List.mem_of_find?_eq_some hn
      have hp := List.find?_some hn
      simp only [Bool.and_eq_true, beq_iff_eq] at hp
      obtain ⟨rfl, rfl⟩ := hp
      exact ⟨rfl, rfl, rfl, CallsTo.layer fun k => esc_at hm k _⟩
    · cases hs
  intro g q hq
  unfold primD over at hq
  split at hq
  · rename_i e; subst e; cases hq
    exact h2 54 pEsc (by simp [over])
  · exact h1 g q hq

theorem escOf_all : (specials.map fun n => escOf (hexD (n / 16)) (hexD (n % 16))) = specials.map some := by decide +kernel
theorem special_mem {c : UInt8} (h : special c = true) : c.toNat ∈ specials := by
  unfold special at h
  simp only [Bool.or_eq_true, decide_eq_true_eq] at h
  unfold specials
  rw [List.mem_append, List.mem_range, List.mem_singleton]
  exact h
theorem escOf_at {c : UInt8} (h : special c = true) : escOf (hexD (c.toNat / 16)) (hexD (c.toNat % 16)) = some c.toNat := by
  have hm := special_mem h
  generalize c.toNat = n at *
  obtain ⟨i, hi, rfl⟩ := List.getElem_of_mem hm
  have := congrArg (fun l => l[i]?) escOf_all
  simp only [List.getElem?_map, List.getElem?_eq_getElem hi, Option.map_some, Option.some.injEq] at this
  exact this

/- the reader -/

def rdr (s : List UInt8) (ver : Nat) : Option AObj := some (.cells 53 [.dat (.str s)] ver)

theorem fr_all : (fun (i o : Nat) => fieldAddrA Tryd.prog 53 (.ptr (some (i, o))) 0) = fun i o => some (.ptr (some (i, o))) := by kernel_rfl
theorem fr (i o : Nat) : fieldAddrA Tryd.prog 53 (.ptr (some (i, o))) 0 = some (.ptr (some (i, o))) := congrFun (congrFun fr_all i) o

theorem take_calls (s p : List UInt8) (ver : Nat) (T : Heap) : ∃ ver', CallsTo Tryd.prog primD 28 [.ptr (some (0, 0)), .dat (.str p)] (rdr s ver :: T) (.dat (.bool (p.isPrefixOf s))) (rdr (if p.isPrefixOf s then s.drop p.length else s) ver' :: T) := by
  have hC : ∀ k h, call Tryd.prog primD k 43 [.dat (.str s), .dat (.str p)] h = some (cutV s p, h) := fun k h => rfl
  simp only [cutV] at hC
  refine ⟨if p.isPrefixOf s then ver + 1 else ver, ?_⟩
  refine CallsTo.body Tryd.func28 rfl rfl (Nat.le_of_ble_eq_true rfl) fun ts hl hts => ?_
  rw [Tryd.ntmps28] at hl
  have h0 := hts 0 _ rfl
  have h1 := hts 1 _ rfl
  refine Goes.seq ?_
  apply Goes.region 0
  · intro k _
    simp only [regionT, oneOp, wantedA, stepOp, putA, keep, evalX, evalL, evalParts, cstV, cst1, binA, intOp, strOp, unA, callA, builtinA, lenA, elems, minMaxA, mm2, indexA, sliceA, boundA, Tryd.underlying3, Tryd.underlying9, Tryd.underlying5, Tryd.underlying4, List.toList_toArray, List.getD_eq_getElem?_getD, List.getElem?_set, List.length_set, Option.getD_some, Option.map_some, Option.isSome_none, List.append_nil, List.nil_append, List.map_nil, List.map_cons, reduceIte, Nat.reduceEqDiff, Nat.reduceLT, Bool.false_eq_true, Nat.reduceAdd, if_true, if_false, beq_tf, beq_ft, sealV, sealR, tupleA, finishA, resultsA, resultA, Int.toNat_natCast, retA, List.getElem?_toArray, List.getElem?_cons_zero, List.getElem?_cons_succ, Option.bind_some, AV.under, undersL, Bool.and_true, Bool.true_and, List.take_length, nilNil, constX, Bool.true_or, Bool.or_true, Bool.or_false, Bool.false_or, Bool.not_true, Bool.not_false, hl, h0, h1] <;> rfl
  refine Goes.seq ?_
  cases hp : p.isPrefixOf s with
  | true =>
    rw [hp] at hC
    simp only [if_true] at hC ⊢
    apply Goes.region 0
    · intro k hk
      simp (decide := true) only [regionT, oneOp, wantedA, stepOp, putA, keep, evalX, evalL, evalParts, cstV, cst1, binA, intOp, strOp, unA, callA, builtinA, lenA, elems, minMaxA, mm2, indexA, sliceA, boundA, Tryd.underlying3, Tryd.underlying9, Tryd.underlying5, Tryd.underlying4, List.toList_toArray, List.getD_eq_getElem?_getD, List.getElem?_set, List.length_set, Option.getD_some, Option.map_some, Option.isSome_none, List.append_nil, List.nil_append, List.map_nil, List.map_cons, reduceIte, Nat.reduceEqDiff, Nat.reduceLT, Bool.false_eq_true, Nat.reduceAdd, if_true, if_false, beq_tf, beq_ft, sealV, sealR, tupleA, finishA, resultsA, resultA, Int.toNat_natCast, retA, List.getElem?_toArray, List.getElem?_cons_zero, List.getElem?_cons_succ, Option.bind_some, AV.under, undersL, Bool.and_true, Bool.true_and, List.take_length, nilNil, constX, Bool.true_or, Bool.or_true, Bool.or_false, Bool.false_or, Bool.not_true, Bool.not_false, storeA, AV.cells, D.cells, settleL, settle, spliceL, AV.isCell, List.all_cons, List.all_nil, Bool.and_self, List.take_succ_cons, List.take_zero, List.drop_succ_cons, List.drop_nil, List.length_cons, List.length_nil, Nat.reduceLeDiff, and_self, nilCheckA, loadA, partA, size3, agg3, size9, agg9, List.cons_append, List.nil_append, List.set_cons_zero, Nat.zero_add, List.drop_zero, Nat.le_refl, rdr, hl, h0, h1, fr, hC] <;> rfl
    refine Goes.seq (Goes.seq ?_)
    apply Goes.region 0
    · intro k hk
      simp only [regionT, oneOp, wantedA, stepOp, putA, keep, evalX, evalL, evalParts, cstV, cst1, binA, intOp, strOp, unA, callA, builtinA, lenA, elems, minMaxA, mm2, indexA, sliceA, boundA, Tryd.underlying3, Tryd.underlying9, Tryd.underlying5, Tryd.underlying4, List.toList_toArray, List.getD_eq_getElem?_getD, List.getElem?_set, List.length_set, Option.getD_some, Option.map_some, Option.isSome_none, List.append_nil, List.nil_append, List.map_nil, List.map_cons, reduceIte, Nat.reduceEqDiff, Nat.reduceLT, Bool.false_eq_true, Nat.reduceAdd, if_true, if_false, beq_tf, beq_ft, sealV, sealR, tupleA, finishA, resultsA, resultA, Int.toNat_natCast, retA, List.getElem?_toArray, List.getElem?_cons_zero, List.getElem?_cons_succ, Option.bind_some, AV.under, undersL, Bool.and_true, Bool.true_and, List.take_length, nilNil, constX, Bool.true_or, Bool.or_true, Bool.or_false, Bool.false_or, Bool.not_true, Bool.not_false, hl] <;> rfl
    refine Goes.cond true (by simp only [regionT, oneOp, wantedA, stepOp, putA, keep, evalX, evalL, evalParts, cstV, cst1, binA, intOp, strOp, unA, callA, builtinA, lenA, elems, minMaxA, mm2, indexA, sliceA, boundA, Tryd.underlying3, Tryd.underlying9, Tryd.underlying5, Tryd.underlying4, List.toList_toArray, List.getD_eq_getElem?_getD, List.getElem?_set, List.length_set, Option.getD_some, Option.map_some, Option.isSome_none, List.append_nil, List.nil_append, List.map_nil, List.map_cons, reduceIte, Nat.reduceEqDiff, Nat.reduceLT, Bool.false_eq_true, Nat.reduceAdd, if_true, if_false, beq_tf, beq_ft, sealV, sealR, tupleA, finishA, resultsA, resultA, Int.toNat_natCast, retA, List.getElem?_toArray, List.getElem?_cons_zero, List.getElem?_cons_succ, Option.bind_some, AV.under, undersL, Bool.and_true, Bool.true_and, List.take_length, nilNil, constX, Bool.true_or, Bool.or_true, Bool.or_false, Bool.false_or, Bool.not_true, Bool.not_false, hl]) ?_
    apply Goes.region 0
    · intro k hk
      simp (decide := true) only [regionT, oneOp, wantedA, stepOp, putA, keep, evalX, evalL, evalParts, cstV, cst1, binA, intOp, strOp, unA, callA, builtinA, lenA, elems, minMaxA, mm2, indexA, sliceA, boundA, Tryd.underlying3, Tryd.underlying9, Tryd.underlying5, Tryd.underlying4, List.toList_toArray, List.getD_eq_getElem?_getD, List.getElem?_set, List.length_set, Option.getD_some, Option.map_some, Option.isSome_none, List.append_nil, List.nil_append, List.map_nil, List.map_cons, reduceIte, Nat.reduceEqDiff, Nat.reduceLT, Bool.false_eq_true, Nat.reduceAdd, if_true, if_false, beq_tf, beq_ft, sealV, sealR, tupleA, finishA, resultsA, resultA, Int.toNat_natCast, retA, List.getElem?_toArray, List.getElem?_cons_zero, List.getElem?_cons_succ, Option.bind_some, AV.under, undersL, Bool.and_true, Bool.true_and, List.take_length, nilNil, constX, Bool.true_or, Bool.or_true, Bool.or_false, Bool.false_or, Bool.not_true, Bool.not_false, storeA, AV.cells, D.cells, settleL, settle, spliceL, AV.isCell, List.all_cons, List.all_nil, Bool.and_self, List.take_succ_cons, List.take_zero, List.drop_succ_cons, List.drop_nil, List.length_cons, List.length_nil, Nat.reduceLeDiff, and_self, nilCheckA, loadA, partA, size3, agg3, size9, agg9, List.cons_append, List.nil_append, List.set_cons_zero, Nat.zero_add, List.drop_zero, Nat.le_refl, rdr, hl, h0, fr] <;> rfl
    refine Goes.seq ?_
    apply Goes.region 0
    · intro k hk
      simp only [regionT, oneOp, wantedA, stepOp, putA, keep, evalX, evalL, evalParts, cstV, cst1, binA, intOp, strOp, unA, callA, builtinA, lenA, elems, minMaxA, mm2, indexA, sliceA, boundA, Tryd.underlying3, Tryd.underlying9, Tryd.underlying5, Tryd.underlying4, List.toList_toArray, List.getD_eq_getElem?_getD, List.getElem?_set, List.length_set, Option.getD_some, Option.map_some, Option.isSome_none, List.append_nil, List.nil_append, List.map_nil, List.map_cons, reduceIte, Nat.reduceEqDiff, Nat.reduceLT, Bool.false_eq_true, Nat.reduceAdd, if_true, if_false, beq_tf, beq_ft, sealV, sealR, tupleA, finishA, resultsA, resultA, Int.toNat_natCast, retA, List.getElem?_toArray, List.getElem?_cons_zero, List.getElem?_cons_succ, Option.bind_some, AV.under, undersL, Bool.and_true, Bool.true_and, List.take_length, nilNil, constX, Bool.true_or, Bool.or_true, Bool.or_false, Bool.false_or, Bool.not_true, Bool.not_false, hl] <;> rfl
    apply Goes.ret
    refine ⟨.inr rfl, ?_⟩
    simp only [regionT, oneOp, wantedA, stepOp, putA, keep, evalX, evalL, evalParts, cstV, cst1, binA, intOp, strOp, unA, callA, builtinA, lenA, elems, minMaxA, mm2, indexA, sliceA, boundA, Tryd.underlying3, Tryd.underlying9, Tryd.underlying5, Tryd.underlying4, List.toList_toArray, List.getD_eq_getElem?_getD, List.getElem?_set, List.length_set, Option.getD_some, Option.map_some, Option.isSome_none, List.append_nil, List.nil_append, List.map_nil, List.map_cons, reduceIte, Nat.reduceEqDiff, Nat.reduceLT, Bool.false_eq_true, Nat.reduceAdd, if_true, if_false, beq_tf, beq_ft, sealV, sealR, tupleA, finishA, resultsA, resultA, Int.toNat_natCast, retA, List.getElem?_toArray, List.getElem?_cons_zero, List.getElem?_cons_succ, Option.bind_some, AV.under, undersL, Bool.and_true, Bool.true_and, List.take_length, nilNil, constX, Bool.true_or, Bool.or_true, Bool.or_false, Bool.false_or, Bool.not_true, Bool.not_false, storeA, AV.cells, D.cells, settleL, settle, spliceL, AV.isCell, List.all_cons, List.all_nil, Bool.and_self, List.take_succ_cons, List.take_zero, List.drop_succ_cons, List.drop_nil, List.length_cons, List.length_nil, Nat.reduceLeDiff, and_self, nilCheckA, loadA, partA, size3, agg3, size9, agg9, List.cons_append, List.nil_append, List.set_cons_zero, Nat.zero_add, List.drop_zero, Nat.le_refl, hl, Tryd.results28, rdr, List.take_length] <;> rfl
  | false =>
    rw [hp] at hC
    simp only [Bool.false_eq_true, if_false] at hC ⊢
    apply Goes.region 0
    · intro k hk
      simp (decide := true) only [regionT, oneOp, wantedA, stepOp, putA, keep, evalX, evalL, evalParts, cstV, cst1, binA, intOp, strOp, unA, callA, builtinA, lenA, elems, minMaxA, mm2, indexA, sliceA, boundA, Tryd.underlying3, Tryd.underlying9, Tryd.underlying5, Tryd.underlying4, List.toList_toArray, List.getD_eq_getElem?_getD, List.getElem?_set, List.length_set, Option.getD_some, Option.map_some, Option.isSome_none, List.append_nil, List.nil_append, List.map_nil, List.map_cons, reduceIte, Nat.reduceEqDiff, Nat.reduceLT, Bool.false_eq_true, Nat.reduceAdd, if_true, if_false, beq_tf, beq_ft, sealV, sealR, tupleA, finishA, resultsA, resultA, Int.toNat_natCast, retA, List.getElem?_toArray, List.getElem?_cons_zero, List.getElem?_cons_succ, Option.bind_some, AV.under, undersL, Bool.and_true, Bool.true_and, List.take_length, nilNil, constX, Bool.true_or, Bool.or_true, Bool.or_false, Bool.false_or, Bool.not_true, Bool.not_false, storeA, AV.cells, D.cells, settleL, settle, spliceL, AV.isCell, List.all_cons, List.all_nil, Bool.and_self, List.take_succ_cons, List.take_zero, List.drop_succ_cons, List.drop_nil, List.length_cons, List.length_nil, Nat.reduceLeDiff, and_self, nilCheckA, loadA, partA, size3, agg3, size9, agg9, List.cons_append, List.nil_append, List.set_cons_zero, Nat.zero_add, List.drop_zero, Nat.le_refl, rdr, hl, h0, h1, fr, hC] <;> rfl
    refine Goes.seq (Goes.seq ?_)
    apply Goes.region 0
    · intro k hk
      simp only [regionT, oneOp, wantedA, stepOp, putA, keep, evalX, evalL, evalParts, cstV, cst1, binA, intOp, strOp, unA, callA, builtinA, lenA, elems, minMaxA, mm2, indexA, sliceA, boundA, Tryd.underlying3, Tryd.underlying9, Tryd.underlying5, Tryd.underlying4, List.toList_toArray, List.getD_eq_getElem?_getD, List.getElem?_set, List.length_set, Option.getD_some, Option.map_some, Option.isSome_none, List.append_nil, List.nil_append, List.map_nil, List.map_cons, reduceIte, Nat.reduceEqDiff, Nat.reduceLT, Bool.false_eq_true, Nat.reduceAdd, if_true, if_false, beq_tf, beq_ft, sealV, sealR, tupleA, finishA, resultsA, resultA, Int.toNat_natCast, retA, List.getElem?_toArray, List.getElem?_cons_zero, List.getElem?_cons_succ, Option.bind_some, AV.under, undersL, Bool.and_true, Bool.true_and, List.take_length, nilNil, constX, Bool.true_or, Bool.or_true, Bool.or_false, Bool.false_or, Bool.not_true, Bool.not_false, hl] <;> rfl
    refine Goes.cond false (by simp only [regionT, oneOp, wantedA, stepOp, putA, keep, evalX, evalL, evalParts, cstV, cst1, binA, intOp, strOp, unA, callA, builtinA, lenA, elems, minMaxA, mm2, indexA, sliceA, boundA, Tryd.underlying3, Tryd.underlying9, Tryd.underlying5, Tryd.underlying4, List.toList_toArray, List.getD_eq_getElem?_getD, List.getElem?_set, List.length_set, Option.getD_some, Option.map_some, Option.isSome_none, List.append_nil, List.nil_append, List.map_nil, List.map_cons, reduceIte, Nat.reduceEqDiff, Nat.reduceLT, Bool.false_eq_true, Nat.reduceAdd, if_true, if_false, beq_tf, beq_ft, sealV, sealR, tupleA, finishA, resultsA, resultA, Int.toNat_natCast, retA, List.getElem?_toArray, List.getElem?_cons_zero, List.getElem?_cons_succ, Option.bind_some, AV.under, undersL, Bool.and_true, Bool.true_and, List.take_length, nilNil, constX, Bool.true_or, Bool.or_true, Bool.or_false, Bool.false_or, Bool.not_true, Bool.not_false, hl]) (Goes.skip ?_)
    refine Goes.seq ?_
    apply Goes.region 0
    · intro k hk
      simp only [regionT, oneOp, wantedA, stepOp, putA, keep, evalX, evalL, evalParts, cstV, cst1, binA, intOp, strOp, unA, callA, builtinA, lenA, elems, minMaxA, mm2, indexA, sliceA, boundA, Tryd.underlying3, Tryd.underlying9, Tryd.underlying5, Tryd.underlying4, List.toList_toArray, List.getD_eq_getElem?_getD, List.getElem?_set, List.length_set, Option.getD_some, Option.map_some, Option.isSome_none, List.append_nil, List.nil_append, List.map_nil, List.map_cons, reduceIte, Nat.reduceEqDiff, Nat.reduceLT, Bool.false_eq_true, Nat.reduceAdd, if_true, if_false, beq_tf, beq_ft, sealV, sealR, tupleA, finishA, resultsA, resultA, Int.toNat_natCast, retA, List.getElem?_toArray, List.getElem?_cons_zero, List.getElem?_cons_succ, Option.bind_some, AV.under, undersL, Bool.and_true, Bool.true_and, List.take_length, nilNil, constX, Bool.true_or, Bool.or_true, Bool.or_false, Bool.false_or, Bool.not_true, Bool.not_false, hl] <;> rfl
    apply Goes.ret
    refine ⟨.inr rfl, ?_⟩
    simp only [regionT, oneOp, wantedA, stepOp, putA, keep, evalX, evalL, evalParts, cstV, cst1, binA, intOp, strOp, unA, callA, builtinA, lenA, elems, minMaxA, mm2, indexA, sliceA, boundA, Tryd.underlying3, Tryd.underlying9, Tryd.underlying5, Tryd.underlying4, List.toList_toArray, List.getD_eq_getElem?_getD, List.getElem?_set, List.length_set, Option.getD_some, Option.map_some, Option.isSome_none, List.append_nil, List.nil_append, List.map_nil, List.map_cons, reduceIte, Nat.reduceEqDiff, Nat.reduceLT, Bool.false_eq_true, Nat.reduceAdd, if_true, if_false, beq_tf, beq_ft, sealV, sealR, tupleA, finishA, resultsA, resultA, Int.toNat_natCast, retA, List.getElem?_toArray, List.getElem?_cons_zero, List.getElem?_cons_succ, Option.bind_some, AV.under, undersL, Bool.and_true, Bool.true_and, List.take_length, nilNil, constX, Bool.true_or, Bool.or_true, Bool.or_false, Bool.false_or, Bool.not_true, Bool.not_false, storeA, AV.cells, D.cells, settleL, settle, spliceL, AV.isCell, List.all_cons, List.all_nil, Bool.and_self, List.take_succ_cons, List.take_zero, List.drop_succ_cons, List.drop_nil, List.length_cons, List.length_nil, Nat.reduceLeDiff, and_self, nilCheckA, loadA, partA, size3, agg3, size9, agg9, List.cons_append, List.nil_append, List.set_cons_zero, Nat.zero_add, List.drop_zero, Nat.le_refl, hl, Tryd.results28, rdr, List.take_length] <;> rfl

end Go.Proofs.YtfdcjngclelnhaaDoor
