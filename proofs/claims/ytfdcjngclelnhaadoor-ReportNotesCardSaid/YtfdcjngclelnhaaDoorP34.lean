/- The law of how a note is told gives true. -/
import Derived.Test.YtfdcjngclelnhaaDoorP33
set_option linter.unusedSectionVars false
set_option linter.unusedSimpArgs false
set_option linter.unusedVariables false
set_option linter.unusedSimpArgs false
namespace Go.Proofs.YtfdcjngclelnhaaDoor
open Go Go.RowKit

def pNote : Prim := fun args h => match args with
  | [.dat (.str a), .dat (.str b), .dat (.agg [.int .i64 p, .int .i64 at_, .int .i64 e, .int .i64 w])] => if a.length ≤ 3000 ∧ b.length ≤ 3000 ∧ is64 e = true then some (.dat (.str (noteText a b ⟨p, at_, e, w⟩)), h) else none
  | _ => none

theorem pNote_ok {f : FuncId} (hc : ∀ (a b : List UInt8) (n : NoteV), a.length ≤ 3000 → b.length ≤ 3000 → is64 n.err = true → CallsTo Tryd.prog primN f [.dat (.str a), .dat (.str b), .dat n.d] [] (.dat (.str (noteText a b n))) []) : CallFOk Tryd.prog f pNote := by
  refine CallFOk.ofCall prog_ok primsN_ok fun args h v h' hs => ?_
  unfold pNote at hs
  split at hs
  · split at hs
    · cases hs
      rename_i hl
      obtain ⟨k0, h1⟩ := hc _ _ ⟨_, _, _, _⟩ hl.1 hl.2.1 hl.2.2
      exact ⟨rfl, rfl, rfl, k0, h1 k0 (Nat.le_refl _)⟩
    · cases hs
  · cases hs

def primY : FuncId → Option Prim := fun g => if g = 20 then some pNote else if g = 21 then some pNote else if g = 22 then some pWhy else if g = 23 then some pWhy else if g = 7 then some pAlive else none

theorem primsY_ok : PrimsOk Tryd.prog primY := by
  intro g p hp
  unfold primY at hp
  split at hp
  · rename_i e; subst e; cases hp; exact pNote_ok fun a b n ha hb h => note20 ha hb n h
  split at hp
  · rename_i e; subst e; cases hp; exact pNote_ok fun a b n ha hb h => note21 ha hb n h
  split at hp
  · rename_i e; subst e; cases hp; exact why22_ok
  split at hp
  · rename_i e; subst e; cases hp; exact why23_ok
  split at hp
  · rename_i e; subst e; cases hp; exact primsA_ok 7 _ rfl
  · cases hp

theorem notes_calls (a b : List UInt8) (n : NoteV) (h64 : is64 n.err = true) : CallsTo Tryd.prog primY 5 [.dat (.str a), .dat (.str b), .dat n.d] [] (.dat (.bool true)) [] := by
  have hA : ∀ k h, call Tryd.prog primY k 7 [] h = some (.dat (.bool true), h) := fun k h => rfl
  refine CallsTo.body Tryd.func5 rfl rfl (Nat.le_of_ble_eq_true rfl) fun ts hl hts => ?_
  rw [Tryd.ntmps5] at hl
  have h0 := hts 0 _ rfl
  have h1 := hts 1 _ rfl
  have h2 := hts 2 _ rfl
  have hsa : ∀ d, sealV (.dat d) = .dat d := fun _ => rfl
  rw [hsa] at h0 h1 h2
  simp only [NoteV.d] at h2
  clear hts
  refine Goes.mid (fun st => st.tmps.length = 37 ∧ st.heap = [boxN n] ∧ st.tmps[0]? = some (.dat (.str a)) ∧ st.tmps[1]? = some (.dat (.str b)) ∧ st.tmps[5]? = some (.ptr (some (0, 0)))) ?_ ?_
  · apply Goes.region 0
    · intro k _
      simp only [regionT, oneOp, wantedA, stepOp, putA, keep, evalX, evalL, evalParts, cstV, cst1, binA, intOp, strOp, unA, callA, builtinA, lenA, elems, minMaxA, mm2, indexA, sliceA, boundA, Tryd.underlying3, Tryd.underlying9, Tryd.underlying5, Tryd.underlying4, List.toList_toArray, List.getD_eq_getElem?_getD, List.getElem?_set, List.length_set, Option.getD_some, Option.map_some, Option.isSome_none, List.append_nil, List.nil_append, List.map_nil, List.map_cons, reduceIte, Nat.reduceEqDiff, Nat.reduceLT, Bool.false_eq_true, Nat.reduceAdd, if_true, if_false, beq_tf, beq_ft, sealV, sealR, tupleA, finishA, resultsA, resultA, Int.toNat_natCast, retA, List.getElem?_toArray, List.getElem?_cons_zero, List.getElem?_cons_succ, Option.bind_some, AV.under, undersL, Bool.and_true, Bool.true_and, List.take_length, nilNil, constX, Bool.true_or, Bool.or_true, Bool.or_false, Bool.false_or, Bool.not_true, Bool.not_false, storeA, AV.cells, D.cells, settleL, settle, spliceL, AV.isCell, List.all_cons, List.all_nil, Bool.and_self, List.take_succ_cons, List.take_zero, List.drop_succ_cons, List.drop_nil, List.length_cons, List.length_nil, Nat.reduceLeDiff, and_self, nilCheckA, loadA, partA, size3, agg3, size9, agg9, List.cons_append, List.nil_append, List.set_cons_zero, Nat.zero_add, List.drop_zero, Nat.le_refl, newVarA, allocObj, sealT, mkAgg, allDat, appendA, moreA, fitsD, D.flat, sized, List.map_append, List.isEmpty_cons, List.isEmpty_nil, List.singleton_append, List.concat_eq_append, List.set_cons_succ, Option.toList_some, List.getElem?_cons_succ, Option.map_some, Nat.reduceMul, Nat.reduceAdd, Nat.reducePow, List.length_singleton, List.all_cons, List.all_nil, Bool.and_true, Bool.and_self, hl, h0, h1, h2, List.map_cons, List.map_nil] <;> rfl
    refine ⟨rfl, ?_, rfl, ?_, ?_, ?_⟩
    · simp only [regionT, oneOp, wantedA, stepOp, putA, keep, evalX, evalL, evalParts, cstV, cst1, binA, intOp, strOp, unA, callA, builtinA, lenA, elems, minMaxA, mm2, indexA, sliceA, boundA, Tryd.underlying3, Tryd.underlying9, Tryd.underlying5, Tryd.underlying4, List.toList_toArray, List.getD_eq_getElem?_getD, List.getElem?_set, List.length_set, Option.getD_some, Option.map_some, Option.isSome_none, List.append_nil, List.nil_append, List.map_nil, List.map_cons, reduceIte, Nat.reduceEqDiff, Nat.reduceLT, Bool.false_eq_true, Nat.reduceAdd, if_true, if_false, beq_tf, beq_ft, sealV, sealR, tupleA, finishA, resultsA, resultA, Int.toNat_natCast, retA, List.getElem?_toArray, List.getElem?_cons_zero, List.getElem?_cons_succ, Option.bind_some, AV.under, undersL, Bool.and_true, Bool.true_and, List.take_length, nilNil, constX, Bool.true_or, Bool.or_true, Bool.or_false, Bool.false_or, Bool.not_true, Bool.not_false, hl]
    · simp only [regionT, oneOp, wantedA, stepOp, putA, keep, evalX, evalL, evalParts, cstV, cst1, binA, intOp, strOp, unA, callA, builtinA, lenA, elems, minMaxA, mm2, indexA, sliceA, boundA, Tryd.underlying3, Tryd.underlying9, Tryd.underlying5, Tryd.underlying4, List.toList_toArray, List.getD_eq_getElem?_getD, List.getElem?_set, List.length_set, Option.getD_some, Option.map_some, Option.isSome_none, List.append_nil, List.nil_append, List.map_nil, List.map_cons, reduceIte, Nat.reduceEqDiff, Nat.reduceLT, Bool.false_eq_true, Nat.reduceAdd, if_true, if_false, beq_tf, beq_ft, sealV, sealR, tupleA, finishA, resultsA, resultA, Int.toNat_natCast, retA, List.getElem?_toArray, List.getElem?_cons_zero, List.getElem?_cons_succ, Option.bind_some, AV.under, undersL, Bool.and_true, Bool.true_and, List.take_length, nilNil, constX, Bool.true_or, Bool.or_true, Bool.or_false, Bool.false_or, Bool.not_true, Bool.not_false, hl, h0]
    · simp only [regionT, oneOp, wantedA, stepOp, putA, keep, evalX, evalL, evalParts, cstV, cst1, binA, intOp, strOp, unA, callA, builtinA, lenA, elems, minMaxA, mm2, indexA, sliceA, boundA, Tryd.underlying3, Tryd.underlying9, Tryd.underlying5, Tryd.underlying4, List.toList_toArray, List.getD_eq_getElem?_getD, List.getElem?_set, List.length_set, Option.getD_some, Option.map_some, Option.isSome_none, List.append_nil, List.nil_append, List.map_nil, List.map_cons, reduceIte, Nat.reduceEqDiff, Nat.reduceLT, Bool.false_eq_true, Nat.reduceAdd, if_true, if_false, beq_tf, beq_ft, sealV, sealR, tupleA, finishA, resultsA, resultA, Int.toNat_natCast, retA, List.getElem?_toArray, List.getElem?_cons_zero, List.getElem?_cons_succ, Option.bind_some, AV.under, undersL, Bool.and_true, Bool.true_and, List.take_length, nilNil, constX, Bool.true_or, Bool.or_true, Bool.or_false, Bool.false_or, Bool.not_true, Bool.not_false, hl, h1]
    · simp only [regionT, oneOp, wantedA, stepOp, putA, keep, evalX, evalL, evalParts, cstV, cst1, binA, intOp, strOp, unA, callA, builtinA, lenA, elems, minMaxA, mm2, indexA, sliceA, boundA, Tryd.underlying3, Tryd.underlying9, Tryd.underlying5, Tryd.underlying4, List.toList_toArray, List.getD_eq_getElem?_getD, List.getElem?_set, List.length_set, Option.getD_some, Option.map_some, Option.isSome_none, List.append_nil, List.nil_append, List.map_nil, List.map_cons, reduceIte, Nat.reduceEqDiff, Nat.reduceLT, Bool.false_eq_true, Nat.reduceAdd, if_true, if_false, beq_tf, beq_ft, sealV, sealR, tupleA, finishA, resultsA, resultA, Int.toNat_natCast, retA, List.getElem?_toArray, List.getElem?_cons_zero, List.getElem?_cons_succ, Option.bind_some, AV.under, undersL, Bool.and_true, Bool.true_and, List.take_length, nilNil, constX, Bool.true_or, Bool.or_true, Bool.or_false, Bool.false_or, Bool.not_true, Bool.not_false, hl]
  clear hl h0 h1 h2 ts
  rintro ⟨ts, hh⟩ ⟨hl, hhe, h0, h1, h5⟩
  have hhe2 : hh = _ := hhe
  clear hhe
  subst hhe2
  refine Goes.seq (Goes.seq ?_)
  by_cases ha : (a.length : Int) > 3000
  · apply Goes.region 0
    · intro k _
      simp only [regionT, oneOp, wantedA, stepOp, putA, keep, evalX, evalL, evalParts, cstV, cst1, binA, intOp, strOp, unA, callA, builtinA, lenA, elems, minMaxA, mm2, indexA, sliceA, boundA, Tryd.underlying3, Tryd.underlying9, Tryd.underlying5, Tryd.underlying4, List.toList_toArray, List.getD_eq_getElem?_getD, List.getElem?_set, List.length_set, Option.getD_some, Option.map_some, Option.isSome_none, List.append_nil, List.nil_append, List.map_nil, List.map_cons, reduceIte, Nat.reduceEqDiff, Nat.reduceLT, Bool.false_eq_true, Nat.reduceAdd, if_true, if_false, beq_tf, beq_ft, sealV, sealR, tupleA, finishA, resultsA, resultA, Int.toNat_natCast, retA, List.getElem?_toArray, List.getElem?_cons_zero, List.getElem?_cons_succ, Option.bind_some, AV.under, undersL, Bool.and_true, Bool.true_and, List.take_length, nilNil, constX, Bool.true_or, Bool.or_true, Bool.or_false, Bool.false_or, Bool.not_true, Bool.not_false, hl, h0, h1, ha, decide_true] <;> rfl
    refine Goes.cond true (by simp only [regionT, oneOp, wantedA, stepOp, putA, keep, evalX, evalL, evalParts, cstV, cst1, binA, intOp, strOp, unA, callA, builtinA, lenA, elems, minMaxA, mm2, indexA, sliceA, boundA, Tryd.underlying3, Tryd.underlying9, Tryd.underlying5, Tryd.underlying4, List.toList_toArray, List.getD_eq_getElem?_getD, List.getElem?_set, List.length_set, Option.getD_some, Option.map_some, Option.isSome_none, List.append_nil, List.nil_append, List.map_nil, List.map_cons, reduceIte, Nat.reduceEqDiff, Nat.reduceLT, Bool.false_eq_true, Nat.reduceAdd, if_true, if_false, beq_tf, beq_ft, sealV, sealR, tupleA, finishA, resultsA, resultA, Int.toNat_natCast, retA, List.getElem?_toArray, List.getElem?_cons_zero, List.getElem?_cons_succ, Option.bind_some, AV.under, undersL, Bool.and_true, Bool.true_and, List.take_length, nilNil, constX, Bool.true_or, Bool.or_true, Bool.or_false, Bool.false_or, Bool.not_true, Bool.not_false, hl, ha, decide_true] <;> rfl) ?_
    refine Goes.seq ?_
    apply Goes.region 0
    · intro k _
      simp only [regionT, oneOp, wantedA, stepOp, putA, keep, evalX, evalL, evalParts, cstV, cst1, binA, intOp, strOp, unA, callA, builtinA, lenA, elems, minMaxA, mm2, indexA, sliceA, boundA, Tryd.underlying3, Tryd.underlying9, Tryd.underlying5, Tryd.underlying4, List.toList_toArray, List.getD_eq_getElem?_getD, List.getElem?_set, List.length_set, Option.getD_some, Option.map_some, Option.isSome_none, List.append_nil, List.nil_append, List.map_nil, List.map_cons, reduceIte, Nat.reduceEqDiff, Nat.reduceLT, Bool.false_eq_true, Nat.reduceAdd, if_true, if_false, beq_tf, beq_ft, sealV, sealR, tupleA, finishA, resultsA, resultA, Int.toNat_natCast, retA, List.getElem?_toArray, List.getElem?_cons_zero, List.getElem?_cons_succ, Option.bind_some, AV.under, undersL, Bool.and_true, Bool.true_and, List.take_length, nilNil, constX, Bool.true_or, Bool.or_true, Bool.or_false, Bool.false_or, Bool.not_true, Bool.not_false, hl, hA] <;> rfl
    apply Goes.ret
    refine ⟨.inr rfl, ?_⟩
    simp only [regionT, oneOp, wantedA, stepOp, putA, keep, evalX, evalL, evalParts, cstV, cst1, binA, intOp, strOp, unA, callA, builtinA, lenA, elems, minMaxA, mm2, indexA, sliceA, boundA, Tryd.underlying3, Tryd.underlying9, Tryd.underlying5, Tryd.underlying4, List.toList_toArray, List.getD_eq_getElem?_getD, List.getElem?_set, List.length_set, Option.getD_some, Option.map_some, Option.isSome_none, List.append_nil, List.nil_append, List.map_nil, List.map_cons, reduceIte, Nat.reduceEqDiff, Nat.reduceLT, Bool.false_eq_true, Nat.reduceAdd, if_true, if_false, beq_tf, beq_ft, sealV, sealR, tupleA, finishA, resultsA, resultA, Int.toNat_natCast, retA, List.getElem?_toArray, List.getElem?_cons_zero, List.getElem?_cons_succ, Option.bind_some, AV.under, undersL, Bool.and_true, Bool.true_and, List.take_length, nilNil, constX, Bool.true_or, Bool.or_true, Bool.or_false, Bool.false_or, Bool.not_true, Bool.not_false, hl, Tryd.results5, List.length_nil, List.take_zero] <;> rfl
  by_cases hb : (b.length : Int) > 3000
  · apply Goes.region 0
    · intro k _
      simp only [regionT, oneOp, wantedA, stepOp, putA, keep, evalX, evalL, evalParts, cstV, cst1, binA, intOp, strOp, unA, callA, builtinA, lenA, elems, minMaxA, mm2, indexA, sliceA, boundA, Tryd.underlying3, Tryd.underlying9, Tryd.underlying5, Tryd.underlying4, List.toList_toArray, List.getD_eq_getElem?_getD, List.getElem?_set, List.length_set, Option.getD_some, Option.map_some, Option.isSome_none, List.append_nil, List.nil_append, List.map_nil, List.map_cons, reduceIte, Nat.reduceEqDiff, Nat.reduceLT, Bool.false_eq_true, Nat.reduceAdd, if_true, if_false, beq_tf, beq_ft, sealV, sealR, tupleA, finishA, resultsA, resultA, Int.toNat_natCast, retA, List.getElem?_toArray, List.getElem?_cons_zero, List.getElem?_cons_succ, Option.bind_some, AV.under, undersL, Bool.and_true, Bool.true_and, List.take_length, nilNil, constX, Bool.true_or, Bool.or_true, Bool.or_false, Bool.false_or, Bool.not_true, Bool.not_false, hl, h0, h1, ha, hb, decide_true, decide_false] <;> rfl
    refine Goes.cond true (by simp only [regionT, oneOp, wantedA, stepOp, putA, keep, evalX, evalL, evalParts, cstV, cst1, binA, intOp, strOp, unA, callA, builtinA, lenA, elems, minMaxA, mm2, indexA, sliceA, boundA, Tryd.underlying3, Tryd.underlying9, Tryd.underlying5, Tryd.underlying4, List.toList_toArray, List.getD_eq_getElem?_getD, List.getElem?_set, List.length_set, Option.getD_some, Option.map_some, Option.isSome_none, List.append_nil, List.nil_append, List.map_nil, List.map_cons, reduceIte, Nat.reduceEqDiff, Nat.reduceLT, Bool.false_eq_true, Nat.reduceAdd, if_true, if_false, beq_tf, beq_ft, sealV, sealR, tupleA, finishA, resultsA, resultA, Int.toNat_natCast, retA, List.getElem?_toArray, List.getElem?_cons_zero, List.getElem?_cons_succ, Option.bind_some, AV.under, undersL, Bool.and_true, Bool.true_and, List.take_length, nilNil, constX, Bool.true_or, Bool.or_true, Bool.or_false, Bool.false_or, Bool.not_true, Bool.not_false, hl, ha, hb, decide_true, decide_false] <;> rfl) ?_
    refine Goes.seq ?_
    apply Goes.region 0
    · intro k _
      simp only [regionT, oneOp, wantedA, stepOp, putA, keep, evalX, evalL, evalParts, cstV, cst1, binA, intOp, strOp, unA, callA, builtinA, lenA, elems, minMaxA, mm2, indexA, sliceA, boundA, Tryd.underlying3, Tryd.underlying9, Tryd.underlying5, Tryd.underlying4, List.toList_toArray, List.getD_eq_getElem?_getD, List.getElem?_set, List.length_set, Option.getD_some, Option.map_some, Option.isSome_none, List.append_nil, List.nil_append, List.map_nil, List.map_cons, reduceIte, Nat.reduceEqDiff, Nat.reduceLT, Bool.false_eq_true, Nat.reduceAdd, if_true, if_false, beq_tf, beq_ft, sealV, sealR, tupleA, finishA, resultsA, resultA, Int.toNat_natCast, retA, List.getElem?_toArray, List.getElem?_cons_zero, List.getElem?_cons_succ, Option.bind_some, AV.under, undersL, Bool.and_true, Bool.true_and, List.take_length, nilNil, constX, Bool.true_or, Bool.or_true, Bool.or_false, Bool.false_or, Bool.not_true, Bool.not_false, hl, hA] <;> rfl
    apply Goes.ret
    refine ⟨.inr rfl, ?_⟩
    simp only [regionT, oneOp, wantedA, stepOp, putA, keep, evalX, evalL, evalParts, cstV, cst1, binA, intOp, strOp, unA, callA, builtinA, lenA, elems, minMaxA, mm2, indexA, sliceA, boundA, Tryd.underlying3, Tryd.underlying9, Tryd.underlying5, Tryd.underlying4, List.toList_toArray, List.getD_eq_getElem?_getD, List.getElem?_set, List.length_set, Option.getD_some, Option.map_some, Option.isSome_none, List.append_nil, List.nil_append, List.map_nil, List.map_cons, reduceIte, Nat.reduceEqDiff, Nat.reduceLT, Bool.false_eq_true, Nat.reduceAdd, if_true, if_false, beq_tf, beq_ft, sealV, sealR, tupleA, finishA, resultsA, resultA, Int.toNat_natCast, retA, List.getElem?_toArray, List.getElem?_cons_zero, List.getElem?_cons_succ, Option.bind_some, AV.under, undersL, Bool.and_true, Bool.true_and, List.take_length, nilNil, constX, Bool.true_or, Bool.or_true, Bool.or_false, Bool.false_or, Bool.not_true, Bool.not_false, hl, Tryd.results5, List.length_nil, List.take_zero] <;> rfl
  have hN : ∀ f, primY f = some pNote → ∀ k h, call Tryd.prog primY k f [.dat (.str a), .dat (.str b), .dat (.agg [.int .i64 n.part, .int .i64 n.place, .int .i64 n.err, .int .i64 n.why])] h = some (.dat (.str (noteText a b n)), h) := fun f hf k h => by
    simp only [call, enterA, hf]
    show (if a.length ≤ 3000 ∧ b.length ≤ 3000 ∧ is64 n.err = true then _ else _) = _
    rw [if_pos ⟨by omega, by omega, h64⟩]
  have hN1 := hN 20 rfl
  have hN2 := hN 21 rfl
  have hW : ∀ f, primY f = some pWhy → ∀ k h, call Tryd.prog primY k f [.dat (.int .i64 n.err)] h = some (.dat (.str (whyText n.err)), h) := fun f hf k h => by
    simp only [call, enterA, hf]
    show (if is64 n.err = true then _ else _) = _
    rw [if_pos h64]
  have hW1 := hW 22 rfl
  have hW2 := hW 23 rfl
  clear hN hW
  generalize noteText a b n = nt at *
  generalize whyText n.err = wt at *
  apply Goes.region 0
  · intro k _
    simp only [regionT, oneOp, wantedA, stepOp, putA, keep, evalX, evalL, evalParts, cstV, cst1, binA, intOp, strOp, unA, callA, builtinA, lenA, elems, minMaxA, mm2, indexA, sliceA, boundA, Tryd.underlying3, Tryd.underlying9, Tryd.underlying5, Tryd.underlying4, List.toList_toArray, List.getD_eq_getElem?_getD, List.getElem?_set, List.length_set, Option.getD_some, Option.map_some, Option.isSome_none, List.append_nil, List.nil_append, List.map_nil, List.map_cons, reduceIte, Nat.reduceEqDiff, Nat.reduceLT, Bool.false_eq_true, Nat.reduceAdd, if_true, if_false, beq_tf, beq_ft, sealV, sealR, tupleA, finishA, resultsA, resultA, Int.toNat_natCast, retA, List.getElem?_toArray, List.getElem?_cons_zero, List.getElem?_cons_succ, Option.bind_some, AV.under, undersL, Bool.and_true, Bool.true_and, List.take_length, nilNil, constX, Bool.true_or, Bool.or_true, Bool.or_false, Bool.false_or, Bool.not_true, Bool.not_false, hl, h0, h1, ha, hb, decide_false] <;> rfl
  refine Goes.cond false (by simp only [regionT, oneOp, wantedA, stepOp, putA, keep, evalX, evalL, evalParts, cstV, cst1, binA, intOp, strOp, unA, callA, builtinA, lenA, elems, minMaxA, mm2, indexA, sliceA, boundA, Tryd.underlying3, Tryd.underlying9, Tryd.underlying5, Tryd.underlying4, List.toList_toArray, List.getD_eq_getElem?_getD, List.getElem?_set, List.length_set, Option.getD_some, Option.map_some, Option.isSome_none, List.append_nil, List.nil_append, List.map_nil, List.map_cons, reduceIte, Nat.reduceEqDiff, Nat.reduceLT, Bool.false_eq_true, Nat.reduceAdd, if_true, if_false, beq_tf, beq_ft, sealV, sealR, tupleA, finishA, resultsA, resultA, Int.toNat_natCast, retA, List.getElem?_toArray, List.getElem?_cons_zero, List.getElem?_cons_succ, Option.bind_some, AV.under, undersL, Bool.and_true, Bool.true_and, List.take_length, nilNil, constX, Bool.true_or, Bool.or_true, Bool.or_false, Bool.false_or, Bool.not_true, Bool.not_false, hl, ha, hb, decide_false] <;> rfl) (Goes.skip ?_)
  refine Goes.seq ?_
  apply Goes.draw 0
  · intro k _
    simp (decide := true) only [regionT, oneOp, wantedA, stepOp, putA, keep, evalX, evalL, evalParts, cstV, cst1, binA, intOp, strOp, unA, callA, builtinA, lenA, elems, minMaxA, mm2, indexA, sliceA, boundA, Tryd.underlying3, Tryd.underlying9, Tryd.underlying5, Tryd.underlying4, List.toList_toArray, List.getD_eq_getElem?_getD, List.getElem?_set, List.length_set, Option.getD_some, Option.map_some, Option.isSome_none, List.append_nil, List.nil_append, List.map_nil, List.map_cons, reduceIte, Nat.reduceEqDiff, Nat.reduceLT, Bool.false_eq_true, Nat.reduceAdd, if_true, if_false, beq_tf, beq_ft, sealV, sealR, tupleA, finishA, resultsA, resultA, Int.toNat_natCast, retA, List.getElem?_toArray, List.getElem?_cons_zero, List.getElem?_cons_succ, Option.bind_some, AV.under, undersL, Bool.and_true, Bool.true_and, List.take_length, nilNil, constX, Bool.true_or, Bool.or_true, Bool.or_false, Bool.false_or, Bool.not_true, Bool.not_false, regionDraw, regionD, doneOp, footOf, footA, placeOf, nextAt, writesOf, makesBox, onlyReads, restrictA, holesA, setIds, countBoxes, AV.ids, idsL, List.length_cons, List.length_nil, List.length_replicate, List.replicate, List.headD_cons, List.tail_cons, Option.toList_none, List.nil_append, List.contains_nil, List.contains_cons, Bool.or_true, Bool.true_or, Bool.or_false, Bool.false_or, Option.isNone_some, Option.isNone_none, Bool.and_false, Bool.false_and, nilCheckA, loadA, partA, Nat.reduceBEq, beq_self_eq_true, List.drop_zero, Op.operands, Call.operands, Array.toList_append, reachA, Nat.reduceMul, List.length_map, Nat.zero_add, Nat.add_zero, List.getElem?_nil, List.set_cons_zero, and_self, and_true, true_and, List.cons_append, storeA, AV.cells, D.cells, settleL, settle, spliceL, AV.isCell, List.all_cons, List.all_nil, Bool.and_self, List.take_succ_cons, List.take_zero, List.drop_succ_cons, List.drop_nil, List.length_cons, List.length_nil, Nat.reduceLeDiff, and_self, nilCheckA, loadA, partA, size3, agg3, size9, agg9, List.cons_append, List.nil_append, List.set_cons_zero, Nat.zero_add, List.drop_zero, Nat.le_refl, mkAgg, allDat, boxN, fg2, hl, h0, h1, h5, hN1, hN2, hW1, hW2, hA, size28, agg28, size44, agg44, beq_self_eq_true] <;> rfl
  apply Goes.ret
  refine ⟨.inr rfl, ?_⟩
  simp only [regionT, oneOp, wantedA, stepOp, putA, keep, evalX, evalL, evalParts, cstV, cst1, binA, intOp, strOp, unA, callA, builtinA, lenA, elems, minMaxA, mm2, indexA, sliceA, boundA, Tryd.underlying3, Tryd.underlying9, Tryd.underlying5, Tryd.underlying4, List.toList_toArray, List.getD_eq_getElem?_getD, List.getElem?_set, List.length_set, Option.getD_some, Option.map_some, Option.isSome_none, List.append_nil, List.nil_append, List.map_nil, List.map_cons, reduceIte, Nat.reduceEqDiff, Nat.reduceLT, Bool.false_eq_true, Nat.reduceAdd, if_true, if_false, beq_tf, beq_ft, sealV, sealR, tupleA, finishA, resultsA, resultA, Int.toNat_natCast, retA, List.getElem?_toArray, List.getElem?_cons_zero, List.getElem?_cons_succ, Option.bind_some, AV.under, undersL, Bool.and_true, Bool.true_and, List.take_length, nilNil, constX, Bool.true_or, Bool.or_true, Bool.or_false, Bool.false_or, Bool.not_true, Bool.not_false, hl, Tryd.results5, List.length_nil, List.take_zero] <;> rfl

end Go.Proofs.YtfdcjngclelnhaaDoor
