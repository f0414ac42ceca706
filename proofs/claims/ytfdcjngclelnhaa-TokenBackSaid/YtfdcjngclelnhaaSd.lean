/- The law of the tokens with blanks between: its walk. -/
import Derived.Test.YtfdcjngclelnhaaSc
set_option linter.unusedSimpArgs false
namespace Go.Proofs.Ytfdcjngclelnhaa
open Go Go.RowKit

theorem passTo_bound (s : List UInt8) : ∀ (K at_ : Nat), at_ ≤ s.length → at_ ≤ passTo s K at_ ∧ passTo s K at_ ≤ s.length
  | 0, at_, h => ⟨Nat.le_refl _, h⟩
  | K + 1, at_, h => by
    have hsl := span_le blankB (s.drop at_)
    rw [List.length_drop] at hsl
    simp only [passTo]
    split
    · split
      · have hb := idxByte_bound 10 (s.drop (at_ + span blankB (s.drop at_))) 0
        rw [List.length_drop] at hb
        have := passTo_bound s K (at_ + span blankB (s.drop at_) + (idxByte 10 (s.drop (at_ + span blankB (s.drop at_))) 0).toNat) (by omega)
        omega
      · omega
    · omega

theorem textGo_len : ∀ (n : Nat) (l acc t rest : List UInt8), l.length ≤ n → textGo l acc = some (t, rest) → rest.length < l.length
  | 0, [], acc, t, rest, _, h => by simp [textGo] at h
  | n + 1, [], acc, t, rest, _, h => by simp [textGo] at h
  | n + 1, c :: r, acc, t, rest, hn, h => by
    rw [textGo_cons] at h
    simp only [List.length_cons] at hn ⊢
    split at h
    · cases h
    split at h
    · have := textGo_len n r _ t rest (by omega) h
      omega
    split at h
    · have := textGo_len n r.tail _ t rest (by rw [List.length_tail]; omega) h
      rw [List.length_tail] at this
      omega
    split at h
    · cases h
    · cases h
      omega

theorem span_pos {p : UInt8 → Bool} {c : UInt8} {r : List UInt8} (h : p c = true) : 1 ≤ span p (c :: r) := by
  unfold span
  rw [List.takeWhile_cons, if_pos h, List.length_cons]
  omega

theorem lexOne_bound {l : List UInt8} {k n : Int} {t : List UInt8} {m : Nat} (h : lexOne l = some (k, t, n, m)) : 1 ≤ m ∧ m ≤ l.length := by
  match l, h with
  | c :: r, h =>
    simp only [lexOne] at h
    split at h
    · rename_i hl
      unfold lexName at h
      split at h
      · cases h
      · cases h
        exact ⟨span_pos (by simp [nameB, hl]), span_le _ _⟩
    split at h
    · rename_i hd
      unfold lexNumber at h
      split at h
      · cases h
      · cases h
        exact ⟨span_pos hd, span_le _ _⟩
    split at h
    · unfold lexText at h
      split at h
      · rename_i t' rest heq
        cases h
        have := textGo_len _ _ _ _ _ (Nat.le_refl _) heq
        simp only [List.length_drop, List.length_cons] at this ⊢
        omega
      · cases h
    · unfold lexMark at h
      split at h
      · cases h
      · cases h
        have := markN_le (c :: r)
        omega

/-- all tokens -/
def scanTo (s : List UInt8) : Nat → Nat → List Tok → Option (List Tok)
  | 0, _, _ => none
  | K + 1, at_, toks =>
    if passTo s (s.length + 1) at_ = s.length then (if toks.length = 6000 then none else some (toks ++ [⟨0, [], 0, s.length⟩]))
    else match lexOne (s.drop (passTo s (s.length + 1) at_)) with
      | none => none
      | some (k, t, n, m) => if toks.length = 6000 then none else scanTo s K (passTo s (s.length + 1) at_ + m) (toks ++ [⟨k, t, n, passTo s (s.length + 1) at_⟩])

end Go.Proofs.Ytfdcjngclelnhaa

set_option linter.unusedSimpArgs false
namespace Go.Proofs.Ytfdcjngclelnhaa
open Go Go.RowKit

theorem build47_all : (fun (b : List UInt8) => buildA Try.prog 47 [(0, .dat (.str b))]) = fun b => some (.dat (.agg [.str b, .int .i64 0, .nils])) := by kernel_rfl
theorem build47 (b : List UInt8) : buildA Try.prog 47 [(0, .dat (.str b))] = some (.dat (.agg [.str b, .int .i64 0, .nils])) := congrFun build47_all b
theorem build0_all : (fun (c : Int) => buildA Try.prog 34 [(3, .dat (.int .i64 c))]) = fun c => some (.dat (.agg [.int .i64 0, .str [], .int .i64 0, .int .i64 c])) := by kernel_rfl
theorem build0 (c : Int) : buildA Try.prog 34 [(3, .dat (.int .i64 c))] = some (.dat (.agg [.int .i64 0, .str [], .int .i64 0, .int .i64 c])) := congrFun build0_all c

/-- what Scan gives -/
def Scanned (o : Option (List Tok)) (v : AV) (h' : Heap) : Prop :=
  h' = [] ∧ match o with
    | some toks => v = .tuple [.dat (.slice (toks.map Tok.d)), .dat (.int .i64 0), .dat (.int .i64 0)]
    | none => ∃ a r : Int, r ≠ 0 ∧ v = .tuple [.dat .nils, .dat (.int .i64 a), .dat (.int .i64 r)]

/-- the tokens of a text; none: an error is told -/
def lex (s : List UInt8) : Option (List Tok) := if s.length > 20000 then none else scanTo s (s.length + 1) 0 []

structure I13 (s : List UInt8) (o : Option (List Tok)) (n : Nat) (st : St) : Prop where
  len : st.tmps.length = 48
  h0 : st.tmps[0]? = some (.dat (.str s))
  h5 : st.tmps[5]? = some (.ptr (some (0, 0)))
  ex : ∃ (at_ v ver K : Nat) (toks : List Tok), st.heap = rd s at_ (lv v toks) ver ∧ at_ ≤ s.length ∧ toks.length ≤ 6000 ∧ n = s.length - at_ ∧ s.length - at_ < K ∧ scanTo s K at_ toks = o

theorem scan_calls (s : List UInt8) : ∃ v h', Scanned (lex s) v h' ∧ CallsTo Try.prog primT 13 [.dat (.str s)] [] v h' := by
  refine CallsTo.bodyE Try.func13 rfl rfl (Nat.le_of_ble_eq_true rfl) (Scanned (lex s)) fun ts hl hts => ?_
  rw [Try.ntmps13] at hl
  have h0 := hts 0 _ rfl
  clear hts
  refine Goes.seq ?_
  apply Goes.region 0
  · intro k _
    simp only [regionT, oneOp, wantedA, stepOp, putA, keep, evalX, evalL, evalParts, cstV, cst1, binA, intOp, strOp, unA, callA, builtinA, lenA, elems, minMaxA, mm2, indexA, sliceA, boundA, Try.underlying3, Try.underlying9, Try.underlying5, Try.underlying4, List.toList_toArray, List.getD_eq_getElem?_getD, List.getElem?_set, List.length_set, Option.getD_some, Option.map_some, Option.isSome_none, List.append_nil, List.nil_append, List.map_nil, List.map_cons, reduceIte, Nat.reduceEqDiff, Nat.reduceLT, Bool.false_eq_true, Nat.reduceAdd, if_true, if_false, beq_tf, beq_ft, sealV, sealR, tupleA, finishA, resultsA, resultA, Int.toNat_natCast, retA, List.getElem?_toArray, List.getElem?_cons_zero, List.getElem?_cons_succ, Option.bind_some, AV.under, undersL, Bool.and_true, Bool.true_and, List.take_length, hl, h0] <;> rfl
  refine Goes.seq (Goes.seq ?_)
  apply Goes.region 0
  · intro k _
    simp only [regionT, oneOp, wantedA, stepOp, putA, keep, evalX, evalL, evalParts, cstV, cst1, binA, intOp, strOp, unA, callA, builtinA, lenA, elems, minMaxA, mm2, indexA, sliceA, boundA, Try.underlying3, Try.underlying9, Try.underlying5, Try.underlying4, List.toList_toArray, List.getD_eq_getElem?_getD, List.getElem?_set, List.length_set, Option.getD_some, Option.map_some, Option.isSome_none, List.append_nil, List.nil_append, List.map_nil, List.map_cons, reduceIte, Nat.reduceEqDiff, Nat.reduceLT, Bool.false_eq_true, Nat.reduceAdd, if_true, if_false, beq_tf, beq_ft, sealV, sealR, tupleA, finishA, resultsA, resultA, Int.toNat_natCast, retA, List.getElem?_toArray, List.getElem?_cons_zero, List.getElem?_cons_succ, Option.bind_some, AV.under, undersL, Bool.and_true, Bool.true_and, List.take_length, hl, h0] <;> rfl
  by_cases hbig : (s.length : Int) > 20000
  · refine Goes.cond true (by simp only [regionT, oneOp, wantedA, stepOp, putA, keep, evalX, evalL, evalParts, cstV, cst1, binA, intOp, strOp, unA, callA, builtinA, lenA, elems, minMaxA, mm2, indexA, sliceA, boundA, Try.underlying3, Try.underlying9, Try.underlying5, Try.underlying4, List.toList_toArray, List.getD_eq_getElem?_getD, List.getElem?_set, List.length_set, Option.getD_some, Option.map_some, Option.isSome_none, List.append_nil, List.nil_append, List.map_nil, List.map_cons, reduceIte, Nat.reduceEqDiff, Nat.reduceLT, Bool.false_eq_true, Nat.reduceAdd, if_true, if_false, beq_tf, beq_ft, sealV, sealR, tupleA, finishA, resultsA, resultA, Int.toNat_natCast, retA, List.getElem?_toArray, List.getElem?_cons_zero, List.getElem?_cons_succ, Option.bind_some, AV.under, undersL, Bool.and_true, Bool.true_and, List.take_length, hl, hbig, decide_true]) ?_
    refine Goes.seq ?_
    apply Goes.region 0
    · intro k _
      simp only [regionT, oneOp, wantedA, stepOp, putA, keep, evalX, evalL, evalParts, cstV, cst1, binA, intOp, strOp, unA, callA, builtinA, lenA, elems, minMaxA, mm2, indexA, sliceA, boundA, Try.underlying3, Try.underlying9, Try.underlying5, Try.underlying4, List.toList_toArray, List.getD_eq_getElem?_getD, List.getElem?_set, List.length_set, Option.getD_some, Option.map_some, Option.isSome_none, List.append_nil, List.nil_append, List.map_nil, List.map_cons, reduceIte, Nat.reduceEqDiff, Nat.reduceLT, Bool.false_eq_true, Nat.reduceAdd, if_true, if_false, beq_tf, beq_ft, sealV, sealR, tupleA, finishA, resultsA, resultA, Int.toNat_natCast, retA, List.getElem?_toArray, List.getElem?_cons_zero, List.getElem?_cons_succ, Option.bind_some, AV.under, undersL, Bool.and_true, Bool.true_and, List.take_length, hl, h0] <;> rfl
    apply Goes.ret
    refine ⟨.inr rfl, .tuple [.dat .nils, .dat (.int .i64 0), .dat (.int .i64 8)], [], ?_, rfl, ?_⟩
    · simp only [regionT, oneOp, wantedA, stepOp, putA, keep, evalX, evalL, evalParts, cstV, cst1, binA, intOp, strOp, unA, callA, builtinA, lenA, elems, minMaxA, mm2, indexA, sliceA, boundA, Try.underlying3, Try.underlying9, Try.underlying5, Try.underlying4, List.toList_toArray, List.getD_eq_getElem?_getD, List.getElem?_set, List.length_set, Option.getD_some, Option.map_some, Option.isSome_none, List.append_nil, List.nil_append, List.map_nil, List.map_cons, reduceIte, Nat.reduceEqDiff, Nat.reduceLT, Bool.false_eq_true, Nat.reduceAdd, if_true, if_false, beq_tf, beq_ft, sealV, sealR, tupleA, finishA, resultsA, resultA, Int.toNat_natCast, retA, List.getElem?_toArray, List.getElem?_cons_zero, List.getElem?_cons_succ, Option.bind_some, AV.under, undersL, Bool.and_true, Bool.true_and, List.take_length, hl, Try.results13, List.take_nil, List.length_nil]
    · unfold lex; rw [if_pos (by omega)]; exact ⟨0, 8, by decide, rfl⟩
  refine Goes.cond false (by simp only [regionT, oneOp, wantedA, stepOp, putA, keep, evalX, evalL, evalParts, cstV, cst1, binA, intOp, strOp, unA, callA, builtinA, lenA, elems, minMaxA, mm2, indexA, sliceA, boundA, Try.underlying3, Try.underlying9, Try.underlying5, Try.underlying4, List.toList_toArray, List.getD_eq_getElem?_getD, List.getElem?_set, List.length_set, Option.getD_some, Option.map_some, Option.isSome_none, List.append_nil, List.nil_append, List.map_nil, List.map_cons, reduceIte, Nat.reduceEqDiff, Nat.reduceLT, Bool.false_eq_true, Nat.reduceAdd, if_true, if_false, beq_tf, beq_ft, sealV, sealR, tupleA, finishA, resultsA, resultA, Int.toNat_natCast, retA, List.getElem?_toArray, List.getElem?_cons_zero, List.getElem?_cons_succ, Option.bind_some, AV.under, undersL, Bool.and_true, Bool.true_and, List.take_length, hl, hbig, decide_false]) ?_
  apply Goes.skip
  have hs : s.length ≤ 20000 := by omega
  have hlex : lex s = scanTo s (s.length + 1) 0 [] := by unfold lex; rw [if_neg (by omega)]
  rw [hlex]
  refine Goes.seq ?_
  apply Goes.region 0
  · intro k _
    simp only [regionT, oneOp, wantedA, stepOp, putA, keep, evalX, evalL, evalParts, cstV, cst1, binA, intOp, strOp, unA, callA, builtinA, lenA, elems, minMaxA, mm2, indexA, sliceA, boundA, Try.underlying3, Try.underlying9, Try.underlying5, Try.underlying4, List.toList_toArray, List.getD_eq_getElem?_getD, List.getElem?_set, List.length_set, Option.getD_some, Option.map_some, Option.isSome_none, List.append_nil, List.nil_append, List.map_nil, List.map_cons, reduceIte, Nat.reduceEqDiff, Nat.reduceLT, Bool.false_eq_true, Nat.reduceAdd, if_true, if_false, beq_tf, beq_ft, sealV, sealR, tupleA, finishA, resultsA, resultA, Int.toNat_natCast, retA, List.getElem?_toArray, List.getElem?_cons_zero, List.getElem?_cons_succ, Option.bind_some, AV.under, undersL, Bool.and_true, Bool.true_and, List.take_length, storeA, AV.cells, D.cells, settleL, settle, spliceL, AV.isCell, List.all_cons, List.all_nil, Bool.and_self, List.take_succ_cons, List.take_zero, List.drop_succ_cons, List.drop_nil, List.length_cons, List.length_nil, Nat.reduceLeDiff, and_self, nilCheckA, loadA, partA, fa0, fa1, fa2, size3, agg3, size9, agg9, rd, rd2, List.cons_append, List.nil_append, List.set_cons_zero, Nat.zero_add, List.drop_zero, Nat.le_refl, newVarA, allocObj, sealT, mkAgg, allDat, appendA, moreA, fitsD, D.flat, sized, build34, Try.underlying29, Try.underlying34, info34, t34_size, t34_bytes, t34_zero, size34, agg34, fa34_3, List.map_append, List.isEmpty_cons, List.isEmpty_nil, List.singleton_append, List.concat_eq_append, List.set_cons_succ, Option.toList_some, List.getElem?_cons_succ, Option.map_some, Nat.reduceMul, Nat.reduceAdd, Nat.reducePow, List.length_singleton, List.all_cons, List.all_nil, Bool.and_true, Bool.and_self, hl, h0, build47, List.map_cons, List.map_nil] <;> rfl
  refine Goes.seq (Goes.block (Goes.loop (I13 s (scanTo s (s.length + 1) 0 [])) ?_ (s.length - 0) _ ⟨?_, ?_, ?_, 0, 0, 0, s.length + 1, [], rfl, by omega, by simp, rfl, by omega, rfl⟩))
  rotate_left
  · simp only [regionT, oneOp, wantedA, stepOp, putA, keep, evalX, evalL, evalParts, cstV, cst1, binA, intOp, strOp, unA, callA, builtinA, lenA, elems, minMaxA, mm2, indexA, sliceA, boundA, Try.underlying3, Try.underlying9, Try.underlying5, Try.underlying4, List.toList_toArray, List.getD_eq_getElem?_getD, List.getElem?_set, List.length_set, Option.getD_some, Option.map_some, Option.isSome_none, List.append_nil, List.nil_append, List.map_nil, List.map_cons, reduceIte, Nat.reduceEqDiff, Nat.reduceLT, Bool.false_eq_true, Nat.reduceAdd, if_true, if_false, beq_tf, beq_ft, sealV, sealR, tupleA, finishA, resultsA, resultA, Int.toNat_natCast, retA, List.getElem?_toArray, List.getElem?_cons_zero, List.getElem?_cons_succ, Option.bind_some, AV.under, undersL, Bool.and_true, Bool.true_and, List.take_length, hl]
  · simp only [regionT, oneOp, wantedA, stepOp, putA, keep, evalX, evalL, evalParts, cstV, cst1, binA, intOp, strOp, unA, callA, builtinA, lenA, elems, minMaxA, mm2, indexA, sliceA, boundA, Try.underlying3, Try.underlying9, Try.underlying5, Try.underlying4, List.toList_toArray, List.getD_eq_getElem?_getD, List.getElem?_set, List.length_set, Option.getD_some, Option.map_some, Option.isSome_none, List.append_nil, List.nil_append, List.map_nil, List.map_cons, reduceIte, Nat.reduceEqDiff, Nat.reduceLT, Bool.false_eq_true, Nat.reduceAdd, if_true, if_false, beq_tf, beq_ft, sealV, sealR, tupleA, finishA, resultsA, resultA, Int.toNat_natCast, retA, List.getElem?_toArray, List.getElem?_cons_zero, List.getElem?_cons_succ, Option.bind_some, AV.under, undersL, Bool.and_true, Bool.true_and, List.take_length, hl, h0]
  · simp only [regionT, oneOp, wantedA, stepOp, putA, keep, evalX, evalL, evalParts, cstV, cst1, binA, intOp, strOp, unA, callA, builtinA, lenA, elems, minMaxA, mm2, indexA, sliceA, boundA, Try.underlying3, Try.underlying9, Try.underlying5, Try.underlying4, List.toList_toArray, List.getD_eq_getElem?_getD, List.getElem?_set, List.length_set, Option.getD_some, Option.map_some, Option.isSome_none, List.append_nil, List.nil_append, List.map_nil, List.map_cons, reduceIte, Nat.reduceEqDiff, Nat.reduceLT, Bool.false_eq_true, Nat.reduceAdd, if_true, if_false, beq_tf, beq_ft, sealV, sealR, tupleA, finishA, resultsA, resultA, Int.toNat_natCast, retA, List.getElem?_toArray, List.getElem?_cons_zero, List.getElem?_cons_succ, Option.bind_some, AV.under, undersL, Bool.and_true, Bool.true_and, List.take_length, hl]
  clear hl h0 hlex ts
  generalize scanTo s (s.length + 1) 0 [] = o at *
  rintro n ⟨ts, hh⟩ ⟨hl, h0, h5, at_, v, ver, K, toks, hhe, hat, hn, rfl, hK, hto⟩
  have hhe2 : hh = _ := hhe
  clear hhe
  subst hhe2
  obtain ⟨K, rfl⟩ : ∃ k, K = k + 1 := ⟨K - 1, by omega⟩
  simp only [scanTo] at hto
  obtain ⟨pv, ph, ⟨rfl, ver1, rfl⟩, k1, hpass⟩ := pass_calls s (by omega) at_ hat (lv v toks) ver
  have hpb := passTo_bound s (s.length + 1) at_ hat
  generalize passTo s (s.length + 1) at_ = i at *
  simp only [rd] at hpass
  refine Goes.block (Goes.seq ?_)
  apply Goes.region k1
  · intro k hk
    simp only [regionT, oneOp, wantedA, stepOp, putA, keep, evalX, evalL, evalParts, cstV, cst1, binA, intOp, strOp, unA, callA, builtinA, lenA, elems, minMaxA, mm2, indexA, sliceA, boundA, Try.underlying3, Try.underlying9, Try.underlying5, Try.underlying4, List.toList_toArray, List.getD_eq_getElem?_getD, List.getElem?_set, List.length_set, Option.getD_some, Option.map_some, Option.isSome_none, List.append_nil, List.nil_append, List.map_nil, List.map_cons, reduceIte, Nat.reduceEqDiff, Nat.reduceLT, Bool.false_eq_true, Nat.reduceAdd, if_true, if_false, beq_tf, beq_ft, sealV, sealR, tupleA, finishA, resultsA, resultA, Int.toNat_natCast, retA, List.getElem?_toArray, List.getElem?_cons_zero, List.getElem?_cons_succ, Option.bind_some, AV.under, undersL, Bool.and_true, Bool.true_and, List.take_length, hl, h5, rd, hpass k hk] <;> rfl
  refine Goes.seq (Goes.seq ?_)
  apply Goes.region 0
  · intro k hk
    simp only [regionT, oneOp, wantedA, stepOp, putA, keep, evalX, evalL, evalParts, cstV, cst1, binA, intOp, strOp, unA, callA, builtinA, lenA, elems, minMaxA, mm2, indexA, sliceA, boundA, Try.underlying3, Try.underlying9, Try.underlying5, Try.underlying4, List.toList_toArray, List.getD_eq_getElem?_getD, List.getElem?_set, List.length_set, Option.getD_some, Option.map_some, Option.isSome_none, List.append_nil, List.nil_append, List.map_nil, List.map_cons, reduceIte, Nat.reduceEqDiff, Nat.reduceLT, Bool.false_eq_true, Nat.reduceAdd, if_true, if_false, beq_tf, beq_ft, sealV, sealR, tupleA, finishA, resultsA, resultA, Int.toNat_natCast, retA, List.getElem?_toArray, List.getElem?_cons_zero, List.getElem?_cons_succ, Option.bind_some, AV.under, undersL, Bool.and_true, Bool.true_and, List.take_length, storeA, AV.cells, D.cells, settleL, settle, spliceL, AV.isCell, List.all_cons, List.all_nil, Bool.and_self, List.take_succ_cons, List.take_zero, List.drop_succ_cons, List.drop_nil, List.length_cons, List.length_nil, Nat.reduceLeDiff, and_self, nilCheckA, loadA, partA, fa0, fa1, fa2, size3, agg3, size9, agg9, rd, rd2, List.cons_append, List.nil_append, List.set_cons_zero, Nat.zero_add, List.drop_zero, Nat.le_refl, hl, h0, h5] <;> rfl
  by_cases hi : i = s.length
  · have hi' : ((i : Int) == (s.length : Int)) = true := by rw [hi]; exact beq_self_eq_true _
    refine Goes.cond true (by simp only [regionT, oneOp, wantedA, stepOp, putA, keep, evalX, evalL, evalParts, cstV, cst1, binA, intOp, strOp, unA, callA, builtinA, lenA, elems, minMaxA, mm2, indexA, sliceA, boundA, Try.underlying3, Try.underlying9, Try.underlying5, Try.underlying4, List.toList_toArray, List.getD_eq_getElem?_getD, List.getElem?_set, List.length_set, Option.getD_some, Option.map_some, Option.isSome_none, List.append_nil, List.nil_append, List.map_nil, List.map_cons, reduceIte, Nat.reduceEqDiff, Nat.reduceLT, Bool.false_eq_true, Nat.reduceAdd, if_true, if_false, beq_tf, beq_ft, sealV, sealR, tupleA, finishA, resultsA, resultA, Int.toNat_natCast, retA, List.getElem?_toArray, List.getElem?_cons_zero, List.getElem?_cons_succ, Option.bind_some, AV.under, undersL, Bool.and_true, Bool.true_and, List.take_length, hl, hi']) ?_
    apply Goes.exit
    simp (decide := true) only [reduceIte]
    rw [if_pos hi] at hto
    subst hi
    rcases Nat.lt_or_ge toks.length 6000 with h6 | h6
    · rw [if_neg (by omega)] at hto
      subst hto
      have hput := put_ok s s.length v ver1 ⟨0, [], 0, s.length⟩ toks h6
      obtain ⟨k2, hput⟩ := hput
      simp only [rd, Tok.d] at hput
      refine Goes.seq (Goes.seq ?_)
      apply Goes.region k2
      · intro k hk
        simp only [regionT, oneOp, wantedA, stepOp, putA, keep, evalX, evalL, evalParts, cstV, cst1, binA, intOp, strOp, unA, callA, builtinA, lenA, elems, minMaxA, mm2, indexA, sliceA, boundA, Try.underlying3, Try.underlying9, Try.underlying5, Try.underlying4, List.toList_toArray, List.getD_eq_getElem?_getD, List.getElem?_set, List.length_set, Option.getD_some, Option.map_some, Option.isSome_none, List.append_nil, List.nil_append, List.map_nil, List.map_cons, reduceIte, Nat.reduceEqDiff, Nat.reduceLT, Bool.false_eq_true, Nat.reduceAdd, if_true, if_false, beq_tf, beq_ft, sealV, sealR, tupleA, finishA, resultsA, resultA, Int.toNat_natCast, retA, List.getElem?_toArray, List.getElem?_cons_zero, List.getElem?_cons_succ, Option.bind_some, AV.under, undersL, Bool.and_true, Bool.true_and, List.take_length, hl, h0, h5, build0, hput k hk] <;> rfl
      refine Goes.seq ?_
      apply Goes.region 0
      · intro k hk
        simp only [regionT, oneOp, wantedA, stepOp, putA, keep, evalX, evalL, evalParts, cstV, cst1, binA, intOp, strOp, unA, callA, builtinA, lenA, elems, minMaxA, mm2, indexA, sliceA, boundA, Try.underlying3, Try.underlying9, Try.underlying5, Try.underlying4, List.toList_toArray, List.getD_eq_getElem?_getD, List.getElem?_set, List.length_set, Option.getD_some, Option.map_some, Option.isSome_none, List.append_nil, List.nil_append, List.map_nil, List.map_cons, reduceIte, Nat.reduceEqDiff, Nat.reduceLT, Bool.false_eq_true, Nat.reduceAdd, if_true, if_false, beq_tf, beq_ft, sealV, sealR, tupleA, finishA, resultsA, resultA, Int.toNat_natCast, retA, List.getElem?_toArray, List.getElem?_cons_zero, List.getElem?_cons_succ, Option.bind_some, AV.under, undersL, Bool.and_true, Bool.true_and, List.take_length, hl] <;> rfl
      refine Goes.cond false (by simp only [regionT, oneOp, wantedA, stepOp, putA, keep, evalX, evalL, evalParts, cstV, cst1, binA, intOp, strOp, unA, callA, builtinA, lenA, elems, minMaxA, mm2, indexA, sliceA, boundA, Try.underlying3, Try.underlying9, Try.underlying5, Try.underlying4, List.toList_toArray, List.getD_eq_getElem?_getD, List.getElem?_set, List.length_set, Option.getD_some, Option.map_some, Option.isSome_none, List.append_nil, List.nil_append, List.map_nil, List.map_cons, reduceIte, Nat.reduceEqDiff, Nat.reduceLT, Bool.false_eq_true, Nat.reduceAdd, if_true, if_false, beq_tf, beq_ft, sealV, sealR, tupleA, finishA, resultsA, resultA, Int.toNat_natCast, retA, List.getElem?_toArray, List.getElem?_cons_zero, List.getElem?_cons_succ, Option.bind_some, AV.under, undersL, Bool.and_true, Bool.true_and, List.take_length, hl] <;> rfl) ?_
      apply Goes.skip
      refine Goes.seq ?_
      apply Goes.region 0
      · intro k hk
        simp only [regionT, oneOp, wantedA, stepOp, putA, keep, evalX, evalL, evalParts, cstV, cst1, binA, intOp, strOp, unA, callA, builtinA, lenA, elems, minMaxA, mm2, indexA, sliceA, boundA, Try.underlying3, Try.underlying9, Try.underlying5, Try.underlying4, List.toList_toArray, List.getD_eq_getElem?_getD, List.getElem?_set, List.length_set, Option.getD_some, Option.map_some, Option.isSome_none, List.append_nil, List.nil_append, List.map_nil, List.map_cons, reduceIte, Nat.reduceEqDiff, Nat.reduceLT, Bool.false_eq_true, Nat.reduceAdd, if_true, if_false, beq_tf, beq_ft, sealV, sealR, tupleA, finishA, resultsA, resultA, Int.toNat_natCast, retA, List.getElem?_toArray, List.getElem?_cons_zero, List.getElem?_cons_succ, Option.bind_some, AV.under, undersL, Bool.and_true, Bool.true_and, List.take_length, storeA, AV.cells, D.cells, settleL, settle, spliceL, AV.isCell, List.all_cons, List.all_nil, Bool.and_self, List.take_succ_cons, List.take_zero, List.drop_succ_cons, List.drop_nil, List.length_cons, List.length_nil, Nat.reduceLeDiff, and_self, nilCheckA, loadA, partA, fa0, fa1, fa2, size3, agg3, size9, agg9, rd, rd2, List.cons_append, List.nil_append, List.set_cons_zero, Nat.zero_add, List.drop_zero, Nat.le_refl, hl, h5, size29, agg29] <;> rfl
      apply Goes.ret
      refine ⟨.inr rfl, .tuple [.dat (.slice ((toks ++ [(⟨0, [], 0, s.length⟩ : Tok)]).map Tok.d)), .dat (.int .i64 0), .dat (.int .i64 0)], [], ?_, rfl, rfl⟩
      cases toks with
      | nil => simp only [regionT, oneOp, wantedA, stepOp, putA, keep, evalX, evalL, evalParts, cstV, cst1, binA, intOp, strOp, unA, callA, builtinA, lenA, elems, minMaxA, mm2, indexA, sliceA, boundA, Try.underlying3, Try.underlying9, Try.underlying5, Try.underlying4, List.toList_toArray, List.getD_eq_getElem?_getD, List.getElem?_set, List.length_set, Option.getD_some, Option.map_some, Option.isSome_none, List.append_nil, List.nil_append, List.map_nil, List.map_cons, reduceIte, Nat.reduceEqDiff, Nat.reduceLT, Bool.false_eq_true, Nat.reduceAdd, if_true, if_false, beq_tf, beq_ft, sealV, sealR, tupleA, finishA, resultsA, resultA, Int.toNat_natCast, retA, List.getElem?_toArray, List.getElem?_cons_zero, List.getElem?_cons_succ, Option.bind_some, AV.under, undersL, Bool.and_true, Bool.true_and, List.take_length, hl, Try.results13, lv, List.take_nil, List.length_nil, List.take_zero, List.map_cons, List.map_append, List.cons_append]
      | cons t0 r => simp only [regionT, oneOp, wantedA, stepOp, putA, keep, evalX, evalL, evalParts, cstV, cst1, binA, intOp, strOp, unA, callA, builtinA, lenA, elems, minMaxA, mm2, indexA, sliceA, boundA, Try.underlying3, Try.underlying9, Try.underlying5, Try.underlying4, List.toList_toArray, List.getD_eq_getElem?_getD, List.getElem?_set, List.length_set, Option.getD_some, Option.map_some, Option.isSome_none, List.append_nil, List.nil_append, List.map_nil, List.map_cons, reduceIte, Nat.reduceEqDiff, Nat.reduceLT, Bool.false_eq_true, Nat.reduceAdd, if_true, if_false, beq_tf, beq_ft, sealV, sealR, tupleA, finishA, resultsA, resultA, Int.toNat_natCast, retA, List.getElem?_toArray, List.getElem?_cons_zero, List.getElem?_cons_succ, Option.bind_some, AV.under, undersL, Bool.and_true, Bool.true_and, List.take_length, hl, Try.results13, lv, List.take_nil, List.length_nil, List.take_zero, List.map_cons, List.map_append, List.cons_append]
    · rw [if_pos (by omega)] at hto
      subst hto
      have hput := put_full s s.length v ver1 ⟨0, [], 0, s.length⟩ toks (by omega)
      obtain ⟨k2, hput⟩ := hput
      simp only [rd, Tok.d] at hput
      refine Goes.seq (Goes.seq ?_)
      apply Goes.region k2
      · intro k hk
        simp only [regionT, oneOp, wantedA, stepOp, putA, keep, evalX, evalL, evalParts, cstV, cst1, binA, intOp, strOp, unA, callA, builtinA, lenA, elems, minMaxA, mm2, indexA, sliceA, boundA, Try.underlying3, Try.underlying9, Try.underlying5, Try.underlying4, List.toList_toArray, List.getD_eq_getElem?_getD, List.getElem?_set, List.length_set, Option.getD_some, Option.map_some, Option.isSome_none, List.append_nil, List.nil_append, List.map_nil, List.map_cons, reduceIte, Nat.reduceEqDiff, Nat.reduceLT, Bool.false_eq_true, Nat.reduceAdd, if_true, if_false, beq_tf, beq_ft, sealV, sealR, tupleA, finishA, resultsA, resultA, Int.toNat_natCast, retA, List.getElem?_toArray, List.getElem?_cons_zero, List.getElem?_cons_succ, Option.bind_some, AV.under, undersL, Bool.and_true, Bool.true_and, List.take_length, hl, h0, h5, build0, hput k hk] <;> rfl
      refine Goes.seq ?_
      apply Goes.region 0
      · intro k hk
        simp only [regionT, oneOp, wantedA, stepOp, putA, keep, evalX, evalL, evalParts, cstV, cst1, binA, intOp, strOp, unA, callA, builtinA, lenA, elems, minMaxA, mm2, indexA, sliceA, boundA, Try.underlying3, Try.underlying9, Try.underlying5, Try.underlying4, List.toList_toArray, List.getD_eq_getElem?_getD, List.getElem?_set, List.length_set, Option.getD_some, Option.map_some, Option.isSome_none, List.append_nil, List.nil_append, List.map_nil, List.map_cons, reduceIte, Nat.reduceEqDiff, Nat.reduceLT, Bool.false_eq_true, Nat.reduceAdd, if_true, if_false, beq_tf, beq_ft, sealV, sealR, tupleA, finishA, resultsA, resultA, Int.toNat_natCast, retA, List.getElem?_toArray, List.getElem?_cons_zero, List.getElem?_cons_succ, Option.bind_some, AV.under, undersL, Bool.and_true, Bool.true_and, List.take_length, hl] <;> rfl
      refine Goes.cond true (by simp only [regionT, oneOp, wantedA, stepOp, putA, keep, evalX, evalL, evalParts, cstV, cst1, binA, intOp, strOp, unA, callA, builtinA, lenA, elems, minMaxA, mm2, indexA, sliceA, boundA, Try.underlying3, Try.underlying9, Try.underlying5, Try.underlying4, List.toList_toArray, List.getD_eq_getElem?_getD, List.getElem?_set, List.length_set, Option.getD_some, Option.map_some, Option.isSome_none, List.append_nil, List.nil_append, List.map_nil, List.map_cons, reduceIte, Nat.reduceEqDiff, Nat.reduceLT, Bool.false_eq_true, Nat.reduceAdd, if_true, if_false, beq_tf, beq_ft, sealV, sealR, tupleA, finishA, resultsA, resultA, Int.toNat_natCast, retA, List.getElem?_toArray, List.getElem?_cons_zero, List.getElem?_cons_succ, Option.bind_some, AV.under, undersL, Bool.and_true, Bool.true_and, List.take_length, hl] <;> rfl) ?_
      refine Goes.seq ?_
      apply Goes.draw 0
      · intro k hk
        simp (decide := true) only [regionT, oneOp, wantedA, stepOp, putA, keep, evalX, evalL, evalParts, cstV, cst1, binA, intOp, strOp, unA, callA, builtinA, lenA, elems, minMaxA, mm2, indexA, sliceA, boundA, Try.underlying3, Try.underlying9, Try.underlying5, Try.underlying4, List.toList_toArray, List.getD_eq_getElem?_getD, List.getElem?_set, List.length_set, Option.getD_some, Option.map_some, Option.isSome_none, List.append_nil, List.nil_append, List.map_nil, List.map_cons, reduceIte, Nat.reduceEqDiff, Nat.reduceLT, Bool.false_eq_true, Nat.reduceAdd, if_true, if_false, beq_tf, beq_ft, sealV, sealR, tupleA, finishA, resultsA, resultA, Int.toNat_natCast, retA, List.getElem?_toArray, List.getElem?_cons_zero, List.getElem?_cons_succ, Option.bind_some, AV.under, undersL, Bool.and_true, Bool.true_and, List.take_length, regionDraw, regionD, doneOp, footOf, footA, placeOf, nextAt, writesOf, makesBox, onlyReads, restrictA, holesA, setIds, countBoxes, AV.ids, idsL, List.length_append, List.length_cons, List.length_nil, List.length_replicate, List.replicate, List.headD_cons, List.tail_cons, Option.toList_none, List.nil_append, List.contains_nil, List.contains_cons, Bool.or_true, Bool.true_or, Bool.or_false, Bool.false_or, Option.isNone_some, Option.isNone_none, Bool.and_false, Bool.false_and, nilCheckA, loadA, partA, Nat.reduceBEq, beq_self_eq_true, List.drop_zero, Op.operands, Call.operands, Array.toList_append, reachA, Nat.reduceMul, List.length_map, Nat.zero_add, Nat.add_zero, List.getElem?_nil, List.set_cons_zero, and_self, and_true, true_and, List.cons_append, List.append_assoc, storeA, AV.cells, D.cells, settleL, settle, spliceL, AV.isCell, List.all_cons, List.all_nil, Bool.and_self, List.take_succ_cons, List.take_zero, List.drop_succ_cons, List.drop_nil, List.length_cons, List.length_nil, Nat.reduceLeDiff, and_self, nilCheckA, loadA, partA, fa0, fa1, fa2, size3, agg3, size9, agg9, rd, rd2, List.cons_append, List.nil_append, List.set_cons_zero, Nat.zero_add, List.drop_zero, Nat.le_refl, hl, h5] <;> rfl
      apply Goes.ret
      refine ⟨.inr rfl, .tuple [.dat .nils, .dat (.int .i64 s.length), .dat (.int .i64 8)], [], ?_, rfl, ?_⟩
      · simp only [regionT, oneOp, wantedA, stepOp, putA, keep, evalX, evalL, evalParts, cstV, cst1, binA, intOp, strOp, unA, callA, builtinA, lenA, elems, minMaxA, mm2, indexA, sliceA, boundA, Try.underlying3, Try.underlying9, Try.underlying5, Try.underlying4, List.toList_toArray, List.getD_eq_getElem?_getD, List.getElem?_set, List.length_set, Option.getD_some, Option.map_some, Option.isSome_none, List.append_nil, List.nil_append, List.map_nil, List.map_cons, reduceIte, Nat.reduceEqDiff, Nat.reduceLT, Bool.false_eq_true, Nat.reduceAdd, if_true, if_false, beq_tf, beq_ft, sealV, sealR, tupleA, finishA, resultsA, resultA, Int.toNat_natCast, retA, List.getElem?_toArray, List.getElem?_cons_zero, List.getElem?_cons_succ, Option.bind_some, AV.under, undersL, Bool.and_true, Bool.true_and, List.take_length, hl, Try.results13, List.take_nil, List.length_nil, List.take_zero]
      · exact ⟨s.length, 8, by decide, rfl⟩
  · have hi' : ((i : Int) == (s.length : Int)) = false := by rw [beq_eq_false_iff_ne]; omega
    refine Goes.cond false (by simp only [regionT, oneOp, wantedA, stepOp, putA, keep, evalX, evalL, evalParts, cstV, cst1, binA, intOp, strOp, unA, callA, builtinA, lenA, elems, minMaxA, mm2, indexA, sliceA, boundA, Try.underlying3, Try.underlying9, Try.underlying5, Try.underlying4, List.toList_toArray, List.getD_eq_getElem?_getD, List.getElem?_set, List.length_set, Option.getD_some, Option.map_some, Option.isSome_none, List.append_nil, List.nil_append, List.map_nil, List.map_cons, reduceIte, Nat.reduceEqDiff, Nat.reduceLT, Bool.false_eq_true, Nat.reduceAdd, if_true, if_false, beq_tf, beq_ft, sealV, sealR, tupleA, finishA, resultsA, resultA, Int.toNat_natCast, retA, List.getElem?_toArray, List.getElem?_cons_zero, List.getElem?_cons_succ, Option.bind_some, AV.under, undersL, Bool.and_true, Bool.true_and, List.take_length, hl, hi']) ?_
    apply Goes.skip
    rw [if_neg hi] at hto
    obtain ⟨r, h', hA, k2, hnext⟩ := next_calls s hs i (by omega) v ver1 toks hn
    obtain ⟨a, L, ver2, rfl⟩ := hA.rd
    obtain ⟨rr, rfl, hA'⟩ := hA
    simp only [rd] at hnext
    refine Goes.seq ?_
    apply Goes.region k2
    · intro k hk
      simp only [regionT, oneOp, wantedA, stepOp, putA, keep, evalX, evalL, evalParts, cstV, cst1, binA, intOp, strOp, unA, callA, builtinA, lenA, elems, minMaxA, mm2, indexA, sliceA, boundA, Try.underlying3, Try.underlying9, Try.underlying5, Try.underlying4, List.toList_toArray, List.getD_eq_getElem?_getD, List.getElem?_set, List.length_set, Option.getD_some, Option.map_some, Option.isSome_none, List.append_nil, List.nil_append, List.map_nil, List.map_cons, reduceIte, Nat.reduceEqDiff, Nat.reduceLT, Bool.false_eq_true, Nat.reduceAdd, if_true, if_false, beq_tf, beq_ft, sealV, sealR, tupleA, finishA, resultsA, resultA, Int.toNat_natCast, retA, List.getElem?_toArray, List.getElem?_cons_zero, List.getElem?_cons_succ, Option.bind_some, AV.under, undersL, Bool.and_true, Bool.true_and, List.take_length, hl, h5, hnext k hk] <;> rfl
    refine Goes.seq ?_
    apply Goes.region 0
    · intro k hk
      simp only [regionT, oneOp, wantedA, stepOp, putA, keep, evalX, evalL, evalParts, cstV, cst1, binA, intOp, strOp, unA, callA, builtinA, lenA, elems, minMaxA, mm2, indexA, sliceA, boundA, Try.underlying3, Try.underlying9, Try.underlying5, Try.underlying4, List.toList_toArray, List.getD_eq_getElem?_getD, List.getElem?_set, List.length_set, Option.getD_some, Option.map_some, Option.isSome_none, List.append_nil, List.nil_append, List.map_nil, List.map_cons, reduceIte, Nat.reduceEqDiff, Nat.reduceLT, Bool.false_eq_true, Nat.reduceAdd, if_true, if_false, beq_tf, beq_ft, sealV, sealR, tupleA, finishA, resultsA, resultA, Int.toNat_natCast, retA, List.getElem?_toArray, List.getElem?_cons_zero, List.getElem?_cons_succ, Option.bind_some, AV.under, undersL, Bool.and_true, Bool.true_and, List.take_length, hl] <;> rfl
    rcases hA' with ⟨hr0, hwhy, a', L', ver3, e⟩ | ⟨rfl, hlt, kd, t, nn, m, v2, ver3, hone, e⟩
    · have ho : o = none := by
        rcases hwhy with hnone | h6
        · rw [hnone] at hto; exact hto.symm
        · split at hto
          · exact hto.symm
          · rw [if_pos h6] at hto; exact hto.symm
      have hne : (rr != 0) = true := bne_iff_ne.2 hr0
      refine Goes.cond true (by simp only [regionT, oneOp, wantedA, stepOp, putA, keep, evalX, evalL, evalParts, cstV, cst1, binA, intOp, strOp, unA, callA, builtinA, lenA, elems, minMaxA, mm2, indexA, sliceA, boundA, Try.underlying3, Try.underlying9, Try.underlying5, Try.underlying4, List.toList_toArray, List.getD_eq_getElem?_getD, List.getElem?_set, List.length_set, Option.getD_some, Option.map_some, Option.isSome_none, List.append_nil, List.nil_append, List.map_nil, List.map_cons, reduceIte, Nat.reduceEqDiff, Nat.reduceLT, Bool.false_eq_true, Nat.reduceAdd, if_true, if_false, beq_tf, beq_ft, sealV, sealR, tupleA, finishA, resultsA, resultA, Int.toNat_natCast, retA, List.getElem?_toArray, List.getElem?_cons_zero, List.getElem?_cons_succ, Option.bind_some, AV.under, undersL, Bool.and_true, Bool.true_and, List.take_length, hl, hne]) ?_
      refine Goes.seq ?_
      apply Goes.draw 0
      · intro k hk
        simp (decide := true) only [regionT, oneOp, wantedA, stepOp, putA, keep, evalX, evalL, evalParts, cstV, cst1, binA, intOp, strOp, unA, callA, builtinA, lenA, elems, minMaxA, mm2, indexA, sliceA, boundA, Try.underlying3, Try.underlying9, Try.underlying5, Try.underlying4, List.toList_toArray, List.getD_eq_getElem?_getD, List.getElem?_set, List.length_set, Option.getD_some, Option.map_some, Option.isSome_none, List.append_nil, List.nil_append, List.map_nil, List.map_cons, reduceIte, Nat.reduceEqDiff, Nat.reduceLT, Bool.false_eq_true, Nat.reduceAdd, if_true, if_false, beq_tf, beq_ft, sealV, sealR, tupleA, finishA, resultsA, resultA, Int.toNat_natCast, retA, List.getElem?_toArray, List.getElem?_cons_zero, List.getElem?_cons_succ, Option.bind_some, AV.under, undersL, Bool.and_true, Bool.true_and, List.take_length, regionDraw, regionD, doneOp, footOf, footA, placeOf, nextAt, writesOf, makesBox, onlyReads, restrictA, holesA, setIds, countBoxes, AV.ids, idsL, List.length_append, List.length_cons, List.length_nil, List.length_replicate, List.replicate, List.headD_cons, List.tail_cons, Option.toList_none, List.nil_append, List.contains_nil, List.contains_cons, Bool.or_true, Bool.true_or, Bool.or_false, Bool.false_or, Option.isNone_some, Option.isNone_none, Bool.and_false, Bool.false_and, nilCheckA, loadA, partA, Nat.reduceBEq, beq_self_eq_true, List.drop_zero, Op.operands, Call.operands, Array.toList_append, reachA, Nat.reduceMul, List.length_map, Nat.zero_add, Nat.add_zero, List.getElem?_nil, List.set_cons_zero, and_self, and_true, true_and, List.cons_append, List.append_assoc, storeA, AV.cells, D.cells, settleL, settle, spliceL, AV.isCell, List.all_cons, List.all_nil, Bool.and_self, List.take_succ_cons, List.take_zero, List.drop_succ_cons, List.drop_nil, List.length_cons, List.length_nil, Nat.reduceLeDiff, and_self, nilCheckA, loadA, partA, fa0, fa1, fa2, size3, agg3, size9, agg9, rd, rd2, List.cons_append, List.nil_append, List.set_cons_zero, Nat.zero_add, List.drop_zero, Nat.le_refl, hl, h5] <;> rfl
      apply Goes.ret
      refine ⟨.inr rfl, .tuple [.dat .nils, .dat (.int .i64 a), .dat (.int .i64 rr)], [], ?_, rfl, ?_⟩
      · simp only [regionT, oneOp, wantedA, stepOp, putA, keep, evalX, evalL, evalParts, cstV, cst1, binA, intOp, strOp, unA, callA, builtinA, lenA, elems, minMaxA, mm2, indexA, sliceA, boundA, Try.underlying3, Try.underlying9, Try.underlying5, Try.underlying4, List.toList_toArray, List.getD_eq_getElem?_getD, List.getElem?_set, List.length_set, Option.getD_some, Option.map_some, Option.isSome_none, List.append_nil, List.nil_append, List.map_nil, List.map_cons, reduceIte, Nat.reduceEqDiff, Nat.reduceLT, Bool.false_eq_true, Nat.reduceAdd, if_true, if_false, beq_tf, beq_ft, sealV, sealR, tupleA, finishA, resultsA, resultA, Int.toNat_natCast, retA, List.getElem?_toArray, List.getElem?_cons_zero, List.getElem?_cons_succ, Option.bind_some, AV.under, undersL, Bool.and_true, Bool.true_and, List.take_length, hl, Try.results13, List.take_nil, List.length_nil, List.take_zero]
      · rw [ho]; exact ⟨a, rr, hr0, rfl⟩
    · refine Goes.cond false (by simp only [regionT, oneOp, wantedA, stepOp, putA, keep, evalX, evalL, evalParts, cstV, cst1, binA, intOp, strOp, unA, callA, builtinA, lenA, elems, minMaxA, mm2, indexA, sliceA, boundA, Try.underlying3, Try.underlying9, Try.underlying5, Try.underlying4, List.toList_toArray, List.getD_eq_getElem?_getD, List.getElem?_set, List.length_set, Option.getD_some, Option.map_some, Option.isSome_none, List.append_nil, List.nil_append, List.map_nil, List.map_cons, reduceIte, Nat.reduceEqDiff, Nat.reduceLT, Bool.false_eq_true, Nat.reduceAdd, if_true, if_false, beq_tf, beq_ft, sealV, sealR, tupleA, finishA, resultsA, resultA, Int.toNat_natCast, retA, List.getElem?_toArray, List.getElem?_cons_zero, List.getElem?_cons_succ, Option.bind_some, AV.under, undersL, Bool.and_true, Bool.true_and, List.take_length, hl] <;> rfl) ?_
      apply Goes.skip
      have hb := lexOne_bound hone
      rw [List.length_drop] at hb
      rw [hone] at hto
      simp only [if_neg (show ¬ toks.length = 6000 by omega)] at hto
      refine ⟨s.length - (i + m), by omega, ?_, ?_, ?_, i + m, v2, ver3, K, toks ++ [⟨kd, t, nn, i⟩], ?_, by omega, by simp only [List.length_append, List.length_singleton]; omega, rfl, by omega, hto⟩
      · simp only [regionT, oneOp, wantedA, stepOp, putA, keep, evalX, evalL, evalParts, cstV, cst1, binA, intOp, strOp, unA, callA, builtinA, lenA, elems, minMaxA, mm2, indexA, sliceA, boundA, Try.underlying3, Try.underlying9, Try.underlying5, Try.underlying4, List.toList_toArray, List.getD_eq_getElem?_getD, List.getElem?_set, List.length_set, Option.getD_some, Option.map_some, Option.isSome_none, List.append_nil, List.nil_append, List.map_nil, List.map_cons, reduceIte, Nat.reduceEqDiff, Nat.reduceLT, Bool.false_eq_true, Nat.reduceAdd, if_true, if_false, beq_tf, beq_ft, sealV, sealR, tupleA, finishA, resultsA, resultA, Int.toNat_natCast, retA, List.getElem?_toArray, List.getElem?_cons_zero, List.getElem?_cons_succ, Option.bind_some, AV.under, undersL, Bool.and_true, Bool.true_and, List.take_length, hl]
      · simp only [regionT, oneOp, wantedA, stepOp, putA, keep, evalX, evalL, evalParts, cstV, cst1, binA, intOp, strOp, unA, callA, builtinA, lenA, elems, minMaxA, mm2, indexA, sliceA, boundA, Try.underlying3, Try.underlying9, Try.underlying5, Try.underlying4, List.toList_toArray, List.getD_eq_getElem?_getD, List.getElem?_set, List.length_set, Option.getD_some, Option.map_some, Option.isSome_none, List.append_nil, List.nil_append, List.map_nil, List.map_cons, reduceIte, Nat.reduceEqDiff, Nat.reduceLT, Bool.false_eq_true, Nat.reduceAdd, if_true, if_false, beq_tf, beq_ft, sealV, sealR, tupleA, finishA, resultsA, resultA, Int.toNat_natCast, retA, List.getElem?_toArray, List.getElem?_cons_zero, List.getElem?_cons_succ, Option.bind_some, AV.under, undersL, Bool.and_true, Bool.true_and, List.take_length, hl, h0]
      · simp only [regionT, oneOp, wantedA, stepOp, putA, keep, evalX, evalL, evalParts, cstV, cst1, binA, intOp, strOp, unA, callA, builtinA, lenA, elems, minMaxA, mm2, indexA, sliceA, boundA, Try.underlying3, Try.underlying9, Try.underlying5, Try.underlying4, List.toList_toArray, List.getD_eq_getElem?_getD, List.getElem?_set, List.length_set, Option.getD_some, Option.map_some, Option.isSome_none, List.append_nil, List.nil_append, List.map_nil, List.map_cons, reduceIte, Nat.reduceEqDiff, Nat.reduceLT, Bool.false_eq_true, Nat.reduceAdd, if_true, if_false, beq_tf, beq_ft, sealV, sealR, tupleA, finishA, resultsA, resultA, Int.toNat_natCast, retA, List.getElem?_toArray, List.getElem?_cons_zero, List.getElem?_cons_succ, Option.bind_some, AV.under, undersL, Bool.and_true, Bool.true_and, List.take_length, hl, h5]
      · exact e
end Go.Proofs.Ytfdcjngclelnhaa

set_option linter.unusedSimpArgs false
namespace Go.Proofs.Ytfdcjngclelnhaa
open Go Go.RowKit

/-- a token that stands for itself, whatever stands behind the blank -/
structure Own1 (k : Int) (t : List UInt8) (n : Int) : Prop where
  one : ∀ r : List UInt8, lexOne (t ++ 32 :: r) = some (k, t, n, t.length)
  first : ∃ c t', t = c :: t' ∧ blankB c = false
  rem : ∀ r : List UInt8, [45, 45].isPrefixOf (t ++ 32 :: r) = false

theorem takeWhile_all (p : UInt8 → Bool) (c : UInt8) (hc : p c = false) (r : List UInt8) : ∀ t : List UInt8, (∀ x ∈ t, p x = true) → (t ++ c :: r).takeWhile p = t
  | [], _ => by rw [List.nil_append, List.takeWhile_cons, if_neg (by simp [hc])]
  | a :: t, h => by
    rw [List.cons_append, List.takeWhile_cons, if_pos (h a (by simp)), takeWhile_all p c hc r t fun x hx => h x (by simp [hx])]

theorem letter_plain : ∀ n : Nat, n < 256 → letterN n = true → blankB n.toUInt8 = false ∧ n.toUInt8 ≠ 45 := by decide +kernel
theorem digit_plain : ∀ n : Nat, n < 256 → digitN n = true → blankB n.toUInt8 = false ∧ n.toUInt8 ≠ 45 := by decide +kernel

theorem not_rem {c : UInt8} (h : c ≠ 45) (r : List UInt8) : [45, 45].isPrefixOf (c :: r) = false := by
  have : ((45 : UInt8) == c) = false := by rw [beq_eq_false_iff_ne]; exact fun e => h e.symm
  simp [List.isPrefixOf, this]

theorem own_name {c : UInt8} {r : List UInt8} (hc : letterB c = true) {k n : Int} {t : List UInt8} {m : Nat} (h : lexName (c :: r) = some (k, t, n, m)) : Own1 k t n := by
  unfold lexName at h
  split at h
  · cases h
  rename_i hsp
  cases h
  have hn : nameB c = true := by simp [nameB, hc]
  have ht : (c :: r).takeWhile nameB = c :: r.takeWhile nameB := by rw [List.takeWhile_cons, if_pos hn]
  have hall := mem_takeWhile nameB (c :: r)
  have hp := letter_plain c.toNat c.toNat_lt hc
  rw [byte_back] at hp
  refine ⟨fun q => ?_, ⟨c, r.takeWhile nameB, ht, hp.1⟩, fun q => ?_⟩
  · have hw := takeWhile_all nameB 32 (by decide) q _ hall
    have hs : span nameB ((c :: r).takeWhile nameB ++ 32 :: q) = ((c :: r).takeWhile nameB).length := by unfold span; rw [hw]
    have e : lexOne ((c :: r).takeWhile nameB ++ 32 :: q) = lexName ((c :: r).takeWhile nameB ++ 32 :: q) := by
      rw [ht, List.cons_append]
      simp only [lexOne, hc, if_true]
    rw [e]
    unfold lexName
    rw [hs, hw, if_neg (show ¬ ((c :: r).takeWhile nameB).length > 30 from hsp)]
  · rw [ht, List.cons_append]; exact not_rem hp.2 _

theorem own_number {c : UInt8} {r : List UInt8} (hl : letterB c = false) (hc : digitB c = true) {k n : Int} {t : List UInt8} {m : Nat} (h : lexNumber (c :: r) = some (k, t, n, m)) : Own1 k t n := by
  unfold lexNumber at h
  split at h
  · cases h
  rename_i hsp
  cases h
  have ht : (c :: r).takeWhile digitB = c :: r.takeWhile digitB := by rw [List.takeWhile_cons, if_pos hc]
  have hall := mem_takeWhile digitB (c :: r)
  have hp := digit_plain c.toNat c.toNat_lt hc
  rw [byte_back] at hp
  refine ⟨fun q => ?_, ⟨c, r.takeWhile digitB, ht, hp.1⟩, fun q => ?_⟩
  · have hw := takeWhile_all digitB 32 (by decide) q _ hall
    have hs : span digitB ((c :: r).takeWhile digitB ++ 32 :: q) = ((c :: r).takeWhile digitB).length := by unfold span; rw [hw]
    have e : lexOne ((c :: r).takeWhile digitB ++ 32 :: q) = lexNumber ((c :: r).takeWhile digitB ++ 32 :: q) := by
      rw [ht, List.cons_append]
      simp only [lexOne, hl, hc, if_true, Bool.false_eq_true, if_false]
    rw [e]
    unfold lexNumber
    rw [hs, hw, if_neg (show ¬ ((c :: r).takeWhile digitB).length > 18 from hsp)]
  · rw [ht, List.cons_append]; exact not_rem hp.2 _

end Go.Proofs.Ytfdcjngclelnhaa

set_option linter.unusedSimpArgs false
namespace Go.Proofs.Ytfdcjngclelnhaa
open Go Go.RowKit

theorem own_mark {c : UInt8} {r : List UInt8} (hl : letterB c = false) (hd : digitB c = false) (h39 : c ≠ 39) {k n : Int} {t : List UInt8} {m : Nat} (h : lexMark (c :: r) = some (k, t, n, m)) : Own1 k t n := by
  have base : ∀ q : List UInt8, lexOne (c :: q) = lexMark (c :: q) := fun q => by
    simp only [lexOne, hl, hd, if_neg h39, Bool.false_eq_true, if_false]
  have hb : markN (c :: r) ≠ 0 → blankB c = false := by
    intro hm
    cases hbc : blankB c with
    | false => rfl
    | true =>
      refine absurd ?_ hm
      simp only [blankB, Bool.or_eq_true, beq_iff_eq] at hbc
      rcases hbc with ((rfl | rfl) | rfl) | rfl <;> rfl
  unfold lexMark at h
  split at h
  · cases h
  rename_i hm
  cases h
  have hblank := hb hm
  -- a mark of one byte, or of two
  have one : (c :: r).take (markN (c :: r)) = [c] → markN (c :: r) = 1 → (∀ q : List UInt8, markN (c :: 32 :: q) = 1) → Own1 4 ((c :: r).take (markN (c :: r))) 0 := by
    intro e1 e2 hq
    rw [e1]
    refine ⟨fun q => ?_, ⟨c, [], rfl, hblank⟩, fun q => ?_⟩
    · show lexOne (c :: 32 :: q) = _
      rw [base]
      unfold lexMark
      rw [hq q]
      rfl
    · show [45, 45].isPrefixOf (c :: 32 :: q) = false
      simp [List.isPrefixOf]
  have two : ∀ d : UInt8, (c :: r).take (markN (c :: r)) = [c, d] → c ≠ 45 → (∀ q : List UInt8, markN (c :: d :: 32 :: q) = 2) → Own1 4 ((c :: r).take (markN (c :: r))) 0 := by
    intro d e1 h45 hq
    rw [e1]
    refine ⟨fun q => ?_, ⟨c, [d], rfl, hblank⟩, fun q => not_rem h45 _⟩
    show lexOne (c :: d :: 32 :: q) = _
    rw [base]
    unfold lexMark
    rw [hq q]
    rfl
  by_cases h124 : c = 124
  · subst h124
    have e : markN (124 :: r) = if [124, 124].isPrefixOf (124 :: r) then 2 else 0 := rfl
    by_cases hp : [124, 124].isPrefixOf (124 :: r) = true
    · rw [if_pos hp] at e
      match r, hp, e with
      | d :: r', hp, e =>
        have hd2 : 124 = d := by simpa [List.isPrefixOf] using hp
        subst hd2
        exact two 124 (by rw [e]; rfl) (by decide) fun q => rfl
    · rw [if_neg hp] at e
      exact absurd e hm
  by_cases h60 : c = 60
  · subst h60
    have e : markN (60 :: r) = if [60, 62].isPrefixOf (60 :: r) then 2 else if (60 :: r)[1]? = some 61 then 2 else 1 := rfl
    by_cases hp : [60, 62].isPrefixOf (60 :: r) = true
    · rw [if_pos hp] at e
      match r, hp, e with
      | d :: r', hp, e =>
        have hd2 : 62 = d := by simpa [List.isPrefixOf] using hp
        subst hd2
        exact two 62 (by rw [e]; rfl) (by decide) fun q => rfl
    · rw [if_neg hp] at e
      by_cases hq : (60 :: r)[1]? = some 61
      · rw [if_pos hq] at e
        match r, hq, e with
        | d :: r', hq, e =>
          have hd2 : d = 61 := by simpa using hq
          subst hd2
          exact two 61 (by rw [e]; rfl) (by decide) fun q => rfl
      · rw [if_neg hq] at e
        exact one (by rw [e]; rfl) e fun q => rfl
  by_cases h62 : c = 62
  · subst h62
    have e : markN (62 :: r) = if (62 :: r)[1]? = some 61 then 2 else 1 := rfl
    by_cases hq : (62 :: r)[1]? = some 61
    · rw [if_pos hq] at e
      match r, hq, e with
      | d :: r', hq, e =>
        have hd2 : d = 61 := by simpa using hq
        subst hd2
        exact two 61 (by rw [e]; rfl) (by decide) fun q => rfl
    · rw [if_neg hq] at e
      exact one (by rw [e]; rfl) e fun q => rfl
  have e : ∀ q : List UInt8, markN (c :: q) = if setB c then 1 else 0 := fun q => by
    simp only [markN, if_neg h124, if_neg h60, if_neg h62]
  cases hs : setB c with
  | false => rw [hs] at e; exact absurd (e r) hm
  | true =>
    rw [hs] at e
    exact one (by rw [e r]; rfl) (e r) fun q => e _

/-- what a token of a text says, stands for itself -/
theorem own_one {l : List UInt8} {k n : Int} {t : List UInt8} {m : Nat} (h : lexOne l = some (k, t, n, m)) : k = 3 ∨ Own1 k t n := by
  match l, h with
  | c :: r, h =>
    simp only [lexOne] at h
    split at h
    · rename_i hl; exact Or.inr (own_name hl h)
    rename_i hl
    have hl : letterB c = false := by simpa using hl
    split at h
    · rename_i hd; exact Or.inr (own_number hl hd h)
    rename_i hd
    have hd : digitB c = false := by simpa using hd
    split at h
    · left
      unfold lexText at h
      split at h
      · cases h; rfl
      · cases h
    · rename_i h39; exact Or.inr (own_mark hl hd h39 h)

end Go.Proofs.Ytfdcjngclelnhaa

set_option linter.unusedSimpArgs false
namespace Go.Proofs.Ytfdcjngclelnhaa
open Go Go.RowKit

/-- what a token says -/
def Tok.key (x : Tok) : Int × List UInt8 × Int := (x.kind, x.text, x.n)

/-- the tokens' texts, each with a blank behind -/
def body : List Tok → List UInt8
  | [] => []
  | x :: r => x.text ++ 32 :: body r

theorem body_append : ∀ a b : List Tok, body (a ++ b) = body a ++ body b
  | [], _ => rfl
  | x :: a, b => by simp only [List.cons_append, body, body_append a b, List.append_assoc]

theorem scan_parts (s : List UInt8) : ∀ (K at_ : Nat) (acc toks : List Tok), acc.length ≤ 6000 → scanTo s K at_ acc = some toks →
    ∃ rem, toks = acc ++ rem ++ [⟨0, [], 0, s.length⟩] ∧ acc.length + rem.length < 6000 ∧ ∀ x ∈ rem, ∃ l m, lexOne l = some (x.kind, x.text, x.n, m)
  | 0, _, _, _, _, h => by simp [scanTo] at h
  | K + 1, at_, acc, toks, ha, h => by
    simp only [scanTo] at h
    split at h
    · split at h
      · cases h
      · cases h
        exact ⟨[], by simp, by simp; omega, by simp⟩
    split at h
    · cases h
    rename_i k t n m hone
    split at h
    · cases h
    obtain ⟨rem, h1, h2, h3⟩ := scan_parts s K _ _ _ (by simp only [List.length_append, List.length_singleton]; omega) h
    refine ⟨⟨k, t, n, passTo s (s.length + 1) at_⟩ :: rem, by rw [h1]; simp, by simp only [List.length_append, List.length_singleton] at h2; simp only [List.length_cons]; omega, fun x hx => ?_⟩
    rcases List.mem_cons.1 hx with rfl | hx
    · exact ⟨_, _, hone⟩
    · exact h3 x hx

theorem span_pre (p : UInt8 → Bool) : ∀ (pre rest : List UInt8), (∀ x ∈ pre, p x = true) → (∀ c r, rest = c :: r → p c = false) → span p (pre ++ rest) = pre.length
  | [], rest, _, h => by
    cases rest with
    | nil => rfl
    | cons c r => unfold span; rw [List.nil_append, List.takeWhile_cons, if_neg (by simp [h c r rfl])]
  | a :: pre, rest, ha, h => by
    have := span_pre p pre rest (fun x hx => ha x (by simp [hx])) h
    unfold span at this ⊢
    rw [List.cons_append, List.takeWhile_cons, if_pos (ha a (by simp)), List.length_cons, this, List.length_cons]

theorem passTo_at (T : List UInt8) (K at_ : Nat) (pre rest : List UInt8) (h : T.drop at_ = pre ++ rest) (hp : ∀ x ∈ pre, blankB x = true) (hr : ∀ c r, rest = c :: r → blankB c = false) (hm : [45, 45].isPrefixOf rest = false) :
    passTo T (K + 1) at_ = at_ + pre.length := by
  have hs : span blankB (T.drop at_) = pre.length := by rw [h]; exact span_pre _ _ _ hp hr
  have hd : T.drop (at_ + pre.length) = rest := by rw [← List.drop_drop, h, List.drop_left]
  simp only [passTo, hs, hd, hm, Bool.false_eq_true, if_false]

theorem scan_back (T : List UInt8) : ∀ (rem : List Tok) (K at_ : Nat) (acc : List Tok) (pre : List UInt8), (∀ x ∈ rem, Own1 x.kind x.text x.n) → T.drop at_ = pre ++ (body rem ++ [32]) → (∀ x ∈ pre, blankB x = true) → at_ ≤ T.length → acc.length + rem.length < 6000 → T.length - at_ < K →
    ∃ rem' e, scanTo T K at_ acc = some (acc ++ rem' ++ [e]) ∧ rem'.map Tok.key = rem.map Tok.key ∧ e.key = (0, [], 0)
  | _, 0, _, _, _, _, _, _, _, _, hK => by omega
  | [], K + 1, at_, acc, pre, _, hd, hp, hat, hn, hK => by
    have hpass : passTo T (T.length + 1) at_ = at_ + (pre ++ [32]).length := passTo_at T _ at_ (pre ++ [32]) [] (by rw [hd]; simp [body]) (fun x hx => by
      rcases List.mem_append.1 hx with hx | hx
      · exact hp x hx
      · simp only [List.mem_singleton] at hx; subst hx; rfl) (by intro c r e; cases e) rfl
    have hlen := congrArg List.length hd
    simp only [List.length_drop, List.length_append, body, List.length_nil, List.length_singleton] at hlen hpass
    refine ⟨[], ⟨0, [], 0, T.length⟩, ?_, rfl, rfl⟩
    simp only [scanTo]
    simp only [List.length_nil] at hn
    rw [if_pos (by rw [hpass]; omega), if_neg (by omega)]
    simp
  | x :: rem, K + 1, at_, acc, pre, hown, hd, hp, hat, hn, hK => by
    have hx := hown x (by simp)
    obtain ⟨c, t', ht, hcb⟩ := hx.first
    have hbody : body (x :: rem) ++ [32] = x.text ++ 32 :: (body rem ++ [32]) := by simp [body]
    rw [hbody] at hd
    have hpass : passTo T (T.length + 1) at_ = at_ + pre.length := passTo_at T _ at_ pre _ hd hp (fun c2 r e => by rw [ht] at e; cases e; exact hcb) (hx.rem _)
    have hd2 : T.drop (at_ + pre.length) = x.text ++ 32 :: (body rem ++ [32]) := by rw [← List.drop_drop, hd, List.drop_left]
    have hlen := congrArg List.length hd2
    simp only [List.length_drop, List.length_append, List.length_cons] at hlen
    have hd3 : T.drop (at_ + pre.length + x.text.length) = [32] ++ (body rem ++ [32]) := by rw [← List.drop_drop, hd2, List.drop_left]; rfl
    simp only [List.length_cons] at hn
    have htl : 1 ≤ x.text.length := by rw [ht]; simp
    obtain ⟨rem', e, h1, h2, h3⟩ := scan_back T rem K (at_ + pre.length + x.text.length) (acc ++ [⟨x.kind, x.text, x.n, at_ + pre.length⟩]) [32] (fun y hy => hown y (by simp [hy])) hd3 (fun y hy => by simp only [List.mem_singleton] at hy; subst hy; rfl) (by omega) (by simp only [List.length_append, List.length_singleton]; omega) (by omega)
    refine ⟨⟨x.kind, x.text, x.n, at_ + pre.length⟩ :: rem', e, ?_, ?_, h3⟩
    · simp only [scanTo, hpass, hd2, hx.one]
      rw [if_neg (by omega), if_neg (by omega)]
      simp only [Int.natCast_add] at h1 ⊢
      rw [h1]
      simp
    · simp only [List.map_cons, h2]; rfl

/-- the law, over lists -/
theorem lex_back {s : List UInt8} {toks : List Tok} (h : lex s = some toks) (h3 : ∀ x ∈ toks, x.kind ≠ 3) (hl : (body toks).length ≤ 20000) : ∃ toks2, lex (body toks) = some toks2 ∧ toks2.map Tok.key = toks.map Tok.key := by
  unfold lex at h
  split at h
  · cases h
  obtain ⟨rem, h1, h2, hv⟩ := scan_parts s _ _ _ _ (by simp) h
  simp only [List.nil_append, List.length_nil, Nat.zero_add] at h1 h2
  have hb : body toks = body rem ++ [32] := by rw [h1, body_append]; rfl
  obtain ⟨rem', e, g1, g2, g3⟩ := scan_back (body toks) rem ((body toks).length + 1) 0 [] [] (fun x hx => by
    obtain ⟨l, m, ho⟩ := hv x hx
    rcases own_one ho with hk | hk
    · exact absurd hk (h3 x (by rw [h1]; simp [hx]))
    · exact hk) (by rw [List.drop_zero, hb]; rfl) (by simp) (Nat.zero_le _) (by simp only [List.length_nil]; omega) (by omega)
  refine ⟨rem' ++ [e], ?_, ?_⟩
  · unfold lex
    rw [if_neg (by omega), g1]
    rfl
  · rw [h1, List.map_append, List.map_append, g2]
    simp only [List.map_cons, List.map_nil, g3]
    rfl
end Go.Proofs.Ytfdcjngclelnhaa

set_option linter.unusedSimpArgs false
namespace Go.Proofs.Ytfdcjngclelnhaa
open Go Go.RowKit

noncomputable def scanV (s : List UInt8) : AV := Classical.choose (scan_calls s)

theorem scanV_spec (s : List UInt8) : Scanned (lex s) (scanV s) [] ∧ CallsTo Try.prog primT 13 [.dat (.str s)] [] (scanV s) [] := by
  obtain ⟨h', h1, h2⟩ := Classical.choose_spec (scan_calls s)
  have := h1.1
  subst this
  exact ⟨h1, h2⟩

theorem scanned_plain {o : Option (List Tok)} {v : AV} {h : Heap} (hs : Scanned o v h) : v.plain = true := by
  obtain ⟨_, hs⟩ := hs
  split at hs
  · subst hs; rfl
  · obtain ⟨a, r, _, rfl⟩ := hs; rfl

noncomputable def primScan : Prim := fun args h => match args with
  | [.dat (.str s)] => some (scanV s, h)
  | _ => none

def primAlive : Prim := fun args h => match args with
  | [] => some (.dat (.bool true), h)
  | _ => none

noncomputable def primS : FuncId → Option Prim := fun f => if f = 13 then some primScan else if f = 7 then some primAlive else primT f

theorem primsS_ok : PrimsOk Try.prog primS := by
  intro f p h
  unfold primS at h
  split at h
  · rename_i e; subst e; cases h
    refine CallFOk.ofCall prog_ok prims_ok fun args h v h' hs => ?_
    unfold primScan at hs
    split at hs
    · cases hs
      obtain ⟨h1, k0, h2⟩ := scanV_spec ‹_›
      exact ⟨rfl, rfl, scanned_plain h1, k0, h2 k0 (Nat.le_refl _)⟩
    · cases hs
  split at h
  · rename_i e; subst e; cases h
    refine CallFOk.ofCall prog_ok prims_ok fun args h v h' hs => ?_
    unfold primAlive at hs
    split at hs
    · cases hs
      obtain ⟨k0, h2⟩ := alive5_calls
      exact ⟨rfl, rfl, rfl, k0, h2 k0 (Nat.le_refl _)⟩
    · cases hs
  · exact prims_ok f p h

theorem scan_any (s : List UInt8) (h : Heap) : CallsTo Try.prog primS 13 [.dat (.str s)] h (scanV s) h := CallsTo.ofPrim (p := primScan) rfl rfl
theorem alive_any (h : Heap) : CallsTo Try.prog primS 7 [] h (.dat (.bool true)) h := CallsTo.ofPrim (p := primAlive) rfl rfl

end Go.Proofs.Ytfdcjngclelnhaa

set_option linter.unusedSimpArgs false
namespace Go.Proofs.Ytfdcjngclelnhaa
open Go Go.RowKit

theorem zero34 : zeroA Try.prog 34 = some (.dat (.agg [.int .i64 0, .str [], .int .i64 0, .int .i64 0])) := by kernel_rfl
theorem fe34_0_all : (fun (cs : List D) => fieldAddrA Try.prog 34 (.ep cs 0) 0) = fun cs => some (.ep cs 0) := by kernel_rfl
theorem fe34_1_all : (fun (cs : List D) => fieldAddrA Try.prog 34 (.ep cs 0) 1) = fun cs => some (.ep cs 1) := by kernel_rfl
theorem fe34_2_all : (fun (cs : List D) => fieldAddrA Try.prog 34 (.ep cs 0) 2) = fun cs => some (.ep cs 2) := by kernel_rfl
theorem fe34_0 (cs : List D) : fieldAddrA Try.prog 34 (.ep cs 0) 0 = some (.ep cs 0) := congrFun fe34_0_all cs
theorem fe34_1 (cs : List D) : fieldAddrA Try.prog 34 (.ep cs 0) 1 = some (.ep cs 1) := congrFun fe34_1_all cs
theorem fe34_2 (cs : List D) : fieldAddrA Try.prog 34 (.ep cs 0) 2 = some (.ep cs 2) := congrFun fe34_2_all cs
theorem fp34_0_all : (fun (i : Nat) => fieldAddrA Try.prog 34 (.ptr (some (i, 0))) 0) = fun i => some (.ptr (some (i, 0))) := by kernel_rfl
theorem fp34_1_all : (fun (i : Nat) => fieldAddrA Try.prog 34 (.ptr (some (i, 0))) 1) = fun i => some (.ptr (some (i, 1))) := by kernel_rfl
theorem fp34_0 (i : Nat) : fieldAddrA Try.prog 34 (.ptr (some (i, 0))) 0 = some (.ptr (some (i, 0))) := congrFun fp34_0_all i
theorem fp34_1 (i : Nat) : fieldAddrA Try.prog 34 (.ptr (some (i, 0))) 1 = some (.ptr (some (i, 1))) := congrFun fp34_1_all i
theorem size3' : sizeA Try.prog 3 = some 1 := by kernel_rfl
theorem agg3' : isAggA Try.prog 3 = some false := by kernel_rfl

theorem at_end {α : Type} (l : List α) (x : α) : (l ++ [x])[l.length]? = some x := by simp
theorem set_end {α : Type} (l : List α) (x y : α) : (l ++ [x]).set l.length y = l ++ [y] := by simp

/-- what the results are, as slices -/
def slv (o : Option (List Tok)) : AV := match o with
  | some l => .dat (.slice (l.map Tok.d))
  | none => .dat .nils

theorem slv_some (l : List Tok) : slv (some l) = .dat (.slice (l.map Tok.d)) := rfl
theorem slv_none : slv none = .dat .nils := rfl

theorem index_sl {l : List Tok} {i : Nat} {t : Tok} (h : l[i]? = some t) : indexAddrA Try.prog 29 (.dat (.slice (l.map Tok.d))) (.dat (.int .i64 i)) = some (.ep [.int .i64 t.kind, .str t.text, .int .i64 t.n, .int .i64 t.at_] 0) := by
  simp only [indexAddrA, if_neg (Int.not_lt.2 (Int.natCast_nonneg i)), Try.underlying29, size34, elems, Int.toNat_natCast, List.getElem?_map, h, Option.map_some, Tok.d, D.cells, List.length_cons, List.length_nil, Nat.zero_add, Nat.reduceAdd, if_true]

theorem load_tok (t : Tok) (h : Heap) : loadA Try.prog 34 (.ep [.int .i64 t.kind, .str t.text, .int .i64 t.n, .int .i64 t.at_] 0) h = some (.dat t.d) := by
  simp (decide := true) only [loadA, partA, agg34, size34, List.map_cons, List.map_nil, List.length_cons, List.length_nil, List.drop_zero, List.take_succ_cons, List.take_zero, mkAgg, allDat, Option.map_some, Tok.d, if_true]

theorem new_tok (h : Heap) : newVarA none h 34 (AV.cells (.dat (.agg [.int .i64 0, .str [], .int .i64 0, .int .i64 0]))) = some (.ptr (some (h.length, 0)), h ++ [some (.cells 34 [.dat (.int .i64 0), .dat (.str []), .dat (.int .i64 0), .dat (.int .i64 0)] 0)]) := by
  simp only [newVarA, allocObj, AV.cells, List.map_cons, List.map_nil, sealT, undersL, AV.under, Bool.and_true, if_true]

theorem store_tok (h : Heap) (t : Tok) : storeA Try.prog 34 (.ptr (some (h.length, 0))) (.dat t.d) (h ++ [some (.cells 34 [.dat (.int .i64 0), .dat (.str []), .dat (.int .i64 0), .dat (.int .i64 0)] 0)]) =
    some (h ++ [some (.cells 34 [.dat (.int .i64 t.kind), .dat (.str t.text), .dat (.int .i64 t.n), .dat (.int .i64 t.at_)] 4)]) := by
  simp (decide := true) only [storeA, size34, at_end, Tok.d, AV.cells, List.map_cons, List.map_nil, List.length_cons, List.length_nil, List.all_cons, List.all_nil, AV.isCell, Bool.and_self, settleL, settle, undersL, AV.under, if_true, set_end, spliceL, List.take_zero, List.nil_append, List.drop_succ_cons, List.drop_nil, List.append_nil, List.drop_zero, Nat.zero_add]

theorem load_end3 (h : Heap) (t : Tok) : loadA Try.prog 3 (.ptr (some (h.length, 0))) (h ++ [some (.cells 34 [.dat (.int .i64 t.kind), .dat (.str t.text), .dat (.int .i64 t.n), .dat (.int .i64 t.at_)] 4)]) = some (.dat (.int .i64 t.kind)) := by
  simp only [loadA, at_end, partA, agg3', size3', List.getElem?_cons_zero]

theorem load_end9 (h : Heap) (t : Tok) : loadA Try.prog 9 (.ptr (some (h.length, 1))) (h ++ [some (.cells 34 [.dat (.int .i64 t.kind), .dat (.str t.text), .dat (.int .i64 t.n), .dat (.int .i64 t.at_)] 4)]) = some (.dat (.str t.text)) := by
  simp only [loadA, at_end, partA, agg9, size9, List.getElem?_cons_zero, List.getElem?_cons_succ]

theorem load_ep3 (t : Tok) (h : Heap) : loadA Try.prog 3 (.ep [.int .i64 t.kind, .str t.text, .int .i64 t.n, .int .i64 t.at_] 0) h = some (.dat (.int .i64 t.kind)) := by
  simp only [loadA, partA, agg3', size3', List.map_cons, List.map_nil, List.getElem?_cons_zero]
theorem load_ep9 (t : Tok) (h : Heap) : loadA Try.prog 9 (.ep [.int .i64 t.kind, .str t.text, .int .i64 t.n, .int .i64 t.at_] 1) h = some (.dat (.str t.text)) := by
  simp only [loadA, partA, agg9, size9, List.map_cons, List.map_nil, List.getElem?_cons_zero, List.getElem?_cons_succ]
theorem load_epn (t : Tok) (h : Heap) : loadA Try.prog 3 (.ep [.int .i64 t.kind, .str t.text, .int .i64 t.n, .int .i64 t.at_] 2) h = some (.dat (.int .i64 t.n)) := by
  simp only [loadA, partA, agg3', size3', List.map_cons, List.map_nil, List.getElem?_cons_zero, List.getElem?_cons_succ]

theorem scanV_eq (s : List UInt8) : ∃ a r : Int, (r = 0 ↔ (lex s).isSome) ∧ scanV s = .tuple [slv (lex s), .dat (.int .i64 a), .dat (.int .i64 r)] := by
  obtain ⟨⟨_, hs⟩, _⟩ := scanV_spec s
  split at hs
  · rename_i toks h; rw [h]; exact ⟨0, 0, by simp, hs⟩
  · rename_i h; obtain ⟨a, r, hr, hs⟩ := hs; rw [h]; exact ⟨a, r, by simp [hr], hs⟩

theorem body_take_succ {l : List Tok} {i : Nat} {t : Tok} (h : l[i]? = some t) : body (l.take (i + 1)) = body (l.take i) ++ t.text ++ [32] := by
  rw [List.take_add_one, h, body_append]; simp [body]

structure IA (l : List Tok) (n : Nat) (st : St) : Prop where
  len : st.tmps.length = 106
  h3 : st.tmps[3]? = some (.dat (.slice (l.map Tok.d)))
  h5 : st.tmps[5]? = some (.dat (.int .i64 0))
  h23 : st.tmps[23]? = some (.dat (.slice (l.map Tok.d)))
  h24 : st.tmps[24]? = some (.dat (.int .i64 l.length))
  ex : ∃ i : Nat, i ≤ l.length ∧ n = l.length - i ∧ st.tmps[25]? = some (.dat (.int .i64 i)) ∧ st.tmps[6]? = some (.dat (.str (body (l.take i)))) ∧ ∀ j t, j < i → l[j]? = some t → t.kind ≠ 3

structure IB (l l' : List Tok) (n : Nat) (st : St) : Prop where
  len : st.tmps.length = 106
  h3 : st.tmps[3]? = some (.dat (.slice (l.map Tok.d)))
  h9 : st.tmps[9]? = some (.dat (.slice (l'.map Tok.d)))
  h62 : st.tmps[62]? = some (.dat (.slice (l.map Tok.d)))
  h63 : st.tmps[63]? = some (.dat (.int .i64 l.length))
  ex : ∃ i : Nat, i ≤ l.length ∧ n = l.length - i ∧ st.tmps[64]? = some (.dat (.int .i64 i))

end Go.Proofs.Ytfdcjngclelnhaa

set_option linter.unusedSimpArgs false
namespace Go.Proofs.Ytfdcjngclelnhaa
open Go Go.RowKit

theorem holes_restrict (F : List Nat) : ∀ (h : Heap) (i : Nat), holesA F i (restrictA F i h) = true
  | [], _ => rfl
  | o :: r, i => by
    simp only [restrictA, holesA, holes_restrict F r (i + 1), Bool.and_true]
    cases F.contains i <;> simp

theorem length_restrict (F : List Nat) : ∀ (h : Heap) (i : Nat), (restrictA F i h).length = h.length
  | [], _ => rfl
  | o :: r, i => by simp only [restrictA, List.length_cons, length_restrict F r (i + 1)]

theorem span_take (p : UInt8 → Bool) (l : List UInt8) : (l.takeWhile p).length = span p l := rfl

theorem lexOne_short {l : List UInt8} {k n : Int} {t : List UInt8} {m : Nat} (h : lexOne l = some (k, t, n, m)) (hk : k ≠ 3) : t.length ≤ 30 := by
  match l, h with
  | c :: r, h =>
    simp only [lexOne] at h
    split at h
    · unfold lexName at h
      split at h
      · cases h
      · rename_i hs; cases h; have := span_take nameB (c :: r); omega
    split at h
    · unfold lexNumber at h
      split at h
      · cases h
      · rename_i hs; cases h; have := span_take digitB (c :: r); omega
    split at h
    · unfold lexText at h
      split at h
      · cases h; exact absurd rfl hk
      · cases h
    · unfold lexMark at h
      split at h
      · cases h
      · cases h
        have : markN (c :: r) ≤ 2 := by
          unfold markN
          repeat' split
          all_goals omega
        rw [List.length_take]; omega

theorem toks_short {s : List UInt8} {toks : List Tok} (h : lex s = some toks) : toks.length ≤ 6000 ∧ ∀ x ∈ toks, x.kind ≠ 3 → x.text.length ≤ 30 := by
  unfold lex at h
  split at h
  · cases h
  obtain ⟨rem, h1, h2, hv⟩ := scan_parts s _ _ _ _ (by simp) h
  simp only [List.nil_append, List.length_nil, Nat.zero_add] at h1 h2
  subst h1
  refine ⟨by simp; omega, fun x hx hk => ?_⟩
  rcases List.mem_append.1 hx with hx | hx
  · obtain ⟨l, m, ho⟩ := hv x hx
    exact lexOne_short ho hk
  · simp only [List.mem_singleton] at hx; subst hx; simp

theorem body_short : ∀ (l : List Tok), (∀ x ∈ l, x.text.length ≤ 30) → (body l).length ≤ 31 * l.length
  | [], _ => by simp [body]
  | x :: l, h => by
    have h1 := h x (by simp)
    have h2 := body_short l fun y hy => h y (by simp [hy])
    simp only [body, List.length_append, List.length_cons]; omega

set_option maxRecDepth 100000 in
theorem back_calls (s : List UInt8) : ∃ h', CallsTo Try.prog primS 4 [.dat (.str s)] [] (.dat (.bool true)) h' := by
  suffices h : ∃ v h', (v = .dat (.bool true)) ∧ CallsTo Try.prog primS 4 [.dat (.str s)] [] v h' by
    obtain ⟨v, h', rfl, h⟩ := h
    exact ⟨h', h⟩
  refine CallsTo.bodyE Try.func4 rfl rfl (Nat.le_of_ble_eq_true rfl) (fun v _ => v = .dat (.bool true)) fun ts hl hts => ?_
  rw [Try.ntmps4] at hl
  have h0 := hts 0 _ rfl
  clear hts
  refine Goes.seq ?_
  apply Goes.region 0
  · intro k _
    simp only [regionT, oneOp, wantedA, stepOp, putA, keep, evalX, evalL, evalParts, cstV, cst1, binA, intOp, strOp, unA, callA, builtinA, lenA, elems, minMaxA, mm2, indexA, sliceA, boundA, Try.underlying3, Try.underlying9, Try.underlying5, Try.underlying4, List.toList_toArray, List.getD_eq_getElem?_getD, List.getElem?_set, List.length_set, Option.getD_some, Option.map_some, Option.isSome_none, List.append_nil, List.nil_append, List.map_nil, List.map_cons, reduceIte, Nat.reduceEqDiff, Nat.reduceLT, Bool.false_eq_true, Nat.reduceAdd, if_true, if_false, beq_tf, beq_ft, sealV, sealR, tupleA, finishA, resultsA, resultA, Int.toNat_natCast, retA, List.getElem?_toArray, List.getElem?_cons_zero, List.getElem?_cons_succ, Option.bind_some, AV.under, undersL, Bool.and_true, Bool.true_and, List.take_length, hl, h0] <;> rfl
  refine Goes.seq (Goes.seq ?_)
  apply Goes.region 0
  · intro k _
    simp only [regionT, oneOp, wantedA, stepOp, putA, keep, evalX, evalL, evalParts, cstV, cst1, binA, intOp, strOp, unA, callA, builtinA, lenA, elems, minMaxA, mm2, indexA, sliceA, boundA, Try.underlying3, Try.underlying9, Try.underlying5, Try.underlying4, List.toList_toArray, List.getD_eq_getElem?_getD, List.getElem?_set, List.length_set, Option.getD_some, Option.map_some, Option.isSome_none, List.append_nil, List.nil_append, List.map_nil, List.map_cons, reduceIte, Nat.reduceEqDiff, Nat.reduceLT, Bool.false_eq_true, Nat.reduceAdd, if_true, if_false, beq_tf, beq_ft, sealV, sealR, tupleA, finishA, resultsA, resultA, Int.toNat_natCast, retA, List.getElem?_toArray, List.getElem?_cons_zero, List.getElem?_cons_succ, Option.bind_some, AV.under, undersL, Bool.and_true, Bool.true_and, List.take_length, hl, h0] <;> rfl
  by_cases hlen : (s.length : Int) > 9000
  · refine Goes.cond true (by simp only [regionT, oneOp, wantedA, stepOp, putA, keep, evalX, evalL, evalParts, cstV, cst1, binA, intOp, strOp, unA, callA, builtinA, lenA, elems, minMaxA, mm2, indexA, sliceA, boundA, Try.underlying3, Try.underlying9, Try.underlying5, Try.underlying4, List.toList_toArray, List.getD_eq_getElem?_getD, List.getElem?_set, List.length_set, Option.getD_some, Option.map_some, Option.isSome_none, List.append_nil, List.nil_append, List.map_nil, List.map_cons, reduceIte, Nat.reduceEqDiff, Nat.reduceLT, Bool.false_eq_true, Nat.reduceAdd, if_true, if_false, beq_tf, beq_ft, sealV, sealR, tupleA, finishA, resultsA, resultA, Int.toNat_natCast, retA, List.getElem?_toArray, List.getElem?_cons_zero, List.getElem?_cons_succ, Option.bind_some, AV.under, undersL, Bool.and_true, Bool.true_and, List.take_length, hl, h0, hlen, decide_true] <;> rfl) ?_
    obtain ⟨ka, ha⟩ := alive_any []
    refine Goes.seq ?_
    apply Goes.region ka
    · intro k hk
      simp only [regionT, oneOp, wantedA, stepOp, putA, keep, evalX, evalL, evalParts, cstV, cst1, binA, intOp, strOp, unA, callA, builtinA, lenA, elems, minMaxA, mm2, indexA, sliceA, boundA, Try.underlying3, Try.underlying9, Try.underlying5, Try.underlying4, List.toList_toArray, List.getD_eq_getElem?_getD, List.getElem?_set, List.length_set, Option.getD_some, Option.map_some, Option.isSome_none, List.append_nil, List.nil_append, List.map_nil, List.map_cons, reduceIte, Nat.reduceEqDiff, Nat.reduceLT, Bool.false_eq_true, Nat.reduceAdd, if_true, if_false, beq_tf, beq_ft, sealV, sealR, tupleA, finishA, resultsA, resultA, Int.toNat_natCast, retA, List.getElem?_toArray, List.getElem?_cons_zero, List.getElem?_cons_succ, Option.bind_some, AV.under, undersL, Bool.and_true, Bool.true_and, List.take_length, hl, h0, ha k hk] <;> rfl
    apply Goes.ret
    refine ⟨.inr rfl, .dat (.bool true), [], ?_, rfl⟩
    simp only [regionT, oneOp, wantedA, stepOp, putA, keep, evalX, evalL, evalParts, cstV, cst1, binA, intOp, strOp, unA, callA, builtinA, lenA, elems, minMaxA, mm2, indexA, sliceA, boundA, Try.underlying3, Try.underlying9, Try.underlying5, Try.underlying4, List.toList_toArray, List.getD_eq_getElem?_getD, List.getElem?_set, List.length_set, Option.getD_some, Option.map_some, Option.isSome_none, List.append_nil, List.nil_append, List.map_nil, List.map_cons, reduceIte, Nat.reduceEqDiff, Nat.reduceLT, Bool.false_eq_true, Nat.reduceAdd, if_true, if_false, beq_tf, beq_ft, sealV, sealR, tupleA, finishA, resultsA, resultA, Int.toNat_natCast, retA, List.getElem?_toArray, List.getElem?_cons_zero, List.getElem?_cons_succ, Option.bind_some, AV.under, undersL, Bool.and_true, Bool.true_and, List.take_length, hl, h0, Try.results4, List.take_nil, List.length_nil]
  refine Goes.cond false (by simp only [regionT, oneOp, wantedA, stepOp, putA, keep, evalX, evalL, evalParts, cstV, cst1, binA, intOp, strOp, unA, callA, builtinA, lenA, elems, minMaxA, mm2, indexA, sliceA, boundA, Try.underlying3, Try.underlying9, Try.underlying5, Try.underlying4, List.toList_toArray, List.getD_eq_getElem?_getD, List.getElem?_set, List.length_set, Option.getD_some, Option.map_some, Option.isSome_none, List.append_nil, List.nil_append, List.map_nil, List.map_cons, reduceIte, Nat.reduceEqDiff, Nat.reduceLT, Bool.false_eq_true, Nat.reduceAdd, if_true, if_false, beq_tf, beq_ft, sealV, sealR, tupleA, finishA, resultsA, resultA, Int.toNat_natCast, retA, List.getElem?_toArray, List.getElem?_cons_zero, List.getElem?_cons_succ, Option.bind_some, AV.under, undersL, Bool.and_true, Bool.true_and, List.take_length, hl, h0, hlen, decide_false] <;> rfl) ?_
  apply Goes.skip
  cases hro : lex s with
  | none =>
    obtain ⟨a, r, hr, hsv⟩ := scanV_eq s
    obtain ⟨ks, hs⟩ := scan_any s []
    rw [hsv] at hs
    rw [hro] at hr hsv hs
    rw [slv_none] at hsv hs
    refine Goes.seq ?_
    apply Goes.region ks
    · intro k hk
      simp only [regionT, oneOp, wantedA, stepOp, putA, keep, evalX, evalL, evalParts, cstV, cst1, binA, intOp, strOp, unA, callA, builtinA, lenA, elems, minMaxA, mm2, indexA, sliceA, boundA, Try.underlying3, Try.underlying9, Try.underlying5, Try.underlying4, List.toList_toArray, List.getD_eq_getElem?_getD, List.getElem?_set, List.length_set, Option.getD_some, Option.map_some, Option.isSome_none, List.append_nil, List.nil_append, List.map_nil, List.map_cons, reduceIte, Nat.reduceEqDiff, Nat.reduceLT, Bool.false_eq_true, Nat.reduceAdd, if_true, if_false, beq_tf, beq_ft, sealV, sealR, tupleA, finishA, resultsA, resultA, Int.toNat_natCast, retA, List.getElem?_toArray, List.getElem?_cons_zero, List.getElem?_cons_succ, Option.bind_some, AV.under, undersL, Bool.and_true, Bool.true_and, List.take_length, hl, h0, hs k hk] <;> rfl
    refine Goes.seq ?_
    apply Goes.region 0
    · intro k _
      simp only [regionT, oneOp, wantedA, stepOp, putA, keep, evalX, evalL, evalParts, cstV, cst1, binA, intOp, strOp, unA, callA, builtinA, lenA, elems, minMaxA, mm2, indexA, sliceA, boundA, Try.underlying3, Try.underlying9, Try.underlying5, Try.underlying4, List.toList_toArray, List.getD_eq_getElem?_getD, List.getElem?_set, List.length_set, Option.getD_some, Option.map_some, Option.isSome_none, List.append_nil, List.nil_append, List.map_nil, List.map_cons, reduceIte, Nat.reduceEqDiff, Nat.reduceLT, Bool.false_eq_true, Nat.reduceAdd, if_true, if_false, beq_tf, beq_ft, sealV, sealR, tupleA, finishA, resultsA, resultA, Int.toNat_natCast, retA, List.getElem?_toArray, List.getElem?_cons_zero, List.getElem?_cons_succ, Option.bind_some, AV.under, undersL, Bool.and_true, Bool.true_and, List.take_length, hl, h0] <;> rfl
    have hr0 : r ≠ 0 := fun h => by have := hr.1 h; cases this
    have hne : (r != 0) = true := bne_iff_ne.2 hr0
    refine Goes.seq (Goes.seq ?_)
    apply Goes.region 0
    · intro k _
      simp only [regionT, oneOp, wantedA, stepOp, putA, keep, evalX, evalL, evalParts, cstV, cst1, binA, intOp, strOp, unA, callA, builtinA, lenA, elems, minMaxA, mm2, indexA, sliceA, boundA, Try.underlying3, Try.underlying9, Try.underlying5, Try.underlying4, List.toList_toArray, List.getD_eq_getElem?_getD, List.getElem?_set, List.length_set, Option.getD_some, Option.map_some, Option.isSome_none, List.append_nil, List.nil_append, List.map_nil, List.map_cons, reduceIte, Nat.reduceEqDiff, Nat.reduceLT, Bool.false_eq_true, Nat.reduceAdd, if_true, if_false, beq_tf, beq_ft, sealV, sealR, tupleA, finishA, resultsA, resultA, Int.toNat_natCast, retA, List.getElem?_toArray, List.getElem?_cons_zero, List.getElem?_cons_succ, Option.bind_some, AV.under, undersL, Bool.and_true, Bool.true_and, List.take_length, hl, h0, Try.underlying29] <;> rfl
    refine Goes.block (Goes.loop (fun n st => st = _) ?_ 0 _ rfl)
    rintro n _ rfl
    refine Goes.seq ?_
    apply Goes.region 0
    · intro k _
      simp only [regionT, oneOp, wantedA, stepOp, putA, keep, evalX, evalL, evalParts, cstV, cst1, binA, intOp, strOp, unA, callA, builtinA, lenA, elems, minMaxA, mm2, indexA, sliceA, boundA, Try.underlying3, Try.underlying9, Try.underlying5, Try.underlying4, List.toList_toArray, List.getD_eq_getElem?_getD, List.getElem?_set, List.length_set, Option.getD_some, Option.map_some, Option.isSome_none, List.append_nil, List.nil_append, List.map_nil, List.map_cons, reduceIte, Nat.reduceEqDiff, Nat.reduceLT, Bool.false_eq_true, Nat.reduceAdd, if_true, if_false, beq_tf, beq_ft, sealV, sealR, tupleA, finishA, resultsA, resultA, Int.toNat_natCast, retA, List.getElem?_toArray, List.getElem?_cons_zero, List.getElem?_cons_succ, Option.bind_some, AV.under, undersL, Bool.and_true, Bool.true_and, List.take_length, hl, List.length_nil] <;> rfl
    refine Goes.seq (Goes.cond false (by simp only [regionT, oneOp, wantedA, stepOp, putA, keep, evalX, evalL, evalParts, cstV, cst1, binA, intOp, strOp, unA, callA, builtinA, lenA, elems, minMaxA, mm2, indexA, sliceA, boundA, Try.underlying3, Try.underlying9, Try.underlying5, Try.underlying4, List.toList_toArray, List.getD_eq_getElem?_getD, List.getElem?_set, List.length_set, Option.getD_some, Option.map_some, Option.isSome_none, List.append_nil, List.nil_append, List.map_nil, List.map_cons, reduceIte, Nat.reduceEqDiff, Nat.reduceLT, Bool.false_eq_true, Nat.reduceAdd, if_true, if_false, beq_tf, beq_ft, sealV, sealR, tupleA, finishA, resultsA, resultA, Int.toNat_natCast, retA, List.getElem?_toArray, List.getElem?_cons_zero, List.getElem?_cons_succ, Option.bind_some, AV.under, undersL, Bool.and_true, Bool.true_and, List.take_length, hl, List.length_nil] <;> rfl) ?_)
    apply Goes.exit
    simp only [if_true]
    obtain ⟨a', r', hr', hsv'⟩ := scanV_eq []
    obtain ⟨ks', hs'⟩ := scan_any [] []
    rw [hsv'] at hs'
    refine Goes.seq ?_
    apply Goes.region ks'
    · intro k hk
      simp only [regionT, oneOp, wantedA, stepOp, putA, keep, evalX, evalL, evalParts, cstV, cst1, binA, intOp, strOp, unA, callA, builtinA, lenA, elems, minMaxA, mm2, indexA, sliceA, boundA, Try.underlying3, Try.underlying9, Try.underlying5, Try.underlying4, List.toList_toArray, List.getD_eq_getElem?_getD, List.getElem?_set, List.length_set, Option.getD_some, Option.map_some, Option.isSome_none, List.append_nil, List.nil_append, List.map_nil, List.map_cons, reduceIte, Nat.reduceEqDiff, Nat.reduceLT, Bool.false_eq_true, Nat.reduceAdd, if_true, if_false, beq_tf, beq_ft, sealV, sealR, tupleA, finishA, resultsA, resultA, Int.toNat_natCast, retA, List.getElem?_toArray, List.getElem?_cons_zero, List.getElem?_cons_succ, Option.bind_some, AV.under, undersL, Bool.and_true, Bool.true_and, List.take_length, hl, hs' k hk] <;> rfl
    refine Goes.seq (Goes.seq ?_)
    apply Goes.region 0
    · intro k _
      simp only [regionT, oneOp, wantedA, stepOp, putA, keep, evalX, evalL, evalParts, cstV, cst1, binA, intOp, strOp, unA, callA, builtinA, lenA, elems, minMaxA, mm2, indexA, sliceA, boundA, Try.underlying3, Try.underlying9, Try.underlying5, Try.underlying4, List.toList_toArray, List.getD_eq_getElem?_getD, List.getElem?_set, List.length_set, Option.getD_some, Option.map_some, Option.isSome_none, List.append_nil, List.nil_append, List.map_nil, List.map_cons, reduceIte, Nat.reduceEqDiff, Nat.reduceLT, Bool.false_eq_true, Nat.reduceAdd, if_true, if_false, beq_tf, beq_ft, sealV, sealR, tupleA, finishA, resultsA, resultA, Int.toNat_natCast, retA, List.getElem?_toArray, List.getElem?_cons_zero, List.getElem?_cons_succ, Option.bind_some, AV.under, undersL, Bool.and_true, Bool.true_and, List.take_length, hl, hne] <;> rfl
    refine Goes.cond true (by simp only [regionT, oneOp, wantedA, stepOp, putA, keep, evalX, evalL, evalParts, cstV, cst1, binA, intOp, strOp, unA, callA, builtinA, lenA, elems, minMaxA, mm2, indexA, sliceA, boundA, Try.underlying3, Try.underlying9, Try.underlying5, Try.underlying4, List.toList_toArray, List.getD_eq_getElem?_getD, List.getElem?_set, List.length_set, Option.getD_some, Option.map_some, Option.isSome_none, List.append_nil, List.nil_append, List.map_nil, List.map_cons, reduceIte, Nat.reduceEqDiff, Nat.reduceLT, Bool.false_eq_true, Nat.reduceAdd, if_true, if_false, beq_tf, beq_ft, sealV, sealR, tupleA, finishA, resultsA, resultA, Int.toNat_natCast, retA, List.getElem?_toArray, List.getElem?_cons_zero, List.getElem?_cons_succ, Option.bind_some, AV.under, undersL, Bool.and_true, Bool.true_and, List.take_length, hl]) ?_
    obtain ⟨ka, ha⟩ := alive_any []
    refine Goes.seq ?_
    apply Goes.region ka
    · intro k hk
      simp only [regionT, oneOp, wantedA, stepOp, putA, keep, evalX, evalL, evalParts, cstV, cst1, binA, intOp, strOp, unA, callA, builtinA, lenA, elems, minMaxA, mm2, indexA, sliceA, boundA, Try.underlying3, Try.underlying9, Try.underlying5, Try.underlying4, List.toList_toArray, List.getD_eq_getElem?_getD, List.getElem?_set, List.length_set, Option.getD_some, Option.map_some, Option.isSome_none, List.append_nil, List.nil_append, List.map_nil, List.map_cons, reduceIte, Nat.reduceEqDiff, Nat.reduceLT, Bool.false_eq_true, Nat.reduceAdd, if_true, if_false, beq_tf, beq_ft, sealV, sealR, tupleA, finishA, resultsA, resultA, Int.toNat_natCast, retA, List.getElem?_toArray, List.getElem?_cons_zero, List.getElem?_cons_succ, Option.bind_some, AV.under, undersL, Bool.and_true, Bool.true_and, List.take_length, hl, ha k hk] <;> rfl
    apply Goes.ret
    refine ⟨.inr rfl, .dat (.bool true), [], ?_, rfl⟩
    simp only [regionT, oneOp, wantedA, stepOp, putA, keep, evalX, evalL, evalParts, cstV, cst1, binA, intOp, strOp, unA, callA, builtinA, lenA, elems, minMaxA, mm2, indexA, sliceA, boundA, Try.underlying3, Try.underlying9, Try.underlying5, Try.underlying4, List.toList_toArray, List.getD_eq_getElem?_getD, List.getElem?_set, List.length_set, Option.getD_some, Option.map_some, Option.isSome_none, List.append_nil, List.nil_append, List.map_nil, List.map_cons, reduceIte, Nat.reduceEqDiff, Nat.reduceLT, Bool.false_eq_true, Nat.reduceAdd, if_true, if_false, beq_tf, beq_ft, sealV, sealR, tupleA, finishA, resultsA, resultA, Int.toNat_natCast, retA, List.getElem?_toArray, List.getElem?_cons_zero, List.getElem?_cons_succ, Option.bind_some, AV.under, undersL, Bool.and_true, Bool.true_and, List.take_length, hl, Try.results4, List.take_zero, List.length_nil]
  | some toks =>
  obtain ⟨a, r, hr, hsv⟩ := scanV_eq s
  obtain ⟨ks, hs⟩ := scan_any s []
  rw [hsv] at hs
  rw [hro] at hr hsv hs
  rw [slv_some] at hsv hs
  refine Goes.seq ?_
  apply Goes.region ks
  · intro k hk
    simp only [regionT, oneOp, wantedA, stepOp, putA, keep, evalX, evalL, evalParts, cstV, cst1, binA, intOp, strOp, unA, callA, builtinA, lenA, elems, minMaxA, mm2, indexA, sliceA, boundA, Try.underlying3, Try.underlying9, Try.underlying5, Try.underlying4, List.toList_toArray, List.getD_eq_getElem?_getD, List.getElem?_set, List.length_set, Option.getD_some, Option.map_some, Option.isSome_none, List.append_nil, List.nil_append, List.map_nil, List.map_cons, reduceIte, Nat.reduceEqDiff, Nat.reduceLT, Bool.false_eq_true, Nat.reduceAdd, if_true, if_false, beq_tf, beq_ft, sealV, sealR, tupleA, finishA, resultsA, resultA, Int.toNat_natCast, retA, List.getElem?_toArray, List.getElem?_cons_zero, List.getElem?_cons_succ, Option.bind_some, AV.under, undersL, Bool.and_true, Bool.true_and, List.take_length, hl, h0, hs k hk] <;> rfl
  refine Goes.seq ?_
  apply Goes.region 0
  · intro k _
    simp only [regionT, oneOp, wantedA, stepOp, putA, keep, evalX, evalL, evalParts, cstV, cst1, binA, intOp, strOp, unA, callA, builtinA, lenA, elems, minMaxA, mm2, indexA, sliceA, boundA, Try.underlying3, Try.underlying9, Try.underlying5, Try.underlying4, List.toList_toArray, List.getD_eq_getElem?_getD, List.getElem?_set, List.length_set, Option.getD_some, Option.map_some, Option.isSome_none, List.append_nil, List.nil_append, List.map_nil, List.map_cons, reduceIte, Nat.reduceEqDiff, Nat.reduceLT, Bool.false_eq_true, Nat.reduceAdd, if_true, if_false, beq_tf, beq_ft, sealV, sealR, tupleA, finishA, resultsA, resultA, Int.toNat_natCast, retA, List.getElem?_toArray, List.getElem?_cons_zero, List.getElem?_cons_succ, Option.bind_some, AV.under, undersL, Bool.and_true, Bool.true_and, List.take_length, hl, h0] <;> rfl
  obtain rfl : r = 0 := hr.2 rfl
  have hsh := toks_short hro
  have hback := lex_back hro
  refine Goes.seq (Goes.seq ?_)
  apply Goes.region 0
  · intro k _
    simp only [regionT, oneOp, wantedA, stepOp, putA, keep, evalX, evalL, evalParts, cstV, cst1, binA, intOp, strOp, unA, callA, builtinA, lenA, elems, minMaxA, mm2, indexA, sliceA, boundA, Try.underlying3, Try.underlying9, Try.underlying5, Try.underlying4, List.toList_toArray, List.getD_eq_getElem?_getD, List.getElem?_set, List.length_set, Option.getD_some, Option.map_some, Option.isSome_none, List.append_nil, List.nil_append, List.map_nil, List.map_cons, reduceIte, Nat.reduceEqDiff, Nat.reduceLT, Bool.false_eq_true, Nat.reduceAdd, if_true, if_false, beq_tf, beq_ft, sealV, sealR, tupleA, finishA, resultsA, resultA, Int.toNat_natCast, retA, List.getElem?_toArray, List.getElem?_cons_zero, List.getElem?_cons_succ, Option.bind_some, AV.under, undersL, Bool.and_true, Bool.true_and, List.take_length, hl, h0, Try.underlying29, List.length_map] <;> rfl
  refine Goes.block (Goes.loop (IA toks) ?_ (toks.length - 0) _ ⟨?_, ?_, ?_, ?_, ?_, 0, Nat.zero_le _, rfl, ?_, ?_, fun j t hj => by omega⟩)
  rotate_left
  · simp only [regionT, oneOp, wantedA, stepOp, putA, keep, evalX, evalL, evalParts, cstV, cst1, binA, intOp, strOp, unA, callA, builtinA, lenA, elems, minMaxA, mm2, indexA, sliceA, boundA, Try.underlying3, Try.underlying9, Try.underlying5, Try.underlying4, List.toList_toArray, List.getD_eq_getElem?_getD, List.getElem?_set, List.length_set, Option.getD_some, Option.map_some, Option.isSome_none, List.append_nil, List.nil_append, List.map_nil, List.map_cons, reduceIte, Nat.reduceEqDiff, Nat.reduceLT, Bool.false_eq_true, Nat.reduceAdd, if_true, if_false, beq_tf, beq_ft, sealV, sealR, tupleA, finishA, resultsA, resultA, Int.toNat_natCast, retA, List.getElem?_toArray, List.getElem?_cons_zero, List.getElem?_cons_succ, Option.bind_some, AV.under, undersL, Bool.and_true, Bool.true_and, List.take_length, hl]
  · simp only [regionT, oneOp, wantedA, stepOp, putA, keep, evalX, evalL, evalParts, cstV, cst1, binA, intOp, strOp, unA, callA, builtinA, lenA, elems, minMaxA, mm2, indexA, sliceA, boundA, Try.underlying3, Try.underlying9, Try.underlying5, Try.underlying4, List.toList_toArray, List.getD_eq_getElem?_getD, List.getElem?_set, List.length_set, Option.getD_some, Option.map_some, Option.isSome_none, List.append_nil, List.nil_append, List.map_nil, List.map_cons, reduceIte, Nat.reduceEqDiff, Nat.reduceLT, Bool.false_eq_true, Nat.reduceAdd, if_true, if_false, beq_tf, beq_ft, sealV, sealR, tupleA, finishA, resultsA, resultA, Int.toNat_natCast, retA, List.getElem?_toArray, List.getElem?_cons_zero, List.getElem?_cons_succ, Option.bind_some, AV.under, undersL, Bool.and_true, Bool.true_and, List.take_length, hl]
  · simp only [regionT, oneOp, wantedA, stepOp, putA, keep, evalX, evalL, evalParts, cstV, cst1, binA, intOp, strOp, unA, callA, builtinA, lenA, elems, minMaxA, mm2, indexA, sliceA, boundA, Try.underlying3, Try.underlying9, Try.underlying5, Try.underlying4, List.toList_toArray, List.getD_eq_getElem?_getD, List.getElem?_set, List.length_set, Option.getD_some, Option.map_some, Option.isSome_none, List.append_nil, List.nil_append, List.map_nil, List.map_cons, reduceIte, Nat.reduceEqDiff, Nat.reduceLT, Bool.false_eq_true, Nat.reduceAdd, if_true, if_false, beq_tf, beq_ft, sealV, sealR, tupleA, finishA, resultsA, resultA, Int.toNat_natCast, retA, List.getElem?_toArray, List.getElem?_cons_zero, List.getElem?_cons_succ, Option.bind_some, AV.under, undersL, Bool.and_true, Bool.true_and, List.take_length, hl]
  · simp only [regionT, oneOp, wantedA, stepOp, putA, keep, evalX, evalL, evalParts, cstV, cst1, binA, intOp, strOp, unA, callA, builtinA, lenA, elems, minMaxA, mm2, indexA, sliceA, boundA, Try.underlying3, Try.underlying9, Try.underlying5, Try.underlying4, List.toList_toArray, List.getD_eq_getElem?_getD, List.getElem?_set, List.length_set, Option.getD_some, Option.map_some, Option.isSome_none, List.append_nil, List.nil_append, List.map_nil, List.map_cons, reduceIte, Nat.reduceEqDiff, Nat.reduceLT, Bool.false_eq_true, Nat.reduceAdd, if_true, if_false, beq_tf, beq_ft, sealV, sealR, tupleA, finishA, resultsA, resultA, Int.toNat_natCast, retA, List.getElem?_toArray, List.getElem?_cons_zero, List.getElem?_cons_succ, Option.bind_some, AV.under, undersL, Bool.and_true, Bool.true_and, List.take_length, hl]
  · simp only [regionT, oneOp, wantedA, stepOp, putA, keep, evalX, evalL, evalParts, cstV, cst1, binA, intOp, strOp, unA, callA, builtinA, lenA, elems, minMaxA, mm2, indexA, sliceA, boundA, Try.underlying3, Try.underlying9, Try.underlying5, Try.underlying4, List.toList_toArray, List.getD_eq_getElem?_getD, List.getElem?_set, List.length_set, Option.getD_some, Option.map_some, Option.isSome_none, List.append_nil, List.nil_append, List.map_nil, List.map_cons, reduceIte, Nat.reduceEqDiff, Nat.reduceLT, Bool.false_eq_true, Nat.reduceAdd, if_true, if_false, beq_tf, beq_ft, sealV, sealR, tupleA, finishA, resultsA, resultA, Int.toNat_natCast, retA, List.getElem?_toArray, List.getElem?_cons_zero, List.getElem?_cons_succ, Option.bind_some, AV.under, undersL, Bool.and_true, Bool.true_and, List.take_length, hl]
  · simp only [regionT, oneOp, wantedA, stepOp, putA, keep, evalX, evalL, evalParts, cstV, cst1, binA, intOp, strOp, unA, callA, builtinA, lenA, elems, minMaxA, mm2, indexA, sliceA, boundA, Try.underlying3, Try.underlying9, Try.underlying5, Try.underlying4, List.toList_toArray, List.getD_eq_getElem?_getD, List.getElem?_set, List.length_set, Option.getD_some, Option.map_some, Option.isSome_none, List.append_nil, List.nil_append, List.map_nil, List.map_cons, reduceIte, Nat.reduceEqDiff, Nat.reduceLT, Bool.false_eq_true, Nat.reduceAdd, if_true, if_false, beq_tf, beq_ft, sealV, sealR, tupleA, finishA, resultsA, resultA, Int.toNat_natCast, retA, List.getElem?_toArray, List.getElem?_cons_zero, List.getElem?_cons_succ, Option.bind_some, AV.under, undersL, Bool.and_true, Bool.true_and, List.take_length, hl]; rfl
  · simp only [regionT, oneOp, wantedA, stepOp, putA, keep, evalX, evalL, evalParts, cstV, cst1, binA, intOp, strOp, unA, callA, builtinA, lenA, elems, minMaxA, mm2, indexA, sliceA, boundA, Try.underlying3, Try.underlying9, Try.underlying5, Try.underlying4, List.toList_toArray, List.getD_eq_getElem?_getD, List.getElem?_set, List.length_set, Option.getD_some, Option.map_some, Option.isSome_none, List.append_nil, List.nil_append, List.map_nil, List.map_cons, reduceIte, Nat.reduceEqDiff, Nat.reduceLT, Bool.false_eq_true, Nat.reduceAdd, if_true, if_false, beq_tf, beq_ft, sealV, sealR, tupleA, finishA, resultsA, resultA, Int.toNat_natCast, retA, List.getElem?_toArray, List.getElem?_cons_zero, List.getElem?_cons_succ, Option.bind_some, AV.under, undersL, Bool.and_true, Bool.true_and, List.take_length, hl]; rfl
  clear hl h0 ts hs hsv
  rintro n ⟨ts, hp⟩ ⟨hl, h3, h5, h23, h24, i, hi, rfl, h25, h6, hno⟩
  refine Goes.seq ?_
  apply Goes.region 0
  · intro k _
    simp only [regionT, oneOp, wantedA, stepOp, putA, keep, evalX, evalL, evalParts, cstV, cst1, binA, intOp, strOp, unA, callA, builtinA, lenA, elems, minMaxA, mm2, indexA, sliceA, boundA, Try.underlying3, Try.underlying9, Try.underlying5, Try.underlying4, List.toList_toArray, List.getD_eq_getElem?_getD, List.getElem?_set, List.length_set, Option.getD_some, Option.map_some, Option.isSome_none, List.append_nil, List.nil_append, List.map_nil, List.map_cons, reduceIte, Nat.reduceEqDiff, Nat.reduceLT, Bool.false_eq_true, Nat.reduceAdd, if_true, if_false, beq_tf, beq_ft, sealV, sealR, tupleA, finishA, resultsA, resultA, Int.toNat_natCast, retA, List.getElem?_toArray, List.getElem?_cons_zero, List.getElem?_cons_succ, Option.bind_some, AV.under, undersL, Bool.and_true, Bool.true_and, List.take_length, hl, h24, h25] <;> rfl
  by_cases hlt : i < toks.length
  · have hlt' : (i : Int) < (toks.length : Int) := by omega
    have hc : toks[i]? = some toks[i] := List.getElem?_eq_getElem hlt
    generalize toks[i] = t at hc
    have hb := body_take_succ hc
    have hmem := List.mem_of_getElem? hc
    refine Goes.seq (Goes.cond true (by simp only [regionT, oneOp, wantedA, stepOp, putA, keep, evalX, evalL, evalParts, cstV, cst1, binA, intOp, strOp, unA, callA, builtinA, lenA, elems, minMaxA, mm2, indexA, sliceA, boundA, Try.underlying3, Try.underlying9, Try.underlying5, Try.underlying4, List.toList_toArray, List.getD_eq_getElem?_getD, List.getElem?_set, List.length_set, Option.getD_some, Option.map_some, Option.isSome_none, List.append_nil, List.nil_append, List.map_nil, List.map_cons, reduceIte, Nat.reduceEqDiff, Nat.reduceLT, Bool.false_eq_true, Nat.reduceAdd, if_true, if_false, beq_tf, beq_ft, sealV, sealR, tupleA, finishA, resultsA, resultA, Int.toNat_natCast, retA, List.getElem?_toArray, List.getElem?_cons_zero, List.getElem?_cons_succ, Option.bind_some, AV.under, undersL, Bool.and_true, Bool.true_and, List.take_length, hl, hlt', decide_true]) ?_)
    apply Goes.skip
    refine Goes.seq (Goes.block (Goes.seq ?_))
    apply Goes.region 0
    · intro k _
      simp only [regionT, oneOp, wantedA, stepOp, putA, keep, evalX, evalL, evalParts, cstV, cst1, binA, intOp, strOp, unA, callA, builtinA, lenA, elems, minMaxA, mm2, indexA, sliceA, boundA, Try.underlying3, Try.underlying9, Try.underlying5, Try.underlying4, List.toList_toArray, List.getD_eq_getElem?_getD, List.getElem?_set, List.length_set, Option.getD_some, Option.map_some, Option.isSome_none, List.append_nil, List.nil_append, List.map_nil, List.map_cons, reduceIte, Nat.reduceEqDiff, Nat.reduceLT, Bool.false_eq_true, Nat.reduceAdd, if_true, if_false, beq_tf, beq_ft, sealV, sealR, tupleA, finishA, resultsA, resultA, Int.toNat_natCast, retA, List.getElem?_toArray, List.getElem?_cons_zero, List.getElem?_cons_succ, Option.bind_some, AV.under, undersL, Bool.and_true, Bool.true_and, List.take_length, hl, h23, h25, index_sl hc, load_tok, zero34, new_tok, store_tok] <;> rfl
    refine Goes.seq (Goes.seq ?_)
    apply Goes.region 0
    · intro k _
      simp only [regionT, oneOp, wantedA, stepOp, putA, keep, evalX, evalL, evalParts, cstV, cst1, binA, intOp, strOp, unA, callA, builtinA, lenA, elems, minMaxA, mm2, indexA, sliceA, boundA, Try.underlying3, Try.underlying9, Try.underlying5, Try.underlying4, List.toList_toArray, List.getD_eq_getElem?_getD, List.getElem?_set, List.length_set, Option.getD_some, Option.map_some, Option.isSome_none, List.append_nil, List.nil_append, List.map_nil, List.map_cons, reduceIte, Nat.reduceEqDiff, Nat.reduceLT, Bool.false_eq_true, Nat.reduceAdd, if_true, if_false, beq_tf, beq_ft, sealV, sealR, tupleA, finishA, resultsA, resultA, Int.toNat_natCast, retA, List.getElem?_toArray, List.getElem?_cons_zero, List.getElem?_cons_succ, Option.bind_some, AV.under, undersL, Bool.and_true, Bool.true_and, List.take_length, hl, fp34_0, load_end3] <;> rfl
    by_cases hk3 : t.kind = 3
    · refine Goes.cond true (by simp only [regionT, oneOp, wantedA, stepOp, putA, keep, evalX, evalL, evalParts, cstV, cst1, binA, intOp, strOp, unA, callA, builtinA, lenA, elems, minMaxA, mm2, indexA, sliceA, boundA, Try.underlying3, Try.underlying9, Try.underlying5, Try.underlying4, List.toList_toArray, List.getD_eq_getElem?_getD, List.getElem?_set, List.length_set, Option.getD_some, Option.map_some, Option.isSome_none, List.append_nil, List.nil_append, List.map_nil, List.map_cons, reduceIte, Nat.reduceEqDiff, Nat.reduceLT, Bool.false_eq_true, Nat.reduceAdd, if_true, if_false, beq_tf, beq_ft, sealV, sealR, tupleA, finishA, resultsA, resultA, Int.toNat_natCast, retA, List.getElem?_toArray, List.getElem?_cons_zero, List.getElem?_cons_succ, Option.bind_some, AV.under, undersL, Bool.and_true, Bool.true_and, List.take_length, hl, hk3, beq_self_eq_true]) ?_
      obtain ⟨ka, ha⟩ := alive_any (hp ++ [some (.cells 34 [.dat (.int .i64 t.kind), .dat (.str t.text), .dat (.int .i64 t.n), .dat (.int .i64 t.at_)] 4)])
      refine Goes.seq ?_
      apply Goes.region ka
      · intro k hk
        simp only [regionT, oneOp, wantedA, stepOp, putA, keep, evalX, evalL, evalParts, cstV, cst1, binA, intOp, strOp, unA, callA, builtinA, lenA, elems, minMaxA, mm2, indexA, sliceA, boundA, Try.underlying3, Try.underlying9, Try.underlying5, Try.underlying4, List.toList_toArray, List.getD_eq_getElem?_getD, List.getElem?_set, List.length_set, Option.getD_some, Option.map_some, Option.isSome_none, List.append_nil, List.nil_append, List.map_nil, List.map_cons, reduceIte, Nat.reduceEqDiff, Nat.reduceLT, Bool.false_eq_true, Nat.reduceAdd, if_true, if_false, beq_tf, beq_ft, sealV, sealR, tupleA, finishA, resultsA, resultA, Int.toNat_natCast, retA, List.getElem?_toArray, List.getElem?_cons_zero, List.getElem?_cons_succ, Option.bind_some, AV.under, undersL, Bool.and_true, Bool.true_and, List.take_length, hl, ha k hk] <;> rfl
      apply Goes.ret
      refine ⟨.inr rfl, .dat (.bool true), [], ?_, rfl⟩
      simp only [regionT, oneOp, wantedA, stepOp, putA, keep, evalX, evalL, evalParts, cstV, cst1, binA, intOp, strOp, unA, callA, builtinA, lenA, elems, minMaxA, mm2, indexA, sliceA, boundA, Try.underlying3, Try.underlying9, Try.underlying5, Try.underlying4, List.toList_toArray, List.getD_eq_getElem?_getD, List.getElem?_set, List.length_set, Option.getD_some, Option.map_some, Option.isSome_none, List.append_nil, List.nil_append, List.map_nil, List.map_cons, reduceIte, Nat.reduceEqDiff, Nat.reduceLT, Bool.false_eq_true, Nat.reduceAdd, if_true, if_false, beq_tf, beq_ft, sealV, sealR, tupleA, finishA, resultsA, resultA, Int.toNat_natCast, retA, List.getElem?_toArray, List.getElem?_cons_zero, List.getElem?_cons_succ, Option.bind_some, AV.under, undersL, Bool.and_true, Bool.true_and, List.take_length, hl, Try.results4, List.take_zero, List.length_nil]
    have hk3' : (t.kind == 3) = false := by rw [beq_eq_false_iff_ne]; exact hk3
    refine Goes.cond false (by simp only [regionT, oneOp, wantedA, stepOp, putA, keep, evalX, evalL, evalParts, cstV, cst1, binA, intOp, strOp, unA, callA, builtinA, lenA, elems, minMaxA, mm2, indexA, sliceA, boundA, Try.underlying3, Try.underlying9, Try.underlying5, Try.underlying4, List.toList_toArray, List.getD_eq_getElem?_getD, List.getElem?_set, List.length_set, Option.getD_some, Option.map_some, Option.isSome_none, List.append_nil, List.nil_append, List.map_nil, List.map_cons, reduceIte, Nat.reduceEqDiff, Nat.reduceLT, Bool.false_eq_true, Nat.reduceAdd, if_true, if_false, beq_tf, beq_ft, sealV, sealR, tupleA, finishA, resultsA, resultA, Int.toNat_natCast, retA, List.getElem?_toArray, List.getElem?_cons_zero, List.getElem?_cons_succ, Option.bind_some, AV.under, undersL, Bool.and_true, Bool.true_and, List.take_length, hl, hk3']) ?_
    apply Goes.skip
    have hbs : (body (toks.take i)).length ≤ 31 * 6000 := by
      have h1 := body_short (toks.take i) fun x hx => by
        obtain ⟨j, hj⟩ := List.mem_iff_getElem?.1 hx
        rw [List.getElem?_take] at hj
        split at hj
        · exact hsh.2 x (List.mem_of_getElem? hj) (hno j x ‹_› hj)
        · cases hj
      have h2 := List.length_take_le i toks
      omega
    have hts := hsh.2 t hmem hk3
    have hj1 : (body (toks.take i)).length + t.text.length ≤ 9223372036854775807 := by omega
    have hj2 : (body (toks.take i) ++ t.text).length + [(32 : UInt8)].length ≤ 9223372036854775807 := by rw [List.length_append]; simp only [List.length_singleton]; omega
    apply Goes.region 0
    · intro k _
      simp only [regionT, oneOp, wantedA, stepOp, putA, keep, evalX, evalL, evalParts, cstV, cst1, binA, intOp, strOp, unA, callA, builtinA, lenA, elems, minMaxA, mm2, indexA, sliceA, boundA, Try.underlying3, Try.underlying9, Try.underlying5, Try.underlying4, List.toList_toArray, List.getD_eq_getElem?_getD, List.getElem?_set, List.length_set, Option.getD_some, Option.map_some, Option.isSome_none, List.append_nil, List.nil_append, List.map_nil, List.map_cons, reduceIte, Nat.reduceEqDiff, Nat.reduceLT, Bool.false_eq_true, Nat.reduceAdd, if_true, if_false, beq_tf, beq_ft, sealV, sealR, tupleA, finishA, resultsA, resultA, Int.toNat_natCast, retA, List.getElem?_toArray, List.getElem?_cons_zero, List.getElem?_cons_succ, Option.bind_some, AV.under, undersL, Bool.and_true, Bool.true_and, List.take_length, hl, h6, fp34_1, load_end9, hj1, hj2] <;> rfl
    apply Goes.region 0
    · intro k _
      simp only [regionT, oneOp, wantedA, stepOp, putA, keep, evalX, evalL, evalParts, cstV, cst1, binA, intOp, strOp, unA, callA, builtinA, lenA, elems, minMaxA, mm2, indexA, sliceA, boundA, Try.underlying3, Try.underlying9, Try.underlying5, Try.underlying4, List.toList_toArray, List.getD_eq_getElem?_getD, List.getElem?_set, List.length_set, Option.getD_some, Option.map_some, Option.isSome_none, List.append_nil, List.nil_append, List.map_nil, List.map_cons, reduceIte, Nat.reduceEqDiff, Nat.reduceLT, Bool.false_eq_true, Nat.reduceAdd, if_true, if_false, beq_tf, beq_ft, sealV, sealR, tupleA, finishA, resultsA, resultA, Int.toNat_natCast, retA, List.getElem?_toArray, List.getElem?_cons_zero, List.getElem?_cons_succ, Option.bind_some, AV.under, undersL, Bool.and_true, Bool.true_and, List.take_length, hl, h25, wrap64 ((i : Int) + 1) (by omega) (by omega)] <;> rfl
    refine ⟨toks.length - (i + 1), by omega, ?_, ?_, ?_, ?_, ?_, i + 1, by omega, rfl, ?_, ?_, ?_⟩
    · simp only [regionT, oneOp, wantedA, stepOp, putA, keep, evalX, evalL, evalParts, cstV, cst1, binA, intOp, strOp, unA, callA, builtinA, lenA, elems, minMaxA, mm2, indexA, sliceA, boundA, Try.underlying3, Try.underlying9, Try.underlying5, Try.underlying4, List.toList_toArray, List.getD_eq_getElem?_getD, List.getElem?_set, List.length_set, Option.getD_some, Option.map_some, Option.isSome_none, List.append_nil, List.nil_append, List.map_nil, List.map_cons, reduceIte, Nat.reduceEqDiff, Nat.reduceLT, Bool.false_eq_true, Nat.reduceAdd, if_true, if_false, beq_tf, beq_ft, sealV, sealR, tupleA, finishA, resultsA, resultA, Int.toNat_natCast, retA, List.getElem?_toArray, List.getElem?_cons_zero, List.getElem?_cons_succ, Option.bind_some, AV.under, undersL, Bool.and_true, Bool.true_and, List.take_length, hl]
    · simp only [regionT, oneOp, wantedA, stepOp, putA, keep, evalX, evalL, evalParts, cstV, cst1, binA, intOp, strOp, unA, callA, builtinA, lenA, elems, minMaxA, mm2, indexA, sliceA, boundA, Try.underlying3, Try.underlying9, Try.underlying5, Try.underlying4, List.toList_toArray, List.getD_eq_getElem?_getD, List.getElem?_set, List.length_set, Option.getD_some, Option.map_some, Option.isSome_none, List.append_nil, List.nil_append, List.map_nil, List.map_cons, reduceIte, Nat.reduceEqDiff, Nat.reduceLT, Bool.false_eq_true, Nat.reduceAdd, if_true, if_false, beq_tf, beq_ft, sealV, sealR, tupleA, finishA, resultsA, resultA, Int.toNat_natCast, retA, List.getElem?_toArray, List.getElem?_cons_zero, List.getElem?_cons_succ, Option.bind_some, AV.under, undersL, Bool.and_true, Bool.true_and, List.take_length, hl, h3]
    · simp only [regionT, oneOp, wantedA, stepOp, putA, keep, evalX, evalL, evalParts, cstV, cst1, binA, intOp, strOp, unA, callA, builtinA, lenA, elems, minMaxA, mm2, indexA, sliceA, boundA, Try.underlying3, Try.underlying9, Try.underlying5, Try.underlying4, List.toList_toArray, List.getD_eq_getElem?_getD, List.getElem?_set, List.length_set, Option.getD_some, Option.map_some, Option.isSome_none, List.append_nil, List.nil_append, List.map_nil, List.map_cons, reduceIte, Nat.reduceEqDiff, Nat.reduceLT, Bool.false_eq_true, Nat.reduceAdd, if_true, if_false, beq_tf, beq_ft, sealV, sealR, tupleA, finishA, resultsA, resultA, Int.toNat_natCast, retA, List.getElem?_toArray, List.getElem?_cons_zero, List.getElem?_cons_succ, Option.bind_some, AV.under, undersL, Bool.and_true, Bool.true_and, List.take_length, hl, h5]
    · simp only [regionT, oneOp, wantedA, stepOp, putA, keep, evalX, evalL, evalParts, cstV, cst1, binA, intOp, strOp, unA, callA, builtinA, lenA, elems, minMaxA, mm2, indexA, sliceA, boundA, Try.underlying3, Try.underlying9, Try.underlying5, Try.underlying4, List.toList_toArray, List.getD_eq_getElem?_getD, List.getElem?_set, List.length_set, Option.getD_some, Option.map_some, Option.isSome_none, List.append_nil, List.nil_append, List.map_nil, List.map_cons, reduceIte, Nat.reduceEqDiff, Nat.reduceLT, Bool.false_eq_true, Nat.reduceAdd, if_true, if_false, beq_tf, beq_ft, sealV, sealR, tupleA, finishA, resultsA, resultA, Int.toNat_natCast, retA, List.getElem?_toArray, List.getElem?_cons_zero, List.getElem?_cons_succ, Option.bind_some, AV.under, undersL, Bool.and_true, Bool.true_and, List.take_length, hl, h23]
    · simp only [regionT, oneOp, wantedA, stepOp, putA, keep, evalX, evalL, evalParts, cstV, cst1, binA, intOp, strOp, unA, callA, builtinA, lenA, elems, minMaxA, mm2, indexA, sliceA, boundA, Try.underlying3, Try.underlying9, Try.underlying5, Try.underlying4, List.toList_toArray, List.getD_eq_getElem?_getD, List.getElem?_set, List.length_set, Option.getD_some, Option.map_some, Option.isSome_none, List.append_nil, List.nil_append, List.map_nil, List.map_cons, reduceIte, Nat.reduceEqDiff, Nat.reduceLT, Bool.false_eq_true, Nat.reduceAdd, if_true, if_false, beq_tf, beq_ft, sealV, sealR, tupleA, finishA, resultsA, resultA, Int.toNat_natCast, retA, List.getElem?_toArray, List.getElem?_cons_zero, List.getElem?_cons_succ, Option.bind_some, AV.under, undersL, Bool.and_true, Bool.true_and, List.take_length, hl, h24]
    · simp only [regionT, oneOp, wantedA, stepOp, putA, keep, evalX, evalL, evalParts, cstV, cst1, binA, intOp, strOp, unA, callA, builtinA, lenA, elems, minMaxA, mm2, indexA, sliceA, boundA, Try.underlying3, Try.underlying9, Try.underlying5, Try.underlying4, List.toList_toArray, List.getD_eq_getElem?_getD, List.getElem?_set, List.length_set, Option.getD_some, Option.map_some, Option.isSome_none, List.append_nil, List.nil_append, List.map_nil, List.map_cons, reduceIte, Nat.reduceEqDiff, Nat.reduceLT, Bool.false_eq_true, Nat.reduceAdd, if_true, if_false, beq_tf, beq_ft, sealV, sealR, tupleA, finishA, resultsA, resultA, Int.toNat_natCast, retA, List.getElem?_toArray, List.getElem?_cons_zero, List.getElem?_cons_succ, Option.bind_some, AV.under, undersL, Bool.and_true, Bool.true_and, List.take_length, hl, Int.natCast_add, Int.natCast_one]
    · rw [hb]
      simp only [regionT, oneOp, wantedA, stepOp, putA, keep, evalX, evalL, evalParts, cstV, cst1, binA, intOp, strOp, unA, callA, builtinA, lenA, elems, minMaxA, mm2, indexA, sliceA, boundA, Try.underlying3, Try.underlying9, Try.underlying5, Try.underlying4, List.toList_toArray, List.getD_eq_getElem?_getD, List.getElem?_set, List.length_set, Option.getD_some, Option.map_some, Option.isSome_none, List.append_nil, List.nil_append, List.map_nil, List.map_cons, reduceIte, Nat.reduceEqDiff, Nat.reduceLT, Bool.false_eq_true, Nat.reduceAdd, if_true, if_false, beq_tf, beq_ft, sealV, sealR, tupleA, finishA, resultsA, resultA, Int.toNat_natCast, retA, List.getElem?_toArray, List.getElem?_cons_zero, List.getElem?_cons_succ, Option.bind_some, AV.under, undersL, Bool.and_true, Bool.true_and, List.take_length, hl] <;> rfl
    · intro j t' hj ht'
      rcases Nat.lt_or_ge j i with h | h
      · exact hno j t' h ht'
      · obtain rfl : j = i := by omega
        rw [hc] at ht'; cases ht'; exact hk3
  have hlt' : ¬ (i : Int) < (toks.length : Int) := by omega
  refine Goes.seq (Goes.cond false (by simp only [regionT, oneOp, wantedA, stepOp, putA, keep, evalX, evalL, evalParts, cstV, cst1, binA, intOp, strOp, unA, callA, builtinA, lenA, elems, minMaxA, mm2, indexA, sliceA, boundA, Try.underlying3, Try.underlying9, Try.underlying5, Try.underlying4, List.toList_toArray, List.getD_eq_getElem?_getD, List.getElem?_set, List.length_set, Option.getD_some, Option.map_some, Option.isSome_none, List.append_nil, List.nil_append, List.map_nil, List.map_cons, reduceIte, Nat.reduceEqDiff, Nat.reduceLT, Bool.false_eq_true, Nat.reduceAdd, if_true, if_false, beq_tf, beq_ft, sealV, sealR, tupleA, finishA, resultsA, resultA, Int.toNat_natCast, retA, List.getElem?_toArray, List.getElem?_cons_zero, List.getElem?_cons_succ, Option.bind_some, AV.under, undersL, Bool.and_true, Bool.true_and, List.take_length, hl, hlt', decide_false]) ?_)
  apply Goes.exit
  simp only [if_true]
  obtain rfl : i = toks.length := by omega
  rw [List.take_length] at h6
  have hno' : ∀ x ∈ toks, x.kind ≠ 3 := fun x hx => by
    obtain ⟨j, hj⟩ := List.mem_iff_getElem?.1 hx
    exact hno j x (by rcases Nat.lt_or_ge j toks.length with h | h; exact h; rw [List.getElem?_eq_none h] at hj; cases hj) hj
  have hbs : (body toks).length ≤ 31 * 6000 := by
    have h1 := body_short toks fun x hx => hsh.2 x hx (hno' x hx)
    omega
  clear hno h23 h24 h25
  obtain ⟨a', r', hr', hsv'⟩ := scanV_eq (body toks)
  obtain ⟨ks, hs'⟩ := scan_any (body toks) hp
  rw [hsv'] at hs'
  generalize hro' : lex (body toks) = o' at *
  refine Goes.seq ?_
  apply Goes.region ks
  · intro k hk
    simp only [regionT, oneOp, wantedA, stepOp, putA, keep, evalX, evalL, evalParts, cstV, cst1, binA, intOp, strOp, unA, callA, builtinA, lenA, elems, minMaxA, mm2, indexA, sliceA, boundA, Try.underlying3, Try.underlying9, Try.underlying5, Try.underlying4, List.toList_toArray, List.getD_eq_getElem?_getD, List.getElem?_set, List.length_set, Option.getD_some, Option.map_some, Option.isSome_none, List.append_nil, List.nil_append, List.map_nil, List.map_cons, reduceIte, Nat.reduceEqDiff, Nat.reduceLT, Bool.false_eq_true, Nat.reduceAdd, if_true, if_false, beq_tf, beq_ft, sealV, sealR, tupleA, finishA, resultsA, resultA, Int.toNat_natCast, retA, List.getElem?_toArray, List.getElem?_cons_zero, List.getElem?_cons_succ, Option.bind_some, AV.under, undersL, Bool.and_true, Bool.true_and, List.take_length, hl, h6, hs' k hk] <;> rfl
  · by_cases hbl : ((body toks).length : Int) > 12000
    · refine Goes.seq (Goes.seq ?_)
      apply Goes.region 0
      · intro k _
        simp only [regionT, oneOp, wantedA, stepOp, putA, keep, evalX, evalL, evalParts, cstV, cst1, binA, intOp, strOp, unA, callA, builtinA, lenA, elems, minMaxA, mm2, indexA, sliceA, boundA, Try.underlying3, Try.underlying9, Try.underlying5, Try.underlying4, List.toList_toArray, List.getD_eq_getElem?_getD, List.getElem?_set, List.length_set, Option.getD_some, Option.map_some, Option.isSome_none, List.append_nil, List.nil_append, List.map_nil, List.map_cons, reduceIte, Nat.reduceEqDiff, Nat.reduceLT, Bool.false_eq_true, Nat.reduceAdd, if_true, if_false, beq_tf, beq_ft, sealV, sealR, tupleA, finishA, resultsA, resultA, Int.toNat_natCast, retA, List.getElem?_toArray, List.getElem?_cons_zero, List.getElem?_cons_succ, Option.bind_some, AV.under, undersL, Bool.and_true, Bool.true_and, List.take_length, hl, h5, h6, hbl, bne_self_eq_false, decide_true] <;> rfl
      refine Goes.cond true (by simp only [regionT, oneOp, wantedA, stepOp, putA, keep, evalX, evalL, evalParts, cstV, cst1, binA, intOp, strOp, unA, callA, builtinA, lenA, elems, minMaxA, mm2, indexA, sliceA, boundA, Try.underlying3, Try.underlying9, Try.underlying5, Try.underlying4, List.toList_toArray, List.getD_eq_getElem?_getD, List.getElem?_set, List.length_set, Option.getD_some, Option.map_some, Option.isSome_none, List.append_nil, List.nil_append, List.map_nil, List.map_cons, reduceIte, Nat.reduceEqDiff, Nat.reduceLT, Bool.false_eq_true, Nat.reduceAdd, if_true, if_false, beq_tf, beq_ft, sealV, sealR, tupleA, finishA, resultsA, resultA, Int.toNat_natCast, retA, List.getElem?_toArray, List.getElem?_cons_zero, List.getElem?_cons_succ, Option.bind_some, AV.under, undersL, Bool.and_true, Bool.true_and, List.take_length, hl, hbl, decide_true]) ?_
      obtain ⟨ka, ha⟩ := alive_any hp
      refine Goes.seq ?_
      apply Goes.region ka
      · intro k hk
        simp only [regionT, oneOp, wantedA, stepOp, putA, keep, evalX, evalL, evalParts, cstV, cst1, binA, intOp, strOp, unA, callA, builtinA, lenA, elems, minMaxA, mm2, indexA, sliceA, boundA, Try.underlying3, Try.underlying9, Try.underlying5, Try.underlying4, List.toList_toArray, List.getD_eq_getElem?_getD, List.getElem?_set, List.length_set, Option.getD_some, Option.map_some, Option.isSome_none, List.append_nil, List.nil_append, List.map_nil, List.map_cons, reduceIte, Nat.reduceEqDiff, Nat.reduceLT, Bool.false_eq_true, Nat.reduceAdd, if_true, if_false, beq_tf, beq_ft, sealV, sealR, tupleA, finishA, resultsA, resultA, Int.toNat_natCast, retA, List.getElem?_toArray, List.getElem?_cons_zero, List.getElem?_cons_succ, Option.bind_some, AV.under, undersL, Bool.and_true, Bool.true_and, List.take_length, hl, ha k hk] <;> rfl
      apply Goes.ret
      refine ⟨.inr rfl, .dat (.bool true), [], ?_, rfl⟩
      simp only [regionT, oneOp, wantedA, stepOp, putA, keep, evalX, evalL, evalParts, cstV, cst1, binA, intOp, strOp, unA, callA, builtinA, lenA, elems, minMaxA, mm2, indexA, sliceA, boundA, Try.underlying3, Try.underlying9, Try.underlying5, Try.underlying4, List.toList_toArray, List.getD_eq_getElem?_getD, List.getElem?_set, List.length_set, Option.getD_some, Option.map_some, Option.isSome_none, List.append_nil, List.nil_append, List.map_nil, List.map_cons, reduceIte, Nat.reduceEqDiff, Nat.reduceLT, Bool.false_eq_true, Nat.reduceAdd, if_true, if_false, beq_tf, beq_ft, sealV, sealR, tupleA, finishA, resultsA, resultA, Int.toNat_natCast, retA, List.getElem?_toArray, List.getElem?_cons_zero, List.getElem?_cons_succ, Option.bind_some, AV.under, undersL, Bool.and_true, Bool.true_and, List.take_length, hl, Try.results4, List.take_zero, List.length_nil]
    refine Goes.seq (Goes.seq ?_)
    apply Goes.region 0
    · intro k _
      simp only [regionT, oneOp, wantedA, stepOp, putA, keep, evalX, evalL, evalParts, cstV, cst1, binA, intOp, strOp, unA, callA, builtinA, lenA, elems, minMaxA, mm2, indexA, sliceA, boundA, Try.underlying3, Try.underlying9, Try.underlying5, Try.underlying4, List.toList_toArray, List.getD_eq_getElem?_getD, List.getElem?_set, List.length_set, Option.getD_some, Option.map_some, Option.isSome_none, List.append_nil, List.nil_append, List.map_nil, List.map_cons, reduceIte, Nat.reduceEqDiff, Nat.reduceLT, Bool.false_eq_true, Nat.reduceAdd, if_true, if_false, beq_tf, beq_ft, sealV, sealR, tupleA, finishA, resultsA, resultA, Int.toNat_natCast, retA, List.getElem?_toArray, List.getElem?_cons_zero, List.getElem?_cons_succ, Option.bind_some, AV.under, undersL, Bool.and_true, Bool.true_and, List.take_length, hl, h5, h6, hbl, bne_self_eq_false, decide_false] <;> rfl
    refine Goes.cond false (by simp only [regionT, oneOp, wantedA, stepOp, putA, keep, evalX, evalL, evalParts, cstV, cst1, binA, intOp, strOp, unA, callA, builtinA, lenA, elems, minMaxA, mm2, indexA, sliceA, boundA, Try.underlying3, Try.underlying9, Try.underlying5, Try.underlying4, List.toList_toArray, List.getD_eq_getElem?_getD, List.getElem?_set, List.length_set, Option.getD_some, Option.map_some, Option.isSome_none, List.append_nil, List.nil_append, List.map_nil, List.map_cons, reduceIte, Nat.reduceEqDiff, Nat.reduceLT, Bool.false_eq_true, Nat.reduceAdd, if_true, if_false, beq_tf, beq_ft, sealV, sealR, tupleA, finishA, resultsA, resultA, Int.toNat_natCast, retA, List.getElem?_toArray, List.getElem?_cons_zero, List.getElem?_cons_succ, Option.bind_some, AV.under, undersL, Bool.and_true, Bool.true_and, List.take_length, hl, hbl, decide_false]) ?_
    apply Goes.skip
    obtain ⟨toks2, hl2, hkeys⟩ := hback hno' (by omega)
    subst hl2
    rw [slv_some] at hsv' hs'
    have hr0' : r' = 0 := hr'.2 rfl
    subst hr0'
    have hlen2 : toks2.length = toks.length := by have := congrArg List.length hkeys; simpa using this
    have hlen2' : ((toks.length : Int) != (toks2.length : Int)) = false := by rw [hlen2]; exact bne_self_eq_false _
    refine Goes.seq (Goes.seq ?_)
    apply Goes.region 0
    · intro k _
      simp only [regionT, oneOp, wantedA, stepOp, putA, keep, evalX, evalL, evalParts, cstV, cst1, binA, intOp, strOp, unA, callA, builtinA, lenA, elems, minMaxA, mm2, indexA, sliceA, boundA, Try.underlying3, Try.underlying9, Try.underlying5, Try.underlying4, List.toList_toArray, List.getD_eq_getElem?_getD, List.getElem?_set, List.length_set, Option.getD_some, Option.map_some, Option.isSome_none, List.append_nil, List.nil_append, List.map_nil, List.map_cons, reduceIte, Nat.reduceEqDiff, Nat.reduceLT, Bool.false_eq_true, Nat.reduceAdd, if_true, if_false, beq_tf, beq_ft, sealV, sealR, tupleA, finishA, resultsA, resultA, Int.toNat_natCast, retA, List.getElem?_toArray, List.getElem?_cons_zero, List.getElem?_cons_succ, Option.bind_some, AV.under, undersL, Bool.and_true, Bool.true_and, List.take_length, hl, h3, Try.underlying29, List.length_map, hlen2', bne_self_eq_false] <;> rfl
    refine Goes.cond false (by simp only [regionT, oneOp, wantedA, stepOp, putA, keep, evalX, evalL, evalParts, cstV, cst1, binA, intOp, strOp, unA, callA, builtinA, lenA, elems, minMaxA, mm2, indexA, sliceA, boundA, Try.underlying3, Try.underlying9, Try.underlying5, Try.underlying4, List.toList_toArray, List.getD_eq_getElem?_getD, List.getElem?_set, List.length_set, Option.getD_some, Option.map_some, Option.isSome_none, List.append_nil, List.nil_append, List.map_nil, List.map_cons, reduceIte, Nat.reduceEqDiff, Nat.reduceLT, Bool.false_eq_true, Nat.reduceAdd, if_true, if_false, beq_tf, beq_ft, sealV, sealR, tupleA, finishA, resultsA, resultA, Int.toNat_natCast, retA, List.getElem?_toArray, List.getElem?_cons_zero, List.getElem?_cons_succ, Option.bind_some, AV.under, undersL, Bool.and_true, Bool.true_and, List.take_length, hl, List.length_map, hlen2']) ?_
    apply Goes.skip
    refine Goes.seq (Goes.seq ?_)
    apply Goes.region 0
    · intro k _
      simp only [regionT, oneOp, wantedA, stepOp, putA, keep, evalX, evalL, evalParts, cstV, cst1, binA, intOp, strOp, unA, callA, builtinA, lenA, elems, minMaxA, mm2, indexA, sliceA, boundA, Try.underlying3, Try.underlying9, Try.underlying5, Try.underlying4, List.toList_toArray, List.getD_eq_getElem?_getD, List.getElem?_set, List.length_set, Option.getD_some, Option.map_some, Option.isSome_none, List.append_nil, List.nil_append, List.map_nil, List.map_cons, reduceIte, Nat.reduceEqDiff, Nat.reduceLT, Bool.false_eq_true, Nat.reduceAdd, if_true, if_false, beq_tf, beq_ft, sealV, sealR, tupleA, finishA, resultsA, resultA, Int.toNat_natCast, retA, List.getElem?_toArray, List.getElem?_cons_zero, List.getElem?_cons_succ, Option.bind_some, AV.under, undersL, Bool.and_true, Bool.true_and, List.take_length, hl, h3, Try.underlying29, List.length_map] <;> rfl
    refine Goes.block (Goes.loop (IB toks toks2) ?_ (toks.length - 0) _ ⟨?_, ?_, ?_, ?_, ?_, 0, Nat.zero_le _, rfl, ?_⟩)
    rotate_left
    · simp only [regionT, oneOp, wantedA, stepOp, putA, keep, evalX, evalL, evalParts, cstV, cst1, binA, intOp, strOp, unA, callA, builtinA, lenA, elems, minMaxA, mm2, indexA, sliceA, boundA, Try.underlying3, Try.underlying9, Try.underlying5, Try.underlying4, List.toList_toArray, List.getD_eq_getElem?_getD, List.getElem?_set, List.length_set, Option.getD_some, Option.map_some, Option.isSome_none, List.append_nil, List.nil_append, List.map_nil, List.map_cons, reduceIte, Nat.reduceEqDiff, Nat.reduceLT, Bool.false_eq_true, Nat.reduceAdd, if_true, if_false, beq_tf, beq_ft, sealV, sealR, tupleA, finishA, resultsA, resultA, Int.toNat_natCast, retA, List.getElem?_toArray, List.getElem?_cons_zero, List.getElem?_cons_succ, Option.bind_some, AV.under, undersL, Bool.and_true, Bool.true_and, List.take_length, hl]
    · simp only [regionT, oneOp, wantedA, stepOp, putA, keep, evalX, evalL, evalParts, cstV, cst1, binA, intOp, strOp, unA, callA, builtinA, lenA, elems, minMaxA, mm2, indexA, sliceA, boundA, Try.underlying3, Try.underlying9, Try.underlying5, Try.underlying4, List.toList_toArray, List.getD_eq_getElem?_getD, List.getElem?_set, List.length_set, Option.getD_some, Option.map_some, Option.isSome_none, List.append_nil, List.nil_append, List.map_nil, List.map_cons, reduceIte, Nat.reduceEqDiff, Nat.reduceLT, Bool.false_eq_true, Nat.reduceAdd, if_true, if_false, beq_tf, beq_ft, sealV, sealR, tupleA, finishA, resultsA, resultA, Int.toNat_natCast, retA, List.getElem?_toArray, List.getElem?_cons_zero, List.getElem?_cons_succ, Option.bind_some, AV.under, undersL, Bool.and_true, Bool.true_and, List.take_length, hl, h3]
    · simp only [regionT, oneOp, wantedA, stepOp, putA, keep, evalX, evalL, evalParts, cstV, cst1, binA, intOp, strOp, unA, callA, builtinA, lenA, elems, minMaxA, mm2, indexA, sliceA, boundA, Try.underlying3, Try.underlying9, Try.underlying5, Try.underlying4, List.toList_toArray, List.getD_eq_getElem?_getD, List.getElem?_set, List.length_set, Option.getD_some, Option.map_some, Option.isSome_none, List.append_nil, List.nil_append, List.map_nil, List.map_cons, reduceIte, Nat.reduceEqDiff, Nat.reduceLT, Bool.false_eq_true, Nat.reduceAdd, if_true, if_false, beq_tf, beq_ft, sealV, sealR, tupleA, finishA, resultsA, resultA, Int.toNat_natCast, retA, List.getElem?_toArray, List.getElem?_cons_zero, List.getElem?_cons_succ, Option.bind_some, AV.under, undersL, Bool.and_true, Bool.true_and, List.take_length, hl, slv_some]
    · simp only [regionT, oneOp, wantedA, stepOp, putA, keep, evalX, evalL, evalParts, cstV, cst1, binA, intOp, strOp, unA, callA, builtinA, lenA, elems, minMaxA, mm2, indexA, sliceA, boundA, Try.underlying3, Try.underlying9, Try.underlying5, Try.underlying4, List.toList_toArray, List.getD_eq_getElem?_getD, List.getElem?_set, List.length_set, Option.getD_some, Option.map_some, Option.isSome_none, List.append_nil, List.nil_append, List.map_nil, List.map_cons, reduceIte, Nat.reduceEqDiff, Nat.reduceLT, Bool.false_eq_true, Nat.reduceAdd, if_true, if_false, beq_tf, beq_ft, sealV, sealR, tupleA, finishA, resultsA, resultA, Int.toNat_natCast, retA, List.getElem?_toArray, List.getElem?_cons_zero, List.getElem?_cons_succ, Option.bind_some, AV.under, undersL, Bool.and_true, Bool.true_and, List.take_length, hl]
    · simp only [regionT, oneOp, wantedA, stepOp, putA, keep, evalX, evalL, evalParts, cstV, cst1, binA, intOp, strOp, unA, callA, builtinA, lenA, elems, minMaxA, mm2, indexA, sliceA, boundA, Try.underlying3, Try.underlying9, Try.underlying5, Try.underlying4, List.toList_toArray, List.getD_eq_getElem?_getD, List.getElem?_set, List.length_set, Option.getD_some, Option.map_some, Option.isSome_none, List.append_nil, List.nil_append, List.map_nil, List.map_cons, reduceIte, Nat.reduceEqDiff, Nat.reduceLT, Bool.false_eq_true, Nat.reduceAdd, if_true, if_false, beq_tf, beq_ft, sealV, sealR, tupleA, finishA, resultsA, resultA, Int.toNat_natCast, retA, List.getElem?_toArray, List.getElem?_cons_zero, List.getElem?_cons_succ, Option.bind_some, AV.under, undersL, Bool.and_true, Bool.true_and, List.take_length, hl, List.length_map]
    · simp only [regionT, oneOp, wantedA, stepOp, putA, keep, evalX, evalL, evalParts, cstV, cst1, binA, intOp, strOp, unA, callA, builtinA, lenA, elems, minMaxA, mm2, indexA, sliceA, boundA, Try.underlying3, Try.underlying9, Try.underlying5, Try.underlying4, List.toList_toArray, List.getD_eq_getElem?_getD, List.getElem?_set, List.length_set, Option.getD_some, Option.map_some, Option.isSome_none, List.append_nil, List.nil_append, List.map_nil, List.map_cons, reduceIte, Nat.reduceEqDiff, Nat.reduceLT, Bool.false_eq_true, Nat.reduceAdd, if_true, if_false, beq_tf, beq_ft, sealV, sealR, tupleA, finishA, resultsA, resultA, Int.toNat_natCast, retA, List.getElem?_toArray, List.getElem?_cons_zero, List.getElem?_cons_succ, Option.bind_some, AV.under, undersL, Bool.and_true, Bool.true_and, List.take_length, hl]; rfl
    clear hl h3 h5 h6 ts hs' hsv'
    rintro n ⟨ts, hp⟩ ⟨hl, h3, h9, h62, h63, i, hi, rfl, h64⟩
    refine Goes.seq ?_
    apply Goes.region 0
    · intro k _
      simp only [regionT, oneOp, wantedA, stepOp, putA, keep, evalX, evalL, evalParts, cstV, cst1, binA, intOp, strOp, unA, callA, builtinA, lenA, elems, minMaxA, mm2, indexA, sliceA, boundA, Try.underlying3, Try.underlying9, Try.underlying5, Try.underlying4, List.toList_toArray, List.getD_eq_getElem?_getD, List.getElem?_set, List.length_set, Option.getD_some, Option.map_some, Option.isSome_none, List.append_nil, List.nil_append, List.map_nil, List.map_cons, reduceIte, Nat.reduceEqDiff, Nat.reduceLT, Bool.false_eq_true, Nat.reduceAdd, if_true, if_false, beq_tf, beq_ft, sealV, sealR, tupleA, finishA, resultsA, resultA, Int.toNat_natCast, retA, List.getElem?_toArray, List.getElem?_cons_zero, List.getElem?_cons_succ, Option.bind_some, AV.under, undersL, Bool.and_true, Bool.true_and, List.take_length, hl, h63, h64] <;> rfl
    by_cases hlt : i < toks.length
    · have hlt' : (i : Int) < (toks.length : Int) := by omega
      have hc : toks[i]? = some toks[i] := List.getElem?_eq_getElem hlt
      have hc2 : toks2[i]? = some (toks2[i]'(by omega)) := List.getElem?_eq_getElem _
      have hkey : (toks2[i]'(by omega)).key = toks[i].key := by
        have := congrArg (fun l => l[i]?) hkeys
        simp only [List.getElem?_map] at this
        rw [List.getElem?_eq_getElem hlt, List.getElem?_eq_getElem (by omega)] at this
        simpa using this
      generalize toks[i] = t at hc hkey
      generalize toks2[i]'(by omega) = t2 at hc2 hkey
      simp only [Tok.key, Prod.mk.injEq] at hkey
      obtain ⟨k1, k2, k3⟩ := hkey
      have e1 : (t.kind != t2.kind) = false := by rw [k1]; exact bne_self_eq_false _
      have e2 : (t.text == t2.text) = true := by rw [k2]; exact beq_self_eq_true _
      have e3 : (t.n != t2.n) = false := by rw [k3]; exact bne_self_eq_false _
      refine Goes.seq (Goes.cond true (by simp only [regionT, oneOp, wantedA, stepOp, putA, keep, evalX, evalL, evalParts, cstV, cst1, binA, intOp, strOp, unA, callA, builtinA, lenA, elems, minMaxA, mm2, indexA, sliceA, boundA, Try.underlying3, Try.underlying9, Try.underlying5, Try.underlying4, List.toList_toArray, List.getD_eq_getElem?_getD, List.getElem?_set, List.length_set, Option.getD_some, Option.map_some, Option.isSome_none, List.append_nil, List.nil_append, List.map_nil, List.map_cons, reduceIte, Nat.reduceEqDiff, Nat.reduceLT, Bool.false_eq_true, Nat.reduceAdd, if_true, if_false, beq_tf, beq_ft, sealV, sealR, tupleA, finishA, resultsA, resultA, Int.toNat_natCast, retA, List.getElem?_toArray, List.getElem?_cons_zero, List.getElem?_cons_succ, Option.bind_some, AV.under, undersL, Bool.and_true, Bool.true_and, List.take_length, hl, hlt', decide_true]) ?_)
      apply Goes.skip
      refine Goes.seq (Goes.block (Goes.seq ?_))
      apply Goes.region 0
      · intro k _
        simp only [regionT, oneOp, wantedA, stepOp, putA, keep, evalX, evalL, evalParts, cstV, cst1, binA, intOp, strOp, unA, callA, builtinA, lenA, elems, minMaxA, mm2, indexA, sliceA, boundA, Try.underlying3, Try.underlying9, Try.underlying5, Try.underlying4, List.toList_toArray, List.getD_eq_getElem?_getD, List.getElem?_set, List.length_set, Option.getD_some, Option.map_some, Option.isSome_none, List.append_nil, List.nil_append, List.map_nil, List.map_cons, reduceIte, Nat.reduceEqDiff, Nat.reduceLT, Bool.false_eq_true, Nat.reduceAdd, if_true, if_false, beq_tf, beq_ft, sealV, sealR, tupleA, finishA, resultsA, resultA, Int.toNat_natCast, retA, List.getElem?_toArray, List.getElem?_cons_zero, List.getElem?_cons_succ, Option.bind_some, AV.under, undersL, Bool.and_true, Bool.true_and, List.take_length, hl, h64] <;> rfl
      refine Goes.seq ?_
      apply Goes.draw 0
      · intro k _
        simp (decide := true) only [regionT, oneOp, wantedA, stepOp, putA, keep, evalX, evalL, evalParts, cstV, cst1, binA, intOp, strOp, unA, callA, builtinA, lenA, elems, minMaxA, mm2, indexA, sliceA, boundA, Try.underlying3, Try.underlying9, Try.underlying5, Try.underlying4, List.toList_toArray, List.getD_eq_getElem?_getD, List.getElem?_set, List.length_set, Option.getD_some, Option.map_some, Option.isSome_none, List.append_nil, List.nil_append, List.map_nil, List.map_cons, reduceIte, Nat.reduceEqDiff, Nat.reduceLT, Bool.false_eq_true, Nat.reduceAdd, if_true, if_false, beq_tf, beq_ft, sealV, sealR, tupleA, finishA, resultsA, resultA, Int.toNat_natCast, retA, List.getElem?_toArray, List.getElem?_cons_zero, List.getElem?_cons_succ, Option.bind_some, AV.under, undersL, Bool.and_true, Bool.true_and, List.take_length, regionDraw, regionD, doneOp, footOf, footA, placeOf, nextAt, writesOf, makesBox, onlyReads, restrictA, holesA, setIds, countBoxes, AV.ids, idsL, List.length_append, List.length_cons, List.length_nil, List.length_replicate, List.replicate, List.headD_cons, List.tail_cons, Option.toList_none, List.nil_append, List.contains_nil, List.contains_cons, Bool.or_true, Bool.true_or, Bool.or_false, Bool.false_or, Option.isNone_some, Option.isNone_none, Bool.and_false, Bool.false_and, nilCheckA, loadA, partA, Nat.reduceBEq, beq_self_eq_true, List.drop_zero, Op.operands, Call.operands, Array.toList_append, reachA, Nat.reduceMul, List.length_map, Nat.zero_add, Nat.add_zero, List.getElem?_nil, List.set_cons_zero, and_self, and_true, true_and, List.cons_append, List.append_assoc, hl, h3, h9, index_sl hc, index_sl hc2, fe34_0, fe34_1, fe34_2, agg3', size3', agg9, size9, Bool.not_true, Bool.not_false, e1, e2, e3, holes_restrict, length_restrict] <;> rfl
      refine Goes.cond false (by simp only [regionT, oneOp, wantedA, stepOp, putA, keep, evalX, evalL, evalParts, cstV, cst1, binA, intOp, strOp, unA, callA, builtinA, lenA, elems, minMaxA, mm2, indexA, sliceA, boundA, Try.underlying3, Try.underlying9, Try.underlying5, Try.underlying4, List.toList_toArray, List.getD_eq_getElem?_getD, List.getElem?_set, List.length_set, Option.getD_some, Option.map_some, Option.isSome_none, List.append_nil, List.nil_append, List.map_nil, List.map_cons, reduceIte, Nat.reduceEqDiff, Nat.reduceLT, Bool.false_eq_true, Nat.reduceAdd, if_true, if_false, beq_tf, beq_ft, sealV, sealR, tupleA, finishA, resultsA, resultA, Int.toNat_natCast, retA, List.getElem?_toArray, List.getElem?_cons_zero, List.getElem?_cons_succ, Option.bind_some, AV.under, undersL, Bool.and_true, Bool.true_and, List.take_length, hl]) ?_
      apply Goes.skip
      apply Goes.region 0
      · intro k _
        simp only [regionT, oneOp, wantedA, stepOp, putA, keep, evalX, evalL, evalParts, cstV, cst1, binA, intOp, strOp, unA, callA, builtinA, lenA, elems, minMaxA, mm2, indexA, sliceA, boundA, Try.underlying3, Try.underlying9, Try.underlying5, Try.underlying4, List.toList_toArray, List.getD_eq_getElem?_getD, List.getElem?_set, List.length_set, Option.getD_some, Option.map_some, Option.isSome_none, List.append_nil, List.nil_append, List.map_nil, List.map_cons, reduceIte, Nat.reduceEqDiff, Nat.reduceLT, Bool.false_eq_true, Nat.reduceAdd, if_true, if_false, beq_tf, beq_ft, sealV, sealR, tupleA, finishA, resultsA, resultA, Int.toNat_natCast, retA, List.getElem?_toArray, List.getElem?_cons_zero, List.getElem?_cons_succ, Option.bind_some, AV.under, undersL, Bool.and_true, Bool.true_and, List.take_length, hl, h64, wrap64 ((i : Int) + 1) (by omega) (by omega)] <;> rfl
      refine ⟨toks.length - (i + 1), by omega, ?_, ?_, ?_, ?_, ?_, i + 1, by omega, rfl, ?_⟩
      · simp only [regionT, oneOp, wantedA, stepOp, putA, keep, evalX, evalL, evalParts, cstV, cst1, binA, intOp, strOp, unA, callA, builtinA, lenA, elems, minMaxA, mm2, indexA, sliceA, boundA, Try.underlying3, Try.underlying9, Try.underlying5, Try.underlying4, List.toList_toArray, List.getD_eq_getElem?_getD, List.getElem?_set, List.length_set, Option.getD_some, Option.map_some, Option.isSome_none, List.append_nil, List.nil_append, List.map_nil, List.map_cons, reduceIte, Nat.reduceEqDiff, Nat.reduceLT, Bool.false_eq_true, Nat.reduceAdd, if_true, if_false, beq_tf, beq_ft, sealV, sealR, tupleA, finishA, resultsA, resultA, Int.toNat_natCast, retA, List.getElem?_toArray, List.getElem?_cons_zero, List.getElem?_cons_succ, Option.bind_some, AV.under, undersL, Bool.and_true, Bool.true_and, List.take_length, hl]
      · simp only [regionT, oneOp, wantedA, stepOp, putA, keep, evalX, evalL, evalParts, cstV, cst1, binA, intOp, strOp, unA, callA, builtinA, lenA, elems, minMaxA, mm2, indexA, sliceA, boundA, Try.underlying3, Try.underlying9, Try.underlying5, Try.underlying4, List.toList_toArray, List.getD_eq_getElem?_getD, List.getElem?_set, List.length_set, Option.getD_some, Option.map_some, Option.isSome_none, List.append_nil, List.nil_append, List.map_nil, List.map_cons, reduceIte, Nat.reduceEqDiff, Nat.reduceLT, Bool.false_eq_true, Nat.reduceAdd, if_true, if_false, beq_tf, beq_ft, sealV, sealR, tupleA, finishA, resultsA, resultA, Int.toNat_natCast, retA, List.getElem?_toArray, List.getElem?_cons_zero, List.getElem?_cons_succ, Option.bind_some, AV.under, undersL, Bool.and_true, Bool.true_and, List.take_length, hl, h3]
      · simp only [regionT, oneOp, wantedA, stepOp, putA, keep, evalX, evalL, evalParts, cstV, cst1, binA, intOp, strOp, unA, callA, builtinA, lenA, elems, minMaxA, mm2, indexA, sliceA, boundA, Try.underlying3, Try.underlying9, Try.underlying5, Try.underlying4, List.toList_toArray, List.getD_eq_getElem?_getD, List.getElem?_set, List.length_set, Option.getD_some, Option.map_some, Option.isSome_none, List.append_nil, List.nil_append, List.map_nil, List.map_cons, reduceIte, Nat.reduceEqDiff, Nat.reduceLT, Bool.false_eq_true, Nat.reduceAdd, if_true, if_false, beq_tf, beq_ft, sealV, sealR, tupleA, finishA, resultsA, resultA, Int.toNat_natCast, retA, List.getElem?_toArray, List.getElem?_cons_zero, List.getElem?_cons_succ, Option.bind_some, AV.under, undersL, Bool.and_true, Bool.true_and, List.take_length, hl, h9]
      · simp only [regionT, oneOp, wantedA, stepOp, putA, keep, evalX, evalL, evalParts, cstV, cst1, binA, intOp, strOp, unA, callA, builtinA, lenA, elems, minMaxA, mm2, indexA, sliceA, boundA, Try.underlying3, Try.underlying9, Try.underlying5, Try.underlying4, List.toList_toArray, List.getD_eq_getElem?_getD, List.getElem?_set, List.length_set, Option.getD_some, Option.map_some, Option.isSome_none, List.append_nil, List.nil_append, List.map_nil, List.map_cons, reduceIte, Nat.reduceEqDiff, Nat.reduceLT, Bool.false_eq_true, Nat.reduceAdd, if_true, if_false, beq_tf, beq_ft, sealV, sealR, tupleA, finishA, resultsA, resultA, Int.toNat_natCast, retA, List.getElem?_toArray, List.getElem?_cons_zero, List.getElem?_cons_succ, Option.bind_some, AV.under, undersL, Bool.and_true, Bool.true_and, List.take_length, hl, h62]
      · simp only [regionT, oneOp, wantedA, stepOp, putA, keep, evalX, evalL, evalParts, cstV, cst1, binA, intOp, strOp, unA, callA, builtinA, lenA, elems, minMaxA, mm2, indexA, sliceA, boundA, Try.underlying3, Try.underlying9, Try.underlying5, Try.underlying4, List.toList_toArray, List.getD_eq_getElem?_getD, List.getElem?_set, List.length_set, Option.getD_some, Option.map_some, Option.isSome_none, List.append_nil, List.nil_append, List.map_nil, List.map_cons, reduceIte, Nat.reduceEqDiff, Nat.reduceLT, Bool.false_eq_true, Nat.reduceAdd, if_true, if_false, beq_tf, beq_ft, sealV, sealR, tupleA, finishA, resultsA, resultA, Int.toNat_natCast, retA, List.getElem?_toArray, List.getElem?_cons_zero, List.getElem?_cons_succ, Option.bind_some, AV.under, undersL, Bool.and_true, Bool.true_and, List.take_length, hl, h63]
      · simp only [regionT, oneOp, wantedA, stepOp, putA, keep, evalX, evalL, evalParts, cstV, cst1, binA, intOp, strOp, unA, callA, builtinA, lenA, elems, minMaxA, mm2, indexA, sliceA, boundA, Try.underlying3, Try.underlying9, Try.underlying5, Try.underlying4, List.toList_toArray, List.getD_eq_getElem?_getD, List.getElem?_set, List.length_set, Option.getD_some, Option.map_some, Option.isSome_none, List.append_nil, List.nil_append, List.map_nil, List.map_cons, reduceIte, Nat.reduceEqDiff, Nat.reduceLT, Bool.false_eq_true, Nat.reduceAdd, if_true, if_false, beq_tf, beq_ft, sealV, sealR, tupleA, finishA, resultsA, resultA, Int.toNat_natCast, retA, List.getElem?_toArray, List.getElem?_cons_zero, List.getElem?_cons_succ, Option.bind_some, AV.under, undersL, Bool.and_true, Bool.true_and, List.take_length, hl, Int.natCast_add, Int.natCast_one]
    have hlt' : ¬ (i : Int) < (toks.length : Int) := by omega
    refine Goes.seq (Goes.cond false (by simp only [regionT, oneOp, wantedA, stepOp, putA, keep, evalX, evalL, evalParts, cstV, cst1, binA, intOp, strOp, unA, callA, builtinA, lenA, elems, minMaxA, mm2, indexA, sliceA, boundA, Try.underlying3, Try.underlying9, Try.underlying5, Try.underlying4, List.toList_toArray, List.getD_eq_getElem?_getD, List.getElem?_set, List.length_set, Option.getD_some, Option.map_some, Option.isSome_none, List.append_nil, List.nil_append, List.map_nil, List.map_cons, reduceIte, Nat.reduceEqDiff, Nat.reduceLT, Bool.false_eq_true, Nat.reduceAdd, if_true, if_false, beq_tf, beq_ft, sealV, sealR, tupleA, finishA, resultsA, resultA, Int.toNat_natCast, retA, List.getElem?_toArray, List.getElem?_cons_zero, List.getElem?_cons_succ, Option.bind_some, AV.under, undersL, Bool.and_true, Bool.true_and, List.take_length, hl, hlt', decide_false]) ?_)
    apply Goes.exit
    simp only [if_true]
    obtain ⟨ka, ha⟩ := alive_any hp
    refine Goes.seq ?_
    apply Goes.region ka
    · intro k hk
      simp only [regionT, oneOp, wantedA, stepOp, putA, keep, evalX, evalL, evalParts, cstV, cst1, binA, intOp, strOp, unA, callA, builtinA, lenA, elems, minMaxA, mm2, indexA, sliceA, boundA, Try.underlying3, Try.underlying9, Try.underlying5, Try.underlying4, List.toList_toArray, List.getD_eq_getElem?_getD, List.getElem?_set, List.length_set, Option.getD_some, Option.map_some, Option.isSome_none, List.append_nil, List.nil_append, List.map_nil, List.map_cons, reduceIte, Nat.reduceEqDiff, Nat.reduceLT, Bool.false_eq_true, Nat.reduceAdd, if_true, if_false, beq_tf, beq_ft, sealV, sealR, tupleA, finishA, resultsA, resultA, Int.toNat_natCast, retA, List.getElem?_toArray, List.getElem?_cons_zero, List.getElem?_cons_succ, Option.bind_some, AV.under, undersL, Bool.and_true, Bool.true_and, List.take_length, hl, ha k hk] <;> rfl
    apply Goes.ret
    refine ⟨.inr rfl, .dat (.bool true), [], ?_, rfl⟩
    simp only [regionT, oneOp, wantedA, stepOp, putA, keep, evalX, evalL, evalParts, cstV, cst1, binA, intOp, strOp, unA, callA, builtinA, lenA, elems, minMaxA, mm2, indexA, sliceA, boundA, Try.underlying3, Try.underlying9, Try.underlying5, Try.underlying4, List.toList_toArray, List.getD_eq_getElem?_getD, List.getElem?_set, List.length_set, Option.getD_some, Option.map_some, Option.isSome_none, List.append_nil, List.nil_append, List.map_nil, List.map_cons, reduceIte, Nat.reduceEqDiff, Nat.reduceLT, Bool.false_eq_true, Nat.reduceAdd, if_true, if_false, beq_tf, beq_ft, sealV, sealR, tupleA, finishA, resultsA, resultA, Int.toNat_natCast, retA, List.getElem?_toArray, List.getElem?_cons_zero, List.getElem?_cons_succ, Option.bind_some, AV.under, undersL, Bool.and_true, Bool.true_and, List.take_length, hl, Try.results4, List.take_zero, List.length_nil]
end Go.Proofs.Ytfdcjngclelnhaa
