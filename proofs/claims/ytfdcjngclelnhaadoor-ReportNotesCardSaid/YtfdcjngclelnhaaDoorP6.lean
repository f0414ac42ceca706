/- A row, as the program tells it. -/
import Derived.Test.YtfdcjngclelnhaaDoorP5
set_option linter.unusedSectionVars false
set_option linter.unusedSimpArgs false
set_option linter.unusedVariables false
set_option linter.unusedSimpArgs false
namespace Go.Proofs.YtfdcjngclelnhaaDoor
open Go Go.RowKit

def pValue : Prim := fun args h => match args with
  | [.dat (.agg [.int .i64 t, .int .i64 n, .str s])] => if is64 n = true ∧ s.length ≤ 20000000 then some (.dat (.str (valText ⟨t, n, s⟩)), h) else none
  | _ => none

def primC : FuncId → Option Prim := over primB 14 pValue

theorem primsC_ok : PrimsOk Tryd.prog primC := over_ok primsB_ok fun args h v h' hs => by
  unfold pValue at hs
  split at hs
  · split at hs
    · cases hs
      rename_i hv
      exact ⟨rfl, rfl, rfl, value_calls ⟨_, _, _⟩ ⟨hv.1, hv.2⟩⟩
    · cases hs
  · cases hs

theorem get_last (H : Heap) (o : Option AObj) : (H ++ [o])[H.length]? = some o := by simp
theorem set_last (H : Heap) (o o' : Option AObj) : (H ++ [o]).set H.length o' = H ++ [o'] := by simp

theorem zero26 : zeroA Tryd.prog 26 = some (.dat (.agg [.int .i64 0, .int .i64 0, .str []])) := by kernel_rfl
theorem info9 : Tryd.prog.info? 9 = some Tryd.t9 := by kernel_rfl
theorem t9_size : Tryd.t9.size = 1 := rfl
theorem t9_bytes : Tryd.t9.bytes = 16 := rfl
theorem t9_zero : (Tryd.t9.zero.map fun v => v.cells.size) = some 1 := rfl
theorem build57_all : (fun (a : List UInt8) => buildSliceA Tryd.prog 57 1 [(0, .dat (.str a))]) = fun a => some (.own .full [.str a]) := by kernel_rfl
theorem build57 (a : List UInt8) : buildSliceA Tryd.prog 57 1 [(0, .dat (.str a))] = some (.own .full [.str a]) := congrFun build57_all a

/-- a row of values: nil, or its values in a row -/
def IsRow (d : D) (vs : List Val) : Prop := (d = .nils ∧ vs = []) ∨ d = .slice (vs.map Val.d)

theorem IsRow.len {d : D} {vs : List Val} (h : IsRow d vs) : lenA Tryd.prog 22 (.dat d) = some (.dat (.int .i64 vs.length)) := by
  have h1 : lenA Tryd.prog 22 (.dat .nils) = some (.dat (.int .i64 ((0 : Nat) : Int))) := by kernel_rfl
  have h2 : (fun es => lenA Tryd.prog 22 (.dat (.slice es))) = fun es => some (.dat (.int .i64 es.length)) := by kernel_rfl
  rcases h with ⟨rfl, rfl⟩ | rfl
  · exact h1
  · have := congrFun h2 (vs.map Val.d)
    rw [List.length_map] at this
    exact this

theorem IsRow.get {d : D} {vs : List Val} (h : IsRow d vs) {i : Nat} {v : Val} (hv : vs[i]? = some v) : indexAddrA Tryd.prog 22 (.dat d) (.dat (.int .i64 i)) = some (.ep [.int .i64 v.ty, .int .i64 v.n, .str v.s] 0) := by
  rcases h with ⟨rfl, rfl⟩ | rfl
  · cases hv
  · have hu : Tryd.prog.underlying 22 = some (.slice 26) := by kernel_rfl
    have hneg : ¬ (i : Int) < 0 := by omega
    simp only [indexAddrA, hneg, if_false, hu, size26, elems, Int.toNat_natCast, List.getElem?_map, hv, Option.map_some, Val.d, D.cells, List.length_cons, List.length_nil]
    rfl

/-- the texts so far -/
def lt (t : Nat) : List (List UInt8) → AV
  | [] => .dat .nils
  | a :: r => .own (.tip t) (.str a :: r.map D.str)

def tipOk (H : Heap) (t : Nat) (l : List (List UInt8)) : Prop := l = [] ∨ H[t]? = some (some (.tip 9 l.length 1))

theorem get_old {H : Heap} {t : Nat} {o : Option AObj} (h : H[t]? = some o) (o' : Option AObj) : (H ++ [o'])[t]? = some o := by
  have hlt : t < H.length := (List.getElem?_eq_some_iff.1 h).1
  rw [List.getElem?_append_left hlt, h]

theorem room16 (n : Nat) (h : n ≤ 1000000) : roomOk n 16 = true := by
  unfold roomOk
  apply decide_eq_true
  omega

theorem under57 : Tryd.prog.underlying 57 = some (.slice 9) := by kernel_rfl

structure I10 (d : D) (vs : List Val) (n : Nat) (st : St) : Prop where
  len : st.tmps.length = 20
  h6 : st.tmps[6]? = some (.dat d)
  h7 : st.tmps[7]? = some (.dat (.int .i64 vs.length))
  ex : ∃ i t : Nat, i ≤ vs.length ∧ n = vs.length - i ∧ st.tmps[8]? = some (.dat (.int .i64 i)) ∧ st.tmps[3]? = some (lt t ((vs.take i).map valText)) ∧ tipOk st.heap t ((vs.take i).map valText)

/-- a row's text -/
def rowText (vs : List Val) : List UInt8 := joined [44, 32] (vs.map valText)

structure FitRow (d : D) (vs : List Val) : Prop where
  row : IsRow d vs
  fits : ∀ v ∈ vs, v.fits
  few : vs.length ≤ 1000
  small : (rowText vs).length ≤ 140737488355328

theorem strsOf_map : ∀ l : List (List UInt8), strsOf (l.map D.str) = some l
  | [] => rfl
  | a :: r => by simp only [List.map_cons, strsOf, strsOf_map r, Option.map_some]

theorem row_calls {d : D} {vs : List Val} (hf : FitRow d vs) : CallsTo Tryd.prog primC 10 [.dat d] [] (.dat (.str (rowText vs))) [] := by
  have hlen := hf.row.len
  have hfew := hf.few
  refine CallsTo.body Tryd.func10 rfl rfl (Nat.le_of_ble_eq_true rfl) fun ts hl hts => ?_
  rw [Tryd.ntmps10] at hl
  have h0 := hts 0 _ rfl
  have hsd : sealV (.dat d) = .dat d := rfl
  rw [hsd] at h0
  clear hts
  refine Goes.seq ?_
  apply Goes.region 0
  · intro k _
    simp only [regionT, oneOp, wantedA, stepOp, putA, keep, evalX, evalL, evalParts, cstV, cst1, binA, intOp, strOp, unA, callA, builtinA, lenA, elems, minMaxA, mm2, indexA, sliceA, boundA, Tryd.underlying3, Tryd.underlying9, Tryd.underlying5, Tryd.underlying4, List.toList_toArray, List.getD_eq_getElem?_getD, List.getElem?_set, List.length_set, Option.getD_some, Option.map_some, Option.isSome_none, List.append_nil, List.nil_append, List.map_nil, List.map_cons, reduceIte, Nat.reduceEqDiff, Nat.reduceLT, Bool.false_eq_true, Nat.reduceAdd, if_true, if_false, beq_tf, beq_ft, sealV, sealR, tupleA, finishA, resultsA, resultA, Int.toNat_natCast, retA, List.getElem?_toArray, List.getElem?_cons_zero, List.getElem?_cons_succ, Option.bind_some, AV.under, undersL, Bool.and_true, Bool.true_and, List.take_length, nilNil, constX, Bool.true_or, Bool.or_true, Bool.or_false, Bool.false_or, Bool.not_true, Bool.not_false, hl, h0] <;> rfl
  refine Goes.seq ?_
  apply Goes.region 0
  · intro k _
    simp only [regionT, oneOp, wantedA, stepOp, putA, keep, evalX, evalL, evalParts, cstV, cst1, binA, intOp, strOp, unA, callA, builtinA, lenA, elems, minMaxA, mm2, indexA, sliceA, boundA, Tryd.underlying3, Tryd.underlying9, Tryd.underlying5, Tryd.underlying4, List.toList_toArray, List.getD_eq_getElem?_getD, List.getElem?_set, List.length_set, Option.getD_some, Option.map_some, Option.isSome_none, List.append_nil, List.nil_append, List.map_nil, List.map_cons, reduceIte, Nat.reduceEqDiff, Nat.reduceLT, Bool.false_eq_true, Nat.reduceAdd, if_true, if_false, beq_tf, beq_ft, sealV, sealR, tupleA, finishA, resultsA, resultA, Int.toNat_natCast, retA, List.getElem?_toArray, List.getElem?_cons_zero, List.getElem?_cons_succ, Option.bind_some, AV.under, undersL, Bool.and_true, Bool.true_and, List.take_length, nilNil, constX, Bool.true_or, Bool.or_true, Bool.or_false, Bool.false_or, Bool.not_true, Bool.not_false, hl, h0] <;> rfl
  refine Goes.seq (Goes.mid (I10 d vs vs.length) ?_ ?_)
  · have hb : builtinA Tryd.prog .len [22] none [.dat d] [] = some (.dat (.int .i64 vs.length), []) := by
      unfold builtinA
      simp only [hlen, Option.map_some]
    apply Goes.region 0
    · intro k _
      simp only [regionT, oneOp, wantedA, stepOp, putA, keep, evalX, evalL, cstV, cst1, callA, hb, List.toList_toArray, List.getD_eq_getElem?_getD, List.getElem?_set, List.length_set, hl, h0, Option.getD_some, Option.map_some, Nat.reduceEqDiff, reduceIte, Nat.reduceLT, if_true, if_false] <;> rfl
    refine ⟨rfl, ?_, ?_, ?_, 0, 0, Nat.zero_le _, rfl, ?_, ?_, Or.inl rfl⟩
    · simp only [regionT, oneOp, wantedA, stepOp, putA, keep, evalX, evalL, evalParts, cstV, cst1, binA, intOp, strOp, unA, callA, builtinA, lenA, elems, minMaxA, mm2, indexA, sliceA, boundA, Tryd.underlying3, Tryd.underlying9, Tryd.underlying5, Tryd.underlying4, List.toList_toArray, List.getD_eq_getElem?_getD, List.getElem?_set, List.length_set, Option.getD_some, Option.map_some, Option.isSome_none, List.append_nil, List.nil_append, List.map_nil, List.map_cons, reduceIte, Nat.reduceEqDiff, Nat.reduceLT, Bool.false_eq_true, Nat.reduceAdd, if_true, if_false, beq_tf, beq_ft, sealV, sealR, tupleA, finishA, resultsA, resultA, Int.toNat_natCast, retA, List.getElem?_toArray, List.getElem?_cons_zero, List.getElem?_cons_succ, Option.bind_some, AV.under, undersL, Bool.and_true, Bool.true_and, List.take_length, nilNil, constX, Bool.true_or, Bool.or_true, Bool.or_false, Bool.false_or, Bool.not_true, Bool.not_false, hl]
    · simp only [regionT, oneOp, wantedA, stepOp, putA, keep, evalX, evalL, evalParts, cstV, cst1, binA, intOp, strOp, unA, callA, builtinA, lenA, elems, minMaxA, mm2, indexA, sliceA, boundA, Tryd.underlying3, Tryd.underlying9, Tryd.underlying5, Tryd.underlying4, List.toList_toArray, List.getD_eq_getElem?_getD, List.getElem?_set, List.length_set, Option.getD_some, Option.map_some, Option.isSome_none, List.append_nil, List.nil_append, List.map_nil, List.map_cons, reduceIte, Nat.reduceEqDiff, Nat.reduceLT, Bool.false_eq_true, Nat.reduceAdd, if_true, if_false, beq_tf, beq_ft, sealV, sealR, tupleA, finishA, resultsA, resultA, Int.toNat_natCast, retA, List.getElem?_toArray, List.getElem?_cons_zero, List.getElem?_cons_succ, Option.bind_some, AV.under, undersL, Bool.and_true, Bool.true_and, List.take_length, nilNil, constX, Bool.true_or, Bool.or_true, Bool.or_false, Bool.false_or, Bool.not_true, Bool.not_false, hl]
    · simp only [regionT, oneOp, wantedA, stepOp, putA, keep, evalX, evalL, evalParts, cstV, cst1, binA, intOp, strOp, unA, callA, builtinA, lenA, elems, minMaxA, mm2, indexA, sliceA, boundA, Tryd.underlying3, Tryd.underlying9, Tryd.underlying5, Tryd.underlying4, List.toList_toArray, List.getD_eq_getElem?_getD, List.getElem?_set, List.length_set, Option.getD_some, Option.map_some, Option.isSome_none, List.append_nil, List.nil_append, List.map_nil, List.map_cons, reduceIte, Nat.reduceEqDiff, Nat.reduceLT, Bool.false_eq_true, Nat.reduceAdd, if_true, if_false, beq_tf, beq_ft, sealV, sealR, tupleA, finishA, resultsA, resultA, Int.toNat_natCast, retA, List.getElem?_toArray, List.getElem?_cons_zero, List.getElem?_cons_succ, Option.bind_some, AV.under, undersL, Bool.and_true, Bool.true_and, List.take_length, nilNil, constX, Bool.true_or, Bool.or_true, Bool.or_false, Bool.false_or, Bool.not_true, Bool.not_false, hl]
    · simp only [regionT, oneOp, wantedA, stepOp, putA, keep, evalX, evalL, evalParts, cstV, cst1, binA, intOp, strOp, unA, callA, builtinA, lenA, elems, minMaxA, mm2, indexA, sliceA, boundA, Tryd.underlying3, Tryd.underlying9, Tryd.underlying5, Tryd.underlying4, List.toList_toArray, List.getD_eq_getElem?_getD, List.getElem?_set, List.length_set, Option.getD_some, Option.map_some, Option.isSome_none, List.append_nil, List.nil_append, List.map_nil, List.map_cons, reduceIte, Nat.reduceEqDiff, Nat.reduceLT, Bool.false_eq_true, Nat.reduceAdd, if_true, if_false, beq_tf, beq_ft, sealV, sealR, tupleA, finishA, resultsA, resultA, Int.toNat_natCast, retA, List.getElem?_toArray, List.getElem?_cons_zero, List.getElem?_cons_succ, Option.bind_some, AV.under, undersL, Bool.and_true, Bool.true_and, List.take_length, nilNil, constX, Bool.true_or, Bool.or_true, Bool.or_false, Bool.false_or, Bool.not_true, Bool.not_false, hl] <;> rfl
    · simp only [regionT, oneOp, wantedA, stepOp, putA, keep, evalX, evalL, evalParts, cstV, cst1, binA, intOp, strOp, unA, callA, builtinA, lenA, elems, minMaxA, mm2, indexA, sliceA, boundA, Tryd.underlying3, Tryd.underlying9, Tryd.underlying5, Tryd.underlying4, List.toList_toArray, List.getD_eq_getElem?_getD, List.getElem?_set, List.length_set, Option.getD_some, Option.map_some, Option.isSome_none, List.append_nil, List.nil_append, List.map_nil, List.map_cons, reduceIte, Nat.reduceEqDiff, Nat.reduceLT, Bool.false_eq_true, Nat.reduceAdd, if_true, if_false, beq_tf, beq_ft, sealV, sealR, tupleA, finishA, resultsA, resultA, Int.toNat_natCast, retA, List.getElem?_toArray, List.getElem?_cons_zero, List.getElem?_cons_succ, Option.bind_some, AV.under, undersL, Bool.and_true, Bool.true_and, List.take_length, nilNil, constX, Bool.true_or, Bool.or_true, Bool.or_false, Bool.false_or, Bool.not_true, Bool.not_false, hl] <;> rfl
  clear hl h0 ts
  rintro ⟨ts, H⟩ hI
  refine Goes.block (Goes.loop (I10 d vs) ?_ _ _ hI)
  clear hI ts H
  rintro n ⟨ts, H⟩ ⟨hl, h6, h7, i, t, hi, rfl, h8, h3, htip⟩
  refine Goes.seq ?_
  by_cases hlt : i < vs.length
  · have hlt' : (i : Int) < vs.length := by omega
    have hv : vs[i]? = some vs[i] := List.getElem?_eq_getElem hlt
    have hget := hf.row.get hv
    have hfit := hf.fits vs[i] (List.getElem_mem hlt)
    have htk : (vs.take (i + 1)).map valText = (vs.take i).map valText ++ [valText vs[i]] := by
      rw [List.take_add_one, hv, List.map_append]; rfl
    have wrapI : IntKind.i64.wrap ((i : Int) + 1) = ((i + 1 : Nat) : Int) := by rw [wrap64 _ (by omega) (by omega)]; rfl
    have hll : ((vs.take i).map valText).length = i := by rw [List.length_map, List.length_take]; omega
    generalize vs[i] = v at *
    generalize (vs.take i).map valText = l at *
    have hV : ∀ k h, call Tryd.prog primC k 14 [.dat (.agg [.int .i64 v.ty, .int .i64 v.n, .str v.s])] h = some (.dat (.str (valText v)), h) := fun k h => by
      show (if is64 v.n = true ∧ v.s.length ≤ 20000000 then _ else _) = _
      rw [if_pos ⟨hfit.n, hfit.s⟩]
    apply Goes.region 0
    · intro k _
      simp only [regionT, oneOp, wantedA, stepOp, putA, keep, evalX, evalL, evalParts, cstV, cst1, binA, intOp, strOp, unA, callA, builtinA, lenA, elems, minMaxA, mm2, indexA, sliceA, boundA, Tryd.underlying3, Tryd.underlying9, Tryd.underlying5, Tryd.underlying4, List.toList_toArray, List.getD_eq_getElem?_getD, List.getElem?_set, List.length_set, Option.getD_some, Option.map_some, Option.isSome_none, List.append_nil, List.nil_append, List.map_nil, List.map_cons, reduceIte, Nat.reduceEqDiff, Nat.reduceLT, Bool.false_eq_true, Nat.reduceAdd, if_true, if_false, beq_tf, beq_ft, sealV, sealR, tupleA, finishA, resultsA, resultA, Int.toNat_natCast, retA, List.getElem?_toArray, List.getElem?_cons_zero, List.getElem?_cons_succ, Option.bind_some, AV.under, undersL, Bool.and_true, Bool.true_and, List.take_length, nilNil, constX, Bool.true_or, Bool.or_true, Bool.or_false, Bool.false_or, Bool.not_true, Bool.not_false, hl, h7, h8, hlt', decide_true] <;> rfl
    refine Goes.seq (Goes.cond true (by simp only [regionT, oneOp, wantedA, stepOp, putA, keep, evalX, evalL, evalParts, cstV, cst1, binA, intOp, strOp, unA, callA, builtinA, lenA, elems, minMaxA, mm2, indexA, sliceA, boundA, Tryd.underlying3, Tryd.underlying9, Tryd.underlying5, Tryd.underlying4, List.toList_toArray, List.getD_eq_getElem?_getD, List.getElem?_set, List.length_set, Option.getD_some, Option.map_some, Option.isSome_none, List.append_nil, List.nil_append, List.map_nil, List.map_cons, reduceIte, Nat.reduceEqDiff, Nat.reduceLT, Bool.false_eq_true, Nat.reduceAdd, if_true, if_false, beq_tf, beq_ft, sealV, sealR, tupleA, finishA, resultsA, resultA, Int.toNat_natCast, retA, List.getElem?_toArray, List.getElem?_cons_zero, List.getElem?_cons_succ, Option.bind_some, AV.under, undersL, Bool.and_true, Bool.true_and, List.take_length, nilNil, constX, Bool.true_or, Bool.or_true, Bool.or_false, Bool.false_or, Bool.not_true, Bool.not_false, hl]) (Goes.skip ?_))
    refine Goes.seq (Goes.block (Goes.seq ?_))
    apply Goes.region 0
    · intro k _
      simp only [regionT, oneOp, wantedA, stepOp, putA, keep, evalX, evalL, evalParts, cstV, cst1, binA, intOp, strOp, unA, callA, builtinA, lenA, elems, minMaxA, mm2, indexA, sliceA, boundA, Tryd.underlying3, Tryd.underlying9, Tryd.underlying5, Tryd.underlying4, List.toList_toArray, List.getD_eq_getElem?_getD, List.getElem?_set, List.length_set, Option.getD_some, Option.map_some, Option.isSome_none, List.append_nil, List.nil_append, List.map_nil, List.map_cons, reduceIte, Nat.reduceEqDiff, Nat.reduceLT, Bool.false_eq_true, Nat.reduceAdd, if_true, if_false, beq_tf, beq_ft, sealV, sealR, tupleA, finishA, resultsA, resultA, Int.toNat_natCast, retA, List.getElem?_toArray, List.getElem?_cons_zero, List.getElem?_cons_succ, Option.bind_some, AV.under, undersL, Bool.and_true, Bool.true_and, List.take_length, nilNil, constX, Bool.true_or, Bool.or_true, Bool.or_false, Bool.false_or, Bool.not_true, Bool.not_false, storeA, AV.cells, D.cells, settleL, settle, spliceL, AV.isCell, List.all_cons, List.all_nil, Bool.and_self, List.take_succ_cons, List.take_zero, List.drop_succ_cons, List.drop_nil, List.length_cons, List.length_nil, Nat.reduceLeDiff, and_self, nilCheckA, loadA, partA, size3, agg3, size9, agg9, List.cons_append, List.nil_append, List.set_cons_zero, Nat.zero_add, List.drop_zero, Nat.le_refl, mkAgg, allDat, newVarA, allocObj, sealT, hl, h6, h8, hget, size26, agg26, zero26, get_last, set_last, List.map_cons, List.map_nil] <;> rfl
    cases l with
    | nil =>
      simp only [lt] at h3
      apply Goes.region 0
      · intro k _
        simp (decide := true) only [regionT, oneOp, wantedA, stepOp, putA, keep, evalX, evalL, evalParts, cstV, cst1, binA, intOp, strOp, unA, callA, builtinA, lenA, elems, minMaxA, mm2, indexA, sliceA, boundA, Tryd.underlying3, Tryd.underlying9, Tryd.underlying5, Tryd.underlying4, List.toList_toArray, List.getD_eq_getElem?_getD, List.getElem?_set, List.length_set, Option.getD_some, Option.map_some, Option.isSome_none, List.append_nil, List.nil_append, List.map_nil, List.map_cons, reduceIte, Nat.reduceEqDiff, Nat.reduceLT, Bool.false_eq_true, Nat.reduceAdd, if_true, if_false, beq_tf, beq_ft, sealV, sealR, tupleA, finishA, resultsA, resultA, Int.toNat_natCast, retA, List.getElem?_toArray, List.getElem?_cons_zero, List.getElem?_cons_succ, Option.bind_some, AV.under, undersL, Bool.and_true, Bool.true_and, List.take_length, nilNil, constX, Bool.true_or, Bool.or_true, Bool.or_false, Bool.false_or, Bool.not_true, Bool.not_false, storeA, AV.cells, D.cells, settleL, settle, spliceL, AV.isCell, List.all_cons, List.all_nil, Bool.and_self, List.take_succ_cons, List.take_zero, List.drop_succ_cons, List.drop_nil, List.length_cons, List.length_nil, Nat.reduceLeDiff, and_self, nilCheckA, loadA, partA, size3, agg3, size9, agg9, List.cons_append, List.nil_append, List.set_cons_zero, Nat.zero_add, List.drop_zero, Nat.le_refl, newVarA, allocObj, sealT, mkAgg, allDat, appendA, moreA, fitsD, D.flat, sized, List.map_append, List.isEmpty_cons, List.isEmpty_nil, List.singleton_append, List.concat_eq_append, List.set_cons_succ, Option.toList_some, List.getElem?_cons_succ, Option.map_some, Nat.reduceMul, Nat.reduceAdd, Nat.reducePow, List.length_singleton, List.all_cons, List.all_nil, Bool.and_true, Bool.and_self, hl, h3, hV, get_last, under57, info9, t9_size, t9_bytes, t9_zero, build57, size26, agg26] <;> rfl
      apply Goes.region 0
      · intro k _
        simp only [regionT, oneOp, wantedA, stepOp, putA, keep, evalX, evalL, evalParts, cstV, cst1, binA, intOp, strOp, unA, callA, builtinA, lenA, elems, minMaxA, mm2, indexA, sliceA, boundA, Tryd.underlying3, Tryd.underlying9, Tryd.underlying5, Tryd.underlying4, List.toList_toArray, List.getD_eq_getElem?_getD, List.getElem?_set, List.length_set, Option.getD_some, Option.map_some, Option.isSome_none, List.append_nil, List.nil_append, List.map_nil, List.map_cons, reduceIte, Nat.reduceEqDiff, Nat.reduceLT, Bool.false_eq_true, Nat.reduceAdd, if_true, if_false, beq_tf, beq_ft, sealV, sealR, tupleA, finishA, resultsA, resultA, Int.toNat_natCast, retA, List.getElem?_toArray, List.getElem?_cons_zero, List.getElem?_cons_succ, Option.bind_some, AV.under, undersL, Bool.and_true, Bool.true_and, List.take_length, nilNil, constX, Bool.true_or, Bool.or_true, Bool.or_false, Bool.false_or, Bool.not_true, Bool.not_false, hl, h8, wrapI] <;> rfl
      refine ⟨vs.length - (i + 1), by omega, ⟨?_, ?_, ?_, i + 1, (H.length + 1), by omega, rfl, ?_, ?_, ?_⟩⟩
      · simp only [regionT, oneOp, wantedA, stepOp, putA, keep, evalX, evalL, evalParts, cstV, cst1, binA, intOp, strOp, unA, callA, builtinA, lenA, elems, minMaxA, mm2, indexA, sliceA, boundA, Tryd.underlying3, Tryd.underlying9, Tryd.underlying5, Tryd.underlying4, List.toList_toArray, List.getD_eq_getElem?_getD, List.getElem?_set, List.length_set, Option.getD_some, Option.map_some, Option.isSome_none, List.append_nil, List.nil_append, List.map_nil, List.map_cons, reduceIte, Nat.reduceEqDiff, Nat.reduceLT, Bool.false_eq_true, Nat.reduceAdd, if_true, if_false, beq_tf, beq_ft, sealV, sealR, tupleA, finishA, resultsA, resultA, Int.toNat_natCast, retA, List.getElem?_toArray, List.getElem?_cons_zero, List.getElem?_cons_succ, Option.bind_some, AV.under, undersL, Bool.and_true, Bool.true_and, List.take_length, nilNil, constX, Bool.true_or, Bool.or_true, Bool.or_false, Bool.false_or, Bool.not_true, Bool.not_false, hl]
      · simp only [regionT, oneOp, wantedA, stepOp, putA, keep, evalX, evalL, evalParts, cstV, cst1, binA, intOp, strOp, unA, callA, builtinA, lenA, elems, minMaxA, mm2, indexA, sliceA, boundA, Tryd.underlying3, Tryd.underlying9, Tryd.underlying5, Tryd.underlying4, List.toList_toArray, List.getD_eq_getElem?_getD, List.getElem?_set, List.length_set, Option.getD_some, Option.map_some, Option.isSome_none, List.append_nil, List.nil_append, List.map_nil, List.map_cons, reduceIte, Nat.reduceEqDiff, Nat.reduceLT, Bool.false_eq_true, Nat.reduceAdd, if_true, if_false, beq_tf, beq_ft, sealV, sealR, tupleA, finishA, resultsA, resultA, Int.toNat_natCast, retA, List.getElem?_toArray, List.getElem?_cons_zero, List.getElem?_cons_succ, Option.bind_some, AV.under, undersL, Bool.and_true, Bool.true_and, List.take_length, nilNil, constX, Bool.true_or, Bool.or_true, Bool.or_false, Bool.false_or, Bool.not_true, Bool.not_false, hl, h6]
      · simp only [regionT, oneOp, wantedA, stepOp, putA, keep, evalX, evalL, evalParts, cstV, cst1, binA, intOp, strOp, unA, callA, builtinA, lenA, elems, minMaxA, mm2, indexA, sliceA, boundA, Tryd.underlying3, Tryd.underlying9, Tryd.underlying5, Tryd.underlying4, List.toList_toArray, List.getD_eq_getElem?_getD, List.getElem?_set, List.length_set, Option.getD_some, Option.map_some, Option.isSome_none, List.append_nil, List.nil_append, List.map_nil, List.map_cons, reduceIte, Nat.reduceEqDiff, Nat.reduceLT, Bool.false_eq_true, Nat.reduceAdd, if_true, if_false, beq_tf, beq_ft, sealV, sealR, tupleA, finishA, resultsA, resultA, Int.toNat_natCast, retA, List.getElem?_toArray, List.getElem?_cons_zero, List.getElem?_cons_succ, Option.bind_some, AV.under, undersL, Bool.and_true, Bool.true_and, List.take_length, nilNil, constX, Bool.true_or, Bool.or_true, Bool.or_false, Bool.false_or, Bool.not_true, Bool.not_false, hl, h7]
      · simp only [regionT, oneOp, wantedA, stepOp, putA, keep, evalX, evalL, evalParts, cstV, cst1, binA, intOp, strOp, unA, callA, builtinA, lenA, elems, minMaxA, mm2, indexA, sliceA, boundA, Tryd.underlying3, Tryd.underlying9, Tryd.underlying5, Tryd.underlying4, List.toList_toArray, List.getD_eq_getElem?_getD, List.getElem?_set, List.length_set, Option.getD_some, Option.map_some, Option.isSome_none, List.append_nil, List.nil_append, List.map_nil, List.map_cons, reduceIte, Nat.reduceEqDiff, Nat.reduceLT, Bool.false_eq_true, Nat.reduceAdd, if_true, if_false, beq_tf, beq_ft, sealV, sealR, tupleA, finishA, resultsA, resultA, Int.toNat_natCast, retA, List.getElem?_toArray, List.getElem?_cons_zero, List.getElem?_cons_succ, Option.bind_some, AV.under, undersL, Bool.and_true, Bool.true_and, List.take_length, nilNil, constX, Bool.true_or, Bool.or_true, Bool.or_false, Bool.false_or, Bool.not_true, Bool.not_false, hl]
      · rw [htk]
        simp only [regionT, oneOp, wantedA, stepOp, putA, keep, evalX, evalL, evalParts, cstV, cst1, binA, intOp, strOp, unA, callA, builtinA, lenA, elems, minMaxA, mm2, indexA, sliceA, boundA, Tryd.underlying3, Tryd.underlying9, Tryd.underlying5, Tryd.underlying4, List.toList_toArray, List.getD_eq_getElem?_getD, List.getElem?_set, List.length_set, Option.getD_some, Option.map_some, Option.isSome_none, List.append_nil, List.nil_append, List.map_nil, List.map_cons, reduceIte, Nat.reduceEqDiff, Nat.reduceLT, Bool.false_eq_true, Nat.reduceAdd, if_true, if_false, beq_tf, beq_ft, sealV, sealR, tupleA, finishA, resultsA, resultA, Int.toNat_natCast, retA, List.getElem?_toArray, List.getElem?_cons_zero, List.getElem?_cons_succ, Option.bind_some, AV.under, undersL, Bool.and_true, Bool.true_and, List.take_length, nilNil, constX, Bool.true_or, Bool.or_true, Bool.or_false, Bool.false_or, Bool.not_true, Bool.not_false, hl, lt, List.cons_append, List.map_append, List.length_append, List.length_cons, List.length_nil] <;> rfl
      · rw [htk]
        right
        simp
    | cons a r =>
      simp only [lt] at h3
      rcases htip with htip | htip
      · cases htip
      have hroom := room16 (r.length + 1 + 1) (by simp only [List.length_cons] at hll; omega)
      have hold := fun o => get_old htip o
      simp only [List.length_cons] at hold
      apply Goes.region 0
      · intro k _
        simp (decide := true) only [regionT, oneOp, wantedA, stepOp, putA, keep, evalX, evalL, evalParts, cstV, cst1, binA, intOp, strOp, unA, callA, builtinA, lenA, elems, minMaxA, mm2, indexA, sliceA, boundA, Tryd.underlying3, Tryd.underlying9, Tryd.underlying5, Tryd.underlying4, List.toList_toArray, List.getD_eq_getElem?_getD, List.getElem?_set, List.length_set, Option.getD_some, Option.map_some, Option.isSome_none, List.append_nil, List.nil_append, List.map_nil, List.map_cons, reduceIte, Nat.reduceEqDiff, Nat.reduceLT, Bool.false_eq_true, Nat.reduceAdd, if_true, if_false, beq_tf, beq_ft, sealV, sealR, tupleA, finishA, resultsA, resultA, Int.toNat_natCast, retA, List.getElem?_toArray, List.getElem?_cons_zero, List.getElem?_cons_succ, Option.bind_some, AV.under, undersL, Bool.and_true, Bool.true_and, List.take_length, nilNil, constX, Bool.true_or, Bool.or_true, Bool.or_false, Bool.false_or, Bool.not_true, Bool.not_false, storeA, AV.cells, D.cells, settleL, settle, spliceL, AV.isCell, List.all_cons, List.all_nil, Bool.and_self, List.take_succ_cons, List.take_zero, List.drop_succ_cons, List.drop_nil, List.length_cons, List.length_nil, Nat.reduceLeDiff, and_self, nilCheckA, loadA, partA, size3, agg3, size9, agg9, List.cons_append, List.nil_append, List.set_cons_zero, Nat.zero_add, List.drop_zero, Nat.le_refl, newVarA, allocObj, sealT, mkAgg, allDat, appendA, moreA, fitsD, D.flat, sized, List.map_append, List.isEmpty_cons, List.isEmpty_nil, List.singleton_append, List.concat_eq_append, List.set_cons_succ, Option.toList_some, List.getElem?_cons_succ, Option.map_some, Nat.reduceMul, Nat.reduceAdd, Nat.reducePow, List.length_singleton, List.all_cons, List.all_nil, Bool.and_true, Bool.and_self, hl, h3, hV, get_last, hold, under57, info9, t9_size, t9_bytes, t9_zero, build57, size26, agg26, List.length_map, hroom] <;> rfl
      apply Goes.region 0
      · intro k _
        simp only [regionT, oneOp, wantedA, stepOp, putA, keep, evalX, evalL, evalParts, cstV, cst1, binA, intOp, strOp, unA, callA, builtinA, lenA, elems, minMaxA, mm2, indexA, sliceA, boundA, Tryd.underlying3, Tryd.underlying9, Tryd.underlying5, Tryd.underlying4, List.toList_toArray, List.getD_eq_getElem?_getD, List.getElem?_set, List.length_set, Option.getD_some, Option.map_some, Option.isSome_none, List.append_nil, List.nil_append, List.map_nil, List.map_cons, reduceIte, Nat.reduceEqDiff, Nat.reduceLT, Bool.false_eq_true, Nat.reduceAdd, if_true, if_false, beq_tf, beq_ft, sealV, sealR, tupleA, finishA, resultsA, resultA, Int.toNat_natCast, retA, List.getElem?_toArray, List.getElem?_cons_zero, List.getElem?_cons_succ, Option.bind_some, AV.under, undersL, Bool.and_true, Bool.true_and, List.take_length, nilNil, constX, Bool.true_or, Bool.or_true, Bool.or_false, Bool.false_or, Bool.not_true, Bool.not_false, hl, h8, wrapI] <;> rfl
      refine ⟨vs.length - (i + 1), by omega, ⟨?_, ?_, ?_, i + 1, t, by omega, rfl, ?_, ?_, ?_⟩⟩
      · simp only [regionT, oneOp, wantedA, stepOp, putA, keep, evalX, evalL, evalParts, cstV, cst1, binA, intOp, strOp, unA, callA, builtinA, lenA, elems, minMaxA, mm2, indexA, sliceA, boundA, Tryd.underlying3, Tryd.underlying9, Tryd.underlying5, Tryd.underlying4, List.toList_toArray, List.getD_eq_getElem?_getD, List.getElem?_set, List.length_set, Option.getD_some, Option.map_some, Option.isSome_none, List.append_nil, List.nil_append, List.map_nil, List.map_cons, reduceIte, Nat.reduceEqDiff, Nat.reduceLT, Bool.false_eq_true, Nat.reduceAdd, if_true, if_false, beq_tf, beq_ft, sealV, sealR, tupleA, finishA, resultsA, resultA, Int.toNat_natCast, retA, List.getElem?_toArray, List.getElem?_cons_zero, List.getElem?_cons_succ, Option.bind_some, AV.under, undersL, Bool.and_true, Bool.true_and, List.take_length, nilNil, constX, Bool.true_or, Bool.or_true, Bool.or_false, Bool.false_or, Bool.not_true, Bool.not_false, hl]
      · simp only [regionT, oneOp, wantedA, stepOp, putA, keep, evalX, evalL, evalParts, cstV, cst1, binA, intOp, strOp, unA, callA, builtinA, lenA, elems, minMaxA, mm2, indexA, sliceA, boundA, Tryd.underlying3, Tryd.underlying9, Tryd.underlying5, Tryd.underlying4, List.toList_toArray, List.getD_eq_getElem?_getD, List.getElem?_set, List.length_set, Option.getD_some, Option.map_some, Option.isSome_none, List.append_nil, List.nil_append, List.map_nil, List.map_cons, reduceIte, Nat.reduceEqDiff, Nat.reduceLT, Bool.false_eq_true, Nat.reduceAdd, if_true, if_false, beq_tf, beq_ft, sealV, sealR, tupleA, finishA, resultsA, resultA, Int.toNat_natCast, retA, List.getElem?_toArray, List.getElem?_cons_zero, List.getElem?_cons_succ, Option.bind_some, AV.under, undersL, Bool.and_true, Bool.true_and, List.take_length, nilNil, constX, Bool.true_or, Bool.or_true, Bool.or_false, Bool.false_or, Bool.not_true, Bool.not_false, hl, h6]
      · simp only [regionT, oneOp, wantedA, stepOp, putA, keep, evalX, evalL, evalParts, cstV, cst1, binA, intOp, strOp, unA, callA, builtinA, lenA, elems, minMaxA, mm2, indexA, sliceA, boundA, Tryd.underlying3, Tryd.underlying9, Tryd.underlying5, Tryd.underlying4, List.toList_toArray, List.getD_eq_getElem?_getD, List.getElem?_set, List.length_set, Option.getD_some, Option.map_some, Option.isSome_none, List.append_nil, List.nil_append, List.map_nil, List.map_cons, reduceIte, Nat.reduceEqDiff, Nat.reduceLT, Bool.false_eq_true, Nat.reduceAdd, if_true, if_false, beq_tf, beq_ft, sealV, sealR, tupleA, finishA, resultsA, resultA, Int.toNat_natCast, retA, List.getElem?_toArray, List.getElem?_cons_zero, List.getElem?_cons_succ, Option.bind_some, AV.under, undersL, Bool.and_true, Bool.true_and, List.take_length, nilNil, constX, Bool.true_or, Bool.or_true, Bool.or_false, Bool.false_or, Bool.not_true, Bool.not_false, hl, h7]
      · simp only [regionT, oneOp, wantedA, stepOp, putA, keep, evalX, evalL, evalParts, cstV, cst1, binA, intOp, strOp, unA, callA, builtinA, lenA, elems, minMaxA, mm2, indexA, sliceA, boundA, Tryd.underlying3, Tryd.underlying9, Tryd.underlying5, Tryd.underlying4, List.toList_toArray, List.getD_eq_getElem?_getD, List.getElem?_set, List.length_set, Option.getD_some, Option.map_some, Option.isSome_none, List.append_nil, List.nil_append, List.map_nil, List.map_cons, reduceIte, Nat.reduceEqDiff, Nat.reduceLT, Bool.false_eq_true, Nat.reduceAdd, if_true, if_false, beq_tf, beq_ft, sealV, sealR, tupleA, finishA, resultsA, resultA, Int.toNat_natCast, retA, List.getElem?_toArray, List.getElem?_cons_zero, List.getElem?_cons_succ, Option.bind_some, AV.under, undersL, Bool.and_true, Bool.true_and, List.take_length, nilNil, constX, Bool.true_or, Bool.or_true, Bool.or_false, Bool.false_or, Bool.not_true, Bool.not_false, hl]
      · rw [htk]
        simp only [regionT, oneOp, wantedA, stepOp, putA, keep, evalX, evalL, evalParts, cstV, cst1, binA, intOp, strOp, unA, callA, builtinA, lenA, elems, minMaxA, mm2, indexA, sliceA, boundA, Tryd.underlying3, Tryd.underlying9, Tryd.underlying5, Tryd.underlying4, List.toList_toArray, List.getD_eq_getElem?_getD, List.getElem?_set, List.length_set, Option.getD_some, Option.map_some, Option.isSome_none, List.append_nil, List.nil_append, List.map_nil, List.map_cons, reduceIte, Nat.reduceEqDiff, Nat.reduceLT, Bool.false_eq_true, Nat.reduceAdd, if_true, if_false, beq_tf, beq_ft, sealV, sealR, tupleA, finishA, resultsA, resultA, Int.toNat_natCast, retA, List.getElem?_toArray, List.getElem?_cons_zero, List.getElem?_cons_succ, Option.bind_some, AV.under, undersL, Bool.and_true, Bool.true_and, List.take_length, nilNil, constX, Bool.true_or, Bool.or_true, Bool.or_false, Bool.false_or, Bool.not_true, Bool.not_false, hl, lt, List.cons_append, List.map_append, List.length_append, List.length_cons, List.length_nil] <;> rfl
      · rw [htk]
        right
        have ht : t < H.length := (List.getElem?_eq_some_iff.1 htip).1
        simp [List.getElem?_set, Nat.lt_succ_of_lt ht]
  · have hlt' : ¬ (i : Int) < vs.length := by omega
    have hie : i = vs.length := by omega
    subst hie
    rw [List.take_length] at h3 htip
    apply Goes.region 0
    · intro k _
      simp only [regionT, oneOp, wantedA, stepOp, putA, keep, evalX, evalL, evalParts, cstV, cst1, binA, intOp, strOp, unA, callA, builtinA, lenA, elems, minMaxA, mm2, indexA, sliceA, boundA, Tryd.underlying3, Tryd.underlying9, Tryd.underlying5, Tryd.underlying4, List.toList_toArray, List.getD_eq_getElem?_getD, List.getElem?_set, List.length_set, Option.getD_some, Option.map_some, Option.isSome_none, List.append_nil, List.nil_append, List.map_nil, List.map_cons, reduceIte, Nat.reduceEqDiff, Nat.reduceLT, Bool.false_eq_true, Nat.reduceAdd, if_true, if_false, beq_tf, beq_ft, sealV, sealR, tupleA, finishA, resultsA, resultA, Int.toNat_natCast, retA, List.getElem?_toArray, List.getElem?_cons_zero, List.getElem?_cons_succ, Option.bind_some, AV.under, undersL, Bool.and_true, Bool.true_and, List.take_length, nilNil, constX, Bool.true_or, Bool.or_true, Bool.or_false, Bool.false_or, Bool.not_true, Bool.not_false, hl, h7, h8, hlt', decide_false] <;> rfl
    refine Goes.seq (Goes.cond false (by simp only [regionT, oneOp, wantedA, stepOp, putA, keep, evalX, evalL, evalParts, cstV, cst1, binA, intOp, strOp, unA, callA, builtinA, lenA, elems, minMaxA, mm2, indexA, sliceA, boundA, Tryd.underlying3, Tryd.underlying9, Tryd.underlying5, Tryd.underlying4, List.toList_toArray, List.getD_eq_getElem?_getD, List.getElem?_set, List.length_set, Option.getD_some, Option.map_some, Option.isSome_none, List.append_nil, List.nil_append, List.map_nil, List.map_cons, reduceIte, Nat.reduceEqDiff, Nat.reduceLT, Bool.false_eq_true, Nat.reduceAdd, if_true, if_false, beq_tf, beq_ft, sealV, sealR, tupleA, finishA, resultsA, resultA, Int.toNat_natCast, retA, List.getElem?_toArray, List.getElem?_cons_zero, List.getElem?_cons_succ, Option.bind_some, AV.under, undersL, Bool.and_true, Bool.true_and, List.take_length, nilNil, constX, Bool.true_or, Bool.or_true, Bool.or_false, Bool.false_or, Bool.not_true, Bool.not_false, hl]) (Goes.exit ?_))
    simp only [if_true]
    have hj : ∀ k h, call Tryd.prog primC k 29 [lt t (vs.map valText), .dat (.str [44, 32])] h = some (.dat (.str (rowText vs)), h) := fun k h => by
      have hsm := hf.small
      have e1 : call Tryd.prog primC k 29 [lt t (vs.map valText), .dat (.str [44, 32])] h = primJoin [lt t (vs.map valText), .dat (.str [44, 32])] h := rfl
      rw [e1]
      clear e1
      unfold rowText at hsm ⊢
      generalize hl : vs.map valText = l at *
      have hll : l.length ≤ 140737488355328 := by rw [← hl, List.length_map]; omega
      cases l with
      | nil => rfl
      | cons a r =>
        simp only [lt, primJoin, sealV]
        have := strsOf_map (a :: r)
        rw [List.map_cons] at this
        rw [this]
        simp only [if_pos (show (a :: r).length ≤ 140737488355328 ∧ (joined [44, 32] (a :: r)).length ≤ 140737488355328 from ⟨hll, hsm⟩)]
    refine Goes.seq ?_
    apply Goes.region 0
    · intro k _
      simp only [regionT, oneOp, wantedA, stepOp, putA, keep, evalX, evalL, evalParts, cstV, cst1, binA, intOp, strOp, unA, callA, builtinA, lenA, elems, minMaxA, mm2, indexA, sliceA, boundA, Tryd.underlying3, Tryd.underlying9, Tryd.underlying5, Tryd.underlying4, List.toList_toArray, List.getD_eq_getElem?_getD, List.getElem?_set, List.length_set, Option.getD_some, Option.map_some, Option.isSome_none, List.append_nil, List.nil_append, List.map_nil, List.map_cons, reduceIte, Nat.reduceEqDiff, Nat.reduceLT, Bool.false_eq_true, Nat.reduceAdd, if_true, if_false, beq_tf, beq_ft, sealV, sealR, tupleA, finishA, resultsA, resultA, Int.toNat_natCast, retA, List.getElem?_toArray, List.getElem?_cons_zero, List.getElem?_cons_succ, Option.bind_some, AV.under, undersL, Bool.and_true, Bool.true_and, List.take_length, nilNil, constX, Bool.true_or, Bool.or_true, Bool.or_false, Bool.false_or, Bool.not_true, Bool.not_false, hl, h3, hj] <;> rfl
    apply Goes.ret
    refine ⟨.inr rfl, ?_⟩
    simp only [regionT, oneOp, wantedA, stepOp, putA, keep, evalX, evalL, evalParts, cstV, cst1, binA, intOp, strOp, unA, callA, builtinA, lenA, elems, minMaxA, mm2, indexA, sliceA, boundA, Tryd.underlying3, Tryd.underlying9, Tryd.underlying5, Tryd.underlying4, List.toList_toArray, List.getD_eq_getElem?_getD, List.getElem?_set, List.length_set, Option.getD_some, Option.map_some, Option.isSome_none, List.append_nil, List.nil_append, List.map_nil, List.map_cons, reduceIte, Nat.reduceEqDiff, Nat.reduceLT, Bool.false_eq_true, Nat.reduceAdd, if_true, if_false, beq_tf, beq_ft, sealV, sealR, tupleA, finishA, resultsA, resultA, Int.toNat_natCast, retA, List.getElem?_toArray, List.getElem?_cons_zero, List.getElem?_cons_succ, Option.bind_some, AV.under, undersL, Bool.and_true, Bool.true_and, List.take_length, nilNil, constX, Bool.true_or, Bool.or_true, Bool.or_false, Bool.false_or, Bool.not_true, Bool.not_false, hl, Tryd.results10, List.length_nil, List.take_zero] <;> rfl

end Go.Proofs.YtfdcjngclelnhaaDoor
