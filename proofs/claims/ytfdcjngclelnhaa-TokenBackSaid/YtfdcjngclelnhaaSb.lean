/- The reader: a number. -/
import Derived.Test.YtfdcjngclelnhaaSa
set_option linter.unusedSimpArgs false
namespace Go.Proofs.Ytfdcjngclelnhaa
open Go Go.RowKit

theorem Goes.draw {P : Program} {prim : FuncId → Option Prim} {Q : Ex → St → Prop} {s s' : St} {n : Nat} {ops : Array Oper} (k0 : Nat) (h : ∀ k, k0 ≤ k → regionDraw P (call P prim k) ops s = some s') (hq : Q .normal s') : Goes P prim (.region n ops true) s Q := by
  refine ⟨_, _, hq, k0 + 1, fun k hk => ?_⟩
  obtain ⟨j, rfl⟩ : ∃ j, k = j + 1 := ⟨k - 1, by omega⟩
  have := h j (by omega)
  unfold call at this
  simp only [run, this, if_true, Option.map_some]

def letterN (n : Nat) : Bool := (97 ≤ n && n ≤ 122) || (65 ≤ n && n ≤ 90) || n == 95
def digitN (n : Nat) : Bool := 48 ≤ n && n ≤ 57
def letterB (c : UInt8) : Bool := letterN c.toNat
def digitB (c : UInt8) : Bool := digitN c.toNat

theorem letter_all : (fun (k : Nat) (h : Heap) => (List.range 256).map fun (n : Nat) => call Try.prog primT (k + 30) 36 [.dat (.int .u8 n)] h) = fun _ h => (List.range 256).map fun (n : Nat) => some (.dat (.bool (letterN n)), h.take h.length) := by kernel_rfl
theorem digit_all : (fun (k : Nat) (h : Heap) => (List.range 256).map fun (n : Nat) => call Try.prog primT (k + 30) 38 [.dat (.int .u8 n)] h) = fun _ h => (List.range 256).map fun (n : Nat) => some (.dat (.bool (digitN n)), h.take h.length) := by kernel_rfl
theorem of_range {α : Type} {f g : Nat → α} (h : (List.range 256).map f = (List.range 256).map g) (n : Nat) (hn : n < 256) : f n = g n := by
  have := congrArg (fun l => l[n]?) h
  simp only [List.getElem?_map, List.getElem?_range hn, Option.map_some, Option.some.injEq] at this
  exact this

theorem letter_calls (c : UInt8) (h : Heap) : CallsTo Try.prog primT 36 [.dat (.int .u8 c.toNat)] h (.dat (.bool (letterB c))) h :=
  CallsTo.of 30 fun k => by
    have := of_range (congrFun (congrFun letter_all k) h) c.toNat c.toNat_lt
    rw [this, List.take_length]; rfl
theorem digit_calls (c : UInt8) (h : Heap) : CallsTo Try.prog primT 38 [.dat (.int .u8 c.toNat)] h (.dat (.bool (digitB c))) h :=
  CallsTo.of 30 fun k => by
    have := of_range (congrFun (congrFun digit_all k) h) c.toNat c.toNat_lt
    rw [this, List.take_length]; rfl

end Go.Proofs.Ytfdcjngclelnhaa

set_option linter.unusedSimpArgs false
namespace Go.Proofs.Ytfdcjngclelnhaa
open Go Go.RowKit

theorem either_calls (c : UInt8) (h : Heap) : CallsTo Try.prog primT 61 [.dat (.int .u8 c.toNat)] h (.dat (.bool (letterB c || digitB c))) h := by
  obtain ⟨k0, hc⟩ := letter_calls c h
  obtain ⟨k1, hd⟩ := digit_calls c h
  refine CallsTo.body Try.func61 rfl rfl (Nat.le_of_ble_eq_true rfl) fun ts hl hts => ?_
  rw [Try.ntmps61] at hl
  have h0 := hts 0 _ rfl
  refine Goes.seq ?_
  apply Goes.region 0
  · intro k _
    simp only [regionT, oneOp, wantedA, stepOp, putA, keep, evalX, evalL, evalParts, cstV, cst1, binA, intOp, strOp, unA, callA, builtinA, lenA, elems, minMaxA, mm2, indexA, sliceA, boundA, Try.underlying3, Try.underlying9, Try.underlying5, Try.underlying4, List.toList_toArray, List.getD_eq_getElem?_getD, List.getElem?_set, List.length_set, Option.getD_some, Option.map_some, Option.isSome_none, List.append_nil, List.nil_append, List.map_nil, List.map_cons, reduceIte, Nat.reduceEqDiff, Nat.reduceLT, Bool.false_eq_true, Nat.reduceAdd, if_true, if_false, beq_tf, beq_ft, sealV, sealR, tupleA, finishA, resultsA, resultA, Int.toNat_natCast, retA, List.getElem?_toArray, List.getElem?_cons_zero, List.getElem?_cons_succ, Option.bind_some, AV.under, undersL, Bool.and_true, Bool.true_and, List.take_length, hl, h0] <;> rfl
  refine Goes.seq ?_
  cases hb : letterB c with
  | true =>
    apply Goes.region (max k0 k1)
    · intro k hk
      simp only [regionT, oneOp, wantedA, stepOp, putA, keep, evalX, evalL, evalParts, cstV, cst1, binA, intOp, strOp, unA, callA, builtinA, lenA, elems, minMaxA, mm2, indexA, sliceA, boundA, Try.underlying3, Try.underlying9, Try.underlying5, Try.underlying4, List.toList_toArray, List.getD_eq_getElem?_getD, List.getElem?_set, List.length_set, Option.getD_some, Option.map_some, Option.isSome_none, List.append_nil, List.nil_append, List.map_nil, List.map_cons, reduceIte, Nat.reduceEqDiff, Nat.reduceLT, Bool.false_eq_true, Nat.reduceAdd, if_true, if_false, beq_tf, beq_ft, sealV, sealR, tupleA, finishA, resultsA, resultA, Int.toNat_natCast, retA, List.getElem?_toArray, List.getElem?_cons_zero, List.getElem?_cons_succ, Option.bind_some, AV.under, undersL, Bool.and_true, Bool.true_and, List.take_length, hl, h0, hc k (by omega), hd k (by omega), hb, Bool.true_or, beq_self_eq_true] <;> rfl
    apply Goes.ret
    refine ⟨.inr rfl, ?_⟩
    simp only [regionT, oneOp, wantedA, stepOp, putA, keep, evalX, evalL, evalParts, cstV, cst1, binA, intOp, strOp, unA, callA, builtinA, lenA, elems, minMaxA, mm2, indexA, sliceA, boundA, Try.underlying3, Try.underlying9, Try.underlying5, Try.underlying4, List.toList_toArray, List.getD_eq_getElem?_getD, List.getElem?_set, List.length_set, Option.getD_some, Option.map_some, Option.isSome_none, List.append_nil, List.nil_append, List.map_nil, List.map_cons, reduceIte, Nat.reduceEqDiff, Nat.reduceLT, Bool.false_eq_true, Nat.reduceAdd, if_true, if_false, beq_tf, beq_ft, sealV, sealR, tupleA, finishA, resultsA, resultA, Int.toNat_natCast, retA, List.getElem?_toArray, List.getElem?_cons_zero, List.getElem?_cons_succ, Option.bind_some, AV.under, undersL, Bool.and_true, Bool.true_and, List.take_length, hl, h0, Try.results61, Bool.true_or]
  | false =>
    apply Goes.region (max k0 k1)
    · intro k hk
      simp only [regionT, oneOp, wantedA, stepOp, putA, keep, evalX, evalL, evalParts, cstV, cst1, binA, intOp, strOp, unA, callA, builtinA, lenA, elems, minMaxA, mm2, indexA, sliceA, boundA, Try.underlying3, Try.underlying9, Try.underlying5, Try.underlying4, List.toList_toArray, List.getD_eq_getElem?_getD, List.getElem?_set, List.length_set, Option.getD_some, Option.map_some, Option.isSome_none, List.append_nil, List.nil_append, List.map_nil, List.map_cons, reduceIte, Nat.reduceEqDiff, Nat.reduceLT, Bool.false_eq_true, Nat.reduceAdd, if_true, if_false, beq_tf, beq_ft, sealV, sealR, tupleA, finishA, resultsA, resultA, Int.toNat_natCast, retA, List.getElem?_toArray, List.getElem?_cons_zero, List.getElem?_cons_succ, Option.bind_some, AV.under, undersL, Bool.and_true, Bool.true_and, List.take_length, hl, h0, hc k (by omega), hd k (by omega), hb, Bool.false_or, beq_self_eq_true] <;> rfl
    apply Goes.ret
    refine ⟨.inr rfl, ?_⟩
    simp only [regionT, oneOp, wantedA, stepOp, putA, keep, evalX, evalL, evalParts, cstV, cst1, binA, intOp, strOp, unA, callA, builtinA, lenA, elems, minMaxA, mm2, indexA, sliceA, boundA, Try.underlying3, Try.underlying9, Try.underlying5, Try.underlying4, List.toList_toArray, List.getD_eq_getElem?_getD, List.getElem?_set, List.length_set, Option.getD_some, Option.map_some, Option.isSome_none, List.append_nil, List.nil_append, List.map_nil, List.map_cons, reduceIte, Nat.reduceEqDiff, Nat.reduceLT, Bool.false_eq_true, Nat.reduceAdd, if_true, if_false, beq_tf, beq_ft, sealV, sealR, tupleA, finishA, resultsA, resultA, Int.toNat_natCast, retA, List.getElem?_toArray, List.getElem?_cons_zero, List.getElem?_cons_succ, Option.bind_some, AV.under, undersL, Bool.and_true, Bool.true_and, List.take_length, hl, h0, Try.results61, Bool.false_or]

theorem find80_calls (c : UInt8) (s : List UInt8) (h : Heap) : CallsTo Try.prog primT 80 [.dat (.str s), .dat (.int .u8 c.toNat)] h (.dat (.int .i64 (idxByte c s 0))) h :=
  CallsTo.ofPrim (p := primIndexByte) rfl (by simp only [primIndexByte, Int.toNat_natCast, byte_back])

theorem find58_calls (c : UInt8) (s : List UInt8) (h : Heap) : CallsTo Try.prog primT 58 [.dat (.str s), .dat (.int .u8 c.toNat)] h (.dat (.int .i64 (idxByte c s 0))) h := by
  obtain ⟨k0, hc⟩ := find80_calls c s h
  refine CallsTo.body Try.func58 rfl rfl (Nat.le_of_ble_eq_true rfl) fun ts hl hts => ?_
  rw [Try.ntmps58] at hl
  have h0 := hts 0 _ rfl
  have h1 := hts 1 _ rfl
  refine Goes.seq ?_
  apply Goes.region 0
  · intro k _
    simp only [regionT, oneOp, wantedA, stepOp, putA, keep, evalX, evalL, evalParts, cstV, cst1, binA, intOp, strOp, unA, callA, builtinA, lenA, elems, minMaxA, mm2, indexA, sliceA, boundA, Try.underlying3, Try.underlying9, Try.underlying5, Try.underlying4, List.toList_toArray, List.getD_eq_getElem?_getD, List.getElem?_set, List.length_set, Option.getD_some, Option.map_some, Option.isSome_none, List.append_nil, List.nil_append, List.map_nil, List.map_cons, reduceIte, Nat.reduceEqDiff, Nat.reduceLT, Bool.false_eq_true, Nat.reduceAdd, if_true, if_false, beq_tf, beq_ft, sealV, sealR, tupleA, finishA, resultsA, resultA, Int.toNat_natCast, retA, List.getElem?_toArray, List.getElem?_cons_zero, List.getElem?_cons_succ, Option.bind_some, AV.under, undersL, Bool.and_true, Bool.true_and, List.take_length, hl, h0, h1] <;> rfl
  refine Goes.seq ?_
  apply Goes.region k0
  · intro k hk
    simp only [regionT, oneOp, wantedA, stepOp, putA, keep, evalX, evalL, evalParts, cstV, cst1, binA, intOp, strOp, unA, callA, builtinA, lenA, elems, minMaxA, mm2, indexA, sliceA, boundA, Try.underlying3, Try.underlying9, Try.underlying5, Try.underlying4, List.toList_toArray, List.getD_eq_getElem?_getD, List.getElem?_set, List.length_set, Option.getD_some, Option.map_some, Option.isSome_none, List.append_nil, List.nil_append, List.map_nil, List.map_cons, reduceIte, Nat.reduceEqDiff, Nat.reduceLT, Bool.false_eq_true, Nat.reduceAdd, if_true, if_false, beq_tf, beq_ft, sealV, sealR, tupleA, finishA, resultsA, resultA, Int.toNat_natCast, retA, List.getElem?_toArray, List.getElem?_cons_zero, List.getElem?_cons_succ, Option.bind_some, AV.under, undersL, Bool.and_true, Bool.true_and, List.take_length, hl, h0, h1, hc k hk] <;> rfl
  apply Goes.ret
  refine ⟨.inr rfl, ?_⟩
  simp only [regionT, oneOp, wantedA, stepOp, putA, keep, evalX, evalL, evalParts, cstV, cst1, binA, intOp, strOp, unA, callA, builtinA, lenA, elems, minMaxA, mm2, indexA, sliceA, boundA, Try.underlying3, Try.underlying9, Try.underlying5, Try.underlying4, List.toList_toArray, List.getD_eq_getElem?_getD, List.getElem?_set, List.length_set, Option.getD_some, Option.map_some, Option.isSome_none, List.append_nil, List.nil_append, List.map_nil, List.map_cons, reduceIte, Nat.reduceEqDiff, Nat.reduceLT, Bool.false_eq_true, Nat.reduceAdd, if_true, if_false, beq_tf, beq_ft, sealV, sealR, tupleA, finishA, resultsA, resultA, Int.toNat_natCast, retA, List.getElem?_toArray, List.getElem?_cons_zero, List.getElem?_cons_succ, Option.bind_some, AV.under, undersL, Bool.and_true, Bool.true_and, List.take_length, hl, h0, h1, Try.results58]

theorem find_calls (c : UInt8) (s : List UInt8) (h : Heap) : CallsTo Try.prog primT 34 [.dat (.str s), .dat (.int .u8 c.toNat)] h (.dat (.int .i64 (idxByte c s 0))) h := by
  obtain ⟨k0, hc⟩ := find58_calls c s h
  refine CallsTo.body Try.func34 rfl rfl (Nat.le_of_ble_eq_true rfl) fun ts hl hts => ?_
  rw [Try.ntmps34] at hl
  have h0 := hts 0 _ rfl
  have h1 := hts 1 _ rfl
  refine Goes.seq ?_
  apply Goes.region 0
  · intro k _
    simp only [regionT, oneOp, wantedA, stepOp, putA, keep, evalX, evalL, evalParts, cstV, cst1, binA, intOp, strOp, unA, callA, builtinA, lenA, elems, minMaxA, mm2, indexA, sliceA, boundA, Try.underlying3, Try.underlying9, Try.underlying5, Try.underlying4, List.toList_toArray, List.getD_eq_getElem?_getD, List.getElem?_set, List.length_set, Option.getD_some, Option.map_some, Option.isSome_none, List.append_nil, List.nil_append, List.map_nil, List.map_cons, reduceIte, Nat.reduceEqDiff, Nat.reduceLT, Bool.false_eq_true, Nat.reduceAdd, if_true, if_false, beq_tf, beq_ft, sealV, sealR, tupleA, finishA, resultsA, resultA, Int.toNat_natCast, retA, List.getElem?_toArray, List.getElem?_cons_zero, List.getElem?_cons_succ, Option.bind_some, AV.under, undersL, Bool.and_true, Bool.true_and, List.take_length, hl, h0, h1] <;> rfl
  refine Goes.seq ?_
  apply Goes.region k0
  · intro k hk
    simp only [regionT, oneOp, wantedA, stepOp, putA, keep, evalX, evalL, evalParts, cstV, cst1, binA, intOp, strOp, unA, callA, builtinA, lenA, elems, minMaxA, mm2, indexA, sliceA, boundA, Try.underlying3, Try.underlying9, Try.underlying5, Try.underlying4, List.toList_toArray, List.getD_eq_getElem?_getD, List.getElem?_set, List.length_set, Option.getD_some, Option.map_some, Option.isSome_none, List.append_nil, List.nil_append, List.map_nil, List.map_cons, reduceIte, Nat.reduceEqDiff, Nat.reduceLT, Bool.false_eq_true, Nat.reduceAdd, if_true, if_false, beq_tf, beq_ft, sealV, sealR, tupleA, finishA, resultsA, resultA, Int.toNat_natCast, retA, List.getElem?_toArray, List.getElem?_cons_zero, List.getElem?_cons_succ, Option.bind_some, AV.under, undersL, Bool.and_true, Bool.true_and, List.take_length, hl, h0, h1, hc k hk] <;> rfl
  apply Goes.ret
  refine ⟨.inr rfl, ?_⟩
  simp only [regionT, oneOp, wantedA, stepOp, putA, keep, evalX, evalL, evalParts, cstV, cst1, binA, intOp, strOp, unA, callA, builtinA, lenA, elems, minMaxA, mm2, indexA, sliceA, boundA, Try.underlying3, Try.underlying9, Try.underlying5, Try.underlying4, List.toList_toArray, List.getD_eq_getElem?_getD, List.getElem?_set, List.length_set, Option.getD_some, Option.map_some, Option.isSome_none, List.append_nil, List.nil_append, List.map_nil, List.map_cons, reduceIte, Nat.reduceEqDiff, Nat.reduceLT, Bool.false_eq_true, Nat.reduceAdd, if_true, if_false, beq_tf, beq_ft, sealV, sealR, tupleA, finishA, resultsA, resultA, Int.toNat_natCast, retA, List.getElem?_toArray, List.getElem?_cons_zero, List.getElem?_cons_succ, Option.bind_some, AV.under, undersL, Bool.and_true, Bool.true_and, List.take_length, hl, h0, h1, Try.results34]

theorem prefix59_calls (s p : List UInt8) (h : Heap) : CallsTo Try.prog primT 59 [.dat (.str s), .dat (.str p)] h (.dat (.bool (p.isPrefixOf s))) h := by
  refine CallsTo.body Try.func59 rfl rfl (Nat.le_of_ble_eq_true rfl) fun ts hl hts => ?_
  rw [Try.ntmps59] at hl
  have h0 := hts 0 _ rfl
  have h1 := hts 1 _ rfl
  refine Goes.seq ?_
  apply Goes.region 0
  · intro k _
    simp only [regionT, oneOp, wantedA, stepOp, putA, keep, evalX, evalL, evalParts, cstV, cst1, binA, intOp, strOp, unA, callA, builtinA, lenA, elems, minMaxA, mm2, indexA, sliceA, boundA, Try.underlying3, Try.underlying9, Try.underlying5, Try.underlying4, List.toList_toArray, List.getD_eq_getElem?_getD, List.getElem?_set, List.length_set, Option.getD_some, Option.map_some, Option.isSome_none, List.append_nil, List.nil_append, List.map_nil, List.map_cons, reduceIte, Nat.reduceEqDiff, Nat.reduceLT, Bool.false_eq_true, Nat.reduceAdd, if_true, if_false, beq_tf, beq_ft, sealV, sealR, tupleA, finishA, resultsA, resultA, Int.toNat_natCast, retA, List.getElem?_toArray, List.getElem?_cons_zero, List.getElem?_cons_succ, Option.bind_some, AV.under, undersL, Bool.and_true, Bool.true_and, List.take_length, hl, h0, h1] <;> rfl
  refine Goes.seq ?_
  by_cases hlen : p.length ≤ s.length
  · have e : p.isPrefixOf s = (s.take p.length == p) := by
      rw [Bool.eq_iff_iff, List.isPrefixOf_iff_prefix, List.prefix_iff_eq_take, beq_iff_eq]
      exact ⟨fun h => h.symm, fun h => h.symm⟩
    have hg : (s.length : Int) ≥ p.length := by omega
    apply Goes.region 0
    · intro k hk
      simp only [regionT, oneOp, wantedA, stepOp, putA, keep, evalX, evalL, evalParts, cstV, cst1, binA, intOp, strOp, unA, callA, builtinA, lenA, elems, minMaxA, mm2, indexA, sliceA, boundA, Try.underlying3, Try.underlying9, Try.underlying5, Try.underlying4, List.toList_toArray, List.getD_eq_getElem?_getD, List.getElem?_set, List.length_set, Option.getD_some, Option.map_some, Option.isSome_none, List.append_nil, List.nil_append, List.map_nil, List.map_cons, reduceIte, Nat.reduceEqDiff, Nat.reduceLT, Bool.false_eq_true, Nat.reduceAdd, if_true, if_false, beq_tf, beq_ft, sealV, sealR, tupleA, finishA, resultsA, resultA, Int.toNat_natCast, retA, List.getElem?_toArray, List.getElem?_cons_zero, List.getElem?_cons_succ, Option.bind_some, AV.under, undersL, Bool.and_true, Bool.true_and, List.take_length, hl, h0, h1, hg, decide_true, beq_self_eq_true, Int.natCast_nonneg, Int.ofNat_le, hlen, and_self, Nat.sub_zero, List.drop_zero] <;> rfl
    apply Goes.ret
    refine ⟨.inr rfl, ?_⟩
    simp only [regionT, oneOp, wantedA, stepOp, putA, keep, evalX, evalL, evalParts, cstV, cst1, binA, intOp, strOp, unA, callA, builtinA, lenA, elems, minMaxA, mm2, indexA, sliceA, boundA, Try.underlying3, Try.underlying9, Try.underlying5, Try.underlying4, List.toList_toArray, List.getD_eq_getElem?_getD, List.getElem?_set, List.length_set, Option.getD_some, Option.map_some, Option.isSome_none, List.append_nil, List.nil_append, List.map_nil, List.map_cons, reduceIte, Nat.reduceEqDiff, Nat.reduceLT, Bool.false_eq_true, Nat.reduceAdd, if_true, if_false, beq_tf, beq_ft, sealV, sealR, tupleA, finishA, resultsA, resultA, Int.toNat_natCast, retA, List.getElem?_toArray, List.getElem?_cons_zero, List.getElem?_cons_succ, Option.bind_some, AV.under, undersL, Bool.and_true, Bool.true_and, List.take_length, hl, h0, Try.results59, e]
  · have e : p.isPrefixOf s = false := by
      cases hb : p.isPrefixOf s with
      | false => rfl
      | true => exact absurd (List.isPrefixOf_iff_prefix.1 hb).length_le hlen
    have hg : ¬ (s.length : Int) ≥ p.length := by omega
    apply Goes.region 0
    · intro k hk
      simp only [regionT, oneOp, wantedA, stepOp, putA, keep, evalX, evalL, evalParts, cstV, cst1, binA, intOp, strOp, unA, callA, builtinA, lenA, elems, minMaxA, mm2, indexA, sliceA, boundA, Try.underlying3, Try.underlying9, Try.underlying5, Try.underlying4, List.toList_toArray, List.getD_eq_getElem?_getD, List.getElem?_set, List.length_set, Option.getD_some, Option.map_some, Option.isSome_none, List.append_nil, List.nil_append, List.map_nil, List.map_cons, reduceIte, Nat.reduceEqDiff, Nat.reduceLT, Bool.false_eq_true, Nat.reduceAdd, if_true, if_false, beq_tf, beq_ft, sealV, sealR, tupleA, finishA, resultsA, resultA, Int.toNat_natCast, retA, List.getElem?_toArray, List.getElem?_cons_zero, List.getElem?_cons_succ, Option.bind_some, AV.under, undersL, Bool.and_true, Bool.true_and, List.take_length, hl, h0, h1, hg, decide_false] <;> rfl
    apply Goes.ret
    refine ⟨.inr rfl, ?_⟩
    simp only [regionT, oneOp, wantedA, stepOp, putA, keep, evalX, evalL, evalParts, cstV, cst1, binA, intOp, strOp, unA, callA, builtinA, lenA, elems, minMaxA, mm2, indexA, sliceA, boundA, Try.underlying3, Try.underlying9, Try.underlying5, Try.underlying4, List.toList_toArray, List.getD_eq_getElem?_getD, List.getElem?_set, List.length_set, Option.getD_some, Option.map_some, Option.isSome_none, List.append_nil, List.nil_append, List.map_nil, List.map_cons, reduceIte, Nat.reduceEqDiff, Nat.reduceLT, Bool.false_eq_true, Nat.reduceAdd, if_true, if_false, beq_tf, beq_ft, sealV, sealR, tupleA, finishA, resultsA, resultA, Int.toNat_natCast, retA, List.getElem?_toArray, List.getElem?_cons_zero, List.getElem?_cons_succ, Option.bind_some, AV.under, undersL, Bool.and_true, Bool.true_and, List.take_length, hl, h0, Try.results59, e]

theorem prefix_calls (s p : List UInt8) (h : Heap) : CallsTo Try.prog primT 35 [.dat (.str s), .dat (.str p)] h (.dat (.bool (p.isPrefixOf s))) h := by
  obtain ⟨k0, hc⟩ := prefix59_calls s p h
  refine CallsTo.body Try.func35 rfl rfl (Nat.le_of_ble_eq_true rfl) fun ts hl hts => ?_
  rw [Try.ntmps35] at hl
  have h0 := hts 0 _ rfl
  have h1 := hts 1 _ rfl
  refine Goes.seq ?_
  apply Goes.region 0
  · intro k _
    simp only [regionT, oneOp, wantedA, stepOp, putA, keep, evalX, evalL, evalParts, cstV, cst1, binA, intOp, strOp, unA, callA, builtinA, lenA, elems, minMaxA, mm2, indexA, sliceA, boundA, Try.underlying3, Try.underlying9, Try.underlying5, Try.underlying4, List.toList_toArray, List.getD_eq_getElem?_getD, List.getElem?_set, List.length_set, Option.getD_some, Option.map_some, Option.isSome_none, List.append_nil, List.nil_append, List.map_nil, List.map_cons, reduceIte, Nat.reduceEqDiff, Nat.reduceLT, Bool.false_eq_true, Nat.reduceAdd, if_true, if_false, beq_tf, beq_ft, sealV, sealR, tupleA, finishA, resultsA, resultA, Int.toNat_natCast, retA, List.getElem?_toArray, List.getElem?_cons_zero, List.getElem?_cons_succ, Option.bind_some, AV.under, undersL, Bool.and_true, Bool.true_and, List.take_length, hl, h0, h1] <;> rfl
  refine Goes.seq ?_
  apply Goes.region k0
  · intro k hk
    simp only [regionT, oneOp, wantedA, stepOp, putA, keep, evalX, evalL, evalParts, cstV, cst1, binA, intOp, strOp, unA, callA, builtinA, lenA, elems, minMaxA, mm2, indexA, sliceA, boundA, Try.underlying3, Try.underlying9, Try.underlying5, Try.underlying4, List.toList_toArray, List.getD_eq_getElem?_getD, List.getElem?_set, List.length_set, Option.getD_some, Option.map_some, Option.isSome_none, List.append_nil, List.nil_append, List.map_nil, List.map_cons, reduceIte, Nat.reduceEqDiff, Nat.reduceLT, Bool.false_eq_true, Nat.reduceAdd, if_true, if_false, beq_tf, beq_ft, sealV, sealR, tupleA, finishA, resultsA, resultA, Int.toNat_natCast, retA, List.getElem?_toArray, List.getElem?_cons_zero, List.getElem?_cons_succ, Option.bind_some, AV.under, undersL, Bool.and_true, Bool.true_and, List.take_length, hl, h0, h1, hc k hk] <;> rfl
  apply Goes.ret
  refine ⟨.inr rfl, ?_⟩
  simp only [regionT, oneOp, wantedA, stepOp, putA, keep, evalX, evalL, evalParts, cstV, cst1, binA, intOp, strOp, unA, callA, builtinA, lenA, elems, minMaxA, mm2, indexA, sliceA, boundA, Try.underlying3, Try.underlying9, Try.underlying5, Try.underlying4, List.toList_toArray, List.getD_eq_getElem?_getD, List.getElem?_set, List.length_set, Option.getD_some, Option.map_some, Option.isSome_none, List.append_nil, List.nil_append, List.map_nil, List.map_cons, reduceIte, Nat.reduceEqDiff, Nat.reduceLT, Bool.false_eq_true, Nat.reduceAdd, if_true, if_false, beq_tf, beq_ft, sealV, sealR, tupleA, finishA, resultsA, resultA, Int.toNat_natCast, retA, List.getElem?_toArray, List.getElem?_cons_zero, List.getElem?_cons_succ, Option.bind_some, AV.under, undersL, Bool.and_true, Bool.true_and, List.take_length, hl, h0, h1, Try.results35]

end Go.Proofs.Ytfdcjngclelnhaa

set_option linter.unusedSimpArgs false
namespace Go.Proofs.Ytfdcjngclelnhaa
open Go Go.RowKit

theorem fa47_0 : (fun (i o : Nat) => fieldAddrA Try.prog 47 (.ptr (some (i, o))) 0) = fun i o => some (.ptr (some (i, o))) := by kernel_rfl
theorem fa47_1 : (fun (i o : Nat) => fieldAddrA Try.prog 47 (.ptr (some (i, o))) 1) = fun i o => some (.ptr (some (i, o + 1))) := by kernel_rfl
theorem fa47_2 : (fun (i o : Nat) => fieldAddrA Try.prog 47 (.ptr (some (i, o))) 2) = fun i o => some (.ptr (some (i, o + 2))) := by kernel_rfl
theorem fa0 (i o : Nat) : fieldAddrA Try.prog 47 (.ptr (some (i, o))) 0 = some (.ptr (some (i, o))) := congrFun (congrFun fa47_0 i) o
theorem fa1 (i o : Nat) : fieldAddrA Try.prog 47 (.ptr (some (i, o))) 1 = some (.ptr (some (i, o + 1))) := congrFun (congrFun fa47_1 i) o
theorem fa2 (i o : Nat) : fieldAddrA Try.prog 47 (.ptr (some (i, o))) 2 = some (.ptr (some (i, o + 2))) := congrFun (congrFun fa47_2 i) o
theorem size3 : sizeA Try.prog 3 = some 1 := by kernel_rfl
theorem agg3 : isAggA Try.prog 3 = some false := by kernel_rfl

/-- the heap of a reader -/
def rd (s : List UInt8) (at_ : Int) (L : AV) (ver : Nat) : Heap := [some (.cells 47 [.dat (.str s), .dat (.int .i64 at_), L] ver)]

/-- the same, with another box behind it -/
def rd2 (B : Option AObj) (s : List UInt8) (at_ : Int) (L : AV) (ver : Nat) : Heap := [some (.cells 47 [.dat (.str s), .dat (.int .i64 at_), L] ver), B]

theorem form_calls (s : List UInt8) (at_ to : Int) (L : AV) (ver : Nat) : CallsTo Try.prog primT 62 [.ptr (some (0, 0)), .dat (.int .i64 to)] (rd s at_ L ver) (.dat (.int .i64 10)) (rd s to L (ver + 1)) := by
  refine CallsTo.body Try.func62 rfl rfl (Nat.le_of_ble_eq_true rfl) fun ts hl hts => ?_
  rw [Try.ntmps62] at hl
  have h0 := hts 0 _ rfl
  have h1 := hts 1 _ rfl
  refine Goes.seq ?_
  apply Goes.region 0
  · intro k _
    simp only [regionT, oneOp, wantedA, stepOp, putA, keep, evalX, evalL, evalParts, cstV, cst1, binA, intOp, strOp, unA, callA, builtinA, lenA, elems, minMaxA, mm2, indexA, sliceA, boundA, Try.underlying3, Try.underlying9, Try.underlying5, Try.underlying4, List.toList_toArray, List.getD_eq_getElem?_getD, List.getElem?_set, List.length_set, Option.getD_some, Option.map_some, Option.isSome_none, List.append_nil, List.nil_append, List.map_nil, List.map_cons, reduceIte, Nat.reduceEqDiff, Nat.reduceLT, Bool.false_eq_true, Nat.reduceAdd, if_true, if_false, beq_tf, beq_ft, sealV, sealR, tupleA, finishA, resultsA, resultA, Int.toNat_natCast, retA, List.getElem?_toArray, List.getElem?_cons_zero, List.getElem?_cons_succ, Option.bind_some, AV.under, undersL, Bool.and_true, Bool.true_and, List.take_length, hl, h0, h1] <;> rfl
  refine Goes.seq ?_
  apply Goes.region 0
  · intro k _
    simp only [regionT, oneOp, wantedA, stepOp, putA, keep, evalX, evalL, evalParts, cstV, cst1, binA, intOp, strOp, unA, callA, builtinA, lenA, elems, minMaxA, mm2, indexA, sliceA, boundA, Try.underlying3, Try.underlying9, Try.underlying5, Try.underlying4, List.toList_toArray, List.getD_eq_getElem?_getD, List.getElem?_set, List.length_set, Option.getD_some, Option.map_some, Option.isSome_none, List.append_nil, List.nil_append, List.map_nil, List.map_cons, reduceIte, Nat.reduceEqDiff, Nat.reduceLT, Bool.false_eq_true, Nat.reduceAdd, if_true, if_false, beq_tf, beq_ft, sealV, sealR, tupleA, finishA, resultsA, resultA, Int.toNat_natCast, retA, List.getElem?_toArray, List.getElem?_cons_zero, List.getElem?_cons_succ, Option.bind_some, AV.under, undersL, Bool.and_true, Bool.true_and, List.take_length, storeA, AV.cells, D.cells, settleL, settle, spliceL, AV.isCell, List.all_cons, List.all_nil, Bool.and_self, List.take_succ_cons, List.take_zero, List.drop_succ_cons, List.drop_nil, List.length_cons, List.length_nil, Nat.reduceLeDiff, and_self, nilCheckA, loadA, partA, fa0, fa1, fa2, size3, agg3, size9, agg9, rd, rd2, List.cons_append, List.nil_append, List.set_cons_zero, Nat.zero_add, List.drop_zero, Nat.le_refl, hl, h0, h1] <;> rfl
  refine Goes.seq ?_
  apply Goes.region 0
  · intro k _
    simp only [regionT, oneOp, wantedA, stepOp, putA, keep, evalX, evalL, evalParts, cstV, cst1, binA, intOp, strOp, unA, callA, builtinA, lenA, elems, minMaxA, mm2, indexA, sliceA, boundA, Try.underlying3, Try.underlying9, Try.underlying5, Try.underlying4, List.toList_toArray, List.getD_eq_getElem?_getD, List.getElem?_set, List.length_set, Option.getD_some, Option.map_some, Option.isSome_none, List.append_nil, List.nil_append, List.map_nil, List.map_cons, reduceIte, Nat.reduceEqDiff, Nat.reduceLT, Bool.false_eq_true, Nat.reduceAdd, if_true, if_false, beq_tf, beq_ft, sealV, sealR, tupleA, finishA, resultsA, resultA, Int.toNat_natCast, retA, List.getElem?_toArray, List.getElem?_cons_zero, List.getElem?_cons_succ, Option.bind_some, AV.under, undersL, Bool.and_true, Bool.true_and, List.take_length, hl] <;> rfl
  apply Goes.ret
  refine ⟨.inr rfl, ?_⟩
  simp only [regionT, oneOp, wantedA, stepOp, putA, keep, evalX, evalL, evalParts, cstV, cst1, binA, intOp, strOp, unA, callA, builtinA, lenA, elems, minMaxA, mm2, indexA, sliceA, boundA, Try.underlying3, Try.underlying9, Try.underlying5, Try.underlying4, List.toList_toArray, List.getD_eq_getElem?_getD, List.getElem?_set, List.length_set, Option.getD_some, Option.map_some, Option.isSome_none, List.append_nil, List.nil_append, List.map_nil, List.map_cons, reduceIte, Nat.reduceEqDiff, Nat.reduceLT, Bool.false_eq_true, Nat.reduceAdd, if_true, if_false, beq_tf, beq_ft, sealV, sealR, tupleA, finishA, resultsA, resultA, Int.toNat_natCast, retA, List.getElem?_toArray, List.getElem?_cons_zero, List.getElem?_cons_succ, Option.bind_some, AV.under, undersL, Bool.and_true, Bool.true_and, List.take_length, storeA, AV.cells, D.cells, settleL, settle, spliceL, AV.isCell, List.all_cons, List.all_nil, Bool.and_self, List.take_succ_cons, List.take_zero, List.drop_succ_cons, List.drop_nil, List.length_cons, List.length_nil, Nat.reduceLeDiff, and_self, nilCheckA, loadA, partA, fa0, fa1, fa2, size3, agg3, size9, agg9, rd, rd2, List.cons_append, List.nil_append, List.set_cons_zero, Nat.zero_add, List.drop_zero, Nat.le_refl, hl, Try.results62]

/-- how many bytes from the beginning on are of a kind -/
def span (p : UInt8 → Bool) (l : List UInt8) : Nat := (l.takeWhile p).length

theorem span_le (p : UInt8 → Bool) (l : List UInt8) : span p l ≤ l.length := (List.takeWhile_sublist p).length_le
theorem span_yes {p : UInt8 → Bool} {l : List UInt8} {i : Nat} (h : i < l.length) (hp : p l[i] = true) : span p (l.drop i) = span p (l.drop (i + 1)) + 1 := by
  unfold span
  rw [List.drop_eq_getElem_cons h, List.takeWhile_cons, if_pos hp, List.length_cons]
theorem span_no {p : UInt8 → Bool} {l : List UInt8} {i : Nat} (h : i < l.length) (hp : p l[i] = false) : span p (l.drop i) = 0 := by
  unfold span
  rw [List.drop_eq_getElem_cons h, List.takeWhile_cons, if_neg (by simp [hp]), List.length_nil]

theorem takeWhile_take (p : UInt8 → Bool) : ∀ l : List UInt8, l.take (l.takeWhile p).length = l.takeWhile p
  | [] => rfl
  | a :: l => by
    rw [List.takeWhile_cons]
    split
    · rw [List.length_cons, List.take_succ_cons, takeWhile_take p l]
    · rfl

structure I60 (s : List UInt8) (p : UInt8 → Bool) (f : FuncId) (at_ to : Nat) (L : AV) (ver : Nat) (n : Nat) (st : St) : Prop where
  len : st.tmps.length = 50
  h0 : st.tmps[0]? = some (.ptr (some (0, 0)))
  h1 : st.tmps[1]? = some (.func (.func f) [] [])
  h5 : st.tmps[5]? = some (.dat (.int .i64 at_))
  ex : ∃ i : Nat, st.heap = rd s i L (ver + (i - at_)) ∧ at_ ≤ i ∧ i ≤ s.length ∧ n = s.length - i ∧ i + span p (s.drop i) = to

theorem run_calls (s : List UInt8) (hs : s.length ≤ 140737488351232) (p : UInt8 → Bool) (f : FuncId) (hf : ∀ (c : UInt8) (h : Heap), CallsTo Try.prog primT f [.dat (.int .u8 c.toNat)] h (.dat (.bool (p c))) h)
    (at_ : Nat) (hat : at_ ≤ s.length) (L : AV) (ver : Nat) :
    CallsTo Try.prog primT 60 [.ptr (some (0, 0)), .func (.func f) [] []] (rd s at_ L ver) (.dat (.str ((s.drop at_).takeWhile p))) (rd s ((at_ + span p (s.drop at_) : Nat) : Int) L (ver + span p (s.drop at_))) := by
  refine CallsTo.body Try.func60 rfl rfl (Nat.le_of_ble_eq_true rfl) fun ts hl hts => ?_
  rw [Try.ntmps60] at hl
  have h0 := hts 0 _ rfl
  have h1 := hts 1 _ rfl
  clear hts
  refine Goes.seq ?_
  apply Goes.region 0
  · intro k _
    simp only [regionT, oneOp, wantedA, stepOp, putA, keep, evalX, evalL, evalParts, cstV, cst1, binA, intOp, strOp, unA, callA, builtinA, lenA, elems, minMaxA, mm2, indexA, sliceA, boundA, Try.underlying3, Try.underlying9, Try.underlying5, Try.underlying4, List.toList_toArray, List.getD_eq_getElem?_getD, List.getElem?_set, List.length_set, Option.getD_some, Option.map_some, Option.isSome_none, List.append_nil, List.nil_append, List.map_nil, List.map_cons, reduceIte, Nat.reduceEqDiff, Nat.reduceLT, Bool.false_eq_true, Nat.reduceAdd, if_true, if_false, beq_tf, beq_ft, sealV, sealR, tupleA, finishA, resultsA, resultA, Int.toNat_natCast, retA, List.getElem?_toArray, List.getElem?_cons_zero, List.getElem?_cons_succ, Option.bind_some, AV.under, undersL, Bool.and_true, Bool.true_and, List.take_length, hl, h0, h1] <;> rfl
  refine Goes.seq ?_
  apply Goes.region 0
  · intro k _
    simp only [regionT, oneOp, wantedA, stepOp, putA, keep, evalX, evalL, evalParts, cstV, cst1, binA, intOp, strOp, unA, callA, builtinA, lenA, elems, minMaxA, mm2, indexA, sliceA, boundA, Try.underlying3, Try.underlying9, Try.underlying5, Try.underlying4, List.toList_toArray, List.getD_eq_getElem?_getD, List.getElem?_set, List.length_set, Option.getD_some, Option.map_some, Option.isSome_none, List.append_nil, List.nil_append, List.map_nil, List.map_cons, reduceIte, Nat.reduceEqDiff, Nat.reduceLT, Bool.false_eq_true, Nat.reduceAdd, if_true, if_false, beq_tf, beq_ft, sealV, sealR, tupleA, finishA, resultsA, resultA, Int.toNat_natCast, retA, List.getElem?_toArray, List.getElem?_cons_zero, List.getElem?_cons_succ, Option.bind_some, AV.under, undersL, Bool.and_true, Bool.true_and, List.take_length, storeA, AV.cells, D.cells, settleL, settle, spliceL, AV.isCell, List.all_cons, List.all_nil, Bool.and_self, List.take_succ_cons, List.take_zero, List.drop_succ_cons, List.drop_nil, List.length_cons, List.length_nil, Nat.reduceLeDiff, and_self, nilCheckA, loadA, partA, fa0, fa1, fa2, size3, agg3, size9, agg9, rd, rd2, List.cons_append, List.nil_append, List.set_cons_zero, Nat.zero_add, List.drop_zero, Nat.le_refl, hl, h0, h1] <;> rfl
  refine Goes.mid (fun st => st.tmps.length = 50 ∧ st.tmps[0]? = some (.ptr (some (0, 0))) ∧ st.tmps[5]? = some (.dat (.int .i64 at_)) ∧ st.heap = rd s ((at_ + span p (s.drop at_) : Nat) : Int) L (ver + span p (s.drop at_))) ?_ ?_
  rotate_left
  · clear hl h0 h1 ts
    rintro ⟨ts, hh⟩ ⟨hl, h0, h5, hhe⟩
    have hhe : hh = _ := hhe
    subst hhe
    have hsl := span_le p (s.drop at_)
    rw [List.length_drop] at hsl
    have hle1 : (at_ + span p (s.drop at_)) ≤ s.length := by omega
    have hle2 : at_ ≤ at_ + span p (s.drop at_) := by omega
    refine Goes.seq ?_
    apply Goes.draw 0
    · intro k hk
      simp (decide := true) only [regionT, oneOp, wantedA, stepOp, putA, keep, evalX, evalL, evalParts, cstV, cst1, binA, intOp, strOp, unA, callA, builtinA, lenA, elems, minMaxA, mm2, indexA, sliceA, boundA, Try.underlying3, Try.underlying9, Try.underlying5, Try.underlying4, List.toList_toArray, List.getD_eq_getElem?_getD, List.getElem?_set, List.length_set, Option.getD_some, Option.map_some, Option.isSome_none, List.append_nil, List.nil_append, List.map_nil, List.map_cons, reduceIte, Nat.reduceEqDiff, Nat.reduceLT, Bool.false_eq_true, Nat.reduceAdd, if_true, if_false, beq_tf, beq_ft, sealV, sealR, tupleA, finishA, resultsA, resultA, Int.toNat_natCast, retA, List.getElem?_toArray, List.getElem?_cons_zero, List.getElem?_cons_succ, Option.bind_some, AV.under, undersL, Bool.and_true, Bool.true_and, List.take_length, regionDraw, regionD, doneOp, footOf, footA, placeOf, nextAt, writesOf, makesBox, onlyReads, restrictA, holesA, setIds, countBoxes, AV.ids, idsL, List.length_append, List.length_cons, List.length_nil, List.length_replicate, List.replicate, List.headD_cons, List.tail_cons, Option.toList_none, List.nil_append, List.contains_nil, List.contains_cons, Bool.or_true, Bool.true_or, Bool.or_false, Bool.false_or, Option.isNone_some, Option.isNone_none, Bool.and_false, Bool.false_and, nilCheckA, loadA, partA, Nat.reduceBEq, beq_self_eq_true, List.drop_zero, Op.operands, Call.operands, Array.toList_append, reachA, Nat.reduceMul, List.length_map, Nat.zero_add, Nat.add_zero, List.getElem?_nil, List.set_cons_zero, and_self, and_true, true_and, List.cons_append, List.append_assoc, storeA, AV.cells, D.cells, settleL, settle, spliceL, AV.isCell, List.all_cons, List.all_nil, Bool.and_self, List.take_succ_cons, List.take_zero, List.drop_succ_cons, List.drop_nil, List.length_cons, List.length_nil, Nat.reduceLeDiff, and_self, nilCheckA, loadA, partA, fa0, fa1, fa2, size3, agg3, size9, agg9, rd, rd2, List.cons_append, List.nil_append, List.set_cons_zero, Nat.zero_add, List.drop_zero, Nat.le_refl, hl, h0, h5, Int.natCast_nonneg, Int.ofNat_le, hle1, hle2, and_self, Int.toNat_natCast, Nat.add_sub_cancel_left] <;> rfl
    apply Goes.ret
    refine ⟨.inr rfl, ?_⟩
    simp only [regionT, oneOp, wantedA, stepOp, putA, keep, evalX, evalL, evalParts, cstV, cst1, binA, intOp, strOp, unA, callA, builtinA, lenA, elems, minMaxA, mm2, indexA, sliceA, boundA, Try.underlying3, Try.underlying9, Try.underlying5, Try.underlying4, List.toList_toArray, List.getD_eq_getElem?_getD, List.getElem?_set, List.length_set, Option.getD_some, Option.map_some, Option.isSome_none, List.append_nil, List.nil_append, List.map_nil, List.map_cons, reduceIte, Nat.reduceEqDiff, Nat.reduceLT, Bool.false_eq_true, Nat.reduceAdd, if_true, if_false, beq_tf, beq_ft, sealV, sealR, tupleA, finishA, resultsA, resultA, Int.toNat_natCast, retA, List.getElem?_toArray, List.getElem?_cons_zero, List.getElem?_cons_succ, Option.bind_some, AV.under, undersL, Bool.and_true, Bool.true_and, List.take_length, storeA, AV.cells, D.cells, settleL, settle, spliceL, AV.isCell, List.all_cons, List.all_nil, Bool.and_self, List.take_succ_cons, List.take_zero, List.drop_succ_cons, List.drop_nil, List.length_cons, List.length_nil, Nat.reduceLeDiff, and_self, nilCheckA, loadA, partA, fa0, fa1, fa2, size3, agg3, size9, agg9, rd, rd2, List.cons_append, List.nil_append, List.set_cons_zero, Nat.zero_add, List.drop_zero, Nat.le_refl, hl, Try.results60, span, takeWhile_take]
  refine Goes.block (Goes.loop (I60 s p f at_ (at_ + span p (s.drop at_)) L ver) ?_ (s.length - at_) _ ⟨by simp only [regionT, oneOp, wantedA, stepOp, putA, keep, evalX, evalL, evalParts, cstV, cst1, binA, intOp, strOp, unA, callA, builtinA, lenA, elems, minMaxA, mm2, indexA, sliceA, boundA, Try.underlying3, Try.underlying9, Try.underlying5, Try.underlying4, List.toList_toArray, List.getD_eq_getElem?_getD, List.getElem?_set, List.length_set, Option.getD_some, Option.map_some, Option.isSome_none, List.append_nil, List.nil_append, List.map_nil, List.map_cons, reduceIte, Nat.reduceEqDiff, Nat.reduceLT, Bool.false_eq_true, Nat.reduceAdd, if_true, if_false, beq_tf, beq_ft, sealV, sealR, tupleA, finishA, resultsA, resultA, Int.toNat_natCast, retA, List.getElem?_toArray, List.getElem?_cons_zero, List.getElem?_cons_succ, Option.bind_some, AV.under, undersL, Bool.and_true, Bool.true_and, List.take_length, hl], by simp only [regionT, oneOp, wantedA, stepOp, putA, keep, evalX, evalL, evalParts, cstV, cst1, binA, intOp, strOp, unA, callA, builtinA, lenA, elems, minMaxA, mm2, indexA, sliceA, boundA, Try.underlying3, Try.underlying9, Try.underlying5, Try.underlying4, List.toList_toArray, List.getD_eq_getElem?_getD, List.getElem?_set, List.length_set, Option.getD_some, Option.map_some, Option.isSome_none, List.append_nil, List.nil_append, List.map_nil, List.map_cons, reduceIte, Nat.reduceEqDiff, Nat.reduceLT, Bool.false_eq_true, Nat.reduceAdd, if_true, if_false, beq_tf, beq_ft, sealV, sealR, tupleA, finishA, resultsA, resultA, Int.toNat_natCast, retA, List.getElem?_toArray, List.getElem?_cons_zero, List.getElem?_cons_succ, Option.bind_some, AV.under, undersL, Bool.and_true, Bool.true_and, List.take_length, hl, h0], by simp only [regionT, oneOp, wantedA, stepOp, putA, keep, evalX, evalL, evalParts, cstV, cst1, binA, intOp, strOp, unA, callA, builtinA, lenA, elems, minMaxA, mm2, indexA, sliceA, boundA, Try.underlying3, Try.underlying9, Try.underlying5, Try.underlying4, List.toList_toArray, List.getD_eq_getElem?_getD, List.getElem?_set, List.length_set, Option.getD_some, Option.map_some, Option.isSome_none, List.append_nil, List.nil_append, List.map_nil, List.map_cons, reduceIte, Nat.reduceEqDiff, Nat.reduceLT, Bool.false_eq_true, Nat.reduceAdd, if_true, if_false, beq_tf, beq_ft, sealV, sealR, tupleA, finishA, resultsA, resultA, Int.toNat_natCast, retA, List.getElem?_toArray, List.getElem?_cons_zero, List.getElem?_cons_succ, Option.bind_some, AV.under, undersL, Bool.and_true, Bool.true_and, List.take_length, hl, h1], by simp only [regionT, oneOp, wantedA, stepOp, putA, keep, evalX, evalL, evalParts, cstV, cst1, binA, intOp, strOp, unA, callA, builtinA, lenA, elems, minMaxA, mm2, indexA, sliceA, boundA, Try.underlying3, Try.underlying9, Try.underlying5, Try.underlying4, List.toList_toArray, List.getD_eq_getElem?_getD, List.getElem?_set, List.length_set, Option.getD_some, Option.map_some, Option.isSome_none, List.append_nil, List.nil_append, List.map_nil, List.map_cons, reduceIte, Nat.reduceEqDiff, Nat.reduceLT, Bool.false_eq_true, Nat.reduceAdd, if_true, if_false, beq_tf, beq_ft, sealV, sealR, tupleA, finishA, resultsA, resultA, Int.toNat_natCast, retA, List.getElem?_toArray, List.getElem?_cons_zero, List.getElem?_cons_succ, Option.bind_some, AV.under, undersL, Bool.and_true, Bool.true_and, List.take_length, hl], at_, by simp only [Nat.sub_self, Nat.add_zero, rd], Nat.le_refl _, hat, rfl, rfl⟩)
  clear hl h0 h1 ts
  rintro n ⟨ts, hh⟩ ⟨hl, h0, h1, h5, i, hhe, hi0, hi, rfl, hsp⟩
  have hhe : hh = rd s i L (ver + (i - at_)) := hhe
  subst hhe
  have hneg : ¬ (i : Int) < 0 := Int.not_lt.2 (Int.natCast_nonneg i)
  refine Goes.seq (Goes.seq ?_)
  by_cases hlt : i < s.length
  · have hlt' : (i : Int) < s.length := by omega
    have hc : s[i]? = some s[i] := List.getElem?_eq_getElem hlt
    obtain ⟨k0, hk0⟩ := hf s[i] [none]
    apply Goes.draw k0
    · intro k hk
      simp (decide := true) only [regionT, oneOp, wantedA, stepOp, putA, keep, evalX, evalL, evalParts, cstV, cst1, binA, intOp, strOp, unA, callA, builtinA, lenA, elems, minMaxA, mm2, indexA, sliceA, boundA, Try.underlying3, Try.underlying9, Try.underlying5, Try.underlying4, List.toList_toArray, List.getD_eq_getElem?_getD, List.getElem?_set, List.length_set, Option.getD_some, Option.map_some, Option.isSome_none, List.append_nil, List.nil_append, List.map_nil, List.map_cons, reduceIte, Nat.reduceEqDiff, Nat.reduceLT, Bool.false_eq_true, Nat.reduceAdd, if_true, if_false, beq_tf, beq_ft, sealV, sealR, tupleA, finishA, resultsA, resultA, Int.toNat_natCast, retA, List.getElem?_toArray, List.getElem?_cons_zero, List.getElem?_cons_succ, Option.bind_some, AV.under, undersL, Bool.and_true, Bool.true_and, List.take_length, regionDraw, regionD, doneOp, footOf, footA, placeOf, nextAt, writesOf, makesBox, onlyReads, restrictA, holesA, setIds, countBoxes, AV.ids, idsL, List.length_append, List.length_cons, List.length_nil, List.length_replicate, List.replicate, List.headD_cons, List.tail_cons, Option.toList_none, List.nil_append, List.contains_nil, List.contains_cons, Bool.or_true, Bool.true_or, Bool.or_false, Bool.false_or, Option.isNone_some, Option.isNone_none, Bool.and_false, Bool.false_and, nilCheckA, loadA, partA, Nat.reduceBEq, beq_self_eq_true, List.drop_zero, Op.operands, Call.operands, Array.toList_append, reachA, Nat.reduceMul, List.length_map, Nat.zero_add, Nat.add_zero, List.getElem?_nil, List.set_cons_zero, and_self, and_true, true_and, List.cons_append, List.append_assoc, storeA, AV.cells, D.cells, settleL, settle, spliceL, AV.isCell, List.all_cons, List.all_nil, Bool.and_self, List.take_succ_cons, List.take_zero, List.drop_succ_cons, List.drop_nil, List.length_cons, List.length_nil, Nat.reduceLeDiff, and_self, nilCheckA, loadA, partA, fa0, fa1, fa2, size3, agg3, size9, agg9, rd, rd2, List.cons_append, List.nil_append, List.set_cons_zero, Nat.zero_add, List.drop_zero, Nat.le_refl, hl, h0, h1, hlt', decide_true, hc, hneg, hk0 k hk] <;> rfl
    cases hp : p s[i] with
    | true =>
      have hy := span_yes hlt hp
      refine Goes.cond true (by simp only [regionT, oneOp, wantedA, stepOp, putA, keep, evalX, evalL, evalParts, cstV, cst1, binA, intOp, strOp, unA, callA, builtinA, lenA, elems, minMaxA, mm2, indexA, sliceA, boundA, Try.underlying3, Try.underlying9, Try.underlying5, Try.underlying4, List.toList_toArray, List.getD_eq_getElem?_getD, List.getElem?_set, List.length_set, Option.getD_some, Option.map_some, Option.isSome_none, List.append_nil, List.nil_append, List.map_nil, List.map_cons, reduceIte, Nat.reduceEqDiff, Nat.reduceLT, Bool.false_eq_true, Nat.reduceAdd, if_true, if_false, beq_tf, beq_ft, sealV, sealR, tupleA, finishA, resultsA, resultA, Int.toNat_natCast, retA, List.getElem?_toArray, List.getElem?_cons_zero, List.getElem?_cons_succ, Option.bind_some, AV.under, undersL, Bool.and_true, Bool.true_and, List.take_length, hl, hp]) ?_
      apply Goes.skip
      apply Goes.block
      apply Goes.region 0
      · intro k _
        simp only [regionT, oneOp, wantedA, stepOp, putA, keep, evalX, evalL, evalParts, cstV, cst1, binA, intOp, strOp, unA, callA, builtinA, lenA, elems, minMaxA, mm2, indexA, sliceA, boundA, Try.underlying3, Try.underlying9, Try.underlying5, Try.underlying4, List.toList_toArray, List.getD_eq_getElem?_getD, List.getElem?_set, List.length_set, Option.getD_some, Option.map_some, Option.isSome_none, List.append_nil, List.nil_append, List.map_nil, List.map_cons, reduceIte, Nat.reduceEqDiff, Nat.reduceLT, Bool.false_eq_true, Nat.reduceAdd, if_true, if_false, beq_tf, beq_ft, sealV, sealR, tupleA, finishA, resultsA, resultA, Int.toNat_natCast, retA, List.getElem?_toArray, List.getElem?_cons_zero, List.getElem?_cons_succ, Option.bind_some, AV.under, undersL, Bool.and_true, Bool.true_and, List.take_length, storeA, AV.cells, D.cells, settleL, settle, spliceL, AV.isCell, List.all_cons, List.all_nil, Bool.and_self, List.take_succ_cons, List.take_zero, List.drop_succ_cons, List.drop_nil, List.length_cons, List.length_nil, Nat.reduceLeDiff, and_self, nilCheckA, loadA, partA, fa0, fa1, fa2, size3, agg3, size9, agg9, rd, rd2, List.cons_append, List.nil_append, List.set_cons_zero, Nat.zero_add, List.drop_zero, Nat.le_refl, hl, h0, wrap64 ((i : Int) + 1) (by omega) (by omega)] <;> rfl
      refine ⟨s.length - (i + 1), by omega, ?_, ?_, ?_, ?_, i + 1, ?_, by omega, by omega, rfl, by omega⟩
      · simp only [regionT, oneOp, wantedA, stepOp, putA, keep, evalX, evalL, evalParts, cstV, cst1, binA, intOp, strOp, unA, callA, builtinA, lenA, elems, minMaxA, mm2, indexA, sliceA, boundA, Try.underlying3, Try.underlying9, Try.underlying5, Try.underlying4, List.toList_toArray, List.getD_eq_getElem?_getD, List.getElem?_set, List.length_set, Option.getD_some, Option.map_some, Option.isSome_none, List.append_nil, List.nil_append, List.map_nil, List.map_cons, reduceIte, Nat.reduceEqDiff, Nat.reduceLT, Bool.false_eq_true, Nat.reduceAdd, if_true, if_false, beq_tf, beq_ft, sealV, sealR, tupleA, finishA, resultsA, resultA, Int.toNat_natCast, retA, List.getElem?_toArray, List.getElem?_cons_zero, List.getElem?_cons_succ, Option.bind_some, AV.under, undersL, Bool.and_true, Bool.true_and, List.take_length, hl]
      · simp only [regionT, oneOp, wantedA, stepOp, putA, keep, evalX, evalL, evalParts, cstV, cst1, binA, intOp, strOp, unA, callA, builtinA, lenA, elems, minMaxA, mm2, indexA, sliceA, boundA, Try.underlying3, Try.underlying9, Try.underlying5, Try.underlying4, List.toList_toArray, List.getD_eq_getElem?_getD, List.getElem?_set, List.length_set, Option.getD_some, Option.map_some, Option.isSome_none, List.append_nil, List.nil_append, List.map_nil, List.map_cons, reduceIte, Nat.reduceEqDiff, Nat.reduceLT, Bool.false_eq_true, Nat.reduceAdd, if_true, if_false, beq_tf, beq_ft, sealV, sealR, tupleA, finishA, resultsA, resultA, Int.toNat_natCast, retA, List.getElem?_toArray, List.getElem?_cons_zero, List.getElem?_cons_succ, Option.bind_some, AV.under, undersL, Bool.and_true, Bool.true_and, List.take_length, hl, h0]
      · simp only [regionT, oneOp, wantedA, stepOp, putA, keep, evalX, evalL, evalParts, cstV, cst1, binA, intOp, strOp, unA, callA, builtinA, lenA, elems, minMaxA, mm2, indexA, sliceA, boundA, Try.underlying3, Try.underlying9, Try.underlying5, Try.underlying4, List.toList_toArray, List.getD_eq_getElem?_getD, List.getElem?_set, List.length_set, Option.getD_some, Option.map_some, Option.isSome_none, List.append_nil, List.nil_append, List.map_nil, List.map_cons, reduceIte, Nat.reduceEqDiff, Nat.reduceLT, Bool.false_eq_true, Nat.reduceAdd, if_true, if_false, beq_tf, beq_ft, sealV, sealR, tupleA, finishA, resultsA, resultA, Int.toNat_natCast, retA, List.getElem?_toArray, List.getElem?_cons_zero, List.getElem?_cons_succ, Option.bind_some, AV.under, undersL, Bool.and_true, Bool.true_and, List.take_length, hl, h1]
      · simp only [regionT, oneOp, wantedA, stepOp, putA, keep, evalX, evalL, evalParts, cstV, cst1, binA, intOp, strOp, unA, callA, builtinA, lenA, elems, minMaxA, mm2, indexA, sliceA, boundA, Try.underlying3, Try.underlying9, Try.underlying5, Try.underlying4, List.toList_toArray, List.getD_eq_getElem?_getD, List.getElem?_set, List.length_set, Option.getD_some, Option.map_some, Option.isSome_none, List.append_nil, List.nil_append, List.map_nil, List.map_cons, reduceIte, Nat.reduceEqDiff, Nat.reduceLT, Bool.false_eq_true, Nat.reduceAdd, if_true, if_false, beq_tf, beq_ft, sealV, sealR, tupleA, finishA, resultsA, resultA, Int.toNat_natCast, retA, List.getElem?_toArray, List.getElem?_cons_zero, List.getElem?_cons_succ, Option.bind_some, AV.under, undersL, Bool.and_true, Bool.true_and, List.take_length, hl, h5]
      · simp only [rd, Int.natCast_add, Int.natCast_one, show ver + (i + 1 - at_) = ver + (i - at_) + 1 by omega]
    | false =>
      have hz := span_no hlt hp
      refine Goes.cond false (by simp only [regionT, oneOp, wantedA, stepOp, putA, keep, evalX, evalL, evalParts, cstV, cst1, binA, intOp, strOp, unA, callA, builtinA, lenA, elems, minMaxA, mm2, indexA, sliceA, boundA, Try.underlying3, Try.underlying9, Try.underlying5, Try.underlying4, List.toList_toArray, List.getD_eq_getElem?_getD, List.getElem?_set, List.length_set, Option.getD_some, Option.map_some, Option.isSome_none, List.append_nil, List.nil_append, List.map_nil, List.map_cons, reduceIte, Nat.reduceEqDiff, Nat.reduceLT, Bool.false_eq_true, Nat.reduceAdd, if_true, if_false, beq_tf, beq_ft, sealV, sealR, tupleA, finishA, resultsA, resultA, Int.toNat_natCast, retA, List.getElem?_toArray, List.getElem?_cons_zero, List.getElem?_cons_succ, Option.bind_some, AV.under, undersL, Bool.and_true, Bool.true_and, List.take_length, hl, hp]) ?_
      apply Goes.exit
      simp only [if_true]
      have e : i = at_ + span p (s.drop at_) := by omega
      refine ⟨trivial, ?_, ?_, ?_, ?_⟩
      · simp only [regionT, oneOp, wantedA, stepOp, putA, keep, evalX, evalL, evalParts, cstV, cst1, binA, intOp, strOp, unA, callA, builtinA, lenA, elems, minMaxA, mm2, indexA, sliceA, boundA, Try.underlying3, Try.underlying9, Try.underlying5, Try.underlying4, List.toList_toArray, List.getD_eq_getElem?_getD, List.getElem?_set, List.length_set, Option.getD_some, Option.map_some, Option.isSome_none, List.append_nil, List.nil_append, List.map_nil, List.map_cons, reduceIte, Nat.reduceEqDiff, Nat.reduceLT, Bool.false_eq_true, Nat.reduceAdd, if_true, if_false, beq_tf, beq_ft, sealV, sealR, tupleA, finishA, resultsA, resultA, Int.toNat_natCast, retA, List.getElem?_toArray, List.getElem?_cons_zero, List.getElem?_cons_succ, Option.bind_some, AV.under, undersL, Bool.and_true, Bool.true_and, List.take_length, hl]
      · simp only [regionT, oneOp, wantedA, stepOp, putA, keep, evalX, evalL, evalParts, cstV, cst1, binA, intOp, strOp, unA, callA, builtinA, lenA, elems, minMaxA, mm2, indexA, sliceA, boundA, Try.underlying3, Try.underlying9, Try.underlying5, Try.underlying4, List.toList_toArray, List.getD_eq_getElem?_getD, List.getElem?_set, List.length_set, Option.getD_some, Option.map_some, Option.isSome_none, List.append_nil, List.nil_append, List.map_nil, List.map_cons, reduceIte, Nat.reduceEqDiff, Nat.reduceLT, Bool.false_eq_true, Nat.reduceAdd, if_true, if_false, beq_tf, beq_ft, sealV, sealR, tupleA, finishA, resultsA, resultA, Int.toNat_natCast, retA, List.getElem?_toArray, List.getElem?_cons_zero, List.getElem?_cons_succ, Option.bind_some, AV.under, undersL, Bool.and_true, Bool.true_and, List.take_length, hl, h0]
      · simp only [regionT, oneOp, wantedA, stepOp, putA, keep, evalX, evalL, evalParts, cstV, cst1, binA, intOp, strOp, unA, callA, builtinA, lenA, elems, minMaxA, mm2, indexA, sliceA, boundA, Try.underlying3, Try.underlying9, Try.underlying5, Try.underlying4, List.toList_toArray, List.getD_eq_getElem?_getD, List.getElem?_set, List.length_set, Option.getD_some, Option.map_some, Option.isSome_none, List.append_nil, List.nil_append, List.map_nil, List.map_cons, reduceIte, Nat.reduceEqDiff, Nat.reduceLT, Bool.false_eq_true, Nat.reduceAdd, if_true, if_false, beq_tf, beq_ft, sealV, sealR, tupleA, finishA, resultsA, resultA, Int.toNat_natCast, retA, List.getElem?_toArray, List.getElem?_cons_zero, List.getElem?_cons_succ, Option.bind_some, AV.under, undersL, Bool.and_true, Bool.true_and, List.take_length, hl, h5]
      · rw [← e, show ver + (i - at_) = ver + span p (s.drop at_) by omega]; rfl
  · have hlt' : ¬ (i : Int) < s.length := by omega
    apply Goes.draw 0
    · intro k hk
      simp (decide := true) only [regionT, oneOp, wantedA, stepOp, putA, keep, evalX, evalL, evalParts, cstV, cst1, binA, intOp, strOp, unA, callA, builtinA, lenA, elems, minMaxA, mm2, indexA, sliceA, boundA, Try.underlying3, Try.underlying9, Try.underlying5, Try.underlying4, List.toList_toArray, List.getD_eq_getElem?_getD, List.getElem?_set, List.length_set, Option.getD_some, Option.map_some, Option.isSome_none, List.append_nil, List.nil_append, List.map_nil, List.map_cons, reduceIte, Nat.reduceEqDiff, Nat.reduceLT, Bool.false_eq_true, Nat.reduceAdd, if_true, if_false, beq_tf, beq_ft, sealV, sealR, tupleA, finishA, resultsA, resultA, Int.toNat_natCast, retA, List.getElem?_toArray, List.getElem?_cons_zero, List.getElem?_cons_succ, Option.bind_some, AV.under, undersL, Bool.and_true, Bool.true_and, List.take_length, regionDraw, regionD, doneOp, footOf, footA, placeOf, nextAt, writesOf, makesBox, onlyReads, restrictA, holesA, setIds, countBoxes, AV.ids, idsL, List.length_append, List.length_cons, List.length_nil, List.length_replicate, List.replicate, List.headD_cons, List.tail_cons, Option.toList_none, List.nil_append, List.contains_nil, List.contains_cons, Bool.or_true, Bool.true_or, Bool.or_false, Bool.false_or, Option.isNone_some, Option.isNone_none, Bool.and_false, Bool.false_and, nilCheckA, loadA, partA, Nat.reduceBEq, beq_self_eq_true, List.drop_zero, Op.operands, Call.operands, Array.toList_append, reachA, Nat.reduceMul, List.length_map, Nat.zero_add, Nat.add_zero, List.getElem?_nil, List.set_cons_zero, and_self, and_true, true_and, List.cons_append, List.append_assoc, storeA, AV.cells, D.cells, settleL, settle, spliceL, AV.isCell, List.all_cons, List.all_nil, Bool.and_self, List.take_succ_cons, List.take_zero, List.drop_succ_cons, List.drop_nil, List.length_cons, List.length_nil, Nat.reduceLeDiff, and_self, nilCheckA, loadA, partA, fa0, fa1, fa2, size3, agg3, size9, agg9, rd, rd2, List.cons_append, List.nil_append, List.set_cons_zero, Nat.zero_add, List.drop_zero, Nat.le_refl, hl, h0, h1, hlt', decide_false] <;> rfl
    refine Goes.cond false (by simp only [regionT, oneOp, wantedA, stepOp, putA, keep, evalX, evalL, evalParts, cstV, cst1, binA, intOp, strOp, unA, callA, builtinA, lenA, elems, minMaxA, mm2, indexA, sliceA, boundA, Try.underlying3, Try.underlying9, Try.underlying5, Try.underlying4, List.toList_toArray, List.getD_eq_getElem?_getD, List.getElem?_set, List.length_set, Option.getD_some, Option.map_some, Option.isSome_none, List.append_nil, List.nil_append, List.map_nil, List.map_cons, reduceIte, Nat.reduceEqDiff, Nat.reduceLT, Bool.false_eq_true, Nat.reduceAdd, if_true, if_false, beq_tf, beq_ft, sealV, sealR, tupleA, finishA, resultsA, resultA, Int.toNat_natCast, retA, List.getElem?_toArray, List.getElem?_cons_zero, List.getElem?_cons_succ, Option.bind_some, AV.under, undersL, Bool.and_true, Bool.true_and, List.take_length, hl]) ?_
    apply Goes.exit
    simp only [if_true]
    have hz : span p (s.drop i) = 0 := by rw [List.drop_of_length_le (by omega)]; rfl
    have e : i = at_ + span p (s.drop at_) := by omega
    refine ⟨trivial, ?_, ?_, ?_, ?_⟩
    · simp only [regionT, oneOp, wantedA, stepOp, putA, keep, evalX, evalL, evalParts, cstV, cst1, binA, intOp, strOp, unA, callA, builtinA, lenA, elems, minMaxA, mm2, indexA, sliceA, boundA, Try.underlying3, Try.underlying9, Try.underlying5, Try.underlying4, List.toList_toArray, List.getD_eq_getElem?_getD, List.getElem?_set, List.length_set, Option.getD_some, Option.map_some, Option.isSome_none, List.append_nil, List.nil_append, List.map_nil, List.map_cons, reduceIte, Nat.reduceEqDiff, Nat.reduceLT, Bool.false_eq_true, Nat.reduceAdd, if_true, if_false, beq_tf, beq_ft, sealV, sealR, tupleA, finishA, resultsA, resultA, Int.toNat_natCast, retA, List.getElem?_toArray, List.getElem?_cons_zero, List.getElem?_cons_succ, Option.bind_some, AV.under, undersL, Bool.and_true, Bool.true_and, List.take_length, hl]
    · simp only [regionT, oneOp, wantedA, stepOp, putA, keep, evalX, evalL, evalParts, cstV, cst1, binA, intOp, strOp, unA, callA, builtinA, lenA, elems, minMaxA, mm2, indexA, sliceA, boundA, Try.underlying3, Try.underlying9, Try.underlying5, Try.underlying4, List.toList_toArray, List.getD_eq_getElem?_getD, List.getElem?_set, List.length_set, Option.getD_some, Option.map_some, Option.isSome_none, List.append_nil, List.nil_append, List.map_nil, List.map_cons, reduceIte, Nat.reduceEqDiff, Nat.reduceLT, Bool.false_eq_true, Nat.reduceAdd, if_true, if_false, beq_tf, beq_ft, sealV, sealR, tupleA, finishA, resultsA, resultA, Int.toNat_natCast, retA, List.getElem?_toArray, List.getElem?_cons_zero, List.getElem?_cons_succ, Option.bind_some, AV.under, undersL, Bool.and_true, Bool.true_and, List.take_length, hl, h0]
    · simp only [regionT, oneOp, wantedA, stepOp, putA, keep, evalX, evalL, evalParts, cstV, cst1, binA, intOp, strOp, unA, callA, builtinA, lenA, elems, minMaxA, mm2, indexA, sliceA, boundA, Try.underlying3, Try.underlying9, Try.underlying5, Try.underlying4, List.toList_toArray, List.getD_eq_getElem?_getD, List.getElem?_set, List.length_set, Option.getD_some, Option.map_some, Option.isSome_none, List.append_nil, List.nil_append, List.map_nil, List.map_cons, reduceIte, Nat.reduceEqDiff, Nat.reduceLT, Bool.false_eq_true, Nat.reduceAdd, if_true, if_false, beq_tf, beq_ft, sealV, sealR, tupleA, finishA, resultsA, resultA, Int.toNat_natCast, retA, List.getElem?_toArray, List.getElem?_cons_zero, List.getElem?_cons_succ, Option.bind_some, AV.under, undersL, Bool.and_true, Bool.true_and, List.take_length, hl, h5]
    · rw [← e, show ver + (i - at_) = ver + span p (s.drop at_) by omega]; rfl
end Go.Proofs.Ytfdcjngclelnhaa

set_option linter.unusedSimpArgs false
namespace Go.Proofs.Ytfdcjngclelnhaa
open Go Go.RowKit

/-- a token -/
structure Tok where
  kind : Int
  text : List UInt8
  n : Int
  at_ : Int

def Tok.d (t : Tok) : D := .agg [.int .i64 t.kind, .str t.text, .int .i64 t.n, .int .i64 t.at_]

/-- the tokens so far, as they lie in the reader -/
def lv (v : Nat) (toks : List Tok) : AV := match toks with
  | [] => .dat .nils
  | t :: r => .own (.at 0 2 v 34) (t.d :: r.map Tok.d)

theorem info34 : Try.prog.info? 34 = some Try.t34 := by kernel_rfl
theorem t34_size : Try.t34.size = 4 := rfl
theorem t34_bytes : Try.t34.bytes = 40 := rfl
theorem t34_zero : (Try.t34.zero.map fun v => v.cells.size) = some 4 := rfl
theorem size34 : sizeA Try.prog 34 = some 4 := by kernel_rfl
theorem agg34 : isAggA Try.prog 34 = some true := by kernel_rfl
theorem size29 : sizeA Try.prog 29 = some 1 := by kernel_rfl
theorem agg29 : isAggA Try.prog 29 = some false := by kernel_rfl
theorem fa34 : (fun (i o : Nat) => fieldAddrA Try.prog 34 (.ptr (some (i, o))) 3) = fun i o => some (.ptr (some (i, o + 3))) := by kernel_rfl
theorem fa34_3 (i o : Nat) : fieldAddrA Try.prog 34 (.ptr (some (i, o))) 3 = some (.ptr (some (i, o + 3))) := congrFun (congrFun fa34 i) o
theorem build34_all : (fun (a b c d : D) => buildSliceA Try.prog 29 1 [(0, .dat (.agg [a, b, c, d]))]) = fun a b c d => some (.own .full [.agg [a, b, c, d]]) := by kernel_rfl
theorem build34 (a b c d : D) : buildSliceA Try.prog 29 1 [(0, .dat (.agg [a, b, c, d]))] = some (.own .full [.agg [a, b, c, d]]) := congrFun (congrFun (congrFun (congrFun build34_all a) b) c) d

theorem putNew (s : List UInt8) (at_ : Int) (ver : Nat) (t : Tok) : CallsTo Try.prog primT 22 [.ptr (some (0, 0)), .dat t.d] (rd s at_ (.dat .nils) ver) (.dat (.int .i64 0)) (rd s at_ (lv ver [t]) (ver + 1)) := by
  refine CallsTo.body Try.func22 rfl rfl (Nat.le_of_ble_eq_true rfl) fun ts hl hts => ?_
  rw [Try.ntmps22] at hl
  have h0 := hts 0 _ rfl
  have h1 := hts 1 _ rfl
  refine Goes.seq ?_
  apply Goes.region 0
  · intro k _
    simp only [regionT, oneOp, wantedA, stepOp, putA, keep, evalX, evalL, evalParts, cstV, cst1, binA, intOp, strOp, unA, callA, builtinA, lenA, elems, minMaxA, mm2, indexA, sliceA, boundA, Try.underlying3, Try.underlying9, Try.underlying5, Try.underlying4, List.toList_toArray, List.getD_eq_getElem?_getD, List.getElem?_set, List.length_set, Option.getD_some, Option.map_some, Option.isSome_none, List.append_nil, List.nil_append, List.map_nil, List.map_cons, reduceIte, Nat.reduceEqDiff, Nat.reduceLT, Bool.false_eq_true, Nat.reduceAdd, if_true, if_false, beq_tf, beq_ft, sealV, sealR, tupleA, finishA, resultsA, resultA, Int.toNat_natCast, retA, List.getElem?_toArray, List.getElem?_cons_zero, List.getElem?_cons_succ, Option.bind_some, AV.under, undersL, Bool.and_true, Bool.true_and, List.take_length, storeA, AV.cells, D.cells, settleL, settle, spliceL, AV.isCell, List.all_cons, List.all_nil, Bool.and_self, List.take_succ_cons, List.take_zero, List.drop_succ_cons, List.drop_nil, List.length_cons, List.length_nil, Nat.reduceLeDiff, and_self, nilCheckA, loadA, partA, fa0, fa1, fa2, size3, agg3, size9, agg9, rd, rd2, List.cons_append, List.nil_append, List.set_cons_zero, Nat.zero_add, List.drop_zero, Nat.le_refl, newVarA, allocObj, sealT, mkAgg, allDat, appendA, moreA, fitsD, D.flat, sized, build34, Try.underlying29, Try.underlying34, info34, t34_size, t34_bytes, t34_zero, size34, agg34, fa34_3, List.map_append, List.isEmpty_cons, List.isEmpty_nil, List.singleton_append, List.concat_eq_append, List.set_cons_succ, Option.toList_some, List.getElem?_cons_succ, Option.map_some, Nat.reduceMul, Nat.reduceAdd, Nat.reducePow, List.length_singleton, List.all_cons, List.all_nil, Bool.and_true, Bool.and_self, hl, h0, h1, Tok.d, List.map_cons, List.map_nil]
    rfl
  refine Goes.seq (Goes.seq ?_)
  apply Goes.region 0
  · intro k _
    simp (decide := true) only [regionT, oneOp, wantedA, stepOp, putA, keep, evalX, evalL, evalParts, cstV, cst1, binA, intOp, strOp, unA, callA, builtinA, lenA, elems, minMaxA, mm2, indexA, sliceA, boundA, Try.underlying3, Try.underlying9, Try.underlying5, Try.underlying4, List.toList_toArray, List.getD_eq_getElem?_getD, List.getElem?_set, List.length_set, Option.getD_some, Option.map_some, Option.isSome_none, List.append_nil, List.nil_append, List.map_nil, List.map_cons, reduceIte, Nat.reduceEqDiff, Nat.reduceLT, Bool.false_eq_true, Nat.reduceAdd, if_true, if_false, beq_tf, beq_ft, sealV, sealR, tupleA, finishA, resultsA, resultA, Int.toNat_natCast, retA, List.getElem?_toArray, List.getElem?_cons_zero, List.getElem?_cons_succ, Option.bind_some, AV.under, undersL, Bool.and_true, Bool.true_and, List.take_length, storeA, AV.cells, D.cells, settleL, settle, spliceL, AV.isCell, List.all_cons, List.all_nil, Bool.and_self, List.take_succ_cons, List.take_zero, List.drop_succ_cons, List.drop_nil, List.length_cons, List.length_nil, Nat.reduceLeDiff, and_self, nilCheckA, loadA, partA, fa0, fa1, fa2, size3, agg3, size9, agg9, rd, rd2, List.cons_append, List.nil_append, List.set_cons_zero, Nat.zero_add, List.drop_zero, Nat.le_refl, newVarA, allocObj, sealT, mkAgg, allDat, appendA, moreA, fitsD, D.flat, sized, build34, Try.underlying29, Try.underlying34, info34, t34_size, t34_bytes, t34_zero, size34, agg34, fa34_3, List.map_append, List.isEmpty_cons, List.isEmpty_nil, List.singleton_append, List.concat_eq_append, List.set_cons_succ, Option.toList_some, List.getElem?_cons_succ, Option.map_some, Nat.reduceMul, Nat.reduceAdd, Nat.reducePow, List.length_singleton, List.all_cons, List.all_nil, Bool.and_true, Bool.and_self, hl, h0, h1, size29, agg29] <;> rfl
  refine Goes.cond false (by simp only [regionT, oneOp, wantedA, stepOp, putA, keep, evalX, evalL, evalParts, cstV, cst1, binA, intOp, strOp, unA, callA, builtinA, lenA, elems, minMaxA, mm2, indexA, sliceA, boundA, Try.underlying3, Try.underlying9, Try.underlying5, Try.underlying4, List.toList_toArray, List.getD_eq_getElem?_getD, List.getElem?_set, List.length_set, Option.getD_some, Option.map_some, Option.isSome_none, List.append_nil, List.nil_append, List.map_nil, List.map_cons, reduceIte, Nat.reduceEqDiff, Nat.reduceLT, Bool.false_eq_true, Nat.reduceAdd, if_true, if_false, beq_tf, beq_ft, sealV, sealR, tupleA, finishA, resultsA, resultA, Int.toNat_natCast, retA, List.getElem?_toArray, List.getElem?_cons_zero, List.getElem?_cons_succ, Option.bind_some, AV.under, undersL, Bool.and_true, Bool.true_and, List.take_length, hl] <;> rfl) ?_
  apply Goes.skip
  refine Goes.seq ?_
  apply Goes.draw 0
  · intro k _
    simp (decide := true) only [regionT, oneOp, wantedA, stepOp, putA, keep, evalX, evalL, evalParts, cstV, cst1, binA, intOp, strOp, unA, callA, builtinA, lenA, elems, minMaxA, mm2, indexA, sliceA, boundA, Try.underlying3, Try.underlying9, Try.underlying5, Try.underlying4, List.toList_toArray, List.getD_eq_getElem?_getD, List.getElem?_set, List.length_set, Option.getD_some, Option.map_some, Option.isSome_none, List.append_nil, List.nil_append, List.map_nil, List.map_cons, reduceIte, Nat.reduceEqDiff, Nat.reduceLT, Bool.false_eq_true, Nat.reduceAdd, if_true, if_false, beq_tf, beq_ft, sealV, sealR, tupleA, finishA, resultsA, resultA, Int.toNat_natCast, retA, List.getElem?_toArray, List.getElem?_cons_zero, List.getElem?_cons_succ, Option.bind_some, AV.under, undersL, Bool.and_true, Bool.true_and, List.take_length, regionDraw, regionD, doneOp, footOf, footA, placeOf, nextAt, writesOf, makesBox, onlyReads, restrictA, holesA, setIds, countBoxes, AV.ids, idsL, List.length_append, List.length_cons, List.length_nil, List.length_replicate, List.replicate, List.headD_cons, List.tail_cons, Option.toList_none, List.nil_append, List.contains_nil, List.contains_cons, Bool.or_true, Bool.true_or, Bool.or_false, Bool.false_or, Option.isNone_some, Option.isNone_none, Bool.and_false, Bool.false_and, nilCheckA, loadA, partA, Nat.reduceBEq, beq_self_eq_true, List.drop_zero, Op.operands, Call.operands, Array.toList_append, reachA, Nat.reduceMul, List.length_map, Nat.zero_add, Nat.add_zero, List.getElem?_nil, List.set_cons_zero, and_self, and_true, true_and, List.cons_append, List.append_assoc, storeA, AV.cells, D.cells, settleL, settle, spliceL, AV.isCell, List.all_cons, List.all_nil, Bool.and_self, List.take_succ_cons, List.take_zero, List.drop_succ_cons, List.drop_nil, List.length_cons, List.length_nil, Nat.reduceLeDiff, and_self, nilCheckA, loadA, partA, fa0, fa1, fa2, size3, agg3, size9, agg9, rd, rd2, List.cons_append, List.nil_append, List.set_cons_zero, Nat.zero_add, List.drop_zero, Nat.le_refl, newVarA, allocObj, sealT, mkAgg, allDat, appendA, moreA, fitsD, D.flat, sized, build34, Try.underlying29, Try.underlying34, info34, t34_size, t34_bytes, t34_zero, size34, agg34, fa34_3, List.map_append, List.isEmpty_cons, List.isEmpty_nil, List.singleton_append, List.concat_eq_append, List.set_cons_succ, Option.toList_some, List.getElem?_cons_succ, Option.map_some, Nat.reduceMul, Nat.reduceAdd, Nat.reducePow, List.length_singleton, List.all_cons, List.all_nil, Bool.and_true, Bool.and_self, hl, h0, h1, size29, agg29] <;> rfl
  refine Goes.seq ?_
  apply Goes.region 0
  · intro k _
    simp only [regionT, oneOp, wantedA, stepOp, putA, keep, evalX, evalL, evalParts, cstV, cst1, binA, intOp, strOp, unA, callA, builtinA, lenA, elems, minMaxA, mm2, indexA, sliceA, boundA, Try.underlying3, Try.underlying9, Try.underlying5, Try.underlying4, List.toList_toArray, List.getD_eq_getElem?_getD, List.getElem?_set, List.length_set, Option.getD_some, Option.map_some, Option.isSome_none, List.append_nil, List.nil_append, List.map_nil, List.map_cons, reduceIte, Nat.reduceEqDiff, Nat.reduceLT, Bool.false_eq_true, Nat.reduceAdd, if_true, if_false, beq_tf, beq_ft, sealV, sealR, tupleA, finishA, resultsA, resultA, Int.toNat_natCast, retA, List.getElem?_toArray, List.getElem?_cons_zero, List.getElem?_cons_succ, Option.bind_some, AV.under, undersL, Bool.and_true, Bool.true_and, List.take_length, hl] <;> rfl
  apply Goes.ret
  refine ⟨.inr rfl, ?_⟩
  simp only [regionT, oneOp, wantedA, stepOp, putA, keep, evalX, evalL, evalParts, cstV, cst1, binA, intOp, strOp, unA, callA, builtinA, lenA, elems, minMaxA, mm2, indexA, sliceA, boundA, Try.underlying3, Try.underlying9, Try.underlying5, Try.underlying4, List.toList_toArray, List.getD_eq_getElem?_getD, List.getElem?_set, List.length_set, Option.getD_some, Option.map_some, Option.isSome_none, List.append_nil, List.nil_append, List.map_nil, List.map_cons, reduceIte, Nat.reduceEqDiff, Nat.reduceLT, Bool.false_eq_true, Nat.reduceAdd, if_true, if_false, beq_tf, beq_ft, sealV, sealR, tupleA, finishA, resultsA, resultA, Int.toNat_natCast, retA, List.getElem?_toArray, List.getElem?_cons_zero, List.getElem?_cons_succ, Option.bind_some, AV.under, undersL, Bool.and_true, Bool.true_and, List.take_length, storeA, AV.cells, D.cells, settleL, settle, spliceL, AV.isCell, List.all_cons, List.all_nil, Bool.and_self, List.take_succ_cons, List.take_zero, List.drop_succ_cons, List.drop_nil, List.length_cons, List.length_nil, Nat.reduceLeDiff, and_self, nilCheckA, loadA, partA, fa0, fa1, fa2, size3, agg3, size9, agg9, rd, rd2, List.cons_append, List.nil_append, List.set_cons_zero, Nat.zero_add, List.drop_zero, Nat.le_refl, hl, Try.results22, lv, Tok.d]

theorem room (n : Nat) (h : n ≤ 100000) : roomOk n 40 = true := by
  unfold roomOk
  apply decide_eq_true
  omega

theorem putMore (s : List UInt8) (at_ : Int) (v ver : Nat) (t t0 : Tok) (r : List Tok) (hr : r.length + 1 < 6000) : CallsTo Try.prog primT 22 [.ptr (some (0, 0)), .dat t.d] (rd s at_ (lv v (t0 :: r)) ver) (.dat (.int .i64 0)) (rd s at_ (lv ver (t0 :: r ++ [t])) (ver + 1)) := by
  have hne : (((r.length + 1 : Nat) : Int) == 6000) = false := by rw [beq_eq_false_iff_ne]; omega
  have hroom : roomOk (r.length + 1 + 1) 40 = true := room _ (by omega)
  refine CallsTo.body Try.func22 rfl rfl (Nat.le_of_ble_eq_true rfl) fun ts hl hts => ?_
  rw [Try.ntmps22] at hl
  have h0 := hts 0 _ rfl
  have h1 := hts 1 _ rfl
  refine Goes.seq ?_
  apply Goes.region 0
  · intro k _
    simp only [regionT, oneOp, wantedA, stepOp, putA, keep, evalX, evalL, evalParts, cstV, cst1, binA, intOp, strOp, unA, callA, builtinA, lenA, elems, minMaxA, mm2, indexA, sliceA, boundA, Try.underlying3, Try.underlying9, Try.underlying5, Try.underlying4, List.toList_toArray, List.getD_eq_getElem?_getD, List.getElem?_set, List.length_set, Option.getD_some, Option.map_some, Option.isSome_none, List.append_nil, List.nil_append, List.map_nil, List.map_cons, reduceIte, Nat.reduceEqDiff, Nat.reduceLT, Bool.false_eq_true, Nat.reduceAdd, if_true, if_false, beq_tf, beq_ft, sealV, sealR, tupleA, finishA, resultsA, resultA, Int.toNat_natCast, retA, List.getElem?_toArray, List.getElem?_cons_zero, List.getElem?_cons_succ, Option.bind_some, AV.under, undersL, Bool.and_true, Bool.true_and, List.take_length, storeA, AV.cells, D.cells, settleL, settle, spliceL, AV.isCell, List.all_cons, List.all_nil, Bool.and_self, List.take_succ_cons, List.take_zero, List.drop_succ_cons, List.drop_nil, List.length_cons, List.length_nil, Nat.reduceLeDiff, and_self, nilCheckA, loadA, partA, fa0, fa1, fa2, size3, agg3, size9, agg9, rd, rd2, List.cons_append, List.nil_append, List.set_cons_zero, Nat.zero_add, List.drop_zero, Nat.le_refl, newVarA, allocObj, sealT, mkAgg, allDat, appendA, moreA, fitsD, D.flat, sized, build34, Try.underlying29, Try.underlying34, info34, t34_size, t34_bytes, t34_zero, size34, agg34, fa34_3, List.map_append, List.isEmpty_cons, List.isEmpty_nil, List.singleton_append, List.concat_eq_append, List.set_cons_succ, Option.toList_some, List.getElem?_cons_succ, Option.map_some, Nat.reduceMul, Nat.reduceAdd, Nat.reducePow, List.length_singleton, List.all_cons, List.all_nil, Bool.and_true, Bool.and_self, hl, h0, h1, Tok.d, List.map_cons, List.map_nil]
    rfl
  refine Goes.seq (Goes.seq ?_)
  apply Goes.region 0
  · intro k _
    simp (decide := true) only [regionT, oneOp, wantedA, stepOp, putA, keep, evalX, evalL, evalParts, cstV, cst1, binA, intOp, strOp, unA, callA, builtinA, lenA, elems, minMaxA, mm2, indexA, sliceA, boundA, Try.underlying3, Try.underlying9, Try.underlying5, Try.underlying4, List.toList_toArray, List.getD_eq_getElem?_getD, List.getElem?_set, List.length_set, Option.getD_some, Option.map_some, Option.isSome_none, List.append_nil, List.nil_append, List.map_nil, List.map_cons, reduceIte, Nat.reduceEqDiff, Nat.reduceLT, Bool.false_eq_true, Nat.reduceAdd, if_true, if_false, beq_tf, beq_ft, sealV, sealR, tupleA, finishA, resultsA, resultA, Int.toNat_natCast, retA, List.getElem?_toArray, List.getElem?_cons_zero, List.getElem?_cons_succ, Option.bind_some, AV.under, undersL, Bool.and_true, Bool.true_and, List.take_length, storeA, AV.cells, D.cells, settleL, settle, spliceL, AV.isCell, List.all_cons, List.all_nil, Bool.and_self, List.take_succ_cons, List.take_zero, List.drop_succ_cons, List.drop_nil, List.length_cons, List.length_nil, Nat.reduceLeDiff, and_self, nilCheckA, loadA, partA, fa0, fa1, fa2, size3, agg3, size9, agg9, rd, rd2, List.cons_append, List.nil_append, List.set_cons_zero, Nat.zero_add, List.drop_zero, Nat.le_refl, newVarA, allocObj, sealT, mkAgg, allDat, appendA, moreA, fitsD, D.flat, sized, build34, Try.underlying29, Try.underlying34, info34, t34_size, t34_bytes, t34_zero, size34, agg34, fa34_3, List.map_append, List.isEmpty_cons, List.isEmpty_nil, List.singleton_append, List.concat_eq_append, List.set_cons_succ, Option.toList_some, List.getElem?_cons_succ, Option.map_some, Nat.reduceMul, Nat.reduceAdd, Nat.reducePow, List.length_singleton, List.all_cons, List.all_nil, Bool.and_true, Bool.and_self, hl, h0, h1, size29, agg29, lv, List.length_map, hne] <;> rfl
  refine Goes.cond false (by simp only [regionT, oneOp, wantedA, stepOp, putA, keep, evalX, evalL, evalParts, cstV, cst1, binA, intOp, strOp, unA, callA, builtinA, lenA, elems, minMaxA, mm2, indexA, sliceA, boundA, Try.underlying3, Try.underlying9, Try.underlying5, Try.underlying4, List.toList_toArray, List.getD_eq_getElem?_getD, List.getElem?_set, List.length_set, Option.getD_some, Option.map_some, Option.isSome_none, List.append_nil, List.nil_append, List.map_nil, List.map_cons, reduceIte, Nat.reduceEqDiff, Nat.reduceLT, Bool.false_eq_true, Nat.reduceAdd, if_true, if_false, beq_tf, beq_ft, sealV, sealR, tupleA, finishA, resultsA, resultA, Int.toNat_natCast, retA, List.getElem?_toArray, List.getElem?_cons_zero, List.getElem?_cons_succ, Option.bind_some, AV.under, undersL, Bool.and_true, Bool.true_and, List.take_length, hl] <;> rfl) ?_
  apply Goes.skip
  refine Goes.seq ?_
  apply Goes.draw 0
  · intro k _
    simp (decide := true) only [regionT, oneOp, wantedA, stepOp, putA, keep, evalX, evalL, evalParts, cstV, cst1, binA, intOp, strOp, unA, callA, builtinA, lenA, elems, minMaxA, mm2, indexA, sliceA, boundA, Try.underlying3, Try.underlying9, Try.underlying5, Try.underlying4, List.toList_toArray, List.getD_eq_getElem?_getD, List.getElem?_set, List.length_set, Option.getD_some, Option.map_some, Option.isSome_none, List.append_nil, List.nil_append, List.map_nil, List.map_cons, reduceIte, Nat.reduceEqDiff, Nat.reduceLT, Bool.false_eq_true, Nat.reduceAdd, if_true, if_false, beq_tf, beq_ft, sealV, sealR, tupleA, finishA, resultsA, resultA, Int.toNat_natCast, retA, List.getElem?_toArray, List.getElem?_cons_zero, List.getElem?_cons_succ, Option.bind_some, AV.under, undersL, Bool.and_true, Bool.true_and, List.take_length, regionDraw, regionD, doneOp, footOf, footA, placeOf, nextAt, writesOf, makesBox, onlyReads, restrictA, holesA, setIds, countBoxes, AV.ids, idsL, List.length_append, List.length_cons, List.length_nil, List.length_replicate, List.replicate, List.headD_cons, List.tail_cons, Option.toList_none, List.nil_append, List.contains_nil, List.contains_cons, Bool.or_true, Bool.true_or, Bool.or_false, Bool.false_or, Option.isNone_some, Option.isNone_none, Bool.and_false, Bool.false_and, nilCheckA, loadA, partA, Nat.reduceBEq, beq_self_eq_true, List.drop_zero, Op.operands, Call.operands, Array.toList_append, reachA, Nat.reduceMul, List.length_map, Nat.zero_add, Nat.add_zero, List.getElem?_nil, List.set_cons_zero, and_self, and_true, true_and, List.cons_append, List.append_assoc, storeA, AV.cells, D.cells, settleL, settle, spliceL, AV.isCell, List.all_cons, List.all_nil, Bool.and_self, List.take_succ_cons, List.take_zero, List.drop_succ_cons, List.drop_nil, List.length_cons, List.length_nil, Nat.reduceLeDiff, and_self, nilCheckA, loadA, partA, fa0, fa1, fa2, size3, agg3, size9, agg9, rd, rd2, List.cons_append, List.nil_append, List.set_cons_zero, Nat.zero_add, List.drop_zero, Nat.le_refl, newVarA, allocObj, sealT, mkAgg, allDat, appendA, moreA, fitsD, D.flat, sized, build34, Try.underlying29, Try.underlying34, info34, t34_size, t34_bytes, t34_zero, size34, agg34, fa34_3, List.map_append, List.isEmpty_cons, List.isEmpty_nil, List.singleton_append, List.concat_eq_append, List.set_cons_succ, Option.toList_some, List.getElem?_cons_succ, Option.map_some, Nat.reduceMul, Nat.reduceAdd, Nat.reducePow, List.length_singleton, List.all_cons, List.all_nil, Bool.and_true, Bool.and_self, hl, h0, h1, size29, agg29, lv, Tok.d, List.length_map, List.length_append, Nat.succ_ne_zero, ne_eq, not_false_eq_true, hroom]
    rfl
  refine Goes.seq ?_
  apply Goes.region 0
  · intro k _
    simp only [regionT, oneOp, wantedA, stepOp, putA, keep, evalX, evalL, evalParts, cstV, cst1, binA, intOp, strOp, unA, callA, builtinA, lenA, elems, minMaxA, mm2, indexA, sliceA, boundA, Try.underlying3, Try.underlying9, Try.underlying5, Try.underlying4, List.toList_toArray, List.getD_eq_getElem?_getD, List.getElem?_set, List.length_set, Option.getD_some, Option.map_some, Option.isSome_none, List.append_nil, List.nil_append, List.map_nil, List.map_cons, reduceIte, Nat.reduceEqDiff, Nat.reduceLT, Bool.false_eq_true, Nat.reduceAdd, if_true, if_false, beq_tf, beq_ft, sealV, sealR, tupleA, finishA, resultsA, resultA, Int.toNat_natCast, retA, List.getElem?_toArray, List.getElem?_cons_zero, List.getElem?_cons_succ, Option.bind_some, AV.under, undersL, Bool.and_true, Bool.true_and, List.take_length, hl] <;> rfl
  apply Goes.ret
  refine ⟨.inr rfl, ?_⟩
  simp only [regionT, oneOp, wantedA, stepOp, putA, keep, evalX, evalL, evalParts, cstV, cst1, binA, intOp, strOp, unA, callA, builtinA, lenA, elems, minMaxA, mm2, indexA, sliceA, boundA, Try.underlying3, Try.underlying9, Try.underlying5, Try.underlying4, List.toList_toArray, List.getD_eq_getElem?_getD, List.getElem?_set, List.length_set, Option.getD_some, Option.map_some, Option.isSome_none, List.append_nil, List.nil_append, List.map_nil, List.map_cons, reduceIte, Nat.reduceEqDiff, Nat.reduceLT, Bool.false_eq_true, Nat.reduceAdd, if_true, if_false, beq_tf, beq_ft, sealV, sealR, tupleA, finishA, resultsA, resultA, Int.toNat_natCast, retA, List.getElem?_toArray, List.getElem?_cons_zero, List.getElem?_cons_succ, Option.bind_some, AV.under, undersL, Bool.and_true, Bool.true_and, List.take_length, storeA, AV.cells, D.cells, settleL, settle, spliceL, AV.isCell, List.all_cons, List.all_nil, Bool.and_self, List.take_succ_cons, List.take_zero, List.drop_succ_cons, List.drop_nil, List.length_cons, List.length_nil, Nat.reduceLeDiff, and_self, nilCheckA, loadA, partA, fa0, fa1, fa2, size3, agg3, size9, agg9, rd, rd2, List.cons_append, List.nil_append, List.set_cons_zero, Nat.zero_add, List.drop_zero, Nat.le_refl, hl, Try.results22, lv, Tok.d, List.map_append, List.map_cons, List.map_nil]

theorem put_ok (s : List UInt8) (at_ : Int) (v ver : Nat) (t : Tok) (toks : List Tok) (h : toks.length < 6000) : CallsTo Try.prog primT 22 [.ptr (some (0, 0)), .dat t.d] (rd s at_ (lv v toks) ver) (.dat (.int .i64 0)) (rd s at_ (lv ver (toks ++ [t])) (ver + 1)) := by
  cases toks with
  | nil => exact putNew s at_ ver t
  | cons t0 r => exact putMore s at_ v ver t t0 r h

theorem put_full (s : List UInt8) (at_ : Int) (v ver : Nat) (t : Tok) (toks : List Tok) (h : toks.length = 6000) : CallsTo Try.prog primT 22 [.ptr (some (0, 0)), .dat t.d] (rd s at_ (lv v toks) ver) (.dat (.int .i64 8)) (rd s t.at_ (lv v toks) (ver + 1)) := by
  cases toks with
  | nil => exact nomatch h
  | cons t0 r =>
    have hne : (((r.length + 1 : Nat) : Int) == 6000) = true := by rw [beq_iff_eq]; simp only [List.length_cons] at h; omega
    refine CallsTo.body Try.func22 rfl rfl (Nat.le_of_ble_eq_true rfl) fun ts hl hts => ?_
    rw [Try.ntmps22] at hl
    have h0 := hts 0 _ rfl
    have h1 := hts 1 _ rfl
    refine Goes.seq ?_
    apply Goes.region 0
    · intro k _
      simp only [regionT, oneOp, wantedA, stepOp, putA, keep, evalX, evalL, evalParts, cstV, cst1, binA, intOp, strOp, unA, callA, builtinA, lenA, elems, minMaxA, mm2, indexA, sliceA, boundA, Try.underlying3, Try.underlying9, Try.underlying5, Try.underlying4, List.toList_toArray, List.getD_eq_getElem?_getD, List.getElem?_set, List.length_set, Option.getD_some, Option.map_some, Option.isSome_none, List.append_nil, List.nil_append, List.map_nil, List.map_cons, reduceIte, Nat.reduceEqDiff, Nat.reduceLT, Bool.false_eq_true, Nat.reduceAdd, if_true, if_false, beq_tf, beq_ft, sealV, sealR, tupleA, finishA, resultsA, resultA, Int.toNat_natCast, retA, List.getElem?_toArray, List.getElem?_cons_zero, List.getElem?_cons_succ, Option.bind_some, AV.under, undersL, Bool.and_true, Bool.true_and, List.take_length, storeA, AV.cells, D.cells, settleL, settle, spliceL, AV.isCell, List.all_cons, List.all_nil, Bool.and_self, List.take_succ_cons, List.take_zero, List.drop_succ_cons, List.drop_nil, List.length_cons, List.length_nil, Nat.reduceLeDiff, and_self, nilCheckA, loadA, partA, fa0, fa1, fa2, size3, agg3, size9, agg9, rd, rd2, List.cons_append, List.nil_append, List.set_cons_zero, Nat.zero_add, List.drop_zero, Nat.le_refl, newVarA, allocObj, sealT, mkAgg, allDat, appendA, moreA, fitsD, D.flat, sized, build34, Try.underlying29, Try.underlying34, info34, t34_size, t34_bytes, t34_zero, size34, agg34, fa34_3, List.map_append, List.isEmpty_cons, List.isEmpty_nil, List.singleton_append, List.concat_eq_append, List.set_cons_succ, Option.toList_some, List.getElem?_cons_succ, Option.map_some, Nat.reduceMul, Nat.reduceAdd, Nat.reducePow, List.length_singleton, List.all_cons, List.all_nil, Bool.and_true, Bool.and_self, hl, h0, h1, Tok.d, List.map_cons, List.map_nil]
      rfl
    refine Goes.seq (Goes.seq ?_)
    apply Goes.region 0
    · intro k _
      simp (decide := true) only [regionT, oneOp, wantedA, stepOp, putA, keep, evalX, evalL, evalParts, cstV, cst1, binA, intOp, strOp, unA, callA, builtinA, lenA, elems, minMaxA, mm2, indexA, sliceA, boundA, Try.underlying3, Try.underlying9, Try.underlying5, Try.underlying4, List.toList_toArray, List.getD_eq_getElem?_getD, List.getElem?_set, List.length_set, Option.getD_some, Option.map_some, Option.isSome_none, List.append_nil, List.nil_append, List.map_nil, List.map_cons, reduceIte, Nat.reduceEqDiff, Nat.reduceLT, Bool.false_eq_true, Nat.reduceAdd, if_true, if_false, beq_tf, beq_ft, sealV, sealR, tupleA, finishA, resultsA, resultA, Int.toNat_natCast, retA, List.getElem?_toArray, List.getElem?_cons_zero, List.getElem?_cons_succ, Option.bind_some, AV.under, undersL, Bool.and_true, Bool.true_and, List.take_length, storeA, AV.cells, D.cells, settleL, settle, spliceL, AV.isCell, List.all_cons, List.all_nil, Bool.and_self, List.take_succ_cons, List.take_zero, List.drop_succ_cons, List.drop_nil, List.length_cons, List.length_nil, Nat.reduceLeDiff, and_self, nilCheckA, loadA, partA, fa0, fa1, fa2, size3, agg3, size9, agg9, rd, rd2, List.cons_append, List.nil_append, List.set_cons_zero, Nat.zero_add, List.drop_zero, Nat.le_refl, newVarA, allocObj, sealT, mkAgg, allDat, appendA, moreA, fitsD, D.flat, sized, build34, Try.underlying29, Try.underlying34, info34, t34_size, t34_bytes, t34_zero, size34, agg34, fa34_3, List.map_append, List.isEmpty_cons, List.isEmpty_nil, List.singleton_append, List.concat_eq_append, List.set_cons_succ, Option.toList_some, List.getElem?_cons_succ, Option.map_some, Nat.reduceMul, Nat.reduceAdd, Nat.reducePow, List.length_singleton, List.all_cons, List.all_nil, Bool.and_true, Bool.and_self, hl, h0, h1, size29, agg29, lv, List.length_map, hne] <;> rfl
    refine Goes.cond true (by simp only [regionT, oneOp, wantedA, stepOp, putA, keep, evalX, evalL, evalParts, cstV, cst1, binA, intOp, strOp, unA, callA, builtinA, lenA, elems, minMaxA, mm2, indexA, sliceA, boundA, Try.underlying3, Try.underlying9, Try.underlying5, Try.underlying4, List.toList_toArray, List.getD_eq_getElem?_getD, List.getElem?_set, List.length_set, Option.getD_some, Option.map_some, Option.isSome_none, List.append_nil, List.nil_append, List.map_nil, List.map_cons, reduceIte, Nat.reduceEqDiff, Nat.reduceLT, Bool.false_eq_true, Nat.reduceAdd, if_true, if_false, beq_tf, beq_ft, sealV, sealR, tupleA, finishA, resultsA, resultA, Int.toNat_natCast, retA, List.getElem?_toArray, List.getElem?_cons_zero, List.getElem?_cons_succ, Option.bind_some, AV.under, undersL, Bool.and_true, Bool.true_and, List.take_length, hl] <;> rfl) ?_
    refine Goes.seq ?_
    apply Goes.region 0
    · intro k _
      simp (decide := true) only [regionT, oneOp, wantedA, stepOp, putA, keep, evalX, evalL, evalParts, cstV, cst1, binA, intOp, strOp, unA, callA, builtinA, lenA, elems, minMaxA, mm2, indexA, sliceA, boundA, Try.underlying3, Try.underlying9, Try.underlying5, Try.underlying4, List.toList_toArray, List.getD_eq_getElem?_getD, List.getElem?_set, List.length_set, Option.getD_some, Option.map_some, Option.isSome_none, List.append_nil, List.nil_append, List.map_nil, List.map_cons, reduceIte, Nat.reduceEqDiff, Nat.reduceLT, Bool.false_eq_true, Nat.reduceAdd, if_true, if_false, beq_tf, beq_ft, sealV, sealR, tupleA, finishA, resultsA, resultA, Int.toNat_natCast, retA, List.getElem?_toArray, List.getElem?_cons_zero, List.getElem?_cons_succ, Option.bind_some, AV.under, undersL, Bool.and_true, Bool.true_and, List.take_length, storeA, AV.cells, D.cells, settleL, settle, spliceL, AV.isCell, List.all_cons, List.all_nil, Bool.and_self, List.take_succ_cons, List.take_zero, List.drop_succ_cons, List.drop_nil, List.length_cons, List.length_nil, Nat.reduceLeDiff, and_self, nilCheckA, loadA, partA, fa0, fa1, fa2, size3, agg3, size9, agg9, rd, rd2, List.cons_append, List.nil_append, List.set_cons_zero, Nat.zero_add, List.drop_zero, Nat.le_refl, newVarA, allocObj, sealT, mkAgg, allDat, appendA, moreA, fitsD, D.flat, sized, build34, Try.underlying29, Try.underlying34, info34, t34_size, t34_bytes, t34_zero, size34, agg34, fa34_3, List.map_append, List.isEmpty_cons, List.isEmpty_nil, List.singleton_append, List.concat_eq_append, List.set_cons_succ, Option.toList_some, List.getElem?_cons_succ, Option.map_some, Nat.reduceMul, Nat.reduceAdd, Nat.reducePow, List.length_singleton, List.all_cons, List.all_nil, Bool.and_true, Bool.and_self, hl, h0, h1] <;> rfl
    refine Goes.seq ?_
    apply Goes.region 0
    · intro k _
      simp only [regionT, oneOp, wantedA, stepOp, putA, keep, evalX, evalL, evalParts, cstV, cst1, binA, intOp, strOp, unA, callA, builtinA, lenA, elems, minMaxA, mm2, indexA, sliceA, boundA, Try.underlying3, Try.underlying9, Try.underlying5, Try.underlying4, List.toList_toArray, List.getD_eq_getElem?_getD, List.getElem?_set, List.length_set, Option.getD_some, Option.map_some, Option.isSome_none, List.append_nil, List.nil_append, List.map_nil, List.map_cons, reduceIte, Nat.reduceEqDiff, Nat.reduceLT, Bool.false_eq_true, Nat.reduceAdd, if_true, if_false, beq_tf, beq_ft, sealV, sealR, tupleA, finishA, resultsA, resultA, Int.toNat_natCast, retA, List.getElem?_toArray, List.getElem?_cons_zero, List.getElem?_cons_succ, Option.bind_some, AV.under, undersL, Bool.and_true, Bool.true_and, List.take_length, hl] <;> rfl
    apply Goes.ret
    refine ⟨.inr rfl, ?_⟩
    simp only [regionT, oneOp, wantedA, stepOp, putA, keep, evalX, evalL, evalParts, cstV, cst1, binA, intOp, strOp, unA, callA, builtinA, lenA, elems, minMaxA, mm2, indexA, sliceA, boundA, Try.underlying3, Try.underlying9, Try.underlying5, Try.underlying4, List.toList_toArray, List.getD_eq_getElem?_getD, List.getElem?_set, List.length_set, Option.getD_some, Option.map_some, Option.isSome_none, List.append_nil, List.nil_append, List.map_nil, List.map_cons, reduceIte, Nat.reduceEqDiff, Nat.reduceLT, Bool.false_eq_true, Nat.reduceAdd, if_true, if_false, beq_tf, beq_ft, sealV, sealR, tupleA, finishA, resultsA, resultA, Int.toNat_natCast, retA, List.getElem?_toArray, List.getElem?_cons_zero, List.getElem?_cons_succ, Option.bind_some, AV.under, undersL, Bool.and_true, Bool.true_and, List.take_length, storeA, AV.cells, D.cells, settleL, settle, spliceL, AV.isCell, List.all_cons, List.all_nil, Bool.and_self, List.take_succ_cons, List.take_zero, List.drop_succ_cons, List.drop_nil, List.length_cons, List.length_nil, Nat.reduceLeDiff, and_self, nilCheckA, loadA, partA, fa0, fa1, fa2, size3, agg3, size9, agg9, rd, rd2, List.cons_append, List.nil_append, List.set_cons_zero, Nat.zero_add, List.drop_zero, Nat.le_refl, hl, Try.results22, lv, Tok.d, List.map_append, List.map_cons, List.map_nil]
end Go.Proofs.Ytfdcjngclelnhaa

set_option linter.unusedSimpArgs false
namespace Go.Proofs.Ytfdcjngclelnhaa
open Go Go.RowKit

section
variable {P : Program} {prim : FuncId → Option Prim} {Q : Ex → St → Prop}

theorem scope_from {b rest : Code} {L : Nat} (hfl : findLabel b L = some rest) (J : Nat → St → Prop)
    (h : ∀ n s, J n s → Goes P prim rest s fun e s' => match e with | .goto l => l = L ∧ ∃ m, m < n ∧ J m s' | e => Q e s') :
    ∀ n s, J n s → ∃ e s', Q e s' ∧ (∀ l, e ≠ .goto l) ∧ ∃ k0, ∀ k N, k0 ≤ k → k0 ≤ N → scopeLoop (run P prim k) b N rest s = some (e, s') := by
  intro n
  induction n using Nat.strongRecOn with
  | _ n ih =>
    intro s hj
    obtain ⟨e, s1, h1, k1, h2⟩ := h n s hj
    cases e with
    | goto l =>
      obtain ⟨rfl, m, hm, hj'⟩ := h1
      obtain ⟨e, s2, h3, hng, k2, h4⟩ := ih m hm s1 hj'
      refine ⟨e, s2, h3, hng, max k1 k2 + 1, fun k N hk hN => ?_⟩
      obtain ⟨j, rfl⟩ : ∃ j, N = j + 1 := ⟨N - 1, by omega⟩
      simp only [scopeLoop, h2 k (by omega), hfl, h4 k j (by omega) (by omega)]
    | ret | exit _ | normal =>
      refine ⟨_, s1, h1, (by intro l hl; cases hl), k1 + 1, fun k N hk hN => ?_⟩
      obtain ⟨j, rfl⟩ : ∃ j, N = j + 1 := ⟨N - 1, by omega⟩
      simp only [scopeLoop, h2 k (by omega)]

theorem run_scope (k : Nat) (b : Code) (s : St) : run P prim (k + 1) (.scope b) s = scopeLoop (run P prim k) b k b s := rfl

/-- code that begins with its label -/
theorem Goes.scope {b rest : Code} {L : Nat} (hb : b = .seq (.label L) rest) (hfl : findLabel b L = some (.seq .skip rest)) (J : Nat → St → Prop)
    (h : ∀ n s, J n s → Goes P prim rest s fun e s' => match e with | .goto l => l = L ∧ ∃ m, m < n ∧ J m s' | e => Q e s') {n : Nat} {s : St} (hj : J n s) : Goes P prim (.scope b) s Q := by
  have h0 : Goes P prim b s fun e s' => match e with | .goto l => l = L ∧ ∃ m, m < n ∧ J m s' | e => Q e s' := by
    subst hb
    exact Goes.seq (Goes.label (h n s hj))
  obtain ⟨e, s1, h1, k1, h2⟩ := h0
  cases e with
  | goto l =>
    obtain ⟨rfl, m, hm, hj'⟩ := h1
    obtain ⟨e, s2, h3, _, k2, h4⟩ := scope_from (P := P) (prim := prim) (Q := Q) hfl J (fun n s hj => Goes.seq (Goes.skip (h n s hj))) m s1 hj'
    refine ⟨e, s2, h3, max k1 k2 + 2, fun k hk => ?_⟩
    obtain ⟨j, rfl⟩ : ∃ j, k = j + 2 := ⟨k - 2, by omega⟩
    rw [show j + 2 = (j + 1) + 1 from rfl, run_scope]
    simp only [scopeLoop, h2 (j + 1) (by omega), hfl, h4 (j + 1) j (by omega) (by omega)]
  | ret | exit _ | normal =>
    refine ⟨_, s1, h1, k1 + 2, fun k hk => ?_⟩
    obtain ⟨j, rfl⟩ : ∃ j, k = j + 2 := ⟨k - 2, by omega⟩
    rw [show j + 2 = (j + 1) + 1 from rfl, run_scope]
    simp only [scopeLoop, h2 (j + 1) (by omega)]
end

def blankB (c : UInt8) : Bool := c == 32 || c == 9 || c == 10 || c == 13

theorem blank_all : ((List.range 256).map fun n => decide (idxByte n.toUInt8 [32, 9, 10, 13] 0 ≥ 0)) = (List.range 256).map fun n => blankB n.toUInt8 := by kernel_rfl
theorem blank_find (c : UInt8) : decide (idxByte c [32, 9, 10, 13] 0 ≥ 0) = blankB c := by
  have := of_range blank_all c.toNat c.toNat_lt
  rwa [byte_back] at this

/-- where what is passed over ends; k: at most so many remarks -/
def passTo (s : List UInt8) : Nat → Nat → Nat
  | 0, at_ => at_
  | k + 1, at_ =>
    let i := at_ + span blankB (s.drop at_)
    if [45, 45].isPrefixOf (s.drop i) then
      (if idxByte 10 (s.drop i) 0 ≥ 0 then passTo s k (i + (idxByte 10 (s.drop i) 0).toNat) else s.length)
    else i


end Go.Proofs.Ytfdcjngclelnhaa

set_option linter.unusedSimpArgs false
namespace Go.Proofs.Ytfdcjngclelnhaa
open Go Go.RowKit

theorem idxByte_bound (c : UInt8) : ∀ (l : List UInt8) (i : Nat), idxByte c l i = -1 ∨ ((i : Int) ≤ idxByte c l i ∧ idxByte c l i < i + l.length)
  | [], i => Or.inl rfl
  | b :: l, i => by
    simp only [idxByte]
    split
    · right; simp only [List.length_cons]; omega
    · have := idxByte_bound c l (i + 1)
      simp only [List.length_cons]
      omega

theorem idx_pos {l : List UInt8} (h : [45, 45].isPrefixOf l = true) : idxByte 10 l 0 = -1 ∨ 1 ≤ idxByte 10 l 0 := by
  match l, h with
  | a :: r, h =>
    simp only [List.isPrefixOf, Bool.and_eq_true, beq_iff_eq] at h
    obtain ⟨rfl, _⟩ := h
    simp only [idxByte]
    rw [if_neg (by decide)]
    have := idxByte_bound 10 r (0 + 1)
    omega

/-- a call, with what holds of what it leaves -/
theorem CallsTo.bodyE {P : Program} {prim : FuncId → Option Prim} {f : FuncId} {fn : Func} {body : Code} (hf : P.funcs[f]? = some fn) (hb : fn.body = some body) (hp : prim f = none) {args : List AV} (hn : args.length ≤ fn.ntmps) {h : Heap} (R : AV → Heap → Prop)
    (hg : ∀ ts : List AV, ts.length = fn.ntmps → (∀ (i : Nat) (a : AV), args[i]? = some a → ts[i]? = some (sealV a)) → Goes P prim body ⟨ts, h⟩ fun e s' => (e = .normal ∨ e = .ret) ∧ ∃ v h', retA P fn h.length s' = some (v, h') ∧ R v h') : ∃ v h', R v h' ∧ CallsTo P prim f args h v h' := by
  have hg' := hg (args.map sealV ++ List.replicate (fn.ntmps - args.length) undefA) (by simp; omega) fun i a hi => by
    have hlt : i < args.length := by
      rcases Nat.lt_or_ge i args.length with h | h
      · exact h
      · rw [List.getElem?_eq_none h] at hi; cases hi
    rw [List.getElem?_append_left (by simpa using hlt), List.getElem?_map, hi]
    rfl
  obtain ⟨e, s', ⟨he, v, h', hr, hR⟩, hk⟩ := hg'
  exact ⟨v, h', hR, CallsTo.enter hf hb hp ⟨e, s', ⟨he, hr⟩, hk⟩⟩

structure J20 (s : List UInt8) (to : Nat) (L : AV) (n : Nat) (st : St) : Prop where
  len : st.tmps.length = 72
  h0 : st.tmps[0]? = some (.ptr (some (0, 0)))
  ex : ∃ i ver K : Nat, st.heap = rd s i L ver ∧ i ≤ s.length ∧ n = s.length - i ∧ s.length - i < K ∧ passTo s K i = to

structure I20 (s : List UInt8) (i0 : Nat) (L : AV) (n : Nat) (st : St) : Prop where
  len : st.tmps.length = 72
  h0 : st.tmps[0]? = some (.ptr (some (0, 0)))
  ex : ∃ i ver : Nat, st.heap = rd s i L ver ∧ i0 ≤ i ∧ i ≤ s.length ∧ n = s.length - i ∧ i + span blankB (s.drop i) = i0 + span blankB (s.drop i0)

theorem pass_calls (s : List UInt8) (hs : s.length ≤ 140737488351232) (at_ : Nat) (hat : at_ ≤ s.length) (L : AV) (ver : Nat) :
    ∃ v h', (v = .tuple [] ∧ ∃ ver', h' = rd s (passTo s (s.length + 1) at_ : Nat) L ver') ∧ CallsTo Try.prog primT 20 [.ptr (some (0, 0))] (rd s at_ L ver) v h' := by
  refine CallsTo.bodyE Try.func20 rfl rfl (Nat.le_of_ble_eq_true rfl) (fun v h' => v = .tuple [] ∧ ∃ ver', h' = rd s (passTo s (s.length + 1) at_ : Nat) L ver') fun ts hl hts => ?_
  rw [Try.ntmps20] at hl
  have h0 := hts 0 _ rfl
  clear hts
  have fin : ∀ (e : Ex) (st : St), (e = .normal ∨ e = .ret) → (∃ ver', st.heap = rd s (passTo s (s.length + 1) at_ : Nat) L ver') → (e = .normal ∨ e = .ret) ∧ ∃ v h', retA Try.prog Try.f20 (rd s at_ L ver).length st = some (v, h') ∧ v = .tuple [] ∧ ∃ ver', h' = rd s (passTo s (s.length + 1) at_ : Nat) L ver' := by
    rintro e ⟨ts, hh⟩ he ⟨ver', hhe⟩
    have hhe2 : hh = _ := hhe
    clear hhe
    subst hhe2
    refine ⟨he, .tuple [], rd s (passTo s (s.length + 1) at_ : Nat) L ver', ?_, rfl, ver', rfl⟩
    simp only [regionT, oneOp, wantedA, stepOp, putA, keep, evalX, evalL, evalParts, cstV, cst1, binA, intOp, strOp, unA, callA, builtinA, lenA, elems, minMaxA, mm2, indexA, sliceA, boundA, Try.underlying3, Try.underlying9, Try.underlying5, Try.underlying4, List.toList_toArray, List.getD_eq_getElem?_getD, List.getElem?_set, List.length_set, Option.getD_some, Option.map_some, Option.isSome_none, List.append_nil, List.nil_append, List.map_nil, List.map_cons, reduceIte, Nat.reduceEqDiff, Nat.reduceLT, Bool.false_eq_true, Nat.reduceAdd, if_true, if_false, beq_tf, beq_ft, sealV, sealR, tupleA, finishA, resultsA, resultA, Int.toNat_natCast, retA, List.getElem?_toArray, List.getElem?_cons_zero, List.getElem?_cons_succ, Option.bind_some, AV.under, undersL, Bool.and_true, Bool.true_and, List.take_length, storeA, AV.cells, D.cells, settleL, settle, spliceL, AV.isCell, List.all_cons, List.all_nil, Bool.and_self, List.take_succ_cons, List.take_zero, List.drop_succ_cons, List.drop_nil, List.length_cons, List.length_nil, Nat.reduceLeDiff, and_self, nilCheckA, loadA, partA, fa0, fa1, fa2, size3, agg3, size9, agg9, rd, rd2, List.cons_append, List.nil_append, List.set_cons_zero, Nat.zero_add, List.drop_zero, Nat.le_refl, Try.results20]
  have hstart : J20 s (passTo s (s.length + 1) at_) L (s.length - at_) ⟨ts, rd s at_ L ver⟩ := ⟨hl, h0, at_, ver, s.length + 1, rfl, hat, rfl, by omega, rfl⟩
  generalize passTo s (s.length + 1) at_ = to at fin hstart
  refine Goes.scope rfl rfl (J20 s to L) ?_ hstart
  clear hstart hl h0 ts
  rintro n ⟨ts, hh⟩ ⟨hl, h0, i0, ver0, K, hhe, hi0, rfl, hK, hto⟩
  have hhe2 : hh = _ := hhe
  clear hhe
  subst hhe2
  obtain ⟨K, rfl⟩ : ∃ k, K = k + 1 := ⟨K - 1, by omega⟩
  refine Goes.mid (fun st => st.tmps.length = 72 ∧ st.tmps[0]? = some (.ptr (some (0, 0))) ∧ ∃ ver', st.heap = rd s ((i0 + span blankB (s.drop i0) : Nat) : Int) L ver') ?_ ?_
  · refine Goes.block (Goes.loop (I20 s i0 L) ?_ (s.length - i0) _ ⟨hl, h0, i0, ver0, rfl, Nat.le_refl _, hi0, rfl, rfl⟩)
    clear hl h0 ts
    rintro n ⟨ts, hh⟩ ⟨hl, h0, i, ver1, hhe, hi1, hi, rfl, hsp⟩
    have hhe2 : hh = _ := hhe
    clear hhe
    subst hhe2
    have hneg : ¬ (i : Int) < 0 := Int.not_lt.2 (Int.natCast_nonneg i)
    refine Goes.seq (Goes.seq ?_)
    by_cases hlt : i < s.length
    · have hlt' : (i : Int) < s.length := by omega
      have hc : s[i]? = some s[i] := List.getElem?_eq_getElem hlt
      obtain ⟨k0, hk0⟩ := find_calls s[i] [32, 9, 10, 13] [none]
      apply Goes.draw k0
      · intro k hk
        simp (decide := true) only [regionT, oneOp, wantedA, stepOp, putA, keep, evalX, evalL, evalParts, cstV, cst1, binA, intOp, strOp, unA, callA, builtinA, lenA, elems, minMaxA, mm2, indexA, sliceA, boundA, Try.underlying3, Try.underlying9, Try.underlying5, Try.underlying4, List.toList_toArray, List.getD_eq_getElem?_getD, List.getElem?_set, List.length_set, Option.getD_some, Option.map_some, Option.isSome_none, List.append_nil, List.nil_append, List.map_nil, List.map_cons, reduceIte, Nat.reduceEqDiff, Nat.reduceLT, Bool.false_eq_true, Nat.reduceAdd, if_true, if_false, beq_tf, beq_ft, sealV, sealR, tupleA, finishA, resultsA, resultA, Int.toNat_natCast, retA, List.getElem?_toArray, List.getElem?_cons_zero, List.getElem?_cons_succ, Option.bind_some, AV.under, undersL, Bool.and_true, Bool.true_and, List.take_length, regionDraw, regionD, doneOp, footOf, footA, placeOf, nextAt, writesOf, makesBox, onlyReads, restrictA, holesA, setIds, countBoxes, AV.ids, idsL, List.length_append, List.length_cons, List.length_nil, List.length_replicate, List.replicate, List.headD_cons, List.tail_cons, Option.toList_none, List.nil_append, List.contains_nil, List.contains_cons, Bool.or_true, Bool.true_or, Bool.or_false, Bool.false_or, Option.isNone_some, Option.isNone_none, Bool.and_false, Bool.false_and, nilCheckA, loadA, partA, Nat.reduceBEq, beq_self_eq_true, List.drop_zero, Op.operands, Call.operands, Array.toList_append, reachA, Nat.reduceMul, List.length_map, Nat.zero_add, Nat.add_zero, List.getElem?_nil, List.set_cons_zero, and_self, and_true, true_and, List.cons_append, List.append_assoc, storeA, AV.cells, D.cells, settleL, settle, spliceL, AV.isCell, List.all_cons, List.all_nil, Bool.and_self, List.take_succ_cons, List.take_zero, List.drop_succ_cons, List.drop_nil, List.length_cons, List.length_nil, Nat.reduceLeDiff, and_self, nilCheckA, loadA, partA, fa0, fa1, fa2, size3, agg3, size9, agg9, rd, rd2, List.cons_append, List.nil_append, List.set_cons_zero, Nat.zero_add, List.drop_zero, Nat.le_refl, hl, h0, hlt', decide_true, hc, hneg, hk0 k hk, blank_find] <;> rfl
      cases hp : blankB s[i] with
      | true =>
        have hy := span_yes hlt hp
        refine Goes.cond true (by simp only [regionT, oneOp, wantedA, stepOp, putA, keep, evalX, evalL, evalParts, cstV, cst1, binA, intOp, strOp, unA, callA, builtinA, lenA, elems, minMaxA, mm2, indexA, sliceA, boundA, Try.underlying3, Try.underlying9, Try.underlying5, Try.underlying4, List.toList_toArray, List.getD_eq_getElem?_getD, List.getElem?_set, List.length_set, Option.getD_some, Option.map_some, Option.isSome_none, List.append_nil, List.nil_append, List.map_nil, List.map_cons, reduceIte, Nat.reduceEqDiff, Nat.reduceLT, Bool.false_eq_true, Nat.reduceAdd, if_true, if_false, beq_tf, beq_ft, sealV, sealR, tupleA, finishA, resultsA, resultA, Int.toNat_natCast, retA, List.getElem?_toArray, List.getElem?_cons_zero, List.getElem?_cons_succ, Option.bind_some, AV.under, undersL, Bool.and_true, Bool.true_and, List.take_length, hl, hp]) ?_
        apply Goes.skip
        apply Goes.block
        apply Goes.region 0
        · intro k _
          simp only [regionT, oneOp, wantedA, stepOp, putA, keep, evalX, evalL, evalParts, cstV, cst1, binA, intOp, strOp, unA, callA, builtinA, lenA, elems, minMaxA, mm2, indexA, sliceA, boundA, Try.underlying3, Try.underlying9, Try.underlying5, Try.underlying4, List.toList_toArray, List.getD_eq_getElem?_getD, List.getElem?_set, List.length_set, Option.getD_some, Option.map_some, Option.isSome_none, List.append_nil, List.nil_append, List.map_nil, List.map_cons, reduceIte, Nat.reduceEqDiff, Nat.reduceLT, Bool.false_eq_true, Nat.reduceAdd, if_true, if_false, beq_tf, beq_ft, sealV, sealR, tupleA, finishA, resultsA, resultA, Int.toNat_natCast, retA, List.getElem?_toArray, List.getElem?_cons_zero, List.getElem?_cons_succ, Option.bind_some, AV.under, undersL, Bool.and_true, Bool.true_and, List.take_length, storeA, AV.cells, D.cells, settleL, settle, spliceL, AV.isCell, List.all_cons, List.all_nil, Bool.and_self, List.take_succ_cons, List.take_zero, List.drop_succ_cons, List.drop_nil, List.length_cons, List.length_nil, Nat.reduceLeDiff, and_self, nilCheckA, loadA, partA, fa0, fa1, fa2, size3, agg3, size9, agg9, rd, rd2, List.cons_append, List.nil_append, List.set_cons_zero, Nat.zero_add, List.drop_zero, Nat.le_refl, hl, h0, wrap64 ((i : Int) + 1) (by omega) (by omega)] <;> rfl
        refine ⟨s.length - (i + 1), by omega, ?_, ?_, i + 1, ver1 + 1, ?_, by omega, by omega, rfl, by omega⟩
        · simp only [regionT, oneOp, wantedA, stepOp, putA, keep, evalX, evalL, evalParts, cstV, cst1, binA, intOp, strOp, unA, callA, builtinA, lenA, elems, minMaxA, mm2, indexA, sliceA, boundA, Try.underlying3, Try.underlying9, Try.underlying5, Try.underlying4, List.toList_toArray, List.getD_eq_getElem?_getD, List.getElem?_set, List.length_set, Option.getD_some, Option.map_some, Option.isSome_none, List.append_nil, List.nil_append, List.map_nil, List.map_cons, reduceIte, Nat.reduceEqDiff, Nat.reduceLT, Bool.false_eq_true, Nat.reduceAdd, if_true, if_false, beq_tf, beq_ft, sealV, sealR, tupleA, finishA, resultsA, resultA, Int.toNat_natCast, retA, List.getElem?_toArray, List.getElem?_cons_zero, List.getElem?_cons_succ, Option.bind_some, AV.under, undersL, Bool.and_true, Bool.true_and, List.take_length, hl]
        · simp only [regionT, oneOp, wantedA, stepOp, putA, keep, evalX, evalL, evalParts, cstV, cst1, binA, intOp, strOp, unA, callA, builtinA, lenA, elems, minMaxA, mm2, indexA, sliceA, boundA, Try.underlying3, Try.underlying9, Try.underlying5, Try.underlying4, List.toList_toArray, List.getD_eq_getElem?_getD, List.getElem?_set, List.length_set, Option.getD_some, Option.map_some, Option.isSome_none, List.append_nil, List.nil_append, List.map_nil, List.map_cons, reduceIte, Nat.reduceEqDiff, Nat.reduceLT, Bool.false_eq_true, Nat.reduceAdd, if_true, if_false, beq_tf, beq_ft, sealV, sealR, tupleA, finishA, resultsA, resultA, Int.toNat_natCast, retA, List.getElem?_toArray, List.getElem?_cons_zero, List.getElem?_cons_succ, Option.bind_some, AV.under, undersL, Bool.and_true, Bool.true_and, List.take_length, hl, h0]
        · simp only [rd, Int.natCast_add, Int.natCast_one]
      | false =>
        have hz := span_no hlt hp
        refine Goes.cond false (by simp only [regionT, oneOp, wantedA, stepOp, putA, keep, evalX, evalL, evalParts, cstV, cst1, binA, intOp, strOp, unA, callA, builtinA, lenA, elems, minMaxA, mm2, indexA, sliceA, boundA, Try.underlying3, Try.underlying9, Try.underlying5, Try.underlying4, List.toList_toArray, List.getD_eq_getElem?_getD, List.getElem?_set, List.length_set, Option.getD_some, Option.map_some, Option.isSome_none, List.append_nil, List.nil_append, List.map_nil, List.map_cons, reduceIte, Nat.reduceEqDiff, Nat.reduceLT, Bool.false_eq_true, Nat.reduceAdd, if_true, if_false, beq_tf, beq_ft, sealV, sealR, tupleA, finishA, resultsA, resultA, Int.toNat_natCast, retA, List.getElem?_toArray, List.getElem?_cons_zero, List.getElem?_cons_succ, Option.bind_some, AV.under, undersL, Bool.and_true, Bool.true_and, List.take_length, hl, hp]) ?_
        apply Goes.exit
        simp only [if_true]
        have e : i = i0 + span blankB (s.drop i0) := by omega
        refine ⟨trivial, ?_, ?_, ver1, ?_⟩
        · simp only [regionT, oneOp, wantedA, stepOp, putA, keep, evalX, evalL, evalParts, cstV, cst1, binA, intOp, strOp, unA, callA, builtinA, lenA, elems, minMaxA, mm2, indexA, sliceA, boundA, Try.underlying3, Try.underlying9, Try.underlying5, Try.underlying4, List.toList_toArray, List.getD_eq_getElem?_getD, List.getElem?_set, List.length_set, Option.getD_some, Option.map_some, Option.isSome_none, List.append_nil, List.nil_append, List.map_nil, List.map_cons, reduceIte, Nat.reduceEqDiff, Nat.reduceLT, Bool.false_eq_true, Nat.reduceAdd, if_true, if_false, beq_tf, beq_ft, sealV, sealR, tupleA, finishA, resultsA, resultA, Int.toNat_natCast, retA, List.getElem?_toArray, List.getElem?_cons_zero, List.getElem?_cons_succ, Option.bind_some, AV.under, undersL, Bool.and_true, Bool.true_and, List.take_length, hl]
        · simp only [regionT, oneOp, wantedA, stepOp, putA, keep, evalX, evalL, evalParts, cstV, cst1, binA, intOp, strOp, unA, callA, builtinA, lenA, elems, minMaxA, mm2, indexA, sliceA, boundA, Try.underlying3, Try.underlying9, Try.underlying5, Try.underlying4, List.toList_toArray, List.getD_eq_getElem?_getD, List.getElem?_set, List.length_set, Option.getD_some, Option.map_some, Option.isSome_none, List.append_nil, List.nil_append, List.map_nil, List.map_cons, reduceIte, Nat.reduceEqDiff, Nat.reduceLT, Bool.false_eq_true, Nat.reduceAdd, if_true, if_false, beq_tf, beq_ft, sealV, sealR, tupleA, finishA, resultsA, resultA, Int.toNat_natCast, retA, List.getElem?_toArray, List.getElem?_cons_zero, List.getElem?_cons_succ, Option.bind_some, AV.under, undersL, Bool.and_true, Bool.true_and, List.take_length, hl, h0]
        · rw [← e]; rfl
    · have hlt' : ¬ (i : Int) < s.length := by omega
      apply Goes.draw 0
      · intro k hk
        simp (decide := true) only [regionT, oneOp, wantedA, stepOp, putA, keep, evalX, evalL, evalParts, cstV, cst1, binA, intOp, strOp, unA, callA, builtinA, lenA, elems, minMaxA, mm2, indexA, sliceA, boundA, Try.underlying3, Try.underlying9, Try.underlying5, Try.underlying4, List.toList_toArray, List.getD_eq_getElem?_getD, List.getElem?_set, List.length_set, Option.getD_some, Option.map_some, Option.isSome_none, List.append_nil, List.nil_append, List.map_nil, List.map_cons, reduceIte, Nat.reduceEqDiff, Nat.reduceLT, Bool.false_eq_true, Nat.reduceAdd, if_true, if_false, beq_tf, beq_ft, sealV, sealR, tupleA, finishA, resultsA, resultA, Int.toNat_natCast, retA, List.getElem?_toArray, List.getElem?_cons_zero, List.getElem?_cons_succ, Option.bind_some, AV.under, undersL, Bool.and_true, Bool.true_and, List.take_length, regionDraw, regionD, doneOp, footOf, footA, placeOf, nextAt, writesOf, makesBox, onlyReads, restrictA, holesA, setIds, countBoxes, AV.ids, idsL, List.length_append, List.length_cons, List.length_nil, List.length_replicate, List.replicate, List.headD_cons, List.tail_cons, Option.toList_none, List.nil_append, List.contains_nil, List.contains_cons, Bool.or_true, Bool.true_or, Bool.or_false, Bool.false_or, Option.isNone_some, Option.isNone_none, Bool.and_false, Bool.false_and, nilCheckA, loadA, partA, Nat.reduceBEq, beq_self_eq_true, List.drop_zero, Op.operands, Call.operands, Array.toList_append, reachA, Nat.reduceMul, List.length_map, Nat.zero_add, Nat.add_zero, List.getElem?_nil, List.set_cons_zero, and_self, and_true, true_and, List.cons_append, List.append_assoc, storeA, AV.cells, D.cells, settleL, settle, spliceL, AV.isCell, List.all_cons, List.all_nil, Bool.and_self, List.take_succ_cons, List.take_zero, List.drop_succ_cons, List.drop_nil, List.length_cons, List.length_nil, Nat.reduceLeDiff, and_self, nilCheckA, loadA, partA, fa0, fa1, fa2, size3, agg3, size9, agg9, rd, rd2, List.cons_append, List.nil_append, List.set_cons_zero, Nat.zero_add, List.drop_zero, Nat.le_refl, hl, h0, hlt', decide_false] <;> rfl
      refine Goes.cond false (by simp only [regionT, oneOp, wantedA, stepOp, putA, keep, evalX, evalL, evalParts, cstV, cst1, binA, intOp, strOp, unA, callA, builtinA, lenA, elems, minMaxA, mm2, indexA, sliceA, boundA, Try.underlying3, Try.underlying9, Try.underlying5, Try.underlying4, List.toList_toArray, List.getD_eq_getElem?_getD, List.getElem?_set, List.length_set, Option.getD_some, Option.map_some, Option.isSome_none, List.append_nil, List.nil_append, List.map_nil, List.map_cons, reduceIte, Nat.reduceEqDiff, Nat.reduceLT, Bool.false_eq_true, Nat.reduceAdd, if_true, if_false, beq_tf, beq_ft, sealV, sealR, tupleA, finishA, resultsA, resultA, Int.toNat_natCast, retA, List.getElem?_toArray, List.getElem?_cons_zero, List.getElem?_cons_succ, Option.bind_some, AV.under, undersL, Bool.and_true, Bool.true_and, List.take_length, hl]) ?_
      apply Goes.exit
      simp only [if_true]
      have hz : span blankB (s.drop i) = 0 := by rw [List.drop_of_length_le (by omega)]; rfl
      have e : i = i0 + span blankB (s.drop i0) := by omega
      refine ⟨trivial, ?_, ?_, ver1, ?_⟩
      · simp only [regionT, oneOp, wantedA, stepOp, putA, keep, evalX, evalL, evalParts, cstV, cst1, binA, intOp, strOp, unA, callA, builtinA, lenA, elems, minMaxA, mm2, indexA, sliceA, boundA, Try.underlying3, Try.underlying9, Try.underlying5, Try.underlying4, List.toList_toArray, List.getD_eq_getElem?_getD, List.getElem?_set, List.length_set, Option.getD_some, Option.map_some, Option.isSome_none, List.append_nil, List.nil_append, List.map_nil, List.map_cons, reduceIte, Nat.reduceEqDiff, Nat.reduceLT, Bool.false_eq_true, Nat.reduceAdd, if_true, if_false, beq_tf, beq_ft, sealV, sealR, tupleA, finishA, resultsA, resultA, Int.toNat_natCast, retA, List.getElem?_toArray, List.getElem?_cons_zero, List.getElem?_cons_succ, Option.bind_some, AV.under, undersL, Bool.and_true, Bool.true_and, List.take_length, hl]
      · simp only [regionT, oneOp, wantedA, stepOp, putA, keep, evalX, evalL, evalParts, cstV, cst1, binA, intOp, strOp, unA, callA, builtinA, lenA, elems, minMaxA, mm2, indexA, sliceA, boundA, Try.underlying3, Try.underlying9, Try.underlying5, Try.underlying4, List.toList_toArray, List.getD_eq_getElem?_getD, List.getElem?_set, List.length_set, Option.getD_some, Option.map_some, Option.isSome_none, List.append_nil, List.nil_append, List.map_nil, List.map_cons, reduceIte, Nat.reduceEqDiff, Nat.reduceLT, Bool.false_eq_true, Nat.reduceAdd, if_true, if_false, beq_tf, beq_ft, sealV, sealR, tupleA, finishA, resultsA, resultA, Int.toNat_natCast, retA, List.getElem?_toArray, List.getElem?_cons_zero, List.getElem?_cons_succ, Option.bind_some, AV.under, undersL, Bool.and_true, Bool.true_and, List.take_length, hl, h0]
      · rw [← e]; rfl
  clear hl h0 ts
  rintro ⟨ts, hh⟩ ⟨hl, h0, ver1, hhe⟩
  have hhe2 : hh = _ := hhe
  clear hhe
  subst hhe2
  have hsl := span_le blankB (s.drop i0)
  rw [List.length_drop] at hsl
  simp only [passTo] at hto
  generalize hi : i0 + span blankB (s.drop i0) = i at *
  have hile : i ≤ s.length := by omega
  have htk : (s.drop i).take (s.length - i) = s.drop i := List.take_of_length_le (by rw [List.length_drop]; omega)
  obtain ⟨k0, hk0⟩ := prefix_calls (s.drop i) [45, 45] [none]
  refine Goes.seq (Goes.seq ?_)
  apply Goes.draw k0
  · intro k hk
    simp (decide := true) only [regionT, oneOp, wantedA, stepOp, putA, keep, evalX, evalL, evalParts, cstV, cst1, binA, intOp, strOp, unA, callA, builtinA, lenA, elems, minMaxA, mm2, indexA, sliceA, boundA, Try.underlying3, Try.underlying9, Try.underlying5, Try.underlying4, List.toList_toArray, List.getD_eq_getElem?_getD, List.getElem?_set, List.length_set, Option.getD_some, Option.map_some, Option.isSome_none, List.append_nil, List.nil_append, List.map_nil, List.map_cons, reduceIte, Nat.reduceEqDiff, Nat.reduceLT, Bool.false_eq_true, Nat.reduceAdd, if_true, if_false, beq_tf, beq_ft, sealV, sealR, tupleA, finishA, resultsA, resultA, Int.toNat_natCast, retA, List.getElem?_toArray, List.getElem?_cons_zero, List.getElem?_cons_succ, Option.bind_some, AV.under, undersL, Bool.and_true, Bool.true_and, List.take_length, regionDraw, regionD, doneOp, footOf, footA, placeOf, nextAt, writesOf, makesBox, onlyReads, restrictA, holesA, setIds, countBoxes, AV.ids, idsL, List.length_append, List.length_cons, List.length_nil, List.length_replicate, List.replicate, List.headD_cons, List.tail_cons, Option.toList_none, List.nil_append, List.contains_nil, List.contains_cons, Bool.or_true, Bool.true_or, Bool.or_false, Bool.false_or, Option.isNone_some, Option.isNone_none, Bool.and_false, Bool.false_and, nilCheckA, loadA, partA, Nat.reduceBEq, beq_self_eq_true, List.drop_zero, Op.operands, Call.operands, Array.toList_append, reachA, Nat.reduceMul, List.length_map, Nat.zero_add, Nat.add_zero, List.getElem?_nil, List.set_cons_zero, and_self, and_true, true_and, List.cons_append, List.append_assoc, storeA, AV.cells, D.cells, settleL, settle, spliceL, AV.isCell, List.all_cons, List.all_nil, Bool.and_self, List.take_succ_cons, List.take_zero, List.drop_succ_cons, List.drop_nil, List.length_cons, List.length_nil, Nat.reduceLeDiff, and_self, nilCheckA, loadA, partA, fa0, fa1, fa2, size3, agg3, size9, agg9, rd, rd2, List.cons_append, List.nil_append, List.set_cons_zero, Nat.zero_add, List.drop_zero, Nat.le_refl, hl, h0, Int.natCast_nonneg, Int.ofNat_le, hile, and_self, Int.toNat_natCast, htk, hk0 k hk] <;> rfl
  cases hp : [45, 45].isPrefixOf (s.drop i) with
  | false =>
    rw [if_neg (by simp [hp])] at hto
    refine Goes.cond true (by simp only [regionT, oneOp, wantedA, stepOp, putA, keep, evalX, evalL, evalParts, cstV, cst1, binA, intOp, strOp, unA, callA, builtinA, lenA, elems, minMaxA, mm2, indexA, sliceA, boundA, Try.underlying3, Try.underlying9, Try.underlying5, Try.underlying4, List.toList_toArray, List.getD_eq_getElem?_getD, List.getElem?_set, List.length_set, Option.getD_some, Option.map_some, Option.isSome_none, List.append_nil, List.nil_append, List.map_nil, List.map_cons, reduceIte, Nat.reduceEqDiff, Nat.reduceLT, Bool.false_eq_true, Nat.reduceAdd, if_true, if_false, beq_tf, beq_ft, sealV, sealR, tupleA, finishA, resultsA, resultA, Int.toNat_natCast, retA, List.getElem?_toArray, List.getElem?_cons_zero, List.getElem?_cons_succ, Option.bind_some, AV.under, undersL, Bool.and_true, Bool.true_and, List.take_length, hl, hp, Bool.not_false]) ?_
    apply Goes.ret
    refine fin _ _ (Or.inr rfl) ⟨ver1, ?_⟩
    rw [hto]; rfl
  | true =>
    rw [if_pos hp] at hto
    refine Goes.cond false (by simp only [regionT, oneOp, wantedA, stepOp, putA, keep, evalX, evalL, evalParts, cstV, cst1, binA, intOp, strOp, unA, callA, builtinA, lenA, elems, minMaxA, mm2, indexA, sliceA, boundA, Try.underlying3, Try.underlying9, Try.underlying5, Try.underlying4, List.toList_toArray, List.getD_eq_getElem?_getD, List.getElem?_set, List.length_set, Option.getD_some, Option.map_some, Option.isSome_none, List.append_nil, List.nil_append, List.map_nil, List.map_cons, reduceIte, Nat.reduceEqDiff, Nat.reduceLT, Bool.false_eq_true, Nat.reduceAdd, if_true, if_false, beq_tf, beq_ft, sealV, sealR, tupleA, finishA, resultsA, resultA, Int.toNat_natCast, retA, List.getElem?_toArray, List.getElem?_cons_zero, List.getElem?_cons_succ, Option.bind_some, AV.under, undersL, Bool.and_true, Bool.true_and, List.take_length, hl, hp, Bool.not_true]) ?_
    apply Goes.skip
    have hf := find_calls 10 (s.drop i) [none]
    rw [show (((10 : UInt8).toNat : Nat) : Int) = 10 from rfl] at hf
    obtain ⟨k1, hk1⟩ := hf
    have hb1 := idxByte_bound 10 (s.drop i) 0
    have hb2 := idx_pos hp
    rw [List.length_drop] at hb1
    generalize hj : idxByte 10 (s.drop i) 0 = j at *
    refine Goes.seq (Goes.seq ?_)
    apply Goes.draw k1
    · intro k hk
      simp (decide := true) only [regionT, oneOp, wantedA, stepOp, putA, keep, evalX, evalL, evalParts, cstV, cst1, binA, intOp, strOp, unA, callA, builtinA, lenA, elems, minMaxA, mm2, indexA, sliceA, boundA, Try.underlying3, Try.underlying9, Try.underlying5, Try.underlying4, List.toList_toArray, List.getD_eq_getElem?_getD, List.getElem?_set, List.length_set, Option.getD_some, Option.map_some, Option.isSome_none, List.append_nil, List.nil_append, List.map_nil, List.map_cons, reduceIte, Nat.reduceEqDiff, Nat.reduceLT, Bool.false_eq_true, Nat.reduceAdd, if_true, if_false, beq_tf, beq_ft, sealV, sealR, tupleA, finishA, resultsA, resultA, Int.toNat_natCast, retA, List.getElem?_toArray, List.getElem?_cons_zero, List.getElem?_cons_succ, Option.bind_some, AV.under, undersL, Bool.and_true, Bool.true_and, List.take_length, regionDraw, regionD, doneOp, footOf, footA, placeOf, nextAt, writesOf, makesBox, onlyReads, restrictA, holesA, setIds, countBoxes, AV.ids, idsL, List.length_append, List.length_cons, List.length_nil, List.length_replicate, List.replicate, List.headD_cons, List.tail_cons, Option.toList_none, List.nil_append, List.contains_nil, List.contains_cons, Bool.or_true, Bool.true_or, Bool.or_false, Bool.false_or, Option.isNone_some, Option.isNone_none, Bool.and_false, Bool.false_and, nilCheckA, loadA, partA, Nat.reduceBEq, beq_self_eq_true, List.drop_zero, Op.operands, Call.operands, Array.toList_append, reachA, Nat.reduceMul, List.length_map, Nat.zero_add, Nat.add_zero, List.getElem?_nil, List.set_cons_zero, and_self, and_true, true_and, List.cons_append, List.append_assoc, storeA, AV.cells, D.cells, settleL, settle, spliceL, AV.isCell, List.all_cons, List.all_nil, Bool.and_self, List.take_succ_cons, List.take_zero, List.drop_succ_cons, List.drop_nil, List.length_cons, List.length_nil, Nat.reduceLeDiff, and_self, nilCheckA, loadA, partA, fa0, fa1, fa2, size3, agg3, size9, agg9, rd, rd2, List.cons_append, List.nil_append, List.set_cons_zero, Nat.zero_add, List.drop_zero, Nat.le_refl, hl, h0, Int.natCast_nonneg, Int.ofNat_le, hile, and_self, Int.toNat_natCast, htk, hk1 k hk] <;> rfl
    refine Goes.seq ?_
    apply Goes.region 0
    · intro k hk
      simp only [regionT, oneOp, wantedA, stepOp, putA, keep, evalX, evalL, evalParts, cstV, cst1, binA, intOp, strOp, unA, callA, builtinA, lenA, elems, minMaxA, mm2, indexA, sliceA, boundA, Try.underlying3, Try.underlying9, Try.underlying5, Try.underlying4, List.toList_toArray, List.getD_eq_getElem?_getD, List.getElem?_set, List.length_set, Option.getD_some, Option.map_some, Option.isSome_none, List.append_nil, List.nil_append, List.map_nil, List.map_cons, reduceIte, Nat.reduceEqDiff, Nat.reduceLT, Bool.false_eq_true, Nat.reduceAdd, if_true, if_false, beq_tf, beq_ft, sealV, sealR, tupleA, finishA, resultsA, resultA, Int.toNat_natCast, retA, List.getElem?_toArray, List.getElem?_cons_zero, List.getElem?_cons_succ, Option.bind_some, AV.under, undersL, Bool.and_true, Bool.true_and, List.take_length, hl, h0] <;> rfl
    by_cases hj0 : j ≥ 0
    · rw [if_pos hj0] at hto
      refine Goes.cond true (by simp only [regionT, oneOp, wantedA, stepOp, putA, keep, evalX, evalL, evalParts, cstV, cst1, binA, intOp, strOp, unA, callA, builtinA, lenA, elems, minMaxA, mm2, indexA, sliceA, boundA, Try.underlying3, Try.underlying9, Try.underlying5, Try.underlying4, List.toList_toArray, List.getD_eq_getElem?_getD, List.getElem?_set, List.length_set, Option.getD_some, Option.map_some, Option.isSome_none, List.append_nil, List.nil_append, List.map_nil, List.map_cons, reduceIte, Nat.reduceEqDiff, Nat.reduceLT, Bool.false_eq_true, Nat.reduceAdd, if_true, if_false, beq_tf, beq_ft, sealV, sealR, tupleA, finishA, resultsA, resultA, Int.toNat_natCast, retA, List.getElem?_toArray, List.getElem?_cons_zero, List.getElem?_cons_succ, Option.bind_some, AV.under, undersL, Bool.and_true, Bool.true_and, List.take_length, hl, hj0, decide_true]) ?_
      refine Goes.seq ?_
      apply Goes.region 0
      · intro k hk
        simp only [regionT, oneOp, wantedA, stepOp, putA, keep, evalX, evalL, evalParts, cstV, cst1, binA, intOp, strOp, unA, callA, builtinA, lenA, elems, minMaxA, mm2, indexA, sliceA, boundA, Try.underlying3, Try.underlying9, Try.underlying5, Try.underlying4, List.toList_toArray, List.getD_eq_getElem?_getD, List.getElem?_set, List.length_set, Option.getD_some, Option.map_some, Option.isSome_none, List.append_nil, List.nil_append, List.map_nil, List.map_cons, reduceIte, Nat.reduceEqDiff, Nat.reduceLT, Bool.false_eq_true, Nat.reduceAdd, if_true, if_false, beq_tf, beq_ft, sealV, sealR, tupleA, finishA, resultsA, resultA, Int.toNat_natCast, retA, List.getElem?_toArray, List.getElem?_cons_zero, List.getElem?_cons_succ, Option.bind_some, AV.under, undersL, Bool.and_true, Bool.true_and, List.take_length, storeA, AV.cells, D.cells, settleL, settle, spliceL, AV.isCell, List.all_cons, List.all_nil, Bool.and_self, List.take_succ_cons, List.take_zero, List.drop_succ_cons, List.drop_nil, List.length_cons, List.length_nil, Nat.reduceLeDiff, and_self, nilCheckA, loadA, partA, fa0, fa1, fa2, size3, agg3, size9, agg9, rd, rd2, List.cons_append, List.nil_append, List.set_cons_zero, Nat.zero_add, List.drop_zero, Nat.le_refl, hl, h0, wrap64 ((i : Int) + j) (by omega) (by omega)] <;> rfl
      apply Goes.goto
      refine ⟨rfl, s.length - (i + j.toNat), by omega, ?_, ?_, i + j.toNat, ver1 + 1, K, ?_, by omega, rfl, by omega, hto⟩
      · simp only [regionT, oneOp, wantedA, stepOp, putA, keep, evalX, evalL, evalParts, cstV, cst1, binA, intOp, strOp, unA, callA, builtinA, lenA, elems, minMaxA, mm2, indexA, sliceA, boundA, Try.underlying3, Try.underlying9, Try.underlying5, Try.underlying4, List.toList_toArray, List.getD_eq_getElem?_getD, List.getElem?_set, List.length_set, Option.getD_some, Option.map_some, Option.isSome_none, List.append_nil, List.nil_append, List.map_nil, List.map_cons, reduceIte, Nat.reduceEqDiff, Nat.reduceLT, Bool.false_eq_true, Nat.reduceAdd, if_true, if_false, beq_tf, beq_ft, sealV, sealR, tupleA, finishA, resultsA, resultA, Int.toNat_natCast, retA, List.getElem?_toArray, List.getElem?_cons_zero, List.getElem?_cons_succ, Option.bind_some, AV.under, undersL, Bool.and_true, Bool.true_and, List.take_length, hl]
      · simp only [regionT, oneOp, wantedA, stepOp, putA, keep, evalX, evalL, evalParts, cstV, cst1, binA, intOp, strOp, unA, callA, builtinA, lenA, elems, minMaxA, mm2, indexA, sliceA, boundA, Try.underlying3, Try.underlying9, Try.underlying5, Try.underlying4, List.toList_toArray, List.getD_eq_getElem?_getD, List.getElem?_set, List.length_set, Option.getD_some, Option.map_some, Option.isSome_none, List.append_nil, List.nil_append, List.map_nil, List.map_cons, reduceIte, Nat.reduceEqDiff, Nat.reduceLT, Bool.false_eq_true, Nat.reduceAdd, if_true, if_false, beq_tf, beq_ft, sealV, sealR, tupleA, finishA, resultsA, resultA, Int.toNat_natCast, retA, List.getElem?_toArray, List.getElem?_cons_zero, List.getElem?_cons_succ, Option.bind_some, AV.under, undersL, Bool.and_true, Bool.true_and, List.take_length, hl, h0]
      · rw [show ((i + j.toNat : Nat) : Int) = (i : Int) + j by omega]; rfl
    · rw [if_neg hj0] at hto
      refine Goes.cond false (by simp only [regionT, oneOp, wantedA, stepOp, putA, keep, evalX, evalL, evalParts, cstV, cst1, binA, intOp, strOp, unA, callA, builtinA, lenA, elems, minMaxA, mm2, indexA, sliceA, boundA, Try.underlying3, Try.underlying9, Try.underlying5, Try.underlying4, List.toList_toArray, List.getD_eq_getElem?_getD, List.getElem?_set, List.length_set, Option.getD_some, Option.map_some, Option.isSome_none, List.append_nil, List.nil_append, List.map_nil, List.map_cons, reduceIte, Nat.reduceEqDiff, Nat.reduceLT, Bool.false_eq_true, Nat.reduceAdd, if_true, if_false, beq_tf, beq_ft, sealV, sealR, tupleA, finishA, resultsA, resultA, Int.toNat_natCast, retA, List.getElem?_toArray, List.getElem?_cons_zero, List.getElem?_cons_succ, Option.bind_some, AV.under, undersL, Bool.and_true, Bool.true_and, List.take_length, hl, hj0, decide_false]) ?_
      apply Goes.skip
      apply Goes.region 0
      · intro k hk
        simp only [regionT, oneOp, wantedA, stepOp, putA, keep, evalX, evalL, evalParts, cstV, cst1, binA, intOp, strOp, unA, callA, builtinA, lenA, elems, minMaxA, mm2, indexA, sliceA, boundA, Try.underlying3, Try.underlying9, Try.underlying5, Try.underlying4, List.toList_toArray, List.getD_eq_getElem?_getD, List.getElem?_set, List.length_set, Option.getD_some, Option.map_some, Option.isSome_none, List.append_nil, List.nil_append, List.map_nil, List.map_cons, reduceIte, Nat.reduceEqDiff, Nat.reduceLT, Bool.false_eq_true, Nat.reduceAdd, if_true, if_false, beq_tf, beq_ft, sealV, sealR, tupleA, finishA, resultsA, resultA, Int.toNat_natCast, retA, List.getElem?_toArray, List.getElem?_cons_zero, List.getElem?_cons_succ, Option.bind_some, AV.under, undersL, Bool.and_true, Bool.true_and, List.take_length, storeA, AV.cells, D.cells, settleL, settle, spliceL, AV.isCell, List.all_cons, List.all_nil, Bool.and_self, List.take_succ_cons, List.take_zero, List.drop_succ_cons, List.drop_nil, List.length_cons, List.length_nil, Nat.reduceLeDiff, and_self, nilCheckA, loadA, partA, fa0, fa1, fa2, size3, agg3, size9, agg9, rd, rd2, List.cons_append, List.nil_append, List.set_cons_zero, Nat.zero_add, List.drop_zero, Nat.le_refl, hl, h0] <;> rfl
      refine fin _ _ (Or.inl rfl) ⟨ver1 + 1, ?_⟩
      rw [← hto]; rfl
end Go.Proofs.Ytfdcjngclelnhaa

set_option linter.unusedSimpArgs false
namespace Go.Proofs.Ytfdcjngclelnhaa
open Go Go.RowKit

/-- what reading a token leaves: it is noted, or an error is told -/
def After (s : List UInt8) (at_ : Nat) (toks : List Tok) (o : Option (Int × List UInt8 × Int × Nat)) (v : AV) (h' : Heap) : Prop :=
  ∃ r : Int, v = .dat (.int .i64 r) ∧
    ((r ≠ 0 ∧ (o = none ∨ toks.length = 6000) ∧ ∃ (a : Int) (L : AV) (ver : Nat), h' = rd s a L ver) ∨
     (r = 0 ∧ toks.length < 6000 ∧ ∃ k t n m v' ver, o = some (k, t, n, m) ∧ h' = rd s ((at_ + m : Nat) : Int) (lv v' (toks ++ [⟨k, t, n, at_⟩])) ver))

def nameB (c : UInt8) : Bool := letterB c || digitB c

/-- a name at the beginning -/
def lexName (l : List UInt8) : Option (Int × List UInt8 × Int × Nat) :=
  if span nameB l > 30 then none else some (1, l.takeWhile nameB, 0, span nameB l)

theorem build1_all : (fun (b : List UInt8) (c : Int) => buildA Try.prog 34 [(0, .dat (.int .i64 1)), (1, .dat (.str b)), (3, .dat (.int .i64 c))]) = fun b c => some (.dat (.agg [.int .i64 1, .str b, .int .i64 0, .int .i64 c])) := by kernel_rfl
theorem build1 (b : List UInt8) (c : Int) : buildA Try.prog 34 [(0, .dat (.int .i64 1)), (1, .dat (.str b)), (3, .dat (.int .i64 c))] = some (.dat (.agg [.int .i64 1, .str b, .int .i64 0, .int .i64 c])) := congrFun (congrFun build1_all b) c

/-- a token that is put ends a reading -/
theorem put_after (s : List UInt8) (at_ m : Nat) (k n : Int) (t : List UInt8) (v ver : Nat) (toks : List Tok) (hn : toks.length ≤ 6000) :
    ∃ r h', After s at_ toks (some (k, t, n, m)) (.dat (.int .i64 r)) h' ∧ CallsTo Try.prog primT 22 [.ptr (some (0, 0)), .dat (.agg [.int .i64 k, .str t, .int .i64 n, .int .i64 at_])] (rd s ((at_ + m : Nat) : Int) (lv v toks) ver) (.dat (.int .i64 r)) h' := by
  rcases Nat.lt_or_ge toks.length 6000 with h | h
  · exact ⟨0, _, ⟨0, rfl, Or.inr ⟨rfl, h, k, t, n, m, _, _, rfl, rfl⟩⟩, put_ok s _ v ver ⟨k, t, n, at_⟩ toks h⟩
  · exact ⟨8, _, ⟨8, rfl, Or.inl ⟨by decide, Or.inr (by omega), _, _, _, rfl⟩⟩, put_full s _ v ver ⟨k, t, n, at_⟩ toks (by omega)⟩

theorem takeWhile_len (p : UInt8 → Bool) (l : List UInt8) : (l.takeWhile p).length = span p l := rfl

theorem rd_take (s : List UInt8) (a : Int) (L : AV) (ver : Nat) : (rd s a L ver).take 1 = rd s a L ver := rfl
theorem After.rd {s : List UInt8} {at_ : Nat} {toks : List Tok} {o} {v : AV} {h' : Heap} (h : After s at_ toks o v h') : ∃ a L ver, h' = rd s a L ver := by
  obtain ⟨r, _, ⟨_, _, a, L, ver, e⟩ | ⟨_, _, k, t, n, m, v', ver, _, e⟩⟩ := h
  · exact ⟨a, L, ver, e⟩
  · exact ⟨_, _, _, e⟩

theorem name_calls (s : List UInt8) (hs : s.length ≤ 140737488351232) (at_ : Nat) (hat : at_ ≤ s.length) (v ver : Nat) (toks : List Tok) (hn : toks.length ≤ 6000) :
    ∃ r h', After s at_ toks (lexName (s.drop at_)) r h' ∧ CallsTo Try.prog primT 37 [.ptr (some (0, 0))] (rd s at_ (lv v toks) ver) r h' := by
  obtain ⟨k0, hrun⟩ := run_calls s hs nameB 61 either_calls at_ hat (lv v toks) ver
  refine CallsTo.bodyE Try.func37 rfl rfl (Nat.le_of_ble_eq_true rfl) (After s at_ toks (lexName (s.drop at_))) fun ts hl hts => ?_
  rw [Try.ntmps37] at hl
  have h0 := hts 0 _ rfl
  clear hts
  refine Goes.seq ?_
  apply Goes.region 0
  · intro k _
    simp only [regionT, oneOp, wantedA, stepOp, putA, keep, evalX, evalL, evalParts, cstV, cst1, binA, intOp, strOp, unA, callA, builtinA, lenA, elems, minMaxA, mm2, indexA, sliceA, boundA, Try.underlying3, Try.underlying9, Try.underlying5, Try.underlying4, List.toList_toArray, List.getD_eq_getElem?_getD, List.getElem?_set, List.length_set, Option.getD_some, Option.map_some, Option.isSome_none, List.append_nil, List.nil_append, List.map_nil, List.map_cons, reduceIte, Nat.reduceEqDiff, Nat.reduceLT, Bool.false_eq_true, Nat.reduceAdd, if_true, if_false, beq_tf, beq_ft, sealV, sealR, tupleA, finishA, resultsA, resultA, Int.toNat_natCast, retA, List.getElem?_toArray, List.getElem?_cons_zero, List.getElem?_cons_succ, Option.bind_some, AV.under, undersL, Bool.and_true, Bool.true_and, List.take_length, hl, h0] <;> rfl
  refine Goes.seq ?_
  apply Goes.region 0
  · intro k _
    simp only [regionT, oneOp, wantedA, stepOp, putA, keep, evalX, evalL, evalParts, cstV, cst1, binA, intOp, strOp, unA, callA, builtinA, lenA, elems, minMaxA, mm2, indexA, sliceA, boundA, Try.underlying3, Try.underlying9, Try.underlying5, Try.underlying4, List.toList_toArray, List.getD_eq_getElem?_getD, List.getElem?_set, List.length_set, Option.getD_some, Option.map_some, Option.isSome_none, List.append_nil, List.nil_append, List.map_nil, List.map_cons, reduceIte, Nat.reduceEqDiff, Nat.reduceLT, Bool.false_eq_true, Nat.reduceAdd, if_true, if_false, beq_tf, beq_ft, sealV, sealR, tupleA, finishA, resultsA, resultA, Int.toNat_natCast, retA, List.getElem?_toArray, List.getElem?_cons_zero, List.getElem?_cons_succ, Option.bind_some, AV.under, undersL, Bool.and_true, Bool.true_and, List.take_length, storeA, AV.cells, D.cells, settleL, settle, spliceL, AV.isCell, List.all_cons, List.all_nil, Bool.and_self, List.take_succ_cons, List.take_zero, List.drop_succ_cons, List.drop_nil, List.length_cons, List.length_nil, Nat.reduceLeDiff, and_self, nilCheckA, loadA, partA, fa0, fa1, fa2, size3, agg3, size9, agg9, rd, rd2, List.cons_append, List.nil_append, List.set_cons_zero, Nat.zero_add, List.drop_zero, Nat.le_refl, hl, h0] <;> rfl
  refine Goes.seq ?_
  apply Goes.region k0
  · intro k hk
    have hrun := hrun k hk
    simp only [rd] at hrun
    simp only [regionT, oneOp, wantedA, stepOp, putA, keep, evalX, evalL, evalParts, cstV, cst1, binA, intOp, strOp, unA, callA, builtinA, lenA, elems, minMaxA, mm2, indexA, sliceA, boundA, Try.underlying3, Try.underlying9, Try.underlying5, Try.underlying4, List.toList_toArray, List.getD_eq_getElem?_getD, List.getElem?_set, List.length_set, Option.getD_some, Option.map_some, Option.isSome_none, List.append_nil, List.nil_append, List.map_nil, List.map_cons, reduceIte, Nat.reduceEqDiff, Nat.reduceLT, Bool.false_eq_true, Nat.reduceAdd, if_true, if_false, beq_tf, beq_ft, sealV, sealR, tupleA, finishA, resultsA, resultA, Int.toNat_natCast, retA, List.getElem?_toArray, List.getElem?_cons_zero, List.getElem?_cons_succ, Option.bind_some, AV.under, undersL, Bool.and_true, Bool.true_and, List.take_length, hl, h0, hrun] <;> rfl
  refine Goes.seq (Goes.seq ?_)
  apply Goes.region 0
  · intro k _
    simp only [regionT, oneOp, wantedA, stepOp, putA, keep, evalX, evalL, evalParts, cstV, cst1, binA, intOp, strOp, unA, callA, builtinA, lenA, elems, minMaxA, mm2, indexA, sliceA, boundA, Try.underlying3, Try.underlying9, Try.underlying5, Try.underlying4, List.toList_toArray, List.getD_eq_getElem?_getD, List.getElem?_set, List.length_set, Option.getD_some, Option.map_some, Option.isSome_none, List.append_nil, List.nil_append, List.map_nil, List.map_cons, reduceIte, Nat.reduceEqDiff, Nat.reduceLT, Bool.false_eq_true, Nat.reduceAdd, if_true, if_false, beq_tf, beq_ft, sealV, sealR, tupleA, finishA, resultsA, resultA, Int.toNat_natCast, retA, List.getElem?_toArray, List.getElem?_cons_zero, List.getElem?_cons_succ, Option.bind_some, AV.under, undersL, Bool.and_true, Bool.true_and, List.take_length, hl, h0, takeWhile_len] <;> rfl
  by_cases hm : (span nameB (s.drop at_) : Int) > 30
  · refine Goes.cond true (by simp only [regionT, oneOp, wantedA, stepOp, putA, keep, evalX, evalL, evalParts, cstV, cst1, binA, intOp, strOp, unA, callA, builtinA, lenA, elems, minMaxA, mm2, indexA, sliceA, boundA, Try.underlying3, Try.underlying9, Try.underlying5, Try.underlying4, List.toList_toArray, List.getD_eq_getElem?_getD, List.getElem?_set, List.length_set, Option.getD_some, Option.map_some, Option.isSome_none, List.append_nil, List.nil_append, List.map_nil, List.map_cons, reduceIte, Nat.reduceEqDiff, Nat.reduceLT, Bool.false_eq_true, Nat.reduceAdd, if_true, if_false, beq_tf, beq_ft, sealV, sealR, tupleA, finishA, resultsA, resultA, Int.toNat_natCast, retA, List.getElem?_toArray, List.getElem?_cons_zero, List.getElem?_cons_succ, Option.bind_some, AV.under, undersL, Bool.and_true, Bool.true_and, List.take_length, hl, hm, decide_true]) ?_
    obtain ⟨k1, hf⟩ := form_calls s ((at_ + span nameB (s.drop at_) : Nat) : Int) at_ (lv v toks) (ver + span nameB (s.drop at_))
    refine Goes.seq ?_
    apply Goes.region k1
    · intro k hk
      have hf := hf k hk
      simp only [rd] at hf
      simp only [regionT, oneOp, wantedA, stepOp, putA, keep, evalX, evalL, evalParts, cstV, cst1, binA, intOp, strOp, unA, callA, builtinA, lenA, elems, minMaxA, mm2, indexA, sliceA, boundA, Try.underlying3, Try.underlying9, Try.underlying5, Try.underlying4, List.toList_toArray, List.getD_eq_getElem?_getD, List.getElem?_set, List.length_set, Option.getD_some, Option.map_some, Option.isSome_none, List.append_nil, List.nil_append, List.map_nil, List.map_cons, reduceIte, Nat.reduceEqDiff, Nat.reduceLT, Bool.false_eq_true, Nat.reduceAdd, if_true, if_false, beq_tf, beq_ft, sealV, sealR, tupleA, finishA, resultsA, resultA, Int.toNat_natCast, retA, List.getElem?_toArray, List.getElem?_cons_zero, List.getElem?_cons_succ, Option.bind_some, AV.under, undersL, Bool.and_true, Bool.true_and, List.take_length, hl, h0, hf] <;> rfl
    apply Goes.ret
    refine ⟨.inr rfl, .dat (.int .i64 10), rd s at_ (lv v toks) (ver + span nameB (s.drop at_) + 1), ?_, 10, rfl, Or.inl ⟨by decide, Or.inl ?_, _, _, _, rfl⟩⟩
    · simp only [regionT, oneOp, wantedA, stepOp, putA, keep, evalX, evalL, evalParts, cstV, cst1, binA, intOp, strOp, unA, callA, builtinA, lenA, elems, minMaxA, mm2, indexA, sliceA, boundA, Try.underlying3, Try.underlying9, Try.underlying5, Try.underlying4, List.toList_toArray, List.getD_eq_getElem?_getD, List.getElem?_set, List.length_set, Option.getD_some, Option.map_some, Option.isSome_none, List.append_nil, List.nil_append, List.map_nil, List.map_cons, reduceIte, Nat.reduceEqDiff, Nat.reduceLT, Bool.false_eq_true, Nat.reduceAdd, if_true, if_false, beq_tf, beq_ft, sealV, sealR, tupleA, finishA, resultsA, resultA, Int.toNat_natCast, retA, List.getElem?_toArray, List.getElem?_cons_zero, List.getElem?_cons_succ, Option.bind_some, AV.under, undersL, Bool.and_true, Bool.true_and, List.take_length, storeA, AV.cells, D.cells, settleL, settle, spliceL, AV.isCell, List.all_cons, List.all_nil, Bool.and_self, List.take_succ_cons, List.take_zero, List.drop_succ_cons, List.drop_nil, List.length_cons, List.length_nil, Nat.reduceLeDiff, and_self, nilCheckA, loadA, partA, fa0, fa1, fa2, size3, agg3, size9, agg9, rd, rd2, List.cons_append, List.nil_append, List.set_cons_zero, Nat.zero_add, List.drop_zero, Nat.le_refl, hl, Try.results37]
    · unfold lexName; rw [if_pos (by omega)]
  · refine Goes.cond false (by simp only [regionT, oneOp, wantedA, stepOp, putA, keep, evalX, evalL, evalParts, cstV, cst1, binA, intOp, strOp, unA, callA, builtinA, lenA, elems, minMaxA, mm2, indexA, sliceA, boundA, Try.underlying3, Try.underlying9, Try.underlying5, Try.underlying4, List.toList_toArray, List.getD_eq_getElem?_getD, List.getElem?_set, List.length_set, Option.getD_some, Option.map_some, Option.isSome_none, List.append_nil, List.nil_append, List.map_nil, List.map_cons, reduceIte, Nat.reduceEqDiff, Nat.reduceLT, Bool.false_eq_true, Nat.reduceAdd, if_true, if_false, beq_tf, beq_ft, sealV, sealR, tupleA, finishA, resultsA, resultA, Int.toNat_natCast, retA, List.getElem?_toArray, List.getElem?_cons_zero, List.getElem?_cons_succ, Option.bind_some, AV.under, undersL, Bool.and_true, Bool.true_and, List.take_length, hl, hm, decide_false]) ?_
    apply Goes.skip
    obtain ⟨r, h', hA, k1, hput⟩ := put_after s at_ (span nameB (s.drop at_)) 1 0 ((s.drop at_).takeWhile nameB) v (ver + span nameB (s.drop at_)) toks hn
    obtain ⟨a, L, ver', rfl⟩ := hA.rd
    refine Goes.seq ?_
    apply Goes.region k1
    · intro k hk
      have hput := hput k hk
      simp only [rd] at hput
      simp only [regionT, oneOp, wantedA, stepOp, putA, keep, evalX, evalL, evalParts, cstV, cst1, binA, intOp, strOp, unA, callA, builtinA, lenA, elems, minMaxA, mm2, indexA, sliceA, boundA, Try.underlying3, Try.underlying9, Try.underlying5, Try.underlying4, List.toList_toArray, List.getD_eq_getElem?_getD, List.getElem?_set, List.length_set, Option.getD_some, Option.map_some, Option.isSome_none, List.append_nil, List.nil_append, List.map_nil, List.map_cons, reduceIte, Nat.reduceEqDiff, Nat.reduceLT, Bool.false_eq_true, Nat.reduceAdd, if_true, if_false, beq_tf, beq_ft, sealV, sealR, tupleA, finishA, resultsA, resultA, Int.toNat_natCast, retA, List.getElem?_toArray, List.getElem?_cons_zero, List.getElem?_cons_succ, Option.bind_some, AV.under, undersL, Bool.and_true, Bool.true_and, List.take_length, hl, h0, build1, hput] <;> rfl
    apply Goes.ret
    refine ⟨.inr rfl, .dat (.int .i64 r), rd s a L ver', ?_, ?_⟩
    · simp only [regionT, oneOp, wantedA, stepOp, putA, keep, evalX, evalL, evalParts, cstV, cst1, binA, intOp, strOp, unA, callA, builtinA, lenA, elems, minMaxA, mm2, indexA, sliceA, boundA, Try.underlying3, Try.underlying9, Try.underlying5, Try.underlying4, List.toList_toArray, List.getD_eq_getElem?_getD, List.getElem?_set, List.length_set, Option.getD_some, Option.map_some, Option.isSome_none, List.append_nil, List.nil_append, List.map_nil, List.map_cons, reduceIte, Nat.reduceEqDiff, Nat.reduceLT, Bool.false_eq_true, Nat.reduceAdd, if_true, if_false, beq_tf, beq_ft, sealV, sealR, tupleA, finishA, resultsA, resultA, Int.toNat_natCast, retA, List.getElem?_toArray, List.getElem?_cons_zero, List.getElem?_cons_succ, Option.bind_some, AV.under, undersL, Bool.and_true, Bool.true_and, List.take_length, storeA, AV.cells, D.cells, settleL, settle, spliceL, AV.isCell, List.all_cons, List.all_nil, Bool.and_self, List.take_succ_cons, List.take_zero, List.drop_succ_cons, List.drop_nil, List.length_cons, List.length_nil, Nat.reduceLeDiff, and_self, nilCheckA, loadA, partA, fa0, fa1, fa2, size3, agg3, size9, agg9, rd, rd2, List.cons_append, List.nil_append, List.set_cons_zero, Nat.zero_add, List.drop_zero, Nat.le_refl, hl, Try.results37]
    · unfold lexName; rw [if_neg (by omega)]; exact hA
end Go.Proofs.Ytfdcjngclelnhaa

set_option linter.unusedSimpArgs false
namespace Go.Proofs.Ytfdcjngclelnhaa
open Go Go.RowKit

/-- what digits say -/
def decN (l : List UInt8) : Nat := l.foldl (fun n c => 10 * n + (c.toNat - 48)) 0

theorem decN_succ (l : List UInt8) (i : Nat) (h : i < l.length) : decN (l.take (i + 1)) = 10 * decN (l.take i) + (l[i].toNat - 48) := by
  unfold decN
  rw [List.take_add_one, List.getElem?_eq_getElem h, Option.toList_some, List.foldl_append, List.foldl_cons, List.foldl_nil]

theorem decN_lt (l : List UInt8) (hd : ∀ c ∈ l, digitB c = true) : ∀ i : Nat, i ≤ l.length → decN (l.take i) < 10 ^ i
  | 0, _ => by simp [decN]
  | i + 1, h => by
    have ih := decN_lt l hd i (by omega)
    have hc := hd l[i] (List.getElem_mem _)
    simp only [digitB, digitN, Bool.and_eq_true, decide_eq_true_eq] at hc
    rw [decN_succ l i h, Nat.pow_succ]
    omega

theorem mem_takeWhile (p : UInt8 → Bool) : ∀ (l : List UInt8), ∀ c ∈ l.takeWhile p, p c = true
  | [], c, h => by simp at h
  | a :: l, c, h => by
    rw [List.takeWhile_cons] at h
    split at h
    · rename_i hp
      rcases List.mem_cons.1 h with rfl | h
      · exact hp
      · exact mem_takeWhile p l c h
    · simp at h

/-- a number at the beginning -/
def lexNumber (l : List UInt8) : Option (Int × List UInt8 × Int × Nat) :=
  if span digitB l > 18 then none else some (2, l.takeWhile digitB, decN (l.takeWhile digitB), span digitB l)

theorem build2_all : (fun (b : List UInt8) (d c : Int) => buildA Try.prog 34 [(0, .dat (.int .i64 2)), (1, .dat (.str b)), (2, .dat (.int .i64 d)), (3, .dat (.int .i64 c))]) = fun b d c => some (.dat (.agg [.int .i64 2, .str b, .int .i64 d, .int .i64 c])) := by kernel_rfl
theorem build2 (b : List UInt8) (d c : Int) : buildA Try.prog 34 [(0, .dat (.int .i64 2)), (1, .dat (.str b)), (2, .dat (.int .i64 d)), (3, .dat (.int .i64 c))] = some (.dat (.agg [.int .i64 2, .str b, .int .i64 d, .int .i64 c])) := congrFun (congrFun (congrFun build2_all b) d) c
theorem conv_all : (List.range 256).map (fun (n : Nat) => (convA Try.prog 5 3 (.dat (.int .u8 n)))) = (List.range 256).map fun (n : Nat) => some (.dat (.int .i64 n)) := by kernel_rfl
theorem conv53 (n : Nat) (h : n < 256) : convA Try.prog 5 3 (.dat (.int .u8 n)) = some (.dat (.int .i64 n)) := of_range conv_all n h
theorem wrap8 (n : Int) (h0 : 0 ≤ n) (h1 : n < 256) : IntKind.u8.wrap n = n := by
  simp only [IntKind.wrap, IntKind.bits, IntKind.signed]
  simp
  omega

structure I39 (T : List UInt8) (at_ : Nat) (hh : Heap) (n : Nat) (st : St) : Prop where
  len : st.tmps.length = 39
  heap : st.heap = hh
  h0 : st.tmps[0]? = some (.ptr (some (0, 0)))
  h3 : st.tmps[3]? = some (.dat (.int .i64 at_))
  h4 : st.tmps[4]? = some (.dat (.str T))
  h20 : st.tmps[20]? = some (.dat (.int .i64 T.length))
  ex : ∃ i : Nat, i ≤ T.length ∧ n = T.length - i ∧ st.tmps[21]? = some (.dat (.int .i64 i)) ∧ st.tmps[5]? = some (.dat (.int .i64 (decN (T.take i))))

theorem number_calls (s : List UInt8) (hs : s.length ≤ 140737488351232) (at_ : Nat) (hat : at_ ≤ s.length) (v ver : Nat) (toks : List Tok) (hn : toks.length ≤ 6000) :
    ∃ r h', After s at_ toks (lexNumber (s.drop at_)) r h' ∧ CallsTo Try.prog primT 39 [.ptr (some (0, 0))] (rd s at_ (lv v toks) ver) r h' := by
  obtain ⟨k0, hrun⟩ := run_calls s hs digitB 38 digit_calls at_ hat (lv v toks) ver
  refine CallsTo.bodyE Try.func39 rfl rfl (Nat.le_of_ble_eq_true rfl) (After s at_ toks (lexNumber (s.drop at_))) fun ts hl hts => ?_
  rw [Try.ntmps39] at hl
  have h0 := hts 0 _ rfl
  clear hts
  refine Goes.seq ?_
  apply Goes.region 0
  · intro k _
    simp only [regionT, oneOp, wantedA, stepOp, putA, keep, evalX, evalL, evalParts, cstV, cst1, binA, intOp, strOp, unA, callA, builtinA, lenA, elems, minMaxA, mm2, indexA, sliceA, boundA, Try.underlying3, Try.underlying9, Try.underlying5, Try.underlying4, List.toList_toArray, List.getD_eq_getElem?_getD, List.getElem?_set, List.length_set, Option.getD_some, Option.map_some, Option.isSome_none, List.append_nil, List.nil_append, List.map_nil, List.map_cons, reduceIte, Nat.reduceEqDiff, Nat.reduceLT, Bool.false_eq_true, Nat.reduceAdd, if_true, if_false, beq_tf, beq_ft, sealV, sealR, tupleA, finishA, resultsA, resultA, Int.toNat_natCast, retA, List.getElem?_toArray, List.getElem?_cons_zero, List.getElem?_cons_succ, Option.bind_some, AV.under, undersL, Bool.and_true, Bool.true_and, List.take_length, hl, h0] <;> rfl
  refine Goes.seq ?_
  apply Goes.region 0
  · intro k _
    simp only [regionT, oneOp, wantedA, stepOp, putA, keep, evalX, evalL, evalParts, cstV, cst1, binA, intOp, strOp, unA, callA, builtinA, lenA, elems, minMaxA, mm2, indexA, sliceA, boundA, Try.underlying3, Try.underlying9, Try.underlying5, Try.underlying4, List.toList_toArray, List.getD_eq_getElem?_getD, List.getElem?_set, List.length_set, Option.getD_some, Option.map_some, Option.isSome_none, List.append_nil, List.nil_append, List.map_nil, List.map_cons, reduceIte, Nat.reduceEqDiff, Nat.reduceLT, Bool.false_eq_true, Nat.reduceAdd, if_true, if_false, beq_tf, beq_ft, sealV, sealR, tupleA, finishA, resultsA, resultA, Int.toNat_natCast, retA, List.getElem?_toArray, List.getElem?_cons_zero, List.getElem?_cons_succ, Option.bind_some, AV.under, undersL, Bool.and_true, Bool.true_and, List.take_length, storeA, AV.cells, D.cells, settleL, settle, spliceL, AV.isCell, List.all_cons, List.all_nil, Bool.and_self, List.take_succ_cons, List.take_zero, List.drop_succ_cons, List.drop_nil, List.length_cons, List.length_nil, Nat.reduceLeDiff, and_self, nilCheckA, loadA, partA, fa0, fa1, fa2, size3, agg3, size9, agg9, rd, rd2, List.cons_append, List.nil_append, List.set_cons_zero, Nat.zero_add, List.drop_zero, Nat.le_refl, hl, h0] <;> rfl
  refine Goes.seq ?_
  apply Goes.region k0
  · intro k hk
    have hrun := hrun k hk
    simp only [rd] at hrun
    simp only [regionT, oneOp, wantedA, stepOp, putA, keep, evalX, evalL, evalParts, cstV, cst1, binA, intOp, strOp, unA, callA, builtinA, lenA, elems, minMaxA, mm2, indexA, sliceA, boundA, Try.underlying3, Try.underlying9, Try.underlying5, Try.underlying4, List.toList_toArray, List.getD_eq_getElem?_getD, List.getElem?_set, List.length_set, Option.getD_some, Option.map_some, Option.isSome_none, List.append_nil, List.nil_append, List.map_nil, List.map_cons, reduceIte, Nat.reduceEqDiff, Nat.reduceLT, Bool.false_eq_true, Nat.reduceAdd, if_true, if_false, beq_tf, beq_ft, sealV, sealR, tupleA, finishA, resultsA, resultA, Int.toNat_natCast, retA, List.getElem?_toArray, List.getElem?_cons_zero, List.getElem?_cons_succ, Option.bind_some, AV.under, undersL, Bool.and_true, Bool.true_and, List.take_length, hl, h0, hrun] <;> rfl
  refine Goes.seq (Goes.seq ?_)
  apply Goes.region 0
  · intro k _
    simp only [regionT, oneOp, wantedA, stepOp, putA, keep, evalX, evalL, evalParts, cstV, cst1, binA, intOp, strOp, unA, callA, builtinA, lenA, elems, minMaxA, mm2, indexA, sliceA, boundA, Try.underlying3, Try.underlying9, Try.underlying5, Try.underlying4, List.toList_toArray, List.getD_eq_getElem?_getD, List.getElem?_set, List.length_set, Option.getD_some, Option.map_some, Option.isSome_none, List.append_nil, List.nil_append, List.map_nil, List.map_cons, reduceIte, Nat.reduceEqDiff, Nat.reduceLT, Bool.false_eq_true, Nat.reduceAdd, if_true, if_false, beq_tf, beq_ft, sealV, sealR, tupleA, finishA, resultsA, resultA, Int.toNat_natCast, retA, List.getElem?_toArray, List.getElem?_cons_zero, List.getElem?_cons_succ, Option.bind_some, AV.under, undersL, Bool.and_true, Bool.true_and, List.take_length, hl, h0, takeWhile_len] <;> rfl
  by_cases hm : (span digitB (s.drop at_) : Int) > 18
  · refine Goes.cond true (by simp only [regionT, oneOp, wantedA, stepOp, putA, keep, evalX, evalL, evalParts, cstV, cst1, binA, intOp, strOp, unA, callA, builtinA, lenA, elems, minMaxA, mm2, indexA, sliceA, boundA, Try.underlying3, Try.underlying9, Try.underlying5, Try.underlying4, List.toList_toArray, List.getD_eq_getElem?_getD, List.getElem?_set, List.length_set, Option.getD_some, Option.map_some, Option.isSome_none, List.append_nil, List.nil_append, List.map_nil, List.map_cons, reduceIte, Nat.reduceEqDiff, Nat.reduceLT, Bool.false_eq_true, Nat.reduceAdd, if_true, if_false, beq_tf, beq_ft, sealV, sealR, tupleA, finishA, resultsA, resultA, Int.toNat_natCast, retA, List.getElem?_toArray, List.getElem?_cons_zero, List.getElem?_cons_succ, Option.bind_some, AV.under, undersL, Bool.and_true, Bool.true_and, List.take_length, hl, hm, decide_true]) ?_
    obtain ⟨k1, hf⟩ := form_calls s ((at_ + span digitB (s.drop at_) : Nat) : Int) at_ (lv v toks) (ver + span digitB (s.drop at_))
    refine Goes.seq ?_
    apply Goes.region k1
    · intro k hk
      have hf := hf k hk
      simp only [rd] at hf
      simp only [regionT, oneOp, wantedA, stepOp, putA, keep, evalX, evalL, evalParts, cstV, cst1, binA, intOp, strOp, unA, callA, builtinA, lenA, elems, minMaxA, mm2, indexA, sliceA, boundA, Try.underlying3, Try.underlying9, Try.underlying5, Try.underlying4, List.toList_toArray, List.getD_eq_getElem?_getD, List.getElem?_set, List.length_set, Option.getD_some, Option.map_some, Option.isSome_none, List.append_nil, List.nil_append, List.map_nil, List.map_cons, reduceIte, Nat.reduceEqDiff, Nat.reduceLT, Bool.false_eq_true, Nat.reduceAdd, if_true, if_false, beq_tf, beq_ft, sealV, sealR, tupleA, finishA, resultsA, resultA, Int.toNat_natCast, retA, List.getElem?_toArray, List.getElem?_cons_zero, List.getElem?_cons_succ, Option.bind_some, AV.under, undersL, Bool.and_true, Bool.true_and, List.take_length, hl, h0, hf] <;> rfl
    apply Goes.ret
    refine ⟨.inr rfl, .dat (.int .i64 10), rd s at_ (lv v toks) (ver + span digitB (s.drop at_) + 1), ?_, 10, rfl, Or.inl ⟨by decide, Or.inl ?_, _, _, _, rfl⟩⟩
    · simp only [regionT, oneOp, wantedA, stepOp, putA, keep, evalX, evalL, evalParts, cstV, cst1, binA, intOp, strOp, unA, callA, builtinA, lenA, elems, minMaxA, mm2, indexA, sliceA, boundA, Try.underlying3, Try.underlying9, Try.underlying5, Try.underlying4, List.toList_toArray, List.getD_eq_getElem?_getD, List.getElem?_set, List.length_set, Option.getD_some, Option.map_some, Option.isSome_none, List.append_nil, List.nil_append, List.map_nil, List.map_cons, reduceIte, Nat.reduceEqDiff, Nat.reduceLT, Bool.false_eq_true, Nat.reduceAdd, if_true, if_false, beq_tf, beq_ft, sealV, sealR, tupleA, finishA, resultsA, resultA, Int.toNat_natCast, retA, List.getElem?_toArray, List.getElem?_cons_zero, List.getElem?_cons_succ, Option.bind_some, AV.under, undersL, Bool.and_true, Bool.true_and, List.take_length, storeA, AV.cells, D.cells, settleL, settle, spliceL, AV.isCell, List.all_cons, List.all_nil, Bool.and_self, List.take_succ_cons, List.take_zero, List.drop_succ_cons, List.drop_nil, List.length_cons, List.length_nil, Nat.reduceLeDiff, and_self, nilCheckA, loadA, partA, fa0, fa1, fa2, size3, agg3, size9, agg9, rd, rd2, List.cons_append, List.nil_append, List.set_cons_zero, Nat.zero_add, List.drop_zero, Nat.le_refl, hl, Try.results39]
    · unfold lexNumber; rw [if_pos (by omega)]
  · refine Goes.cond false (by simp only [regionT, oneOp, wantedA, stepOp, putA, keep, evalX, evalL, evalParts, cstV, cst1, binA, intOp, strOp, unA, callA, builtinA, lenA, elems, minMaxA, mm2, indexA, sliceA, boundA, Try.underlying3, Try.underlying9, Try.underlying5, Try.underlying4, List.toList_toArray, List.getD_eq_getElem?_getD, List.getElem?_set, List.length_set, Option.getD_some, Option.map_some, Option.isSome_none, List.append_nil, List.nil_append, List.map_nil, List.map_cons, reduceIte, Nat.reduceEqDiff, Nat.reduceLT, Bool.false_eq_true, Nat.reduceAdd, if_true, if_false, beq_tf, beq_ft, sealV, sealR, tupleA, finishA, resultsA, resultA, Int.toNat_natCast, retA, List.getElem?_toArray, List.getElem?_cons_zero, List.getElem?_cons_succ, Option.bind_some, AV.under, undersL, Bool.and_true, Bool.true_and, List.take_length, hl, hm, decide_false]) ?_
    apply Goes.skip
    have hTd : ∀ c ∈ (s.drop at_).takeWhile digitB, digitB c = true := mem_takeWhile digitB _
    have hTl : ((s.drop at_).takeWhile digitB).length = span digitB (s.drop at_) := rfl
    have hT18 : ((s.drop at_).takeWhile digitB).length ≤ 18 := by omega
    obtain ⟨r, h', hA, k1, hput⟩ := put_after s at_ (span digitB (s.drop at_)) 2 (decN ((s.drop at_).takeWhile digitB)) ((s.drop at_).takeWhile digitB) v (ver + span digitB (s.drop at_)) toks hn
    obtain ⟨a, L, ver', rfl⟩ := hA.rd
    refine Goes.seq ?_
    apply Goes.region 0
    · intro k _
      simp only [regionT, oneOp, wantedA, stepOp, putA, keep, evalX, evalL, evalParts, cstV, cst1, binA, intOp, strOp, unA, callA, builtinA, lenA, elems, minMaxA, mm2, indexA, sliceA, boundA, Try.underlying3, Try.underlying9, Try.underlying5, Try.underlying4, List.toList_toArray, List.getD_eq_getElem?_getD, List.getElem?_set, List.length_set, Option.getD_some, Option.map_some, Option.isSome_none, List.append_nil, List.nil_append, List.map_nil, List.map_cons, reduceIte, Nat.reduceEqDiff, Nat.reduceLT, Bool.false_eq_true, Nat.reduceAdd, if_true, if_false, beq_tf, beq_ft, sealV, sealR, tupleA, finishA, resultsA, resultA, Int.toNat_natCast, retA, List.getElem?_toArray, List.getElem?_cons_zero, List.getElem?_cons_succ, Option.bind_some, AV.under, undersL, Bool.and_true, Bool.true_and, List.take_length, hl, h0] <;> rfl
    refine Goes.seq (Goes.seq ?_)
    apply Goes.region 0
    · intro k _
      simp only [regionT, oneOp, wantedA, stepOp, putA, keep, evalX, evalL, evalParts, cstV, cst1, binA, intOp, strOp, unA, callA, builtinA, lenA, elems, minMaxA, mm2, indexA, sliceA, boundA, Try.underlying3, Try.underlying9, Try.underlying5, Try.underlying4, List.toList_toArray, List.getD_eq_getElem?_getD, List.getElem?_set, List.length_set, Option.getD_some, Option.map_some, Option.isSome_none, List.append_nil, List.nil_append, List.map_nil, List.map_cons, reduceIte, Nat.reduceEqDiff, Nat.reduceLT, Bool.false_eq_true, Nat.reduceAdd, if_true, if_false, beq_tf, beq_ft, sealV, sealR, tupleA, finishA, resultsA, resultA, Int.toNat_natCast, retA, List.getElem?_toArray, List.getElem?_cons_zero, List.getElem?_cons_succ, Option.bind_some, AV.under, undersL, Bool.and_true, Bool.true_and, List.take_length, hl, h0] <;> rfl
    refine Goes.block (Goes.loop (I39 ((s.drop at_).takeWhile digitB) at_ (rd s ((at_ + span digitB (s.drop at_) : Nat) : Int) (lv v toks) (ver + span digitB (s.drop at_)))) ?_ ((s.drop at_).takeWhile digitB).length _ ⟨?_, rfl, ?_, ?_, ?_, ?_, 0, Nat.zero_le _, rfl, ?_, ?_⟩)
    rotate_left
    · simp only [regionT, oneOp, wantedA, stepOp, putA, keep, evalX, evalL, evalParts, cstV, cst1, binA, intOp, strOp, unA, callA, builtinA, lenA, elems, minMaxA, mm2, indexA, sliceA, boundA, Try.underlying3, Try.underlying9, Try.underlying5, Try.underlying4, List.toList_toArray, List.getD_eq_getElem?_getD, List.getElem?_set, List.length_set, Option.getD_some, Option.map_some, Option.isSome_none, List.append_nil, List.nil_append, List.map_nil, List.map_cons, reduceIte, Nat.reduceEqDiff, Nat.reduceLT, Bool.false_eq_true, Nat.reduceAdd, if_true, if_false, beq_tf, beq_ft, sealV, sealR, tupleA, finishA, resultsA, resultA, Int.toNat_natCast, retA, List.getElem?_toArray, List.getElem?_cons_zero, List.getElem?_cons_succ, Option.bind_some, AV.under, undersL, Bool.and_true, Bool.true_and, List.take_length, hl]
    · simp only [regionT, oneOp, wantedA, stepOp, putA, keep, evalX, evalL, evalParts, cstV, cst1, binA, intOp, strOp, unA, callA, builtinA, lenA, elems, minMaxA, mm2, indexA, sliceA, boundA, Try.underlying3, Try.underlying9, Try.underlying5, Try.underlying4, List.toList_toArray, List.getD_eq_getElem?_getD, List.getElem?_set, List.length_set, Option.getD_some, Option.map_some, Option.isSome_none, List.append_nil, List.nil_append, List.map_nil, List.map_cons, reduceIte, Nat.reduceEqDiff, Nat.reduceLT, Bool.false_eq_true, Nat.reduceAdd, if_true, if_false, beq_tf, beq_ft, sealV, sealR, tupleA, finishA, resultsA, resultA, Int.toNat_natCast, retA, List.getElem?_toArray, List.getElem?_cons_zero, List.getElem?_cons_succ, Option.bind_some, AV.under, undersL, Bool.and_true, Bool.true_and, List.take_length, hl, h0]
    · simp only [regionT, oneOp, wantedA, stepOp, putA, keep, evalX, evalL, evalParts, cstV, cst1, binA, intOp, strOp, unA, callA, builtinA, lenA, elems, minMaxA, mm2, indexA, sliceA, boundA, Try.underlying3, Try.underlying9, Try.underlying5, Try.underlying4, List.toList_toArray, List.getD_eq_getElem?_getD, List.getElem?_set, List.length_set, Option.getD_some, Option.map_some, Option.isSome_none, List.append_nil, List.nil_append, List.map_nil, List.map_cons, reduceIte, Nat.reduceEqDiff, Nat.reduceLT, Bool.false_eq_true, Nat.reduceAdd, if_true, if_false, beq_tf, beq_ft, sealV, sealR, tupleA, finishA, resultsA, resultA, Int.toNat_natCast, retA, List.getElem?_toArray, List.getElem?_cons_zero, List.getElem?_cons_succ, Option.bind_some, AV.under, undersL, Bool.and_true, Bool.true_and, List.take_length, hl, h0]
    · simp only [regionT, oneOp, wantedA, stepOp, putA, keep, evalX, evalL, evalParts, cstV, cst1, binA, intOp, strOp, unA, callA, builtinA, lenA, elems, minMaxA, mm2, indexA, sliceA, boundA, Try.underlying3, Try.underlying9, Try.underlying5, Try.underlying4, List.toList_toArray, List.getD_eq_getElem?_getD, List.getElem?_set, List.length_set, Option.getD_some, Option.map_some, Option.isSome_none, List.append_nil, List.nil_append, List.map_nil, List.map_cons, reduceIte, Nat.reduceEqDiff, Nat.reduceLT, Bool.false_eq_true, Nat.reduceAdd, if_true, if_false, beq_tf, beq_ft, sealV, sealR, tupleA, finishA, resultsA, resultA, Int.toNat_natCast, retA, List.getElem?_toArray, List.getElem?_cons_zero, List.getElem?_cons_succ, Option.bind_some, AV.under, undersL, Bool.and_true, Bool.true_and, List.take_length, hl, h0]
    · simp only [regionT, oneOp, wantedA, stepOp, putA, keep, evalX, evalL, evalParts, cstV, cst1, binA, intOp, strOp, unA, callA, builtinA, lenA, elems, minMaxA, mm2, indexA, sliceA, boundA, Try.underlying3, Try.underlying9, Try.underlying5, Try.underlying4, List.toList_toArray, List.getD_eq_getElem?_getD, List.getElem?_set, List.length_set, Option.getD_some, Option.map_some, Option.isSome_none, List.append_nil, List.nil_append, List.map_nil, List.map_cons, reduceIte, Nat.reduceEqDiff, Nat.reduceLT, Bool.false_eq_true, Nat.reduceAdd, if_true, if_false, beq_tf, beq_ft, sealV, sealR, tupleA, finishA, resultsA, resultA, Int.toNat_natCast, retA, List.getElem?_toArray, List.getElem?_cons_zero, List.getElem?_cons_succ, Option.bind_some, AV.under, undersL, Bool.and_true, Bool.true_and, List.take_length, hl, h0]
    · simp only [regionT, oneOp, wantedA, stepOp, putA, keep, evalX, evalL, evalParts, cstV, cst1, binA, intOp, strOp, unA, callA, builtinA, lenA, elems, minMaxA, mm2, indexA, sliceA, boundA, Try.underlying3, Try.underlying9, Try.underlying5, Try.underlying4, List.toList_toArray, List.getD_eq_getElem?_getD, List.getElem?_set, List.length_set, Option.getD_some, Option.map_some, Option.isSome_none, List.append_nil, List.nil_append, List.map_nil, List.map_cons, reduceIte, Nat.reduceEqDiff, Nat.reduceLT, Bool.false_eq_true, Nat.reduceAdd, if_true, if_false, beq_tf, beq_ft, sealV, sealR, tupleA, finishA, resultsA, resultA, Int.toNat_natCast, retA, List.getElem?_toArray, List.getElem?_cons_zero, List.getElem?_cons_succ, Option.bind_some, AV.under, undersL, Bool.and_true, Bool.true_and, List.take_length, hl, h0]; rfl
    · simp only [regionT, oneOp, wantedA, stepOp, putA, keep, evalX, evalL, evalParts, cstV, cst1, binA, intOp, strOp, unA, callA, builtinA, lenA, elems, minMaxA, mm2, indexA, sliceA, boundA, Try.underlying3, Try.underlying9, Try.underlying5, Try.underlying4, List.toList_toArray, List.getD_eq_getElem?_getD, List.getElem?_set, List.length_set, Option.getD_some, Option.map_some, Option.isSome_none, List.append_nil, List.nil_append, List.map_nil, List.map_cons, reduceIte, Nat.reduceEqDiff, Nat.reduceLT, Bool.false_eq_true, Nat.reduceAdd, if_true, if_false, beq_tf, beq_ft, sealV, sealR, tupleA, finishA, resultsA, resultA, Int.toNat_natCast, retA, List.getElem?_toArray, List.getElem?_cons_zero, List.getElem?_cons_succ, Option.bind_some, AV.under, undersL, Bool.and_true, Bool.true_and, List.take_length, hl, h0]; rfl
    have hlex : lexNumber (s.drop at_) = some ((2 : Int), (s.drop at_).takeWhile digitB, (decN ((s.drop at_).takeWhile digitB) : Int), span digitB (s.drop at_)) := by
      unfold lexNumber; rw [if_neg (by omega)]
    rw [hlex]
    clear hl h0 hrun hlex ts
    generalize (s.drop at_).takeWhile digitB = T at *
    generalize span digitB (s.drop at_) = m at *
    rintro n ⟨ts, hh⟩ ⟨hl, hhe, h0, h3, h4, h20, i, hi, rfl, h21, h5⟩
    have hhe2 : hh = _ := hhe
    clear hhe
    subst hhe2
    refine Goes.seq ?_
    apply Goes.region 0
    · intro k _
      simp only [regionT, oneOp, wantedA, stepOp, putA, keep, evalX, evalL, evalParts, cstV, cst1, binA, intOp, strOp, unA, callA, builtinA, lenA, elems, minMaxA, mm2, indexA, sliceA, boundA, Try.underlying3, Try.underlying9, Try.underlying5, Try.underlying4, List.toList_toArray, List.getD_eq_getElem?_getD, List.getElem?_set, List.length_set, Option.getD_some, Option.map_some, Option.isSome_none, List.append_nil, List.nil_append, List.map_nil, List.map_cons, reduceIte, Nat.reduceEqDiff, Nat.reduceLT, Bool.false_eq_true, Nat.reduceAdd, if_true, if_false, beq_tf, beq_ft, sealV, sealR, tupleA, finishA, resultsA, resultA, Int.toNat_natCast, retA, List.getElem?_toArray, List.getElem?_cons_zero, List.getElem?_cons_succ, Option.bind_some, AV.under, undersL, Bool.and_true, Bool.true_and, List.take_length, hl, h20, h21] <;> rfl
    refine Goes.seq ?_
    by_cases hlt : i < T.length
    · have hlt' : (i : Int) < T.length := by omega
      have hc : T[i]? = some T[i] := List.getElem?_eq_getElem hlt
      have hi0 : ¬ (i : Int) < 0 := Int.not_lt.2 (Int.natCast_nonneg i)
      have hd := hTd T[i] (List.getElem_mem _)
      simp only [digitB, digitN, Bool.and_eq_true, decide_eq_true_eq] at hd
      have hlt10 := decN_lt T hTd i hi
      have h17 : 10 ^ i ≤ 10 ^ 17 := Nat.pow_le_pow_right (by omega) (by omega)
      have hsuc := decN_succ T i hlt
      have e8 : IntKind.u8.wrap ((T[i].toNat : Int) - 48) = ((T[i].toNat - 48 : Nat) : Int) := by
        rw [wrap8 _ (by omega) (by omega)]; omega
      have e3 : convA Try.prog 5 3 (.dat (.int .u8 ((T[i].toNat - 48 : Nat) : Int))) = some (.dat (.int .i64 ((T[i].toNat - 48 : Nat) : Int))) := conv53 _ (by omega)
      refine Goes.cond true (by simp only [regionT, oneOp, wantedA, stepOp, putA, keep, evalX, evalL, evalParts, cstV, cst1, binA, intOp, strOp, unA, callA, builtinA, lenA, elems, minMaxA, mm2, indexA, sliceA, boundA, Try.underlying3, Try.underlying9, Try.underlying5, Try.underlying4, List.toList_toArray, List.getD_eq_getElem?_getD, List.getElem?_set, List.length_set, Option.getD_some, Option.map_some, Option.isSome_none, List.append_nil, List.nil_append, List.map_nil, List.map_cons, reduceIte, Nat.reduceEqDiff, Nat.reduceLT, Bool.false_eq_true, Nat.reduceAdd, if_true, if_false, beq_tf, beq_ft, sealV, sealR, tupleA, finishA, resultsA, resultA, Int.toNat_natCast, retA, List.getElem?_toArray, List.getElem?_cons_zero, List.getElem?_cons_succ, Option.bind_some, AV.under, undersL, Bool.and_true, Bool.true_and, List.take_length, hl, hlt', decide_true]) ?_
      apply Goes.skip
      refine Goes.seq (Goes.block (Goes.seq ?_))
      apply Goes.region 0
      · intro k _
        simp only [regionT, oneOp, wantedA, stepOp, putA, keep, evalX, evalL, evalParts, cstV, cst1, binA, intOp, strOp, unA, callA, builtinA, lenA, elems, minMaxA, mm2, indexA, sliceA, boundA, Try.underlying3, Try.underlying9, Try.underlying5, Try.underlying4, List.toList_toArray, List.getD_eq_getElem?_getD, List.getElem?_set, List.length_set, Option.getD_some, Option.map_some, Option.isSome_none, List.append_nil, List.nil_append, List.map_nil, List.map_cons, reduceIte, Nat.reduceEqDiff, Nat.reduceLT, Bool.false_eq_true, Nat.reduceAdd, if_true, if_false, beq_tf, beq_ft, sealV, sealR, tupleA, finishA, resultsA, resultA, Int.toNat_natCast, retA, List.getElem?_toArray, List.getElem?_cons_zero, List.getElem?_cons_succ, Option.bind_some, AV.under, undersL, Bool.and_true, Bool.true_and, List.take_length, hl, h21] <;> rfl
      apply Goes.region 0
      · intro k _
        simp only [regionT, oneOp, wantedA, stepOp, putA, keep, evalX, evalL, evalParts, cstV, cst1, binA, intOp, strOp, unA, callA, builtinA, lenA, elems, minMaxA, mm2, indexA, sliceA, boundA, Try.underlying3, Try.underlying9, Try.underlying5, Try.underlying4, List.toList_toArray, List.getD_eq_getElem?_getD, List.getElem?_set, List.length_set, Option.getD_some, Option.map_some, Option.isSome_none, List.append_nil, List.nil_append, List.map_nil, List.map_cons, reduceIte, Nat.reduceEqDiff, Nat.reduceLT, Bool.false_eq_true, Nat.reduceAdd, if_true, if_false, beq_tf, beq_ft, sealV, sealR, tupleA, finishA, resultsA, resultA, Int.toNat_natCast, retA, List.getElem?_toArray, List.getElem?_cons_zero, List.getElem?_cons_succ, Option.bind_some, AV.under, undersL, Bool.and_true, Bool.true_and, List.take_length, hl, h4, h5, hc, hi0, e8, e3, wrap64 (10 * (decN (T.take i) : Int)) (by omega) (by omega), wrap64 (10 * (decN (T.take i) : Int) + ((T[i].toNat - 48 : Nat) : Int)) (by omega) (by omega)] <;> rfl
      apply Goes.region 0
      · intro k _
        simp only [regionT, oneOp, wantedA, stepOp, putA, keep, evalX, evalL, evalParts, cstV, cst1, binA, intOp, strOp, unA, callA, builtinA, lenA, elems, minMaxA, mm2, indexA, sliceA, boundA, Try.underlying3, Try.underlying9, Try.underlying5, Try.underlying4, List.toList_toArray, List.getD_eq_getElem?_getD, List.getElem?_set, List.length_set, Option.getD_some, Option.map_some, Option.isSome_none, List.append_nil, List.nil_append, List.map_nil, List.map_cons, reduceIte, Nat.reduceEqDiff, Nat.reduceLT, Bool.false_eq_true, Nat.reduceAdd, if_true, if_false, beq_tf, beq_ft, sealV, sealR, tupleA, finishA, resultsA, resultA, Int.toNat_natCast, retA, List.getElem?_toArray, List.getElem?_cons_zero, List.getElem?_cons_succ, Option.bind_some, AV.under, undersL, Bool.and_true, Bool.true_and, List.take_length, hl, h21, wrap64 ((i : Int) + 1) (by omega) (by omega)] <;> rfl
      refine ⟨T.length - (i + 1), by omega, ?_, rfl, ?_, ?_, ?_, ?_, i + 1, by omega, rfl, ?_, ?_⟩
      · simp only [regionT, oneOp, wantedA, stepOp, putA, keep, evalX, evalL, evalParts, cstV, cst1, binA, intOp, strOp, unA, callA, builtinA, lenA, elems, minMaxA, mm2, indexA, sliceA, boundA, Try.underlying3, Try.underlying9, Try.underlying5, Try.underlying4, List.toList_toArray, List.getD_eq_getElem?_getD, List.getElem?_set, List.length_set, Option.getD_some, Option.map_some, Option.isSome_none, List.append_nil, List.nil_append, List.map_nil, List.map_cons, reduceIte, Nat.reduceEqDiff, Nat.reduceLT, Bool.false_eq_true, Nat.reduceAdd, if_true, if_false, beq_tf, beq_ft, sealV, sealR, tupleA, finishA, resultsA, resultA, Int.toNat_natCast, retA, List.getElem?_toArray, List.getElem?_cons_zero, List.getElem?_cons_succ, Option.bind_some, AV.under, undersL, Bool.and_true, Bool.true_and, List.take_length, hl]
      · simp only [regionT, oneOp, wantedA, stepOp, putA, keep, evalX, evalL, evalParts, cstV, cst1, binA, intOp, strOp, unA, callA, builtinA, lenA, elems, minMaxA, mm2, indexA, sliceA, boundA, Try.underlying3, Try.underlying9, Try.underlying5, Try.underlying4, List.toList_toArray, List.getD_eq_getElem?_getD, List.getElem?_set, List.length_set, Option.getD_some, Option.map_some, Option.isSome_none, List.append_nil, List.nil_append, List.map_nil, List.map_cons, reduceIte, Nat.reduceEqDiff, Nat.reduceLT, Bool.false_eq_true, Nat.reduceAdd, if_true, if_false, beq_tf, beq_ft, sealV, sealR, tupleA, finishA, resultsA, resultA, Int.toNat_natCast, retA, List.getElem?_toArray, List.getElem?_cons_zero, List.getElem?_cons_succ, Option.bind_some, AV.under, undersL, Bool.and_true, Bool.true_and, List.take_length, hl, h0]
      · simp only [regionT, oneOp, wantedA, stepOp, putA, keep, evalX, evalL, evalParts, cstV, cst1, binA, intOp, strOp, unA, callA, builtinA, lenA, elems, minMaxA, mm2, indexA, sliceA, boundA, Try.underlying3, Try.underlying9, Try.underlying5, Try.underlying4, List.toList_toArray, List.getD_eq_getElem?_getD, List.getElem?_set, List.length_set, Option.getD_some, Option.map_some, Option.isSome_none, List.append_nil, List.nil_append, List.map_nil, List.map_cons, reduceIte, Nat.reduceEqDiff, Nat.reduceLT, Bool.false_eq_true, Nat.reduceAdd, if_true, if_false, beq_tf, beq_ft, sealV, sealR, tupleA, finishA, resultsA, resultA, Int.toNat_natCast, retA, List.getElem?_toArray, List.getElem?_cons_zero, List.getElem?_cons_succ, Option.bind_some, AV.under, undersL, Bool.and_true, Bool.true_and, List.take_length, hl, h3]
      · simp only [regionT, oneOp, wantedA, stepOp, putA, keep, evalX, evalL, evalParts, cstV, cst1, binA, intOp, strOp, unA, callA, builtinA, lenA, elems, minMaxA, mm2, indexA, sliceA, boundA, Try.underlying3, Try.underlying9, Try.underlying5, Try.underlying4, List.toList_toArray, List.getD_eq_getElem?_getD, List.getElem?_set, List.length_set, Option.getD_some, Option.map_some, Option.isSome_none, List.append_nil, List.nil_append, List.map_nil, List.map_cons, reduceIte, Nat.reduceEqDiff, Nat.reduceLT, Bool.false_eq_true, Nat.reduceAdd, if_true, if_false, beq_tf, beq_ft, sealV, sealR, tupleA, finishA, resultsA, resultA, Int.toNat_natCast, retA, List.getElem?_toArray, List.getElem?_cons_zero, List.getElem?_cons_succ, Option.bind_some, AV.under, undersL, Bool.and_true, Bool.true_and, List.take_length, hl, h4]
      · simp only [regionT, oneOp, wantedA, stepOp, putA, keep, evalX, evalL, evalParts, cstV, cst1, binA, intOp, strOp, unA, callA, builtinA, lenA, elems, minMaxA, mm2, indexA, sliceA, boundA, Try.underlying3, Try.underlying9, Try.underlying5, Try.underlying4, List.toList_toArray, List.getD_eq_getElem?_getD, List.getElem?_set, List.length_set, Option.getD_some, Option.map_some, Option.isSome_none, List.append_nil, List.nil_append, List.map_nil, List.map_cons, reduceIte, Nat.reduceEqDiff, Nat.reduceLT, Bool.false_eq_true, Nat.reduceAdd, if_true, if_false, beq_tf, beq_ft, sealV, sealR, tupleA, finishA, resultsA, resultA, Int.toNat_natCast, retA, List.getElem?_toArray, List.getElem?_cons_zero, List.getElem?_cons_succ, Option.bind_some, AV.under, undersL, Bool.and_true, Bool.true_and, List.take_length, hl, h20]
      · simp only [regionT, oneOp, wantedA, stepOp, putA, keep, evalX, evalL, evalParts, cstV, cst1, binA, intOp, strOp, unA, callA, builtinA, lenA, elems, minMaxA, mm2, indexA, sliceA, boundA, Try.underlying3, Try.underlying9, Try.underlying5, Try.underlying4, List.toList_toArray, List.getD_eq_getElem?_getD, List.getElem?_set, List.length_set, Option.getD_some, Option.map_some, Option.isSome_none, List.append_nil, List.nil_append, List.map_nil, List.map_cons, reduceIte, Nat.reduceEqDiff, Nat.reduceLT, Bool.false_eq_true, Nat.reduceAdd, if_true, if_false, beq_tf, beq_ft, sealV, sealR, tupleA, finishA, resultsA, resultA, Int.toNat_natCast, retA, List.getElem?_toArray, List.getElem?_cons_zero, List.getElem?_cons_succ, Option.bind_some, AV.under, undersL, Bool.and_true, Bool.true_and, List.take_length, hl, Int.natCast_add, Int.natCast_one]
      · simp only [regionT, oneOp, wantedA, stepOp, putA, keep, evalX, evalL, evalParts, cstV, cst1, binA, intOp, strOp, unA, callA, builtinA, lenA, elems, minMaxA, mm2, indexA, sliceA, boundA, Try.underlying3, Try.underlying9, Try.underlying5, Try.underlying4, List.toList_toArray, List.getD_eq_getElem?_getD, List.getElem?_set, List.length_set, Option.getD_some, Option.map_some, Option.isSome_none, List.append_nil, List.nil_append, List.map_nil, List.map_cons, reduceIte, Nat.reduceEqDiff, Nat.reduceLT, Bool.false_eq_true, Nat.reduceAdd, if_true, if_false, beq_tf, beq_ft, sealV, sealR, tupleA, finishA, resultsA, resultA, Int.toNat_natCast, retA, List.getElem?_toArray, List.getElem?_cons_zero, List.getElem?_cons_succ, Option.bind_some, AV.under, undersL, Bool.and_true, Bool.true_and, List.take_length, hl, hsuc, Int.natCast_add, Int.natCast_mul]; rfl
    · have hlt' : ¬ (i : Int) < T.length := by omega
      obtain rfl : i = T.length := by omega
      rw [List.take_length] at h5
      refine Goes.cond false (by simp only [regionT, oneOp, wantedA, stepOp, putA, keep, evalX, evalL, evalParts, cstV, cst1, binA, intOp, strOp, unA, callA, builtinA, lenA, elems, minMaxA, mm2, indexA, sliceA, boundA, Try.underlying3, Try.underlying9, Try.underlying5, Try.underlying4, List.toList_toArray, List.getD_eq_getElem?_getD, List.getElem?_set, List.length_set, Option.getD_some, Option.map_some, Option.isSome_none, List.append_nil, List.nil_append, List.map_nil, List.map_cons, reduceIte, Nat.reduceEqDiff, Nat.reduceLT, Bool.false_eq_true, Nat.reduceAdd, if_true, if_false, beq_tf, beq_ft, sealV, sealR, tupleA, finishA, resultsA, resultA, Int.toNat_natCast, retA, List.getElem?_toArray, List.getElem?_cons_zero, List.getElem?_cons_succ, Option.bind_some, AV.under, undersL, Bool.and_true, Bool.true_and, List.take_length, hl, hlt', decide_false]) ?_
      apply Goes.exit
      simp only [if_true]
      refine Goes.seq ?_
      apply Goes.region k1
      · intro k hk
        have hput := hput k hk
        simp only [rd] at hput
        simp only [regionT, oneOp, wantedA, stepOp, putA, keep, evalX, evalL, evalParts, cstV, cst1, binA, intOp, strOp, unA, callA, builtinA, lenA, elems, minMaxA, mm2, indexA, sliceA, boundA, Try.underlying3, Try.underlying9, Try.underlying5, Try.underlying4, List.toList_toArray, List.getD_eq_getElem?_getD, List.getElem?_set, List.length_set, Option.getD_some, Option.map_some, Option.isSome_none, List.append_nil, List.nil_append, List.map_nil, List.map_cons, reduceIte, Nat.reduceEqDiff, Nat.reduceLT, Bool.false_eq_true, Nat.reduceAdd, if_true, if_false, beq_tf, beq_ft, sealV, sealR, tupleA, finishA, resultsA, resultA, Int.toNat_natCast, retA, List.getElem?_toArray, List.getElem?_cons_zero, List.getElem?_cons_succ, Option.bind_some, AV.under, undersL, Bool.and_true, Bool.true_and, List.take_length, hl, h0, h3, h4, h5, build2, rd, hput] <;> rfl
      apply Goes.ret
      refine ⟨.inr rfl, .dat (.int .i64 r), rd s a L ver', ?_, hA⟩
      simp only [regionT, oneOp, wantedA, stepOp, putA, keep, evalX, evalL, evalParts, cstV, cst1, binA, intOp, strOp, unA, callA, builtinA, lenA, elems, minMaxA, mm2, indexA, sliceA, boundA, Try.underlying3, Try.underlying9, Try.underlying5, Try.underlying4, List.toList_toArray, List.getD_eq_getElem?_getD, List.getElem?_set, List.length_set, Option.getD_some, Option.map_some, Option.isSome_none, List.append_nil, List.nil_append, List.map_nil, List.map_cons, reduceIte, Nat.reduceEqDiff, Nat.reduceLT, Bool.false_eq_true, Nat.reduceAdd, if_true, if_false, beq_tf, beq_ft, sealV, sealR, tupleA, finishA, resultsA, resultA, Int.toNat_natCast, retA, List.getElem?_toArray, List.getElem?_cons_zero, List.getElem?_cons_succ, Option.bind_some, AV.under, undersL, Bool.and_true, Bool.true_and, List.take_length, storeA, AV.cells, D.cells, settleL, settle, spliceL, AV.isCell, List.all_cons, List.all_nil, Bool.and_self, List.take_succ_cons, List.take_zero, List.drop_succ_cons, List.drop_nil, List.length_cons, List.length_nil, Nat.reduceLeDiff, and_self, nilCheckA, loadA, partA, fa0, fa1, fa2, size3, agg3, size9, agg9, rd, rd2, List.cons_append, List.nil_append, List.set_cons_zero, Nat.zero_add, List.drop_zero, Nat.le_refl, hl, Try.results39]
end Go.Proofs.Ytfdcjngclelnhaa
