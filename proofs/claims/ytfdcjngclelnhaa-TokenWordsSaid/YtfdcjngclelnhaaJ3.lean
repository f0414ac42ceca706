/- The words of the language, and whether a name is one. -/
import Derived.Test.YtfdcjngclelnhaaJ2
set_option linter.unusedSimpArgs false
namespace Go.Proofs.Ytfdcjngclelnhaa
open Go Go.RowKit

/-- the words, as the document has them -/
def words : List (List UInt8) := [
  [97, 108, 108],
  [97, 110, 100],
  [97, 115],
  [98, 101, 103, 105, 110],
  [98, 101, 103, 105, 110, 115],
  [98, 101, 116, 119, 101, 101, 110],
  [98, 121],
  [99, 97, 108, 108],
  [99, 97, 115, 101],
  [99, 97, 116, 99, 104],
  [99, 111, 109, 109, 105, 116],
  [100, 101, 108, 101, 116, 101],
  [100, 101, 115, 99],
  [100, 105, 115, 116, 105, 110, 99, 116],
  [101, 108, 115, 101],
  [101, 110, 100],
  [101, 120, 99, 101, 112, 116],
  [101, 120, 105, 115, 116, 115],
  [102, 111, 114],
  [102, 114, 111, 109],
  [103, 114, 111, 117, 112],
  [104, 97, 118, 105, 110, 103],
  [104, 105, 100, 101],
  [105, 102],
  [105, 110],
  [105, 110, 112, 117, 116],
  [105, 110, 115, 101, 114, 116],
  [105, 110, 116],
  [105, 110, 116, 111],
  [105, 110, 116, 101, 114, 115, 101, 99, 116],
  [105, 115],
  [106, 111, 105, 110],
  [107, 101, 121],
  [108, 101, 102, 116],
  [108, 101, 118, 101, 108],
  [108, 101, 118, 101, 108, 115],
  [108, 105, 109, 105, 116],
  [110, 111, 116],
  [110, 117, 108, 108],
  [111, 110],
  [111, 114],
  [111, 114, 100, 101, 114],
  [112, 114, 105, 110, 99, 105, 112, 97, 108],
  [112, 114, 105, 110, 116],
  [112, 114, 111, 99],
  [114, 97, 105, 115, 101],
  [114, 111, 108, 108, 98, 97, 99, 107],
  [114, 111, 119, 115],
  [115, 101, 108, 101, 99, 116],
  [115, 101, 116],
  [116, 97, 98, 108, 101],
  [116, 101, 120, 116],
  [116, 104, 101, 110],
  [116, 114, 117, 101],
  [116, 114, 121],
  [102, 97, 108, 115, 101],
  [98, 111, 111, 108],
  [117, 110, 105, 111, 110],
  [117, 112, 100, 97, 116, 101],
  [118, 97, 108, 117, 101, 115],
  [118, 97, 114],
  [118, 105, 115, 105, 98, 108, 101],
  [119, 104, 101, 110],
  [119, 104, 101, 114, 101],
  [119, 104, 105, 108, 101],
  [99, 104, 97, 110, 110, 101, 108],
  [115, 107, 105, 112]]

theorem words_fun : (fun k => call Try.prog primT (k + 100) 10 [] []) = fun _ => some (.dat (.slice (words.map .str)), []) := by kernel_rfl

theorem words_calls : CallsTo Try.prog primT 10 [] [] (.dat (.slice (words.map .str))) [] := CallsTo.of 100 fun k => congrFun words_fun k

/-- a call came to true -/
def saysTrue : Option (AV × Heap) → Bool
  | some (.dat (.bool true), []) => true
  | _ => false

theorem saysTrue_eq {r : Option (AV × Heap)} (h : saysTrue r = true) : r = some (.dat (.bool true), []) := by
  unfold saysTrue at h
  split at h
  · rfl
  · exact nomatch h

theorem word_all : (fun k => words.all fun w => saysTrue (call Try.prog primT (k + 400) 11 [.dat (.str w)] [])) = fun _ => true := by kernel_rfl

theorem word_in {w : List UInt8} (h : w ∈ words) : CallsTo Try.prog primT 11 [.dat (.str w)] [] (.dat (.bool true)) [] :=
  CallsTo.of 400 fun k => saysTrue_eq (List.all_eq_true.1 (congrFun word_all k) w h)

section
variable {P : Program} {prim : FuncId → Option Prim} {Q : Ex → St → Prop}

/-- one test of a switch over a text fails -/
theorem Goes.other {n d x t : Nat} {o1 o2 : Oper} {ts : List AV} {h : Heap} {s : List UInt8} {c : ByteArray} {N : Nat}
    (h1 : o1.op = .binOp .eql 9 (.tmp t) (.const (.string c)) 9) (g1 : o1.guard = none) (d1 : o1.dst = some x) (h2 : o2.op = .assign (.tmp x)) (g2 : o2.guard = none) (d2 : o2.dst = some d)
    (hN : x < N ∧ d < N ∧ x ≠ t ∧ d ≠ t ∧ x ≠ 0 ∧ d ≠ 0) (hl : ts.length = N) (ht : ts[t]? = some (.dat (.str s))) (hne : (s == c.data.toList) = false)
    (hq : ∀ ts' : List AV, ts'.length = N → ts'[t]? = some (.dat (.str s)) → ts'[d]? = some (.dat (.bool false)) → Q .normal ⟨ts', h⟩) : Goes P prim (.region n #[o1, o2] false) ⟨ts, h⟩ Q := by
  obtain ⟨a1, a2, a3, a4, a5, a6⟩ := hN
  apply Goes.region 0
  · intro k _
    simp only [regionT, List.toList_toArray, oneOp, wantedA, g1, g2, h1, h2, d1, d2, stepOp, evalX, cstV, cst1, List.getD_eq_getElem?_getD, ht, Option.getD_some, binA, strOp, hne, keep, Option.map_some, putA, List.getElem?_set, if_true, hl, a1] <;> rfl
  · apply hq
    · simp only [List.length_set, hl]
    · simp only [List.getElem?_set, if_neg a3, if_neg a4, ht]
    · simp only [List.getElem?_set, if_true, List.length_set, hl, a2]
end

theorem word_out {w : List UInt8} (h : w ∉ words) : CallsTo Try.prog primT 11 [.dat (.str w)] [] (.dat (.bool false)) [] := by
  have hne : ∀ c : List UInt8, words.contains c = true → (w == c) = false := fun c hc => by
    rw [beq_eq_false_iff_ne]
    intro e
    exact h (e ▸ List.contains_iff_mem.1 hc)
  refine CallsTo.body Try.func11 rfl rfl (Nat.le_of_ble_eq_true rfl) fun ts hl hts => ?_
  rw [Try.ntmps11] at hl
  have h0 := hts 0 _ rfl
  clear hts
  refine Goes.mid (fun st => st.heap = [] ∧ st.tmps.length = 76 ∧ st.tmps[0]? = some (.dat (.str w))) ?_ ?_
  · apply Goes.region 0
    · intro k _
      simp only [regionT, oneOp, wantedA, stepOp, putA, keep, evalX, evalL, evalParts, cstV, cst1, binA, intOp, strOp, unA, callA, builtinA, lenA, elems, minMaxA, mm2, indexA, sliceA, boundA, Try.underlying3, Try.underlying9, Try.underlying5, Try.underlying4, List.toList_toArray, List.getD_eq_getElem?_getD, List.getElem?_set, List.length_set, Option.getD_some, Option.map_some, Option.isSome_none, List.append_nil, List.nil_append, List.map_nil, List.map_cons, reduceIte, Nat.reduceEqDiff, Nat.reduceLT, Bool.false_eq_true, Nat.reduceAdd, if_true, if_false, sealV, sealR, tupleA, finishA, resultsA, resultA, Int.toNat_natCast, retA, List.getElem?_toArray, List.getElem?_cons_zero, List.getElem?_cons_succ, Option.bind_some, AV.under, undersL, Bool.and_true, Bool.true_and, List.take_length, hl, h0] <;> rfl
    refine ⟨rfl, rfl, ?_, ?_⟩
    · simp only [regionT, oneOp, wantedA, stepOp, putA, keep, evalX, evalL, evalParts, cstV, cst1, binA, intOp, strOp, unA, callA, builtinA, lenA, elems, minMaxA, mm2, indexA, sliceA, boundA, Try.underlying3, Try.underlying9, Try.underlying5, Try.underlying4, List.toList_toArray, List.getD_eq_getElem?_getD, List.getElem?_set, List.length_set, Option.getD_some, Option.map_some, Option.isSome_none, List.append_nil, List.nil_append, List.map_nil, List.map_cons, reduceIte, Nat.reduceEqDiff, Nat.reduceLT, Bool.false_eq_true, Nat.reduceAdd, if_true, if_false, sealV, sealR, tupleA, finishA, resultsA, resultA, Int.toNat_natCast, retA, List.getElem?_toArray, List.getElem?_cons_zero, List.getElem?_cons_succ, Option.bind_some, AV.under, undersL, Bool.and_true, Bool.true_and, List.take_length, hl]
    · simp only [regionT, oneOp, wantedA, stepOp, putA, keep, evalX, evalL, evalParts, cstV, cst1, binA, intOp, strOp, unA, callA, builtinA, lenA, elems, minMaxA, mm2, indexA, sliceA, boundA, Try.underlying3, Try.underlying9, Try.underlying5, Try.underlying4, List.toList_toArray, List.getD_eq_getElem?_getD, List.getElem?_set, List.length_set, Option.getD_some, Option.map_some, Option.isSome_none, List.append_nil, List.nil_append, List.map_nil, List.map_cons, reduceIte, Nat.reduceEqDiff, Nat.reduceLT, Bool.false_eq_true, Nat.reduceAdd, if_true, if_false, sealV, sealR, tupleA, finishA, resultsA, resultA, Int.toNat_natCast, retA, List.getElem?_toArray, List.getElem?_cons_zero, List.getElem?_cons_succ, Option.bind_some, AV.under, undersL, Bool.and_true, Bool.true_and, List.take_length, hl, h0]
  clear hl h0 ts
  rintro ⟨ts, hh⟩ ⟨hhe, hl, h0⟩
  have hhe : hh = [] := hhe
  subst hhe
  clear hhe
  refine Goes.seq ?_
  refine Goes.mid (fun st => st.heap = [] ∧ st.tmps.length = 76 ∧ st.tmps[3]? = some (.dat (.str w))) ?_ ?_
  · apply Goes.region 0
    · intro k _
      simp only [regionT, oneOp, wantedA, stepOp, putA, keep, evalX, evalL, evalParts, cstV, cst1, binA, intOp, strOp, unA, callA, builtinA, lenA, elems, minMaxA, mm2, indexA, sliceA, boundA, Try.underlying3, Try.underlying9, Try.underlying5, Try.underlying4, List.toList_toArray, List.getD_eq_getElem?_getD, List.getElem?_set, List.length_set, Option.getD_some, Option.map_some, Option.isSome_none, List.append_nil, List.nil_append, List.map_nil, List.map_cons, reduceIte, Nat.reduceEqDiff, Nat.reduceLT, Bool.false_eq_true, Nat.reduceAdd, if_true, if_false, sealV, sealR, tupleA, finishA, resultsA, resultA, Int.toNat_natCast, retA, List.getElem?_toArray, List.getElem?_cons_zero, List.getElem?_cons_succ, Option.bind_some, AV.under, undersL, Bool.and_true, Bool.true_and, List.take_length, hl, h0] <;> rfl
    refine ⟨rfl, rfl, ?_, ?_⟩
    · simp only [regionT, oneOp, wantedA, stepOp, putA, keep, evalX, evalL, evalParts, cstV, cst1, binA, intOp, strOp, unA, callA, builtinA, lenA, elems, minMaxA, mm2, indexA, sliceA, boundA, Try.underlying3, Try.underlying9, Try.underlying5, Try.underlying4, List.toList_toArray, List.getD_eq_getElem?_getD, List.getElem?_set, List.length_set, Option.getD_some, Option.map_some, Option.isSome_none, List.append_nil, List.nil_append, List.map_nil, List.map_cons, reduceIte, Nat.reduceEqDiff, Nat.reduceLT, Bool.false_eq_true, Nat.reduceAdd, if_true, if_false, sealV, sealR, tupleA, finishA, resultsA, resultA, Int.toNat_natCast, retA, List.getElem?_toArray, List.getElem?_cons_zero, List.getElem?_cons_succ, Option.bind_some, AV.under, undersL, Bool.and_true, Bool.true_and, List.take_length, hl]
    · simp only [regionT, oneOp, wantedA, stepOp, putA, keep, evalX, evalL, evalParts, cstV, cst1, binA, intOp, strOp, unA, callA, builtinA, lenA, elems, minMaxA, mm2, indexA, sliceA, boundA, Try.underlying3, Try.underlying9, Try.underlying5, Try.underlying4, List.toList_toArray, List.getD_eq_getElem?_getD, List.getElem?_set, List.length_set, Option.getD_some, Option.map_some, Option.isSome_none, List.append_nil, List.nil_append, List.map_nil, List.map_cons, reduceIte, Nat.reduceEqDiff, Nat.reduceLT, Bool.false_eq_true, Nat.reduceAdd, if_true, if_false, sealV, sealR, tupleA, finishA, resultsA, resultA, Int.toNat_natCast, retA, List.getElem?_toArray, List.getElem?_cons_zero, List.getElem?_cons_succ, Option.bind_some, AV.under, undersL, Bool.and_true, Bool.true_and, List.take_length, hl, h0]
  clear hl h0 ts
  rintro ⟨ts, hh⟩ ⟨hhe, hl, ht⟩
  have hhe : hh = [] := hhe
  subst hhe
  clear hhe
  have hd : ts[3]? = some (.dat (.str w)) := ht
  apply Goes.block
  repeat (first
    | refine Goes.seq ?_
    | (refine Goes.other (N := 76) rfl rfl rfl rfl rfl rfl (by decide) hl ht (hne _ (by kernel_rfl)) fun ts hl ht hd => ?_)
    | (refine Goes.cond false (by simp only [evalX, List.getD_eq_getElem?_getD, hd, Option.getD_some]) ?_))
  apply Goes.skip
  refine Goes.seq ?_
  apply Goes.region 0
  · intro k _
    simp only [regionT, oneOp, wantedA, stepOp, putA, keep, evalX, evalL, evalParts, cstV, cst1, binA, intOp, strOp, unA, callA, builtinA, lenA, elems, minMaxA, mm2, indexA, sliceA, boundA, Try.underlying3, Try.underlying9, Try.underlying5, Try.underlying4, List.toList_toArray, List.getD_eq_getElem?_getD, List.getElem?_set, List.length_set, Option.getD_some, Option.map_some, Option.isSome_none, List.append_nil, List.nil_append, List.map_nil, List.map_cons, reduceIte, Nat.reduceEqDiff, Nat.reduceLT, Bool.false_eq_true, Nat.reduceAdd, if_true, if_false, sealV, sealR, tupleA, finishA, resultsA, resultA, Int.toNat_natCast, retA, List.getElem?_toArray, List.getElem?_cons_zero, List.getElem?_cons_succ, Option.bind_some, AV.under, undersL, Bool.and_true, Bool.true_and, List.take_length, hl] <;> rfl
  apply Goes.ret
  refine ⟨.inr rfl, ?_⟩
  simp only [regionT, oneOp, wantedA, stepOp, putA, keep, evalX, evalL, evalParts, cstV, cst1, binA, intOp, strOp, unA, callA, builtinA, lenA, elems, minMaxA, mm2, indexA, sliceA, boundA, Try.underlying3, Try.underlying9, Try.underlying5, Try.underlying4, List.toList_toArray, List.getD_eq_getElem?_getD, List.getElem?_set, List.length_set, Option.getD_some, Option.map_some, Option.isSome_none, List.append_nil, List.nil_append, List.map_nil, List.map_cons, reduceIte, Nat.reduceEqDiff, Nat.reduceLT, Bool.false_eq_true, Nat.reduceAdd, if_true, if_false, sealV, sealR, tupleA, finishA, resultsA, resultA, Int.toNat_natCast, retA, List.getElem?_toArray, List.getElem?_cons_zero, List.getElem?_cons_succ, Option.bind_some, AV.under, undersL, Bool.and_true, Bool.true_and, List.take_length, hl, Try.results11, List.take_nil, List.length_nil]

/-- is a name a word? -/
theorem word_calls (w : List UInt8) : CallsTo Try.prog primT 11 [.dat (.str w)] [] (.dat (.bool (words.contains w))) [] := by
  by_cases h : w ∈ words
  · rw [List.contains_iff_mem.2 h]
    exact word_in h
  · have : words.contains w = false := by
      cases hc : words.contains w with
      | false => rfl
      | true => exact absurd (List.contains_iff_mem.1 hc) h
    rw [this]
    exact word_out h

end Go.Proofs.Ytfdcjngclelnhaa
