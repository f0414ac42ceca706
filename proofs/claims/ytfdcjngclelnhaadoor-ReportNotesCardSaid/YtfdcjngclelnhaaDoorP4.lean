/- Layers of entries; a value as the program tells it. -/
import Derived.Test.YtfdcjngclelnhaaDoorP3
set_option linter.unusedSectionVars false
set_option linter.unusedSimpArgs false
set_option linter.unusedVariables false
set_option linter.unusedSimpArgs false
namespace Go.Proofs.YtfdcjngclelnhaaDoor
open Go Go.RowKit

/-- what was shown of a function in no heap becomes an entry -/
def Shown (prim : FuncId → Option Prim) (f : FuncId) (p : Prim) : Prop :=
  ∀ args h v h', p args h = some (v, h') → h' = h ∧ args.all AV.plain = true ∧ v.plain = true ∧ CallsTo Tryd.prog prim f args [] v []

def over (prim : FuncId → Option Prim) (f : FuncId) (p : Prim) : FuncId → Option Prim := fun g => if g = f then some p else prim g

theorem over_ok {prim : FuncId → Option Prim} {f : FuncId} {p : Prim} (hp : PrimsOk Tryd.prog prim) (h : Shown prim f p) : PrimsOk Tryd.prog (over prim f p) := by
  intro g q hq
  unfold over at hq
  split at hq
  · rename_i e; subst e; cases hq
    refine CallFOk.ofCall prog_ok hp fun args h0 v h' hs => ?_
    obtain ⟨h1, h2, h3, k0, h4⟩ := h args h0 v h' hs
    exact ⟨h1, h2, h3, k0, h4 k0 (Nat.le_refl _)⟩
  · exact hp g q hq

/-- a value: its type, its number, its text -/
structure Val where
  ty : Int
  n : Int
  s : List UInt8
deriving DecidableEq

def Val.d (v : Val) : D := .agg [.int .i64 v.ty, .int .i64 v.n, .str v.s]

def boolV (b : Bool) : Val := ⟨1, if b then 1 else 0, []⟩

def pBool : Prim := fun args h => match args with
  | [.dat (.bool b)] => some (.dat (boolV b).d, h)
  | _ => none
def pFmt : Prim := fun args h => match args with
  | [.dat (.bool b)] => some (.dat (.str (if b then [116, 114, 117, 101] else [102, 97, 108, 115, 101])), h)
  | _ => none
def pNull : Prim := fun args h => match args with
  | [] => some (.dat (Val.mk 0 0 []).d, h)
  | _ => none
def pInt : Prim := fun args h => match args with
  | [.dat (.int .i64 n)] => some (.dat (Val.mk 2 n []).d, h)
  | _ => none
def pText : Prim := fun args h => match args with
  | [.dat (.str s)] => some (.dat (Val.mk 3 0 s).d, h)
  | _ => none
def pQuoted : Prim := fun args h => match args with
  | [.dat (.str s)] => if s.length ≤ 20000000 then some (.dat (.str (quote s)), h) else none
  | _ => none

theorem bool40t : (fun k => call Tryd.prog primT (k + 60) 40 [.dat (.bool true)] []) = fun _ => some (.dat (boolV true).d, []) := by kernel_rfl
theorem bool40f : (fun k => call Tryd.prog primT (k + 60) 40 [.dat (.bool false)] []) = fun _ => some (.dat (boolV false).d, []) := by kernel_rfl
theorem bool35t : (fun k => call Tryd.prog primT (k + 60) 35 [.dat (.bool true)] []) = fun _ => some (.dat (boolV true).d, []) := by kernel_rfl
theorem bool35f : (fun k => call Tryd.prog primT (k + 60) 35 [.dat (.bool false)] []) = fun _ => some (.dat (boolV false).d, []) := by kernel_rfl
theorem fmt_t : (fun k => call Tryd.prog primT (k + 60) 31 [.dat (.bool true)] []) = fun _ => some (.dat (.str [116, 114, 117, 101]), []) := by kernel_rfl
theorem fmt_f : (fun k => call Tryd.prog primT (k + 60) 31 [.dat (.bool false)] []) = fun _ => some (.dat (.str [102, 97, 108, 115, 101]), []) := by kernel_rfl
theorem null39 : (fun k => call Tryd.prog primT (k + 60) 39 [] []) = fun _ => some (.dat (Val.mk 0 0 []).d, []) := by kernel_rfl
theorem int58 : (fun k n => call Tryd.prog primT (k + 60) 58 [.dat (.int .i64 n)] []) = fun _ n => some (.dat (Val.mk 2 n []).d, []) := by kernel_rfl
theorem text53 : (fun k s => call Tryd.prog primT (k + 60) 53 [.dat (.str s)] []) = fun _ s => some (.dat (Val.mk 3 0 s).d, []) := by kernel_rfl
theorem alive_calls : CallsTo Tryd.prog primT 7 [] [] (.dat (.bool true)) [] := CallsTo.of 3000 fun k => congrFun alive23 k

def pAlive : Prim := fun args h => match args with
  | [] => some (.dat (.bool true), h)
  | _ => none

/-- the walks below step by step: each entry stands on those before -/
theorem CallsTo.layer {prim : FuncId → Option Prim} {f : FuncId} {args : List AV} {v : AV} {P : Program} (h : ∀ k, call P prim (k + 60) f args [] = some (v, [])) : CallsTo P prim f args [] v [] := CallsTo.of 60 h

def primA : FuncId → Option Prim := fun g =>
  if g = 40 then some pBool else if g = 35 then some pBool else if g = 31 then some pFmt else if g = 39 then some pNull else if g = 58 then some pInt else if g = 53 then some pText else if g = 34 then some pQuoted else if g = 7 then some pAlive else primT g

theorem primsA_ok : PrimsOk Tryd.prog primA := by
  have one : ∀ f p, Shown primT f p → CallFOk Tryd.prog f p := fun f p h => over_ok prims_ok h f p (by simp [over])
  intro g q hq
  unfold primA at hq
  split at hq
  · rename_i e; subst e; cases hq
    refine one _ _ fun args h v h' hs => ?_
    unfold pBool at hs
    split at hs
    · cases hs
      rename_i b
      exact ⟨rfl, rfl, rfl, CallsTo.layer fun k => match b with | false => congrFun bool40f k | true => congrFun bool40t k⟩
    · cases hs
  split at hq
  · rename_i e; subst e; cases hq
    refine one _ _ fun args h v h' hs => ?_
    unfold pBool at hs
    split at hs
    · cases hs
      rename_i b
      exact ⟨rfl, rfl, rfl, CallsTo.layer fun k => match b with | false => congrFun bool35f k | true => congrFun bool35t k⟩
    · cases hs
  split at hq
  · rename_i e; subst e; cases hq
    refine one _ _ fun args h v h' hs => ?_
    unfold pFmt at hs
    split at hs
    · cases hs
      rename_i b
      exact ⟨rfl, rfl, rfl, CallsTo.layer fun k => match b with | false => congrFun fmt_f k | true => congrFun fmt_t k⟩
    · cases hs
  split at hq
  · rename_i e; subst e; cases hq
    refine one _ _ fun args h v h' hs => ?_
    unfold pNull at hs
    split at hs
    · cases hs
      exact ⟨rfl, rfl, rfl, CallsTo.layer fun k => congrFun null39 k⟩
    · cases hs
  split at hq
  · rename_i e; subst e; cases hq
    refine one _ _ fun args h v h' hs => ?_
    unfold pInt at hs
    split at hs
    · cases hs
      exact ⟨rfl, rfl, rfl, CallsTo.layer fun k => congrFun (congrFun int58 k) _⟩
    · cases hs
  split at hq
  · rename_i e; subst e; cases hq
    refine one _ _ fun args h v h' hs => ?_
    unfold pText at hs
    split at hs
    · cases hs
      exact ⟨rfl, rfl, rfl, CallsTo.layer fun k => congrFun (congrFun text53 k) _⟩
    · cases hs
  split at hq
  · rename_i e; subst e; cases hq
    refine one _ _ fun args h v h' hs => ?_
    unfold pQuoted at hs
    split at hs
    · split at hs
      · cases hs
        exact ⟨rfl, rfl, rfl, quoted_calls _ ‹_›⟩
      · cases hs
    · cases hs
  split at hq
  · rename_i e; subst e; cases hq
    refine one _ _ fun args h v h' hs => ?_
    unfold pAlive at hs
    split at hs
    · cases hs
      exact ⟨rfl, rfl, rfl, alive_calls⟩
    · cases hs
  · exact prims_ok g q hq

/- a value -/

theorem fv0_all : (fun (i o : Nat) => fieldAddrA Tryd.prog 26 (.ptr (some (i, o))) 0) = fun i o => some (.ptr (some (i, o))) := by kernel_rfl
theorem fv1_all : (fun (i o : Nat) => fieldAddrA Tryd.prog 26 (.ptr (some (i, o))) 1) = fun i o => some (.ptr (some (i, o + 1))) := by kernel_rfl
theorem fv2_all : (fun (i o : Nat) => fieldAddrA Tryd.prog 26 (.ptr (some (i, o))) 2) = fun i o => some (.ptr (some (i, o + 2))) := by kernel_rfl
theorem fv0 (i o : Nat) : fieldAddrA Tryd.prog 26 (.ptr (some (i, o))) 0 = some (.ptr (some (i, o))) := congrFun (congrFun fv0_all i) o
theorem fv1 (i o : Nat) : fieldAddrA Tryd.prog 26 (.ptr (some (i, o))) 1 = some (.ptr (some (i, o + 1))) := congrFun (congrFun fv1_all i) o
theorem fv2 (i o : Nat) : fieldAddrA Tryd.prog 26 (.ptr (some (i, o))) 2 = some (.ptr (some (i, o + 2))) := congrFun (congrFun fv2_all i) o

/-- two values are set one against the other -/
theorem eq26 (a b : Val) : eqA Tryd.prog 26 (.dat a.d) (.dat b.d) = some (decide (a = b)) := by
  have key : (fun (t n t' n' : Int) (s s' : List UInt8) => eqA Tryd.prog 26 (.dat (Val.mk t n s).d) (.dat (Val.mk t' n' s').d)) = fun t n t' n' s s' => (match t == t' with | true => (match n == n' with | true => (match s == s' with | true => some true | false => some false) | false => some false) | false => some false) := by kernel_rfl
  have := congrFun (congrFun (congrFun (congrFun (congrFun (congrFun key a.ty) a.n) b.ty) b.n) a.s) b.s
  refine Eq.trans this ?_
  obtain ⟨t, n, s⟩ := a
  obtain ⟨t', n', s'⟩ := b
  show (match t == t' with | true => (match n == n' with | true => (match s == s' with | true => some true | false => some false) | false => some false) | false => some false) = _
  by_cases h1 : t = t'
  · rw [beq_iff_eq.2 h1]
    by_cases h2 : n = n'
    · rw [beq_iff_eq.2 h2]
      by_cases h3 : s = s'
      · rw [beq_iff_eq.2 h3]; simp [h1, h2, h3]
      · rw [beq_eq_false_iff_ne.2 h3]; simp [h1, h2, h3]
    · rw [beq_eq_false_iff_ne.2 h2]; simp [h1, h2]
  · rw [beq_eq_false_iff_ne.2 h1]; simp [h1]

theorem true_calls (v : Val) : CallsTo Tryd.prog primA 32 [.dat v.d] [] (.dat (.bool (decide (v = boolV true)))) [] := by
  have hb : ∀ k h, call Tryd.prog primA k 40 [.dat (.bool true)] h = some (.dat (boolV true).d, h) := fun k h => rfl
  have he := eq26 v (boolV true)
  refine CallsTo.body Tryd.func32 rfl rfl (Nat.le_of_ble_eq_true rfl) fun ts hl hts => ?_
  rw [Tryd.ntmps32] at hl
  have h0 := hts 0 _ rfl
  simp only [Val.d] at h0 he hb
  refine Goes.seq ?_
  apply Goes.region 0
  · intro k _
    simp only [regionT, oneOp, wantedA, stepOp, putA, keep, evalX, evalL, evalParts, cstV, cst1, binA, intOp, strOp, unA, callA, builtinA, lenA, elems, minMaxA, mm2, indexA, sliceA, boundA, Tryd.underlying3, Tryd.underlying9, Tryd.underlying5, Tryd.underlying4, List.toList_toArray, List.getD_eq_getElem?_getD, List.getElem?_set, List.length_set, Option.getD_some, Option.map_some, Option.isSome_none, List.append_nil, List.nil_append, List.map_nil, List.map_cons, reduceIte, Nat.reduceEqDiff, Nat.reduceLT, Bool.false_eq_true, Nat.reduceAdd, if_true, if_false, beq_tf, beq_ft, sealV, sealR, tupleA, finishA, resultsA, resultA, Int.toNat_natCast, retA, List.getElem?_toArray, List.getElem?_cons_zero, List.getElem?_cons_succ, Option.bind_some, AV.under, undersL, Bool.and_true, Bool.true_and, List.take_length, nilNil, constX, Bool.true_or, Bool.or_true, Bool.or_false, Bool.false_or, Bool.not_true, Bool.not_false, storeA, AV.cells, D.cells, settleL, settle, spliceL, AV.isCell, List.all_cons, List.all_nil, Bool.and_self, List.take_succ_cons, List.take_zero, List.drop_succ_cons, List.drop_nil, List.length_cons, List.length_nil, Nat.reduceLeDiff, and_self, nilCheckA, loadA, partA, size3, agg3, size9, agg9, List.cons_append, List.nil_append, List.set_cons_zero, Nat.zero_add, List.drop_zero, Nat.le_refl, newVarA, allocObj, sealT, mkAgg, allDat, appendA, moreA, fitsD, D.flat, sized, List.map_append, List.isEmpty_cons, List.isEmpty_nil, List.singleton_append, List.concat_eq_append, List.set_cons_succ, Option.toList_some, List.getElem?_cons_succ, Option.map_some, Nat.reduceMul, Nat.reduceAdd, Nat.reducePow, List.length_singleton, List.all_cons, List.all_nil, Bool.and_true, Bool.and_self, hl, h0, List.map_cons, List.map_nil] <;> rfl
  refine Goes.seq ?_
  apply Goes.draw 0
  · intro k hk
    simp (decide := true) only [regionT, oneOp, wantedA, stepOp, putA, keep, evalX, evalL, evalParts, cstV, cst1, binA, intOp, strOp, unA, callA, builtinA, lenA, elems, minMaxA, mm2, indexA, sliceA, boundA, Tryd.underlying3, Tryd.underlying9, Tryd.underlying5, Tryd.underlying4, List.toList_toArray, List.getD_eq_getElem?_getD, List.getElem?_set, List.length_set, Option.getD_some, Option.map_some, Option.isSome_none, List.append_nil, List.nil_append, List.map_nil, List.map_cons, reduceIte, Nat.reduceEqDiff, Nat.reduceLT, Bool.false_eq_true, Nat.reduceAdd, if_true, if_false, beq_tf, beq_ft, sealV, sealR, tupleA, finishA, resultsA, resultA, Int.toNat_natCast, retA, List.getElem?_toArray, List.getElem?_cons_zero, List.getElem?_cons_succ, Option.bind_some, AV.under, undersL, Bool.and_true, Bool.true_and, List.take_length, nilNil, constX, Bool.true_or, Bool.or_true, Bool.or_false, Bool.false_or, Bool.not_true, Bool.not_false, regionDraw, regionD, doneOp, footOf, footA, placeOf, nextAt, writesOf, makesBox, onlyReads, restrictA, holesA, setIds, countBoxes, AV.ids, idsL, List.length_append, List.length_cons, List.length_nil, List.length_replicate, List.replicate, List.headD_cons, List.tail_cons, Option.toList_none, List.nil_append, List.contains_nil, List.contains_cons, Bool.or_true, Bool.true_or, Bool.or_false, Bool.false_or, Option.isNone_some, Option.isNone_none, Bool.and_false, Bool.false_and, nilCheckA, loadA, partA, Nat.reduceBEq, beq_self_eq_true, List.drop_zero, Op.operands, Call.operands, Array.toList_append, reachA, Nat.reduceMul, List.length_map, Nat.zero_add, Nat.add_zero, List.getElem?_nil, List.set_cons_zero, and_self, and_true, true_and, List.cons_append, List.append_assoc, storeA, AV.cells, D.cells, settleL, settle, spliceL, AV.isCell, List.all_cons, List.all_nil, Bool.and_self, List.take_succ_cons, List.take_zero, List.drop_succ_cons, List.drop_nil, List.length_cons, List.length_nil, Nat.reduceLeDiff, and_self, nilCheckA, loadA, partA, size3, agg3, size9, agg9, List.cons_append, List.nil_append, List.set_cons_zero, Nat.zero_add, List.drop_zero, Nat.le_refl, mkAgg, allDat, hl, h0, size26, agg26, hb, he]
    rfl
  apply Goes.ret
  refine ⟨.inr rfl, ?_⟩
  simp only [regionT, oneOp, wantedA, stepOp, putA, keep, evalX, evalL, evalParts, cstV, cst1, binA, intOp, strOp, unA, callA, builtinA, lenA, elems, minMaxA, mm2, indexA, sliceA, boundA, Tryd.underlying3, Tryd.underlying9, Tryd.underlying5, Tryd.underlying4, List.toList_toArray, List.getD_eq_getElem?_getD, List.getElem?_set, List.length_set, Option.getD_some, Option.map_some, Option.isSome_none, List.append_nil, List.nil_append, List.map_nil, List.map_cons, reduceIte, Nat.reduceEqDiff, Nat.reduceLT, Bool.false_eq_true, Nat.reduceAdd, if_true, if_false, beq_tf, beq_ft, sealV, sealR, tupleA, finishA, resultsA, resultA, Int.toNat_natCast, retA, List.getElem?_toArray, List.getElem?_cons_zero, List.getElem?_cons_succ, Option.bind_some, AV.under, undersL, Bool.and_true, Bool.true_and, List.take_length, nilNil, constX, Bool.true_or, Bool.or_true, Bool.or_false, Bool.false_or, Bool.not_true, Bool.not_false, hl, Tryd.results32] <;> rfl

end Go.Proofs.YtfdcjngclelnhaaDoor
