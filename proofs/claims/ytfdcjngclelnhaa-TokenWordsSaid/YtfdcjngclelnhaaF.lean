/- Entries of the model's own, and the step from a run of the evaluator to a call that returns true. -/
import Derived.Test.YtfdcjngclelnhaaE6
import Derived.Lib.Bytealg
set_option linter.unusedSimpArgs false
namespace Go.Proofs.Ytfdcjngclelnhaa
open Go Go.RowKit

def idxByte (c : UInt8) : List UInt8 → Nat → Int
  | [], _ => -1
  | b :: l, i => if b == c then (i : Int) else idxByte c l (i + 1)

theorem idxByte_eq (c : UInt8) : ∀ (l : List UInt8) (i : Nat), idxByte c l i = if Lib.indexByte l c = -1 then -1 else Lib.indexByte l c + i
  | [], i => by simp [idxByte, Lib.indexByte]
  | b :: l, i => by
    have hge := Lib.indexByte_ge l c
    simp only [idxByte, Lib.indexByte]
    split
    · simp
    · rw [idxByte_eq c l (i + 1)]
      by_cases h : Lib.indexByte l c = -1
      · simp [h]
      · have h2 : (Lib.indexByte l c == -1) = false := by simpa using h
        rw [if_neg h, h2]
        simp only [Bool.false_eq_true, if_false]
        rw [if_neg (by omega)]
        omega

def primIndexByte : Prim := fun args h => match args with
  | [.dat (.str s), .dat (.int .u8 c)] => some (.dat (.int .i64 (idxByte c.toNat.toUInt8 s 0)), h)
  | _ => none

def primCount : Prim := fun args h => match args with
  | [.dat (.str s), .dat (.int .u8 c)] => some (.dat (.int .i64 (s.count c.toNat.toUInt8)), h)
  | _ => none

def primSame : Prim := fun args h => match args with
  | [x] => some (x, h)
  | _ => none

section
variable {P : Program} {f : FuncId} {fn : Func}

theorem extern_ok {p : Prim} {e : Array Value → Sem Value} (hf : P.funcs[f]? = some fn) (hname : (fn.name == "runtime.NumGoroutine") = false) (hb : fn.body.isNone = true) (hn : Extern.findNext fn = none) (he : Extern.find fn = some e)
    (h : ∀ args h v h', p args h = some (v, h') → h' = h ∧ ∀ (K : KW) (w : World) (vargs : Array Value), DenL K args vargs.toList → ∃ u, (e vargs).run P w = .ok u w ∧ Den K v u) : CallFOk P f p := by
  intro args hp v h' hs
  obtain ⟨rfl, h2⟩ := h args hp v h' hs
  refine ⟨Nat.le_refl _, fun K HF V w vargs hargs hk => ?_⟩
  obtain ⟨u, h3, h4⟩ := h2 K w vargs hargs
  rw [run_callFunc_extern hf hname hb hn he, h3, Result.andThen_ok]
  exact ⟨K, Kext.refl K, h4, hk.start⟩

theorem primIndexByte_ok (hf : P.funcs[f]? = some fn) (hname : (fn.name == "runtime.NumGoroutine") = false) (hb : fn.body.isNone = true) (hn : Extern.findNext fn = none) (he : Extern.find fn = some Extern.BytealgIndexByte.indexByte) : CallFOk P f primIndexByte := by
  refine extern_ok hf hname hb hn he fun args h v h' hs => ?_
  unfold primIndexByte at hs
  split at hs
  · rename_i s c
    cases hs
    refine ⟨rfl, fun K w vargs hargs => ?_⟩
    obtain ⟨a, b, rfl, ha, hb'⟩ := denL_two hargs
    cases ha with | dat ha => ?_
    cases hb' with | dat hb' => ?_
    cases ha; cases hb'
    refine ⟨_, Lib.run_indexByteString (P := P) ⟨s.toArray⟩ c w, ?_⟩
    have : Lib.indexByte s c.toNat.toUInt8 = idxByte c.toNat.toUInt8 s 0 := by
      rw [idxByte_eq]
      split
      · rename_i h; exact h
      · simp
    rw [← this]
    exact .dat (.int _ _)
  · exact nomatch hs

theorem primCount_ok (hf : P.funcs[f]? = some fn) (hname : (fn.name == "runtime.NumGoroutine") = false) (hb : fn.body.isNone = true) (hn : Extern.findNext fn = none) (he : Extern.find fn = some Extern.BytealgCount.count) : CallFOk P f primCount := by
  refine extern_ok hf hname hb hn he fun args h v h' hs => ?_
  unfold primCount at hs
  split at hs
  · rename_i s c
    cases hs
    refine ⟨rfl, fun K w vargs hargs => ?_⟩
    obtain ⟨a, b, rfl, ha, hb'⟩ := denL_two hargs
    cases ha with | dat ha => ?_
    cases hb' with | dat hb' => ?_
    cases ha; cases hb'
    exact ⟨_, Lib.run_countString (P := P) ⟨s.toArray⟩ c w, .dat (.int _ _)⟩
  · exact nomatch hs

theorem primSame_ok (hf : P.funcs[f]? = some fn) (hname : (fn.name == "runtime.NumGoroutine") = false) (hb : fn.body.isNone = true) (hn : Extern.findNext fn = none) (he : Extern.find fn = some Extern.AbiNoEscape.same) : CallFOk P f primSame := by
  refine extern_ok hf hname hb hn he fun args h v h' hs => ?_
  unfold primSame at hs
  split at hs
  · cases hs
    refine ⟨rfl, fun K w vargs hargs => ?_⟩
    obtain ⟨a, rfl, ha⟩ := denL_one hargs
    exact ⟨a, rfl, ha⟩
  · exact nomatch hs

def K0 (W : World) : KW := { base := W, imm := W.cell?, blk := fun _ => none, key := fun _ => none }

theorem fit0 (W : World) : Fit (K0 W) [] (fun _ => none) (fun _ => True) W :=
  { ok := ⟨fun _ => none, { imm := fun _ _ h => h, below := Below.refl _ _, box := fun id e cs ver h => by simp [comb] at h, tip := fun id e n sz h => by simp [comb] at h, more := fun id e n sz h => by simp [comb] at h, fresh := fun id _ => ⟨by simp [comb], rfl, fun _ => rfl, fun _ _ => rfl⟩, ver := fun id e cs ver h => by simp [comb] at h, own := by intro b k h; cases h }⟩
    hf := by intro i o h; cases h
    vlen := fun _ _ => trivial }

/-- a law's call -/
theorem law_calls (hP : ProgOk P) {prim : FuncId → Option Prim} (hprim : PrimsOk P prim) {body : Code} (hf : P.funcs[f]? = some fn) (hb : fn.body = some body) {k : Nat} {args : List AV} {vargs : Array Value} {h' : Heap} {W : World} (hargs : DenL (K0 W) args vargs.toList)
    (hc : call P prim k f args [] = some (.dat (.bool true), h')) : Calls P f vargs W fun e W' => e = .returned (.bool true) ∧ Below W.heap.size W W' := by
  obtain ⟨_, h2⟩ := call_ok hP hprim k f args [] _ _ hc
  have h3 := h2 (K0 W) (fun _ => none) (fun _ => True) W vargs hargs (fit0 W)
  have hname : (fn.name == "runtime.NumGoroutine") = false := by
    have := List.all_eq_true.1 hP.named fn (Array.mem_toList_iff.2 (Array.mem_of_getElem? hf))
    simpa [hb] using this
  have hcf : (callFunc f vargs).run P W = .ok (.enter f vargs) W := by
    simp only [callFunc, Sem.run_bind, run_program, Result.andThen_ok, hf, hname, hb, Option.isNone_some, Bool.false_eq_true, if_false, Sem.run_pure]
  rw [hcf] at h3
  refine Calls.mono h3 fun e W' hr => ?_
  cases e with
  | returned v =>
    obtain ⟨K', e1, e2, e3⟩ := hr
    cases e2 with | dat e2 => ?_
    cases e2
    obtain ⟨ow, hok⟩ := e3.ok
    have hbel := hok.below
    rw [e1.base] at hbel
    exact ⟨rfl, hbel⟩
  | panicked c => exact hr.elim
  | outgrown => exact hr.elim

end
end Go.Proofs.Ytfdcjngclelnhaa
