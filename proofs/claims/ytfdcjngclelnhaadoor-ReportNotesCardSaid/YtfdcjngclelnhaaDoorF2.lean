/- A contract of the library's, proved for every world, as an entry. -/
import Derived.Test.YtfdcjngclelnhaaDoorF
import Derived.Sort.Grow
set_option linter.unusedSectionVars false
set_option linter.unusedSimpArgs false
set_option linter.unusedVariables false
set_option linter.unusedSimpArgs false
namespace Go.Proofs.YtfdcjngclelnhaaDoor
open Go Go.RowKit
variable [BaseT]

theorem below_grow {B : Nat} {a w : World} (h : Below B a w) (hB : B ≤ w.heap.size) (os : Array Obj) : Below B a (Sort.grow w os) :=
  h.trans ⟨rfl, rfl, rfl, by simp [Sort.grow], fun k hk => by
    show (w.heap ++ os)[k]? = _
    rw [Array.getElem?_append_left (by omega)]⟩

theorem Below.cell_le {w w' : World} (h : Below w.heap.size w w') {a : Addr} {c : Value} (hc : w.cell? a = some c) : w'.cell? a = some c := by
  obtain ⟨vs, e, f, hb, _, _⟩ := cell_block hc
  have hlt := lt_of_heap hb
  have := h.block a.block hlt
  unfold World.cell? at hc ⊢
  rw [this]
  exact hc

theorem CallFOk.ofCalls {P : Program} {f : FuncId} {fn : Func} {body : Code} (hf : P.funcs[f]? = some fn) (hb : fn.body = some body) (hname : (fn.name == "runtime.NumGoroutine") = false) {p : Prim}
    (h : ∀ args h v h', p args h = some (v, h') → h' = h ∧ ∀ (K : KW) (w : World) (vargs : Array Value), BaseT.ok w → (∀ a c, K.imm a = some c → w.cell? a = some c) → DenL K args vargs.toList →
      Calls P f vargs w fun e w' => ∃ u, e = .returned u ∧ Den K v u ∧ Below w.heap.size w w') : CallFOk P f p := by
  intro args hp v h' hs
  obtain ⟨rfl, hc⟩ := h args hp v h' hs
  refine ⟨Nat.le_refl _, fun K HF V w vargs hargs hk => ?_⟩
  obtain ⟨ow, hok⟩ := hk.ok
  have hcf : (callFunc f vargs).run P w = .ok (.enter f vargs) w := by
    simp only [callFunc, Sem.run_bind, run_program, Result.andThen_ok, hf, hname, hb, Option.isNone_some, Bool.false_eq_true, if_false, Sem.run_pure]
  rw [hcf]
  show Calls P f vargs w _
  refine Calls.mono (hc K w vargs (BaseT.keep _ _ K.tab hok.below) hok.imm hargs) fun e w' hr => ?_
  obtain ⟨u, rfl, hd, hbel⟩ := hr
  refine ⟨K, Kext.refl K, hd, ⟨ow, OkW.virgin (hok.world (hok.below.trans ⟨hbel.os, hbel.tape, hbel.output, hbel.size, fun i hi => hbel.block i (Nat.lt_of_lt_of_le hi hok.base_le)⟩) hbel.size (fun b k hb => hbel.block b (hok.own b k hb)) fun a c ha => Below.cell_le hbel (hok.imm a c ha)) fun i hi => hi.1⟩, hk.hf, fun i hi => ⟨hk.vlen i hi, (by intro e; cases e), Or.inr hi⟩⟩

end Go.Proofs.YtfdcjngclelnhaaDoor
