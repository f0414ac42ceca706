/- The seat's own: which functions are the model's, and what the evaluator may take as given. -/
import Derived.Test.YtfdcjngclelnhaaF
import Derived.Test.YtfdcjngclelnhaaProg
import Derived.KernelRfl
namespace Go.Proofs.Ytfdcjngclelnhaa
open Go Go.RowKit

def primT : FuncId → Option Prim := fun f =>
  if f = 80 then some primIndexByte else if f = 31 then some primCount else if f = 101 then some primSame else none

theorem prims_ok : PrimsOk Try.prog primT := by
  intro f p h
  unfold primT at h
  split at h
  · rename_i e; subst e; cases h
    exact primIndexByte_ok Try.func80 rfl rfl (by kernel_rfl) (by kernel_rfl)
  split at h
  · rename_i e; subst e; cases h
    exact primCount_ok Try.func31 rfl rfl (by kernel_rfl) (by kernel_rfl)
  split at h
  · rename_i e; subst e; cases h
    exact primSame_ok Try.func101 rfl rfl (by kernel_rfl) (by kernel_rfl)
  · exact nomatch h

theorem prog_ok : ProgOk Try.prog := ⟨by kernel_rfl, by kernel_rfl⟩

theorem alive5 : (fun k => call Try.prog primT (k + 3000) 7 [] []) = fun _ => some (.dat (.bool true), []) := by kernel_rfl

end Go.Proofs.Ytfdcjngclelnhaa
