/- The seat's own: which functions are the model's, which types are no free boxes, and words for data. -/
import Derived.Test.YtcbcmdjakoobmaaGreatDoorMA
import Derived.Test.YtcbcmdjakoobmaaGreatDoorProg
import Derived.KernelRfl
set_option linter.unusedSectionVars false
set_option linter.unusedSimpArgs false
set_option linter.unusedVariables false
namespace Go.Proofs.YtcbcmdjakoobmaaGreatDoor
open Go Go.RowKit

instance theMode : Inhabited ModeT := ⟨⟨fun t => !(t == 5 || t == 112 || t == 114), fun f => [4, 8, 9, 10, 12, 13, 24, 26, 42, 46, 47, 68, 69, 76, 89, 93, 95, 110, 111, 113, 118, 134, 141, 153, 160, 199, 200, 204, 205, 206, 233].contains f, fun _ => false⟩⟩

def primT : FuncId → Option Prim := fun f => match f with
  | 244 => some primIndexByte
  | 267 => some primCount
  | 176 => some primSame
  | _ => none

theorem prims_ok : PrimsOk Tryz.prog primT := by
  intro f p h
  unfold primT at h
  split at h
  · cases h; exact primIndexByte_ok Tryz.func244 rfl rfl (by kernel_rfl) (by kernel_rfl)
  · cases h; exact primCount_ok Tryz.func267 rfl rfl (by kernel_rfl) (by kernel_rfl)
  · cases h; exact primSame_ok Tryz.func176 rfl rfl (by kernel_rfl) (by kernel_rfl)
  · exact nomatch h

theorem prog_ok : ProgOk Tryz.prog := ⟨by kernel_rfl, by kernel_rfl⟩

def di (n : Nat) : D := .int .i64 (Int.ofNat n)
def dj (n : Nat) : D := .int .i64 (Int.negSucc n)
def bs : List Nat → List UInt8
  | [] => []
  | b :: r => UInt8.ofNat b :: bs r
def ds (l : List Nat) : D := .str (bs l)
end Go.Proofs.YtcbcmdjakoobmaaGreatDoor
