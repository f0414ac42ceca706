/- The seat's own: which functions are the model's, which types are no free boxes, and words for data. -/
import Derived.Test.YtbplgdgafmcinaaGreatDoorMA
import Derived.Test.YtbplgdgafmcinaaGreatDoorProg
import Derived.KernelRfl
set_option linter.unusedSectionVars false
set_option linter.unusedSimpArgs false
set_option linter.unusedVariables false
namespace Go.Proofs.YtbplgdgafmcinaaGreatDoor
open Go Go.RowKit

def leaveT : FuncId → Nat := fun f => match f with
  | 50 => 70
  | 157 => 3
  | 158 => 40
  | 163 => 5
  | _ => 0

instance theMode : Inhabited ModeT := ⟨⟨fun t => !(t == 5 || t == 262 || t == 264), fun f => [7, 9, 10, 16, 17, 18, 22, 23, 24, 29, 39, 41, 45, 46, 47, 84, 85, 92, 106, 123, 125, 130, 145, 149, 150, 157, 158, 163, 165, 176, 183, 187, 196, 200, 202, 210, 223, 231, 232, 233, 250, 330].contains f, fun f => [29, 210].contains f, leaveT⟩⟩

def primT : FuncId → Option Prim := fun f => match f with
  | 341 => some primIndexByte
  | 363 => some primCount
  | 280 => some primSame
  | _ => none

theorem prims_ok : PrimsOk Tryz.prog primT := by
  intro f p h
  unfold primT at h
  split at h
  · cases h; exact primIndexByte_ok Tryz.func341 rfl rfl (by kernel_rfl) (by kernel_rfl)
  · cases h; exact primCount_ok Tryz.func363 rfl rfl (by kernel_rfl) (by kernel_rfl)
  · cases h; exact primSame_ok Tryz.func280 rfl rfl (by kernel_rfl) (by kernel_rfl)
  · exact nomatch h

theorem prog_ok : ProgOk Tryz.prog := ⟨by kernel_rfl, by kernel_rfl⟩

def di (n : Nat) : D := .int .i64 (Int.ofNat n)
def dj (n : Nat) : D := .int .i64 (Int.negSucc n)
def bs : List Nat → List UInt8
  | [] => []
  | b :: r => UInt8.ofNat b :: bs r
def ds (l : List Nat) : D := .str (bs l)
end Go.Proofs.YtbplgdgafmcinaaGreatDoor
