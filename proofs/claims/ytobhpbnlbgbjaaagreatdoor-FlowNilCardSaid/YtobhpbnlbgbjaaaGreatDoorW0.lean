/- The seat's own: which functions are the model's, which types are no free boxes, and words for data. -/
import Derived.Test.YtobhpbnlbgbjaaaGreatDoorMA
import Derived.Test.YtobhpbnlbgbjaaaGreatDoorProg
import Derived.KernelRfl
set_option linter.unusedSectionVars false
set_option linter.unusedSimpArgs false
set_option linter.unusedVariables false
namespace Go.Proofs.YtobhpbnlbgbjaaaGreatDoor
open Go Go.RowKit

def leaveT : FuncId → Nat := fun f => match f with
  | 23 => 46
  | 84 => 5
  | 85 => 28
  | 181 => 3
  | _ => 0

instance theMode : Inhabited ModeT := ⟨⟨fun t => !(t == 5 || t == 227 || t == 229), fun f => [4, 7, 13, 14, 15, 17, 18, 19, 33, 35, 39, 40, 41, 63, 64, 71, 84, 85, 98, 100, 105, 120, 124, 125, 130, 147, 154, 167, 171, 173, 181, 183, 190, 191, 192, 209, 224, 266, 295].contains f, fun f => [130].contains f, leaveT⟩⟩

def primT : FuncId → Option Prim := fun f => match f with
  | 306 => some primIndexByte
  | 328 => some primCount
  | 242 => some primSame
  | _ => none

theorem prims_ok : PrimsOk Tryz.prog primT := by
  intro f p h
  unfold primT at h
  split at h
  · cases h; exact primIndexByte_ok Tryz.func306 rfl rfl (by kernel_rfl) (by kernel_rfl)
  · cases h; exact primCount_ok Tryz.func328 rfl rfl (by kernel_rfl) (by kernel_rfl)
  · cases h; exact primSame_ok Tryz.func242 rfl rfl (by kernel_rfl) (by kernel_rfl)
  · exact nomatch h

theorem prog_ok : ProgOk Tryz.prog := ⟨by kernel_rfl, by kernel_rfl⟩

def di (n : Nat) : D := .int .i64 (Int.ofNat n)
def dj (n : Nat) : D := .int .i64 (Int.negSucc n)
def bs : List Nat → List UInt8
  | [] => []
  | b :: r => UInt8.ofNat b :: bs r
def ds (l : List Nat) : D := .str (bs l)
end Go.Proofs.YtobhpbnlbgbjaaaGreatDoor
