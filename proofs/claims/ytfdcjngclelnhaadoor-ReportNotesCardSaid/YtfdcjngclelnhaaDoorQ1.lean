/- What the three rows of the report's laws share: the laid variables, a start that meets them, and an argument that is a row of values. -/
import Derived.Test.YtfdcjngclelnhaaDoorP0
import Derived.Test.YtfdcjngclelnhaaDoorP6
import Derived.Test.YtfdcjngclelnhaaDoorQ0
import Derived.Test.YtfdcjngclelnhaaDoorRows
import Derived.WalkKit
import Derived.ProofKit
import Derived.OpenShut
import Derived.ChangeOld
import Derived.Below
import Derived.Carry
import Derived.SizedLaws
import Derived.LaidMore
import Derived.Lib.LaidTab
import Derived.Stop.Joined
import Derived.Stop.LaidErr
set_option linter.unusedSectionVars false
set_option linter.unusedSimpArgs false
set_option linter.unusedVariables false
namespace Go.Proofs.YtfdcjngclelnhaaDoor
open Go Go.ChangeShapes Go.WideShapes Go.ChangeAt Go.RowKit
set_option linter.unusedVariables false

theorem own : ownKnob Tryd.prog.godebug = none := by kernel_rfl
theorem gTab : Tryd.prog.globalNamed "internal/strconv.uint64pow10" = some 1 := by kernel_rfl
theorem tTab : (Tryd.prog.globals[1]?).map (·.type) = some 114 := by kernel_rfl
theorem uTab : Tryd.prog.underlying 114 = some (.array 20 101) := by kernel_rfl
theorem uElem : Tryd.prog.underlying 101 = some (.int .u64) := by kernel_rfl
theorem cElem : Tryd.prog.cellsOf 101 = 1 := by kernel_rfl
theorem cTab : Tryd.prog.cellsOf 114 = 20 := by kernel_rfl
theorem laidOut : laidOutB Tryd.prog = true := by kernel_rfl

/-- what the rows list -/
def laid5 : List (String × DataW Unit) := [("math/bits.deBruijn32tab", Rows.laid_math_bits_deBruijn32tab), ("math/bits.deBruijn64tab", Rows.laid_math_bits_deBruijn64tab), ("internal/strconv.uint64pow10", Rows.laid_internal_strconv_uint64pow10), ("strconv.ErrRange", Rows.laid_strconv_ErrRange), ("strconv.ErrSyntax", Rows.laid_strconv_ErrSyntax)]

theorem tab_data : (Rows.laid_internal_strconv_uint64pow10 : DataW Unit) = Lib.tabData .u64 Lib.pow10Tab := by kernel_rfl

theorem tabbed {W : World} (h : laidMet Tryd.prog laid5 W) : Tabbed W := by
  have h2 : laidMet Tryd.prog (("internal/strconv.uint64pow10", Rows.laid_internal_strconv_uint64pow10) :: [("strconv.ErrRange", Rows.laid_strconv_ErrRange), ("strconv.ErrSyntax", Rows.laid_strconv_ErrSyntax)]) W := h.tail.tail
  rw [tab_data] at h2
  exact Lib.tabIs_of_head gTab tTab uTab uElem cElem cTab h2

/-- the door's own heap meets the condition -/
theorem door_met (os : Os) (args : Array Value) : laidMet Tryd.prog laid5 ((World.doorLaid Tryd.prog 62 os).forCall (fun _ _ => 0) ⟨#[], args, []⟩).memory :=
  laidMet_of_run' 8 (by kernel_rfl) (by kernel_rfl)

theorem door_shaped (os : Os) (args : Array Value) : ((World.doorLaid Tryd.prog 62 os).forCall (fun _ _ => 0) ⟨#[], args, []⟩).Shaped Tryd.prog :=
  World.shaped_of_RefB (by kernel_rfl) (by kernel_rfl)

/-! ### Arguments -/
section
variable {H : Type} {x : DataW H} {d : D}

theorem int_stands {t : TypeId} (hu : Tryd.prog.underlying t = some (.int .i64)) (h : Stands Tryd.prog t x d) : ∃ z, d = .int .i64 z ∧ is64 z = true := by
  obtain ⟨z, _, rfl, hw⟩ := stands_int hu h
  obtain ⟨h1, h2⟩ := bounds_i64 hw
  exact ⟨z, rfl, by simp [is64]; exact ⟨h1, h2⟩⟩

theorem str_stands {t : TypeId} (hu : Tryd.prog.underlying t = some .string) (h : Stands Tryd.prog t x d) : ∃ s, d = .str s ∧ x = .lit (.string s) ∧ s.length ≤ maxLen := by
  obtain ⟨s, hx, rfl, hw⟩ := stands_string hu h
  exact ⟨s, rfl, hx, hw⟩

theorem val_stands (h : Stands Tryd.prog 26 x d) : ∃ v : Val, d = v.d ∧ is64 v.n = true := by
  obtain ⟨xs, ds, _, rfl, hx, hd, hf⟩ := stands_struct Tryd.underlying26 h
  match xs, hx, ds, hd, hf with
  | [x0, x1, x2], _, [a, b, c], _, hf =>
    obtain ⟨t, rfl, _⟩ := int_stands Tryd.underlying3 (hf 0 _ x0 a rfl rfl rfl)
    obtain ⟨m, rfl, hm⟩ := int_stands Tryd.underlying3 (hf 1 _ x1 b rfl rfl rfl)
    obtain ⟨s, rfl, _⟩ := str_stands Tryd.underlying9 (hf 2 _ x2 c rfl rfl rfl)
    exact ⟨⟨t, m, s⟩, rfl, hm⟩

/-- all elements by a map -/
theorem all_map {α β γ : Type} {R : α → β → Prop} {g : γ → β} {xs : List α} {es : List β} (hl : es.length = xs.length) (h : ∀ (i : Nat) (x : α) (e : β), xs[i]? = some x → es[i]? = some e → R x e)
    {Q : γ → Prop} (hg : ∀ x e, R x e → ∃ c, e = g c ∧ Q c) : ∃ cs : List γ, es = cs.map g ∧ ∀ c ∈ cs, Q c := by
  induction es generalizing xs with
  | nil => exact ⟨[], rfl, by simp⟩
  | cons e es ih =>
    cases xs with
    | nil => simp at hl
    | cons x xs =>
      obtain ⟨c, rfl, hc⟩ := hg x e (h 0 x e rfl rfl)
      obtain ⟨cs, rfl, hcs⟩ := ih (xs := xs) (by simpa using hl) fun i y z h1 h2 => h (i + 1) y z (by simpa using h1) (by simpa using h2)
      refine ⟨c :: cs, rfl, fun y hy => ?_⟩
      rcases List.mem_cons.1 hy with rfl | hy
      · exact hc
      · exact hcs y hy

theorem row_stands (h : Stands Tryd.prog 22 x d) : ∃ vs : List Val, IsRow d vs ∧ (∀ v ∈ vs, is64 v.n = true) ∧ ((x = .nil ∧ vs = []) ∨ ∃ xs sp, x = .slice xs sp ∧ vs.length = xs.length) := by
  rcases stands_slice Tryd.underlying22 h with ⟨rfl, rfl⟩ | ⟨xs, sp, es, rfl, rfl, hl, _, hall⟩
  · exact ⟨[], Or.inl ⟨rfl, rfl⟩, by simp, Or.inl ⟨rfl, rfl⟩⟩
  · obtain ⟨vs, rfl, hvs⟩ := all_map (R := fun x d => Stands Tryd.prog 26 x d) (g := Val.d) (Q := fun v => is64 v.n = true) hl hall fun x e h => val_stands h
    exact ⟨vs, Or.inr rfl, hvs, Or.inr ⟨xs, sp, rfl, by simpa using hl⟩⟩
end

end Go.Proofs.YtfdcjngclelnhaaDoor
