/- Arguments that are not looked at: one word for each cell. -/
import Derived.Test.YtobhpbnlbgbjaaaGreatDoorF
set_option linter.unusedSectionVars false
set_option linter.unusedSimpArgs false
set_option linter.unusedVariables false
namespace Go.Proofs.YtobhpbnlbgbjaaaGreatDoor
open Go Go.RowKit
set_option linter.unusedSectionVars false
variable [mode : Inhabited ModeT]

theorem one_of_ok {P : Program} {w : World} {r : Reach} {base : Nat} {t : TypeId} {v : Value} (h : Cell.okWide P w r base t v) : v.oneCell' = true := by
  cases v with
  | agg _ => exact (by unfold Cell.okWide at h; split at h <;> first | (rename_i h1; cases h1; done) | (unfold Cell.ok at h; split at h <;> first | exact h.elim | (rename_i h1; cases h1; done) | contradiction))
  | tuple _ => exact (by unfold Cell.okWide at h; split at h <;> first | (rename_i h1; cases h1; done) | (unfold Cell.ok at h; split at h <;> first | exact h.elim | (rename_i h1; cases h1; done) | contradiction))
  | _ => rfl

theorem den_anys {K : KW} : ∀ {cs : List Value} {n : Nat}, cs.length = n → (∀ c ∈ cs, c.oneCell' = true) → DenL K (List.replicate n .any) cs
  | [], _, rfl, _ => .nil
  | c :: r, _, rfl, h => by
    rw [List.length_cons, List.replicate_succ]
    exact .cons (.any c (h c (by simp))) (den_anys rfl fun x hx => h x (by simp [hx]))

/-- a struct that is not looked at -/
theorem den_struct {K : KW} {P : Program} {w : World} {r : Reach} {base : Nat} {t : TypeId} {fs : Array Field} {n : Nat} {v : Value} (hu : P.underlying t = some (.struct fs)) (hn : P.cellsOf t = n) (hv : Value.okWide P w r base t v) :
    Den K (.agg (List.replicate n .any)) v := by
  unfold Value.okWide at hv
  rw [hu] at hv
  obtain ⟨cs, rfl, hsz, ts, _, _, hc⟩ := hv
  refine Den.of_agg (den_anys (by rw [Array.length_toList, hsz, hn]) fun c hm => ?_)
  obtain ⟨i, hi, he⟩ := List.getElem_of_mem hm
  obtain ⟨u, _, h⟩ := hc i c (by rw [← Array.getElem?_toList, List.getElem?_eq_getElem hi, he])
  exact one_of_ok h

/-- a slice that is not looked at -/
theorem den_any {K : KW} {P : Program} {w : World} {r : Reach} {base : Nat} {t e : TypeId} {v : Value} (hu : P.underlying t = some (.slice e)) (hv : Value.okWide P w r base t v) : Den K .any v := by
  unfold Value.okWide at hv
  rw [hu] at hv
  exact .any v (one_of_ok hv)
end Go.Proofs.YtobhpbnlbgbjaaaGreatDoor
