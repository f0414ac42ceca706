/- cordon/cordonlaw19.DeriveNil returns true for every input, the tables of the library being as start-up lays them (the card ties that to the program's text): no other condition. -/
import Derived.Test.YtbplgdgafmcinaaGreatDoorW9
import Derived.Test.YtbplgdgafmcinaaGreatDoorWF
import Derived.Test.YtbplgdgafmcinaaGreatDoorKV
import Derived.Test.YtbplgdgafmcinaaGreatDoorRows
import Derived.Test.YtbplgdgafmcinaaGreatDoorTie
import Derived.Test.YtbplgdgafmcinaaGreatDoorCards
import Derived.WalkKit
import Derived.ProofKit
import Derived.OpenShut
import Derived.ChangeOld
import Derived.Below
import Derived.Carry
import Derived.SizedLaws
import Derived.LaidMore
import Derived.Lay
import Derived.SevenTiedAt
set_option linter.unusedSectionVars false
set_option linter.unusedSimpArgs false
set_option linter.unusedVariables false
namespace Go.Proofs.YtbplgdgafmcinaaGreatDoor.Nil
open Go Go.ChangeShapes Go.WideShapes Go.ChangeAt Go.RowKit
set_option linter.unusedVariables false

theorem own : ownKnob Tryz.prog.godebug = none := by kernel_rfl
theorem laidOut : laidOutB Tryz.prog = true := by kernel_rfl

/-- what the row lists -/
def laid5 : List (String × DataW Unit) := [("math/bits.deBruijn32tab", Rows.laid_math_bits_deBruijn32tab), ("math/bits.deBruijn64tab", Rows.laid_math_bits_deBruijn64tab), ("internal/strconv.uint64pow10", Rows.laid_internal_strconv_uint64pow10), ("unicode/utf8.acceptRanges", Rows.laid_unicode_utf8_acceptRanges), ("unicode/utf8.first", Rows.laid_unicode_utf8_first)]

theorem alive_run : comesTo (call Tryz.prog (withTab wtab6 primT) 100000 6 [] []) ⟨true, [], [], .dat (.bool true), []⟩ = true := by kernel_rfl

/-- the examples' call, from whatever heap -/
def aliveP : Prim := fun args h => match args with
  | [] => some (.dat (.bool true), h)
  | _ => none

def primA : FuncId → Option Prim := fun f => if f = 6 then some aliveP else primT f

theorem primA_ok : PrimsOk Tryz.prog primA := by
  intro f p h
  unfold primA at h
  split at h
  · rename_i e; subst e; cases h
    refine CallFOk.ofCall prog_ok wall fun args h v h' hs => ?_
    unfold aliveP at hs
    split at hs
    · cases hs
      exact ⟨rfl, rfl, rfl, 100000, comesTo_ok alive_run⟩
    · cases hs
  · exact prims_ok f p h

theorem runs : comesTo (call Tryz.prog primA 1000 3 [.agg (List.replicate 5 .any)] []) ⟨true, [], [], .dat (.bool true), []⟩ = true := by kernel_rfl

theorem walk (W : World) (v0 : Value) (hv0 : Den (K0 W) (.agg (List.replicate 5 .any)) v0) :
    Calls Tryz.prog 3 #[v0] W fun e W' => e = .returned (.bool true) ∧ Below W.heap.size W W' :=
  law_calls prog_ok primA_ok Tryz.func3 rfl (.cons hv0 .nil) (comesTo_ok (runs))

set_option maxRecDepth 100000 in
theorem lifted (os : Os) (started : os.Started) (H : Type) (enc : TypeId × Value → H) :
    ReturnsInHanded {} Tryz.checked os 3 .any (fun w args => (Rows.deriveNilSpec.pre enc Tryz.prog Tryz.f3 Rows.deriveNilRow.domain false w args ∧ laidMet Tryz.prog laid5 w) ∧ sizedMet enc Tryz.prog Tryz.f3 (OpenSpec.ofChange Rows.deriveNilSpec) false w args)
      (Rows.deriveNilSpec.post enc Tryz.prog Tryz.f3 false true false false) := by
  refine returnsInHanded_of_change_and (C := Tryz.checked) (X := fun w _ => laidMet Tryz.prog laid5 w) (fun _ _ _ hh h => h.of_heap hh) own started (by kernel_rfl) Tryz.func3
    (ChangeSpec.witness_shaped (enc := enc) (C := Tryz.checked) (os := os) (X := fun w _ => laidMet Tryz.prog laid5 w) false (World.laidAll Tryz.prog os laid5) #[.agg #[.slice none 0 0, .slice none 0 0, .slice none 0 0, .slice none 0 0, .slice none 0 0]] 8 (World.laidAll_os _ _ _)
      (World.shaped_of_ZipB (by kernel_rfl) (by kernel_rfl)) (by kernel_rfl) (by kernel_rfl) (by kernel_rfl) (laidMet_laidAll _ (by kernel_rfl) (by kernel_rfl))) ?_
  intro W base args ds gs before hval0 hW _ hsz0 hL _
  have hval : ∀ (j : Nat) t v, Tryz.f3.params[j]? = some t → args[j]? = some v → Value.okWide Tryz.prog W .any base t v := hval0
  have hW' := hW
  obtain ⟨p, q, hA0, hV, rfl, hfz, hnd⟩ := hW
  have hA : DataW.TrodAll enc Tryz.prog W 0 (fun _ => true) true Tryz.f3.params.toList args.toList ds p := hA0
  rw [Tryz.params3] at hA hval
  obtain ⟨v0, d0, rfl, rfl, h0⟩ := trodAll_one hA
  obtain ⟨rfl, rfl⟩ := trodVars_none hV
  have hden0 : Den (K0 W) (.agg (List.replicate 5 .any)) v0 := den_struct Tryz.underlying27 (by kernel_rfl) (hval 0 27 v0 rfl rfl)
  have hlt0 : ∀ y ∈ p, y.block < W.heap.size := fun y hy => by simpa using hW'.lt y (by simpa using hy)
  clear hA0 hval0 hsz0
  refine (walk W v0 hden0).mono fun e W' ⟨he, bel⟩ => ?_
  subst he
  exact ⟨_, rfl, _, _, _, [], _, [], hW', trodAll_mk1 (shut_bool Tryz.underlying4 _), trodAll_mk1 (Below.trod laidOut (by kernel_rfl) (of_decide_eq_true (by kernel_rfl)) h0 bel hlt0), rfl, bel.frame _, fun h => by cases h⟩

theorem over : Rows.deriveNilRow.holds Tryz.pinned (OpenSpec.ofChange Rows.deriveNilSpec) :=
  OpenClaim.holds_of_wide 3 Tryz.f3 rfl rfl rfl rfl rfl rfl rfl ⟨rfl, rfl, rfl, rfl, rfl⟩ rfl rfl rfl rfl rfl (by kernel_rfl) Tryz.func3 facts
    (of_decide_eq_true (by kernel_rfl)) (by unfold Func.isWrapper; first | (rw [if_pos (by decide +kernel)]; kernel_rfl) | (rw [if_neg (by decide +kernel)]; exact ⟨rfl, rfl⟩))
    (fun os started H enc _ => lifted os started H enc)

theorem card_holds : Rows.DeriveNilCardSaid :=
  Claim7.holds_tied_plain_at .later [] [.data, .data, .data, .data, .pinned] true (true, "fcab6999526e6d8b566ece67a8b06662478414d93a9e41b819d251d728c638f9") false
    over (fun _ h => by cases h) (by kernel_rfl) (fun _ h => by cases h) deriveNil_row_tie rfl ⟨rfl, rfl⟩ (by kernel_rfl) rfl
    (fun f fn hf hfn => by
      obtain rfl : f = 3 := Option.some.inj ((show Tryz.prog.funcNamed "cordon/cordonlaw19.DeriveNil" = some 3 by kernel_rfl).symm.trans hf) |>.symm
      obtain rfl : fn = Tryz.f3 := (Option.some.inj (Tryz.func3.symm.trans hfn)).symm
      exact ⟨looks0.symm, fun j t ht => by
        rw [Tryz.params3] at ht
        have hm : t ∈ [27] := by simpa using Array.mem_of_getElem? ht
        have hall : ([27].all fun u => !Tryz.prog.wantsStandIn u) = true := by kernel_rfl
        exact (show Tryz.prog.wantsStandIn t = false by simpa using List.all_eq_true.1 hall t hm)⟩)
    goes0

end Go.Proofs.YtbplgdgafmcinaaGreatDoor.Nil
namespace Go.Proofs.YtbplgdgafmcinaaGreatDoor
/-- The law, for every input. -/
theorem deriveNil_holds : Rows.DeriveNilCardSaid := Nil.card_holds
end Go.Proofs.YtbplgdgafmcinaaGreatDoor
