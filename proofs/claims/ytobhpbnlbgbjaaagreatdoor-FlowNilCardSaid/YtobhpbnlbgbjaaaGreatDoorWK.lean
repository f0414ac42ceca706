/- cordon/cordonlaw18.FlowNil returns true for every input, the tables of the library being as start-up lays them (the card ties that to the program's text): no other condition. -/
import Derived.Test.YtobhpbnlbgbjaaaGreatDoorW9
import Derived.Test.YtobhpbnlbgbjaaaGreatDoorWF
import Derived.Test.YtobhpbnlbgbjaaaGreatDoorKV
import Derived.Test.YtobhpbnlbgbjaaaGreatDoorRows
import Derived.Test.YtobhpbnlbgbjaaaGreatDoorTie
import Derived.Test.YtobhpbnlbgbjaaaGreatDoorCards
import Derived.WalkKit
import Derived.ProofKit
import Derived.OpenShut
import Derived.ChangeOld
import Derived.Below
import Derived.Carry
import Derived.SizedLaws
import Derived.LaidMore
import Derived.Lay
import Derived.SevenTiedAt
set_option linter.unusedSectionVars false
set_option linter.unusedSimpArgs false
set_option linter.unusedVariables false
namespace Go.Proofs.YtobhpbnlbgbjaaaGreatDoor.Nil
open Go Go.ChangeShapes Go.WideShapes Go.ChangeAt Go.RowKit
set_option linter.unusedVariables false

theorem own : ownKnob Tryz.prog.godebug = none := by kernel_rfl
theorem laidOut : laidOutB Tryz.prog = true := by kernel_rfl

/-- what the row lists -/
def laid5 : List (String × DataW Unit) := [("math/bits.deBruijn32tab", Rows.laid_math_bits_deBruijn32tab), ("math/bits.deBruijn64tab", Rows.laid_math_bits_deBruijn64tab), ("internal/strconv.uint64pow10", Rows.laid_internal_strconv_uint64pow10), ("unicode/utf8.acceptRanges", Rows.laid_unicode_utf8_acceptRanges), ("unicode/utf8.first", Rows.laid_unicode_utf8_first)]

theorem alive_run : comesTo (call Tryz.prog (withTab wtab10 primT) 100000 6 [] []) ⟨true, [], [], .dat (.bool true), []⟩ = true := by kernel_rfl

/-- the examples' call, from whatever heap -/
def aliveP : Prim := fun args h => match args with
  | [] => some (.dat (.bool true), h)
  | _ => none

def primA : FuncId → Option Prim := fun f => if f = 6 then some aliveP else primT f

theorem primA_ok : PrimsOk Tryz.prog primA := by
  intro f p h
  unfold primA at h
  split at h
  · rename_i e; subst e; cases h
    refine CallFOk.ofCall prog_ok wall fun args h v h' hs => ?_
    unfold aliveP at hs
    split at hs
    · cases hs
      exact ⟨rfl, rfl, rfl, 100000, comesTo_ok alive_run⟩
    · cases hs
  · exact prims_ok f p h

section
set_option maxRecDepth 100000
/-- the code behind the first remainder: from it on, whatever it is -/
noncomputable def fb : Code := match Tryz.f3.body with
  | some b => b
  | none => .skip
noncomputable def c1 : Code := match fb with
  | .seq _ x => x
  | c => c
noncomputable def ops1 : Array Oper := match c1 with
  | .seq (.region _ ops _) _ => ops
  | _ => #[]
noncomputable def c2 : Code := match c1 with
  | .seq _ x => x
  | c => c
def ts0 (z0 : Int) : List AV := putA (.dat (.int .i64 z0) :: List.replicate 42 undefA) (some 2) (.dat (.bool false))
def ts5 (z0 t : Int) : List AV := putA (putA (ts0 z0) (some 4) (.dat (.int .i64 z0))) (some 5) (.dat (.int .i64 t))
noncomputable def fromS (r : Option St) : Bool := comesTo
  (match (match r.map fun s' => (Ex.normal, s') with
    | some (.normal, s') => run Tryz.prog primA 998 c2 s'
    | x => x) with
  | some (.normal, s) | some (.ret, s) => (match resultsA Tryz.prog s.tmps s.heap Tryz.f3.results.toList with
    | some vs => some (leaveA 3 0 (tupleA vs) s.heap)
    | none => none)
  | _ => none) ⟨true, [], [], .dat (.bool true), []⟩
noncomputable def fromT (z0 t : Int) : Bool := fromS (regionT Tryz.prog (enterA Tryz.prog primA (run Tryz.prog primA 997)) ops1 (ops1.toList.drop 2) ⟨ts5 z0 t, []⟩)
theorem reg1 (cf : CallF) (z0 : Int) : regionT Tryz.prog cf ops1 ops1.toList ⟨ts0 z0, []⟩ = regionT Tryz.prog cf ops1 (ops1.toList.drop 2) ⟨ts5 z0 (z0.tmod 20), []⟩ := by kernel_rfl
theorem call_eq (z0 : Int) : comesTo (call Tryz.prog primA 1000 3 [.dat (.int .i64 z0)] []) ⟨true, [], [], .dat (.bool true), []⟩ = fromS (regionT Tryz.prog (enterA Tryz.prog primA (run Tryz.prog primA 997)) ops1 ops1.toList ⟨ts0 z0, []⟩) := by kernel_rfl
theorem runs_e (z0 : Int) : comesTo (call Tryz.prog primA 1000 3 [.dat (.int .i64 z0)] []) ⟨true, [], [], .dat (.bool true), []⟩ = fromT z0 (z0.tmod 20) := by rw [call_eq, reg1]; rfl
theorem runs_all (z0 : Int) : ((List.range 39).all fun k => fromT z0 (Int.ofNat k - 19)) = true := by kernel_rfl
theorem runs (z0 : Int) : comesTo (call Tryz.prog primA 1000 3 [.dat (.int .i64 z0)] []) ⟨true, [], [], .dat (.bool true), []⟩ = true := by
  rw [runs_e]
  have h : (z0.tmod 20).natAbs < 20 := by rw [Int.natAbs_tmod]; exact Nat.mod_lt _ (by decide)
  obtain ⟨k, hk, e⟩ : ∃ k : Nat, k < 39 ∧ z0.tmod 20 = Int.ofNat k - 19 := ⟨(z0.tmod 20 + 19).toNat, by omega, by simp only [Int.ofNat_eq_natCast]; omega⟩
  rw [e]
  exact List.all_eq_true.1 (runs_all z0) k (List.mem_range.2 hk)

end

theorem walk (W : World) (z0 : Int) :
    Calls Tryz.prog 3 #[.int .i64 z0] W fun e W' => e = .returned (.bool true) ∧ Below W.heap.size W W' :=
  law_calls prog_ok primA_ok Tryz.func3 rfl (.cons (.dat (.int _ _)) .nil) (comesTo_ok (runs z0))

set_option maxRecDepth 100000 in
theorem lifted (os : Os) (started : os.Started) (H : Type) (enc : TypeId × Value → H) :
    ReturnsInHanded {} Tryz.checked os 3 .any (fun w args => (Rows.flowNilSpec.pre enc Tryz.prog Tryz.f3 Rows.flowNilRow.domain false w args ∧ laidMet Tryz.prog laid5 w) ∧ sizedMet enc Tryz.prog Tryz.f3 (OpenSpec.ofChange Rows.flowNilSpec) false w args)
      (Rows.flowNilSpec.post enc Tryz.prog Tryz.f3 false true false false) := by
  refine returnsInHanded_of_change_and (C := Tryz.checked) (X := fun w _ => laidMet Tryz.prog laid5 w) (fun _ _ _ hh h => h.of_heap hh) own started (by kernel_rfl) Tryz.func3
    (ChangeSpec.witness_shaped (enc := enc) (C := Tryz.checked) (os := os) (X := fun w _ => laidMet Tryz.prog laid5 w) false (World.laidAll Tryz.prog os laid5) #[.int .i64 0] 8 (World.laidAll_os _ _ _)
      (World.shaped_of_ZipB (by kernel_rfl) (by kernel_rfl)) (by kernel_rfl) (by kernel_rfl) (by kernel_rfl) (laidMet_laidAll _ (by kernel_rfl) (by kernel_rfl))) ?_
  intro W base args ds gs before hval0 hW _ hsz0 hL _
  have hval : ∀ (j : Nat) t v, Tryz.f3.params[j]? = some t → args[j]? = some v → Value.okWide Tryz.prog W .any base t v := hval0
  have hW' := hW
  obtain ⟨p, q, hA0, hV, rfl, hfz, hnd⟩ := hW
  have hA : DataW.TrodAll enc Tryz.prog W 0 (fun _ => true) true Tryz.f3.params.toList args.toList ds p := hA0
  rw [Tryz.params3] at hA hval
  obtain ⟨v0, d0, rfl, rfl, h0⟩ := trodAll_one hA
  obtain ⟨rfl, rfl⟩ := trodVars_none hV
  obtain ⟨z0, rfl, rfl, rfl, wx0⟩ := open_int Tryz.underlying3 (hval 0 3 v0 rfl rfl) h0
  have hden0 : Den (K0 W) (.dat (.int .i64 z0)) (.int .i64 z0) := .dat (.int _ _)
  clear hA0 hval0 hsz0
  refine (walk W z0).mono fun e W' ⟨he, bel⟩ => ?_
  subst he
  exact ⟨_, rfl, _, _, _, [], _, [], hW', trodAll_mk1 (shut_bool Tryz.underlying4 _), trodAll_mk1 (shut_int Tryz.underlying3 wx0), rfl, bel.frame _, fun h => by cases h⟩

theorem over : Rows.flowNilRow.holds Tryz.pinned (OpenSpec.ofChange Rows.flowNilSpec) :=
  OpenClaim.holds_of_wide 3 Tryz.f3 rfl rfl rfl rfl rfl rfl rfl ⟨rfl, rfl, rfl, rfl, rfl⟩ rfl rfl rfl rfl rfl (by kernel_rfl) Tryz.func3 facts
    (of_decide_eq_true (by kernel_rfl)) (by unfold Func.isWrapper; first | (rw [if_pos (by decide +kernel)]; kernel_rfl) | (rw [if_neg (by decide +kernel)]; exact ⟨rfl, rfl⟩))
    (fun os started H enc _ => lifted os started H enc)

theorem card_holds : Rows.FlowNilCardSaid :=
  Claim7.holds_tied_plain_at .later [] [.data, .data, .data, .data, .pinned] true (true, "7edcb0b905cbd7deb1d83a51f9baecd46437b0eb619ccc84ee950d0ad6863b39") false
    over (fun _ h => by cases h) (by kernel_rfl) (fun _ h => by cases h) flowNil_row_tie rfl ⟨rfl, rfl⟩ (by kernel_rfl) rfl
    (fun f fn hf hfn => by
      obtain rfl : f = 3 := Option.some.inj ((show Tryz.prog.funcNamed "cordon/cordonlaw18.FlowNil" = some 3 by kernel_rfl).symm.trans hf) |>.symm
      obtain rfl : fn = Tryz.f3 := (Option.some.inj (Tryz.func3.symm.trans hfn)).symm
      exact ⟨looks0.symm, fun j t ht => by
        rw [Tryz.params3] at ht
        have hm : t ∈ [3] := by simpa using Array.mem_of_getElem? ht
        have hall : ([3].all fun u => !Tryz.prog.wantsStandIn u) = true := by kernel_rfl
        exact (show Tryz.prog.wantsStandIn t = false by simpa using List.all_eq_true.1 hall t hm)⟩)
    goes0

end Go.Proofs.YtobhpbnlbgbjaaaGreatDoor.Nil
namespace Go.Proofs.YtobhpbnlbgbjaaaGreatDoor
/-- The law, for every input. -/
theorem flowNil_holds : Rows.FlowNilCardSaid := Nil.card_holds
end Go.Proofs.YtobhpbnlbgbjaaaGreatDoor
