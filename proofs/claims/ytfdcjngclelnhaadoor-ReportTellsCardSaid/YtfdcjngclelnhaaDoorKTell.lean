/- cordonlaw23.ReportTells returns true for all rows, channels and told values, the tables of the library being as start-up lays them (the card ties that to the program's text): no other condition. -/
import Derived.Test.YtfdcjngclelnhaaDoorP29
import Derived.Test.YtfdcjngclelnhaaDoorQ2
import Derived.Test.YtfdcjngclelnhaaDoorRows
import Derived.Test.YtfdcjngclelnhaaDoorTie
import Derived.Test.YtfdcjngclelnhaaDoorCards
import Derived.SevenTiedAt
set_option linter.unusedSectionVars false
set_option linter.unusedSimpArgs false
set_option linter.unusedVariables false
namespace Go.Proofs.YtfdcjngclelnhaaDoor.RepTell
open Go Go.ChangeShapes Go.WideShapes Go.ChangeAt Go.RowKit
set_option linter.unusedVariables false

theorem plain33 : plainT Tryd.prog 5 33 = true := by kernel_rfl
theorem plain34 : plainT Tryd.prog 5 34 = true := by kernel_rfl
theorem plain35 : plainT Tryd.prog 5 35 = true := by kernel_rfl

theorem walk {d : D} {rs : List RowD} {cd : D} {cs : List Chan} {od : D} {os : List Told} (hd : Rws d rs) (hcd : IsChans cd cs) (hod : IsOuts od os)
    (h64 : ∀ r ∈ rs, ∀ v ∈ r.2, is64 v.n = true) (h64o : ∀ o ∈ os, is64 o.v.n = true)
    (hb1 : rs.length ≤ reach) (hb1r : ∀ r ∈ rs, r.2.length ≤ reach) (hb2 : cs.length ≤ reach) (hsm : ∀ c ∈ cs, c.name.length ≤ reach) (hb3 : os.length ≤ reach)
    (W : World) (hW : Tabbed W) (v w u : Value) (hv : DenD W.cell? d v) (hw : DenD W.cell? cd w) (hu : DenD W.cell? od u) :
    Calls Tryd.prog 4 #[v, w, u] W fun e W' => e = .returned (.bool true) ∧ Below W.heap.size W W' := by
  obtain ⟨prim, hp, k0, hk⟩ := tells_true hd hcd hod h64 h64o hb1 hb1r hb2 hsm hb3
  exact law_calls prog_ok hp Tryd.func4 rfl hW (.cons (.dat hv) (.cons (.dat hw) (.cons (.dat hu) .nil))) (hk k0 (Nat.le_refl _))

set_option maxRecDepth 100000 in
theorem lifted (os : Os) (started : os.Started) (H : Type) (enc : TypeId × Value → H) :
    ReturnsInHanded {} Tryd.checked os 4 .any (fun w args => (Rows.reportTellsSpec.pre enc Tryd.prog Tryd.f4 Rows.reportTellsRow.domain false w args ∧ laidMet Tryd.prog laid5 w) ∧ sizedMet enc Tryd.prog Tryd.f4 (OpenSpec.ofChange Rows.reportTellsSpec) false w args)
      (Rows.reportTellsSpec.post enc Tryd.prog Tryd.f4 false true false false) := by
  refine returnsInHanded_of_change_and (C := Tryd.checked) (X := fun w _ => laidMet Tryd.prog laid5 w) (fun _ _ _ hh h => h.of_heap hh) own started (by kernel_rfl) Tryd.func4
    (ChangeSpec.witness_shaped (enc := enc) (C := Tryd.checked) (os := os) (X := fun w _ => laidMet Tryd.prog laid5 w) false (World.doorLaid Tryd.prog 62 os) #[.slice none 0 0, .slice none 0 0, .slice none 0 0] 8 rfl (door_shaped os _) (by kernel_rfl) (by kernel_rfl) (by kernel_rfl) (door_met os _)) ?_
  intro W base args ds gs before hval0 hW _ hsz0 hL _
  have hsz : (DataW.weightsEach Tryd.prog (Tryd.f4.params.toList ++ Rows.reportTellsSpec.plain.varTypes Tryd.prog) (ds ++ gs)).all (· ≤ reachBytes) = true := hsz0
  have hval : ∀ (j : Nat) t v, Tryd.f4.params[j]? = some t → args[j]? = some v → Value.okWide Tryd.prog W .any base t v := hval0
  have hW' := hW
  obtain ⟨p, q, hA0, hV, rfl, hfz, hnd⟩ := hW
  have hA : DataW.TrodAll enc Tryd.prog W 0 (fun _ => true) true Tryd.f4.params.toList args.toList ds p := hA0
  rw [Tryd.params4] at hA hval hsz
  obtain ⟨v0, v1, v2, d0, d1, d2, p0, p1, p2, rfl, rfl, rfl, h0, h1, h2⟩ := trodAll_three hA
  obtain ⟨rfl, rfl⟩ := trodVars_none hV
  obtain ⟨x0, hs0, hd0⟩ := stands_val plain33 (hval 0 33 v0 rfl rfl) h0
  obtain ⟨x1, hs1, hd1⟩ := stands_val plain34 (hval 1 34 v1 rfl rfl) h1
  obtain ⟨x2, hs2, hd2⟩ := stands_val plain35 (hval 2 35 v2 rfl rfl) h2
  obtain ⟨rs, hr1, hr2, hr3, hr4⟩ := rows_light hs0 (light_arg hsz (j := 0) rfl rfl)
  obtain ⟨cs, hc1, hc2, hc3⟩ := chans_light hs1 (light_arg hsz (j := 1) rfl rfl)
  obtain ⟨os', ho1, ho2, ho3⟩ := outs_light hs2 (light_arg hsz (j := 2) rfl rfl)
  have hltA := fun y hy => hW'.lt y hy
  have hlt0 : ∀ y ∈ p0, y.block < W.heap.size := fun y hy => by simpa using hltA y (by simp [hy])
  have hlt1 : ∀ y ∈ p1, y.block < W.heap.size := fun y hy => by simpa using hltA y (by simp [hy])
  have hlt2 : ∀ y ∈ p2, y.block < W.heap.size := fun y hy => by simpa using hltA y (by simp [hy])
  clear hA0 hval0 hsz0 hsz
  refine (walk hr1 hc1 ho1 hr2 ho2 hr3 hr4 hc2 hc3 ho3 W (tabbed hL) v0 v1 v2 hd0 hd1 hd2).mono fun e W' ⟨he, bel⟩ => ?_
  subst he
  exact ⟨_, rfl, _, _, _, [], _, [], hW', trodAll_mk1 (shut_bool Tryd.underlying4 _),
    trodAll_mk3 (Below.trod laidOut (by kernel_rfl) (of_decide_eq_true (by kernel_rfl)) h0 bel hlt0) (Below.trod laidOut (by kernel_rfl) (of_decide_eq_true (by kernel_rfl)) h1 bel hlt1) (Below.trod laidOut (by kernel_rfl) (of_decide_eq_true (by kernel_rfl)) h2 bel hlt2),
    rfl, bel.frame _, fun h => by cases h⟩

theorem over : Rows.reportTellsRow.holds Tryd.pinned (OpenSpec.ofChange Rows.reportTellsSpec) :=
  OpenClaim.holds_of_wide 4 Tryd.f4 rfl rfl rfl rfl rfl rfl rfl ⟨rfl, rfl, rfl, rfl, rfl⟩ rfl rfl rfl rfl rfl (by kernel_rfl) Tryd.func4 (by kernel_rfl)
    (of_decide_eq_true (by kernel_rfl)) (by unfold Func.isWrapper; first | (rw [if_pos (by decide +kernel)]; kernel_rfl) | (rw [if_neg (by decide +kernel)]; exact ⟨rfl, rfl⟩))
    (fun os started H enc _ => lifted os started H enc)

theorem card_holds : Rows.ReportTellsCardSaid :=
  Claim7.holds_tied_plain_at .later [] [.data, .data, .data, .sentinel, .sentinel] true (true, "2e46f71acb970334ab7f2688e84212a194f352da5d44ca5e858f52ac8c197033") true
    over (fun _ h => by cases h) (by kernel_rfl) (fun _ h => by cases h) reportTells_row_tie rfl ⟨rfl, rfl⟩ (by kernel_rfl) rfl
    (fun f fn hf hfn => by
      obtain rfl : f = 4 := Option.some.inj ((show Tryd.prog.funcNamed "cordon/cordonlaw23.ReportTells" = some 4 by kernel_rfl).symm.trans hf) |>.symm
      obtain rfl : fn = Tryd.f4 := (Option.some.inj (Tryd.func4.symm.trans hfn)).symm
      exact ⟨by kernel_rfl, fun j t ht => by
        rw [Tryd.params4] at ht
        have hm : t ∈ [33, 34, 35] := by simpa using Array.mem_of_getElem? ht
        have hall : ([33, 34, 35].all fun u => !Tryd.prog.wantsStandIn u) = true := by kernel_rfl
        exact (show Tryd.prog.wantsStandIn t = false by simpa using List.all_eq_true.1 hall t hm)⟩)
    (by kernel_rfl)

end Go.Proofs.YtfdcjngclelnhaaDoor.RepTell
namespace Go.Proofs.YtfdcjngclelnhaaDoor
/-- The law, for all rows, channels and told values. -/
theorem reportTells_holds : Rows.ReportTellsCardSaid := RepTell.card_holds
end Go.Proofs.YtfdcjngclelnhaaDoor
