/- cordonlaw23.ReportBack returns true for every row, the tables of the library being as start-up lays them (the card ties that to the program's text): no other condition. -/
import Derived.Test.YtfdcjngclelnhaaDoorP18
import Derived.Test.YtfdcjngclelnhaaDoorQ1
import Derived.Test.YtfdcjngclelnhaaDoorRows
import Derived.Test.YtfdcjngclelnhaaDoorTie
import Derived.Test.YtfdcjngclelnhaaDoorCards
import Derived.SevenTiedAt
set_option linter.unusedSectionVars false
set_option linter.unusedSimpArgs false
set_option linter.unusedVariables false
namespace Go.Proofs.YtfdcjngclelnhaaDoor.RepBack
open Go Go.ChangeShapes Go.WideShapes Go.ChangeAt Go.RowKit
set_option linter.unusedVariables false

theorem plain22 : plainT Tryd.prog 4 22 = true := by kernel_rfl

theorem row_of_stands {H : Type} {x : DataW H} {d : D} (h : Stands Tryd.prog 22 x d) : ∃ vs : List Val, IsRow d vs ∧ (∀ v ∈ vs, is64 v.n = true) ∧ ((x = .nil ∧ vs = []) ∨ ∃ xs sp, x = .slice xs sp ∧ vs.length = xs.length) :=
  row_stands h

theorem walk {d : D} {vs : List Val} (hd : IsRow d vs) (hbig : vs.length ≤ 140737488355328) (h64 : ∀ v ∈ vs, is64 v.n = true) (W : World) (hW : Tabbed W) (v : Value) (hv : DenD W.cell? d v) :
    Calls Tryd.prog 3 #[v] W fun e W' => e = .returned (.bool true) ∧ Below W.heap.size W W' := by
  obtain ⟨prim, hp, k0, hk⟩ := back_true hd hbig h64
  exact law_calls prog_ok hp Tryd.func3 rfl hW (.cons (.dat hv) .nil) (hk k0 (Nat.le_refl _))

set_option maxRecDepth 100000 in
theorem lifted (os : Os) (started : os.Started) (H : Type) (enc : TypeId × Value → H) :
    ReturnsInHanded {} Tryd.checked os 3 .any (fun w args => (Rows.reportBackSpec.pre enc Tryd.prog Tryd.f3 Rows.reportBackRow.domain false w args ∧ laidMet Tryd.prog laid5 w) ∧ sizedMet enc Tryd.prog Tryd.f3 (OpenSpec.ofChange Rows.reportBackSpec) false w args)
      (Rows.reportBackSpec.post enc Tryd.prog Tryd.f3 false true false false) := by
  refine returnsInHanded_of_change_and (C := Tryd.checked) (X := fun w _ => laidMet Tryd.prog laid5 w) (fun _ _ _ hh h => h.of_heap hh) own started (by kernel_rfl) Tryd.func3
    (ChangeSpec.witness_shaped (enc := enc) (C := Tryd.checked) (os := os) (X := fun w _ => laidMet Tryd.prog laid5 w) false (World.doorLaid Tryd.prog 62 os) #[.slice none 0 0] 8 rfl (door_shaped os _) (by kernel_rfl) (by kernel_rfl) (by kernel_rfl) (door_met os _)) ?_
  intro W base args ds gs before hval0 hW _ hsz0 hL _
  have hsz : (DataW.weightsEach Tryd.prog (Tryd.f3.params.toList ++ Rows.reportBackSpec.plain.varTypes Tryd.prog) (ds ++ gs)).all (· ≤ reachBytes) = true := hsz0
  have hval : ∀ (j : Nat) t v, Tryd.f3.params[j]? = some t → args[j]? = some v → Value.okWide Tryd.prog W .any base t v := hval0
  have hW' := hW
  obtain ⟨p, q, hA0, hV, rfl, hfz, hnd⟩ := hW
  have hA : DataW.TrodAll enc Tryd.prog W 0 (fun _ => true) true Tryd.f3.params.toList args.toList ds p := hA0
  rw [Tryd.params3] at hA hval hsz
  obtain ⟨v0, d0, rfl, rfl, h0⟩ := trodAll_one hA
  obtain ⟨rfl, rfl⟩ := trodVars_none hV
  obtain ⟨x, hs, hd⟩ := stands_val plain22 (hval 0 22 v0 rfl rfl) h0
  obtain ⟨vs, hrow, h64, hlen⟩ := row_of_stands hs
  have hbig : vs.length ≤ 140737488355328 := by
    rcases hlen with ⟨_, rfl⟩ | ⟨xs, sp, rfl, hl⟩
    · simp
    · have h1 := sized_slice hsz (j := 0) (t := 22) rfl rfl Tryd.underlying22
      have h2 := reachBytes_lt
      have h3 : Tryd.prog.bytesOf 26 = 32 := by kernel_rfl
      rw [h3] at h1
      have h4 : (2 : Nat) ^ 47 = 140737488355328 := by decide
      omega
  have hlt : ∀ y ∈ p, y.block < W.heap.size := fun y hy => by simpa using hW'.lt y (by simpa using hy)
  clear hA0 hval0 hsz0 hsz
  refine (walk hrow hbig h64 W (tabbed hL) v0 hd).mono fun e W' ⟨he, bel⟩ => ?_
  subst he
  exact ⟨_, rfl, _, _, _, [], _, [], hW', trodAll_mk1 (shut_bool Tryd.underlying4 _), trodAll_mk1 (Below.trod laidOut (by kernel_rfl) (of_decide_eq_true (by kernel_rfl)) h0 bel hlt), rfl, bel.frame _, fun h => by cases h⟩

theorem over : Rows.reportBackRow.holds Tryd.pinned (OpenSpec.ofChange Rows.reportBackSpec) :=
  OpenClaim.holds_of_wide 3 Tryd.f3 rfl rfl rfl rfl rfl rfl rfl ⟨rfl, rfl, rfl, rfl, rfl⟩ rfl rfl rfl rfl rfl (by kernel_rfl) Tryd.func3 (by kernel_rfl)
    (of_decide_eq_true (by kernel_rfl)) (by unfold Func.isWrapper; first | (rw [if_pos (by decide +kernel)]; kernel_rfl) | (rw [if_neg (by decide +kernel)]; exact ⟨rfl, rfl⟩))
    (fun os started H enc _ => lifted os started H enc)

theorem card_holds : Rows.ReportBackCardSaid :=
  Claim7.holds_tied_plain_at .later [] [.data, .data, .data, .sentinel, .sentinel] true (true, "2e46f71acb970334ab7f2688e84212a194f352da5d44ca5e858f52ac8c197033") true
    over (fun _ h => by cases h) (by kernel_rfl) (fun _ h => by cases h) reportBack_row_tie rfl ⟨rfl, rfl⟩ (by kernel_rfl) rfl
    (fun f fn hf hfn => by
      obtain rfl : f = 3 := Option.some.inj ((show Tryd.prog.funcNamed "cordon/cordonlaw23.ReportBack" = some 3 by kernel_rfl).symm.trans hf) |>.symm
      obtain rfl : fn = Tryd.f3 := (Option.some.inj (Tryd.func3.symm.trans hfn)).symm
      exact ⟨by kernel_rfl, fun j t ht => by
        rw [Tryd.params3] at ht
        have hm : t ∈ [22] := by simpa using Array.mem_of_getElem? ht
        have hall : ([22].all fun u => !Tryd.prog.wantsStandIn u) = true := by kernel_rfl
        exact (show Tryd.prog.wantsStandIn t = false by simpa using List.all_eq_true.1 hall t hm)⟩)
    (by kernel_rfl)

end Go.Proofs.YtfdcjngclelnhaaDoor.RepBack
namespace Go.Proofs.YtfdcjngclelnhaaDoor
/-- The law, for every row. -/
theorem reportBack_holds : Rows.ReportBackCardSaid := RepBack.card_holds
end Go.Proofs.YtfdcjngclelnhaaDoor
