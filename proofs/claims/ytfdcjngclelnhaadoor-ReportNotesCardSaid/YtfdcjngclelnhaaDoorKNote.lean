/- cordonlaw23.ReportNotes returns true for all texts and notes, the tables of the library being as start-up lays them (the card ties that to the program's text): no other condition. -/
import Derived.Test.YtfdcjngclelnhaaDoorP34
import Derived.Test.YtfdcjngclelnhaaDoorQ1
import Derived.Test.YtfdcjngclelnhaaDoorRows
import Derived.Test.YtfdcjngclelnhaaDoorTie
import Derived.Test.YtfdcjngclelnhaaDoorCards
import Derived.SevenTiedAt
set_option linter.unusedSectionVars false
set_option linter.unusedSimpArgs false
set_option linter.unusedVariables false
namespace Go.Proofs.YtfdcjngclelnhaaDoor.RepNote
open Go Go.ChangeShapes Go.WideShapes Go.ChangeAt Go.RowKit
set_option linter.unusedVariables false

theorem plain9 : plainT Tryd.prog 2 9 = true := by kernel_rfl
theorem plain44 : plainT Tryd.prog 3 44 = true := by kernel_rfl

theorem four_of {α : Type} {l : List α} (h : l.length = 4) : ∃ a b c d, l = [a, b, c, d] := by
  match l, h with
  | [a, b, c, d], _ => exact ⟨a, b, c, d, rfl⟩

theorem note_stands {H : Type} {x : DataW H} {d : D} (h : Stands Tryd.prog 44 x d) : ∃ n : NoteV, d = n.d ∧ is64 n.err = true := by
  obtain ⟨xs, ds, rfl, rfl, hx, hd, hf⟩ := stands_struct Tryd.underlying44 h
  obtain ⟨x0, x1, x2, x3, rfl⟩ := four_of hx
  obtain ⟨a, b, c, e, rfl⟩ := four_of hd
  have h0 := hf 0 _ x0 a rfl rfl rfl
  have h1 := hf 1 _ x1 b rfl rfl rfl
  have h2 := hf 2 _ x2 c rfl rfl rfl
  have h3 := hf 3 _ x3 e rfl rfl rfl
  obtain ⟨p, rfl, _⟩ := int_stands Tryd.underlying3 h0
  obtain ⟨q, rfl, _⟩ := int_stands Tryd.underlying3 h1
  obtain ⟨r, rfl, hr⟩ := int_stands Tryd.underlying28 h2
  obtain ⟨s, rfl, _⟩ := int_stands Tryd.underlying3 h3
  exact ⟨⟨p, q, r, s⟩, rfl, hr⟩

theorem walk (a b : List UInt8) (n : NoteV) (h64 : is64 n.err = true) (W : World) (hW : Tabbed W) (v w u : Value) (hv : DenD W.cell? (.str a) v) (hw : DenD W.cell? (.str b) w) (hu : DenD W.cell? n.d u) :
    Calls Tryd.prog 5 #[v, w, u] W fun e W' => e = .returned (.bool true) ∧ Below W.heap.size W W' := by
  obtain ⟨k0, hk⟩ := notes_calls a b n h64
  exact law_calls prog_ok primsY_ok Tryd.func5 rfl hW (.cons (.dat hv) (.cons (.dat hw) (.cons (.dat hu) .nil))) (hk k0 (Nat.le_refl _))

set_option maxRecDepth 100000 in
theorem lifted (os : Os) (started : os.Started) (H : Type) (enc : TypeId × Value → H) :
    ReturnsInHanded {} Tryd.checked os 5 .any (fun w args => (Rows.reportNotesSpec.pre enc Tryd.prog Tryd.f5 Rows.reportNotesRow.domain false w args ∧ laidMet Tryd.prog laid5 w) ∧ sizedMet enc Tryd.prog Tryd.f5 (OpenSpec.ofChange Rows.reportNotesSpec) false w args)
      (Rows.reportNotesSpec.post enc Tryd.prog Tryd.f5 false true false false) := by
  refine returnsInHanded_of_change_and (C := Tryd.checked) (X := fun w _ => laidMet Tryd.prog laid5 w) (fun _ _ _ hh h => h.of_heap hh) own started (by kernel_rfl) Tryd.func5
    (ChangeSpec.witness_shaped (enc := enc) (C := Tryd.checked) (os := os) (X := fun w _ => laidMet Tryd.prog laid5 w) false (World.doorLaid Tryd.prog 62 os) #[.string ByteArray.empty, .string ByteArray.empty, .agg #[.int .i64 0, .int .i64 0, .int .i64 0, .int .i64 0]] 8 rfl (door_shaped os _) (by kernel_rfl) (by kernel_rfl) (by kernel_rfl) (door_met os _)) ?_
  intro W base args ds gs before hval0 hW _ hsz0 hL _
  have hval : ∀ (j : Nat) t v, Tryd.f5.params[j]? = some t → args[j]? = some v → Value.okWide Tryd.prog W .any base t v := hval0
  have hW' := hW
  obtain ⟨p, q, hA0, hV, rfl, hfz, hnd⟩ := hW
  have hA : DataW.TrodAll enc Tryd.prog W 0 (fun _ => true) true Tryd.f5.params.toList args.toList ds p := hA0
  rw [Tryd.params5] at hA hval
  obtain ⟨v0, v1, v2, d0, d1, d2, p0, p1, p2, rfl, rfl, rfl, h0, h1, h2⟩ := trodAll_three hA
  obtain ⟨rfl, rfl⟩ := trodVars_none hV
  obtain ⟨x0, hs0, hd0⟩ := stands_val plain9 (hval 0 9 v0 rfl rfl) h0
  obtain ⟨x1, hs1, hd1⟩ := stands_val plain9 (hval 1 9 v1 rfl rfl) h1
  obtain ⟨x2, hs2, hd2⟩ := stands_val plain44 (hval 2 44 v2 rfl rfl) h2
  obtain ⟨a, rfl, _, _⟩ := str_stands Tryd.underlying9 hs0
  obtain ⟨b, rfl, _, _⟩ := str_stands Tryd.underlying9 hs1
  obtain ⟨n, rfl, h64⟩ := note_stands hs2
  have hltA := fun y hy => hW'.lt y hy
  have hlt0 : ∀ y ∈ p0, y.block < W.heap.size := fun y hy => by simpa using hltA y (by simp [hy])
  have hlt1 : ∀ y ∈ p1, y.block < W.heap.size := fun y hy => by simpa using hltA y (by simp [hy])
  have hlt2 : ∀ y ∈ p2, y.block < W.heap.size := fun y hy => by simpa using hltA y (by simp [hy])
  clear hA0 hval0 hsz0
  refine (walk a b n h64 W (tabbed hL) v0 v1 v2 hd0 hd1 hd2).mono fun e W' ⟨he, bel⟩ => ?_
  subst he
  exact ⟨_, rfl, _, _, _, [], _, [], hW', trodAll_mk1 (shut_bool Tryd.underlying4 _),
    trodAll_mk3 (Below.trod laidOut (by kernel_rfl) (of_decide_eq_true (by kernel_rfl)) h0 bel hlt0) (Below.trod laidOut (by kernel_rfl) (of_decide_eq_true (by kernel_rfl)) h1 bel hlt1) (Below.trod laidOut (by kernel_rfl) (of_decide_eq_true (by kernel_rfl)) h2 bel hlt2),
    rfl, bel.frame _, fun h => by cases h⟩

theorem over : Rows.reportNotesRow.holds Tryd.pinned (OpenSpec.ofChange Rows.reportNotesSpec) :=
  OpenClaim.holds_of_wide 5 Tryd.f5 rfl rfl rfl rfl rfl rfl rfl ⟨rfl, rfl, rfl, rfl, rfl⟩ rfl rfl rfl rfl rfl (by kernel_rfl) Tryd.func5 (by kernel_rfl)
    (of_decide_eq_true (by kernel_rfl)) (by unfold Func.isWrapper; first | (rw [if_pos (by decide +kernel)]; kernel_rfl) | (rw [if_neg (by decide +kernel)]; exact ⟨rfl, rfl⟩))
    (fun os started H enc _ => lifted os started H enc)

theorem card_holds : Rows.ReportNotesCardSaid :=
  Claim7.holds_tied_plain_at .later [] [.data, .data, .data, .sentinel, .sentinel] true (true, "2e46f71acb970334ab7f2688e84212a194f352da5d44ca5e858f52ac8c197033") true
    over (fun _ h => by cases h) (by kernel_rfl) (fun _ h => by cases h) reportNotes_row_tie rfl ⟨rfl, rfl⟩ (by kernel_rfl) rfl
    (fun f fn hf hfn => by
      obtain rfl : f = 5 := Option.some.inj ((show Tryd.prog.funcNamed "cordon/cordonlaw23.ReportNotes" = some 5 by kernel_rfl).symm.trans hf) |>.symm
      obtain rfl : fn = Tryd.f5 := (Option.some.inj (Tryd.func5.symm.trans hfn)).symm
      exact ⟨by kernel_rfl, fun j t ht => by
        rw [Tryd.params5] at ht
        have hm : t ∈ [9, 44] := by
          have := Array.mem_of_getElem? ht
          simp at this ⊢
          omega
        have hall : ([9, 44].all fun u => !Tryd.prog.wantsStandIn u) = true := by kernel_rfl
        exact (show Tryd.prog.wantsStandIn t = false by simpa using List.all_eq_true.1 hall t hm)⟩)
    (by kernel_rfl)

end Go.Proofs.YtfdcjngclelnhaaDoor.RepNote
namespace Go.Proofs.YtfdcjngclelnhaaDoor
/-- The law, for all texts and notes. -/
theorem reportNotes_holds : Rows.ReportNotesCardSaid := RepNote.card_holds
end Go.Proofs.YtfdcjngclelnhaaDoor
