/- Arguments that are lists of rows, of channels and of what was told: what they stand for, and how long they are. -/
import Derived.Test.YtfdcjngclelnhaaDoorQ1
import Derived.Test.YtfdcjngclelnhaaDoorP26
set_option linter.unusedSectionVars false
set_option linter.unusedSimpArgs false
set_option linter.unusedVariables false
namespace Go.Proofs.YtfdcjngclelnhaaDoor
open Go Go.ChangeShapes Go.WideShapes Go.ChangeAt Go.RowKit
set_option linter.unusedVariables false

section
variable {H : Type} {P : Program} {t : TypeId} {B : Nat}

theorem weights_all {e : TypeId} : ∀ {xs : List (DataW H)} {x : DataW H}, x ∈ xs → ∀ n ∈ x.weights P e, n ∈ DataW.weightsAll P e xs
  | y :: r, x, hx, n, hn => by
    simp only [DataW.weightsAll, List.mem_append]
    rcases List.mem_cons.1 hx with rfl | hx
    · exact Or.inl hn
    · exact Or.inr (weights_all hx n hn)

theorem light_slice {e : TypeId} {xs sp : List (DataW H)} (hu : P.underlying t = some (.slice e)) (h : ∀ n ∈ (DataW.slice xs sp).weights P t, n ≤ B) :
    (xs.length + sp.length) * P.bytesOf e ≤ B ∧ ∀ x ∈ xs, ∀ n ∈ x.weights P e, n ≤ B := by
  have hw : (DataW.slice xs sp).weights P t = (xs.length + sp.length) * P.bytesOf e :: (DataW.weightsAll P e xs ++ DataW.weightsAll P e sp) := by simp only [DataW.weights, hu]
  rw [hw] at h
  exact ⟨h _ (List.mem_cons_self ..), fun x hx n hn => h n (List.mem_cons_of_mem _ (List.mem_append_left _ (weights_all hx n hn)))⟩

theorem light_struct {fs : Array Field} {xs : List (DataW H)} (hu : P.underlying t = some (.struct fs)) (h : ∀ n ∈ (DataW.agg xs).weights P t, n ≤ B) {i : Nat} {f : Field} {x : DataW H} (hf : fs.toList[i]? = some f) (hx : xs[i]? = some x) :
    ∀ n ∈ x.weights P f.type, n ≤ B := by
  have hw : (DataW.agg xs).weights P t = DataW.weightsEach P (fs.toList.map (·.type)) xs := by simp only [DataW.weights, hu]
  rw [hw] at h
  exact fun n hn => h n (DataW.weights_mem_each (j := i) (by rw [List.getElem?_map, hf]; rfl) hx n hn)

theorem light_string {s : List UInt8} (h : ∀ n ∈ (DataW.lit (H := H) (.string s)).weights P t, n ≤ B) : s.length ≤ B := h _ (by simp [DataW.weights])

theorem light_arg {ts : List TypeId} {ds : List (DataW H)} (h : (DataW.weightsEach P ts ds).all (· ≤ B) = true) {j : Nat} {x : DataW H} (ht : ts[j]? = some t) (hx : ds[j]? = some x) : ∀ n ∈ x.weights P t, n ≤ B := fun n hn => by
  simpa using List.all_eq_true.1 h n (DataW.weights_mem_each ht hx n hn)
end

theorem two_of {α : Type} {l : List α} (h : l.length = 2) : ∃ a b, l = [a, b] := by
  match l, h with
  | [a, b], _ => exact ⟨a, b, rfl⟩

def reach : Nat := 140737488355328
theorem reach_lt : reachBytes ≤ reach := Nat.le_of_lt reachBytes_lt

theorem bytes26 : Tryd.prog.bytesOf 26 = 32 := by kernel_rfl
theorem bytes22 : Tryd.prog.bytesOf 22 = 24 := by kernel_rfl
theorem bytes66 : Tryd.prog.bytesOf 66 = 24 := by kernel_rfl
theorem bytes38 : Tryd.prog.bytesOf 38 = 40 := by kernel_rfl

section
variable {H : Type} {x : DataW H} {d : D}

theorem row_light (h : Stands Tryd.prog 22 x d) (hw : ∀ n ∈ x.weights Tryd.prog 22, n ≤ reachBytes) : ∃ vs : List Val, IsRow d vs ∧ (∀ v ∈ vs, is64 v.n = true) ∧ vs.length ≤ reach := by
  obtain ⟨vs, h1, h2, h3⟩ := row_stands h
  refine ⟨vs, h1, h2, ?_⟩
  rcases h3 with ⟨_, rfl⟩ | ⟨xs, sp, rfl, hl⟩
  · simp
  · have := (light_slice Tryd.underlying22 hw).1
    rw [bytes26] at this
    have := reach_lt
    omega

theorem rows_light (h : Stands Tryd.prog 33 x d) (hw : ∀ n ∈ x.weights Tryd.prog 33, n ≤ reachBytes) :
    ∃ rs : List RowD, Rws d rs ∧ (∀ r ∈ rs, ∀ v ∈ r.2, is64 v.n = true) ∧ rs.length ≤ reach ∧ ∀ r ∈ rs, r.2.length ≤ reach := by
  rcases stands_slice Tryd.underlying33 h with ⟨rfl, rfl⟩ | ⟨xs, sp, es, rfl, rfl, hl, _, hall⟩
  · exact ⟨[], ⟨Or.inl ⟨rfl, rfl⟩, by simp⟩, by simp, by simp, by simp⟩
  · obtain ⟨h1, h2⟩ := light_slice Tryd.underlying33 hw
    obtain ⟨rs, rfl, hrs⟩ := all_map (R := fun x d => Stands Tryd.prog 22 x d ∧ ∀ n ∈ x.weights Tryd.prog 22, n ≤ reachBytes) (g := Prod.fst)
      (Q := fun r : RowD => IsRow r.1 r.2 ∧ (∀ v ∈ r.2, is64 v.n = true) ∧ r.2.length ≤ reach) hl (fun i x' e hx he => ⟨hall i x' e hx he, h2 x' (List.mem_of_getElem? hx)⟩)
      fun x' e ⟨hs, hwt⟩ => by
        obtain ⟨vs, g1, g2, g3⟩ := row_light hs hwt
        exact ⟨(e, vs), rfl, g1, g2, g3⟩
    rw [List.length_map] at hl
    refine ⟨rs, ⟨Or.inr rfl, fun r hr => (hrs r hr).1⟩, fun r hr => (hrs r hr).2.1, ?_, fun r hr => (hrs r hr).2.2⟩
    rw [bytes22] at h1
    have := reach_lt
    omega

theorem chan_light (h : Stands Tryd.prog 66 x d) (hw : ∀ n ∈ x.weights Tryd.prog 66, n ≤ reachBytes) : ∃ c : Chan, d = c.d ∧ c.name.length ≤ reach := by
  obtain ⟨xs, ds, rfl, rfl, hx, hd, hf⟩ := stands_struct Tryd.underlying66 h
  obtain ⟨x0, x1, rfl⟩ := two_of hx
  obtain ⟨a, b, rfl⟩ := two_of hd
  have hs := hf 0 _ x0 a rfl rfl rfl
  have hi := hf 1 _ x1 b rfl rfl rfl
  obtain ⟨s, rfl, rfl, _⟩ := str_stands Tryd.underlying9 hs
  obtain ⟨m, rfl, _⟩ := int_stands Tryd.underlying3 hi
  refine ⟨⟨s, m⟩, rfl, ?_⟩
  have h1 := light_string (light_struct Tryd.underlying66 hw (i := 0) rfl rfl)
  have h2 := reach_lt
  exact Nat.le_trans h1 h2

theorem chans_light (h : Stands Tryd.prog 34 x d) (hw : ∀ n ∈ x.weights Tryd.prog 34, n ≤ reachBytes) : ∃ cs : List Chan, IsChans d cs ∧ cs.length ≤ reach ∧ ∀ c ∈ cs, c.name.length ≤ reach := by
  rcases stands_slice Tryd.underlying34 h with ⟨rfl, rfl⟩ | ⟨xs, sp, es, rfl, rfl, hl, _, hall⟩
  · exact ⟨[], Or.inl ⟨rfl, rfl⟩, by simp, by simp⟩
  · obtain ⟨h1, h2⟩ := light_slice Tryd.underlying34 hw
    obtain ⟨cs, rfl, hcs⟩ := all_map (R := fun x d => Stands Tryd.prog 66 x d ∧ ∀ n ∈ x.weights Tryd.prog 66, n ≤ reachBytes) (g := Chan.d) (Q := fun c : Chan => c.name.length ≤ reach) hl
      (fun i x' e hx he => ⟨hall i x' e hx he, h2 x' (List.mem_of_getElem? hx)⟩) fun x' e ⟨hs, hwt⟩ => chan_light hs hwt
    rw [List.length_map] at hl
    refine ⟨cs, Or.inr rfl, ?_, hcs⟩
    rw [bytes66] at h1
    have := reach_lt
    omega

theorem told_stands (h : Stands Tryd.prog 38 x d) : ∃ o : Told, d = o.d ∧ is64 o.v.n = true := by
  obtain ⟨xs, ds, rfl, rfl, hx, hd, hf⟩ := stands_struct Tryd.underlying38 h
  match xs, hx, ds, hd, hf with
  | [x0, x1], _, [a, b], _, hf =>
    obtain ⟨m, rfl, _⟩ := int_stands Tryd.underlying3 (hf 0 _ x0 a rfl rfl rfl)
    obtain ⟨v, rfl, hv⟩ := val_stands (hf 1 _ x1 b rfl rfl rfl)
    exact ⟨⟨m, v⟩, rfl, hv⟩

theorem outs_light (h : Stands Tryd.prog 35 x d) (hw : ∀ n ∈ x.weights Tryd.prog 35, n ≤ reachBytes) : ∃ os : List Told, IsOuts d os ∧ (∀ o ∈ os, is64 o.v.n = true) ∧ os.length ≤ reach := by
  rcases stands_slice Tryd.underlying35 h with ⟨rfl, rfl⟩ | ⟨xs, sp, es, rfl, rfl, hl, _, hall⟩
  · exact ⟨[], Or.inl ⟨rfl, rfl⟩, by simp, by simp⟩
  · obtain ⟨h1, _⟩ := light_slice Tryd.underlying35 hw
    obtain ⟨os, rfl, hos⟩ := all_map (R := fun x d => Stands Tryd.prog 38 x d) (g := Told.d) (Q := fun o : Told => is64 o.v.n = true) hl hall fun x' e hs => told_stands hs
    rw [List.length_map] at hl
    refine ⟨os, Or.inr rfl, hos, ?_⟩
    rw [bytes38] at h1
    have := reach_lt
    omega
end

end Go.Proofs.YtfdcjngclelnhaaDoor
