/- An argument of a plain type (bool, int, string, slices and structs of these), as a row reads it, stands for plain data. -/
import Derived.Test.YtfdcjngclelnhaaDoorF
import Derived.Deep.Slices
set_option linter.unusedSectionVars false
set_option linter.unusedSimpArgs false
set_option linter.unusedVariables false
namespace Go.Proofs.YtfdcjngclelnhaaDoor
open Go Go.RowKit Go.ChangeShapes Go.WideShapes Go.Deep
set_option linter.unusedVariables false

/-- the fields lie one behind the other, from o to n -/
def contig (P : Program) : List Field → Nat → Nat → Bool
  | [], o, n => o == n
  | f :: fs, o, n => f.offset == o && contig P fs (o + P.cellsOf f.type) n

/-- bool, int, string, slices and structs of these -/
def plainT (P : Program) : Nat → TypeId → Bool
  | 0, _ => false
  | n + 1, t =>
    match P.underlying t with
    | some .bool | some (.int _) | some .string => true
    | some (.slice e) => decide (0 < P.cellsOf e) && plainT P n e
    | some (.struct fs) => contig P fs.toList 0 (P.cellsOf t) && fs.toList.all fun f => plainT P n f.type
    | _ => false

/-- what a row reads at this type, and the data that it is -/
inductive Stands {H : Type} (P : Program) : TypeId → DataW H → D → Prop where
  | bool {t : TypeId} (hu : P.underlying t = some .bool) (b : Bool) : Stands P t (.lit (.bool b)) (.bool b)
  | int {t : TypeId} {k : IntKind} (hu : P.underlying t = some (.int k)) (z : Int) (hw : (Lit.int k z).wf = true) : Stands P t (.lit (.int k z)) (.int k z)
  | str {t : TypeId} (hu : P.underlying t = some .string) (s : List UInt8) (hs : s.length ≤ maxLen) : Stands P t (.lit (.string s)) (.str s)
  | nils {t e : TypeId} (hu : P.underlying t = some (.slice e)) : Stands P t .nil .nils
  | slice {t e : TypeId} (hu : P.underlying t = some (.slice e)) (xs sp : List (DataW H)) (es : List D) (hl : es.length = xs.length) (hm : es.length ≤ maxLen)
      (h : ∀ (i : Nat) (x' : DataW H) (d' : D), xs[i]? = some x' → es[i]? = some d' → Stands P e x' d') : Stands P t (.slice xs sp) (.slice es)
  | struct {t : TypeId} {fs : Array Field} (hu : P.underlying t = some (.struct fs)) (xs : List (DataW H)) (ds : List D) (hx : xs.length = fs.size) (hd : ds.length = fs.size)
      (h : ∀ (i : Nat) (f : Field) (x' : DataW H) (d' : D), fs.toList[i]? = some f → xs[i]? = some x' → ds[i]? = some d' → Stands P f.type x' d') : Stands P t (.agg xs) (.agg (ds.flatMap D.cells))

section
variable {H : Type} {P : Program} {t : TypeId} {x : DataW H} {d : D}
theorem stands_bool (hu : P.underlying t = some .bool) (h : Stands P t x d) : ∃ b, x = .lit (.bool b) ∧ d = .bool b := by
  cases h with
  | bool _ b => exact ⟨b, rfl, rfl⟩
  | _ => simp_all
theorem stands_int {k : IntKind} (hu : P.underlying t = some (.int k)) (h : Stands P t x d) : ∃ z, x = .lit (.int k z) ∧ d = .int k z ∧ (Lit.int k z).wf = true := by
  cases h with
  | int hu' z hw => rw [hu] at hu'; cases hu'; exact ⟨z, rfl, rfl, hw⟩
  | _ => simp_all
theorem stands_string (hu : P.underlying t = some .string) (h : Stands P t x d) : ∃ s, x = .lit (.string s) ∧ d = .str s ∧ s.length ≤ maxLen := by
  cases h with
  | str hu' s hw => exact ⟨s, rfl, rfl, hw⟩
  | _ => simp_all
theorem stands_slice {e : TypeId} (hu : P.underlying t = some (.slice e)) (h : Stands P t x d) :
    (x = .nil ∧ d = .nils) ∨ ∃ (xs sp : List (DataW H)) (es : List D), x = .slice xs sp ∧ d = .slice es ∧ es.length = xs.length ∧ es.length ≤ maxLen ∧ ∀ (i : Nat) (x' : DataW H) (d' : D), xs[i]? = some x' → es[i]? = some d' → Stands P e x' d' := by
  cases h with
  | nils _ => exact Or.inl ⟨rfl, rfl⟩
  | slice hu' xs sp es hl hm h => rw [hu] at hu'; cases hu'; exact Or.inr ⟨xs, sp, es, rfl, rfl, hl, hm, h⟩
  | _ => simp_all
theorem stands_struct {fs : Array Field} (hu : P.underlying t = some (.struct fs)) (h : Stands P t x d) :
    ∃ (xs : List (DataW H)) (ds : List D), x = .agg xs ∧ d = .agg (ds.flatMap D.cells) ∧ xs.length = fs.size ∧ ds.length = fs.size ∧ ∀ (i : Nat) (f : Field) (x' : DataW H) (d' : D), fs.toList[i]? = some f → xs[i]? = some x' → ds[i]? = some d' → Stands P f.type x' d' := by
  cases h with
  | struct hu' xs ds hx hd h => rw [hu] at hu'; cases hu'; exact ⟨xs, ds, rfl, rfl, hx, hd, h⟩
  | _ => simp_all
end

variable [BaseT]

theorem Cells.nil {imm : Imm} (b o sz : Nat) : Cells imm b o sz [] := ⟨by simp, [], .nil, by simp⟩

theorem Cells.snoc {imm : Imm} {b o sz : Nat} {es : List D} (h : Cells imm b o sz es) {e : D} {us : List Value} (hl : e.cells.length = sz) (hd : DenDL imm e.cells us)
    (hu : ∀ (j : Nat) (v : Value), us[j]? = some v → imm ⟨b, o + es.length * sz + j, none⟩ = some v) : Cells imm b o sz (es ++ [e]) := by
  obtain ⟨h1, vs, h2, h3⟩ := h
  refine ⟨fun x hx => ?_, vs ++ us, ?_, fun j v hv => ?_⟩
  · rcases List.mem_append.1 hx with hx | hx
    · exact h1 x hx
    · rw [List.mem_singleton.1 hx]; exact hl
  · rw [List.flatMap_append]
    simpa using h2.append hd
  · have hvl : vs.length = es.length * sz := by rw [h2.length, flat_length h1]
    by_cases hj : j < vs.length
    · rw [List.getElem?_append_left hj] at hv; exact h3 j v hv
    · rw [List.getElem?_append_right (by omega)] at hv
      have := hu _ v hv
      rwa [show o + es.length * sz + (j - vs.length) = o + j by omega] at this

theorem Cells.of_each {imm : Imm} {b o sz : Nat} {f : Nat → D} : ∀ (n : Nat), (∀ i, i < n → (f i).cells.length = sz ∧ ∃ us, DenDL imm (f i).cells us ∧ ∀ (j : Nat) (v : Value), us[j]? = some v → imm ⟨b, o + i * sz + j, none⟩ = some v) →
    Cells imm b o sz ((List.range n).map f)
  | 0, _ => Cells.nil b o sz
  | n + 1, h => by
    rw [List.range_succ, List.map_append]
    obtain ⟨h1, us, h2, h3⟩ := h n (by omega)
    exact Cells.snoc (Cells.of_each n fun i hi => h i (by omega)) h1 h2 (by simpa using h3)

theorem DenDL.mono_in {imm imm' : Imm} {ds : List D} {vs : List Value} (h : DenDL imm ds vs) (hi : ∀ a v, imm a = some v → imm' a = some v) : DenDL imm' ds vs := h.mono hi

theorem cell_spot {w : World} {a : Addr} {v : Value} (h : w.cell? a = some v) : a.spot = none := by
  unfold World.cell? at h
  split at h
  · cases hs : a.spot with
    | none => rfl
    | some x => rw [hs] at h; cases h
  · cases h

section
variable {H : Type} {enc : TypeId × Value → H} {P : Program} {w : World} {held : Bool} {spare : Nat → Bool}

theorem struct_den {n m : Nat} (ih : ∀ t cs x ps, plainT P n t = true → DataW.trod enc P w 0 spare held m t cs = some (x, ps) → ∃ d, Stands P t x d ∧ DenDL w.cell? d.cells cs) {cs : List Value} :
    ∀ (fs : List Field) (o : Nat) (xs : List (DataW H × List MemPlace)), contig P fs o cs.length = true → (fs.all fun f => plainT P n f.type) = true → xs.length = fs.length →
      (∀ (i : Nat) (f : Field), fs[i]? = some f → DataW.trod enc P w 0 spare held m f.type ((cs.drop f.offset).take (P.cellsOf f.type)) = xs[i]?) →
      ∃ ds : List D, ds.length = fs.length ∧ (∀ (i : Nat) (f : Field) (x' : DataW H) (d' : D), fs[i]? = some f → (xs.map (·.1))[i]? = some x' → ds[i]? = some d' → Stands P f.type x' d') ∧ DenDL w.cell? (ds.flatMap D.cells) (cs.drop o)
  | [], o, xs, hc, _, _, _ => by
    refine ⟨[], rfl, fun i f x' d' h => by simp at h, ?_⟩
    have : o = cs.length := by simpa [contig] using hc
    rw [this, List.drop_length]
    exact .nil
  | f :: fs, o, [], _, _, hl, _ => by simp at hl
  | f :: fs, o, x :: xs, hc, hp, hl, hf => by
    simp only [contig, Bool.and_eq_true, beq_iff_eq] at hc
    simp only [List.all_cons, Bool.and_eq_true] at hp
    obtain ⟨hco, hc⟩ := hc
    have h0 := hf 0 f rfl
    simp only [List.getElem?_cons_zero] at h0
    obtain ⟨d, hs, hd⟩ := ih f.type _ x.1 x.2 hp.1 h0
    obtain ⟨ds, hl', hst, hden⟩ := struct_den ih fs (o + P.cellsOf f.type) xs hc hp.2 (by simpa using hl) fun i g hg => by simpa using hf (i + 1) g (by simpa using hg)
    refine ⟨d :: ds, by simp [hl'], fun i g x' d' h1 h2 h3 => ?_, ?_⟩
    · cases i with
      | zero =>
        simp at h1 h2 h3
        subst h1; subst h2; subst h3
        exact hs
      | succ i => exact hst i g x' d' (by simpa using h1) (by simpa using h2) (by simpa using h3)
    · rw [List.flatMap_cons]
      have e : cs.drop o = (cs.drop f.offset).take (P.cellsOf f.type) ++ cs.drop (o + P.cellsOf f.type) := by
        rw [hco, ← List.drop_drop, List.take_append_drop]
      rw [e]
      exact hd.append hden

theorem stands_of_trod : ∀ (n m : Nat) (t : TypeId) (cs : List Value) (x : DataW H) (ps : List MemPlace), plainT P n t = true → DataW.trod enc P w 0 spare held m t cs = some (x, ps) →
    ∃ d, Stands P t x d ∧ DenDL w.cell? d.cells cs := by
  intro n
  induction n with
  | zero => intro m t cs x ps h; cases h
  | succ n ih =>
    intro m t cs x ps hp h
    have hp' := hp
    unfold plainT at hp'
    match hu : P.underlying t with
    | some .bool =>
      obtain ⟨b, rfl, hx⟩ := DataW.trod_bool hu h
      cases hx
      exact ⟨.bool b, .bool hu b, .cons (.bool b) .nil⟩
    | some (.int k) =>
      obtain ⟨z, rfl, hx, hw⟩ := DataW.trod_int hu h
      cases hx
      exact ⟨.int k z, .int hu z hw, .cons (.int k z) .nil⟩
    | some .string =>
      obtain ⟨s, rfl, hx, hs⟩ := DataW.trod_string hu h
      cases hx
      refine ⟨.str s.data.toList, .str hu _ (by rw [Array.length_toList]; exact hs), .cons ?_ .nil⟩
      have := DenD.str (imm := w.cell?) s.data.toList
      rwa [Array.toArray_toList] at this
    | some (.slice e) =>
      rw [hu] at hp'
      simp only [Bool.and_eq_true, decide_eq_true_eq] at hp'
      rcases open_slice hu h with ⟨rfl, hx⟩ | ⟨a, len, cap, k, m', Dx, Pl, rfl, _, hlc, hcm, hk, hx, hel⟩
      · cases hx
        exact ⟨.nils, .nils hu, .cons .nils .nil⟩
      · cases hx
        have hlk : len ≤ k := by rw [hk]; split <;> omega
        have each : ∀ i, i < len → ∃ d : D, Stands P e (Dx i) d ∧ ∃ us, w.cells? 0 (a.add (i * P.cellsOf e)) (P.cellsOf e) = some us ∧ DenDL w.cell? d.cells us := by
          intro i hi
          obtain ⟨us, h1, h2⟩ := hel i (by omega)
          obtain ⟨d, h3, h4⟩ := ih m' e us (Dx i) (Pl i) hp'.2 h2
          exact ⟨d, h3, us, h1, h4⟩
        obtain ⟨f, hf⟩ := @choose_lt D ⟨.nils⟩ len _ each
        refine ⟨.slice ((List.range len).map f), .slice hu _ _ _ (by simp) (by simp; omega) (fun i x' d' h1 h2 => ?_), ?_⟩
        · rw [List.getElem?_map, Option.map_eq_some_iff] at h1 h2
          obtain ⟨i1, g1, rfl⟩ := h1
          obtain ⟨i2, g2, rfl⟩ := h2
          have hi := (List.getElem?_eq_some_iff.1 g1).1
          simp only [List.length_range] at hi
          rw [List.getElem?_range hi] at g1 g2
          cases g1; cases g2
          exact (hf i hi).1
        · refine .cons ?_ .nil
          have hden : DenD w.cell? (.slice ((List.range len).map f)) (.slice (some a) ((List.range len).map f).length cap) := by
            refine DenD.of_cells (b := a.block) (o := a.off) (sz := P.cellsOf e) (by simpa using hlc) (fun hne => ?_) (Cells.of_each len fun i hi => ?_)
            · have h0 : 0 < len := by
                rcases Nat.eq_zero_or_pos len with h0 | h0
                · subst h0; exact (hne rfl).elim
                · exact h0
              obtain ⟨_, us, hus, _⟩ := hf 0 h0
              obtain ⟨_, hl, hc⟩ := World.cells?_some hus
              have hc0 := hc 0 hp'.1
              have hus0 : us[0]? = some us[0] := List.getElem?_eq_getElem (by omega)
              have e1 : ((a.add (0 * P.cellsOf e)).add 0) = a := by simp [Addr.add]
              rw [e1, hus0] at hc0
              have hsp := cell_spot hc0
              cases a; simp_all
            · obtain ⟨_, us, hus, hd⟩ := hf i hi
              obtain ⟨_, hl, hc⟩ := World.cells?_some hus
              refine ⟨by rw [← hd.length]; exact hl, us, hd, fun j v hv => ?_⟩
              have hj : j < P.cellsOf e := by rw [← hl]; exact (List.getElem?_eq_some_iff.1 hv).1
              have hc' := hc j hj
              rw [hv, add_add] at hc'
              -- the address is plain: the cell is there
              have hplain : a.add (i * P.cellsOf e + j) = ⟨a.block, a.off + i * P.cellsOf e + j, none⟩ := by
                unfold Addr.add
                split
                · rename_i hz
                  have hsp : a.spot = none := by
                    rw [hz] at hc'
                    exact cell_spot hc'
                  obtain ⟨ab, ao, asp⟩ := a
                  simp only at hsp
                  subst hsp
                  simp only [Addr.mk.injEq, true_and, and_true]
                  omega
                · simp [Nat.add_assoc]
              rw [hplain] at hc'
              exact hc'
          simpa using hden
    | some (.struct fs) =>
      rw [hu] at hp'
      simp only [Bool.and_eq_true] at hp'
      obtain ⟨xs, k, hk, hxy, hlen, hxl, hf⟩ := DataW.trod_struct hu h
      cases hxy
      rw [← hlen] at hp'
      obtain ⟨ds, h1, h2, h3⟩ := struct_den (fun t cs x ps => ih k t cs x ps) fs.toList 0 xs hp'.1 hp'.2 (by simpa using hxl) fun i f hif => hf i f (by simpa using hif)
      exact ⟨.agg (ds.flatMap D.cells), .struct hu _ ds (by simpa using hxl) (by simpa using h1) (fun i f x' d' g1 g2 g3 => h2 i f x' d' g1 g2 g3), by
        show DenDL w.cell? (ds.flatMap D.cells) cs
        simpa using h3⟩
    | none | some .invalid | some (.pointer _) | some (.array _ _) | some (.float _) | some (.complex _) | some (.interface _) | some (.func _ _ _) | some (.chan _ _) | some .unsafePointer | some (.map _ _) | some (.named _ _) | some (.tuple _) => rw [hu] at hp'; cases hp'

theorem cells_self {v : Value} (h : ∀ cs, v ≠ .agg cs) : v.cells.toList = [v] := by
  cases v with
  | agg cs => exact (h cs rfl).elim
  | _ => rfl

theorem not_agg {r : Reach} {base : Nat} {t : TypeId} {v : Value} (hu : P.underlying t = some .bool ∨ (∃ k, P.underlying t = some (.int k)) ∨ P.underlying t = some .string ∨ ∃ e, P.underlying t = some (.slice e)) (hv : Value.okWide P w r base t v) : ∀ cs, v ≠ .agg cs := by
  rintro cs rfl
  unfold Value.okWide at hv
  rcases hu with hu | ⟨k, hu⟩ | hu | ⟨e, hu⟩ <;> simp [hu, Cell.okWide, Cell.ok] at hv

/-- an argument that is right and that is read stands for data -/
theorem stands_val {n : Nat} {r : Reach} {base : Nat} {t : TypeId} {v : Value} {x : DataW H} {ps : List MemPlace} (hp : plainT P n t = true) (hv : Value.okWide P w r base t v) (h : DataW.Trod enc P w 0 spare held t v x ps) :
    ∃ d, Stands P t x d ∧ DenD w.cell? d v := by
  obtain ⟨m, hm⟩ := h
  obtain ⟨d, hs, hd⟩ := stands_of_trod n m t _ x ps hp hm
  refine ⟨d, hs, ?_⟩
  have one : (∀ cs, v ≠ .agg cs) → d.cells = [d] → DenD w.cell? d v := by
    intro h1 h2
    rw [cells_self h1, h2] at hd
    cases hd with
    | cons hd _ => exact hd
  cases n with
  | zero => cases hp
  | succ n =>
    unfold plainT at hp
    match hu : P.underlying t with
    | some .bool =>
      obtain ⟨b, _, rfl⟩ := stands_bool hu hs
      exact one (not_agg (Or.inl hu) hv) rfl
    | some (.int k) =>
      obtain ⟨z, _, rfl, _⟩ := stands_int hu hs
      exact one (not_agg (Or.inr (Or.inl ⟨k, hu⟩)) hv) rfl
    | some .string =>
      obtain ⟨z, _, rfl, _⟩ := stands_string hu hs
      exact one (not_agg (Or.inr (Or.inr (Or.inl hu))) hv) rfl
    | some (.slice e) =>
      have h1 := not_agg (Or.inr (Or.inr (Or.inr ⟨e, hu⟩))) hv
      rcases stands_slice hu hs with ⟨_, rfl⟩ | ⟨_, _, _, _, rfl, _⟩ <;> exact one h1 rfl
    | some (.struct fs) =>
      obtain ⟨xs, ds, _, rfl, _⟩ := stands_struct hu hs
      unfold Value.okWide at hv
      rw [hu] at hv
      obtain ⟨cs, rfl, _⟩ := hv
      exact .of_agg hd
    | none | some .invalid | some (.pointer _) | some (.array _ _) | some (.float _) | some (.complex _) | some (.interface _) | some (.func _ _ _) | some (.chan _ _) | some .unsafePointer | some (.map _ _) | some (.named _ _) | some (.tuple _) => rw [hu] at hp; cases hp
end

end Go.Proofs.YtfdcjngclelnhaaDoor
