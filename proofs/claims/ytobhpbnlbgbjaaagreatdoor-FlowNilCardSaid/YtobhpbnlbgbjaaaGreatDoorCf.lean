/- Free boxes, maps, iterators: new ones, and those that turn. -/
import Derived.Test.YtobhpbnlbgbjaaaGreatDoorD7
set_option linter.unusedSectionVars false
set_option linter.unusedSimpArgs false
set_option linter.unusedVariables false
set_option linter.unusedSimpArgs false
namespace Go.Proofs.YtobhpbnlbgbjaaaGreatDoor
open Go Go.RowKit
set_option linter.unusedSectionVars false

mutual
theorem under_mono {n m : Nat} (h : n ≤ m) : ∀ {x : AV}, x.under n = true → x.under m = true
  | .dat _, _ => rfl
  | .own .full _, _ => rfl
  | .own (.tip i) _, hx => by simp only [AV.under, decide_eq_true_eq] at hx ⊢; omega
  | .own (.at i _ _ _) _, hx => by simp only [AV.under, decide_eq_true_eq] at hx ⊢; omega
  | .ptr none, _ => rfl
  | .ptr (some (i, _)), hx => by simp only [AV.under, decide_eq_true_eq] at hx ⊢; omega
  | .ep _ _, _ => rfl
  | .func _ a c, hx => by simp only [AV.under, Bool.and_eq_true] at hx ⊢; exact ⟨undersL_mono h hx.1, undersL_mono h hx.2⟩
  | .nilFunc, _ => rfl
  | .iface _ v, hx => by simp only [AV.under] at hx ⊢; exact under_mono h hx
  | .nilIface, _ => rfl
  | .agg cs, hx => by simp only [AV.under] at hx ⊢; exact undersL_mono h hx
  | .tuple cs, hx => by simp only [AV.under] at hx ⊢; exact undersL_mono h hx
  | .sdata i _ _ _ _, hx => by simp only [AV.under, decide_eq_true_eq] at hx ⊢; omega
  | .fp i _ _, hx => by simp only [AV.under, decide_eq_true_eq] at hx ⊢; omega
  | .row i _ _ _ _, hx => by simp only [AV.under, decide_eq_true_eq] at hx ⊢; omega
  | .mapv none, _ => rfl
  | .any, _ => rfl
  | .mapv (some i), hx => by simp only [AV.under, decide_eq_true_eq] at hx ⊢; omega
theorem undersL_mono {n m : Nat} (h : n ≤ m) : ∀ {l : List AV}, undersL n l = true → undersL m l = true
  | [], _ => rfl
  | x :: l, hx => by simp only [undersL, Bool.and_eq_true] at hx ⊢; exact ⟨under_mono h hx.1, undersL_mono h hx.2⟩
end

theorem undersL_append {n : Nat} : ∀ {a b : List AV}, undersL n a = true → undersL n b = true → undersL n (a ++ b) = true
  | [], _, _, h => h
  | x :: a, b, h, k => by
    simp only [undersL, Bool.and_eq_true, List.cons_append] at h ⊢
    exact ⟨h.1, undersL_append h.2 k⟩

theorem undersL_take {n : Nat} : ∀ {a : List AV} (m : Nat), undersL n a = true → undersL n (a.take m) = true
  | [], m, h => by simpa using h
  | x :: a, 0, h => rfl
  | x :: a, m + 1, h => by
    simp only [undersL, Bool.and_eq_true, List.take_succ_cons] at h ⊢
    exact ⟨h.1, undersL_take m h.2⟩

theorem undersL_drop {n : Nat} : ∀ {a : List AV} (m : Nat), undersL n a = true → undersL n (a.drop m) = true
  | [], m, h => by simpa using h
  | x :: a, 0, h => h
  | x :: a, m + 1, h => by
    simp only [undersL, Bool.and_eq_true, List.drop_succ_cons] at h ⊢
    exact undersL_drop m h.2

theorem limA_ok {h : Heap} {lim lim' : Nat} {ws : List AV} (hl : limA h lim ws = some lim') : lim ≤ lim' ∧ undersL lim' ws = true := by
  unfold limA at hl
  split at hl
  · rename_i hu; cases hl; exact ⟨Nat.le_refl _, hu⟩
  · split at hl
    · rename_i hu; cases hl; exact ⟨by omega, undersL_mono (by omega) hu⟩
    · exact nomatch hl

def withFr (K : KW) (id b n : Nat) : KW := { K with blk := fun i => if i = id then some b else K.blk i, row := fun i v => if i = id ∧ v = 0 then some ⟨b, 0, n⟩ else K.row i v }

theorem kext_withFr {K : KW} {id b n : Nat} (h : K.blk id = none) (hr : ∀ v, K.row id v = none) : Kext K (withFr K id b n) where
  base := rfl
  imm := fun _ _ h => h
  blk := fun i b' hb => by
    simp only [withFr]
    split
    · rename_i e; rw [e, h] at hb; exact nomatch hb
    · exact hb
  key := fun _ _ h => h
  old := fun _ _ => rfl
  row := fun i v r hv => by
    simp only [withFr]
    split
    · rename_i e; rw [e.1, hr] at hv; exact nomatch hv
    · exact hv

section
variable {K : KW} {hc : Nat → Option AObj} {V : Nat → Prop} {w : World} {ow : Nat → Option OKey}

/-- a new free box, a new map, a new iterator -/
theorem OkW.newFr (hk : OkW K hc V w ow) {id : Nat} (hv : V id) {o : AObj} (ho : o.isFr = true) {obj : Obj} {n : Nat} (hat : FreeAt (withFr K id w.heap.size n) id o w.heap.size obj) :
    ∃ ow', OkW (withFr K id w.heap.size n) (upd hc id (some o)) (fun i => V i ∧ i ≠ id) (w.alloc obj) ow' ∧ Kext K (withFr K id w.heap.size n) := by
  obtain ⟨f1, f2, f3, f4⟩ := hk.fresh id hv
  have f5 := hk.freshr id hv
  have hext := kext_withFr (b := w.heap.size) (n := n) f2 f5
  have hp := hk.push obj
  have hne : ∀ b' k, ow b' = some k → b' ≠ w.heap.size := fun b' k h1 => by have := hk.own b' k h1; omega
  let ow' : Nat → Option OKey := fun b => if b = w.heap.size then some (.fr id) else ow b
  have how : ∀ b' k, ow b' = some k → ow' b' = some k := fun b' k h1 => by simp [ow', hne b' k h1, h1]
  have hrow : ∀ i v, i ≠ id → (withFr K id w.heap.size n).row i v = K.row i v := fun i v h => by simp [withFr, h]
  refine ⟨ow', ⟨hp.imm, hp.below, fun id' e' cs' ver' hid => ?_, fun id' e' n sz hid => ?_, fun id' e' n sz hid => ?_, fun id' hv' => ?_, fun id' e' cs' ver' hid => ?_, fun b k hb => ?_, fun id' o' hid ho' => ?_, fun id' hv' v => (hrow id' v hv'.2).trans (hk.freshr id' hv'.1 v)⟩, hext⟩
  · by_cases hi : id' = id
    · subst hi; rw [upd_same] at hid; cases hid; cases ho
    · rw [upd_ne hi] at hid
      obtain ⟨b, vs', hbox⟩ := hp.box id' e' cs' ver' hid
      refine ⟨b, vs', hext.blk _ _ hbox.blk, how _ _ hbox.own, hbox.base, hbox.heap, hbox.imm, hbox.den.mono hext, fun i c hi => ?_, hbox.under⟩
      exact (hbox.cell i c hi).mono hext (Nat.le_refl _) fun r n v hf ho => ⟨⟨hf.blk, hf.imm, hf.base⟩, how _ _ ho⟩
  · by_cases hi : id' = id
    · subst hi; rw [upd_same] at hid; cases hid; cases ho
    · rw [upd_ne hi] at hid
      obtain ⟨r, h1, h2, h3, h4, h5⟩ := hp.tip id' e' n sz hid
      exact ⟨r, h1, h2, h3, ⟨h4.blk, h4.imm, h4.base⟩, how _ _ h5⟩
  · by_cases hi : id' = id
    · subst hi; rw [upd_same] at hid; cases hid; cases ho
    · rw [upd_ne hi] at hid; exact hk.more id' e' n sz hid
  · obtain ⟨g1, g2, g3, g4⟩ := hk.fresh id' hv'.1
    exact ⟨by rw [upd_ne hv'.2]; exact g1, by simp [withFr, hv'.2, g2], g3, g4⟩
  · by_cases hi : id' = id
    · subst hi; rw [upd_same] at hid; cases hid; cases ho
    · rw [upd_ne hi] at hid; exact hk.ver id' e' cs' ver' hid
  · simp only [ow'] at hb
    rw [size_pushW]
    split at hb
    · omega
    · have := hk.own b k hb; omega
  · by_cases hi : id' = id
    · subst hi; rw [upd_same] at hid; cases hid
      refine ⟨w.heap.size, obj, hat, heap_pushW_new _ _, by simp [ow'], hk.base_le, fun off sp => ?_⟩
      show K.imm _ = none
      cases hm : K.imm ⟨w.heap.size, off, sp⟩ with
      | none => rfl
      | some v =>
        have := hk.imm _ _ hm
        obtain ⟨vs, e, f, h1, _⟩ := cell_block this
        have := lt_of_heap h1
        simp at this
    · rw [upd_ne hi] at hid
      exact (hp.fr id' o' hid ho').mono hext (fun v => hrow id' v hi) fun b hb => ⟨rfl, how _ _ hb, fun _ _ h => h⟩

/-- a free box, a map, an iterator turns -/
theorem OkW.turnFr (hk : OkW K hc V w ow) {id : Nat} {o o' : AObj} (hid : hc id = some o) (ho : o.isFr = true) (ho' : o'.isFr = true) {row : Nat → Nat → Option RRow} {w' : World} {b2 : Nat} {obj' : Obj}
    (hrow : ∀ i v r, K.row i v = some r → row i v = some r) (hrow' : ∀ i v, i ≠ id → row i v = K.row i v)
    (hat : FreeAt { K with row := row } id o' b2 obj') (hb2 : w'.heap[b2]? = some obj') (hbase : ¬ K.base.old b2) (himm : ∀ off sp, K.imm ⟨b2, off, sp⟩ = none) (hfree : ow b2 = none ∨ ow b2 = some (.fr id))
    (hbel : BelowB K.base w') (hsz : w.heap.size ≤ w'.heap.size) (hsame : ∀ x k, ow x = some k → k ≠ .fr id → w'.heap[x]? = w.heap[x]?) (hcell : ∀ a c, K.imm a = some c → w'.cell? a = some c) :
    OkW { K with row := row } (upd hc id (some o')) V w' (fun x => if x = b2 then some (.fr id) else ow x) ∧ Kext K { K with row := row } := by
  have hext : Kext K { K with row := row } := ⟨rfl, fun _ _ h => h, fun _ _ h => h, fun _ _ h => h, fun _ _ => rfl, hrow⟩
  have how : ∀ x k, ow x = some k → k ≠ .fr id → (if x = b2 then some (.fr id) else ow x) = some k := fun x k h1 h2 => by
    have : x ≠ b2 := by
      rintro rfl
      rcases hfree with h | h
      · rw [h] at h1; cases h1
      · rw [h] at h1; exact h2 (Option.some.inj h1).symm
    rw [if_neg this]; exact h1
  have hnf : ∀ id' : Nat, id' ≠ id → OKey.fr id' ≠ .fr id := fun id' h e => h (OKey.fr.inj e)
  have hV : ∀ i, V i → i ≠ id := fun i hi e => by have := (hk.fresh i hi).1; rw [e, hid] at this; cases this
  have hfr : ∀ r n k, Free K w r n → ow r.b = some k → k ≠ .fr id → Free { K with row := row } w' r n := fun r n k hf h1 h2 => ⟨by obtain ⟨vs, lo, hi, h3, h4⟩ := hf.blk; exact ⟨vs, lo, hi, (hsame _ _ h1 h2).trans h3, h4⟩, hf.imm, hf.base⟩
  refine ⟨⟨hcell, hbel, fun id' e' cs' ver' hid' => ?_, fun id' e' n sz hid' => ?_, fun id' e' n sz hid' => ?_, fun id' hv' => ?_, fun id' e' cs' ver' hid' => ?_, fun b k hb => ?_, fun id' o'' hid' ho'' => ?_, fun id' hv' v => (hrow' id' v (hV id' hv')).trans (hk.freshr id' hv' v)⟩, hext⟩
  · by_cases hi : id' = id
    · subst hi; rw [upd_same] at hid'; cases hid'; cases ho'
    · rw [upd_ne hi] at hid'
      obtain ⟨b, vs', hbox⟩ := hk.box id' e' cs' ver' hid'
      refine ⟨b, vs', hbox.blk, how _ _ hbox.own (fun e => nomatch e), hbox.base, (hsame _ _ hbox.own (fun e => nomatch e)).trans hbox.heap, hbox.imm, hbox.den.mono hext, fun i c hi => ?_, hbox.under⟩
      exact (hbox.cell i c hi).mono hext (Nat.le_refl _) fun r n v hf ho => ⟨hfr r n _ hf ho (fun e => nomatch e), how _ _ ho (fun e => nomatch e)⟩
  · by_cases hi : id' = id
    · subst hi; rw [upd_same] at hid'; cases hid'; cases ho'
    · rw [upd_ne hi] at hid'
      obtain ⟨r, h1, h2, h3, h4, h5⟩ := hk.tip id' e' n sz hid'
      exact ⟨r, h1, h2, h3, hfr r n _ h4 h5 (fun e => nomatch e), how _ _ h5 (fun e => nomatch e)⟩
  · by_cases hi : id' = id
    · subst hi; rw [upd_same] at hid'; cases hid'; cases ho'
    · rw [upd_ne hi] at hid'; exact hk.more id' e' n sz hid'
  · obtain ⟨g1, g2, g3, g4⟩ := hk.fresh id' hv'
    exact ⟨by rw [upd_ne (hV id' hv')]; exact g1, g2, g3, g4⟩
  · by_cases hi : id' = id
    · subst hi; rw [upd_same] at hid'; cases hid'; cases ho'
    · rw [upd_ne hi] at hid'; exact hk.ver id' e' cs' ver' hid'
  · split at hb
    · rename_i e; rw [e]; exact lt_of_heap hb2
    · have := hk.own b k hb; omega
  · by_cases hi : id' = id
    · subst hi; rw [upd_same] at hid'; cases hid'
      exact ⟨b2, obj', hat, hb2, if_pos rfl, hbase, himm⟩
    · rw [upd_ne hi] at hid'
      refine (hk.fr id' o'' hid' ho'').mono hext (fun v => hrow' id' v hi) fun b hb => ⟨hsame _ _ hb (hnf id' hi), how _ _ hb (hnf id' hi), fun _ _ h => h⟩

/-- a free box is let go -/
theorem OkW.letFr (hk : OkW K hc V w ow) {id : Nat} {o : AObj} (hid : hc id = some o) (ho : o.isFr = true) {b : Nat} (hb : ow b = some (.fr id)) : OkW K (upd hc id none) V w (fun x => if x = b then none else ow x) := by
  have how : ∀ x k, ow x = some k → k ≠ .fr id → (if x = b then none else ow x) = some k := fun x k h1 h2 => by
    have : x ≠ b := by rintro rfl; rw [hb] at h1; exact h2 (Option.some.inj h1).symm
    rw [if_neg this]; exact h1
  have hnf : ∀ id' : Nat, id' ≠ id → OKey.fr id' ≠ .fr id := fun id' h e => h (OKey.fr.inj e)
  have hV : ∀ i, V i → i ≠ id := fun i hi e => by have := (hk.fresh i hi).1; rw [e, hid] at this; cases this
  refine ⟨hk.imm, hk.below, fun id' e' cs' ver' hid' => ?_, fun id' e' n sz hid' => ?_, fun id' e' n sz hid' => ?_, fun id' hv' => ?_, fun id' e' cs' ver' hid' => ?_, fun b' k hb' => ?_, fun id' o'' hid' ho'' => ?_, hk.freshr⟩
  · by_cases hi : id' = id
    · subst hi; rw [upd_same] at hid'; cases hid'
    · rw [upd_ne hi] at hid'
      obtain ⟨b, vs', hbox⟩ := hk.box id' e' cs' ver' hid'
      refine ⟨b, vs', hbox.blk, how _ _ hbox.own (fun e => nomatch e), hbox.base, hbox.heap, hbox.imm, hbox.den, fun i c hi => ?_, hbox.under⟩
      exact (hbox.cell i c hi).mono (Kext.refl K) (Nat.le_refl _) fun r n v hf ho => ⟨hf, how _ _ ho (fun e => nomatch e)⟩
  · by_cases hi : id' = id
    · subst hi; rw [upd_same] at hid'; cases hid'
    · rw [upd_ne hi] at hid'
      obtain ⟨r, h1, h2, h3, h4, h5⟩ := hk.tip id' e' n sz hid'
      exact ⟨r, h1, h2, h3, h4, how _ _ h5 (fun e => nomatch e)⟩
  · by_cases hi : id' = id
    · subst hi; rw [upd_same] at hid'; cases hid'
    · rw [upd_ne hi] at hid'; exact hk.more id' e' n sz hid'
  · obtain ⟨g1, g2, g3, g4⟩ := hk.fresh id' hv'
    exact ⟨by rw [upd_ne (hV id' hv')]; exact g1, g2, g3, g4⟩
  · by_cases hi : id' = id
    · subst hi; rw [upd_same] at hid'; cases hid'
    · rw [upd_ne hi] at hid'; exact hk.ver id' e' cs' ver' hid'
  · split at hb'
    · cases hb'
    · exact hk.own b' k hb'
  · by_cases hi : id' = id
    · subst hi; rw [upd_same] at hid'; cases hid'
    · rw [upd_ne hi] at hid'
      exact (hk.fr id' o'' hid' ho'').mono (Kext.refl K) (fun _ => rfl) fun b' hb' => ⟨rfl, how _ _ hb' (hnf id' hi), fun _ _ h => h⟩

end
end Go.Proofs.YtobhpbnlbgbjaaaGreatDoor
