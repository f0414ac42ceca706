/- Heaps with a frame; new boxes; stores. -/
import Derived.Test.YtobhpbnlbgbjaaaGreatDoorCf
import Derived.Lib.FrozenHead
set_option linter.unusedSectionVars false
set_option linter.unusedSimpArgs false
set_option linter.unusedVariables false
set_option linter.unusedSimpArgs false
namespace Go.Proofs.YtobhpbnlbgbjaaaGreatDoor
open Go Go.RowKit
set_option linter.unusedSectionVars false
variable [mode : Inhabited ModeT]

/-- a heap, its holes filled by a frame -/
def comb (h : Heap) (HF : Nat → Option AObj) : Nat → Option AObj := fun i =>
  match h[i]? with
  | some (some o) => some o
  | some none => HF i
  | none => none

structure Fit (K : KW) (h : Heap) (HF : Nat → Option AObj) (V : Nat → Prop) (w : World) : Prop where
  ok : Ok K (comb h HF) V w
  hf : ∀ i o, HF i = some o → h[i]? = some none
  vlen : ∀ i, h.length ≤ i → V i

/-- which names are still fresh -/
def afterV (place : Option Nat) (n n' : Nat) (V : Nat → Prop) : Nat → Prop := fun i => V i ∧ place ≠ some i ∧ (i < n ∨ n' ≤ i)

section
variable {P : Program} {K : KW} {w : World} {h : Heap} {HF : Nat → Option AObj} {V : Nat → Prop} {ow : Nat → Option OKey}

theorem comb_some {i : Nat} {o : AObj} (hi : h[i]? = some (some o)) : comb h HF i = some o := by simp [comb, hi]

theorem lt_of_some {α : Type} {l : List α} {i : Nat} {x : α} (hi : l[i]? = some x) : i < l.length := by
  rcases Nat.lt_or_ge i l.length with h | h
  · exact h
  · rw [List.getElem?_eq_none h] at hi; exact nomatch hi

theorem comb_push (o : AObj) : comb (h ++ [some o]) HF = upd (comb h HF) h.length (some o) := by
  funext i
  simp only [comb, upd]
  by_cases hi : i = h.length
  · subst hi; simp
  · rw [if_neg hi]
    rcases Nat.lt_or_ge i h.length with h' | h'
    · rw [List.getElem?_append_left h']
    · rw [List.getElem?_eq_none (l := h) h', List.getElem?_eq_none (by simp; omega)]

theorem comb_set {r : Nat} (hr : r < h.length) (o : AObj) : comb (h.set r (some o)) HF = upd (comb h HF) r (some o) := by
  funext i
  simp only [comb, upd]
  by_cases hi : i = r
  · subst hi; simp [List.getElem?_set, hr]
  · rw [if_neg hi, List.getElem?_set_ne (fun e => hi e.symm)]

theorem comb_kill {r : Nat} (hr : r < h.length) (hf : HF r = none) : comb (h.set r none) HF = upd (comb h HF) r none := by
  funext i
  simp only [comb, upd]
  by_cases hi : i = r
  · subst hi; simp [List.getElem?_set, hr, hf]
  · rw [if_neg hi, List.getElem?_set_ne (fun e => hi e.symm)]

theorem Fit.hf_none (hk : Fit K h HF V w) {i : Nat} {o : AObj} (hi : h[i]? = some (some o)) : HF i = none := by
  cases hh : HF i with
  | none => rfl
  | some o' => rw [hk.hf i o' hh] at hi; cases hi

theorem Fit.hf_virgin (hk : Fit K h HF V w) {i : Nat} (hv : V i) : HF i = none := by
  cases hh : HF i with
  | none => rfl
  | some o' =>
    obtain ⟨ow, hok⟩ := hk.ok
    have h1 := (hok.fresh i hv).1
    have h2 := hk.hf i o' hh
    simp [comb, h2, hh] at h1

theorem afterV_same {place : Option Nat} {n : Nat} {V : Nat → Prop} {i : Nat} (h : afterV place n n V i) : V i := h.1

theorem Fit.virgin {V' : Nat → Prop} (hk : Fit K h HF V w) (h1 : ∀ i, V' i → V i) (h2 : ∀ i, h.length ≤ i → V' i) : Fit K h HF V' w := ⟨hk.ok.virgin h1, hk.hf, h2⟩

/-- the state is as it was -/
theorem Fit.after (hk : Fit K h HF V w) {place : Option Nat} (hp : ∀ r, place = some r → r < h.length) : Fit K h HF (afterV place h.length h.length V) w :=
  hk.virgin (fun _ hi => hi.1) fun i hi => ⟨hk.vlen i hi, fun e => by have := hp i e; omega, Or.inr hi⟩

theorem den_sealT {x : AV} {v : Value} (h : Den K x v) : Den K (sealT x) v := by
  unfold sealT
  split
  · exact h
  · exact .dat (den_sealOwn h)
  · exact h

theorem sealT_not (x : AV) : (∀ j es, sealT x ≠ AV.own (.tip j) es) ∧ ∀ a b d f es, sealT x ≠ AV.own (.at a b d f) es := by
  unfold sealT
  split
  · exact ⟨fun _ _ e => (nomatch e), fun _ _ _ _ _ e => (nomatch e)⟩
  · exact ⟨fun _ _ e => (nomatch e), fun _ _ _ _ _ e => (nomatch e)⟩
  · rename_i h1
    exact ⟨fun j es e => h1 _ es e, fun a b d f es e => h1 _ es e⟩

theorem alloc_fit {place : Option Nat} {o : AObj} {id : Nat} {h' : Heap} (hk : Fit K h HF V w) (hp : ∀ r, place = some r → V r) (ha : allocObj place h o = some (id, h')) :
    V id ∧ comb h' HF = upd (comb h HF) id (some o) ∧ h.length ≤ h'.length ∧ (∀ i o', HF i = some o' → h'[i]? = some none) ∧ (∀ i, h'.length ≤ i → afterV place h.length h'.length V i) ∧ (∀ i, afterV place h.length h'.length V i → V i ∧ i ≠ id) := by
  unfold allocObj at ha
  split at ha
  · cases ha
    refine ⟨hk.vlen _ (Nat.le_refl _), comb_push o, by simp, fun i o' hi => ?_, fun i hi => ?_, fun i hi => ?_⟩
    · have := hk.hf i o' hi
      rw [List.getElem?_append_left (lt_of_some this)]; exact this
    · simp at hi; exact ⟨hk.vlen i (by omega), by simp, Or.inr (by simpa using hi)⟩
    · have := hi.2.2; simp at this; exact ⟨hi.1, by omega⟩
  · rename_i r
    split at ha
    · rename_i hr
      cases ha
      have hlt := lt_of_some hr
      refine ⟨hp _ rfl, comb_set hlt o, by simp, fun i o' hi => ?_, fun i hi => ?_, fun i hi => ?_⟩
      · have h1 := hk.hf i o' hi
        have : i ≠ id := by rintro rfl; have := hk.hf_virgin (hp i rfl); rw [this] at hi; exact nomatch hi
        rw [List.getElem?_set_ne (fun e => this e.symm)]; exact h1
      · simp at hi; exact ⟨hk.vlen i hi, by simp; omega, Or.inr (by simpa using hi)⟩
      · exact ⟨hi.1, fun e => hi.2.1 (by rw [e])⟩
    · exact nomatch ha

/-- a new free box -/
theorem gives_newFree {place : Option Nat} {e : TypeId} {cs : List AV} {id : Nat} {h' : Heap} {ex : Bool} {vs : Array Value} (hk : Fit K h HF V w) (hp : ∀ r, place = some r → V r) (hn : newFree place h e cs ex = some (id, h')) (hd : DenL K cs (vs.toList.take cs.length)) (hex : ex = true → cs.length = vs.size) :
    ∃ K', Kext K K' ∧ K'.row id 0 = some ⟨w.heap.size, 0, vs.size⟩ ∧ Fit K' h' HF (afterV place h.length h'.length V) (w.alloc (.cells vs e)) ∧ h.length ≤ h'.length := by
  unfold newFree at hn
  split at hn
  · rename_i lim hl
    split at hn
    case isFalse => exact nomatch hn
    rename_i hcl
    obtain ⟨hv, hcomb, hlen, hhf, hvl, hvi⟩ := alloc_fit hk hp hn
    obtain ⟨ow, hok⟩ := hk.ok
    have hl2 : cs.length ≤ vs.size := by have := hd.length; rw [List.length_take] at this; simp at this; omega
    have f5 := hok.freshr id hv
    have hext := kext_withFr (b := w.heap.size) (n := vs.size) (hok.fresh id hv).2.1 f5
    obtain ⟨ow', hok', _⟩ := hok.newFr hv (o := .free e cs 0 lim 0 ex) rfl (n := vs.size) (obj := .cells vs e)
      (.free e cs 0 lim 0 ex ⟨w.heap.size, 0, vs.size⟩ vs 0 0 (by simp [withFr]) (by simp) hl2 (by rw [List.drop_zero]; exact hd.mono hext) (limA_ok hl).2 (fun v hv' => by simp only [withFr]; rw [if_neg (by omega)]; exact f5 v) (Nat.zero_le _) (fun h => ⟨rfl, (hex h).symm⟩) hcl)
    exact ⟨_, hext, by simp [withFr], ⟨⟨ow', by rw [hcomb]; exact hok'.virgin hvi⟩, hhf, hvl⟩, hlen⟩
  · exact nomatch hn

theorem gives_newVarA {place : Option Nat} {e : TypeId} {cs : List AV} {v : AV} {h' : Heap} {vs : Array Value} (hk : Fit K h HF V w) (hp : ∀ r, place = some r → V r) (hn : newVarA place h e cs = some (v, h')) (hd : DenL K cs vs.toList) :
    ∃ K', Kext K K' ∧ Den K' v (.pointer (some ⟨w.heap.size, 0, none⟩)) ∧ Fit K' h' HF (afterV place h.length h'.length V) (w.alloc (.cells vs e)) ∧ h.length ≤ h'.length := by
  unfold newVarA at hn
  split at hn
  · split at hn
    · rename_i id h'' ha
      cases hn
      obtain ⟨K', hext, hrow, hf, hlen⟩ := gives_newFree (vs := vs) hk hp ha (by rw [List.take_of_length_le (by rw [hd.length]; exact Nat.le_refl _)]; exact hd) (fun _ => by have := hd.length; simpa using this.symm)
      exact ⟨K', hext, .fp _ _ 0 _ hrow, hf, hlen⟩
    · exact nomatch hn
  split at hn
  · rename_i id h'' ha
    split at hn
    · rename_i hu
      cases hn
      obtain ⟨hv, hcomb, hlen, hhf, hvl, hvi⟩ := alloc_fit hk hp ha
      obtain ⟨ow, hok⟩ := hk.ok
      obtain ⟨ow', hok', hext⟩ := hok.newBox hv (e := e) (denL_map (fun _ _ => den_sealT) hd) (fun i c hi => by
        rw [List.getElem?_map] at hi
        simp only [Option.map_eq_some_iff] at hi
        obtain ⟨x, _, rfl⟩ := hi
        exact sealT_not x) hu
      refine ⟨_, hext, .ptr _ _ _ (by simp [withBlk]), ⟨⟨ow', ?_⟩, hhf, hvl⟩, hlen⟩
      rw [hcomb]
      exact hok'.virgin hvi
    · exact nomatch hn
  · exact nomatch hn

/- stores -/

theorem OkW.setBox (hk : OkW K (comb h HF) V w ow) {id : Nat} {hc : Nat → Option AObj} {e : TypeId} {cs cs' : List AV} {ver ver' b : Nat} {vs vs' : Array Value} (hcc : hc = comb h HF) (hid : hc id = some (.cells e cs ver)) (hb : BoxOk K w ow id e cs ver b vs)
    (hd : DenL K cs' vs'.toList) (hc' : ∀ (i : Nat) (c : AV), cs'[i]? = some c → CellOk K w ow id i ver' c) (hu : undersL (id + 1) cs' = true) (hv : ver ≤ ver') : OkW K (upd hc id (some (.cells e cs' ver'))) V (w.setRow b vs') ow := by
  subst hcc
  have hne : ∀ b' k, ow b' = some k → (∀ i, k ≠ .box i) → b' ≠ b := fun b' k h1 h2 h3 => by rw [h3, hb.own] at h1; exact h2 _ (Option.some.inj h1).symm
  have hfree : ∀ r n k, Free K w r n → ow r.b = some k → (∀ i, k ≠ .box i) → Free K (w.setRow b vs') r n := fun r n k hf ho hk' => hf.heap (setRow_other w b r.b vs' (hne _ _ ho hk'))
  have hcell : ∀ id i ver c, CellOk K w ow id i ver c → CellOk K (w.setRow b vs') ow id i ver c := fun id i ver c hc => hc.mono (Kext.refl K) (Nat.le_refl _) fun r n v hf ho => ⟨hfree r n _ hf ho (fun _ e => nomatch e), ho⟩
  refine ⟨fun a c ha => ?_, hk.below.step rfl rfl rfl ⟨by simp, fun k hk' => setRow_other w b k vs' (by intro e; subst e; first | exact absurd hk' (by assumption) | exact absurd hk' hb.base | exact absurd hk' (by simpa using hbase))⟩, fun id' e' cs'' ver'' hid' => ?_, fun id' e' n sz hid' => ?_, fun id' e' n sz hid' => ?_, fun i hi => ?_, fun id' e' cs'' ver'' hid' => ?_, fun b' k hb' => by simpa using hk.own b' k hb', fun id' o hid' ho => ?_, hk.freshr⟩
  · have h1 := hk.imm a c ha
    have : a.block ≠ b := by
      rintro rfl
      have := hb.imm a.off a.spot
      rw [show (⟨a.block, a.off, a.spot⟩ : Addr) = a from rfl, ha] at this
      exact nomatch this
    rw [cell_same (setRow_other w b a.block vs' this)]; exact h1
  · by_cases hi : id' = id
    · subst hi
      rw [upd_same] at hid'
      cases hid'
      exact ⟨b, vs', hb.blk, hb.own, hb.base, setRow_heap w b vs vs' e (0, 0) hb.heap, hb.imm, hd, fun i c hi => hcell _ _ _ _ (hc' i c hi), hu⟩
    · rw [upd_ne hi] at hid'
      obtain ⟨b', vs'', hbox⟩ := hk.box id' e' cs'' ver'' hid'
      have hbne : b' ≠ b := by
        rintro rfl
        have h1 := hbox.own
        rw [hb.own] at h1
        cases h1
        exact hi rfl
      exact ⟨b', vs'', hbox.blk, hbox.own, hbox.base, by rw [setRow_other w b b' vs' hbne]; exact hbox.heap, hbox.imm, hbox.den, fun i c hi => hcell _ _ _ _ (hbox.cell i c hi), hbox.under⟩
  · by_cases hi : id' = id
    · subst hi; rw [upd_same] at hid'; exact nomatch hid'
    · rw [upd_ne hi] at hid'
      obtain ⟨r, h1, h2, h3, h4, h5⟩ := hk.tip id' e' n sz hid'
      exact ⟨r, h1, h2, h3, hfree _ _ _ h4 h5 (fun _ e => nomatch e), h5⟩
  · by_cases hi : id' = id
    · subst hi; rw [upd_same] at hid'; exact nomatch hid'
    · rw [upd_ne hi] at hid'; exact hk.more id' e' n sz hid'
  · have := hk.fresh i hi
    have hne : i ≠ id := by rintro rfl; rw [hid] at this; exact nomatch this.1
    exact ⟨by rw [upd_ne hne]; exact this.1, this.2⟩
  · by_cases hi : id' = id
    · subst hi; rw [upd_same] at hid'; cases hid'
      exact fun off v hvv => hk.ver id' _ _ _ hid off v (by omega)
    · rw [upd_ne hi] at hid'; exact hk.ver id' e' cs'' ver'' hid'
  · by_cases hi : id' = id
    · subst hi; rw [upd_same] at hid'; cases hid'; cases ho
    · rw [upd_ne hi] at hid'
      exact (hk.fr id' o hid' ho).mono (Kext.refl K) (fun _ => rfl) fun b' hb' => ⟨setRow_other w b b' vs' (hne _ _ hb' (fun _ e => nomatch e)), hb', fun _ _ h => h⟩

/-- a mark goes; what it told of goes to a place in a box -/
theorem OkW.settle {hc : Nat → Option AObj} (hk : OkW K hc V w ow) {i id off v n sz : Nat} {e : TypeId} {r : KRow} (hi : hc i = some (.tip e n sz)) (hr : K.key (.tip i n) = some r) (hf : Free K w r n) (ho : ow r.b = some (.tip i))
    (hv : K.key (.at id off v) = none) {e' : TypeId} {cs : List AV} {ver : Nat} (hid : hc id = some (.cells e' cs ver)) (hver : v < ver) :
    ∃ ow', Kext K (withAt K id off v r) ∧ OkW (withAt K id off v r) (upd hc i none) V w ow' ∧ ow' r.b = some (.at id off v) ∧ Free (withAt K id off v r) w r n ∧
      (∀ id' i' ver' c, CellOk K w ow id' i' ver' c → CellOk (withAt K id off v r) w ow' id' i' ver' c) ∧ (∀ b k, ow b = some k → (∀ j, k ≠ .tip j) → ow' b = some k) := by
  have hext := kext_withAt (r := r) hv
  let ow' : Nat → Option OKey := fun b => if b = r.b then some (.at id off v) else ow b
  have hkeep : ∀ b k, ow b = some k → k ≠ .tip i → ow' b = some k := fun b k h1 h2 => by
    have : b ≠ r.b := by rintro rfl; rw [ho] at h1; exact h2 (Option.some.inj h1).symm
    simp [ow', this, h1]
  have hcell : ∀ id' i' ver' c, CellOk K w ow id' i' ver' c → CellOk (withAt K id off v r) w ow' id' i' ver' c := fun id' i' ver' c hc' =>
    hc'.mono hext (Nat.le_refl _) fun r' n' v' hf' ho' => ⟨⟨hf'.blk, hf'.imm, hf'.base⟩, hkeep _ _ ho' (fun e => nomatch e)⟩
  refine ⟨ow', hext, ⟨hk.imm, hk.below, fun id' e'' cs' ver' hid' => ?_, fun id' e'' n' sz' hid' => ?_, fun id' e'' n' sz' hid' => ?_, fun j hj => ?_, fun id' e'' cs' ver' hid' => ?_, fun b k hb => ?_, fun id' o hid' ho' => ?_, hk.freshr⟩, by simp [ow'], ⟨hf.blk, hf.imm, hf.base⟩, hcell, fun b k h1 h2 => hkeep b k h1 (h2 i)⟩
  · by_cases hne : id' = i
    · subst hne; rw [upd_same] at hid'; exact nomatch hid'
    · rw [upd_ne hne] at hid'
      obtain ⟨b, vs, hbox⟩ := hk.box id' e'' cs' ver' hid'
      exact ⟨b, vs, hbox.blk, hkeep _ _ hbox.own (fun e => nomatch e), hbox.base, hbox.heap, hbox.imm, hbox.den.mono hext, fun j c hj => hcell _ _ _ _ (hbox.cell j c hj), hbox.under⟩
  · by_cases hne : id' = i
    · subst hne; rw [upd_same] at hid'; exact nomatch hid'
    · rw [upd_ne hne] at hid'
      obtain ⟨r', h1, h2, h3, h4, h5⟩ := hk.tip id' e'' n' sz' hid'
      exact ⟨r', hext.key _ _ h1, h2, h3, ⟨h4.blk, h4.imm, h4.base⟩, hkeep _ _ h5 (fun e => hne (OKey.tip.inj e))⟩
  · by_cases hne : id' = i
    · subst hne; rw [upd_same] at hid'; exact nomatch hid'
    · rw [upd_ne hne] at hid'
      intro n'' hn''
      have := hk.more id' e'' n' sz' hid' n'' hn''
      simp [withAt, withKey, this]
  · obtain ⟨g1, g2, g3, g4⟩ := hk.fresh j hj
    have hji : j ≠ i := by rintro rfl; rw [hi] at g1; exact nomatch g1
    have hjd : j ≠ id := by rintro rfl; rw [hid] at g1; exact nomatch g1
    refine ⟨by rw [upd_ne hji]; exact g1, g2, fun n' => by simp [withAt, withKey, g3 n'], fun off' v' => ?_⟩
    simp [withAt, withKey, g4 off' v', hjd]
  · by_cases hne : id' = i
    · subst hne; rw [upd_same] at hid'; exact nomatch hid'
    · rw [upd_ne hne] at hid'
      intro off' v' hv'
      have := hk.ver id' e'' cs' ver' hid' off' v' hv'
      simp only [withAt, withKey]
      by_cases heq : id' = id ∧ off' = off ∧ v' = v
      · obtain ⟨rfl, rfl, rfl⟩ := heq
        rw [hid] at hid'
        cases hid'
        omega
      · simp [heq, this]
  · simp only [ow'] at hb
    split at hb
    · rename_i hbe; rw [hbe]; exact hf.lt
    · exact hk.own b k hb
  · by_cases hne : id' = i
    · subst hne; rw [upd_same] at hid'; exact nomatch hid'
    · rw [upd_ne hne] at hid'
      exact (hk.fr id' o hid' ho').mono hext (fun _ => rfl) fun b hb => ⟨rfl, hkeep _ _ hb (fun e => nomatch e), fun _ _ h => h⟩

end
end Go.Proofs.YtobhpbnlbgbjaaaGreatDoor
