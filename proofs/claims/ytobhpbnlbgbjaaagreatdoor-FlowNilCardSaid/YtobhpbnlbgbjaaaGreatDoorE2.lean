/- Regions in the text's order. -/
import Derived.Test.YtobhpbnlbgbjaaaGreatDoorE1
set_option linter.unusedSectionVars false
set_option linter.unusedSimpArgs false
set_option linter.unusedVariables false
set_option linter.unusedSimpArgs false
namespace Go.Proofs.YtobhpbnlbgbjaaaGreatDoor
open Go Go.RowKit
set_option linter.unusedSectionVars false
variable [mode : Inhabited ModeT]

structure Sim (K : KW) (s : St) (HF : Nat → Option AObj) (V : Nat → Prop) (a : Act) (w : World) : Prop where
  tmps : DenL K s.tmps a.tmps.toList
  defers : a.defers = []
  fit : Fit K s.heap HF V w

section
variable {P : Program} {K : KW} {w : World} {HF : Nat → Option AObj} {V : Nat → Prop}

theorem afterV_trans {V : Nat → Prop} {n n' n'' : Nat} (h1 : n ≤ n') (h2 : n' ≤ n'') (i : Nat) (h : afterV none n n'' V i) : afterV none n' n'' (afterV none n n' V) i := by
  obtain ⟨a, _, c⟩ := h
  exact ⟨⟨a, (by intro e; cases e), by omega⟩, (by intro e; cases e), by omega⟩

theorem Fit.trans {K' : KW} {h h' : Heap} {n : Nat} {w' : World} (h1 : n ≤ h.length) (h2 : h.length ≤ h'.length) (hk : Fit K' h' HF (afterV none h.length h'.length (afterV none n h.length V)) w') (hv : ∀ i, h'.length ≤ i → V i) : Fit K' h' HF (afterV none n h'.length V) w' :=
  hk.virgin (afterV_trans h1 h2) fun i hi => ⟨hv i hi, (by intro e; cases e), Or.inr hi⟩

theorem Fit.start {h : Heap} (hk : Fit K h HF V w) : Fit K h HF (afterV none h.length h.length V) w := hk.after (by intro r e; cases e)

theorem put_tmps (a : Act) (dst : Option Tmp) (v : Value) : (a.put dst v).tmps.toList = (match dst with | some d => a.tmps.toList.set d v | none => a.tmps.toList) := by
  cases dst with
  | none => rfl
  | some d => simp [Act.put, Array.toList_setIfInBounds]

theorem put_defers (a : Act) (dst : Option Tmp) (v : Value) : (a.put dst v).defers = a.defers := by cases dst <;> rfl

theorem den_put {ts : List AV} {a : Act} {v : AV} {u : Value} (h : DenL K ts a.tmps.toList) (hv : Den K v u) (dst : Option Tmp) : DenL K (putA ts dst v) (a.put dst u).tmps.toList := by
  rw [put_tmps]
  cases dst with
  | none => exact h
  | some d => exact h.set d hv

theorem wanted_ok {ops : Array Oper} {o : Oper} {ts : List AV} {a : Act} {b : Bool} (h : DenL K ts a.tmps.toList) (hw : wantedA ops o ts = some b) : Region.wanted o (yielded ops a.tmps) = b := by
  unfold wantedA at hw
  unfold Region.wanted
  split at hw
  · rename_i hg; cases hw; rw [hg]
  · rename_i j want hg
    rw [hg]
    simp only []
    split at hw
    · rename_i d hd
      split at hw
      · rename_i c hc
        cases hw
        obtain ⟨u, h1, h2⟩ := h.get hc
        cases h2 with | dat h2 => ?_
        cases h2
        rw [Array.getElem?_toList] at h1
        have : yielded ops a.tmps j = some c := by simp [yielded, hd, h1]
        rw [this]
        cases c <;> cases want <;> rfl
      · rename_i vs hc
        cases hw
        obtain ⟨u, h1, h2⟩ := h.get hc
        obtain ⟨us, rfl, _⟩ := h2.tuple_list
        rw [Array.getElem?_toList] at h1
        have : yielded ops a.tmps j = none := by simp [yielded, hd, h1]
        rw [this]
        rfl
      · exact nomatch hw
    · exact nomatch hw

/-- one operation of a region, wanted or not -/
theorem one_ok {callf : CallF} (hcall : CallOk P callf) {ops : Array Oper} {i : Nat} {o : Oper} {a : Act} {ts : List AV} {h h' : Heap} {v : AV} {place : Option Nat} (hi : ops[i]? = some o) (hts : DenL K ts a.tmps.toList) (hk : Fit K h HF V w) (hp : ∀ r, place = some r → V r ∧ r < h.length)
    (hs : oneOp P callf ops place o ts h = some (v, h')) {next : Act → World → Prop} {Q : Exit → Act → World → Prop} (hn : ∀ u w' K', Kext K K' → Den K' v u → Fit K' h' HF (afterV place h.length h'.length V) w' → next (a.put o.dst u) w') :
    wpOp P ops Q i next a w ∧ h.length ≤ h'.length := by
  unfold oneOp at hs
  unfold wpOp
  rw [hi]
  simp only []
  split at hs
  · rename_i hw
    rw [wanted_ok hts hw]
    obtain ⟨h1, h2⟩ := step_ok hcall (o := o) hts hk hp hs
    exact ⟨by simp only [if_true]; exact Or.inl (h1 next Q hn), h2⟩
  · rename_i hw
    rw [wanted_ok hts hw]
    cases hs
    exact ⟨by simp only [Bool.false_eq_true, if_false]; exact hn undef w K (Kext.refl K) den_undef (hk.after fun r hr => (hp r hr).2), Nat.le_refl _⟩
  · exact nomatch hs

theorem wpOp_const {ops : Array Oper} {i : Nat} {C : Prop} {a : Act} (h : wpOp P ops (fun _ _ _ => False) i (fun _ _ => C) a w) : C := by
  unfold wpOp at h
  split at h
  · exact h
  · split at h
    · rcases h with h | ⟨_, _, _, h⟩
      · unfold Oper.wp at h
        generalize (execOp _ _).run P w = r at h
        cases r with
        | ok nx w' =>
          cases nx <;> simp only [Oper.upon] at h <;> first
            | exact h
            | (obtain ⟨e, w'', fr, hr, _⟩ := h []
               cases e with
               | returned v => exact hr
               | panicked c => exact hr.elim
               | outgrown => obtain ⟨_, _, hr⟩ := hr; exact hr.elim)
            | (obtain ⟨v, w'', hr, _⟩ := h default []
               exact hr)
            | exact h.elim
        | halt x w' => cases x <;> simp only [Oper.upon] at h
      · exact h.elim
    · exact h

theorem regionT_ok {callf : CallF} (hcall : CallOk P callf) {ops : Array Oper} : ∀ (l : List Oper) (k : Nat) (s s' : St) (K : KW) (V : Nat → Prop) (a : Act) (w : World) (Q : Exit → Act → World → Prop), (∀ j, l[j]? = ops[k + j]?) → regionT P callf ops l s = some s' → Sim K s HF V a w →
    s.heap.length ≤ s'.heap.length ∧ ((∀ a' w' K', Kext K K' → Sim K' s' HF (afterV none s.heap.length s'.heap.length V) a' w' → Q .normal a' w') → wpOps P ops Q (List.range' k l.length) a w)
  | [], k, s, s', K, V, a, w, Q, _, hr, hsim => by
    simp [regionT] at hr
    subst hr
    exact ⟨Nat.le_refl _, fun hq => hq a w K (Kext.refl K) ⟨hsim.tmps, hsim.defers, hsim.fit.start⟩⟩
  | o :: l, k, s, s', K, V, a, w, Q, hl, hr, hsim => by
    simp only [regionT] at hr
    split at hr
    · rename_i v h hone
      have hi : ops[k]? = some o := by have := hl 0; simpa using this.symm
      have hl' : ∀ j, l[j]? = ops[k + 1 + j]? := fun j => by have := hl (j + 1); rw [show k + 1 + j = k + (j + 1) by omega]; simpa using this
      have hle1 := (one_ok hcall hi hsim.tmps hsim.fit (place := none) (by intro r e; cases e) hone (next := fun _ _ => True) (Q := Q) (fun _ _ _ _ _ _ => trivial)).2
      have hnext : ∀ u w' K', Kext K K' → Den K' v u → Fit K' h HF (afterV none s.heap.length h.length V) w' → h.length ≤ s'.heap.length ∧ ((∀ a' w' K', Kext K K' → Sim K' s' HF (afterV none s.heap.length s'.heap.length V) a' w' → Q .normal a' w') → wpOps P ops Q (List.range' (k + 1) l.length) (a.put o.dst u) w') := fun u w' K' he hd hf => by
        obtain ⟨g1, g2⟩ := regionT_ok hcall l (k + 1) ⟨putA s.tmps o.dst v, h⟩ s' K' _ (a.put o.dst u) w' Q hl' hr ⟨den_put (hsim.tmps.mono he) hd _, by rw [put_defers]; exact hsim.defers, hf⟩
        refine ⟨g1, fun hq => g2 fun a' w'' K'' he' hs' => hq a' w'' K'' (he.trans he') ⟨hs'.tmps, hs'.defers, hs'.fit.trans hle1 g1 fun i hi => hsim.fit.vlen i (by simp only at g1; omega)⟩⟩
      have hle2 : h.length ≤ s'.heap.length := by
        exact wpOp_const (one_ok hcall hi hsim.tmps hsim.fit (place := none) (by intro r e; cases e) hone (next := fun _ _ => h.length ≤ s'.heap.length) (Q := fun _ _ _ => False) fun u w' K' he hd hf => by
          obtain ⟨g1, _⟩ := regionT_ok hcall l (k + 1) ⟨putA s.tmps o.dst v, h⟩ s' K' _ (a.put o.dst u) w' Q hl' hr ⟨den_put (hsim.tmps.mono he) hd _, by rw [put_defers]; exact hsim.defers, hf⟩
          exact g1).1
      refine ⟨Nat.le_trans hle1 hle2, fun hq => ?_⟩
      rw [List.length_cons, List.range'_succ, wpOps_cons]
      exact (one_ok hcall hi hsim.tmps hsim.fit (place := none) (by intro r e; cases e) hone (next := wpOps P ops Q (List.range' (k + 1) l.length)) (Q := Q) fun u w' K' he hd hf => (hnext u w' K' he hd hf).2 hq).1
    · exact nomatch hr

end
end Go.Proofs.YtobhpbnlbgbjaaaGreatDoor
