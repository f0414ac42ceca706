/- Regions that draw their order: in whatever order the operations are done, they leave what the text's order leaves. -/
import Derived.Test.YtobhpbnlbgbjaaaGreatDoorE4
set_option linter.unusedSectionVars false
set_option linter.unusedSimpArgs false
set_option linter.unusedVariables false
set_option linter.unusedSimpArgs false
namespace Go.Proofs.YtobhpbnlbgbjaaaGreatDoor
open Go Go.RowKit
set_option linter.unusedSectionVars false
variable [mode : Inhabited ModeT]

def cnt : Nat → (Nat → Bool) → Nat
  | 0, _ => 0
  | n + 1, f => cnt n f + if f n then 1 else 0

theorem cnt_congr : ∀ {n : Nat} {f g : Nat → Bool}, (∀ i, i < n → f i = g i) → cnt n f = cnt n g
  | 0, _, _, _ => rfl
  | n + 1, f, g, h => by simp only [cnt]; rw [cnt_congr fun i hi => h i (by omega), h n (by omega)]

theorem cnt_less : ∀ {n : Nat} {f g : Nat → Bool} {j : Nat}, j < n → f j = true → g j = false → (∀ i, i ≠ j → g i = f i) → cnt n g + 1 = cnt n f
  | 0, _, _, _, h, _, _, _ => by omega
  | n + 1, f, g, j, hj, h1, h2, h3 => by
    simp only [cnt]
    by_cases hn : j = n
    · subst hn
      rw [h1, h2, cnt_congr (f := g) (g := f) fun i hi => h3 i (by omega)]
      simp
    · rw [h3 n (fun e => hn e.symm)]
      have := cnt_less (n := n) (by omega) h1 h2 h3
      omega

theorem cnt_zero : ∀ {n : Nat} {f : Nat → Bool}, cnt n f = 0 → ∀ i, i < n → f i = false
  | 0, _, _, i, h => by omega
  | n + 1, f, h, i, hi => by
    simp only [cnt] at h
    by_cases hn : i = n
    · subst hn
      cases hf : f i with
      | false => rfl
      | true => rw [hf] at h; simp at h
    · have h' : cnt n f = 0 := by omega
      exact cnt_zero h' i (by omega)

theorem cnt_true : ∀ {n : Nat} {f : Nat → Bool}, (∀ i, i < n → f i = true) → cnt n f = n
  | 0, _, _ => rfl
  | n + 1, f, h => by simp only [cnt]; rw [cnt_true fun i hi => h i (by omega), h n (by omega)]; simp

section
variable {P : Program} {callf : CallF} {ops : Array Oper} {N : Nat} {HF : Nat → Option AObj}

structure Look (es : List Ent) (s0 : St) (N : Nat) (S : Nat → Bool) (σ : St) : Prop where
  tmps : ∀ t : Nat, σ.tmps[t]? = lookT t S es s0.tmps[t]?
  heap : ∀ id : Nat, σ.heap[id]? = lookH id S es s0.heap[id]?
  len : σ.heap.length = N

def VS (es : List Ent) (V : Nat → Prop) (S : Nat → Bool) : Nat → Prop := fun id => V id ∧ ∀ (i : Nat) (e : Ent), es[i]? = some e → S i = true → id ∉ e.slots

def SimS (es : List Ent) (s0 : St) (N : Nat) (HF : Nat → Option AObj) (V : Nat → Prop) (K : KW) (S : Nat → Bool) (a : Act) (w : World) : Prop :=
  ∃ σ K', Look es s0 N S σ ∧ Kext K K' ∧ Sim K' σ HF (VS es V S) a w

structure Plan (P : Program) (callf : CallF) (ops : Array Oper) (N : Nat) (es : List Ent) (s0 : St) (V : Nat → Prop) : Prop where
  state : ∀ (i : Nat) (e : Ent), es[i]? = some e → ∃ (o : Oper) (si : St), ops[i]? = some o ∧ EntOk P callf ops N i o e si.tmps si.heap ∧ Look es s0 N (fun j => decide (j < i)) si
  pairs : ∀ (i j : Nat) (e d : Ent), es[i]? = some e → es[j]? = some d → j < i → ((masksA ops.toList [])[i]?.getD 0).testBit j = true ∨ apartD d.d e.d = true
  places : ∀ (i : Nat) (e : Ent) (r : Nat), es[i]? = some e → r ∈ e.slots → V r ∧ r < N
  apart : ∀ (i j : Nat) (e e' : Ent) (r : Nat), es[i]? = some e → es[j]? = some e' → i ≠ j → r ∈ e.slots → r ∉ e'.slots
  len : es.length = ops.size
  vlen : ∀ i, N ≤ i → V i

theorem apartD_ok {a b : Done} (h : apartD a b = true) : (∀ i, a.writes.contains i = true → b.foot.contains i = false) ∧ (∀ i, b.writes.contains i = true → a.foot.contains i = false) ∧ (∀ t, a.dst = some t → b.reads.contains t = false ∧ b.dst ≠ some t) ∧ ∀ t, b.dst = some t → a.reads.contains t = false := by
  simp only [apartD, Bool.and_eq_true] at h
  obtain ⟨⟨⟨h1, h2⟩, h3⟩, h4⟩ := h
  refine ⟨fun i hi => ?_, fun i hi => ?_, fun t ht => ?_, fun t ht => ?_⟩
  · cases hb : b.foot.contains i with
    | false => rfl
    | true => exact (apartL_ok h1 hi hb).elim
  · cases hb : a.foot.contains i with
    | false => rfl
    | true => exact (apartL_ok h2 hi hb).elim
  · rw [ht] at h3
    simp only [Bool.and_eq_true] at h3
    exact ⟨by simpa using h3.1, by simpa using h3.2⟩
  · rw [ht] at h4
    simpa using h4

theorem mask_closed {S : Nat → Bool} (hS : Closed ops.toList S) {j : Nat} {o : Oper} (ho : ops[j]? = some o) (hp : ∀ e, e ∈ o.after.toList → Region.binds .any e = true → S e.on = true) {k : Nat} (hk : ((masksA ops.toList [])[j]?.getD 0).testBit k = true) : S k = true := by
  cases hm : (masksA ops.toList [])[j]? with
  | none => rw [hm] at hk; simp at hk
  | some m =>
    rw [hm] at hk
    refine masks_ok hS (acc := []) (fun i => by simp) (fun i m hi => by simp at hi) j m hm (fun o' ho' e he hb => ?_) k hk
    rw [Array.getElem?_toList, ho] at ho'
    cases ho'
    exact hp e he hb

theorem draw_step (hcall : CallOk P callf) {es : List Ent} {s0 : St} {V : Nat → Prop} {K : KW} (hpl : Plan P callf ops N es s0 V) {S : Nat → Bool} (hS : Closed ops.toList S) {j : Nat} {o : Oper} (ho : ops[j]? = some o) (hj : S j = false)
    (hp : ∀ e, e ∈ o.after.toList → Region.binds .any e = true → S e.on = true) {a : Act} {w : World} (hsim : SimS es s0 N HF V K S a w) {Q : Exit → Act → World → Prop} :
    wpOp P ops Q j (SimS es s0 N HF V K (fun k => S k || k == j)) a w := by
  have hjl : j < es.length := by
    rw [hpl.len]
    rcases Nat.lt_or_ge j ops.size with h | h
    · exact h
    · rw [Array.getElem?_eq_none h] at ho; exact nomatch ho
  obtain ⟨e, he⟩ : ∃ e, es[j]? = some e := ⟨_, List.getElem?_eq_getElem hjl⟩
  obtain ⟨o', sj, ho', hent, hlook⟩ := hpl.state j e he
  obtain rfl : o' = o := by rw [ho] at ho'; exact (Option.some.inj ho').symm
  obtain ⟨σ, K', hσ, hext, hs⟩ := hsim
  -- what is done agrees with what the text had done, where this operation looks
  have hcl : ∀ (k : Nat) (d : Ent), es[k]? = some d → (S k = true ∧ ¬ k < j ∨ S k = false ∧ k < j) → (∀ i, d.d.writes.contains i = true → e.d.foot.contains i = false) ∧ (∀ t, d.d.dst = some t → e.d.reads.contains t = false) := fun k d hd hcase => by
    rcases hcase with ⟨h1, h2⟩ | ⟨h1, h2⟩
    · have hne : k ≠ j := by rintro rfl; rw [hj] at h1; exact nomatch h1
      rcases hpl.pairs k j d e hd he (by omega) with hb | hb
      · exfalso
        obtain ⟨ok, sk, hok, _, _⟩ := hpl.state k d hd
        have := mask_closed hS hok (fun x hx hxb => hS k ok h1 (by rw [Array.getElem?_toList]; exact hok) x hx hxb) hb
        rw [hj] at this
        exact nomatch this
      · obtain ⟨q1, q2, q3, q4⟩ := apartD_ok hb
        exact ⟨q2, q4⟩
    · rcases hpl.pairs j k e d he hd h2 with hb | hb
      · exfalso
        have := mask_closed hS ho hp hb
        rw [h1] at this
        exact nomatch this
      · obtain ⟨q1, q2, q3, q4⟩ := apartD_ok hb
        exact ⟨q1, fun t ht => (q3 t ht).1⟩
  have hSk : ∀ (k : Nat) (d : Ent), es[k]? = some d → ¬ (S k = true ∧ ¬ k < j ∨ S k = false ∧ k < j) → S k = decide (k < j) := fun k d _ hn => by
    cases hk : S k with
    | true => by_cases hlt : k < j
              · simp [hlt]
              · exact absurd (Or.inl ⟨hk, hlt⟩) hn
    | false => by_cases hlt : k < j
               · exact absurd (Or.inr ⟨hk, hlt⟩) hn
               · simp [hlt]
  have hag : Agree σ.tmps sj.tmps (readsOf ops o') := fun t ht => by
    rw [hσ.tmps, hlook.tmps]
    refine lookT_congr fun k d hd hdt => ?_
    by_cases hc : S k = true ∧ ¬ k < j ∨ S k = false ∧ k < j
    · have := (hcl k d hd hc).2 t hdt
      rw [hent.reads] at this
      rw [this] at ht
      exact nomatch ht
    · exact hSk k d hd hc
  have hheap : restrictA e.d.foot 0 σ.heap = restrictA e.d.foot 0 sj.heap := by
    apply List.ext_getElem?
    intro id
    rw [restrict_get, restrict_get, Nat.zero_add]
    split
    · rename_i hin
      rw [hσ.heap, hlook.heap]
      refine lookH_congr fun k d hd hdw => ?_
      by_cases hc : S k = true ∧ ¬ k < j ∨ S k = false ∧ k < j
      · have := (hcl k d hd hc).1 id hdw
        rw [this] at hin
        exact nomatch hin
      · exact hSk k d hd hc
    · have : ∀ h : Heap, h.length = N → (h[id]?.map fun _ => (none : Option AObj)) = if id < N then some none else none := fun h hh => by
        split
        · rename_i hlt; rw [List.getElem?_eq_getElem (by omega)]; rfl
        · rename_i hge; rw [List.getElem?_eq_none (by omega)]; rfl
      rw [this _ hσ.len, this _ hlook.len]
  have hone : oneOp P callf ops e.place o' σ.tmps (restrictA e.d.foot 0 σ.heap) = some (e.v0, e.h0) := by
    rw [oneOp_agree hag, hheap]
    exact hent.one
  -- the frame that fills what was hidden
  let HFj : Nat → Option AObj := fun id => if e.d.foot.contains id then HF id else comb σ.heap HF id
  have hcomb : comb (restrictA e.d.foot 0 σ.heap) HFj = comb σ.heap HF := by
    funext id
    have hg := restrict_get (F := e.d.foot) (h := σ.heap) (i := 0) id
    rw [Nat.zero_add] at hg
    by_cases hin : e.d.foot.contains id = true
    · rw [if_pos hin] at hg
      simp only [comb, hg, HFj, hin, if_true]
    · rw [if_neg hin] at hg
      cases hx : σ.heap[id]? with
      | none => rw [hx] at hg; simp [comb, hg, hx]
      | some x =>
        rw [hx] at hg
        have hin' : e.d.foot.contains id = false := by simpa using hin
        simp only [comb, hg, Option.map_some, HFj, hin', Bool.false_eq_true, if_false]
  have hfit : Fit K' (restrictA e.d.foot 0 σ.heap) HFj (VS es V S) w := ⟨by rw [hcomb]; exact hs.fit.ok, fun id x hx => by
    have hg := restrict_get (F := e.d.foot) (h := σ.heap) (i := 0) id
    rw [Nat.zero_add] at hg
    by_cases hin : e.d.foot.contains id = true
    · rw [if_pos hin] at hg
      simp only [HFj, hin, if_true] at hx
      rw [hg]; exact hs.fit.hf id x hx
    · have hin' : e.d.foot.contains id = false := by simpa using hin
      simp only [HFj, hin', Bool.false_eq_true, if_false] at hx
      rw [if_neg hin] at hg
      rw [hg]
      cases hx' : σ.heap[id]? with
      | none => simp [comb, hx'] at hx
      | some y => rfl, fun i hi => hs.fit.vlen i (by rw [restrict_length] at hi; exact hi)⟩
  have hslot : ∀ r, r ∈ e.slots → VS es V S r ∧ r < (restrictA e.d.foot 0 σ.heap).length := fun r hr => by
    obtain ⟨q1, q2⟩ := hpl.places j e r he hr
    refine ⟨⟨q1, fun i e' hi hSi => ?_⟩, by rw [restrict_length, hσ.len]; exact q2⟩
    have hne : j ≠ i := by rintro rfl; rw [hj] at hSi; exact nomatch hSi
    exact hpl.apart j i e e' r he hi hne hr
  have hplace : ∀ r, e.place = some r → VS es V S r ∧ r < (restrictA e.d.foot 0 σ.heap).length := fun r hr => hslot r (by simp [Ent.slots, hr])
  have hrl : (restrictA e.d.foot 0 σ.heap).length = N := by rw [restrict_length, hσ.len]
  refine (one_ok hcall ho hs.tmps hfit hplace hone fun u w' K0'' hk0 hd0 hf0 => ?_).1
  rw [hrl] at hf0
  obtain ⟨K'', hk, hd, hf⟩ := settleC_ok hent.settle hrl (by
      rcases Nat.eq_zero_or_pos e.lv with h | h
      · exact Or.inl h
      · right
        have := (hslot (e.at_ + e.lv - 1) (by simp only [Ent.slots, List.mem_append, List.mem_range'_1]; right; omega)).2
        rw [hrl] at this; omega) hent.excl hfit hk0 hd0 hf0 (fun r hr => by have := (hplace r hr).2; rw [hrl] at this; exact this)
    fun r h1 h2 => (hslot r (by simp only [Ent.slots, List.mem_append, List.mem_range'_1]; right; omega)).1
  -- the state with one more done
  have hlen : e.h.length = σ.heap.length := by rw [hent.len, hσ.len]
  have hset := setIds_get (W := e.d.writes) (h := σ.heap) (h' := e.h) hlen
  have hnot : ∀ (k : Nat) (d : Ent), j < k → es[k]? = some d → S k = true → (∀ i, e.d.writes.contains i = true → d.d.writes.contains i = false) ∧ ∀ t, e.d.dst = some t → d.d.dst ≠ some t := fun k d hlt hd hSk' => by
    rcases hpl.pairs k j d e hd he hlt with hb | hb
    · exfalso
      obtain ⟨ok, sk, hok, _, _⟩ := hpl.state k d hd
      have := mask_closed hS hok (fun x hx hxb => hS k ok hSk' (by rw [Array.getElem?_toList]; exact hok) x hx hxb) hb
      rw [hj] at this
      exact nomatch this
    · obtain ⟨q1, q2, q3, q4⟩ := apartD_ok hb
      refine ⟨fun i hi => ?_, fun t ht => (q3 t ht).2⟩
      obtain ⟨ok, sk, hok, hek, _⟩ := hpl.state k d hd
      cases hc : d.d.writes.contains i with
      | false => rfl
      | true =>
        have h1 := q1 i hi
        rw [hek.wsub _ hc] at h1
        exact nomatch h1
  refine ⟨⟨putA σ.tmps o'.dst e.v, setIds σ.heap e.h e.d.writes⟩, K'', ⟨fun t => ?_, fun id => ?_, by simp only; rw [hset.1, hσ.len]⟩, hext.trans hk, ⟨den_put (hs.tmps.mono hk) hd _, by rw [put_defers]; exact hs.defers, ?_, fun id x hx => ?_, fun i hi => ?_⟩⟩
  · rw [lookT_more (S := S) he (fun k => rfl) fun hdst k e' hlt hk' hdt => by
      cases hSk' : S k with
      | false => rfl
      | true => exact absurd hdt ((hnot k e' hlt hk' hSk').2 t hdst)]
    rw [putA_get, ← hent.dst]
    by_cases hdt : e.d.dst = some t
    · rw [if_pos hdt, hdt]
      simp only [beq_self_eq_true, if_true]
      rw [hσ.tmps]
      -- in range or not, as at the start
      have : ∀ (S : Nat → Bool) (es : List Ent) (b : Option AV), (lookT t S es b).map (fun _ => e.v) = b.map fun _ => e.v := by
        intro S es
        induction es generalizing S with
        | nil => intro b; rfl
        | cons x es ih =>
          intro b
          simp only [lookT]
          rw [ih]
          split
          · cases b <;> rfl
          · rfl
      rw [this]
    · rw [if_neg hdt]
      have hf2 : (e.d.dst == some t) = false := by simpa using hdt
      rw [hf2]
      simp only [Bool.false_eq_true, if_false]
      exact hσ.tmps t
  · rw [lookH_more (S := S) he (fun k => rfl) fun hw k e' hlt hk' hdw => by
      cases hSk' : S k with
      | false => rfl
      | true => have := (hnot k e' hlt hk' hSk').1 id hw; rw [hdw] at this; exact nomatch this]
    rw [hset.2 id]
    split
    · rfl
    · exact hσ.heap id
  · -- the world fits
    have hVS : ∀ i, VS es V (fun k => S k || k == j) i → VS es V S i ∧ e.place ≠ some i ∧ (i < e.at_ ∨ e.at_ + e.lv ≤ i) := fun i hi => by
      have hno := hi.2 j e he (by simp)
      simp only [Ent.slots, List.mem_append, List.mem_range'_1, not_or] at hno
      exact ⟨⟨hi.1, fun k d hd hSk' => hi.2 k d hd (by simp [hSk'])⟩, fun e => hno.1 (by simp [e]), by omega⟩
    have hfin : comb (setIds σ.heap e.h e.d.writes) HF = comb e.h HFj := by
      funext id
      have h1 := hset.2 id
      by_cases hw : e.d.writes.contains id = true
      · have hin := hent.wsub _ hw
        rw [if_pos hw] at h1
        simp only [comb, h1, HFj, hin, if_true]
      · rw [if_neg hw] at h1
        by_cases hin : e.d.foot.contains id = true
        · -- looked at alone
          have hkeep := hent.wkeep id hin (by simpa using hw)
          rw [← hheap] at hkeep
          have hg := restrict_get (F := e.d.foot) (h := σ.heap) (i := 0) id
          rw [Nat.zero_add, if_pos hin, ← hkeep] at hg
          simp only [comb, h1, hg, HFj, hin, if_true]
        · have hin' : e.d.foot.contains id = false := by simpa using hin
          rcases Nat.lt_or_ge id e.h.length with hlt | hge
          · have := holes_get hent.holes id hlt (by rw [Nat.zero_add]; exact hin')
            simp only [comb, h1, this, HFj, hin', Bool.false_eq_true, if_false]
          · simp only [comb, h1, List.getElem?_eq_none (l := σ.heap) (i := id) (by omega), List.getElem?_eq_none hge]
    rw [hfin]
    exact hf.ok.virgin hVS
  · rw [hset.2 id]
    split
    · rename_i hw
      have hin := hent.wsub _ hw
      exact hf.hf id x (by simp only [HFj, hin, if_true]; exact hx)
    · exact hs.fit.hf id x hx
  · simp only [hset.1, hσ.len] at hi
    refine ⟨hpl.vlen i hi, fun k d hd _ hr => ?_⟩
    have := (hpl.places k d i hd hr).2
    omega

theorem draw_any (hcall : CallOk P callf) {es : List Ent} {s0 : St} {V : Nat → Prop} {K : KW} (hpl : Plan P callf ops N es s0 V) {Q : Exit → Act → World → Prop} (hfin : ∀ a w, SimS es s0 N HF V K (fun _ => true) a w → Q .normal a w) :
    ∀ (fuel : Nat) (listed : Array Bool) (a : Act) (w : World), listed.size = ops.size → cnt ops.size (fun i => !listed.getD i true) = fuel → Closed ops.toList (fun k => listed.getD k false) → SimS es s0 N HF V K (fun k => listed.getD k false) a w → wpAny P .any ops Q fuel listed a w := by
  have hall : ∀ (listed : Array Bool), listed.size = ops.size → (∀ i, i < ops.size → listed.getD i true = true) → ∀ a w, SimS es s0 N HF V K (fun k => listed.getD k false) a w → Q .normal a w := fun listed hsz hl a w ⟨σ, K', h1, h2, h3⟩ => by
    have hS : ∀ (k : Nat) (e : Ent), es[k]? = some e → listed.getD k false = true := fun k e hk => by
      have hlt := lt_of_some hk
      rw [hpl.len] at hlt
      have := hl k hlt
      rw [Array.getD_eq_getD_getElem?, Array.getElem?_eq_getElem (by omega)] at this ⊢
      exact this
    refine hfin a w ⟨σ, K', ⟨fun t => ?_, fun id => ?_, h1.len⟩, h2, ⟨h3.tmps, h3.defers, h3.fit.virgin (fun i hi => ⟨hi.1, fun k e hk _ => hi.2 k e hk rfl⟩) fun i hi => ?_⟩⟩
    · rw [h1.tmps]; exact lookT_congr fun k e hk _ => hS k e hk
    · rw [h1.heap]; exact lookH_congr fun k e hk _ => hS k e hk
    · rw [h1.len] at hi
      refine ⟨hpl.vlen i hi, fun k d hd _ hr => ?_⟩
      have := (hpl.places k d i hd hr).2
      omega
  have hready : ∀ (listed : Array Bool) (i : Nat), i ∈ Region.ready .any ops listed ↔ i < ops.size ∧ listed.getD i true = false ∧ ∃ o, ops[i]? = some o ∧ ∀ e, e ∈ o.after.toList → Region.binds .any e = true → listed.getD e.on false = true := fun listed i => by
    unfold Region.ready
    rw [List.mem_filter]
    simp only [List.mem_range, Bool.and_eq_true]
    constructor
    · rintro ⟨h1, h2, h3⟩
      refine ⟨h1, by simpa using h2, ?_⟩
      cases ho : ops[i]? with
      | none => rw [ho] at h3; simp at h3
      | some o =>
        rw [ho] at h3
        simp only [Option.map_some, Option.getD_some] at h3
        refine ⟨o, rfl, fun e he hb => ?_⟩
        rw [← Array.all_toList] at h3
        have := List.all_eq_true.1 h3 e he
        simpa [hb] using this
    · rintro ⟨h1, h2, o, ho, h3⟩
      refine ⟨h1, by simpa using h2, ?_⟩
      rw [ho]
      simp only [Option.map_some, Option.getD_some]
      rw [← Array.all_toList, List.all_eq_true]
      intro e he
      cases hb : Region.binds .any e with
      | false => rfl
      | true => simpa using h3 e he hb
  have hnil : ∀ (listed : Array Bool), listed.size = ops.size → Region.ready .any ops listed = [] → ∀ i, i < ops.size → listed.getD i true = true := fun listed hsz hr i => by
    induction i using Nat.strongRecOn with
    | _ i ih =>
      intro hi
      cases hl : listed.getD i true with
      | true => rfl
      | false =>
        exfalso
        have hmem : i ∈ Region.ready .any ops listed := (hready listed i).2 ⟨hi, hl, ops[i], Array.getElem?_eq_getElem hi, fun x hx hb => by
          obtain ⟨e, he⟩ : ∃ e, es[i]? = some e := ⟨_, List.getElem?_eq_getElem (by rw [hpl.len]; exact hi)⟩
          obtain ⟨o', sj, ho', hent, _⟩ := hpl.state i e he
          rw [Array.getElem?_eq_getElem hi] at ho'
          cases ho'
          have hlt := hent.edges x hx hb
          have := ih x.on hlt (by omega)
          rw [Array.getD_eq_getD_getElem?, Array.getElem?_eq_getElem (by omega)] at this ⊢
          exact this⟩
        rw [hr] at hmem
        simp at hmem
  intro fuel
  induction fuel with
  | zero =>
    intro listed a w hsz hc hcl hsim
    have hl : ∀ i, i < ops.size → listed.getD i true = true := fun i hi => by have := cnt_zero hc i hi; simpa using this
    refine ⟨?_, hall listed hsz hl a w hsim⟩
    cases hr : Region.ready .any ops listed with
    | nil => rfl
    | cons x xs =>
      have := (hready listed x).1 (by rw [hr]; simp)
      rw [hl x this.1] at this
      exact nomatch this.2.1
  | succ fuel ih =>
    intro listed a w hsz hc hcl hsim
    refine ⟨fun hr => hall listed hsz (hnil listed hsz hr) a w hsim, fun i hi => ?_⟩
    obtain ⟨h1, h2, o, ho, h3⟩ := (hready listed i).1 hi
    have hgd : ∀ (k : Nat) (b : Bool), (listed.setIfInBounds i true).getD k b = if k = i then true else listed.getD k b := fun k b => by
      rw [Array.getD_eq_getD_getElem?, Array.getElem?_setIfInBounds, Array.getD_eq_getD_getElem?]
      by_cases hk : i = k
      · subst hk; simp [hsz, h1]
      · rw [if_neg hk, if_neg (fun e => hk e.symm)]
    have hfalse : listed.getD i false = false := by
      rw [Array.getD_eq_getD_getElem?, Array.getElem?_eq_getElem (by omega)] at h2 ⊢
      exact h2
    have hstep := draw_step (Q := Q) hcall hpl hcl ho hfalse h3 hsim
    refine wpOp_mono (fun a' w' hs => ?_) hstep
    have hSe : (fun k => listed.getD k false || k == i) = fun k => (listed.setIfInBounds i true).getD k false := by
      funext k
      rw [hgd]
      by_cases hk : k = i
      · subst hk; simp
      · simp [hk]
    rw [hSe] at hs
    refine ih (listed.setIfInBounds i true) a' w' (by simp [hsz]) ?_ (fun k ok hk hok x hx hb => ?_) hs
    · have := cnt_less (n := ops.size) (f := fun k => !listed.getD k true) (g := fun k => !(listed.setIfInBounds i true).getD k true) (j := i) h1 (by simp [h2]) (by simp [hgd]) fun k hk => by simp [hgd, hk]
      omega
    · have hk : (listed.setIfInBounds i true).getD k false = true := hk
      show (listed.setIfInBounds i true).getD x.on false = true
      rw [hgd] at hk ⊢
      split
      · rfl
      · split at hk
        · rename_i hki
          subst hki
          rw [Array.getElem?_toList, ho] at hok
          cases hok
          exact h3 x hx hb
        · exact hcl k ok hk hok x hx hb

theorem rep_false {n : Nat} (k : Nat) : (Array.replicate n false).getD k false = false := by
  rw [Array.getD_eq_getD_getElem?, Array.getElem?_replicate]
  split <;> rfl

theorem regionDraw_ok (hm : P.follows .mixedOrders = true) (hcall : CallOk P callf) {s s' : St} {K : KW} {V : Nat → Prop} {a : Act} {w : World} {id : Nat} {Q : Exit → Act → World → Prop} (hr : regionDraw P callf ops s = some s') (hsim : Sim K s HF V a w) :
    s.heap.length ≤ s'.heap.length ∧ ((∀ a' w' K', Kext K K' → Sim K' s' HF (afterV none s.heap.length s'.heap.length V) a' w' → Q .normal a' w') → (Code.region id ops true).wp P Q a w) := by
  unfold regionDraw at hr
  dsimp only at hr
  generalize hh0 : s.heap ++ List.replicate (countBoxes ops.toList) none = h0 at hr
  have hN : h0.length = s.heap.length + countBoxes ops.toList := by rw [← hh0]; simp
  obtain ⟨es, g1, g2, g3, g4⟩ := regionD_logs (N := h0.length) (s := ⟨s.tmps, h0⟩) rfl hr
  obtain ⟨e1, e2, e3, e4⟩ := logs_end g1 rfl
  refine ⟨by rw [e3, hN]; omega, fun hq => ?_⟩
  have hpl : Plan P callf ops h0.length es ⟨s.tmps, h0⟩ V := {
    state := fun i e hi => by
      obtain ⟨o, si, q1, q2, q3, q4, q5⟩ := logs_state g1 rfl i e hi
      exact ⟨o, si, by rw [← Array.getElem?_toList]; exact q1, by simpa using q2, q3, q4, q5⟩
    pairs := fun i j e d hi hj hlt => g2 i e hi j d.d (by simp [hj]) (by simpa using hlt)
    places := fun i e r hi hr => by
      have := g3 i e r hi hr
      exact ⟨hsim.fit.vlen r (by omega), by omega⟩
    apart := fun i j e e' r hi hj hne hr => by
      rcases Nat.lt_or_ge i j with h | h
      · exact g4 i j e e' r hi hj h hr
      · intro hr'
        exact g4 j i e' e r hj hi (by omega) hr' hr
    len := by rw [e4]; simp
    vlen := fun i hi => hsim.fit.vlen i (by omega) }
  have hcomb : comb h0 HF = comb s.heap HF := by
    funext i
    simp only [comb, ← hh0]
    rcases Nat.lt_or_ge i s.heap.length with h | h
    · rw [List.getElem?_append_left h]
    · rw [List.getElem?_append_right h, List.getElem?_eq_none (l := s.heap) h]
      cases hx : (List.replicate (countBoxes ops.toList) (none : Option AObj))[i - s.heap.length]? with
      | none => rfl
      | some x =>
        have := List.mem_of_getElem? hx
        rw [(List.mem_replicate.1 this).2]
        exact hsim.fit.hf_virgin (hsim.fit.vlen i h)
  refine wp_region_any hm (draw_any (HF := HF) (N := h0.length) (s0 := ⟨s.tmps, h0⟩) (V := V) (K := K) hcall hpl (fun a' w' hs => ?_) ops.size _ a _ (by simp) ?_ (fun i o hi => ?_) ?_)
  · obtain ⟨σ, K', hl, hk, hs⟩ := hs
    refine hq a' w' K' hk ⟨?_, hs.defers, ?_⟩
    · have : σ.tmps = s'.tmps := by
        apply List.ext_getElem?
        intro t
        rw [hl.tmps, e1]
      rw [← this]; exact hs.tmps
    · have : σ.heap = s'.heap := by
        apply List.ext_getElem?
        intro t
        rw [hl.heap, e2]
      rw [← this]
      refine hs.fit.virgin (fun i hi => ⟨hi.1, fun k d hd _ hr => ?_⟩) fun i hi => ⟨hsim.fit.vlen i (by rw [hl.len] at hi; omega), (by intro e; cases e), Or.inr hi⟩
      have hp := g3 k d i hd hr
      have hii := hi.2.2
      rw [hl.len] at hii
      omega
  · exact cnt_true fun i hi => by simp [Array.getD_eq_getD_getElem?, hi]
  · exact absurd hi (by simp only [rep_false i]; simp)
  · refine ⟨⟨s.tmps, h0⟩, K, ⟨fun t => ?_, fun i => ?_, rfl⟩, Kext.refl K, hsim.tmps, hsim.defers, ?_, fun i o hi => ?_, fun i hi => ⟨hsim.fit.vlen i (by simp only at hi; omega), fun k d hd hSk => ?_⟩⟩
    · rw [lookT_none]; intro k e _ _; exact rep_false k
    · rw [lookH_none]; intro k e _ _; exact rep_false k
    · rw [hcomb]
      exact (hsim.fit.ok.drew).virgin fun i hi => hi.1
    · have := hsim.fit.hf i o hi
      simp only [← hh0]
      rw [List.getElem?_append_left (lt_of_some this)]; exact this
    · exfalso
      exact absurd hSk (by simp only [rep_false k]; simp)

end
end Go.Proofs.YtobhpbnlbgbjaaaGreatDoor
