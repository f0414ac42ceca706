/- Regions that draw their order, the plain part: what a set of operations, done in whatever order, leaves. -/
import Derived.Test.YtobhpbnlbgbjaaaGreatDoorE2
set_option linter.unusedSectionVars false
set_option linter.unusedSimpArgs false
set_option linter.unusedVariables false
set_option linter.unusedSimpArgs false
namespace Go.Proofs.YtobhpbnlbgbjaaaGreatDoor
open Go Go.RowKit
set_option linter.unusedSectionVars false
variable [mode : Inhabited ModeT]

/-- an operation that was done: what it looked at, and what it left -/
structure Ent where
  d : Done
  v : AV
  h : Heap
  place : Option Nat
  at_ : Nat
  lv : Nat
  v0 : AV
  h0 : Heap

/-- the places of its own boxes -/
def Ent.slots (e : Ent) : List Nat := e.place.toList ++ List.range' e.at_ e.lv

def lookT (t : Nat) : (Nat → Bool) → List Ent → Option AV → Option AV
  | _, [], b => b
  | S, e :: r, b => lookT t (fun k => S (k + 1)) r (if S 0 && e.d.dst == some t then b.map fun _ => e.v else b)

def lookH (id : Nat) : (Nat → Bool) → List Ent → Option (Option AObj) → Option (Option AObj)
  | _, [], b => b
  | S, e :: r, b => lookH id (fun k => S (k + 1)) r (if S 0 && e.d.writes.contains id then e.h[id]? else b)

theorem lookT_congr {t : Nat} : ∀ {es : List Ent} {S S' : Nat → Bool} {b : Option AV}, (∀ (k : Nat) (e : Ent), es[k]? = some e → e.d.dst = some t → S k = S' k) → lookT t S es b = lookT t S' es b
  | [], _, _, _, _ => rfl
  | e :: es, S, S', b, h => by
    simp only [lookT]
    have h0 : (S 0 && e.d.dst == some t) = (S' 0 && e.d.dst == some t) := by
      by_cases hd : e.d.dst = some t
      · rw [h 0 e rfl hd]
      · have hf : (e.d.dst == some t) = false := by simpa using hd
        rw [hf]; simp
    rw [h0]
    exact lookT_congr fun k e' hk hd => h (k + 1) e' (by simpa using hk) hd

theorem lookH_congr {id : Nat} : ∀ {es : List Ent} {S S' : Nat → Bool} {b : Option (Option AObj)}, (∀ (k : Nat) (e : Ent), es[k]? = some e → e.d.writes.contains id = true → S k = S' k) → lookH id S es b = lookH id S' es b
  | [], _, _, _, _ => rfl
  | e :: es, S, S', b, h => by
    simp only [lookH]
    have h0 : (S 0 && e.d.writes.contains id) = (S' 0 && e.d.writes.contains id) := by
      by_cases hd : e.d.writes.contains id = true
      · rw [h 0 e rfl hd]
      · simp at hd; simp [hd]
    rw [h0]
    exact lookH_congr fun k e' hk hd => h (k + 1) e' (by simpa using hk) hd

theorem lookT_none {t : Nat} : ∀ {es : List Ent} {S : Nat → Bool} {b : Option AV}, (∀ (k : Nat) (e : Ent), es[k]? = some e → e.d.dst = some t → S k = false) → lookT t S es b = b
  | [], _, _, _ => rfl
  | e :: es, S, b, h => by
    simp only [lookT]
    have h0 : (S 0 && e.d.dst == some t) = false := by
      by_cases hd : e.d.dst = some t
      · rw [h 0 e rfl hd]; rfl
      · simp [hd]
    rw [h0]
    exact lookT_none fun k e' hk hd => h (k + 1) e' (by simpa using hk) hd

theorem lookH_none {id : Nat} : ∀ {es : List Ent} {S : Nat → Bool} {b : Option (Option AObj)}, (∀ (k : Nat) (e : Ent), es[k]? = some e → e.d.writes.contains id = true → S k = false) → lookH id S es b = b
  | [], _, _, _ => rfl
  | e :: es, S, b, h => by
    simp only [lookH]
    have h0 : (S 0 && e.d.writes.contains id) = false := by
      by_cases hd : e.d.writes.contains id = true
      · rw [h 0 e rfl hd]; rfl
      · simp at hd; simp [hd]
    rw [h0]
    exact lookH_none fun k e' hk hd => h (k + 1) e' (by simpa using hk) hd

/-- one more is done -/
theorem lookT_more {t : Nat} : ∀ {es : List Ent} {S S' : Nat → Bool} {b : Option AV} {j : Nat} {e : Ent}, es[j]? = some e → (∀ k, S' k = (S k || k == j)) → (e.d.dst = some t → ∀ (k : Nat) (e' : Ent), j < k → es[k]? = some e' → e'.d.dst = some t → S k = false) →
    lookT t S' es b = if e.d.dst = some t then b.map fun _ => e.v else lookT t S es b
  | [], _, _, _, _, _, h, _, _ => by simp at h
  | x :: es, S, S', b, 0, e, h, hS, hn => by
    simp at h
    subst h
    simp only [lookT]
    have h0 : S' 0 = true := by rw [hS 0]; simp
    have h1 : (fun k => S' (k + 1)) = fun k => S (k + 1) := by funext k; rw [hS]; simp
    rw [h0, h1]
    by_cases hd : x.d.dst = some t
    · rw [if_pos hd]
      have : (true && x.d.dst == some t) = true := by simp [hd]
      rw [this]
      simp only [if_true]
      exact lookT_none fun k e' hk hdd => hn hd (k + 1) e' (by omega) (by simpa using hk) hdd
    · rw [if_neg hd]
      have : (true && x.d.dst == some t) = false := by simp [hd]
      have h2 : (S 0 && x.d.dst == some t) = false := by simp [hd]
      rw [this, h2]
  | x :: es, S, S', b, j + 1, e, h, hS, hn => by
    simp only [lookT]
    have h0 : S' 0 = S 0 := by rw [hS 0]; simp
    rw [h0]
    rw [lookT_more (S := fun k => S (k + 1)) (j := j) (e := e) (by simpa using h) (fun k => by rw [hS]; simp) fun hd k e' hk hk' hdd => hn hd (k + 1) e' (by omega) (by simpa using hk') hdd]
    split
    · split
      · cases b <;> rfl
      · rfl
    · rfl

theorem lookH_more {id : Nat} : ∀ {es : List Ent} {S S' : Nat → Bool} {b : Option (Option AObj)} {j : Nat} {e : Ent}, es[j]? = some e → (∀ k, S' k = (S k || k == j)) →
    (e.d.writes.contains id = true → ∀ (k : Nat) (e' : Ent), j < k → es[k]? = some e' → e'.d.writes.contains id = true → S k = false) → lookH id S' es b = if e.d.writes.contains id = true then e.h[id]? else lookH id S es b
  | [], _, _, _, _, _, h, _, _ => by simp at h
  | x :: es, S, S', b, 0, e, h, hS, hn => by
    simp at h
    subst h
    simp only [lookH]
    have h0 : S' 0 = true := by rw [hS 0]; simp
    have h1 : (fun k => S' (k + 1)) = fun k => S (k + 1) := by funext k; rw [hS]; simp
    rw [h0, h1]
    by_cases hd : x.d.writes.contains id = true
    · rw [if_pos hd, hd]
      simp only [Bool.and_self, if_true]
      exact lookH_none fun k e' hk hdd => hn hd (k + 1) e' (by omega) (by simpa using hk) hdd
    · rw [if_neg hd]
      have hd' : x.d.writes.contains id = false := by simpa using hd
      rw [hd']
      simp
  | x :: es, S, S', b, j + 1, e, h, hS, hn => by
    simp only [lookH]
    have h0 : S' 0 = S 0 := by rw [hS 0]; simp
    rw [h0]
    rw [lookH_more (S := fun k => S (k + 1)) (j := j) (e := e) (by simpa using h) (fun k => by rw [hS]; simp) fun hd k e' hk hk' hdd => hn hd (k + 1) e' (by omega) (by simpa using hk') hdd]

/-- a set with, of each operation, all that must come before -/
def Closed (ops : List Oper) (S : Nat → Bool) : Prop := ∀ (i : Nat) (o : Oper), S i = true → ops[i]? = some o → ∀ e, e ∈ o.after.toList → Region.binds .any e = true → S e.on = true

theorem mask_bits {es : List Edge} {acc : List Nat} {k : Nat} : ∀ {s : Nat}, (es.foldl (fun s e => if Region.binds .any e then s ||| 2 ^ e.on ||| acc.getD e.on 0 else s) s).testBit k = true → s.testBit k = true ∨ ∃ e, e ∈ es ∧ Region.binds .any e = true ∧ (e.on = k ∨ (acc.getD e.on 0).testBit k = true) := by
  induction es with
  | nil => intro s h; exact Or.inl h
  | cons e es ih =>
    intro s h
    simp only [List.foldl_cons] at h
    rcases ih h with h1 | ⟨e', h1, h2, h3⟩
    · split at h1
      · rename_i hb
        simp only [Nat.testBit_or, Bool.or_eq_true] at h1
        rcases h1 with (h1 | h1) | h1
        · exact Or.inl h1
        · refine Or.inr ⟨e, by simp, hb, Or.inl ?_⟩
          rw [Nat.testBit_two_pow] at h1
          simpa using h1
        · exact Or.inr ⟨e, by simp, hb, Or.inr h1⟩
      · exact Or.inl h1
    · exact Or.inr ⟨e', by simp [h1], h2, h3⟩

/-- who comes before one that is done, or may be done now, is done -/
theorem masks_ok {ops : List Oper} {S : Nat → Bool} (hS : Closed ops S) : ∀ {l : List Oper} {acc : List Nat}, (∀ j, l[j]? = ops[acc.length + j]?) → (∀ (i m : Nat), acc[i]? = some m → (∀ o, ops[i]? = some o → ∀ e, e ∈ o.after.toList → Region.binds .any e = true → S e.on = true) → ∀ k, m.testBit k = true → S k = true) →
    ∀ (i m : Nat), (masksA l acc)[i]? = some m → (∀ o, ops[i]? = some o → ∀ e, e ∈ o.after.toList → Region.binds .any e = true → S e.on = true) → ∀ k, m.testBit k = true → S k = true
  | [], acc, _, hacc => by simpa [masksA] using hacc
  | o :: l, acc, hl, hacc => by
    simp only [masksA]
    have ho : ops[acc.length]? = some o := by have := hl 0; simpa using this.symm
    refine masks_ok hS (fun j => ?_) fun i m hi hp k hk => ?_
    · have := hl (j + 1)
      simp only [List.length_append, List.length_singleton]
      rw [show acc.length + 1 + j = acc.length + (j + 1) by omega]
      simpa using this
    · rw [List.getElem?_append] at hi
      split at hi
      · exact hacc i m hi hp k hk
      · rename_i hge
        have hieq : i = acc.length := by
          have := lt_of_some hi
          simp at this
          omega
        subst hieq
        rw [Nat.sub_self] at hi
        have hi := Option.some.inj hi
        subst hi
        rcases mask_bits hk with h | ⟨e, h1, h2, h3⟩
        · simp at h
        · have hs := hp o ho e h1 h2
          rcases h3 with h3 | h3
          · rw [← h3]; exact hs
          · have hin : ∃ m, acc[e.on]? = some m := by
              rcases Nat.lt_or_ge e.on acc.length with h | h
              · exact ⟨_, List.getElem?_eq_getElem h⟩
              · rw [List.getD_eq_getElem?_getD, List.getElem?_eq_none h] at h3
                simp at h3
            obtain ⟨m, hm⟩ := hin
            rw [List.getD_eq_getElem?_getD, hm] at h3
            exact hacc e.on m hm (fun o' ho' e' he' hb' => hS e.on o' hs ho' e' he' hb') k h3

theorem apartL_ok {a b : List Nat} (h : apartL a b = true) {i : Nat} (ha : a.contains i = true) (hb : b.contains i = true) : False := by
  unfold apartL at h
  have := List.all_eq_true.1 h i (by simpa using ha)
  rw [hb] at this
  simp at this

theorem checkOne_ok {m : Nat} {d : Done} : ∀ {l : List Done} {i : Nat}, checkOne m d i l = true → ∀ (j : Nat) (e : Done), l[j]? = some e → m.testBit (i + j) = true ∨ apartD e d = true
  | [], _, _, j, e, h => by simp at h
  | x :: l, i, hc, j, e, h => by
    simp only [checkOne, Bool.and_eq_true, Bool.or_eq_true] at hc
    cases j with
    | zero => simp at h; subst h; exact hc.1
    | succ j =>
      have := checkOne_ok hc.2 j e (by simpa using h)
      rwa [show i + 1 + j = i + (j + 1) by omega] at this

end Go.Proofs.YtobhpbnlbgbjaaaGreatDoor
