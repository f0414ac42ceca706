/- Calls that are known: a table of them as entries of the evaluator. -/
import Derived.Test.YtobhpbnlbgbjaaaGreatDoorF
set_option linter.unusedSectionVars false
set_option linter.unusedSimpArgs false
set_option linter.unusedVariables false
namespace Go.Proofs.YtobhpbnlbgbjaaaGreatDoor
open Go Go.RowKit
set_option linter.unusedSectionVars false
variable [mode : Inhabited ModeT]

def Own.eqv : Own → Own → Bool
  | .full, .full => true
  | .tip a, .tip b => a == b
  | .at a b c d, .at a' b' c' d' => a == a' && b == b' && c == c' && d == d'
  | _, _ => false

theorem Own.eqv_ok {a b : Own} (h : a.eqv b = true) : a = b := by
  cases a <;> cases b <;> simp_all [Own.eqv]

def fnEqv : Fn → Fn → Bool
  | .func a, .func b => a == b
  | _, _ => false

theorem fnEqv_ok {a b : Fn} (h : fnEqv a b = true) : a = b := by
  cases a <;> cases b <;> simp_all [fnEqv]

mutual
def AV.eqv : AV → AV → Bool
  | .dat a, .dat b => a.same b
  | .own g es, .own g' es' => g.eqv g' && D.sameL es es'
  | .ptr none, .ptr none => true
  | .ptr (some a), .ptr (some b) => a.1 == b.1 && a.2 == b.2
  | .ep cs o, .ep cs' o' => o == o' && D.sameL cs cs'
  | .func f a c, .func f' a' c' => fnEqv f f' && AV.eqvL a a' && AV.eqvL c c'
  | .nilFunc, .nilFunc => true
  | .iface t v, .iface t' v' => t == t' && v.eqv v'
  | .nilIface, .nilIface => true
  | .agg a, .agg b => AV.eqvL a b
  | .tuple a, .tuple b => AV.eqvL a b
  | .sdata a b c d es, .sdata a' b' c' d' es' => a == a' && b == b' && c == c' && d == d' && D.sameL es es'
  | .fp a b c, .fp a' b' c' => a == a' && b == b' && c == c'
  | .row a b c d e, .row a' b' c' d' e' => a == a' && b == b' && c == c' && d == d' && e == e'
  | .mapv none, .mapv none => true
  | .mapv (some a), .mapv (some b) => a == b
  | .any, .any => true
  | _, _ => false
def AV.eqvL : List AV → List AV → Bool
  | [], [] => true
  | a :: r, b :: q => a.eqv b && AV.eqvL r q
  | _, _ => false
end

mutual
theorem AV.eqv_ok : ∀ {a b : AV}, a.eqv b = true → a = b
  | .dat a, b, h => by cases b <;> simp only [AV.eqv, reduceCtorEq] at h; rw [D.same_ok h]
  | .own g es, b, h => by
    cases b <;> simp only [AV.eqv, reduceCtorEq, Bool.and_eq_true] at h
    rw [Own.eqv_ok h.1, D.sameL_ok h.2]
  | .ptr none, b, h => by
    cases b with
    | ptr o => cases o <;> simp_all [AV.eqv]
    | _ => simp [AV.eqv] at h
  | .ptr (some (a1, a2)), b, h => by
    cases b with
    | ptr o =>
      cases o with
      | none => simp [AV.eqv] at h
      | some b => obtain ⟨b1, b2⟩ := b; simp [AV.eqv] at h; rw [h.1, h.2]
    | _ => simp [AV.eqv] at h
  | .ep cs o, b, h => by
    cases b <;> simp only [AV.eqv, reduceCtorEq, Bool.and_eq_true, beq_iff_eq] at h
    rw [h.1, D.sameL_ok h.2]
  | .func f a c, b, h => by
    cases b <;> simp only [AV.eqv, reduceCtorEq, Bool.and_eq_true] at h
    rw [fnEqv_ok h.1.1, AV.eqvL_ok h.1.2, AV.eqvL_ok h.2]
  | .nilFunc, b, h => by cases b <;> simp [AV.eqv] at h ⊢
  | .iface t v, b, h => by
    cases b <;> simp only [AV.eqv, reduceCtorEq, Bool.and_eq_true, beq_iff_eq] at h
    rw [h.1, AV.eqv_ok h.2]
  | .nilIface, b, h => by cases b <;> simp [AV.eqv] at h ⊢
  | .agg a, b, h => by cases b <;> simp only [AV.eqv, reduceCtorEq] at h; rw [AV.eqvL_ok h]
  | .tuple a, b, h => by cases b <;> simp only [AV.eqv, reduceCtorEq] at h; rw [AV.eqvL_ok h]
  | .sdata a1 a2 a3 a4 es, b, h => by
    cases b <;> simp only [AV.eqv, reduceCtorEq, Bool.and_eq_true, beq_iff_eq] at h
    rw [h.1.1.1.1, h.1.1.1.2, h.1.1.2, h.1.2, D.sameL_ok h.2]
  | .fp a1 a2 a3, b, h => by cases b <;> simp_all [AV.eqv]
  | .row a1 a2 a3 a4 a5, b, h => by cases b <;> simp_all [AV.eqv]
  | .mapv none, b, h => by
    cases b with
    | mapv o => cases o <;> simp_all [AV.eqv]
    | _ => simp [AV.eqv] at h
  | .mapv (some a), b, h => by
    cases b with
    | mapv o => cases o <;> simp_all [AV.eqv]
    | _ => simp [AV.eqv] at h
  | .any, b, h => by cases b <;> simp [AV.eqv] at h ⊢
theorem AV.eqvL_ok : ∀ {a b : List AV}, AV.eqvL a b = true → a = b
  | [], [], _ => rfl
  | a :: r, b :: q, h => by
    simp only [AV.eqvL, Bool.and_eq_true] at h
    rw [AV.eqv_ok h.1, AV.eqvL_ok h.2]
  | [], _ :: _, h => by simp [AV.eqvL] at h
  | _ :: _, [], h => by simp [AV.eqvL] at h
end

def natsEqv : List Nat → List Nat → Bool
  | [], [] => true
  | a :: r, b :: q => a == b && natsEqv r q
  | _, _ => false

theorem natsEqv_ok : ∀ {a b : List Nat}, natsEqv a b = true → a = b
  | [], [], _ => rfl
  | a :: r, b :: q, h => by
    simp only [natsEqv, Bool.and_eq_true, beq_iff_eq] at h
    rw [h.1, natsEqv_ok h.2]
  | [], _ :: _, h => by simp [natsEqv] at h
  | _ :: _, [], h => by simp [natsEqv] at h

def mpEqv : List (D × AV × Nat) → List (D × AV × Nat) → Bool
  | [], [] => true
  | (k, v, n) :: r, (k', v', n') :: q => k.same k' && v.eqv v' && n == n' && mpEqv r q
  | _, _ => false

theorem mpEqv_ok : ∀ {a b : List (D × AV × Nat)}, mpEqv a b = true → a = b
  | [], [], _ => rfl
  | (k, v, n) :: r, (k', v', n') :: q, h => by
    simp only [mpEqv, Bool.and_eq_true, beq_iff_eq] at h
    rw [D.same_ok h.1.1.1, AV.eqv_ok h.1.1.2, h.1.2, mpEqv_ok h.2]
  | [], _ :: _, h => by simp [mpEqv] at h
  | _ :: _, [], h => by simp [mpEqv] at h

def onatEqv : Option Nat → Option Nat → Bool
  | none, none => true
  | some a, some b => a == b
  | _, _ => false

theorem onatEqv_ok : ∀ {a b : Option Nat}, onatEqv a b = true → a = b
  | none, none, _ => rfl
  | some a, some b, h => by simp [onatEqv] at h; rw [h]
  | none, some _, h => by simp [onatEqv] at h
  | some _, none, h => by simp [onatEqv] at h

def AObj.eqv : AObj → AObj → Bool
  | .cells e cs v, .cells e' cs' v' => e == e' && v == v' && AV.eqvL cs cs'
  | .tip a b c, .tip a' b' c' => a == a' && b == b' && c == c'
  | .free e cs v l f x, .free e' cs' v' l' f' x' => e == e' && v == v' && l == l' && f == f' && x == x' && AV.eqvL cs cs'
  | .mp es c l, .mp es' c' l' => c == c' && l == l' && mpEqv es es'
  | .sit s p, .sit s' p' => p == p' && s == s'
  | .mit m s l n, .mit m' s' l' n' => onatEqv m m' && s == s' && natsEqv l l' && n == n'
  | _, _ => false

theorem AObj.eqv_ok {a b : AObj} (h : a.eqv b = true) : a = b := by
  cases a <;> cases b <;> simp only [AObj.eqv, reduceCtorEq, Bool.and_eq_true, beq_iff_eq] at h
  · rw [h.1.1, h.1.2, AV.eqvL_ok h.2]
  · rw [h.1.1, h.1.2, h.2]
  · rw [h.1.1.1.1.1, h.1.1.1.1.2, h.1.1.1.2, h.1.1.2, h.1.2, AV.eqvL_ok h.2]
  · rw [h.1.1, h.1.2, mpEqv_ok h.2]
  · rw [h.1, h.2]
  · rw [onatEqv_ok h.1.1.1, h.1.1.2, natsEqv_ok h.1.2, h.2]

def heapEqv : Heap → Heap → Bool
  | [], [] => true
  | none :: r, none :: q => heapEqv r q
  | some a :: r, some b :: q => a.eqv b && heapEqv r q
  | _, _ => false

theorem heapEqv_ok : ∀ {a b : Heap}, heapEqv a b = true → a = b
  | [], [], _ => rfl
  | none :: r, none :: q, h => by
    simp only [heapEqv] at h
    rw [heapEqv_ok h]
  | some a :: r, some b :: q, h => by
    simp only [heapEqv, Bool.and_eq_true] at h
    rw [AObj.eqv_ok h.1, heapEqv_ok h.2]
  | [], _ :: _, h => by simp [heapEqv] at h
  | _ :: _, [], h => by simp [heapEqv] at h
  | none :: _, some _ :: _, h => by simp [heapEqv] at h
  | some _ :: _, none :: _, h => by simp [heapEqv] at h

/-- a call from a heap, and what it comes to; whatever: over plain data it is the same from whatever heap -/
structure Known where
  whatever : Bool
  args : List AV
  heap : Heap
  v : AV
  heap' : Heap

/-- does a run come to that? -/
def comesTo (r : Option (AV × Heap)) (m : Known) : Bool :=
  match r with
  | some (v, h) => v.eqv m.v && heapEqv h m.heap'
  | none => false

theorem comesTo_ok {r : Option (AV × Heap)} {m : Known} (h : comesTo r m = true) : r = some (m.v, m.heap') := by
  unfold comesTo at h
  split at h
  · simp only [Bool.and_eq_true] at h
    rw [AV.eqv_ok h.1, heapEqv_ok h.2]
  · cases h

/-- is it fit to be known? -/
def fitK (m : Known) : Bool := !m.whatever || (m.args.all AV.plain && m.v.plain && m.heap.isEmpty && m.heap'.isEmpty)

def seek (args : List AV) (h : Heap) : List Known → Option (AV × Heap)
  | [] => none
  | m :: r => if m.whatever then (if AV.eqvL args m.args then some (m.v, h) else seek args h r)
    else (if AV.eqvL args m.args && heapEqv h m.heap then some (m.v, m.heap') else seek args h r)

abbrev Tab := List (FuncId × List Known)

def tabAt (f : FuncId) : Tab → Option (List Known)
  | [] => none
  | (g, l) :: r => if f == g then some l else tabAt f r

/-- these entries, and the model's own -/
def withTab (t : Tab) (prim : FuncId → Option Prim) : FuncId → Option Prim := fun f =>
  match tabAt f t with
  | some l => some fun args h => seek args h l
  | none => prim f

section
variable {P : Program}

/-- a call of the code itself, entries within -/
def callB (P : Program) (prim : FuncId → Option Prim) (k : Nat) : CallF := enterA P (fun _ => none) (run P prim k)

theorem callB_ok (hP : ProgOk P) {prim : FuncId → Option Prim} (hprim : PrimsOk P prim) (k : Nat) : CallOk P (callB P prim k) := enter_ok hP (by intro f p h; cases h) (run_ok hP hprim k)

/-- it is what the code does -/
def Good (P : Program) (f : FuncId) (m : Known) : Prop := fitK m = true ∧ ∃ (prim : FuncId → Option Prim) (k : Nat), PrimsOk P prim ∧ callB P prim k f m.args m.heap = some (m.v, m.heap')

theorem Good.of {prim : FuncId → Option Prim} (hp : PrimsOk P prim) (k : Nat) {f : FuncId} {m : Known} (h : (fitK m && comesTo (callB P prim k f m.args m.heap) m) = true) : Good P f m := by
  simp only [Bool.and_eq_true] at h
  exact ⟨h.1, prim, k, hp, comesTo_ok h.2⟩

def GoodL (P : Program) (f : FuncId) : List Known → Prop
  | [] => True
  | m :: r => Good P f m ∧ GoodL P f r

def GoodT (P : Program) : Tab → Prop
  | [] => True
  | (f, l) :: r => GoodL P f l ∧ GoodT P r

theorem seek_ok {f : FuncId} {args : List AV} {h : Heap} : ∀ {l : List Known}, GoodL P f l → ∀ {v h'}, seek args h l = some (v, h') → ∃ m, Good P f m ∧ m.args = args ∧ m.v = v ∧ (m.whatever = true ∧ h' = h ∨ m.heap = h ∧ m.heap' = h')
  | [], _, _, _, hs => nomatch hs
  | m :: r, hg, v, h', hs => by
    unfold seek at hs
    split at hs
    · rename_i hw
      split at hs
      · rename_i he
        cases hs
        exact ⟨m, hg.1, (AV.eqvL_ok he).symm, rfl, Or.inl ⟨hw, rfl⟩⟩
      · exact seek_ok hg.2 hs
    · split at hs
      · rename_i he
        simp only [Bool.and_eq_true] at he
        cases hs
        exact ⟨m, hg.1, (AV.eqvL_ok he.1).symm, rfl, Or.inr ⟨(heapEqv_ok he.2).symm, rfl⟩⟩
      · exact seek_ok hg.2 hs

theorem tabAt_ok {f : FuncId} : ∀ {t : Tab}, GoodT P t → ∀ {l}, tabAt f t = some l → GoodL P f l
  | [], _, _, hs => nomatch hs
  | (g, l0) :: r, hg, l, hs => by
    unfold tabAt at hs
    split at hs
    · rename_i he
      cases hs
      rw [eq_of_beq he]
      exact hg.1
    · exact tabAt_ok hg.2 hs

mutual
theorem D.same_self : ∀ a : D, a.same a = true
  | .bool a => by simp [D.same]
  | .int k n => by simp [D.same]
  | .str a => by simp [D.same]
  | .nils => rfl
  | .slice es => by simp only [D.same]; exact D.sameL_self es
  | .agg es => by simp only [D.same]; exact D.sameL_self es
theorem D.sameL_self : ∀ a : List D, D.sameL a a = true
  | [] => rfl
  | a :: r => by simp only [D.sameL, Bool.and_eq_true]; exact ⟨D.same_self a, D.sameL_self r⟩
end

theorem plain_self : ∀ {v : AV}, v.plain = true → v.eqv v = true
  | .dat d, _ => by simp only [AV.eqv]; exact D.same_self d
  | .tuple vs, h => by
    simp only [AV.eqv]
    simp only [AV.plain] at h
    induction vs with
    | nil => rfl
    | cons x r ih =>
      simp only [List.all_cons, Bool.and_eq_true] at h
      simp only [AV.eqvL, Bool.and_eq_true]
      refine ⟨?_, ih h.2⟩
      cases x with
      | dat d => simp only [AV.eqv]; exact D.same_self d
      | _ => cases h.1

theorem seek_self : ∀ {l : List AV}, l.all AV.plain = true → AV.eqvL l l = true
  | [], _ => rfl
  | v :: r, h => by
    simp only [List.all_cons, Bool.and_eq_true] at h
    simp only [AV.eqvL, Bool.and_eq_true]
    exact ⟨plain_self h.1, seek_self h.2⟩

theorem withTab_ok (hP : ProgOk P) {t : Tab} {prim : FuncId → Option Prim} (hp : PrimsOk P prim) (hg : GoodT P t) : PrimsOk P (withTab t prim) := by
  intro f p hf
  unfold withTab at hf
  split at hf
  · rename_i l hl
    cases hf
    intro args h v h' hs
    obtain ⟨m, hgm, ha, hv, hh⟩ := seek_ok (tabAt_ok hg hl) hs
    obtain ⟨hfit, pr, k, hpr, hc⟩ := hgm
    rcases hh with ⟨hw, rfl⟩ | ⟨rfl, rfl⟩
    · simp only [fitK, hw, Bool.not_true, Bool.false_or, Bool.and_eq_true, List.isEmpty_iff] at hfit
      obtain ⟨⟨⟨q1, q2⟩, q3⟩, q4⟩ := hfit
      subst ha; subst hv
      rw [q3, q4] at hc
      have := CallFOk.ofCallC (P := P) (f := f) (p := fun a b => if AV.eqvL a m.args then some (m.v, b) else none) fun a b v' b' hs => by
        split at hs
        · rename_i he
          cases hs
          rw [AV.eqvL_ok he]
          exact ⟨rfl, q1, q2, _, callB_ok hP hpr k, hc⟩
        · cases hs
      exact this m.args h' m.v h' (if_pos (seek_self q1))
    · subst ha; subst hv
      exact callB_ok hP hpr k f _ _ _ _ hc
  · exact hp f p hf
end
end Go.Proofs.YtobhpbnlbgbjaaaGreatDoor
