/- Reasoning about runs of the evaluator from some fuel on (the report seat). -/
import Derived.Test.YtfdcjngclelnhaaDoorP0
import Derived.Laws.Runes
set_option linter.unusedSectionVars false
set_option linter.unusedSimpArgs false
set_option linter.unusedVariables false
set_option linter.unusedSimpArgs false
namespace Go.Proofs.YtfdcjngclelnhaaDoor
open Go Go.RowKit

theorem beq_tf : (true == false) = false := rfl
theorem beq_ft : (false == true) = false := rfl

/-- what a call leaves, from what its body left -/
def retA (P : Program) (fn : Func) (n : Nat) (s : St) : Option (AV × Heap) :=
  match resultsA P s.tmps s.heap fn.results.toList with
  | some vs => some (finishA n (sealR (tupleA vs)) s.heap)
  | none => none

/-- the call gives this, from some fuel on -/
def CallsTo (P : Program) (prim : FuncId → Option Prim) (f : FuncId) (args : List AV) (h : Heap) (v : AV) (h' : Heap) : Prop :=
  ∃ k0, ∀ k, k0 ≤ k → call P prim k f args h = some (v, h')

/-- the code runs to what is asked, from some fuel on -/
def Goes (P : Program) (prim : FuncId → Option Prim) (c : Code) (s : St) (Q : Ex → St → Prop) : Prop :=
  ∃ e s', Q e s' ∧ ∃ k0, ∀ k, k0 ≤ k → run P prim k c s = some (e, s')

section
variable {P : Program} {prim : FuncId → Option Prim} {Q Q' : Ex → St → Prop} {s s' : St}

theorem Goes.mono {c : Code} (h : Goes P prim c s Q) (hq : ∀ e s', Q e s' → Q' e s') : Goes P prim c s Q' := by
  obtain ⟨e, s', h1, h2⟩ := h
  exact ⟨e, s', hq _ _ h1, h2⟩

theorem Goes.skip (h : Q .normal s) : Goes P prim .skip s Q := ⟨_, _, h, 1, fun k hk => by obtain ⟨j, rfl⟩ : ∃ j, k = j + 1 := ⟨k - 1, by omega⟩; rfl⟩
theorem Goes.ret (h : Q .ret s) : Goes P prim .ret s Q := ⟨_, _, h, 1, fun k hk => by obtain ⟨j, rfl⟩ : ∃ j, k = j + 1 := ⟨k - 1, by omega⟩; rfl⟩
theorem Goes.exit {n} (h : Q (.exit n) s) : Goes P prim (.exit n) s Q := ⟨_, _, h, 1, fun k hk => by obtain ⟨j, rfl⟩ : ∃ j, k = j + 1 := ⟨k - 1, by omega⟩; rfl⟩
theorem Goes.label {n} (h : Q .normal s) : Goes P prim (.label n) s Q := ⟨_, _, h, 1, fun k hk => by obtain ⟨j, rfl⟩ : ∃ j, k = j + 1 := ⟨k - 1, by omega⟩; rfl⟩
theorem Goes.goto {n} (h : Q (.goto n) s) : Goes P prim (.goto n) s Q := ⟨_, _, h, 1, fun k hk => by obtain ⟨j, rfl⟩ : ∃ j, k = j + 1 := ⟨k - 1, by omega⟩; rfl⟩

theorem Goes.seq {a b : Code} (h : Goes P prim a s fun e s' => match e with | .normal => Goes P prim b s' Q | e => Q e s') : Goes P prim (.seq a b) s Q := by
  obtain ⟨e, s1, h1, k1, h2⟩ := h
  cases e with
  | normal =>
    obtain ⟨e, s2, h3, k2, h4⟩ := h1
    refine ⟨e, s2, h3, max k1 k2 + 1, fun k hk => ?_⟩
    obtain ⟨j, rfl⟩ : ∃ j, k = j + 1 := ⟨k - 1, by omega⟩
    have e1 := h2 j (by omega); have e2 := h4 j (by omega)
    simp only [run, e1, e2]
  | ret | exit _ | goto _ =>
    refine ⟨_, s1, h1, k1 + 1, fun k hk => ?_⟩
    obtain ⟨j, rfl⟩ : ∃ j, k = j + 1 := ⟨k - 1, by omega⟩
    have e1 := h2 j (by omega)
    simp only [run, e1]

/-- in a row, with what holds between -/
theorem Goes.mid (I : St → Prop) {a b : Code} (h : Goes P prim a s fun e s' => e = .normal ∧ I s') (h2 : ∀ s', I s' → Goes P prim b s' Q) : Goes P prim (.seq a b) s Q :=
  Goes.seq (h.mono fun e s' ⟨he, hi⟩ => by subst he; exact h2 s' hi)

theorem Goes.cond {x : Operand} {a b : Code} (t : Bool) (hx : evalX s.tmps x = some (.dat (.bool t))) (h : Goes P prim (if t then a else b) s Q) : Goes P prim (.cond x a b) s Q := by
  obtain ⟨e, s2, h3, k2, h4⟩ := h
  refine ⟨e, s2, h3, k2 + 1, fun k hk => ?_⟩
  obtain ⟨j, rfl⟩ : ∃ j, k = j + 1 := ⟨k - 1, by omega⟩
  simp only [run, hx, h4 j (by omega)]

theorem Goes.block {id : Nat} {b : Code} (h : Goes P prim b s fun e s' => match e with | .exit i => if i = id then Q .normal s' else Q (.exit i) s' | e => Q e s') : Goes P prim (.block id b) s Q := by
  obtain ⟨e, s1, h1, k1, h2⟩ := h
  cases e with
  | exit i =>
    by_cases hi : i = id
    · subst hi
      simp only [if_true] at h1
      refine ⟨_, s1, h1, k1 + 1, fun k hk => ?_⟩
      obtain ⟨j, rfl⟩ : ∃ j, k = j + 1 := ⟨k - 1, by omega⟩
      simp only [run, h2 j (by omega), if_true]
    · simp only [if_neg hi] at h1
      refine ⟨_, s1, h1, k1 + 1, fun k hk => ?_⟩
      obtain ⟨j, rfl⟩ : ∃ j, k = j + 1 := ⟨k - 1, by omega⟩
      simp only [run, h2 j (by omega), if_neg hi]
  | ret | normal | goto _ =>
    refine ⟨_, s1, h1, k1 + 1, fun k hk => ?_⟩
    obtain ⟨j, rfl⟩ : ∃ j, k = j + 1 := ⟨k - 1, by omega⟩
    simp only [run, h2 j (by omega)]

/-- a loop, by what holds before each round, with how many rounds there are at most -/
theorem Goes.loop {b : Code} (I : Nat → St → Prop) (h : ∀ n s, I n s → Goes P prim b s fun e s' => match e with | .normal => ∃ m, m < n ∧ I m s' | e => Q e s') : ∀ n s, I n s → Goes P prim (.loop b) s Q := by
  intro n
  induction n using Nat.strongRecOn with
  | _ n ih =>
    intro s hi
    obtain ⟨e, s1, h1, k1, h2⟩ := h n s hi
    cases e with
    | normal =>
      obtain ⟨m, hm, hi'⟩ := h1
      obtain ⟨e, s2, h3, k2, h4⟩ := ih m hm s1 hi'
      refine ⟨e, s2, h3, max k1 k2 + 1, fun k hk => ?_⟩
      obtain ⟨j, rfl⟩ : ∃ j, k = j + 1 := ⟨k - 1, by omega⟩
      simp only [run, h2 j (by omega), h4 j (by omega)]
    | ret | exit _ | goto _ =>
      refine ⟨_, s1, h1, k1 + 1, fun k hk => ?_⟩
      obtain ⟨j, rfl⟩ : ∃ j, k = j + 1 := ⟨k - 1, by omega⟩
      simp only [run, h2 j (by omega)]

theorem Goes.region {n : Nat} {ops : Array Oper} (k0 : Nat) (h : ∀ k, k0 ≤ k → regionT P (call P prim k) ops ops.toList s = some s') (hq : Q .normal s') : Goes P prim (.region n ops false) s Q := by
  refine ⟨_, _, hq, k0 + 1, fun k hk => ?_⟩
  obtain ⟨j, rfl⟩ : ∃ j, k = j + 1 := ⟨k - 1, by omega⟩
  have := h j (by omega)
  unfold call at this
  simp only [run, this, Bool.false_eq_true, if_false, Option.map_some]

theorem CallsTo.enter {f : FuncId} {fn : Func} {body : Code} (hf : P.funcs[f]? = some fn) (hb : fn.body = some body) (hp : prim f = none) {args : List AV} {h : Heap} {v : AV} {h' : Heap}
    (hg : Goes P prim body ⟨args.map sealV ++ List.replicate (fn.ntmps - args.length) undefA, h⟩ fun e s' => (e = .normal ∨ e = .ret) ∧ retA P fn h.length s' = some (v, h')) : CallsTo P prim f args h v h' := by
  obtain ⟨e, s1, ⟨he, h1⟩, k1, h3⟩ := hg
  simp only [retA] at h1
  refine ⟨k1, fun k hk => ?_⟩
  have := h3 k hk
  rcases he with rfl | rfl <;> (simp only [call, enterA, hp, hf, hb, this]; exact h1)

/-- the same, with what the temps hold -/
theorem CallsTo.body {f : FuncId} {fn : Func} {body : Code} (hf : P.funcs[f]? = some fn) (hb : fn.body = some body) (hp : prim f = none) {args : List AV} (hn : args.length ≤ fn.ntmps) {h : Heap} {v : AV} {h' : Heap}
    (hg : ∀ ts : List AV, ts.length = fn.ntmps → (∀ (i : Nat) (a : AV), args[i]? = some a → ts[i]? = some (sealV a)) → Goes P prim body ⟨ts, h⟩ fun e s' => (e = .normal ∨ e = .ret) ∧ retA P fn h.length s' = some (v, h')) : CallsTo P prim f args h v h' := by
  refine CallsTo.enter hf hb hp (hg _ ?_ ?_)
  · simp; omega
  · intro i a hi
    have hlt : i < args.length := by
      rcases Nat.lt_or_ge i args.length with h | h
      · exact h
      · rw [List.getElem?_eq_none h] at hi; exact nomatch hi
    rw [List.getElem?_append_left (by simpa using hlt), List.getElem?_map, hi]
    rfl

theorem CallsTo.ofPrim {f : FuncId} {p : Prim} (hp : prim f = some p) {args : List AV} {h : Heap} {v : AV} {h' : Heap} (e : p args h = some (v, h')) : CallsTo P prim f args h v h' := ⟨0, fun k _ => by simp only [call, enterA, hp, e]⟩

theorem CallsTo.of {f : FuncId} {args : List AV} {h : Heap} {v : AV} {h' : Heap} (k0 : Nat) (e : ∀ k, call P prim (k + k0) f args h = some (v, h')) : CallsTo P prim f args h v h' :=
  ⟨k0, fun k hk => by have := e (k - k0); rwa [Nat.sub_add_cancel hk] at this⟩

end

theorem Goes.draw {P : Program} {prim : FuncId → Option Prim} {Q : Ex → St → Prop} {s s' : St} {n : Nat} {ops : Array Oper} (k0 : Nat) (h : ∀ k, k0 ≤ k → regionDraw P (call P prim k) ops s = some s') (hq : Q .normal s') : Goes P prim (.region n ops true) s Q := by
  refine ⟨_, _, hq, k0 + 1, fun k hk => ?_⟩
  obtain ⟨j, rfl⟩ : ∃ j, k = j + 1 := ⟨k - 1, by omega⟩
  have := h j (by omega)
  unfold call at this
  simp only [run, this, if_true, Option.map_some]

section
variable {P : Program} {prim : FuncId → Option Prim} {Q : Ex → St → Prop}

theorem scope_from {b rest : Code} {L : Nat} (hfl : findLabel b L = some rest) (J : Nat → St → Prop)
    (h : ∀ n s, J n s → Goes P prim rest s fun e s' => match e with | .goto l => l = L ∧ ∃ m, m < n ∧ J m s' | e => Q e s') :
    ∀ n s, J n s → ∃ e s', Q e s' ∧ (∀ l, e ≠ .goto l) ∧ ∃ k0, ∀ k N, k0 ≤ k → k0 ≤ N → scopeLoop (run P prim k) b N rest s = some (e, s') := by
  intro n
  induction n using Nat.strongRecOn with
  | _ n ih =>
    intro s hj
    obtain ⟨e, s1, h1, k1, h2⟩ := h n s hj
    cases e with
    | goto l =>
      obtain ⟨rfl, m, hm, hj'⟩ := h1
      obtain ⟨e, s2, h3, hng, k2, h4⟩ := ih m hm s1 hj'
      refine ⟨e, s2, h3, hng, max k1 k2 + 1, fun k N hk hN => ?_⟩
      obtain ⟨j, rfl⟩ : ∃ j, N = j + 1 := ⟨N - 1, by omega⟩
      simp only [scopeLoop, h2 k (by omega), hfl, h4 k j (by omega) (by omega)]
    | ret | exit _ | normal =>
      refine ⟨_, s1, h1, (by intro l hl; cases hl), k1 + 1, fun k N hk hN => ?_⟩
      obtain ⟨j, rfl⟩ : ∃ j, N = j + 1 := ⟨N - 1, by omega⟩
      simp only [scopeLoop, h2 k (by omega)]

theorem run_scope (k : Nat) (b : Code) (s : St) : run P prim (k + 1) (.scope b) s = scopeLoop (run P prim k) b k b s := rfl

/-- code that begins with its label -/
theorem Goes.scope {b rest : Code} {L : Nat} (hb : b = .seq (.label L) rest) (hfl : findLabel b L = some (.seq .skip rest)) (J : Nat → St → Prop)
    (h : ∀ n s, J n s → Goes P prim rest s fun e s' => match e with | .goto l => l = L ∧ ∃ m, m < n ∧ J m s' | e => Q e s') {n : Nat} {s : St} (hj : J n s) : Goes P prim (.scope b) s Q := by
  have h0 : Goes P prim b s fun e s' => match e with | .goto l => l = L ∧ ∃ m, m < n ∧ J m s' | e => Q e s' := by
    subst hb
    exact Goes.seq (Goes.label (h n s hj))
  obtain ⟨e, s1, h1, k1, h2⟩ := h0
  cases e with
  | goto l =>
    obtain ⟨rfl, m, hm, hj'⟩ := h1
    obtain ⟨e, s2, h3, _, k2, h4⟩ := scope_from (P := P) (prim := prim) (Q := Q) hfl J (fun n s hj => Goes.seq (Goes.skip (h n s hj))) m s1 hj'
    refine ⟨e, s2, h3, max k1 k2 + 2, fun k hk => ?_⟩
    obtain ⟨j, rfl⟩ : ∃ j, k = j + 2 := ⟨k - 2, by omega⟩
    rw [show j + 2 = (j + 1) + 1 from rfl, run_scope]
    simp only [scopeLoop, h2 (j + 1) (by omega), hfl, h4 (j + 1) j (by omega) (by omega)]
  | ret | exit _ | normal =>
    refine ⟨_, s1, h1, k1 + 2, fun k hk => ?_⟩
    obtain ⟨j, rfl⟩ : ∃ j, k = j + 2 := ⟨k - 2, by omega⟩
    rw [show j + 2 = (j + 1) + 1 from rfl, run_scope]
    simp only [scopeLoop, h2 (j + 1) (by omega)]
end

/-- a call, with what holds of what it leaves -/
theorem CallsTo.bodyE {P : Program} {prim : FuncId → Option Prim} {f : FuncId} {fn : Func} {body : Code} (hf : P.funcs[f]? = some fn) (hb : fn.body = some body) (hp : prim f = none) {args : List AV} (hn : args.length ≤ fn.ntmps) {h : Heap} (R : AV → Heap → Prop)
    (hg : ∀ ts : List AV, ts.length = fn.ntmps → (∀ (i : Nat) (a : AV), args[i]? = some a → ts[i]? = some (sealV a)) → Goes P prim body ⟨ts, h⟩ fun e s' => (e = .normal ∨ e = .ret) ∧ ∃ v h', retA P fn h.length s' = some (v, h') ∧ R v h') : ∃ v h', R v h' ∧ CallsTo P prim f args h v h' := by
  have hg' := hg (args.map sealV ++ List.replicate (fn.ntmps - args.length) undefA) (by simp; omega) fun i a hi => by
    have hlt : i < args.length := by
      rcases Nat.lt_or_ge i args.length with h | h
      · exact h
      · rw [List.getElem?_eq_none h] at hi; cases hi
    rw [List.getElem?_append_left (by simpa using hlt), List.getElem?_map, hi]
    rfl
  obtain ⟨e, s', ⟨he, v, h', hr, hR⟩, hk⟩ := hg'
  exact ⟨v, h', hR, CallsTo.enter hf hb hp ⟨e, s', ⟨he, hr⟩, hk⟩⟩

theorem wrap64 (n : Int) (h0 : -9223372036854775808 ≤ n) (h1 : n ≤ 9223372036854775807) : IntKind.i64.wrap n = n := by
  simp only [IntKind.wrap, IntKind.bits, IntKind.signed]
  simp
  omega


theorem size3 : sizeA Tryd.prog 3 = some 1 := by kernel_rfl
theorem agg3 : isAggA Tryd.prog 3 = some false := by kernel_rfl
theorem size9 : sizeA Tryd.prog 9 = some 1 := by kernel_rfl
theorem agg9 : isAggA Tryd.prog 9 = some false := by kernel_rfl
theorem size26 : sizeA Tryd.prog 26 = some 3 := by kernel_rfl
theorem agg26 : isAggA Tryd.prog 26 = some true := by kernel_rfl

theorem byte_back (c : UInt8) : (c.toNat).toUInt8 = c := UInt8.ofNat_toNat

theorem of_range {α : Type} {f g : Nat → α} (h : (List.range 256).map f = (List.range 256).map g) (n : Nat) (hn : n < 256) : f n = g n := by
  have := congrArg (fun l => l[n]?) h
  simp only [List.getElem?_map, List.getElem?_range hn, Option.map_some, Option.some.injEq] at this
  exact this

end Go.Proofs.YtfdcjngclelnhaaDoor
