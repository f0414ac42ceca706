/- The law of what is read back: its entries, and that it gives true. -/
import Derived.Test.YtfdcjngclelnhaaDoorP17
set_option linter.unusedSectionVars false
set_option linter.unusedSimpArgs false
set_option linter.unusedVariables false
set_option linter.unusedSimpArgs false
namespace Go.Proofs.YtfdcjngclelnhaaDoor
open Go Go.RowKit

theorem valText_len {v : Val} (hv : ValOk v) : (valText v).length ≤ 3002 := by
  cases hv with
  | null => decide
  | bool b => cases b <;> decide
  | int n hn => have := numeral_small hn; show (numeral n).length ≤ _; omega
  | text s hs =>
    show (quote s).length ≤ _
    have := quoteL_length s
    simp only [quote, List.length_append, List.length_cons, List.length_nil]
    omega

theorem joined_len (sep : List UInt8) (B : Nat) : ∀ l : List (List UInt8), (∀ x ∈ l, x.length ≤ B) → (joined sep l).length ≤ l.length * (B + sep.length)
  | [], _ => by simp [joined]
  | [x], h => by
    have := h x (by simp)
    simp only [joined, List.length_cons, List.length_nil]
    omega
  | x :: y :: r, h => by
    have h1 := h x (by simp)
    have h2 := joined_len sep B (y :: r) fun z hz => h z (List.mem_cons_of_mem _ hz)
    simp only [joined, List.length_append, List.length_cons] at h2 ⊢
    have e : (r.length + 1 + 1) * (B + sep.length) = (r.length + 1) * (B + sep.length) + (B + sep.length) := Nat.succ_mul _ _
    omega

theorem rowText_len {vs : List Val} (hv : ∀ v ∈ vs, ValOk v) (hle : vs.length ≤ 40) : (rowText vs).length ≤ 200000 := by
  have h := joined_len [44, 32] 3002 (vs.map valText) fun x hx => by
    rw [List.mem_map] at hx
    obtain ⟨v, hm, rfl⟩ := hx
    exact valText_len (hv v hm)
  rw [List.length_map] at h
  have h2 : vs.length * (3002 + [44, (32 : UInt8)].length) ≤ 40 * 3004 := Nat.mul_le_mul_right _ hle
  unfold rowText
  omega

theorem ValOk.fits {v : Val} (hv : ValOk v) : v.fits := by
  cases hv with
  | null => exact ⟨by decide, by decide⟩
  | bool b => cases b <;> exact ⟨by decide, by decide⟩
  | int n hn => exact ⟨hn, by simp⟩
  | text s hs => exact ⟨rfl, by show s.length ≤ _; omega⟩

theorem read_empty : (fun k => call Tryd.prog primD (k + 60) 9 [.dat (.str [])] []) = fun _ => some (.tuple [.dat .nils, .dat (.int .i64 0)], []) := by kernel_rfl

open Classical in
noncomputable def pFix (a0 : List AV) (v0 : AV) : Prim := fun args h => if args = a0 then some (v0, h) else none

theorem pFix_ok {prim : FuncId → Option Prim} (hp : PrimsOk Tryd.prog prim) {f : FuncId} {a0 : List AV} {v0 : AV} (hpa : a0.all AV.plain = true) (hpv : v0.plain = true) (hc : CallsTo Tryd.prog prim f a0 [] v0 []) : CallFOk Tryd.prog f (pFix a0 v0) := by
  refine CallFOk.ofCall prog_ok hp fun args h v h' hs => ?_
  unfold pFix at hs
  split at hs
  · rename_i e
    subst e
    cases hs
    obtain ⟨k0, h1⟩ := hc
    exact ⟨rfl, hpa, hpv, k0, h1 k0 (Nat.le_refl _)⟩
  · cases hs

def pRight : Prim := fun args h => match args with
  | [.dat (.agg [.int .i64 t, .int .i64 n, .str s])] => some (.dat (.int .i64 (rightN ⟨t, n, s⟩)), h)
  | _ => none

theorem pRight_ok : CallFOk Tryd.prog 8 pRight := by
  refine CallFOk.ofCall prog_ok primsD_ok fun args h v h' hs => ?_
  unfold pRight at hs
  split at hs
  · cases hs
    obtain ⟨k0, h1⟩ := right_calls ⟨_, _, _⟩
    exact ⟨rfl, rfl, rfl, k0, h1 k0 (Nat.le_refl _)⟩
  · cases hs

theorem call_prim {prim : FuncId → Option Prim} {f : FuncId} {p : Prim} (hp : prim f = some p) (k : Nat) (args : List AV) (h : Heap) : call Tryd.prog prim k f args h = p args h := by
  simp only [call, enterA, hp]

theorem pFix_at (a0 : List AV) (v0 : AV) (h : Heap) : pFix a0 v0 a0 h = some (v0, h) := by
  unfold pFix
  rw [if_pos rfl]

def Good (vs : List Val) : Prop := vs.length ≤ 40 ∧ ∀ v ∈ vs, rightN v = 0

open Classical in
noncomputable def primL (d : D) (vs : List Val) : FuncId → Option Prim := fun g =>
  if g = 8 then some pRight
  else if g = 6 then some (pFix [.dat d] (.dat (.bool (fewB vs))))
  else if g = 10 ∧ Good vs then some (pFix [.dat d] (.dat (.str (rowText vs))))
  else if g = 9 ∧ Good vs then some (pFix [.dat (.str (rowText vs))] (.tuple [.dat (backD vs), .dat (.int .i64 0)]))
  else if g = 11 ∧ Good vs then some (pFix [.dat (backD vs), .dat d] (.dat (.bool true)))
  else primD g

theorem primsL_ok {d : D} {vs : List Val} (hd : IsRow d vs) (hbig : vs.length ≤ 140737488355328) (h64 : ∀ v ∈ vs, is64 v.n = true) : PrimsOk Tryd.prog (primL d vs) := by
  have hok : Good vs → ∀ v ∈ vs, ValOk v := fun hg v hv => right_ok (hg.2 v hv) (h64 v hv)
  intro g p hp
  unfold primL at hp
  split at hp
  · rename_i e; subst e; cases hp; exact pRight_ok
  split at hp
  · rename_i e; subst e; cases hp
    exact pFix_ok primsD_ok rfl rfl (few6 hd hbig)
  split at hp
  · rename_i e; obtain ⟨rfl, hg⟩ := e; cases hp
    refine pFix_ok primsC_ok rfl rfl (row_calls ⟨hd, fun v hv => (hok hg v hv).fits, by have := hg.1; omega, ?_⟩)
    have := rowText_len (hok hg) hg.1
    omega
  split at hp
  · rename_i e; obtain ⟨rfl, hg⟩ := e; cases hp
    refine pFix_ok primsD_ok rfl rfl ?_
    cases vs with
    | nil => exact CallsTo.of 60 fun k => congrFun read_empty k
    | cons v r =>
      have hlen := rowText_len (hok hg) hg.1
      obtain ⟨x, h', ⟨rfl, rfl⟩, hc⟩ := read_row (vs := v :: r) (by simp) (hok hg) hg.1 (by omega)
      exact hc
  split at hp
  · rename_i e; obtain ⟨rfl, hg⟩ := e; cases hp
    exact pFix_ok primsD_ok rfl rfl (same_row (backD_row vs) hd (by have := hg.1; omega))
  · exact primsD_ok g p hp

theorem calls3 (d : D) (vs : List Val) : Calls3 (primL d vs) d vs := by
  refine ⟨rfl, fun k h => rfl, fun k h => ?_, fun k h v => rfl, fun h1 h2 k h => ?_, fun h1 h2 k h => ?_, fun h1 h2 k h => ?_⟩
  · rw [call_prim (p := pFix [.dat d] (.dat (.bool (fewB vs)))) rfl, pFix_at]
  · rw [call_prim (p := pFix [.dat d] (.dat (.str (rowText vs)))) (by have hg : Good vs := ⟨h1, h2⟩; simp [primL, hg]), pFix_at]
  · rw [call_prim (p := pFix [.dat (.str (rowText vs))] (.tuple [.dat (backD vs), .dat (.int .i64 0)])) (by have hg : Good vs := ⟨h1, h2⟩; simp [primL, hg]), pFix_at]
  · rw [call_prim (p := pFix [.dat (backD vs), .dat d] (.dat (.bool true))) (by have hg : Good vs := ⟨h1, h2⟩; simp [primL, hg]), pFix_at]

/-- the law gives true, whatever row -/
theorem back_true {d : D} {vs : List Val} (hd : IsRow d vs) (hbig : vs.length ≤ 140737488355328) (h64 : ∀ v ∈ vs, is64 v.n = true) : ∃ prim, PrimsOk Tryd.prog prim ∧ CallsTo Tryd.prog prim 3 [.dat d] [] (.dat (.bool true)) [] :=
  ⟨primL d vs, primsL_ok hd hbig h64, back_calls (calls3 d vs) hd hbig⟩

end Go.Proofs.YtfdcjngclelnhaaDoor
