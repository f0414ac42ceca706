/- The law of how values, rows and what was told are told: its entries, and that it gives true. -/
import Derived.Test.YtfdcjngclelnhaaDoorP28
set_option linter.unusedSectionVars false
set_option linter.unusedSimpArgs false
set_option linter.unusedVariables false
set_option linter.unusedSimpArgs false
namespace Go.Proofs.YtfdcjngclelnhaaDoor
open Go Go.RowKit

theorem Val.d_inj {a b : Val} (h : a.d = b.d) : a = b := by
  obtain ⟨t, n, s⟩ := a
  obtain ⟨t', n', s'⟩ := b
  simp only [Val.d, D.agg.injEq, List.cons.injEq, D.int.injEq, D.str.injEq, and_true, true_and] at h
  obtain ⟨rfl, rfl, rfl⟩ := h
  rfl

theorem IsRow.uniq {d : D} {vs ws : List Val} (h : IsRow d vs) (k : IsRow d ws) : vs = ws := by
  rcases h with ⟨rfl, rfl⟩ | rfl
  · rcases k with ⟨_, rfl⟩ | k
    · rfl
    · cases k
  · rcases k with ⟨k, _⟩ | k
    · cases k
    · have hm := D.slice.inj k
      clear k
      induction vs generalizing ws with
      | nil => cases ws with
        | nil => rfl
        | cons b r => cases hm
      | cons a r ih => cases ws with
        | nil => cases hm
        | cons b q =>
          simp only [List.map_cons, List.cons.injEq] at hm
          rw [Val.d_inj hm.1, ih hm.2]

open Classical in
noncomputable def pFx (c : Prop) (a0 : List AV) (v0 : AV) : Prim := fun args h => if c ∧ args = a0 then some (v0, h) else none

theorem pFx_ok {prim : FuncId → Option Prim} (hp : PrimsOk Tryd.prog prim) {c : Prop} {f : FuncId} {a0 : List AV} {v0 : AV} (hpa : a0.all AV.plain = true) (hpv : v0.plain = true) (hc : c → CallsTo Tryd.prog prim f a0 [] v0 []) : CallFOk Tryd.prog f (pFx c a0 v0) := by
  refine CallFOk.ofCall prog_ok hp fun args h v h' hs => ?_
  unfold pFx at hs
  split at hs
  · rename_i e
    obtain ⟨hcc, rfl⟩ := e
    cases hs
    obtain ⟨k0, h1⟩ := hc hcc
    exact ⟨rfl, hpa, hpv, k0, h1 k0 (Nat.le_refl _)⟩
  · cases hs

theorem pFx_at {c : Prop} (hc : c) (a0 : List AV) (v0 : AV) (h : Heap) : pFx c a0 v0 a0 h = some (v0, h) := by
  unfold pFx
  rw [if_pos ⟨hc, rfl⟩]

open Classical in
/-- a row of values that are right is told -/
noncomputable def pRowC : Prim := fun args h => match args with
  | [.dat d] => if hx : ∃ vs, GoodRow d vs then some (.dat (.str (rowText hx.choose)), h) else none
  | _ => none

theorem pRowC_at {d : D} {vs : List Val} (hg : GoodRow d vs) (h : Heap) : pRowC [.dat d] h = some (.dat (.str (rowText vs)), h) := by
  have hx : ∃ vs, GoodRow d vs := ⟨vs, hg⟩
  simp only [pRowC]
  rw [dif_pos hx, hx.choose_spec.row.uniq hg.row]

theorem pRowC_ok {prim : FuncId → Option Prim} (hp : PrimsOk Tryd.prog prim) {f : FuncId} (hc : ∀ d vs, GoodRow d vs → CallsTo Tryd.prog prim f [.dat d] [] (.dat (.str (rowText vs))) []) : CallFOk Tryd.prog f pRowC := by
  refine CallFOk.ofCall prog_ok hp fun args h v h' hs => ?_
  unfold pRowC at hs
  split at hs
  · split at hs
    · rename_i hx
      cases hs
      obtain ⟨k0, h1⟩ := hc _ _ hx.choose_spec
      exact ⟨rfl, rfl, rfl, k0, h1 k0 (Nat.le_refl _)⟩
    · cases hs
  · cases hs

theorem row10_ok : CallFOk Tryd.prog 10 pRowC := pRowC_ok primsC_ok fun d vs hg =>
  row_calls ⟨hg.row, fun v hv => (hg.ok v hv).fit, by have := hg.few; omega, by have := rowT_len hg.ok hg.few; omega⟩

theorem row13_ok : CallFOk Tryd.prog 13 pRowC := pRowC_ok primsR2_ok fun d vs hg => rrow_calls hg

noncomputable def primW : FuncId → Option Prim := fun g => if g = 10 then some pRowC else if g = 13 then some pRowC else none

theorem primsW_ok : PrimsOk Tryd.prog primW := by
  intro g p hp
  unfold primW at hp
  split at hp
  · rename_i e; subst e; cases hp; exact row10_ok
  split at hp
  · rename_i e; subst e; cases hp; exact row13_ok
  · cases hp

theorem call_entry {prim : FuncId → Option Prim} {f : FuncId} {p : Prim} (hp : prim f = some p) (k : Nat) (args : List AV) (h : Heap) : call Tryd.prog prim k f args h = p args h := by
  simp only [call, enterA, hp]

theorem pValue_at {v : Val} (hv : ValOk v) (h : Heap) : pValue [.dat (.agg [.int .i64 v.ty, .int .i64 v.n, .str v.s])] h = some (.dat (.str (valText v)), h) := by
  have hf := hv.fit
  show (if is64 v.n = true ∧ v.s.length ≤ 20000000 then _ else _) = _
  rw [if_pos ⟨hf.n, hf.s⟩]

section
variable (d : D) (rs : List RowD) (cd : D) (cs : List Chan) (od : D) (os : List Told)

noncomputable def primX : FuncId → Option Prim := fun g =>
  if g = 8 then some primR4.pRight2
  else if g = 30 then some pERight
  else if g = 10 then some pRowC
  else if g = 13 then some pRowC
  else if g = 14 then some pValue
  else if g = 15 then some pValue
  else if g = 16 then some (pFx (GoodRows d rs) [.dat d] (.dat (.str (rowsTo rs rs.length))))
  else if g = 17 then some (pFx (GoodRows d rs) [.dat d] (.dat (.str (rowsTo rs rs.length))))
  else if g = 18 then some (pFx (GoodOuts cd od cs os) [.dat cd, .dat od] (.dat (.str (outsTo cs os os.length))))
  else if g = 19 then some (pFx (GoodOuts cd od cs os) [.dat cd, .dat od] (.dat (.str (outsTo cs os os.length))))
  else if g = 7 then some pAlive
  else none

theorem primsX_ok : PrimsOk Tryd.prog (primX d rs cd cs od os) := by
  intro g p hp
  unfold primX at hp
  split at hp
  · rename_i e; subst e; cases hp; exact primsR4_ok 8 _ rfl
  split at hp
  · rename_i e; subst e; cases hp; exact primsR5_ok 30 _ rfl
  split at hp
  · rename_i e; subst e; cases hp; exact row10_ok
  split at hp
  · rename_i e; subst e; cases hp; exact row13_ok
  split at hp
  · rename_i e; subst e; cases hp; exact primsC_ok 14 _ rfl
  split at hp
  · rename_i e; subst e; cases hp; exact primsR2_ok 15 _ rfl
  split at hp
  · rename_i e; subst e; cases hp
    exact pFx_ok primsW_ok rfl rfl fun hg => rows16 rfl hg fun r hr k h => by rw [call_entry (p := pRowC) rfl, pRowC_at (hg.good r hr)]
  split at hp
  · rename_i e; subst e; cases hp
    exact pFx_ok primsW_ok rfl rfl fun hg => rows17 rfl hg fun r hr k h => by rw [call_entry (p := pRowC) rfl, pRowC_at (hg.good r hr)]
  split at hp
  · rename_i e; subst e; cases hp
    exact pFx_ok primsC_ok rfl rfl fun hg => outs18 rfl hg fun v hv k h => by rw [call_entry (p := pValue) rfl, pValue_at hv]
  split at hp
  · rename_i e; subst e; cases hp
    exact pFx_ok primsR2_ok rfl rfl fun hg => outs19 rfl hg fun v hv k h => by rw [call_entry (p := pValue) rfl, pValue_at hv]
  split at hp
  · rename_i e; subst e; cases hp; exact primsA_ok 7 _ rfl
  · cases hp
end

theorem good_rows {d : D} {rs : List RowD} (hd : Rws d rs) (h64 : ∀ r ∈ rs, ∀ v ∈ r.2, is64 v.n = true) (hf : fewR rs = true) : GoodRows d rs := by
  unfold fewR at hf
  simp only [Bool.and_eq_true, decide_eq_true_eq, List.all_eq_true] at hf
  refine ⟨hd, hf.1, fun r hr => ?_⟩
  have h := hf.2 r hr
  unfold okRow okVals at h
  simp only [Bool.and_eq_true, decide_eq_true_eq, List.all_eq_true, beq_iff_eq] at h
  exact ⟨hd.rows r hr, fun v hv => right_ok (h.2 v hv) (h64 r hr v hv), h.1⟩

theorem calls4 {d : D} {rs : List RowD} {cd : D} {cs : List Chan} {od : D} {os : List Told} (hd : Rws d rs) (hcd : IsChans cd cs) (hod : IsOuts od os)
    (h64 : ∀ r ∈ rs, ∀ v ∈ r.2, is64 v.n = true) (h64o : ∀ o ∈ os, is64 o.v.n = true)
    (hb1 : rs.length ≤ 140737488355328) (hb1r : ∀ r ∈ rs, r.2.length ≤ 140737488355328) (hb2 : cs.length ≤ 140737488355328) (hsm : ∀ c ∈ cs, c.name.length ≤ 140737488355328) :
    Calls4 (primX d rs cd cs od os) d rs cd cs od os := by
  have hgo : os.length ≤ 60 → (∀ o ∈ os, rightN o.v = 0) → GoodOuts cd od cs os := fun h1 h2 => ⟨hcd, hod, h1, fun o ho => right_ok (h2 o ho) (h64o o ho), hsm, hb2⟩
  refine ⟨rfl, few12 rfl (fun k h v => rfl) hd hb1 hb1r, fun k h => rfl, fun k h v => rfl, fun hf r hr k h => ?_, fun hf r hr k h => ?_, fun hf r hr v hv k h => ?_, fun hf r hr v hv k h => ?_, fun hf k h => ?_, fun hf k h => ?_, fun h1 h2 k h => ?_, fun h1 h2 k h => ?_⟩
  · rw [call_entry (p := pRowC) rfl, pRowC_at ((good_rows hd h64 hf).good r hr)]
  · rw [call_entry (p := pRowC) rfl, pRowC_at ((good_rows hd h64 hf).good r hr)]
  · rw [call_entry (p := pValue) rfl, pValue_at (((good_rows hd h64 hf).good r hr).ok v hv)]
  · rw [call_entry (p := pValue) rfl, pValue_at (((good_rows hd h64 hf).good r hr).ok v hv)]
  · rw [call_entry (p := pFx (GoodRows d rs) [.dat d] (.dat (.str (rowsTo rs rs.length)))) rfl, pFx_at (good_rows hd h64 hf)]
  · rw [call_entry (p := pFx (GoodRows d rs) [.dat d] (.dat (.str (rowsTo rs rs.length)))) rfl, pFx_at (good_rows hd h64 hf)]
  · rw [call_entry (p := pFx (GoodOuts cd od cs os) [.dat cd, .dat od] (.dat (.str (outsTo cs os os.length)))) rfl, pFx_at (hgo h1 h2)]
  · rw [call_entry (p := pFx (GoodOuts cd od cs os) [.dat cd, .dat od] (.dat (.str (outsTo cs os os.length)))) rfl, pFx_at (hgo h1 h2)]

/-- the law gives true, whatever rows, channels and what was told -/
theorem tells_true {d : D} {rs : List RowD} {cd : D} {cs : List Chan} {od : D} {os : List Told} (hd : Rws d rs) (hcd : IsChans cd cs) (hod : IsOuts od os)
    (h64 : ∀ r ∈ rs, ∀ v ∈ r.2, is64 v.n = true) (h64o : ∀ o ∈ os, is64 o.v.n = true)
    (hb1 : rs.length ≤ 140737488355328) (hb1r : ∀ r ∈ rs, r.2.length ≤ 140737488355328) (hb2 : cs.length ≤ 140737488355328) (hsm : ∀ c ∈ cs, c.name.length ≤ 140737488355328) (hb3 : os.length ≤ 140737488355328) :
    ∃ prim, PrimsOk Tryd.prog prim ∧ CallsTo Tryd.prog prim 4 [.dat d, .dat cd, .dat od] [] (.dat (.bool true)) [] :=
  ⟨primX d rs cd cs od os, primsX_ok d rs cd cs od os, tells_calls (calls4 hd hcd hod h64 h64o hb1 hb1r hb2 hsm) hd hcd hod hb1 hb2 hb3⟩

end Go.Proofs.YtfdcjngclelnhaaDoor
