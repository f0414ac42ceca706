/- Code and calls: a run of the evaluator that ends is a call that returns. -/
import Derived.Test.YtobhpbnlbgbjaaaGreatDoorEg
import Derived.LoopN
set_option linter.unusedSectionVars false
set_option linter.unusedSimpArgs false
set_option linter.unusedVariables false
set_option linter.unusedSimpArgs false
namespace Go.Proofs.YtobhpbnlbgbjaaaGreatDoor
open Go Go.RowKit
set_option linter.unusedSectionVars false
variable [mode : Inhabited ModeT]

def exOf : Ex → Exit
  | .normal => .normal
  | .exit i => .exit i
  | .goto l => .goto l
  | .ret => .ret

def CallFOk (P : Program) (f : FuncId) (p : Prim) : Prop :=
  ∀ args h v h', p args h = some (v, h') → h.length ≤ h'.length ∧ ∀ (K : KW) (HF : Nat → Option AObj) (V : Nat → Prop) (w : World) (vargs : Array Value), DenL K args vargs.toList → Fit K h HF V w →
    CallGives P ((callFunc f vargs).run P w) fun u w' => ∃ K', Kext K K' ∧ Den K' v u ∧ Fit K' h' HF (afterV none h.length h'.length V) w'

def PrimsOk (P : Program) (prim : FuncId → Option Prim) : Prop := ∀ f p, prim f = some p → CallFOk P f p

structure ProgOk (P : Program) : Prop where
  mixed : P.follows .mixedOrders = true
  named : P.funcs.toList.all (fun fn => fn.body.isNone || !(fn.name == "runtime.NumGoroutine")) = true

def RunOk (P : Program) (r : Code → St → Option (Ex × St)) : Prop :=
  ∀ c s e s', r c s = some (e, s') → s.heap.length ≤ s'.heap.length ∧ ∀ (K : KW) (HF : Nat → Option AObj) (V : Nat → Prop) (a : Act) (w : World) (Q : Exit → Act → World → Prop), Sim K s HF V a w →
    (∀ a' w' K', Kext K K' → Sim K' s' HF (afterV none s.heap.length s'.heap.length V) a' w' → Q (exOf e) a' w') → c.wp P Q a w

/- what a call lets go -/

def restrictK (n : Nat) (K : KW) : KW :=
  { K with blk := fun i => if i < n then K.blk i else none, key := fun k => match k with | .tip i m => if i < n then K.key (.tip i m) else none | .at i o v => if i < n then K.key (.at i o v) else none, row := fun i v => if i < n then K.row i v else none }

section
variable {P : Program} {K : KW} {w : World} {HF : Nat → Option AObj} {V : Nat → Prop}

theorem restrict_tip {n i m : Nat} (h : i < n) : (restrictK n K).key (.tip i m) = K.key (.tip i m) := by simp [restrictK, h]
theorem restrict_at {n i o v : Nat} (h : i < n) : (restrictK n K).key (.at i o v) = K.key (.at i o v) := by simp [restrictK, h]
theorem restrict_blk {n i : Nat} (h : i < n) : (restrictK n K).blk i = K.blk i := by simp [restrictK, h]
theorem restrict_row {n i v : Nat} (h : i < n) : (restrictK n K).row i v = K.row i v := by simp [restrictK, h]

theorem undersL_index {n : Nat} : ∀ {l : List AV}, undersL n l = true → ∀ (j : Nat) (x : AV), l[j]? = some x → x.under n = true
  | [], _, j, x, h => by simp at h
  | y :: l, h, j, x, hx => by
    simp only [undersL, Bool.and_eq_true] at h
    cases j with
    | zero => simp at hx; subst hx; exact h.1
    | succ j => exact undersL_index h.2 j x (by simpa using hx)

theorem den_restrict {n : Nat} {x : AV} {v : Value} (h : Den K x v) (hu : x.under n = true) : Den (restrictK n K) x v := by
  induction h with
  | dat h => exact .dat h
  | full es a b o sz ha h => exact .full es a b o sz ha h
  | tip id es r hr hcap h => simp only [AV.under, decide_eq_true_eq] at hu; exact .tip id es r (by rw [restrict_tip hu]; exact hr) hcap h
  | «at» id off ver es r hr hcap h => simp only [AV.under, decide_eq_true_eq] at hu; exact .at id off ver es r (by rw [restrict_at hu]; exact hr) hcap h
  | pnil => exact .pnil
  | ptr id off b h => simp only [AV.under, decide_eq_true_eq] at hu; exact .ptr id off b (by rw [restrict_blk hu]; exact h)
  | ep cs off b o vs h hv => exact .ep cs off b o vs h hv
  | func fn a c va vc hla _ hlc _ iha ihc =>
    simp only [AV.under, Bool.and_eq_true] at hu
    exact .func fn a c va vc hla (fun j x v h1 h2 => iha j x v h1 h2 (undersL_index hu.1 j x h1)) hlc fun j x v h1 h2 => ihc j x v h1 h2 (undersL_index hu.2 j x h1)
  | nilFunc => exact .nilFunc
  | iface t _ ih => simp only [AV.under] at hu; exact .iface t (ih hu)
  | nilIface => exact .nilIface
  | agg cs vs hl _ ih => simp only [AV.under] at hu; exact .agg cs vs hl fun j x v h1 h2 => ih j x v h1 h2 (undersL_index hu j x h1)
  | tuple cs vs hl _ ih => simp only [AV.under] at hu; exact .tuple cs vs hl fun j x v h1 h2 => ih j x v h1 h2 (undersL_index hu j x h1)
  | sdata id off ver es r hr hcap h => simp only [AV.under, decide_eq_true_eq] at hu; exact .sdata id off ver es r (by rw [restrict_at hu]; exact hr) hcap h
  | fp id ver off r hr => simp only [AV.under, decide_eq_true_eq] at hu; exact .fp id ver off r (by rw [restrict_row hu]; exact hr)
  | row id ver off len sz r hr hs hle => simp only [AV.under, decide_eq_true_eq] at hu; exact .row id ver off len sz r (by rw [restrict_row hu]; exact hr) hs hle
  | mapnil => exact .mapnil
  | mapv id b h => simp only [AV.under, decide_eq_true_eq] at hu; exact .mapv id b (by rw [restrict_blk hu]; exact h)
  | any v h => exact .any v h

theorem denL_restrict {n : Nat} {xs : List AV} {vs : List Value} (h : DenL K xs vs) (hu : undersL n xs = true) : DenL (restrictK n K) xs vs := by
  induction h with
  | nil => exact .nil
  | cons hd _ ih =>
    simp only [undersL, Bool.and_eq_true] at hu
    exact .cons (den_restrict hd hu.1) (ih hu.2)

theorem entL_restrict {n : Nat} {es : List (D × AV × Nat)} {ms : List MapEntry} (h : EntL K es ms) (hu : undersL n (es.map fun e => e.2.1) = true) : EntL (restrictK n K) es ms := by
  induction h with
  | nil => exact .nil
  | cons hk hd _ ih =>
    simp only [List.map_cons, undersL, Bool.and_eq_true] at hu
    exact .cons hk (den_restrict hd hu.1) (ih hu.2)

theorem freeAt_restrict {n id : Nat} (hid : id < n) {o : AObj} {b : Nat} {obj : Obj} (h : FreeAt K id o b obj) (hu : o.underN n) : FreeAt (restrictK n K) id o b obj := by
  cases h with
  | free e cs ver lim fz ex r vs lo hi hr hsz hle hd hu' hv hfz hex hcl =>
    exact .free e cs ver lim fz ex r vs lo hi (by rw [restrict_row hid]; exact hr) hsz hle (denL_restrict hd hu) hu' (fun v hv' => by rw [restrict_row hid]; exact hv v hv') hfz hex hcl
  | mp es clock lim b ms hb hd hu' => exact .mp es clock lim b ms (by rw [restrict_blk hid]; exact hb) (entL_restrict hd hu) hu'
  | sit s pos b hb => exact .sit s pos b (by rw [restrict_blk hid]; exact hb)
  | mit0 b since last seen hb => exact .mit0 b since last seen (by rw [restrict_blk hid]; exact hb)
  | mit m b bm since last seen hb hm => exact .mit m b bm since last seen (by rw [restrict_blk hid]; exact hb) (by rw [restrict_blk hu]; exact hm)

theorem comb_take {h : Heap} {n i : Nat} : comb (h.take n) HF i = if i < n then comb h HF i else none := by
  simp only [comb, List.getElem?_take]
  by_cases hi : i < n
  · simp only [if_pos hi]
  · simp only [if_neg hi]

theorem OkW.restrict {hc : Nat → Option AObj} {ow : Nat → Option OKey} {n n' : Nat} (hk : OkW K hc (afterV none n n' V) w ow) (hun : ∀ id o, id < n → hc id = some o → o.isFr = true → o.underN n) : OkW (restrictK n K) (fun i => if i < n then hc i else none) V w ow := by
  have hfree : ∀ r m, Free K w r m → Free (restrictK n K) w r m := fun r m hf => ⟨hf.blk, hf.imm, hf.base⟩
  refine ⟨hk.imm, hk.below, fun id e cs ver hid => ?_, fun id e m sz hid => ?_, fun id e m sz hid => ?_, fun i hi => ?_, fun id e cs ver hid => ?_, hk.own, fun id o hid ho => ?_, fun i hi v => ?_⟩
  · by_cases hi : id < n
    · simp only [if_pos hi] at hid
      obtain ⟨b, vs, hb⟩ := hk.box id e cs ver hid
      refine ⟨b, vs, by rw [restrict_blk hi]; exact hb.blk, hb.own, hb.base, hb.heap, hb.imm, denL_restrict hb.den (undersL_mono (by omega) hb.under), fun j c hj => ?_, hb.under⟩
      have := hb.cell j c hj
      unfold CellOk at this ⊢
      split at this
      · exact this
      · obtain ⟨h1, h2, h3, r, h4, h5, h6, h7⟩ := this
        exact ⟨h1, h2, h3, r, by rw [restrict_at hi]; exact h4, h5, hfree _ _ h6, h7⟩
      · trivial
    · simp only [if_neg hi] at hid; exact nomatch hid
  · by_cases hi : id < n
    · simp only [if_pos hi] at hid
      obtain ⟨r, h1, h2, h3, h4, h5⟩ := hk.tip id e m sz hid
      exact ⟨r, by rw [restrict_tip hi]; exact h1, h2, h3, hfree _ _ h4, h5⟩
    · simp only [if_neg hi] at hid; exact nomatch hid
  · by_cases hi : id < n
    · simp only [if_pos hi] at hid
      intro m' hm'
      rw [restrict_tip hi]
      exact hk.more id e m sz hid m' hm'
    · simp only [if_neg hi] at hid; exact nomatch hid
  · by_cases hin : i < n
    · obtain ⟨g1, g2, g3, g4⟩ := hk.fresh i ⟨hi, (by intro e; cases e), Or.inl hin⟩
      exact ⟨by simp only [if_pos hin]; exact g1, by rw [restrict_blk hin]; exact g2, fun m => by rw [restrict_tip hin]; exact g3 m, fun o v => by rw [restrict_at hin]; exact g4 o v⟩
    · exact ⟨by simp only [if_neg hin], by simp [restrictK, hin], fun m => by simp [restrictK, hin], fun o v => by simp [restrictK, hin]⟩
  · by_cases hi : id < n
    · simp only [if_pos hi] at hid
      intro o v hv
      rw [restrict_at hi]
      exact hk.ver id e cs ver hid o v hv
    · simp only [if_neg hi] at hid; exact nomatch hid
  · by_cases hi : id < n
    · simp only [if_pos hi] at hid
      obtain ⟨b, obj, h1, h2, h3, h4, h5⟩ := hk.fr id o hid ho
      exact ⟨b, obj, freeAt_restrict hi h1 (hun id o hi hid ho), h2, h3, h4, h5⟩
    · simp only [if_neg hi] at hid; exact nomatch hid
  · by_cases hin : i < n
    · rw [restrict_row hin]; exact hk.freshr i ⟨hi, (by intro e; cases e), Or.inl hin⟩ v
    · simp [restrictK, hin]

theorem Fit.bare {h : Heap} (hk : Fit K h HF V w) : Bare K h.length := fun i hi => by
  obtain ⟨ow, hok⟩ := hk.ok
  obtain ⟨_, g2, g3, g4⟩ := hok.fresh i (hk.vlen i hi)
  exact ⟨g2, g3, g4, hok.freshr i (hk.vlen i hi)⟩

theorem Fit.letGo {K' : KW} {w' : World} {h h' : Heap} (hk : Fit K h HF V w) (hext : Kext K K') (hk' : Fit K' h' HF (afterV none h.length h'.length V) w') (hle : h.length ≤ h'.length) (hlim : (h'.take h.length).all (limOk h.length) = true) :
    Kext K (restrictK h.length K') ∧ Fit (restrictK h.length K') (h'.take h.length) HF (afterV none h.length (h'.take h.length).length V) w' := by
  have hlen : (h'.take h.length).length = h.length := by simp; omega
  obtain ⟨ow, hok⟩ := hk.ok
  constructor
  · refine ⟨hext.base, hext.imm, fun i b hb => ?_, fun k r hr => ?_, hext.old, fun i v r hr => ?_⟩
    · have hi : i < h.length := by
        rcases Nat.lt_or_ge i h.length with h1 | h1
        · exact h1
        · have := (hok.fresh i (hk.vlen i h1)).2.1
          rw [hb] at this; exact nomatch this
      rw [restrict_blk hi]; exact hext.blk i b hb
    · cases k with
      | tip i m =>
        have hi : i < h.length := by
          rcases Nat.lt_or_ge i h.length with h1 | h1
          · exact h1
          · have := (hok.fresh i (hk.vlen i h1)).2.2.1 m
            rw [hr] at this; exact nomatch this
        rw [restrict_tip hi]; exact hext.key _ r hr
      | «at» i o v =>
        have hi : i < h.length := by
          rcases Nat.lt_or_ge i h.length with h1 | h1
          · exact h1
          · have := (hok.fresh i (hk.vlen i h1)).2.2.2 o v
            rw [hr] at this; exact nomatch this
        rw [restrict_at hi]; exact hext.key _ r hr
    · have hi : i < h.length := by
        rcases Nat.lt_or_ge i h.length with h1 | h1
        · exact h1
        · have := hok.freshr i (hk.vlen i h1) v
          rw [hr] at this; exact nomatch this
      rw [restrict_row hi]; exact hext.row _ _ r hr
  · obtain ⟨ow', hok'⟩ := hk'.ok
    have := hok'.restrict (fun id o hi hid ho => by
      cases hx : h'[id]? with
      | none => simp [comb, hx] at hid
      | some q =>
        cases q with
        | some o' =>
          have : o' = o := by simp only [comb, hx, Option.some.injEq] at hid; exact hid
          subst this
          obtain ⟨b, obj, h1, _⟩ := hok'.fr id _ hid ho
          refine limOk_under (List.all_eq_true.1 hlim (some o') ?_) h1
          exact List.mem_of_getElem? (i := id) (by rw [List.getElem?_take, if_pos hi]; exact hx)
        | none =>
          have h2 : HF id = some o := by simpa only [comb, hx] using hid
          have h3 : comb h HF id = some o := by simp only [comb, hk.hf id o h2, h2]
          obtain ⟨b, obj, h1, _⟩ := hok.fr id o h3 ho
          exact freeAt_under hk.bare h1)
    have hc : (fun i => if i < h.length then comb h' HF i else none) = comb (h'.take h.length) HF := by
      funext i
      rw [comb_take]
    rw [hc] at this
    refine ⟨⟨ow', this.virgin fun i hi => hi.1⟩, fun i o hi => ?_, fun i hi => ⟨hk.vlen i (by omega), (by intro e; cases e), Or.inr hi⟩⟩
    have h1 := hk.hf i o hi
    rw [List.getElem?_take, if_pos (lt_of_some h1)]
    exact hk'.hf i o hi

theorem den_tupleA {vs : List AV} {us : List Value} (h : DenL K vs us) : Den K (tupleA vs) (if hl : us.toArray.size = 1 then us.toArray[0] else .tuple us.toArray) := by
  cases h with
  | nil => exact Den.of_tuple (vs := #[]) .nil
  | cons hx hr =>
    cases hr with
    | nil => simpa [tupleA] using hx
    | cons hy hr =>
      simp only [tupleA]
      rw [dif_neg (by simp)]
      exact Den.of_tuple (.cons hx (.cons hy hr))

def resSem (tmps : Array Value) : ResultVar → Sem Value
  | .tmp t => pure (tmps.getD t undef)
  | .cell x t => do loadVar t (← asAddr (tmps.getD x undef))

theorem results_eq (fn : Func) (tmps : Array Value) : results fn tmps = (do let vs ← fn.results.mapM (resSem tmps); pure (if h : vs.size = 1 then vs[0] else .tuple vs)) := rfl

theorem run_result {ts : List AV} {a : Act} {h : Heap} {rv : ResultVar} {v : AV} (hts : DenL K ts a.tmps.toList) (hk : Fit K h HF V w) (hr : resultA P ts h rv = some v) :
    ∃ u, (resSem a.tmps rv).run P w = .ok u w ∧ Den K v u := by
  cases rv with
  | tmp t => simp [resultA] at hr; subst hr; exact ⟨_, rfl, den_getD hts t⟩
  | cell x t =>
    simp only [resultA] at hr
    obtain ⟨ow, hok⟩ := hk.ok
    have hd := den_getD hts x
    obtain ⟨u, h1, h2⟩ := run_loadA hok (fun id o hi => comb_some hi) hr hd
    refine ⟨u, ?_, h2⟩
    rw [← h1]
    show (asAddr (a.tmps.getD x undef) >>= fun y => loadVar t y : Sem Value).run P w = (Instr.loadAt t (a.tmps.getD x undef)).run P w
    generalize ts.getD x undefA = q at hr hd
    generalize a.tmps.getD x undef = z at hd
    unfold loadA at hr
    split at hr
    · cases hd; rfl
    · cases hd; rfl
    · cases hd; rfl
    · exact nomatch hr

theorem run_results {ts : List AV} {a : Act} {h : Heap} (hts : DenL K ts a.tmps.toList) (hk : Fit K h HF V w) : ∀ {rs : List ResultVar} {vs : List AV}, resultsA P ts h rs = some vs →
    ∃ us, (rs.mapM (resSem a.tmps)).run P w = .ok us w ∧ DenL K vs us
  | [], vs, h => by simp [resultsA] at h; subst h; exact ⟨[], rfl, .nil⟩
  | r :: rs, vs, h => by
    simp only [resultsA] at h
    split at h
    · rename_i v hv
      simp only [Option.map_eq_some_iff] at h
      obtain ⟨vs', h1, rfl⟩ := h
      obtain ⟨u, g1, g2⟩ := run_result (P := P) hts hk hv
      obtain ⟨us, g3, g4⟩ := run_results hts hk h1
      exact ⟨u :: us, by simp only [List.mapM_cons, Sem.run_bind, g1, Result.andThen_ok, g3, Sem.run_pure], .cons g2 g4⟩
    · exact nomatch h

theorem finish_ok {h hp h' : Heap} {K' : KW} {w' : World} {v0 v : AV} {u : Value} (hk : Fit K h HF V w) (hext : Kext K K') (hd : Den K' v0 u) (hf : Fit K' hp HF (afterV none h.length hp.length V) w') (hle : h.length ≤ hp.length) (hres : finishA h.length v0 hp = (v, h')) :
    ∃ K'', Kext K K'' ∧ Den K'' v u ∧ Fit K'' h' HF (afterV none h.length h'.length V) w' := by
  unfold finishA at hres
  split at hres
  · rename_i hu
    cases hres
    simp only [Bool.and_eq_true] at hu
    obtain ⟨q1, q2⟩ := hk.letGo hext hf hle hu.2
    exact ⟨_, q1, den_restrict hd hu.1, q2⟩
  · cases hres
    exact ⟨K', hext, hd, hf⟩

theorem leave_ok {f : FuncId} {h hp h' : Heap} {K' : KW} {w' : World} {v0 v : AV} {u : Value} (hk : Fit K h HF V w) (hext : Kext K K') (hd : Den K' v0 u) (hf : Fit K' hp HF (afterV none h.length hp.length V) w') (hle : h.length ≤ hp.length) (hres : leaveA f h.length v0 hp = (v, h')) :
    ∃ K'', Kext K K'' ∧ Den K'' v u ∧ Fit K'' h' HF (afterV none h.length h'.length V) w' := by
  unfold leaveA at hres
  split at hres
  · obtain ⟨K1, e1, d1, f1, l1⟩ := stillV_ok 20 K' hp HF _ w' v0 u hd hf
    generalize stillV 20 v0 hp = p at hres d1 f1 l1
    obtain ⟨v1, h1⟩ := p
    simp only at hres d1 f1 l1
    rw [← l1] at f1 hle
    exact finish_ok hk (hext.trans e1) (den_sealR d1) f1 hle hres
  · exact finish_ok hk hext (den_sealR hd) hf hle hres

theorem leave_len {f : FuncId} {n : Nat} {hp h' : Heap} {v0 v : AV} (hle : n ≤ hp.length) (hl : ∀ d v h, (stillV d v h).2.length = h.length) (hres : leaveA f n v0 hp = (v, h')) : n ≤ h'.length := by
  have hfin : ∀ {v0 : AV} {hp : Heap}, n ≤ hp.length → finishA n v0 hp = (v, h') → n ≤ h'.length := fun hle hres => by
    unfold finishA at hres
    split at hres
    · cases hres; simp; omega
    · cases hres; exact hle
  unfold leaveA at hres
  split at hres
  · have := hl 20 v0 hp
    generalize stillV 20 v0 hp = p at hres this
    obtain ⟨v1, h1⟩ := p
    exact hfin (by simp only at this; omega) hres
  · exact hfin hle hres

theorem stillL_len {f : AV → Heap → AV × Heap} (hf : ∀ v h, (f v h).2.length = h.length) : ∀ (vs : List AV) (h : Heap), (stillL f vs h).2.length = h.length
  | [], h => rfl
  | v :: vs, h => by simp only [stillL]; rw [stillL_len hf vs, hf]

theorem stillV_len : ∀ d v h, (stillV d v h).2.length = h.length
  | 0, v, h => rfl
  | d + 1, v, h => by
    simp only [stillV]
    split
    · rename_i id ver off len sz
      split
      · rename_i e cs w0 lim fz ex hid
        split
        · have := stillL_len (stillV_len d) ((cs.drop off).take (len * sz)) (h.set id none)
          generalize stillL (stillV d) ((cs.drop off).take (len * sz)) (h.set id none) = p at this
          obtain ⟨ws, h'⟩ := p
          simp only
          split
          · simpa using this
          · simpa using this
        · rfl
      · rfl
    · exact stillL_len (stillV_len d) _ _
    · exact stillL_len (stillV_len d) _ _
    · rfl

theorem alloc_len {place : Option Nat} {h h' : Heap} {o : AObj} {id : Nat} (ha : allocObj place h o = some (id, h')) : h.length ≤ h'.length := by
  unfold allocObj at ha
  split at ha
  · cases ha; simp
  · split at ha
    · cases ha; simp
    · exact nomatch ha

theorem settle_len {h : Heap} {id off v : Nat} {old : Option AV} {x : AV} : (settle h id off v old x).2.length = h.length := by
  unfold settle
  split
  · split
    · split <;> simp
    · rfl
  · split
    · split <;> rfl
    · rfl
  · rfl
  · rfl

theorem settleL_len {id : Nat} {cs : List AV} : ∀ {xs : List AV} {off v : Nat} {h : Heap}, (settleL id cs off v h xs).2.length = h.length
  | [], _, _, _ => rfl
  | x :: xs, off, v, h => by
    simp only [settleL]
    rw [settleL_len, settle_len]

theorem newFree_len {place : Option Nat} {h h' : Heap} {e : TypeId} {cs : List AV} {ex : Bool} {id : Nat} (hn : newFree place h e cs ex = some (id, h')) : h.length ≤ h'.length := by
  unfold newFree at hn
  split at hn
  · split at hn
    · exact alloc_len hn
    · exact nomatch hn
  · exact nomatch hn

theorem newVar_len {place : Option Nat} {h h' : Heap} {e : TypeId} {cs : List AV} {v : AV} (hn : newVarA place h e cs = some (v, h')) : h.length ≤ h'.length := by
  unfold newVarA at hn
  split at hn
  · split at hn
    · rename_i id h'' ha
      cases hn; exact newFree_len ha
    · exact nomatch hn
  split at hn
  · rename_i id h'' ha
    split at hn
    · cases hn; exact alloc_len ha
    · exact nomatch hn
  · exact nomatch hn

theorem store_len {t : TypeId} {x v : AV} {h h' : Heap} (hs : storeA P t x v h = some h') : h.length ≤ h'.length := by
  unfold storeA at hs
  split at hs
  · split at hs
    · dsimp only at hs
      split at hs
      · split at hs
        · cases hs
          rw [List.length_set, settleL_len]
          exact Nat.le_refl _
        · exact nomatch hs
      · exact nomatch hs
    · exact nomatch hs
  · split at hs
    · split at hs
      · split at hs
        · cases hs; simp
        · exact nomatch hs
      · exact nomatch hs
    · exact nomatch hs
  · exact nomatch hs

theorem appendF_len {ts : List TypeId} {place : Option Nat} {s x v : AV} {h h' : Heap} (ha : appendF P ts place s x h = some (v, h')) : h.length ≤ h'.length := by
  unfold appendF at ha
  repeat' (split at ha)
  all_goals first
    | (cases ha; done)
    | (cases ha; exact Nat.le_refl _)
    | (cases ha; simp; done)
    | (cases ha; rename_i hal; exact newFree_len hal)

theorem buildSliceF_len {place : Option Nat} {t : TypeId} {len : Nat} {ps : List (Nat × AV)} {v : AV} {h h' : Heap} (ha : buildSliceF P place h t len ps = some (v, h')) : h.length ≤ h'.length := by
  unfold buildSliceF at ha
  repeat' (split at ha)
  all_goals first
    | (cases ha; done)
    | (cases ha; rename_i hal; exact newFree_len hal)

theorem makeSlice_len {place : Option Nat} {t : TypeId} {l c v : AV} {h h' : Heap} (ha : makeSliceA P place h t l c = some (v, h')) : h.length ≤ h'.length := by
  unfold makeSliceA at ha
  repeat' (split at ha)
  all_goals first
    | (cases ha; done)
    | (cases ha; rename_i hal; exact newFree_len hal)

theorem mapUpdate_len {t : TypeId} {x i v : AV} {h h' : Heap} (ha : mapUpdateA P t x i v h = some h') : h.length ≤ h'.length := by
  unfold mapUpdateA at ha
  repeat' (split at ha)
  all_goals first
    | (cases ha; done)
    | (cases ha; simp; done)

theorem range_len {place : Option Nat} {t : TypeId} {x v : AV} {h h' : Heap} (ha : rangeA P place t x h = some (v, h')) : h.length ≤ h'.length := by
  unfold rangeA at ha
  split at ha
  · split at ha
    · rename_i hal; cases ha; exact alloc_len hal
    · exact nomatch ha
  · exact nomatch ha

theorem next_len {x v : AV} {isS : Bool} {h h' : Heap} (ha : nextA x isS h = some (v, h')) : h.length ≤ h'.length := by
  unfold nextA at ha
  repeat' (split at ha)
  all_goals first
    | (cases ha; done)
    | (cases ha; exact Nat.le_refl _)
    | (cases ha; simp; done)

theorem append_len {ts : List TypeId} {place : Option Nat} {s x v : AV} {h h' : Heap} (ha : appendA P ts place s x h = some (v, h')) : h.length ≤ h'.length := by
  unfold appendA at ha
  split at ha
  · exact appendF_len ha
  repeat' (split at ha)
  all_goals first
    | (cases ha; done)
    | (cases ha; exact Nat.le_refl _)
    | (cases ha; simp; done)
    | (cases ha; rename_i hal; exact alloc_len hal)
    | (cases ha; rename_i hal; have := alloc_len hal; simpa using this)

theorem callA_len {callf : CallF} (hc : ∀ f args h v h', callf f args h = some (v, h') → h.length ≤ h'.length) {place : Option Nat} {c : Call} {ts : List AV} {h h' : Heap} {v : AV} (hs : callA P callf place c ts h = some (v, h')) : h.length ≤ h'.length := by
  unfold callA at hs
  split at hs
  · exact nomatch hs
  · split at hs
    · unfold builtinA at hs
      split at hs
      · simp only [Option.map_eq_some_iff, Prod.mk.injEq] at hs
        obtain ⟨a, h1, _, rfl⟩ := hs
        exact Nat.le_refl _
      · exact append_len hs
      · cases hs; exact Nat.le_refl _
      · cases hs; exact Nat.le_refl _
      · have h2 := (keep_some hs).2; subst h2; exact Nat.le_refl _
      · have h2 := (keep_some hs).2; subst h2; exact Nat.le_refl _
      · have h2 := (keep_some hs).2; subst h2; exact Nat.le_refl _
      · exact nomatch hs
    · split at hs
      · exact hc _ _ _ _ _ hs
      · exact nomatch hs
    · exact nomatch hs

theorem stepOp_len {callf : CallF} (hc : ∀ f args h v h', callf f args h = some (v, h') → h.length ≤ h'.length) {place : Option Nat} {op : Op} {ts : List AV} {h h' : Heap} {v : AV} (hs : stepOp P callf place op ts h = some (v, h')) : h.length ≤ h'.length := by
  have hcallA : ∀ c, callA P callf place c ts h = some (v, h') → h.length ≤ h'.length := fun c hs => callA_len hc hs
  unfold stepOp at hs
  repeat' (split at hs)
  all_goals first
    | (cases hs; done)
    | (have h2 := (keep_some hs).2; subst h2; exact Nat.le_refl _)
    | exact newVar_len hs
    | exact hcallA _ hs
    | (simp only [Option.map_eq_some_iff, Prod.mk.injEq] at hs; obtain ⟨a, h1, _, rfl⟩ := hs; exact store_len h1)
    | (simp only [Option.map_eq_some_iff, Prod.mk.injEq] at hs; obtain ⟨a, h1, _, rfl⟩ := hs; exact mapUpdate_len h1)
    | exact buildSliceF_len hs
    | exact makeSlice_len hs
    | exact range_len hs
    | exact next_len hs
    | (cases hs; rename_i hal; exact alloc_len hal)
    | (cases hs; exact Nat.le_refl _)

theorem oneOp_len {callf : CallF} (hc : ∀ f args h v h', callf f args h = some (v, h') → h.length ≤ h'.length) {ops : Array Oper} {place : Option Nat} {o : Oper} {ts : List AV} {h h' : Heap} {v : AV} (hs : oneOp P callf ops place o ts h = some (v, h')) : h.length ≤ h'.length := by
  unfold oneOp at hs
  split at hs
  · exact stepOp_len hc hs
  · cases hs; exact Nat.le_refl _
  · exact nomatch hs

theorem enter_ok (hP : ProgOk P) {prim : FuncId → Option Prim} (hprim : PrimsOk P prim) {r : Code → St → Option (Ex × St)} (hr : RunOk P r) : CallOk P (enterA P prim r) := by
  intro f args h v h' hc
  unfold enterA at hc
  split at hc
  · rename_i p hp
    exact hprim f p hp args h v h' hc
  · split at hc
    · exact nomatch hc
    · rename_i fn hfn
      split at hc
      · exact nomatch hc
      · rename_i body hbody
        have key : ∀ e s, r body ⟨args.map sealV ++ List.replicate (fn.ntmps - args.length) undefA, h⟩ = some (e, s) → (e = .normal ∨ e = .ret) → (match resultsA P s.tmps s.heap fn.results.toList with | some vs => some (leaveA f h.length (tupleA vs) s.heap) | none => none) = some (v, h') →
            h.length ≤ h'.length ∧ ∀ (K : KW) (HF : Nat → Option AObj) (V : Nat → Prop) (w : World) (vargs : Array Value), DenL K args vargs.toList → Fit K h HF V w →
              CallGives P ((callFunc f vargs).run P w) fun u w' => ∃ K', Kext K K' ∧ Den K' v u ∧ Fit K' h' HF (afterV none h.length h'.length V) w' := by
          intro e s hrun he hres
          split at hres
          · rename_i vs hvs
            obtain ⟨hle, hwp⟩ := hr _ _ _ _ hrun
            simp only at hle
            simp only [Option.some.injEq] at hres
            refine ⟨?_, fun K HF V w vargs hargs hk => ?_⟩
            · exact leave_len hle stillV_len hres
            · have hcf : (callFunc f vargs).run P w = .ok (.enter f vargs) w := by
                have hname : (fn.name == "runtime.NumGoroutine") = false := by
                  have := List.all_eq_true.1 hP.named fn (Array.mem_toList_iff.2 (Array.mem_of_getElem? hfn))
                  simpa [hbody] using this
                simp only [callFunc, Sem.run_bind, run_program, Result.andThen_ok, hfn, hname, hbody, Option.isNone_some, Bool.false_eq_true, if_false, Sem.run_pure]
              rw [hcf]
              refine calls_of_wp hfn hbody ?_
              have hsz : vargs.size = args.length := by have := hargs.length; simpa using this
              refine hwp K HF V { tmps := vargs ++ Array.replicate (fn.ntmps - vargs.size) undef, defers := [] } w _ ⟨?_, rfl, hk⟩ fun a' w' K' hext hs => ?_
              · rw [Array.toList_append, Array.toList_replicate, hsz]
                exact (denL_map (fun _ _ => den_sealV) hargs).append (DenL.replicate den_undef _)
              · obtain ⟨us, g1, g2⟩ := run_results (P := P) hs.tmps hs.fit hvs
                have hdt := den_tupleA g2
                have hres' : (results fn a'.tmps).run P w' = .ok (if hl : us.toArray.size = 1 then us.toArray[0] else .tuple us.toArray) w' := by
                  rw [results_eq, Sem.run_bind, Array.mapM_eq_mapM_toList, Sem.run_map, g1]
                  rfl
                have hfin : ∃ K'', Kext K K'' ∧ Den K'' v (if hl : us.toArray.size = 1 then us.toArray[0] else .tuple us.toArray) ∧ Fit K'' h' HF (afterV none h.length h'.length V) w' := by
                  exact leave_ok hk hext hdt hs.fit hle hres
                have hpost : bodyPost P fn (fun | .returned v', w' => ∃ K', Kext K K' ∧ Den K' v v' ∧ Fit K' h' HF (afterV none h.length h'.length V) w' | _, _ => False) .ret a' w' := ⟨hs.defers, _, hres', hfin⟩
                rcases he with rfl | rfl
                · exact hpost
                · exact hpost
          · exact nomatch hres
        split at hc
        · rename_i s hrun
          exact key .normal s hrun (Or.inl rfl) hc
        · rename_i s hrun
          exact key .ret s hrun (Or.inr rfl) hc
        · exact nomatch hc

theorem Sim.trans {K K' : KW} {s s1 s2 : St} {a : Act} (h : Sim K s HF V a w) {a' : Act} {w' : World} (h1 : s.heap.length ≤ s1.heap.length) (h2 : s1.heap.length ≤ s2.heap.length) (h' : Sim K' s2 HF (afterV none s1.heap.length s2.heap.length (afterV none s.heap.length s1.heap.length V)) a' w') : Sim K' s2 HF (afterV none s.heap.length s2.heap.length V) a' w' :=
  ⟨h'.tmps, h'.defers, h'.fit.trans h1 h2 fun i hi => h.fit.vlen i (by omega)⟩

theorem Sim.start {K : KW} {s : St} {a : Act} (h : Sim K s HF V a w) : Sim K s HF (afterV none s.heap.length s.heap.length V) a w := ⟨h.tmps, h.defers, h.fit.start⟩

theorem cond_val {K : KW} {s : St} {a : Act} (h : Sim K s HF V a w) {x : Operand} {t : Bool} (hx : evalX s.tmps x = some (.dat (.bool t))) : a.eval x = .bool t := by
  have hd := den_evalX h.tmps hx
  generalize a.eval x = q at hd
  cases hd with | dat hd => cases hd; rfl

/-- a scope, from a piece of its body on -/
def ScopeArr (P : Program) (body : Code) (cur : Code) (Q : Exit → Act → World → Prop) (a : Act) (w : World) : Prop :=
  ∀ (b : Frame) (k : List Item) (cs : List Frame), ∃ e a' w', Q e a' w' ∧ Arrives P (lone (b.at a (.code cur :: .inScope body :: k)) cs w) b k cs e a' w'

theorem scopeLoop_ok {r : Code → St → Option (Ex × St)} (hr : RunOk P r) {body : Code} : ∀ (n : Nat) (cur : Code) (s : St) (e : Ex) (s' : St), scopeLoop r body n cur s = some (e, s') → s.heap.length ≤ s'.heap.length ∧
    ∀ (K : KW) (HF : Nat → Option AObj) (V : Nat → Prop) (a : Act) (w : World) (Q : Exit → Act → World → Prop), Sim K s HF V a w → (∀ a' w' K', Kext K K' → Sim K' s' HF (afterV none s.heap.length s'.heap.length V) a' w' → Q (exOf e) a' w') → ScopeArr P body cur Q a w
  | 0, _, _, _, _, h => by simp [scopeLoop] at h
  | n + 1, cur, s, e, s', h => by
    simp only [scopeLoop] at h
    -- an end of the piece that is none of the scope's own gotos
    have fin : ∀ e1 s1, r cur s = some (e1, s1) → (∀ l, e1 = .goto l → findLabel body l = none) → (e1, s1) = (e, s') → s.heap.length ≤ s'.heap.length ∧
        ∀ (K : KW) (HF : Nat → Option AObj) (V : Nat → Prop) (a : Act) (w : World) (Q : Exit → Act → World → Prop), Sim K s HF V a w → (∀ a' w' K', Kext K K' → Sim K' s' HF (afterV none s.heap.length s'.heap.length V) a' w' → Q (exOf e) a' w') → ScopeArr P body cur Q a w := by
      intro e1 s1 hrun hg heq
      cases heq
      obtain ⟨hle, hwp⟩ := hr _ _ _ _ hrun
      refine ⟨hle, fun K HF V a w Q hsim hq b k cs => ?_⟩
      have hw := hwp K HF V a w (fun e' a' w' => e' = exOf e ∧ Q e' a' w') hsim fun a' w' K' h1 h2 => ⟨rfl, hq a' w' K' h1 h2⟩
      obtain ⟨e2, a', w', ⟨rfl, hq'⟩, harr⟩ := hw b (.inScope body :: k) cs
      refine ⟨exOf e, a', w', hq', ?_⟩
      cases e with
      | normal => exact Steps.trans harr (.one step_inScope)
      | exit id => exact fun k' hk => harr k' (by simp [exitTo, hk])
      | goto l => exact fun k' hk => harr k' (by simp [gotoIn, hg l rfl, hk])
      | ret => exact harr
    split at h
    · rename_i l s1 hrun
      split at h
      · rename_i rest hfl
        obtain ⟨hle, hwp⟩ := hr _ _ _ _ hrun
        obtain ⟨hle2, hsc⟩ := scopeLoop_ok hr n rest s1 e s' h
        refine ⟨Nat.le_trans hle hle2, fun K HF V a w Q hsim hq b k cs => ?_⟩
        have hw := hwp K HF V a w (fun e' a' w' => e' = .goto l ∧ ScopeArr P body rest Q a' w') hsim fun a' w' K' h1 h2 => ⟨rfl, hsc K' HF _ a' w' Q h2 fun a'' w'' K'' h3 h4 => hq a'' w'' K'' (h1.trans h3) (hsim.trans hle hle2 h4)⟩
        obtain ⟨e2, a', w', ⟨rfl, hs⟩, harr⟩ := hw b (.inScope body :: k) cs
        obtain ⟨e3, a'', w'', hq', harr'⟩ := hs b k cs
        exact ⟨e3, a'', w'', hq', .of_steps (harr _ (by simp [gotoIn, hfl])) harr'⟩
      · rename_i hfl
        exact fin _ _ hrun (fun l' hl' => by cases hl'; exact hfl) (Option.some.inj h)
    · rename_i hng
      cases hrun : r cur s with
      | none => rw [hrun] at h; exact nomatch h
      | some q =>
        obtain ⟨e1, s1⟩ := q
        rw [hrun] at h
        exact fin e1 s1 hrun (fun l hl => by subst hl; exact (hng l s1 hrun).elim) (Option.some.inj h)

theorem run_ok (hP : ProgOk P) {prim : FuncId → Option Prim} (hprim : PrimsOk P prim) : ∀ k, RunOk P (run P prim k)
  | 0 => fun c s e s' h => by simp [run] at h
  | k + 1 => by
    have ih := run_ok hP hprim k
    have hcall := enter_ok hP hprim ih
    -- loops
    have hloop : ∀ (b : Code) (j : Nat), j ≤ k + 1 → ∀ (s : St) (e : Ex) (s' : St), run P prim j (.loop b) s = some (e, s') → s.heap.length ≤ s'.heap.length ∧ ∀ (K : KW) (HF : Nat → Option AObj) (V : Nat → Prop) (a : Act) (w : World) (Q : Exit → Act → World → Prop), Sim K s HF V a w →
        (∀ a' w' K', Kext K K' → Sim K' s' HF (afterV none s.heap.length s'.heap.length V) a' w' → Q (exOf e) a' w') → Code.rounds P b Q j a w := by
      intro b j
      induction j with
      | zero => intro _ s e s' h; simp [run] at h
      | succ j ihj =>
        intro hjk s e s' h
        have ihr : RunOk P (run P prim j) := run_ok hP hprim j
        simp only [run] at h
        split at h
        · rename_i s1 hrun
          obtain ⟨hle, hwp⟩ := ihr _ _ _ _ hrun
          obtain ⟨hle2, hrest⟩ := ihj (by omega) s1 e s' h
          refine ⟨Nat.le_trans hle hle2, fun K HF V a w Q hsim hq => ?_⟩
          rw [rounds_succ]
          exact hwp K HF V a w _ hsim fun a' w' K' h1 h2 => hrest K' HF _ a' w' Q h2 fun a'' w'' K'' h3 h4 => hq a'' w'' K'' (h1.trans h3) (hsim.trans hle hle2 h4)
        · rename_i hne
          obtain ⟨hle, hwp⟩ := ihr _ _ _ _ h
          refine ⟨hle, fun K HF V a w Q hsim hq => ?_⟩
          rw [rounds_succ]
          refine hwp K HF V a w _ hsim fun a' w' K' h1 h2 => ?_
          have := hq a' w' K' h1 h2
          cases e with
          | normal => exact (hne s' h).elim
          | exit i => exact this
          | goto l => exact this
          | ret => exact this
    intro c s e s' h
    simp only [run] at h
    split at h
    · cases h; exact ⟨Nat.le_refl _, fun K HF V a w Q hsim hq => wp_skip (hq a w K (Kext.refl K) hsim.start)⟩
    · cases h; exact ⟨Nat.le_refl _, fun K HF V a w Q hsim hq => wp_label (hq a w K (Kext.refl K) hsim.start)⟩
    · rename_i id ops draw
      split at h
      · rename_i hd
        subst hd
        simp only [Option.map_eq_some_iff, Prod.mk.injEq] at h
        obtain ⟨s1, h1, rfl, rfl⟩ := h
        have hle : s.heap.length ≤ s1.heap.length := by
          unfold regionDraw at h1
          dsimp only at h1
          obtain ⟨es, g1, _⟩ := regionD_logs (s := ⟨s.tmps, _⟩) rfl h1
          have := (logs_end g1 rfl).2.2.1
          rw [this]; simp
        refine ⟨hle, fun K HF V a w Q hsim hq => ?_⟩
        exact (regionDraw_ok hP.mixed hcall h1 hsim).2 hq
      · rename_i hd
        have hd' : draw = false := by simpa using hd
        subst hd'
        simp only [Option.map_eq_some_iff, Prod.mk.injEq] at h
        obtain ⟨s1, h1, rfl, rfl⟩ := h
        have hgo := fun (K : KW) (HF : Nat → Option AObj) (V : Nat → Prop) (a : Act) (w : World) (Q : Exit → Act → World → Prop) (hsim : Sim K s HF V a w) => regionT_ok hcall ops.toList 0 s s1 K V a w Q (fun j => by simp) h1 hsim
        have hle : s.heap.length ≤ s1.heap.length := by
          have : ∀ (l : List Oper) (s s' : St), regionT P (enterA P prim (run P prim k)) ops l s = some s' → s.heap.length ≤ s'.heap.length := by
            intro l
            induction l with
            | nil => intro s s' hr; simp [regionT] at hr; subst hr; exact Nat.le_refl _
            | cons o l ihl =>
              intro s s' hr
              simp only [regionT] at hr
              split at hr
              · rename_i v h2 hone
                exact Nat.le_trans (oneOp_len (fun f args h v h' hc => (hcall f args h v h' hc).1) hone) (ihl _ _ hr)
              · exact nomatch hr
          exact this _ _ _ h1
        refine ⟨hle, fun K HF V a w Q hsim hq => wp_region ?_⟩
        have := (hgo K HF V a w Q hsim).2 hq
        rw [List.range_eq_range']
        simpa using this
    · rename_i x y
      split at h
      · rename_i s1 hrun
        obtain ⟨hle, hwp⟩ := ih _ _ _ _ hrun
        obtain ⟨hle2, hwp2⟩ := ih _ _ _ _ h
        refine ⟨Nat.le_trans hle hle2, fun K HF V a w Q hsim hq => wp_seq ?_⟩
        exact hwp K HF V a w _ hsim fun a' w' K' h1 h2 => hwp2 K' HF _ a' w' Q h2 fun a'' w'' K'' h3 h4 => hq a'' w'' K'' (h1.trans h3) (hsim.trans hle hle2 h4)
      · rename_i hne
        obtain ⟨hle, hwp⟩ := ih _ _ _ _ h
        refine ⟨hle, fun K HF V a w Q hsim hq => wp_seq ?_⟩
        refine hwp K HF V a w _ hsim fun a' w' K' h1 h2 => ?_
        have := hq a' w' K' h1 h2
        cases e with
        | normal => exact (hne s' h).elim
        | exit i => exact this
        | goto l => exact this
        | ret => exact this
    · rename_i x p q
      split at h
      · rename_i t hx
        obtain ⟨hle, hwp⟩ := ih _ _ _ _ h
        exact ⟨hle, fun K HF V a w Q hsim hq => wp_cond (cond_val hsim hx) (hwp K HF V a w Q hsim hq)⟩
      · exact nomatch h
    · rename_i id b
      split at h
      · rename_i i s1 hrun
        obtain ⟨hle, hwp⟩ := ih _ _ _ _ hrun
        split at h
        · rename_i hi
          cases h
          refine ⟨hle, fun K HF V a w Q hsim hq => wp_block (hwp K HF V a w _ hsim fun a' w' K' h1 h2 => ?_)⟩
          simp only [exOf, Exit.inBlock, hi, if_true]
          exact hq a' w' K' h1 h2
        · rename_i hi
          cases h
          refine ⟨hle, fun K HF V a w Q hsim hq => wp_block (hwp K HF V a w _ hsim fun a' w' K' h1 h2 => ?_)⟩
          simp only [exOf, Exit.inBlock, hi, if_false]
          exact hq a' w' K' h1 h2
      · rename_i hne
        obtain ⟨hle, hwp⟩ := ih _ _ _ _ h
        refine ⟨hle, fun K HF V a w Q hsim hq => wp_block (hwp K HF V a w _ hsim fun a' w' K' h1 h2 => ?_)⟩
        have := hq a' w' K' h1 h2
        cases e with
        | normal => exact this
        | exit i => exact (hne i s' h).elim
        | goto l => exact this
        | ret => exact this
    · rename_i b
      have h' : run P prim (k + 1) (.loop b) s = some (e, s') := by simp only [run]; exact h
      obtain ⟨hle, hl⟩ := hloop b (k + 1) (Nat.le_refl _) s e s' h'
      exact ⟨hle, fun K HF V a w Q hsim hq => wp_loop_rounds (k + 1) (hl K HF V a w Q hsim hq)⟩
    · cases h; exact ⟨Nat.le_refl _, fun K HF V a w Q hsim hq => wp_exit (hq a w K (Kext.refl K) hsim.start)⟩
    · cases h; exact ⟨Nat.le_refl _, fun K HF V a w Q hsim hq => wp_goto (hq a w K (Kext.refl K) hsim.start)⟩
    · rename_i b
      obtain ⟨hle, hs⟩ := scopeLoop_ok ih k b s e s' h
      refine ⟨hle, fun K HF V a w Q hsim hq b' k' cs => ?_⟩
      obtain ⟨e2, a', w', hq', harr⟩ := hs K HF V a w Q hsim hq b' k' cs
      exact ⟨e2, a', w', hq', .of_steps (.one step_scope) harr⟩
    · cases h; exact ⟨Nat.le_refl _, fun K HF V a w Q hsim hq => wp_ret (hq a w K (Kext.refl K) hsim.start)⟩
    · exact nomatch h

theorem call_ok (hP : ProgOk P) {prim : FuncId → Option Prim} (hprim : PrimsOk P prim) (k : Nat) : CallOk P (call P prim k) := enter_ok hP hprim (run_ok hP hprim k)

end
end Go.Proofs.YtobhpbnlbgbjaaaGreatDoor
