/- One operation does what the evaluator says. -/
import Derived.Test.YtobhpbnlbgbjaaaGreatDoorDg
set_option linter.unusedSectionVars false
set_option linter.unusedSimpArgs false
set_option linter.unusedVariables false
set_option linter.unusedSimpArgs false
namespace Go.Proofs.YtobhpbnlbgbjaaaGreatDoor
open Go Go.RowKit
set_option linter.unusedSectionVars false
variable [mode : Inhabited ModeT]

/-- what a call comes to: a value at once, or a function that is entered -/
def CallGives (P : Program) (nx : Result Next) (R : Value → World → Prop) : Prop :=
  match nx with
  | .ok (.value v) w => R v w
  | .ok (.enter f args) w => Calls P f args w fun
      | .returned v, w' => R v w'
      | _, _ => False
  | _ => False

def CallOk (P : Program) (callf : CallF) : Prop :=
  ∀ f args h v h', callf f args h = some (v, h') → h.length ≤ h'.length ∧ ∀ (K : KW) (HF : Nat → Option AObj) (V : Nat → Prop) (w : World) (vargs : Array Value), DenL K args vargs.toList → Fit K h HF V w →
    CallGives P ((callFunc f vargs).run P w) fun u w' => ∃ K', Kext K K' ∧ Den K' v u ∧ Fit K' h' HF (afterV none h.length h'.length V) w'

/-- an operation, from here, goes on with this value and this heap -/
def StepGoes (P : Program) (K : KW) (HF : Nat → Option AObj) (V : Nat → Prop) (w : World) (a : Act) (o : Oper) (v : AV) (h' : Heap) : Prop :=
  ∀ (next : Act → World → Prop) (Q : Exit → Act → World → Prop), (∀ u w' K', Kext K K' → Den K' v u → Fit K' h' HF V w' → next (a.put o.dst u) w') → o.wp P a w next Q

section
variable {P : Program} {K : KW} {w : World} {h : Heap} {HF : Nat → Option AObj} {V : Nat → Prop}

theorem goes_value {a : Act} {o : Oper} {v : AV} {h' : Heap} (s : Sem Value) (he : execOp a.eval o = (do pure (.value (← s)) : Sem Next)) (hs : ∃ u w' K', s.run P w = .ok u w' ∧ Kext K K' ∧ Den K' v u ∧ Fit K' h' HF V w') : StepGoes P K HF V w a o v h' := by
  obtain ⟨u, w', K', h1, h2, h3, h4⟩ := hs
  intro next Q hn
  unfold Oper.wp
  rw [he]
  simp only [Sem.run_bind, h1, Result.andThen_ok, Sem.run_pure, Oper.upon_value]
  exact hn u w' K' h2 h3 h4

theorem goes_next {a : Act} {o : Oper} {v : AV} {h' : Heap} {u : Value} (he : (execOp a.eval o).run P w = .ok (.value u) w) (hd : Den K v u) (hf : Fit K h' HF V w) : StepGoes P K HF V w a o v h' := by
  intro next Q hn
  unfold Oper.wp
  rw [he, Oper.upon_value]
  exact hn u w K (Kext.refl K) hd hf

theorem goes_skip {a : Act} {o : Oper} {h' : Heap} (s : Sem Unit) (he : execOp a.eval o = (do s; pure .skip : Sem Next)) (hs : ∃ w' K', s.run P w = .ok () w' ∧ Kext K K' ∧ Fit K' h' HF V w') : StepGoes P K HF V w a o undefA h' := by
  obtain ⟨w', K', h1, h2, h3⟩ := hs
  intro next Q hn
  unfold Oper.wp
  rw [he]
  simp only [Sem.run_bind, h1, Result.andThen_ok, Sem.run_pure, Oper.upon_skip]
  exact hn undef w' K' h2 den_undef h3

theorem goes_call {a : Act} {o : Oper} {v : AV} {h' : Heap} (he : CallGives P ((execOp a.eval o).run P w) fun u w' => ∃ K', Kext K K' ∧ Den K' v u ∧ Fit K' h' HF V w') : StepGoes P K HF V w a o v h' := by
  intro next Q hn
  unfold Oper.wp
  generalize (execOp a.eval o).run P w = r at he
  unfold CallGives at he
  split at he
  · rw [Oper.upon_value]
    obtain ⟨K', h1, h2, h3⟩ := he
    exact hn _ _ K' h1 h2 h3
  · rw [Oper.upon_enter]
    refine Calls.mono he fun e w' hr => ?_
    cases e with
    | returned u =>
      obtain ⟨K', h1, h2, h3⟩ := hr
      exact hn u w' K' h1 h2 h3
    | panicked c => exact hr.elim
    | outgrown => exact hr.elim
  · exact he.elim

theorem keep_some {h h' : Heap} {o : Option AV} {v : AV} (hk : keep h o = some (v, h')) : o = some v ∧ h' = h := by
  unfold keep at hk
  simp only [Option.map_eq_some_iff, Prod.mk.injEq] at hk
  obtain ⟨a, h1, rfl, rfl⟩ := hk
  exact ⟨h1, rfl⟩

theorem goes_keep {a : Act} {o : Oper} {v : AV} {place : Option Nat} (s : Sem Value) (he : execOp a.eval o = (do pure (.value (← s)) : Sem Next)) (hk : Fit K h HF V w) (hp : ∀ r, place = some r → V r ∧ r < h.length) (hs : ∃ u, s.run P w = .ok u w ∧ Den K v u) :
    StepGoes P K HF (afterV place h.length h.length V) w a o v h := by
  obtain ⟨u, h1, h2⟩ := hs
  exact goes_value s he ⟨u, w, K, h1, Kext.refl K, h2, hk.after fun r hr => (hp r hr).2⟩

theorem Fit.of_ok {K' : KW} {w' : World} {V' : Nat → Prop} (hk : Fit K h HF V w) (hok : Ok K' (comb h HF) V' w') (hv : ∀ i, h.length ≤ i → V' i) : Fit K' h HF V' w' := ⟨hok, hk.hf, hv⟩

theorem goes_gives {a : Act} {o : Oper} {v : AV} {place : Option Nat} (s : Sem Value) (he : execOp a.eval o = (do pure (.value (← s)) : Sem Next)) (hk : Fit K h HF V w) (hp : ∀ r, place = some r → V r ∧ r < h.length) (hs : Gives P K w s v (comb h HF) V) :
    StepGoes P K HF (afterV place h.length h.length V) w a o v h := by
  obtain ⟨u, w', K', h1, h2, h3, h4⟩ := hs
  exact goes_value s he ⟨u, w', K', h1, h2, h3, (hk.of_ok h4 hk.vlen).after fun r hr => (hp r hr).2⟩

theorem run_sliceData_some (ts : Array TypeId) (ty : TypeId) (a : Addr) (n c : Nat) (hc : c ≠ 0) : (Builtin.unsafeSliceData_ ts ty #[.slice (some a) n c]).run P w = .ok (.pointer (some a)) w := by
  have hdef : Builtin.unsafeSliceData_ ts ty #[.slice (some a) n c] = (if c ≠ 0 then pure (.pointer (some a)) else do if (← viewAt a.block).isSome then pure (.pointer (some a)) else pure (.pointer (some ⟨← newObj (.view a (← elemOf ty)), 0, none⟩)) : Sem Value) := rfl
  rw [hdef, if_pos hc]
  rfl

theorem run_sliceData_none (ts : Array TypeId) (ty : TypeId) (n c : Nat) : (Builtin.unsafeSliceData_ ts ty #[.slice none n c]).run P w = .ok (.pointer none) w := rfl

theorem denL_one {x : AV} {vs : Array Value} (h : DenL K [x] vs.toList) : ∃ y, vs = #[y] ∧ Den K x y := by
  obtain ⟨l⟩ := vs
  cases h with
  | cons hx hr => cases hr; exact ⟨_, rfl, hx⟩

theorem denL_two {x y : AV} {vs : Array Value} (h : DenL K [x, y] vs.toList) : ∃ a b, vs = #[a, b] ∧ Den K x a ∧ Den K y b := by
  obtain ⟨l⟩ := vs
  cases h with
  | cons hx hr =>
    cases hr with
    | cons hy hr => cases hr; exact ⟨_, _, rfl, hx, hy⟩

theorem goes_builtin {a : Act} {o : Oper} {v : AV} {h' : Heap} {place : Option Nat} {c : Call} {b : Builtin} {args : List AV} (ho : o.op = .call c) (hb : c.callee = .builtin b) (hk : Fit K h HF V w) (hp : ∀ r, place = some r → V r ∧ r < h.length)
    (hargs : DenL K args (c.args.map a.eval).toList) (hs : builtinA P b c.argTypes.toList place args h = some (v, h')) : StepGoes P K HF (afterV place h.length h'.length V) w a o v h' ∧ h.length ≤ h'.length := by
  have hexec : ∀ (s : Sem Value), (builtin b c.argTypes o.type (c.args.map fun | .const _ => true | _ => false) (c.args.map a.eval) = (do pure (.value (← s)) : Sem Next)) → execOp a.eval o = (do pure (.value (← s)) : Sem Next) := fun s hs => by
    simp only [execOp, ho, resolve, hb, pure_bind, invoke]
    exact hs
  generalize hvs : c.args.map a.eval = vs at hargs hexec
  unfold builtinA at hs
  split at hs
  · rename_i t ts x xs hts
    simp only [Option.map_eq_some_iff, Prod.mk.injEq] at hs
    obtain ⟨u, h1, rfl, rfl⟩ := hs
    have ht0 : c.argTypes[0]? = some t := by rw [← Array.getElem?_toList, hts]; rfl
    cases hv : vs.toList with
    | nil => rw [hv] at hargs; cases hargs
    | cons y ys =>
      rw [hv] at hargs
      cases hargs with
      | cons hx _ =>
        have hv0 : vs[0]? = some y := by rw [← Array.getElem?_toList, hv]; rfl
        exact ⟨goes_keep (Builtin.len_ c.argTypes o.type vs) (hexec _ rfl) hk hp (run_lenA h1 hx ht0 hv0), Nat.le_refl _⟩
  · rename_i ts s x rest hts
    cases hv : vs.toList with
    | nil => rw [hv] at hargs; cases hargs
    | cons y ys =>
      rw [hv] at hargs
      cases hargs with
      | cons hx hxs =>
        cases ys with
        | nil => cases hxs
        | cons z zs =>
          cases hxs with
          | cons hz hzs =>
            obtain ⟨u, w', K', g1, g2, g3, g4, g5⟩ := gives_appendA (ty := o.type) hk hp hs hx hz
            refine ⟨goes_value (Builtin.append_ c.argTypes o.type vs) (hexec _ rfl) ⟨u, w', K', ?_, g2, g3, g4⟩, g5⟩
            have e0 : vs[0]? = some y := by rw [← Array.getElem?_toList, hv]; rfl
            have e1 : vs[1]? = some z := by rw [← Array.getElem?_toList, hv]; rfl
            rw [← g1]
            unfold Builtin.append_
            simp only [e0, e1, List.getElem?_toArray, List.getElem?_cons_zero, List.getElem?_cons_succ]
  · rename_i rest hts
    cases hs
    obtain ⟨y, rfl, hy⟩ := denL_one hargs
    have hy' := den_nils hy
    subst hy'
    exact ⟨goes_keep (Builtin.unsafeSliceData_ c.argTypes o.type _) (hexec _ rfl) hk hp ⟨_, run_sliceData_none _ _ _ _, .pnil⟩, Nat.le_refl _⟩
  · cases hs
    obtain ⟨y, rfl, hy⟩ := denL_one hargs
    cases hy with
    | «at» _ _ _ _ r hr hcap hcells =>
      exact ⟨goes_keep (Builtin.unsafeSliceData_ c.argTypes o.type _) (hexec _ rfl) hk hp ⟨_, run_sliceData_some _ _ _ _ _ (by simp at hcap; omega), .sdata _ _ _ _ r hr hcap hcells⟩, Nat.le_refl _⟩
  · rename_i pt ts p n hts
    obtain ⟨h1, rfl⟩ := keep_some hs
    obtain ⟨y, z, rfl, hy, hz⟩ := denL_two hargs
    have ht0 : c.argTypes[0]? = some pt := by rw [← Array.getElem?_toList, hts]; rfl
    obtain ⟨u, w', g1, g2, g3⟩ := run_unsafeStringA (ty := o.type) hk ht0 h1 hy hz
    exact ⟨goes_value (Builtin.unsafeString_ c.argTypes o.type _) (hexec _ rfl) ⟨u, w', K, g1, Kext.refl K, g2, g3.after fun r hr => (hp r hr).2⟩, Nat.le_refl _⟩
  · obtain ⟨h1, rfl⟩ := keep_some hs
    cases hv : vs.toList with
    | nil => rw [hv] at hargs; cases hargs
    | cons y ys =>
      rw [hv] at hargs
      cases hargs with
      | cons hx hxs =>
        obtain ⟨u, g1, g2⟩ := run_minMaxA (P := P) (w := w) h1 hx hxs
        refine ⟨goes_keep (Builtin.min_ c.argTypes o.type vs) (hexec _ rfl) hk hp ⟨u, ?_, g2⟩, Nat.le_refl _⟩
        simp only [Builtin.min_, hv]
        exact g1
  · obtain ⟨h1, rfl⟩ := keep_some hs
    cases hv : vs.toList with
    | nil => rw [hv] at hargs; cases hargs
    | cons y ys =>
      rw [hv] at hargs
      cases hargs with
      | cons hx hxs =>
        obtain ⟨u, g1, g2⟩ := run_minMaxA (P := P) (w := w) h1 hx hxs
        refine ⟨goes_keep (Builtin.max_ c.argTypes o.type vs) (hexec _ rfl) hk hp ⟨u, ?_, g2⟩, Nat.le_refl _⟩
        simp only [Builtin.max_, hv]
        exact g1
  · exact nomatch hs

theorem step_ok {callf : CallF} (hcall : CallOk P callf) {a : Act} {o : Oper} {ts : List AV} {v : AV} {h' : Heap} {place : Option Nat} (hts : DenL K ts a.tmps.toList) (hk : Fit K h HF V w) (hp : ∀ r, place = some r → V r ∧ r < h.length)
    (hs : stepOp P callf place o.op ts h = some (v, h')) : StepGoes P K HF (afterV place h.length h'.length V) w a o v h' ∧ h.length ≤ h'.length := by
  obtain ⟨ow, hok⟩ := hk.ok
  have hh : ∀ id o, h[id]? = some (some o) → comb h HF id = some o := fun id o hi => comb_some hi
  have hp2 : ∀ r, place = some r → V r := fun r hr => (hp r hr).1
  unfold stepOp at hs
  split at hs
  case h_1 x heq | h_2 x heq =>
    obtain ⟨h1, rfl⟩ := keep_some hs
    exact ⟨goes_keep (pure (a.eval x)) (by simp only [execOp, heq, pure_bind]) hk hp ⟨_, rfl, den_evalX hts h1⟩, Nat.le_refl _⟩
  case h_3 c x y heq =>
    split at hs
    · rename_i t hc
      obtain ⟨h1, rfl⟩ := keep_some hs
      have hd := den_evalX hts hc
      have hcv : a.eval c = .bool t := by
        generalize a.eval c = q at hd
        cases hd with | dat hd => cases hd; rfl
      refine ⟨goes_next (u := if t then a.eval x else a.eval y) ?_ ?_ (hk.after fun r hr => (hp r hr).2), Nat.le_refl _⟩
      · simp only [execOp, heq, hcv, asBool, pure_bind, Sem.run_pure]
      · cases t
        · exact den_evalX hts h1
        · exact den_evalX hts h1
    · exact nomatch hs
  case h_4 t heq =>
    split at hs
    · rename_i z hz
      obtain ⟨zv, h1, h2, _⟩ := run_zeroValue' (P := P) (w := w) (K := K) hz
      obtain ⟨K', g1, g2, g3, g4⟩ := gives_newVarA hk hp2 hs (vs := zv.cells) h2.cells
      refine ⟨goes_value (Instr.alloc t true (.tuple #[])) (by simp only [execOp, heq]) ⟨_, _, K', ?_, g1, g2, g3⟩, g4⟩
      simp only [Instr.alloc, Sem.run_bind, h1, Result.andThen_ok, newVar, newRow, run_newObj_alloc, Sem.run_pure]
    · exact nomatch hs
  case h_5 t x heq =>
    split at hs
    · rename_i z hz
      obtain ⟨K', g1, g2, g3, g4⟩ := gives_newVarA hk hp2 hs (vs := (a.eval x).cells) (den_evalX hts hz).cells
      refine ⟨goes_value (Instr.box t (a.eval x)) (by simp only [execOp, heq]) ⟨_, _, K', ?_, g1, g2, g3⟩, g4⟩
      simp only [Instr.box, Sem.run_bind, Result.andThen_ok, newVar, newRow, run_newObj_alloc, Sem.run_pure]
    · exact nomatch hs
  case h_6 t parts heq =>
    split at hs
    · rename_i ps hps
      obtain ⟨h1, rfl⟩ := keep_some hs
      exact ⟨goes_keep _ (by simp only [execOp, heq]) hk hp (run_buildA (den_evalParts hts hps) h1), Nat.le_refl _⟩
    · exact nomatch hs
  case h_7 t len parts heq =>
    split at hs
    · rename_i ps hps
      split at hs
      · obtain ⟨u, w', K', g1, g2, g3, g4, g5⟩ := gives_buildSliceF (a := a) hk hp2 (den_evalParts hts hps) hs
        exact ⟨goes_value _ (by simp only [execOp, heq]) ⟨u, w', K', g1, g2, g3, g4⟩, g5⟩
      obtain ⟨h1, rfl⟩ := keep_some hs
      exact ⟨goes_gives _ (by simp only [execOp, heq]) hk hp (gives_buildSliceA hk.ok (den_evalParts hts hps) h1), Nat.le_refl _⟩
    · exact nomatch hs
  case h_8 t x heq =>
    split at hs
    · rename_i p hpx
      obtain ⟨h1, rfl⟩ := keep_some hs
      exact ⟨goes_keep _ (by simp only [execOp, heq]) hk hp (run_loadA hok hh h1 (den_evalX hts hpx)), Nat.le_refl _⟩
    · exact nomatch hs
  case h_9 t x y heq =>
    split at hs
    · rename_i p u hpx hpy
      simp only [Option.map_eq_some_iff, Prod.mk.injEq] at hs
      obtain ⟨h'', h1, rfl, rfl⟩ := hs
      obtain ⟨w', K', g1, g2, g3, g4⟩ := run_storeA hk h1 (den_evalX hts hpx) (den_evalX hts hpy)
      refine ⟨goes_skip _ (by simp only [execOp, heq]) ⟨w', K', g1, g2, ?_⟩, by omega⟩
      have := g3.after (place := place) fun r hr => by rw [g4]; exact (hp r hr).2
      rw [g4] at this ⊢
      exact this
    · exact nomatch hs
  case h_10 x heq =>
    split at hs
    · rename_i u hu
      obtain ⟨h1, rfl⟩ := keep_some hs
      obtain ⟨g1, g2⟩ := run_nilCheckA (P := P) (w := w) heq h1 (den_evalX hts hu)
      exact ⟨goes_next g1 g2 (hk.after fun r hr => (hp r hr).2), Nat.le_refl _⟩
    · exact nomatch hs
  case h_11 op t x y yt heq =>
    split at hs
    · rename_i p u hpx hpy
      obtain ⟨h1, rfl⟩ := keep_some hs
      exact ⟨goes_keep _ (by simp only [execOp, heq]; rfl) hk hp (run_binA h1 (den_evalX hts hpx) (den_evalX hts hpy)), Nat.le_refl _⟩
    · exact nomatch hs
  case h_12 op t x heq =>
    split at hs
    · rename_i p hpx
      obtain ⟨h1, rfl⟩ := keep_some hs
      exact ⟨goes_keep _ (by simp only [execOp, heq]) hk hp (run_unA h1 (den_evalX hts hpx)), Nat.le_refl _⟩
    · exact nomatch hs
  case h_13 s d x heq =>
    split at hs
    · rename_i q hpx
      obtain ⟨h1, rfl⟩ := keep_some hs
      exact ⟨goes_keep _ (by simp only [execOp, heq]) hk hp (run_convPtr hok hh h1 (den_evalX hts hpx)), Nat.le_refl _⟩
    · rename_i p _ hpx
      obtain ⟨h1, rfl⟩ := keep_some hs
      exact ⟨goes_gives _ (by simp only [execOp, heq]) hk hp (gives_convA hk.ok h1 (den_evalX hts hpx)), Nat.le_refl _⟩
    · exact nomatch hs
  case h_14 fn first captured heq =>
    split at hs
    · rename_i p q hpx hpy
      cases hs
      refine ⟨goes_keep (Instr.makeFunc fn (first.map a.eval) (captured.map a.eval)) (by simp only [execOp, heq]) hk hp ⟨_, rfl, Den.of_func ?_ ?_⟩, Nat.le_refl _⟩
      · rw [Array.toList_map]; exact den_evalL hts hpx
      · rw [Array.toList_map]; exact den_evalL hts hpy
    · exact nomatch hs
  case h_15 t x lo hi mx heq =>
    split at hs
    · rename_i p hpx
      obtain ⟨h1, rfl⟩ := keep_some hs
      exact ⟨goes_keep _ (by simp only [execOp, heq]) hk hp (run_sliceA hts h1 (den_evalX hts hpx)), Nat.le_refl _⟩
    · exact nomatch hs
  case h_16 t x f heq =>
    split at hs
    · rename_i p hpx
      obtain ⟨h1, rfl⟩ := keep_some hs
      exact ⟨goes_keep _ (by simp only [execOp, heq]) hk hp (run_fieldAddrA h1 (den_evalX hts hpx)), Nat.le_refl _⟩
    · exact nomatch hs
  case h_17 t x f heq =>
    split at hs
    · rename_i p hpx
      obtain ⟨h1, rfl⟩ := keep_some hs
      exact ⟨goes_keep _ (by simp only [execOp, heq]) hk hp (run_fieldA h1 (den_evalX hts hpx)), Nat.le_refl _⟩
    · exact nomatch hs
  case h_18 t x i heq =>
    split at hs
    · rename_i p q hpx hpy
      obtain ⟨h1, rfl⟩ := keep_some hs
      exact ⟨goes_keep _ (by simp only [execOp, heq]) hk hp (run_indexAddrA h1 (den_evalX hts hpx) (den_evalX hts hpy)), Nat.le_refl _⟩
    · exact nomatch hs
  case h_19 t x i heq =>
    split at hs
    · rename_i p q hpx hpy
      obtain ⟨h1, rfl⟩ := keep_some hs
      exact ⟨goes_keep _ (by simp only [execOp, heq]) hk hp (run_indexA h1 (den_evalX hts hpx) (den_evalX hts hpy)), Nat.le_refl _⟩
    · exact nomatch hs
  case h_20 x i heq =>
    split at hs
    · rename_i vs hpx
      obtain ⟨h1, rfl⟩ := keep_some hs
      have hd := den_evalX hts hpx
      generalize hq : a.eval x = q at hd
      obtain ⟨us, rfl, hl⟩ := hd.tuple_list
      obtain ⟨u, g1, g2⟩ := hl.get h1
      rw [Array.getElem?_toList] at g1
      exact ⟨goes_keep (Instr.extract (.tuple us) i) (by simp only [execOp, heq, hq]) hk hp ⟨u, by simp [Instr.extract, g1], g2⟩, Nat.le_refl _⟩
    · exact nomatch hs
  case h_21 t reserve heq =>
    split at hs
    · rename_i kt et hu
      split at hs
      · rename_i id h'' ha
        cases hs
        obtain ⟨u, w', K', g1, g2, g3, g4, g5⟩ := gives_makeMap (P := P) (t := t) (kt := kt) (et := et) hk hp2 ha
        exact ⟨goes_value (Instr.makeMap t none) (by simp only [execOp, heq]; rfl) ⟨u, w', K', g1, g2, g3, g4⟩, g5⟩
      · exact nomatch hs
    · exact nomatch hs
  case h_22 t len cap heq =>
    split at hs
    · rename_i p q hpx hpy
      obtain ⟨u, w', K', g1, g2, g3, g4, g5⟩ := gives_makeSliceA hk hp2 hs (den_evalX hts hpx) (den_evalX hts hpy)
      exact ⟨goes_value _ (by simp only [execOp, heq]) ⟨u, w', K', g1, g2, g3, g4⟩, g5⟩
    · exact nomatch hs
  case h_23 t x i ok heq =>
    split at hs
    · rename_i p q hpx hpy
      obtain ⟨h1, rfl⟩ := keep_some hs
      exact ⟨goes_keep _ (by simp only [execOp, heq]) hk hp (run_lookupA hok h1 (den_evalX hts hpx) (den_evalX hts hpy)), Nat.le_refl _⟩
    · exact nomatch hs
  case h_24 t x i y heq =>
    split at hs
    · rename_i p q r hpx hpy hpz
      simp only [Option.map_eq_some_iff, Prod.mk.injEq] at hs
      obtain ⟨h'', h1, rfl, rfl⟩ := hs
      obtain ⟨w', K', g1, g2, g3, g4⟩ := run_mapUpdateA hk h1 (den_evalX hts hpx) (den_evalX hts hpy) (den_evalX hts hpz)
      refine ⟨goes_skip _ (by simp only [execOp, heq]) ⟨w', K', g1, g2, ?_⟩, by omega⟩
      have := g3.after (place := place) fun r hr => by rw [g4]; exact (hp r hr).2
      rw [g4] at this ⊢
      exact this
    · exact nomatch hs
  case h_25 t x heq =>
    split at hs
    · rename_i p hpx
      obtain ⟨u, w', K', g1, g2, g3, g4, g5⟩ := gives_rangeA hk hp2 hs (den_evalX hts hpx)
      exact ⟨goes_value _ (by simp only [execOp, heq]) ⟨u, w', K', g1, g2, g3, g4⟩, g5⟩
    · exact nomatch hs
  case h_26 x isS heq =>
    split at hs
    · rename_i p hpx
      obtain ⟨u, w', g1, g2, g3, g4⟩ := run_nextA (P := P) (ty := o.type) hk hs (den_evalX hts hpx)
      refine ⟨goes_value _ (by simp only [execOp, heq]) ⟨u, w', K, g1, Kext.refl K, g2, ?_⟩, by omega⟩
      have := g3.after (place := place) fun r hr => by rw [g4]; exact (hp r hr).2
      rw [g4] at this ⊢
      exact this
    · exact nomatch hs
  case h_27 c heq =>
    unfold callA at hs
    split at hs
    · exact nomatch hs
    · rename_i args hargs
      have hd := den_evalL hts hargs
      split at hs
      · rename_i b hb
        exact goes_builtin heq hb hk hp (by rw [Array.toList_map]; exact hd) hs
      · rename_i x hx
        split at hs
        · rename_i f first captured hf
          obtain ⟨g1, g2⟩ := hcall _ _ _ _ _ hs
          have hfd := den_evalX hts hf
          obtain ⟨va, vc, hev, hva, hvc⟩ := hfd.func_list
          have hall : DenL K (first ++ args ++ captured) (va ++ c.args.map a.eval ++ vc).toList := by
            rw [Array.toList_append, Array.toList_append, Array.toList_map]
            exact (hva.append hd).append hvc
          have hgo := g2 K HF V w _ hall hk
          refine ⟨goes_call ?_, g1⟩
          have hex : (execOp a.eval o).run P w = (callFunc f (va ++ c.args.map a.eval ++ vc)).run P w := by
            simp only [execOp, heq, resolve, hx, hev, Deferred.ofValue, pure_bind, invoke]
          rw [hex]
          have hsub : ∀ i, afterV place h.length h'.length V i → afterV none h.length h'.length V i := fun i hi => ⟨hi.1, (by intro e; cases e), hi.2.2⟩
          unfold CallGives at hgo ⊢
          split at hgo
          · obtain ⟨K', k1, k2, k3⟩ := hgo
            exact ⟨K', k1, k2, k3.virgin hsub fun i hi => ⟨(k3.vlen i hi).1, fun e => by have := (hp i e).2; omega, Or.inr hi⟩⟩
          · refine Calls.mono hgo fun e w' hr => ?_
            cases e with
            | returned u =>
              obtain ⟨K', k1, k2, k3⟩ := hr
              exact ⟨K', k1, k2, k3.virgin hsub fun i hi => ⟨(k3.vlen i hi).1, fun e => by have := (hp i e).2; omega, Or.inr hi⟩⟩
            | panicked c => exact hr.elim
            | outgrown => exact hr.elim
          · exact hgo.elim
        · exact nomatch hs
      · exact nomatch hs
  case h_28 => exact nomatch hs

end
end Go.Proofs.YtobhpbnlbgbjaaaGreatDoor
