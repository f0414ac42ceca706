/- Entries of the model's own, and the step from a run of the evaluator to a call that returns true. -/
import Derived.Test.YtfdcjngclelnhaaGb
import Derived.LoopN
import Derived.Lib.Bytealg
set_option linter.unusedSimpArgs false
namespace Go.Proofs.Ytfdcjngclelnhaa
open Go Go.RowKit

/-- what a call comes to: a value at once, or a function that is entered -/
def CallGives (P : Program) (nx : Result Next) (R : Value → World → Prop) : Prop :=
  match nx with
  | .ok (.value v) w => R v w
  | .ok (.enter f args) w => Calls P f args w fun
      | .returned v, w' => R v w'
      | _, _ => False
  | _ => False

def CallOk (P : Program) (callf : CallF) : Prop :=
  ∀ f args h v h', callf f args h = some (v, h') → h.length ≤ h'.length ∧ ∀ (K : KW) (HF : Nat → Option AObj) (V : Nat → Prop) (w : World) (vargs : Array Value), DenL K args vargs.toList → Fit K h HF V w →
    CallGives P ((callFunc f vargs).run P w) fun u w' => ∃ K', Kext K K' ∧ Den K' v u ∧ Fit K' h' HF (afterV none h.length h'.length V) w'

/-- an operation, from here, goes on with this value and this heap -/
def StepGoes (P : Program) (K : KW) (HF : Nat → Option AObj) (V : Nat → Prop) (w : World) (a : Act) (o : Oper) (v : AV) (h' : Heap) : Prop :=
  ∀ (next : Act → World → Prop) (Q : Exit → Act → World → Prop), (∀ u w' K', Kext K K' → Den K' v u → Fit K' h' HF V w' → next (a.put o.dst u) w') → o.wp P a w next Q

section
variable {P : Program} {K : KW} {w : World} {h : Heap} {HF : Nat → Option AObj} {V : Nat → Prop}

theorem goes_value {a : Act} {o : Oper} {v : AV} {h' : Heap} (s : Sem Value) (he : execOp a.eval o = (do pure (.value (← s)) : Sem Next)) (hs : ∃ u w' K', s.run P w = .ok u w' ∧ Kext K K' ∧ Den K' v u ∧ Fit K' h' HF V w') : StepGoes P K HF V w a o v h' := by
  obtain ⟨u, w', K', h1, h2, h3, h4⟩ := hs
  intro next Q hn
  unfold Oper.wp
  rw [he]
  simp only [Sem.run_bind, h1, Result.andThen_ok, Sem.run_pure, Oper.upon_value]
  exact hn u w' K' h2 h3 h4

theorem goes_next {a : Act} {o : Oper} {v : AV} {h' : Heap} {u : Value} (he : (execOp a.eval o).run P w = .ok (.value u) w) (hd : Den K v u) (hf : Fit K h' HF V w) : StepGoes P K HF V w a o v h' := by
  intro next Q hn
  unfold Oper.wp
  rw [he, Oper.upon_value]
  exact hn u w K (Kext.refl K) hd hf

theorem goes_skip {a : Act} {o : Oper} {h' : Heap} (s : Sem Unit) (he : execOp a.eval o = (do s; pure .skip : Sem Next)) (hs : ∃ w' K', s.run P w = .ok () w' ∧ Kext K K' ∧ Fit K' h' HF V w') : StepGoes P K HF V w a o undefA h' := by
  obtain ⟨w', K', h1, h2, h3⟩ := hs
  intro next Q hn
  unfold Oper.wp
  rw [he]
  simp only [Sem.run_bind, h1, Result.andThen_ok, Sem.run_pure, Oper.upon_skip]
  exact hn undef w' K' h2 den_undef h3

theorem goes_call {a : Act} {o : Oper} {v : AV} {h' : Heap} (he : CallGives P ((execOp a.eval o).run P w) fun u w' => ∃ K', Kext K K' ∧ Den K' v u ∧ Fit K' h' HF V w') : StepGoes P K HF V w a o v h' := by
  intro next Q hn
  unfold Oper.wp
  generalize (execOp a.eval o).run P w = r at he
  unfold CallGives at he
  split at he
  · rw [Oper.upon_value]
    obtain ⟨K', h1, h2, h3⟩ := he
    exact hn _ _ K' h1 h2 h3
  · rw [Oper.upon_enter]
    refine Calls.mono he fun e w' hr => ?_
    cases e with
    | returned u =>
      obtain ⟨K', h1, h2, h3⟩ := hr
      exact hn u w' K' h1 h2 h3
    | panicked c => exact hr.elim
    | outgrown => exact hr.elim
  · exact he.elim

theorem keep_some {h h' : Heap} {o : Option AV} {v : AV} (hk : keep h o = some (v, h')) : o = some v ∧ h' = h := by
  unfold keep at hk
  simp only [Option.map_eq_some_iff, Prod.mk.injEq] at hk
  obtain ⟨a, h1, rfl, rfl⟩ := hk
  exact ⟨h1, rfl⟩

theorem goes_keep {a : Act} {o : Oper} {v : AV} {place : Option Nat} (s : Sem Value) (he : execOp a.eval o = (do pure (.value (← s)) : Sem Next)) (hk : Fit K h HF V w) (hp : ∀ r, place = some r → V r ∧ r < h.length) (hs : ∃ u, s.run P w = .ok u w ∧ Den K v u) :
    StepGoes P K HF (afterV place h.length h.length V) w a o v h := by
  obtain ⟨u, h1, h2⟩ := hs
  exact goes_value s he ⟨u, w, K, h1, Kext.refl K, h2, hk.after fun r hr => (hp r hr).2⟩

theorem Fit.of_ok {K' : KW} {w' : World} {V' : Nat → Prop} (hk : Fit K h HF V w) (hok : Ok K' (comb h HF) V' w') (hv : ∀ i, h.length ≤ i → V' i) : Fit K' h HF V' w' := ⟨hok, hk.hf, hv⟩

theorem goes_gives {a : Act} {o : Oper} {v : AV} {place : Option Nat} (s : Sem Value) (he : execOp a.eval o = (do pure (.value (← s)) : Sem Next)) (hk : Fit K h HF V w) (hp : ∀ r, place = some r → V r ∧ r < h.length) (hs : Gives P K w s v (comb h HF) V) :
    StepGoes P K HF (afterV place h.length h.length V) w a o v h := by
  obtain ⟨u, w', K', h1, h2, h3, h4⟩ := hs
  exact goes_value s he ⟨u, w', K', h1, h2, h3, (hk.of_ok h4 hk.vlen).after fun r hr => (hp r hr).2⟩

theorem run_sliceData_some (ts : Array TypeId) (ty : TypeId) (a : Addr) (n c : Nat) (hc : c ≠ 0) : (Builtin.unsafeSliceData_ ts ty #[.slice (some a) n c]).run P w = .ok (.pointer (some a)) w := by
  have hdef : Builtin.unsafeSliceData_ ts ty #[.slice (some a) n c] = (if c ≠ 0 then pure (.pointer (some a)) else do if (← viewAt a.block).isSome then pure (.pointer (some a)) else pure (.pointer (some ⟨← newObj (.view a (← elemOf ty)), 0, none⟩)) : Sem Value) := rfl
  rw [hdef, if_pos hc]
  rfl

theorem run_sliceData_none (ts : Array TypeId) (ty : TypeId) (n c : Nat) : (Builtin.unsafeSliceData_ ts ty #[.slice none n c]).run P w = .ok (.pointer none) w := rfl

theorem denL_one {x : AV} {vs : Array Value} (h : DenL K [x] vs.toList) : ∃ y, vs = #[y] ∧ Den K x y := by
  obtain ⟨l⟩ := vs
  cases h with
  | cons hx hr => cases hr; exact ⟨_, rfl, hx⟩

theorem denL_two {x y : AV} {vs : Array Value} (h : DenL K [x, y] vs.toList) : ∃ a b, vs = #[a, b] ∧ Den K x a ∧ Den K y b := by
  obtain ⟨l⟩ := vs
  cases h with
  | cons hx hr =>
    cases hr with
    | cons hy hr => cases hr; exact ⟨_, _, rfl, hx, hy⟩

theorem goes_builtin {a : Act} {o : Oper} {v : AV} {h' : Heap} {place : Option Nat} {c : Call} {b : Builtin} {args : List AV} (ho : o.op = .call c) (hb : c.callee = .builtin b) (hk : Fit K h HF V w) (hp : ∀ r, place = some r → V r ∧ r < h.length)
    (hargs : DenL K args (c.args.map a.eval).toList) (hs : builtinA P b c.argTypes.toList place args h = some (v, h')) : StepGoes P K HF (afterV place h.length h'.length V) w a o v h' ∧ h.length ≤ h'.length := by
  have hexec : ∀ (s : Sem Value), (builtin b c.argTypes o.type (c.args.map fun | .const _ => true | _ => false) (c.args.map a.eval) = (do pure (.value (← s)) : Sem Next)) → execOp a.eval o = (do pure (.value (← s)) : Sem Next) := fun s hs => by
    simp only [execOp, ho, resolve, hb, pure_bind, invoke]
    exact hs
  generalize hvs : c.args.map a.eval = vs at hargs hexec
  unfold builtinA at hs
  split at hs
  · rename_i t ts x xs hts
    simp only [Option.map_eq_some_iff, Prod.mk.injEq] at hs
    obtain ⟨u, h1, rfl, rfl⟩ := hs
    have ht0 : c.argTypes[0]? = some t := by rw [← Array.getElem?_toList, hts]; rfl
    cases hv : vs.toList with
    | nil => rw [hv] at hargs; cases hargs
    | cons y ys =>
      rw [hv] at hargs
      cases hargs with
      | cons hx _ =>
        have hv0 : vs[0]? = some y := by rw [← Array.getElem?_toList, hv]; rfl
        exact ⟨goes_keep (Builtin.len_ c.argTypes o.type vs) (hexec _ rfl) hk hp (run_lenA h1 hx ht0 hv0), Nat.le_refl _⟩
  · rename_i ts s x rest hts
    cases hv : vs.toList with
    | nil => rw [hv] at hargs; cases hargs
    | cons y ys =>
      rw [hv] at hargs
      cases hargs with
      | cons hx hxs =>
        cases ys with
        | nil => cases hxs
        | cons z zs =>
          cases hxs with
          | cons hz hzs =>
            obtain ⟨u, w', K', g1, g2, g3, g4, g5⟩ := gives_appendA (ty := o.type) hk hp hs hx hz
            refine ⟨goes_value (Builtin.append_ c.argTypes o.type vs) (hexec _ rfl) ⟨u, w', K', ?_, g2, g3, g4⟩, g5⟩
            have e0 : vs[0]? = some y := by rw [← Array.getElem?_toList, hv]; rfl
            have e1 : vs[1]? = some z := by rw [← Array.getElem?_toList, hv]; rfl
            rw [← g1]
            unfold Builtin.append_
            simp only [e0, e1, List.getElem?_toArray, List.getElem?_cons_zero, List.getElem?_cons_succ]
  · rename_i rest hts
    cases hs
    obtain ⟨y, rfl, hy⟩ := denL_one hargs
    have hy' := den_nils hy
    subst hy'
    exact ⟨goes_keep (Builtin.unsafeSliceData_ c.argTypes o.type _) (hexec _ rfl) hk hp ⟨_, run_sliceData_none _ _ _ _, .pnil⟩, Nat.le_refl _⟩
  · cases hs
    obtain ⟨y, rfl, hy⟩ := denL_one hargs
    cases hy with
    | «at» _ _ _ _ r hr hcap hcells =>
      exact ⟨goes_keep (Builtin.unsafeSliceData_ c.argTypes o.type _) (hexec _ rfl) hk hp ⟨_, run_sliceData_some _ _ _ _ _ (by simp at hcap; omega), .sdata _ _ _ _ r hr hcap hcells⟩, Nat.le_refl _⟩
  · rename_i pt ts p n hts
    obtain ⟨h1, rfl⟩ := keep_some hs
    obtain ⟨y, z, rfl, hy, hz⟩ := denL_two hargs
    have ht0 : c.argTypes[0]? = some pt := by rw [← Array.getElem?_toList, hts]; rfl
    obtain ⟨u, w', g1, g2, g3⟩ := run_unsafeStringA (ty := o.type) hk ht0 h1 hy hz
    exact ⟨goes_value (Builtin.unsafeString_ c.argTypes o.type _) (hexec _ rfl) ⟨u, w', K, g1, Kext.refl K, g2, g3.after fun r hr => (hp r hr).2⟩, Nat.le_refl _⟩
  · obtain ⟨h1, rfl⟩ := keep_some hs
    cases hv : vs.toList with
    | nil => rw [hv] at hargs; cases hargs
    | cons y ys =>
      rw [hv] at hargs
      cases hargs with
      | cons hx hxs =>
        obtain ⟨u, g1, g2⟩ := run_minMaxA (P := P) (w := w) h1 hx hxs
        refine ⟨goes_keep (Builtin.min_ c.argTypes o.type vs) (hexec _ rfl) hk hp ⟨u, ?_, g2⟩, Nat.le_refl _⟩
        simp only [Builtin.min_, hv]
        exact g1
  · obtain ⟨h1, rfl⟩ := keep_some hs
    cases hv : vs.toList with
    | nil => rw [hv] at hargs; cases hargs
    | cons y ys =>
      rw [hv] at hargs
      cases hargs with
      | cons hx hxs =>
        obtain ⟨u, g1, g2⟩ := run_minMaxA (P := P) (w := w) h1 hx hxs
        refine ⟨goes_keep (Builtin.max_ c.argTypes o.type vs) (hexec _ rfl) hk hp ⟨u, ?_, g2⟩, Nat.le_refl _⟩
        simp only [Builtin.max_, hv]
        exact g1
  · exact nomatch hs

theorem step_ok {callf : CallF} (hcall : CallOk P callf) {a : Act} {o : Oper} {ts : List AV} {v : AV} {h' : Heap} {place : Option Nat} (hts : DenL K ts a.tmps.toList) (hk : Fit K h HF V w) (hp : ∀ r, place = some r → V r ∧ r < h.length)
    (hs : stepOp P callf place o.op ts h = some (v, h')) : StepGoes P K HF (afterV place h.length h'.length V) w a o v h' ∧ h.length ≤ h'.length := by
  obtain ⟨ow, hok⟩ := hk.ok
  have hh : ∀ id o, h[id]? = some (some o) → comb h HF id = some o := fun id o hi => comb_some hi
  have hp2 : ∀ r, place = some r → V r := fun r hr => (hp r hr).1
  unfold stepOp at hs
  split at hs
  case h_1 x heq | h_2 x heq =>
    obtain ⟨h1, rfl⟩ := keep_some hs
    exact ⟨goes_keep (pure (a.eval x)) (by simp only [execOp, heq, pure_bind]) hk hp ⟨_, rfl, den_evalX hts h1⟩, Nat.le_refl _⟩
  case h_3 c x y heq =>
    split at hs
    · rename_i t hc
      obtain ⟨h1, rfl⟩ := keep_some hs
      have hd := den_evalX hts hc
      have hcv : a.eval c = .bool t := by
        generalize a.eval c = q at hd
        cases hd with | dat hd => cases hd; rfl
      refine ⟨goes_next (u := if t then a.eval x else a.eval y) ?_ ?_ (hk.after fun r hr => (hp r hr).2), Nat.le_refl _⟩
      · simp only [execOp, heq, hcv, asBool, pure_bind, Sem.run_pure]
      · cases t
        · exact den_evalX hts h1
        · exact den_evalX hts h1
    · exact nomatch hs
  case h_4 t heq =>
    split at hs
    · rename_i z hz
      obtain ⟨zv, h1, h2, _⟩ := run_zeroValue' (P := P) (w := w) (K := K) hz
      obtain ⟨K', g1, g2, g3, g4⟩ := gives_newVarA hk hp2 hs (vs := zv.cells) h2.cells
      refine ⟨goes_value (Instr.alloc t true (.tuple #[])) (by simp only [execOp, heq]) ⟨_, _, K', ?_, g1, g2, g3⟩, g4⟩
      simp only [Instr.alloc, Sem.run_bind, h1, Result.andThen_ok, newVar, newRow, run_newObj_alloc, Sem.run_pure]
    · exact nomatch hs
  case h_5 t x heq =>
    split at hs
    · rename_i z hz
      obtain ⟨K', g1, g2, g3, g4⟩ := gives_newVarA hk hp2 hs (vs := (a.eval x).cells) (den_evalX hts hz).cells
      refine ⟨goes_value (Instr.box t (a.eval x)) (by simp only [execOp, heq]) ⟨_, _, K', ?_, g1, g2, g3⟩, g4⟩
      simp only [Instr.box, Sem.run_bind, Result.andThen_ok, newVar, newRow, run_newObj_alloc, Sem.run_pure]
    · exact nomatch hs
  case h_6 t parts heq =>
    split at hs
    · rename_i ps hps
      obtain ⟨h1, rfl⟩ := keep_some hs
      exact ⟨goes_keep _ (by simp only [execOp, heq]) hk hp (run_buildA (den_evalParts hts hps) h1), Nat.le_refl _⟩
    · exact nomatch hs
  case h_7 t len parts heq =>
    split at hs
    · rename_i ps hps
      obtain ⟨h1, rfl⟩ := keep_some hs
      exact ⟨goes_gives _ (by simp only [execOp, heq]) hk hp (gives_buildSliceA hk.ok (den_evalParts hts hps) h1), Nat.le_refl _⟩
    · exact nomatch hs
  case h_8 t x heq =>
    split at hs
    · rename_i p hpx
      obtain ⟨h1, rfl⟩ := keep_some hs
      exact ⟨goes_keep _ (by simp only [execOp, heq]) hk hp (run_loadA hok hh h1 (den_evalX hts hpx)), Nat.le_refl _⟩
    · exact nomatch hs
  case h_9 t x y heq =>
    split at hs
    · rename_i p u hpx hpy
      simp only [Option.map_eq_some_iff, Prod.mk.injEq] at hs
      obtain ⟨h'', h1, rfl, rfl⟩ := hs
      obtain ⟨w', K', g1, g2, g3, g4⟩ := run_storeA hk h1 (den_evalX hts hpx) (den_evalX hts hpy)
      refine ⟨goes_skip _ (by simp only [execOp, heq]) ⟨w', K', g1, g2, ?_⟩, by omega⟩
      have := g3.after (place := place) fun r hr => by rw [g4]; exact (hp r hr).2
      rw [g4] at this ⊢
      exact this
    · exact nomatch hs
  case h_10 x heq =>
    split at hs
    · rename_i u hu
      obtain ⟨h1, rfl⟩ := keep_some hs
      obtain ⟨g1, g2⟩ := run_nilCheckA (P := P) (w := w) heq h1 (den_evalX hts hu)
      exact ⟨goes_next g1 g2 (hk.after fun r hr => (hp r hr).2), Nat.le_refl _⟩
    · exact nomatch hs
  case h_11 op t x y yt heq =>
    split at hs
    · rename_i p u hpx hpy
      obtain ⟨h1, rfl⟩ := keep_some hs
      exact ⟨goes_keep _ (by simp only [execOp, heq]; rfl) hk hp (run_binA h1 (den_evalX hts hpx) (den_evalX hts hpy)), Nat.le_refl _⟩
    · exact nomatch hs
  case h_12 op t x heq =>
    split at hs
    · rename_i p hpx
      obtain ⟨h1, rfl⟩ := keep_some hs
      exact ⟨goes_keep _ (by simp only [execOp, heq]) hk hp (run_unA h1 (den_evalX hts hpx)), Nat.le_refl _⟩
    · exact nomatch hs
  case h_13 s d x heq =>
    split at hs
    · rename_i q hpx
      obtain ⟨h1, rfl⟩ := keep_some hs
      exact ⟨goes_keep _ (by simp only [execOp, heq]) hk hp (run_convPtr hok hh h1 (den_evalX hts hpx)), Nat.le_refl _⟩
    · rename_i p _ hpx
      obtain ⟨h1, rfl⟩ := keep_some hs
      exact ⟨goes_gives _ (by simp only [execOp, heq]) hk hp (gives_convA hk.ok h1 (den_evalX hts hpx)), Nat.le_refl _⟩
    · exact nomatch hs
  case h_14 fn first captured heq =>
    split at hs
    · rename_i p q hpx hpy
      cases hs
      refine ⟨goes_keep (Instr.makeFunc fn (first.map a.eval) (captured.map a.eval)) (by simp only [execOp, heq]) hk hp ⟨_, rfl, Den.of_func ?_ ?_⟩, Nat.le_refl _⟩
      · rw [Array.toList_map]; exact den_evalL hts hpx
      · rw [Array.toList_map]; exact den_evalL hts hpy
    · exact nomatch hs
  case h_15 t x lo hi mx heq =>
    split at hs
    · rename_i p hpx
      obtain ⟨h1, rfl⟩ := keep_some hs
      exact ⟨goes_keep _ (by simp only [execOp, heq]) hk hp (run_sliceA hts h1 (den_evalX hts hpx)), Nat.le_refl _⟩
    · exact nomatch hs
  case h_16 t x f heq =>
    split at hs
    · rename_i p hpx
      obtain ⟨h1, rfl⟩ := keep_some hs
      exact ⟨goes_keep _ (by simp only [execOp, heq]) hk hp (run_fieldAddrA h1 (den_evalX hts hpx)), Nat.le_refl _⟩
    · exact nomatch hs
  case h_17 t x f heq =>
    split at hs
    · rename_i p hpx
      obtain ⟨h1, rfl⟩ := keep_some hs
      exact ⟨goes_keep _ (by simp only [execOp, heq]) hk hp (run_fieldA h1 (den_evalX hts hpx)), Nat.le_refl _⟩
    · exact nomatch hs
  case h_18 t x i heq =>
    split at hs
    · rename_i p q hpx hpy
      obtain ⟨h1, rfl⟩ := keep_some hs
      exact ⟨goes_keep _ (by simp only [execOp, heq]) hk hp (run_indexAddrA h1 (den_evalX hts hpx) (den_evalX hts hpy)), Nat.le_refl _⟩
    · exact nomatch hs
  case h_19 t x i heq =>
    split at hs
    · rename_i p q hpx hpy
      obtain ⟨h1, rfl⟩ := keep_some hs
      exact ⟨goes_keep _ (by simp only [execOp, heq]) hk hp (run_indexA h1 (den_evalX hts hpx) (den_evalX hts hpy)), Nat.le_refl _⟩
    · exact nomatch hs
  case h_20 x i heq =>
    split at hs
    · rename_i vs hpx
      obtain ⟨h1, rfl⟩ := keep_some hs
      have hd := den_evalX hts hpx
      generalize hq : a.eval x = q at hd
      obtain ⟨us, rfl, hl⟩ := hd.tuple_list
      obtain ⟨u, g1, g2⟩ := hl.get h1
      rw [Array.getElem?_toList] at g1
      exact ⟨goes_keep (Instr.extract (.tuple us) i) (by simp only [execOp, heq, hq]) hk hp ⟨u, by simp [Instr.extract, g1], g2⟩, Nat.le_refl _⟩
    · exact nomatch hs
  case h_21 c heq =>
    unfold callA at hs
    split at hs
    · exact nomatch hs
    · rename_i args hargs
      have hd := den_evalL hts hargs
      split at hs
      · rename_i b hb
        exact goes_builtin heq hb hk hp (by rw [Array.toList_map]; exact hd) hs
      · rename_i x hx
        split at hs
        · rename_i f first captured hf
          obtain ⟨g1, g2⟩ := hcall _ _ _ _ _ hs
          have hfd := den_evalX hts hf
          obtain ⟨va, vc, hev, hva, hvc⟩ := hfd.func_list
          have hall : DenL K (first ++ args ++ captured) (va ++ c.args.map a.eval ++ vc).toList := by
            rw [Array.toList_append, Array.toList_append, Array.toList_map]
            exact (hva.append hd).append hvc
          have hgo := g2 K HF V w _ hall hk
          refine ⟨goes_call ?_, g1⟩
          have hex : (execOp a.eval o).run P w = (callFunc f (va ++ c.args.map a.eval ++ vc)).run P w := by
            simp only [execOp, heq, resolve, hx, hev, Deferred.ofValue, pure_bind, invoke]
          rw [hex]
          have hsub : ∀ i, afterV place h.length h'.length V i → afterV none h.length h'.length V i := fun i hi => ⟨hi.1, (by intro e; cases e), hi.2.2⟩
          unfold CallGives at hgo ⊢
          split at hgo
          · obtain ⟨K', k1, k2, k3⟩ := hgo
            exact ⟨K', k1, k2, k3.virgin hsub fun i hi => ⟨(k3.vlen i hi).1, fun e => by have := (hp i e).2; omega, Or.inr hi⟩⟩
          · refine Calls.mono hgo fun e w' hr => ?_
            cases e with
            | returned u =>
              obtain ⟨K', k1, k2, k3⟩ := hr
              exact ⟨K', k1, k2, k3.virgin hsub fun i hi => ⟨(k3.vlen i hi).1, fun e => by have := (hp i e).2; omega, Or.inr hi⟩⟩
            | panicked c => exact hr.elim
            | outgrown => exact hr.elim
          · exact hgo.elim
        · exact nomatch hs
      · exact nomatch hs
  case h_22 => exact nomatch hs

end
end Go.Proofs.Ytfdcjngclelnhaa

set_option linter.unusedSimpArgs false
namespace Go.Proofs.Ytfdcjngclelnhaa
open Go Go.RowKit

structure Sim (K : KW) (s : St) (HF : Nat → Option AObj) (V : Nat → Prop) (a : Act) (w : World) : Prop where
  tmps : DenL K s.tmps a.tmps.toList
  defers : a.defers = []
  fit : Fit K s.heap HF V w

section
variable {P : Program} {K : KW} {w : World} {HF : Nat → Option AObj} {V : Nat → Prop}

theorem afterV_trans {V : Nat → Prop} {n n' n'' : Nat} (h1 : n ≤ n') (h2 : n' ≤ n'') (i : Nat) (h : afterV none n n'' V i) : afterV none n' n'' (afterV none n n' V) i := by
  obtain ⟨a, _, c⟩ := h
  exact ⟨⟨a, (by intro e; cases e), by omega⟩, (by intro e; cases e), by omega⟩

theorem Fit.trans {K' : KW} {h h' : Heap} {n : Nat} {w' : World} (h1 : n ≤ h.length) (h2 : h.length ≤ h'.length) (hk : Fit K' h' HF (afterV none h.length h'.length (afterV none n h.length V)) w') (hv : ∀ i, h'.length ≤ i → V i) : Fit K' h' HF (afterV none n h'.length V) w' :=
  hk.virgin (afterV_trans h1 h2) fun i hi => ⟨hv i hi, (by intro e; cases e), Or.inr hi⟩

theorem Fit.start {h : Heap} (hk : Fit K h HF V w) : Fit K h HF (afterV none h.length h.length V) w := hk.after (by intro r e; cases e)

theorem put_tmps (a : Act) (dst : Option Tmp) (v : Value) : (a.put dst v).tmps.toList = (match dst with | some d => a.tmps.toList.set d v | none => a.tmps.toList) := by
  cases dst with
  | none => rfl
  | some d => simp [Act.put, Array.toList_setIfInBounds]

theorem put_defers (a : Act) (dst : Option Tmp) (v : Value) : (a.put dst v).defers = a.defers := by cases dst <;> rfl

theorem den_put {ts : List AV} {a : Act} {v : AV} {u : Value} (h : DenL K ts a.tmps.toList) (hv : Den K v u) (dst : Option Tmp) : DenL K (putA ts dst v) (a.put dst u).tmps.toList := by
  rw [put_tmps]
  cases dst with
  | none => exact h
  | some d => exact h.set d hv

theorem wanted_ok {ops : Array Oper} {o : Oper} {ts : List AV} {a : Act} {b : Bool} (h : DenL K ts a.tmps.toList) (hw : wantedA ops o ts = some b) : Region.wanted o (yielded ops a.tmps) = b := by
  unfold wantedA at hw
  unfold Region.wanted
  split at hw
  · rename_i hg; cases hw; rw [hg]
  · rename_i j want hg
    rw [hg]
    simp only []
    split at hw
    · rename_i d hd
      split at hw
      · rename_i c hc
        cases hw
        obtain ⟨u, h1, h2⟩ := h.get hc
        cases h2 with | dat h2 => ?_
        cases h2
        rw [Array.getElem?_toList] at h1
        have : yielded ops a.tmps j = some c := by simp [yielded, hd, h1]
        rw [this]
        cases c <;> cases want <;> rfl
      · rename_i vs hc
        cases hw
        obtain ⟨u, h1, h2⟩ := h.get hc
        obtain ⟨us, rfl, _⟩ := h2.tuple_list
        rw [Array.getElem?_toList] at h1
        have : yielded ops a.tmps j = none := by simp [yielded, hd, h1]
        rw [this]
        rfl
      · exact nomatch hw
    · exact nomatch hw

/-- one operation of a region, wanted or not -/
theorem one_ok {callf : CallF} (hcall : CallOk P callf) {ops : Array Oper} {i : Nat} {o : Oper} {a : Act} {ts : List AV} {h h' : Heap} {v : AV} {place : Option Nat} (hi : ops[i]? = some o) (hts : DenL K ts a.tmps.toList) (hk : Fit K h HF V w) (hp : ∀ r, place = some r → V r ∧ r < h.length)
    (hs : oneOp P callf ops place o ts h = some (v, h')) {next : Act → World → Prop} {Q : Exit → Act → World → Prop} (hn : ∀ u w' K', Kext K K' → Den K' v u → Fit K' h' HF (afterV place h.length h'.length V) w' → next (a.put o.dst u) w') :
    wpOp P ops Q i next a w ∧ h.length ≤ h'.length := by
  unfold oneOp at hs
  unfold wpOp
  rw [hi]
  simp only []
  split at hs
  · rename_i hw
    rw [wanted_ok hts hw]
    obtain ⟨h1, h2⟩ := step_ok hcall (o := o) hts hk hp hs
    exact ⟨by simp only [if_true]; exact Or.inl (h1 next Q hn), h2⟩
  · rename_i hw
    rw [wanted_ok hts hw]
    cases hs
    exact ⟨by simp only [Bool.false_eq_true, if_false]; exact hn undef w K (Kext.refl K) den_undef (hk.after fun r hr => (hp r hr).2), Nat.le_refl _⟩
  · exact nomatch hs

theorem wpOp_const {ops : Array Oper} {i : Nat} {C : Prop} {a : Act} (h : wpOp P ops (fun _ _ _ => False) i (fun _ _ => C) a w) : C := by
  unfold wpOp at h
  split at h
  · exact h
  · split at h
    · rcases h with h | ⟨_, _, _, h⟩
      · unfold Oper.wp at h
        generalize (execOp _ _).run P w = r at h
        cases r with
        | ok nx w' =>
          cases nx <;> simp only [Oper.upon] at h <;> first
            | exact h
            | (obtain ⟨e, w'', fr, hr, _⟩ := h []
               cases e with
               | returned v => exact hr
               | panicked c => exact hr.elim
               | outgrown => obtain ⟨_, _, hr⟩ := hr; exact hr.elim)
            | (obtain ⟨v, w'', hr, _⟩ := h default []
               exact hr)
            | exact h.elim
        | halt x w' => cases x <;> simp only [Oper.upon] at h
      · exact h.elim
    · exact h

theorem regionT_ok {callf : CallF} (hcall : CallOk P callf) {ops : Array Oper} : ∀ (l : List Oper) (k : Nat) (s s' : St) (K : KW) (V : Nat → Prop) (a : Act) (w : World) (Q : Exit → Act → World → Prop), (∀ j, l[j]? = ops[k + j]?) → regionT P callf ops l s = some s' → Sim K s HF V a w →
    s.heap.length ≤ s'.heap.length ∧ ((∀ a' w' K', Kext K K' → Sim K' s' HF (afterV none s.heap.length s'.heap.length V) a' w' → Q .normal a' w') → wpOps P ops Q (List.range' k l.length) a w)
  | [], k, s, s', K, V, a, w, Q, _, hr, hsim => by
    simp [regionT] at hr
    subst hr
    exact ⟨Nat.le_refl _, fun hq => hq a w K (Kext.refl K) ⟨hsim.tmps, hsim.defers, hsim.fit.start⟩⟩
  | o :: l, k, s, s', K, V, a, w, Q, hl, hr, hsim => by
    simp only [regionT] at hr
    split at hr
    · rename_i v h hone
      have hi : ops[k]? = some o := by have := hl 0; simpa using this.symm
      have hl' : ∀ j, l[j]? = ops[k + 1 + j]? := fun j => by have := hl (j + 1); rw [show k + 1 + j = k + (j + 1) by omega]; simpa using this
      have hle1 := (one_ok hcall hi hsim.tmps hsim.fit (place := none) (by intro r e; cases e) hone (next := fun _ _ => True) (Q := Q) (fun _ _ _ _ _ _ => trivial)).2
      have hnext : ∀ u w' K', Kext K K' → Den K' v u → Fit K' h HF (afterV none s.heap.length h.length V) w' → h.length ≤ s'.heap.length ∧ ((∀ a' w' K', Kext K K' → Sim K' s' HF (afterV none s.heap.length s'.heap.length V) a' w' → Q .normal a' w') → wpOps P ops Q (List.range' (k + 1) l.length) (a.put o.dst u) w') := fun u w' K' he hd hf => by
        obtain ⟨g1, g2⟩ := regionT_ok hcall l (k + 1) ⟨putA s.tmps o.dst v, h⟩ s' K' _ (a.put o.dst u) w' Q hl' hr ⟨den_put (hsim.tmps.mono he) hd _, by rw [put_defers]; exact hsim.defers, hf⟩
        refine ⟨g1, fun hq => g2 fun a' w'' K'' he' hs' => hq a' w'' K'' (he.trans he') ⟨hs'.tmps, hs'.defers, hs'.fit.trans hle1 g1 fun i hi => hsim.fit.vlen i (by simp only at g1; omega)⟩⟩
      have hle2 : h.length ≤ s'.heap.length := by
        exact wpOp_const (one_ok hcall hi hsim.tmps hsim.fit (place := none) (by intro r e; cases e) hone (next := fun _ _ => h.length ≤ s'.heap.length) (Q := fun _ _ _ => False) fun u w' K' he hd hf => by
          obtain ⟨g1, _⟩ := regionT_ok hcall l (k + 1) ⟨putA s.tmps o.dst v, h⟩ s' K' _ (a.put o.dst u) w' Q hl' hr ⟨den_put (hsim.tmps.mono he) hd _, by rw [put_defers]; exact hsim.defers, hf⟩
          exact g1).1
      refine ⟨Nat.le_trans hle1 hle2, fun hq => ?_⟩
      rw [List.length_cons, List.range'_succ, wpOps_cons]
      exact (one_ok hcall hi hsim.tmps hsim.fit (place := none) (by intro r e; cases e) hone (next := wpOps P ops Q (List.range' (k + 1) l.length)) (Q := Q) fun u w' K' he hd hf => (hnext u w' K' he hd hf).2 hq).1
    · exact nomatch hr

end
end Go.Proofs.Ytfdcjngclelnhaa

set_option linter.unusedSimpArgs false
namespace Go.Proofs.Ytfdcjngclelnhaa
open Go Go.RowKit

/-- an operation that was done: what it looked at, and what it left -/
structure Ent where
  d : Done
  v : AV
  h : Heap
  place : Option Nat

def lookT (t : Nat) : (Nat → Bool) → List Ent → Option AV → Option AV
  | _, [], b => b
  | S, e :: r, b => lookT t (fun k => S (k + 1)) r (if S 0 && e.d.dst == some t then b.map fun _ => e.v else b)

def lookH (id : Nat) : (Nat → Bool) → List Ent → Option (Option AObj) → Option (Option AObj)
  | _, [], b => b
  | S, e :: r, b => lookH id (fun k => S (k + 1)) r (if S 0 && e.d.writes.contains id then e.h[id]? else b)

theorem lookT_congr {t : Nat} : ∀ {es : List Ent} {S S' : Nat → Bool} {b : Option AV}, (∀ (k : Nat) (e : Ent), es[k]? = some e → e.d.dst = some t → S k = S' k) → lookT t S es b = lookT t S' es b
  | [], _, _, _, _ => rfl
  | e :: es, S, S', b, h => by
    simp only [lookT]
    have h0 : (S 0 && e.d.dst == some t) = (S' 0 && e.d.dst == some t) := by
      by_cases hd : e.d.dst = some t
      · rw [h 0 e rfl hd]
      · have hf : (e.d.dst == some t) = false := by simpa using hd
        rw [hf]; simp
    rw [h0]
    exact lookT_congr fun k e' hk hd => h (k + 1) e' (by simpa using hk) hd

theorem lookH_congr {id : Nat} : ∀ {es : List Ent} {S S' : Nat → Bool} {b : Option (Option AObj)}, (∀ (k : Nat) (e : Ent), es[k]? = some e → e.d.writes.contains id = true → S k = S' k) → lookH id S es b = lookH id S' es b
  | [], _, _, _, _ => rfl
  | e :: es, S, S', b, h => by
    simp only [lookH]
    have h0 : (S 0 && e.d.writes.contains id) = (S' 0 && e.d.writes.contains id) := by
      by_cases hd : e.d.writes.contains id = true
      · rw [h 0 e rfl hd]
      · simp at hd; simp [hd]
    rw [h0]
    exact lookH_congr fun k e' hk hd => h (k + 1) e' (by simpa using hk) hd

theorem lookT_none {t : Nat} : ∀ {es : List Ent} {S : Nat → Bool} {b : Option AV}, (∀ (k : Nat) (e : Ent), es[k]? = some e → e.d.dst = some t → S k = false) → lookT t S es b = b
  | [], _, _, _ => rfl
  | e :: es, S, b, h => by
    simp only [lookT]
    have h0 : (S 0 && e.d.dst == some t) = false := by
      by_cases hd : e.d.dst = some t
      · rw [h 0 e rfl hd]; rfl
      · simp [hd]
    rw [h0]
    exact lookT_none fun k e' hk hd => h (k + 1) e' (by simpa using hk) hd

theorem lookH_none {id : Nat} : ∀ {es : List Ent} {S : Nat → Bool} {b : Option (Option AObj)}, (∀ (k : Nat) (e : Ent), es[k]? = some e → e.d.writes.contains id = true → S k = false) → lookH id S es b = b
  | [], _, _, _ => rfl
  | e :: es, S, b, h => by
    simp only [lookH]
    have h0 : (S 0 && e.d.writes.contains id) = false := by
      by_cases hd : e.d.writes.contains id = true
      · rw [h 0 e rfl hd]; rfl
      · simp at hd; simp [hd]
    rw [h0]
    exact lookH_none fun k e' hk hd => h (k + 1) e' (by simpa using hk) hd

/-- one more is done -/
theorem lookT_more {t : Nat} : ∀ {es : List Ent} {S S' : Nat → Bool} {b : Option AV} {j : Nat} {e : Ent}, es[j]? = some e → (∀ k, S' k = (S k || k == j)) → (e.d.dst = some t → ∀ (k : Nat) (e' : Ent), j < k → es[k]? = some e' → e'.d.dst = some t → S k = false) →
    lookT t S' es b = if e.d.dst = some t then b.map fun _ => e.v else lookT t S es b
  | [], _, _, _, _, _, h, _, _ => by simp at h
  | x :: es, S, S', b, 0, e, h, hS, hn => by
    simp at h
    subst h
    simp only [lookT]
    have h0 : S' 0 = true := by rw [hS 0]; simp
    have h1 : (fun k => S' (k + 1)) = fun k => S (k + 1) := by funext k; rw [hS]; simp
    rw [h0, h1]
    by_cases hd : x.d.dst = some t
    · rw [if_pos hd]
      have : (true && x.d.dst == some t) = true := by simp [hd]
      rw [this]
      simp only [if_true]
      exact lookT_none fun k e' hk hdd => hn hd (k + 1) e' (by omega) (by simpa using hk) hdd
    · rw [if_neg hd]
      have : (true && x.d.dst == some t) = false := by simp [hd]
      have h2 : (S 0 && x.d.dst == some t) = false := by simp [hd]
      rw [this, h2]
  | x :: es, S, S', b, j + 1, e, h, hS, hn => by
    simp only [lookT]
    have h0 : S' 0 = S 0 := by rw [hS 0]; simp
    rw [h0]
    rw [lookT_more (S := fun k => S (k + 1)) (j := j) (e := e) (by simpa using h) (fun k => by rw [hS]; simp) fun hd k e' hk hk' hdd => hn hd (k + 1) e' (by omega) (by simpa using hk') hdd]
    split
    · split
      · cases b <;> rfl
      · rfl
    · rfl

theorem lookH_more {id : Nat} : ∀ {es : List Ent} {S S' : Nat → Bool} {b : Option (Option AObj)} {j : Nat} {e : Ent}, es[j]? = some e → (∀ k, S' k = (S k || k == j)) →
    (e.d.writes.contains id = true → ∀ (k : Nat) (e' : Ent), j < k → es[k]? = some e' → e'.d.writes.contains id = true → S k = false) → lookH id S' es b = if e.d.writes.contains id = true then e.h[id]? else lookH id S es b
  | [], _, _, _, _, _, h, _, _ => by simp at h
  | x :: es, S, S', b, 0, e, h, hS, hn => by
    simp at h
    subst h
    simp only [lookH]
    have h0 : S' 0 = true := by rw [hS 0]; simp
    have h1 : (fun k => S' (k + 1)) = fun k => S (k + 1) := by funext k; rw [hS]; simp
    rw [h0, h1]
    by_cases hd : x.d.writes.contains id = true
    · rw [if_pos hd, hd]
      simp only [Bool.and_self, if_true]
      exact lookH_none fun k e' hk hdd => hn hd (k + 1) e' (by omega) (by simpa using hk) hdd
    · rw [if_neg hd]
      have hd' : x.d.writes.contains id = false := by simpa using hd
      rw [hd']
      simp
  | x :: es, S, S', b, j + 1, e, h, hS, hn => by
    simp only [lookH]
    have h0 : S' 0 = S 0 := by rw [hS 0]; simp
    rw [h0]
    rw [lookH_more (S := fun k => S (k + 1)) (j := j) (e := e) (by simpa using h) (fun k => by rw [hS]; simp) fun hd k e' hk hk' hdd => hn hd (k + 1) e' (by omega) (by simpa using hk') hdd]

/-- a set with, of each operation, all that must come before -/
def Closed (ops : List Oper) (S : Nat → Bool) : Prop := ∀ (i : Nat) (o : Oper), S i = true → ops[i]? = some o → ∀ e, e ∈ o.after.toList → Region.binds .any e = true → S e.on = true

theorem mask_bits {es : List Edge} {acc : List Nat} {k : Nat} : ∀ {s : Nat}, (es.foldl (fun s e => if Region.binds .any e then s ||| 2 ^ e.on ||| acc.getD e.on 0 else s) s).testBit k = true → s.testBit k = true ∨ ∃ e, e ∈ es ∧ Region.binds .any e = true ∧ (e.on = k ∨ (acc.getD e.on 0).testBit k = true) := by
  induction es with
  | nil => intro s h; exact Or.inl h
  | cons e es ih =>
    intro s h
    simp only [List.foldl_cons] at h
    rcases ih h with h1 | ⟨e', h1, h2, h3⟩
    · split at h1
      · rename_i hb
        simp only [Nat.testBit_or, Bool.or_eq_true] at h1
        rcases h1 with (h1 | h1) | h1
        · exact Or.inl h1
        · refine Or.inr ⟨e, by simp, hb, Or.inl ?_⟩
          rw [Nat.testBit_two_pow] at h1
          simpa using h1
        · exact Or.inr ⟨e, by simp, hb, Or.inr h1⟩
      · exact Or.inl h1
    · exact Or.inr ⟨e', by simp [h1], h2, h3⟩

/-- who comes before one that is done, or may be done now, is done -/
theorem masks_ok {ops : List Oper} {S : Nat → Bool} (hS : Closed ops S) : ∀ {l : List Oper} {acc : List Nat}, (∀ j, l[j]? = ops[acc.length + j]?) → (∀ (i m : Nat), acc[i]? = some m → (∀ o, ops[i]? = some o → ∀ e, e ∈ o.after.toList → Region.binds .any e = true → S e.on = true) → ∀ k, m.testBit k = true → S k = true) →
    ∀ (i m : Nat), (masksA l acc)[i]? = some m → (∀ o, ops[i]? = some o → ∀ e, e ∈ o.after.toList → Region.binds .any e = true → S e.on = true) → ∀ k, m.testBit k = true → S k = true
  | [], acc, _, hacc => by simpa [masksA] using hacc
  | o :: l, acc, hl, hacc => by
    simp only [masksA]
    have ho : ops[acc.length]? = some o := by have := hl 0; simpa using this.symm
    refine masks_ok hS (fun j => ?_) fun i m hi hp k hk => ?_
    · have := hl (j + 1)
      simp only [List.length_append, List.length_singleton]
      rw [show acc.length + 1 + j = acc.length + (j + 1) by omega]
      simpa using this
    · rw [List.getElem?_append] at hi
      split at hi
      · exact hacc i m hi hp k hk
      · rename_i hge
        have hieq : i = acc.length := by
          have := lt_of_some hi
          simp at this
          omega
        subst hieq
        rw [Nat.sub_self] at hi
        have hi := Option.some.inj hi
        subst hi
        rcases mask_bits hk with h | ⟨e, h1, h2, h3⟩
        · simp at h
        · have hs := hp o ho e h1 h2
          rcases h3 with h3 | h3
          · rw [← h3]; exact hs
          · have hin : ∃ m, acc[e.on]? = some m := by
              rcases Nat.lt_or_ge e.on acc.length with h | h
              · exact ⟨_, List.getElem?_eq_getElem h⟩
              · rw [List.getD_eq_getElem?_getD, List.getElem?_eq_none h] at h3
                simp at h3
            obtain ⟨m, hm⟩ := hin
            rw [List.getD_eq_getElem?_getD, hm] at h3
            exact hacc e.on m hm (fun o' ho' e' he' hb' => hS e.on o' hs ho' e' he' hb') k h3

theorem apartL_ok {a b : List Nat} (h : apartL a b = true) {i : Nat} (ha : a.contains i = true) (hb : b.contains i = true) : False := by
  unfold apartL at h
  have := List.all_eq_true.1 h i (by simpa using ha)
  rw [hb] at this
  simp at this

theorem checkOne_ok {m : Nat} {d : Done} : ∀ {l : List Done} {i : Nat}, checkOne m d i l = true → ∀ (j : Nat) (e : Done), l[j]? = some e → m.testBit (i + j) = true ∨ apartD e d = true
  | [], _, _, j, e, h => by simp at h
  | x :: l, i, hc, j, e, h => by
    simp only [checkOne, Bool.and_eq_true, Bool.or_eq_true] at hc
    cases j with
    | zero => simp at h; subst h; exact hc.1
    | succ j =>
      have := checkOne_ok hc.2 j e (by simpa using h)
      rwa [show i + 1 + j = i + (j + 1) by omega] at this

end Go.Proofs.Ytfdcjngclelnhaa

set_option linter.unusedSimpArgs false
namespace Go.Proofs.Ytfdcjngclelnhaa
open Go Go.RowKit

section
variable {P : Program} {callf : CallF} {ops : Array Oper} {N : Nat}

structure EntOk (P : Program) (callf : CallF) (ops : Array Oper) (N : Nat) (k : Nat) (o : Oper) (e : Ent) (ts : List AV) (h : Heap) : Prop where
  one : oneOp P callf ops e.place o ts (restrictA e.d.foot 0 h) = some (e.v, e.h)
  len : e.h.length = N
  holes : holesA e.d.foot 0 e.h = true
  reads : e.d.reads = readsOf ops o
  dst : e.d.dst = o.dst
  writes : e.d.writes = writesOf o.op e.d.foot
  place : ∀ r, e.place = some r → e.d.foot.contains r = true
  edges : ∀ x, x ∈ o.after.toList → Region.binds .any x = true → x.on < k

inductive Logs (P : Program) (callf : CallF) (ops : Array Oper) (N : Nat) : Nat → List Oper → List Ent → St → St → Prop where
  | nil (k : Nat) (s : St) : Logs P callf ops N k [] [] s s
  | cons {k : Nat} {o : Oper} {l : List Oper} {e : Ent} {es : List Ent} {s s' : St} (h : EntOk P callf ops N k o e s.tmps s.heap) (hr : Logs P callf ops N (k + 1) l es ⟨putA s.tmps o.dst e.v, setIds s.heap e.h e.d.writes⟩ s') : Logs P callf ops N k (o :: l) (e :: es) s s'

theorem regionD_logs : ∀ {l : List Oper} {at_ : Nat} {masks : List Nat} {done : List Done} {s s' : St}, regionD P callf ops N l at_ masks done s = some s' →
    ∃ es, Logs P callf ops N done.length l es s s' ∧ (∀ (i : Nat) (e : Ent), es[i]? = some e → ∀ (j : Nat) (d : Done), (done ++ es.map (·.d))[j]? = some d → j < done.length + i → (masks[i]?.getD 0).testBit j = true ∨ apartD d e.d = true) ∧
      (∀ (i : Nat) (e : Ent) (r : Nat), es[i]? = some e → e.place = some r → at_ ≤ r ∧ r < at_ + countBoxes l) ∧ (∀ (i j : Nat) (e e' : Ent) (r : Nat), es[i]? = some e → es[j]? = some e' → i < j → e.place = some r → e'.place ≠ some r)
  | [], at_, masks, done, s, s', h => by
    simp [regionD] at h
    subst h
    exact ⟨[], .nil _ _, fun i e hi => by simp at hi, fun i e r hi => by simp at hi, fun i j e e' r hi => by simp at hi⟩
  | o :: l, at_, masks, done, s, s', h => by
    unfold regionD at h
    split at h
    · rename_i d v h' hdo
      unfold doneOp at hdo
      split at hdo
      · exact nomatch hdo
      · rename_i w hw
        split at hdo
        · exact nomatch hdo
        · rename_i F0 hF
          split at hdo
          · exact nomatch hdo
          · rename_i v' h'' hone
            split at hdo
            · rename_i hcond
              obtain ⟨c1, c2, c3, c4⟩ := hcond
              simp only [Option.some.injEq, Prod.mk.injEq] at hdo
              obtain ⟨rfl, rfl, rfl⟩ := hdo
              obtain ⟨es, g1, g2, g3, g4⟩ := regionD_logs h
              generalize hpe : placeOf o.op w at_ = pl at hone c2 c3 g1 g2 h
              let e : Ent := ⟨⟨readsOf ops o, o.dst, pl.toList ++ F0, writesOf o.op (pl.toList ++ F0)⟩, v', h'', pl⟩
              have hlen : (done ++ [e.d]).length = done.length + 1 := by simp
              have hpl : ∀ r, pl = some r → r = at_ ∧ makesBox o.op = true := fun r hr => by
                rw [← hpe] at hr
                simp only [placeOf] at hr
                split at hr
                · rename_i hm; simp at hm; exact ⟨(Option.some.inj hr).symm, hm.1⟩
                · exact nomatch hr
              refine ⟨e :: es, .cons ⟨hone, c1, c2, rfl, rfl, rfl, fun r hr => by simp only [e] at hr ⊢; rw [hr]; simp, fun x hx hb => ?_⟩ (by rw [hlen] at g1; exact g1), fun i e' hi j d hj hlt => ?_, fun i e' r hi hr => ?_, fun i j e1 e2 r hi hj hlt hr => ?_⟩
              · have := List.all_eq_true.1 c4 x hx
                simpa [hb] using this
              · cases i with
                | zero =>
                  have hi' := Option.some.inj hi
                  subst hi'
                  rw [List.getElem?_append_left (by omega)] at hj
                  have := checkOne_ok c3 j d hj
                  rw [Nat.zero_add] at this
                  have hm : masks[0]?.getD 0 = masks.headD 0 := by cases masks <;> rfl
                  rw [hm]
                  exact this
                | succ i =>
                  have := g2 i e' (by simpa using hi) j d (by simpa using hj) (by rw [hlen]; omega)
                  have hm : masks[i + 1]?.getD 0 = masks.tail[i]?.getD 0 := by cases masks <;> simp
                  rw [hm]
                  exact this
              · cases i with
                | zero =>
                  have hi' := Option.some.inj hi
                  subst hi'
                  obtain ⟨q1, q2⟩ := hpl r hr
                  simp only [countBoxes, q2, if_true]
                  omega
                | succ i =>
                  have := g3 i e' r (by simpa using hi) hr
                  simp only [countBoxes]
                  unfold nextAt at this; split at this <;> rename_i hm <;> simp [hm] <;> omega
              · cases i with
                | zero =>
                  have hi' := Option.some.inj hi
                  subst hi'
                  cases j with
                  | zero => omega
                  | succ j =>
                    obtain ⟨q1, q2⟩ := hpl r hr
                    intro hr2
                    have := g3 j e2 r (by simpa using hj) hr2
                    rw [nextAt, if_pos q2] at this
                    omega
                | succ i =>
                  cases j with
                  | zero => omega
                  | succ j => exact g4 i j e1 e2 r (by simpa using hi) (by simpa using hj) (by omega) hr
            · exact nomatch hdo
    · exact nomatch h

theorem putA_get (ts : List AV) (dst : Option Tmp) (v : AV) (t : Nat) : (putA ts dst v)[t]? = if dst == some t then ts[t]?.map (fun _ => v) else ts[t]? := by
  cases dst with
  | none => rfl
  | some d =>
    simp only [putA, List.getElem?_set]
    by_cases hd : d = t
    · subst hd
      simp
      by_cases hl : d < ts.length
      · simp [hl]
      · simp [hl]
    · simp [hd]

theorem setIds_get : ∀ {W : List Nat} {h h' : Heap}, h'.length = h.length → (setIds h h' W).length = h.length ∧ ∀ id : Nat, (setIds h h' W)[id]? = if W.contains id then h'[id]? else h[id]?
  | [], h, h', _ => ⟨rfl, fun id => by simp [setIds]⟩
  | i :: W, h, h', hl => by
    simp only [setIds]
    cases hi : h'[i]? with
    | none =>
      obtain ⟨g1, g2⟩ := setIds_get (W := W) hl
      refine ⟨g1, fun id => ?_⟩
      rw [g2]
      have hge : h.length ≤ i := by
        rcases Nat.lt_or_ge i h.length with h1 | h1
        · rw [List.getElem?_eq_getElem (by omega)] at hi; exact nomatch hi
        · exact h1
      by_cases hid : id = i
      · subst hid
        simp [hi, List.getElem?_eq_none hge]
      · simp [hid]
    | some o =>
      obtain ⟨g1, g2⟩ := setIds_get (W := W) (h := h.set i o) (h' := h') (by simpa using hl)
      refine ⟨by simpa using g1, fun id => ?_⟩
      rw [g2, List.getElem?_set]
      by_cases hid : i = id
      · subst hid
        have : i < h.length := by have := lt_of_some hi; omega
        simp [hi, this]
      · have : ¬ id = i := fun e => hid e.symm
        simp [hid, this]

theorem restrict_get {F : List Nat} : ∀ {h : Heap} {i : Nat} (id : Nat), (restrictA F i h)[id]? = if F.contains (i + id) then h[id]? else h[id]?.map fun _ => none
  | [], i, id => by simp [restrictA]
  | o :: h, i, 0 => by
    simp only [restrictA, List.getElem?_cons_zero, Nat.add_zero, Option.map_some]
    split <;> rfl
  | o :: h, i, id + 1 => by
    simp only [restrictA, List.getElem?_cons_succ]
    rw [restrict_get id, show i + 1 + id = i + (id + 1) by omega]

theorem restrict_length {F : List Nat} : ∀ {h : Heap} {i : Nat}, (restrictA F i h).length = h.length
  | [], _ => rfl
  | o :: h, i => by simp [restrictA, restrict_length]

theorem holes_get {F : List Nat} : ∀ {h : Heap} {i : Nat}, holesA F i h = true → ∀ id : Nat, id < h.length → F.contains (i + id) = false → h[id]? = some none
  | [], i, _, id, hl, _ => by simp at hl
  | o :: h, i, hh, id, hl, hf => by
    simp only [holesA, Bool.and_eq_true, Bool.or_eq_true] at hh
    cases id with
    | zero =>
      rw [Nat.add_zero] at hf
      rcases hh.1 with h1 | h1
      · rw [hf] at h1; exact nomatch h1
      · cases o with
        | none => rfl
        | some o => simp at h1
    | succ id =>
      rw [List.getElem?_cons_succ]
      exact holes_get hh.2 id (by simpa using hl) (by rw [show i + 1 + id = i + (id + 1) by omega]; exact hf)

theorem logs_state : ∀ {k : Nat} {l : List Oper} {es : List Ent} {s s' : St}, Logs P callf ops N k l es s s' → s.heap.length = N → ∀ (i : Nat) (e : Ent), es[i]? = some e → ∃ (o : Oper) (si : St), l[i]? = some o ∧ EntOk P callf ops N (k + i) o e si.tmps si.heap ∧
    (∀ t : Nat, si.tmps[t]? = lookT t (fun j => decide (j < i)) es s.tmps[t]?) ∧ (∀ id : Nat, si.heap[id]? = lookH id (fun j => decide (j < i)) es s.heap[id]?) ∧ si.heap.length = N
  | _, _, _, _, _, .nil _ _, _, i, e, hi => by simp at hi
  | k, _, _, s, s', .cons (o := o) (l := l) (e := x) (es := es) h hr, hN, i, e, hi => by
    cases i with
    | zero =>
      have hi' := Option.some.inj hi
      subst hi'
      refine ⟨o, s, rfl, h, fun t => ?_, fun id => ?_, hN⟩
      · rw [lookT_none]; intro j e' _ _; simp
      · rw [lookH_none]; intro j e' _ _; simp
    | succ i =>
      have hsl := setIds_get (W := x.d.writes) (h := s.heap) (h' := x.h) (by rw [h.len, hN])
      obtain ⟨o', si, q1, q2, q3, q4, q5⟩ := logs_state hr (by simp only; rw [hsl.1, hN]) i e (by simpa using hi)
      refine ⟨o', si, by simpa using q1, by rw [show k + (i + 1) = k + 1 + i by omega]; exact q2, fun t => ?_, fun id => ?_, q5⟩
      · rw [q3 t]
        simp only [lookT]
        have e1 : (fun k => decide (k + 1 < i + 1)) = fun k => decide (k < i) := by funext k; simp
        rw [e1, putA_get, h.dst]
        simp
      · rw [q4 id]
        simp only [lookH]
        have e1 : (fun k => decide (k + 1 < i + 1)) = fun k => decide (k < i) := by funext k; simp
        rw [e1, hsl.2 id]
        simp

theorem logs_end : ∀ {k : Nat} {l : List Oper} {es : List Ent} {s s' : St}, Logs P callf ops N k l es s s' → s.heap.length = N →
    (∀ t : Nat, s'.tmps[t]? = lookT t (fun _ => true) es s.tmps[t]?) ∧ (∀ id : Nat, s'.heap[id]? = lookH id (fun _ => true) es s.heap[id]?) ∧ s'.heap.length = N ∧ es.length = l.length
  | _, _, _, _, _, .nil _ _, hN => ⟨fun _ => rfl, fun _ => rfl, hN, rfl⟩
  | k, _, _, s, s', .cons (o := o) (l := l) (e := x) (es := es) h hr, hN => by
    have hsl := setIds_get (W := x.d.writes) (h := s.heap) (h' := x.h) (by rw [h.len, hN])
    obtain ⟨q1, q2, q3, q4⟩ := logs_end hr (by simp only; rw [hsl.1, hN])
    refine ⟨fun t => ?_, fun id => ?_, q3, by simp [q4]⟩
    · rw [q1 t]
      simp only [lookT]
      rw [putA_get, h.dst]
      simp
    · rw [q2 id]
      simp only [lookH]
      rw [hsl.2 id]
      simp

/- an operation looks at its operands, and at its guard -/

def Agree (ts ts' : List AV) (l : List Tmp) : Prop := ∀ t, l.contains t = true → ts[t]? = ts'[t]?

theorem evalX_agree {ts ts' : List AV} {x : Operand} (h : ∀ t, x = .tmp t → ts[t]? = ts'[t]?) : evalX ts x = evalX ts' x := by
  cases x with
  | tmp t => simp only [evalX, List.getD_eq_getElem?_getD, h t rfl]
  | _ => rfl

theorem evalL_agree {ts ts' : List AV} : ∀ {l : List Operand}, (∀ x, x ∈ l → evalX ts x = evalX ts' x) → evalL ts l = evalL ts' l
  | [], _ => rfl
  | x :: l, h => by
    simp only [evalL]
    rw [h x (by simp), evalL_agree fun y hy => h y (by simp [hy])]

theorem evalParts_agree {ts ts' : List AV} : ∀ {l : List (Nat × Operand)}, (∀ x, x ∈ l → evalX ts x.2 = evalX ts' x.2) → evalParts ts l = evalParts ts' l
  | [], _ => rfl
  | (i, x) :: l, h => by
    simp only [evalParts]
    rw [h (i, x) (by simp), evalParts_agree fun y hy => h y (by simp [hy])]

theorem boundA_agree {ts ts' : List AV} {o : Option Operand} {d t : Nat} (h : ∀ x, o = some x → evalX ts x = evalX ts' x) : boundA ts o d t = boundA ts' o d t := by
  cases o with
  | none => rfl
  | some x => simp only [boundA, h x rfl]

theorem stepOp_agree {ts ts' : List AV} {op : Op} {place : Option Nat} {h : Heap} (hx : ∀ x, x ∈ op.operands.toList → evalX ts x = evalX ts' x) : stepOp P callf place op ts h = stepOp P callf place op ts' h := by
  cases op with
  | move x => simp only [stepOp]; rw [hx x (by simp [Op.operands])]
  | assign x => simp only [stepOp]; rw [hx x (by simp [Op.operands])]
  | pick c a b => simp only [stepOp]; rw [hx c (by simp [Op.operands]), hx a (by simp [Op.operands]), hx b (by simp [Op.operands])]
  | box e x => simp only [stepOp]; rw [hx x (by simp [Op.operands])]
  | build t ps =>
    simp only [stepOp]
    rw [evalParts_agree (ts' := ts') fun y hy => hx y.2 (by simp [Op.operands]; exact ⟨y.1, by simpa using hy⟩)]
  | buildSlice t n ps =>
    simp only [stepOp]
    rw [evalParts_agree (ts' := ts') fun y hy => hx y.2 (by simp [Op.operands]; exact ⟨y.1, by simpa using hy⟩)]
  | load t x => simp only [stepOp]; rw [hx x (by simp [Op.operands])]
  | store t x y => simp only [stepOp]; rw [hx x (by simp [Op.operands]), hx y (by simp [Op.operands])]
  | nilCheck x => simp only [stepOp]; rw [hx x (by simp [Op.operands])]
  | binOp op t x y u => simp only [stepOp]; rw [hx x (by simp [Op.operands]), hx y (by simp [Op.operands])]
  | unOp op t x => simp only [stepOp]; rw [hx x (by simp [Op.operands])]
  | convert s d x => simp only [stepOp]; rw [hx x (by simp [Op.operands])]
  | makeFunc fn a c =>
    simp only [stepOp]
    rw [evalL_agree (l := a.toList) (ts' := ts') fun y hy => hx y (by simp [Op.operands]; exact Or.inl (by simpa using hy)), evalL_agree (l := c.toList) (ts' := ts') fun y hy => hx y (by simp [Op.operands]; exact Or.inr (by simpa using hy))]
  | slice t x lo hi mx =>
    simp only [stepOp]
    rw [hx x (by simp [Op.operands])]
    have b1 : ∀ d t, boundA ts lo d t = boundA ts' lo d t := fun d t => boundA_agree fun y hy => hx y (by subst hy; simp [Op.operands])
    have b2 : ∀ d t, boundA ts hi d t = boundA ts' hi d t := fun d t => boundA_agree fun y hy => hx y (by subst hy; simp [Op.operands])
    have b3 : ∀ d t y, mx = some y → boundA ts (some y) d t = boundA ts' (some y) d t := fun d t y hm => boundA_agree fun z hz => hx z (by subst hm; cases hz; simp [Op.operands])
    have b4 : ∀ d t y, hi = some y → boundA ts (some y) d t = boundA ts' (some y) d t := fun d t y hm => boundA_agree fun z hz => hx z (by subst hm; cases hz; simp [Op.operands])
    have hs : ∀ a, sliceA P t a lo hi mx ts = sliceA P t a lo hi mx ts' := fun a => by
      unfold sliceA
      cases mx with
      | none => simp only [b1, b2]
      | some m =>
        cases hi with
        | none => simp only [b1, b2]
        | some y => simp only [b1, b2, b3 _ _ m rfl, b4 _ _ y rfl]
    simp only [hs]
  | fieldAddr t x f => simp only [stepOp]; rw [hx x (by simp [Op.operands])]
  | field t x f => simp only [stepOp]; rw [hx x (by simp [Op.operands])]
  | indexAddr t x i => simp only [stepOp]; rw [hx x (by simp [Op.operands]), hx i (by simp [Op.operands])]
  | index t x i => simp only [stepOp]; rw [hx x (by simp [Op.operands]), hx i (by simp [Op.operands])]
  | extract x i => simp only [stepOp]; rw [hx x (by simp [Op.operands])]
  | call c =>
    simp only [stepOp, callA]
    rw [evalL_agree (l := c.args.toList) (ts' := ts') fun y hy => hx y (by simp [Op.operands, Call.operands]; exact Or.inr (by simpa using hy))]
    cases hc : c.callee with
    | value f => simp only []; rw [hx f (by simp [Op.operands, Call.operands, hc])]
    | _ => rfl
  | _ => rfl

theorem oneOp_agree {ts ts' : List AV} {o : Oper} {place : Option Nat} {h : Heap} (hx : Agree ts ts' (readsOf ops o)) : oneOp P callf ops place o ts h = oneOp P callf ops place o ts' h := by
  have h1 : ∀ x, x ∈ o.op.operands.toList → evalX ts x = evalX ts' x := fun x hxx => evalX_agree fun t ht => hx t (by
    subst ht
    simp only [readsOf, List.contains_iff_mem, List.mem_append, List.mem_filterMap]
    exact Or.inl ⟨.tmp t, hxx, rfl⟩)
  have h2 : wantedA ops o ts = wantedA ops o ts' := by
    unfold wantedA
    cases hg : o.guard with
    | none => rfl
    | some g =>
      obtain ⟨j, want⟩ := g
      simp only []
      cases hd : (ops[j]?).bind (·.dst) with
      | none => rfl
      | some d =>
        simp only []
        rw [hx d (by simp only [readsOf, hg, hd]; simp)]
  unfold oneOp
  rw [h2, stepOp_agree h1]

theorem keep_len {x : Option AV} {h h' : Heap} {v : AV} (h1 : (x.map fun v => (v, h)) = some (v, h')) : h' = h := by
  cases x with
  | none => cases h1
  | some y => cases h1; rfl

theorem onlyReads_keeps {ts : List AV} {o : Oper} {place : Option Nat} {h h' : Heap} {v : AV} (hr : onlyReads o.op = true) (h1 : oneOp P callf ops place o ts h = some (v, h')) : h' = h := by
  unfold oneOp at h1
  split at h1
  · unfold onlyReads at hr
    split at hr
    · rename_i hop
      rw [hop] at h1
      simp only [stepOp] at h1
      split at h1
      · exact (keep_some h1).2
      · exact nomatch h1
    · rename_i hop
      rw [hop] at h1
      simp only [stepOp] at h1
      split at h1
      · exact (keep_some h1).2
      · exact (keep_some h1).2
      · exact nomatch h1
    · rename_i c hop
      rw [hop] at h1
      simp only [stepOp, callA] at h1
      split at hr
      · rename_i hc
        rw [hc] at h1
        split at h1
        · exact nomatch h1
        · simp only [builtinA] at h1
          split at h1
          all_goals first
            | contradiction
            | exact (keep_len h1)
            | (cases h1; done)
            | (cases h1; rfl)
      · rename_i hc
        rw [hc] at h1
        split at h1
        · exact nomatch h1
        · simp only [builtinA] at h1
          split at h1
          all_goals first
            | contradiction
            | (cases h1; rfl)
            | (cases h1; done)
      · exact nomatch hr
    · exact nomatch hr
  · cases h1; rfl
  · exact nomatch h1

end
end Go.Proofs.Ytfdcjngclelnhaa

set_option linter.unusedSimpArgs false
namespace Go.Proofs.Ytfdcjngclelnhaa
open Go Go.RowKit

def cnt : Nat → (Nat → Bool) → Nat
  | 0, _ => 0
  | n + 1, f => cnt n f + if f n then 1 else 0

theorem cnt_congr : ∀ {n : Nat} {f g : Nat → Bool}, (∀ i, i < n → f i = g i) → cnt n f = cnt n g
  | 0, _, _, _ => rfl
  | n + 1, f, g, h => by simp only [cnt]; rw [cnt_congr fun i hi => h i (by omega), h n (by omega)]

theorem cnt_less : ∀ {n : Nat} {f g : Nat → Bool} {j : Nat}, j < n → f j = true → g j = false → (∀ i, i ≠ j → g i = f i) → cnt n g + 1 = cnt n f
  | 0, _, _, _, h, _, _, _ => by omega
  | n + 1, f, g, j, hj, h1, h2, h3 => by
    simp only [cnt]
    by_cases hn : j = n
    · subst hn
      rw [h1, h2, cnt_congr (f := g) (g := f) fun i hi => h3 i (by omega)]
      simp
    · rw [h3 n (fun e => hn e.symm)]
      have := cnt_less (n := n) (by omega) h1 h2 h3
      omega

theorem cnt_zero : ∀ {n : Nat} {f : Nat → Bool}, cnt n f = 0 → ∀ i, i < n → f i = false
  | 0, _, _, i, h => by omega
  | n + 1, f, h, i, hi => by
    simp only [cnt] at h
    by_cases hn : i = n
    · subst hn
      cases hf : f i with
      | false => rfl
      | true => rw [hf] at h; simp at h
    · have h' : cnt n f = 0 := by omega
      exact cnt_zero h' i (by omega)

theorem cnt_true : ∀ {n : Nat} {f : Nat → Bool}, (∀ i, i < n → f i = true) → cnt n f = n
  | 0, _, _ => rfl
  | n + 1, f, h => by simp only [cnt]; rw [cnt_true fun i hi => h i (by omega), h n (by omega)]; simp

section
variable {P : Program} {callf : CallF} {ops : Array Oper} {N : Nat} {HF : Nat → Option AObj}

structure Look (es : List Ent) (s0 : St) (N : Nat) (S : Nat → Bool) (σ : St) : Prop where
  tmps : ∀ t : Nat, σ.tmps[t]? = lookT t S es s0.tmps[t]?
  heap : ∀ id : Nat, σ.heap[id]? = lookH id S es s0.heap[id]?
  len : σ.heap.length = N

def VS (es : List Ent) (V : Nat → Prop) (S : Nat → Bool) : Nat → Prop := fun id => V id ∧ ∀ (i : Nat) (e : Ent), es[i]? = some e → S i = true → e.place ≠ some id

def SimS (es : List Ent) (s0 : St) (N : Nat) (HF : Nat → Option AObj) (V : Nat → Prop) (K : KW) (S : Nat → Bool) (a : Act) (w : World) : Prop :=
  ∃ σ K', Look es s0 N S σ ∧ Kext K K' ∧ Sim K' σ HF (VS es V S) a w

structure Plan (P : Program) (callf : CallF) (ops : Array Oper) (N : Nat) (es : List Ent) (s0 : St) (V : Nat → Prop) : Prop where
  state : ∀ (i : Nat) (e : Ent), es[i]? = some e → ∃ (o : Oper) (si : St), ops[i]? = some o ∧ EntOk P callf ops N i o e si.tmps si.heap ∧ Look es s0 N (fun j => decide (j < i)) si
  pairs : ∀ (i j : Nat) (e d : Ent), es[i]? = some e → es[j]? = some d → j < i → ((masksA ops.toList [])[i]?.getD 0).testBit j = true ∨ apartD d.d e.d = true
  places : ∀ (i : Nat) (e : Ent) (r : Nat), es[i]? = some e → e.place = some r → V r ∧ r < N
  apart : ∀ (i j : Nat) (e e' : Ent) (r : Nat), es[i]? = some e → es[j]? = some e' → i ≠ j → e.place = some r → e'.place ≠ some r
  len : es.length = ops.size
  vlen : ∀ i, N ≤ i → V i

theorem apartD_ok {a b : Done} (h : apartD a b = true) : (∀ i, a.writes.contains i = true → b.foot.contains i = false) ∧ (∀ i, b.writes.contains i = true → a.foot.contains i = false) ∧ (∀ t, a.dst = some t → b.reads.contains t = false ∧ b.dst ≠ some t) ∧ ∀ t, b.dst = some t → a.reads.contains t = false := by
  simp only [apartD, Bool.and_eq_true] at h
  obtain ⟨⟨⟨h1, h2⟩, h3⟩, h4⟩ := h
  refine ⟨fun i hi => ?_, fun i hi => ?_, fun t ht => ?_, fun t ht => ?_⟩
  · cases hb : b.foot.contains i with
    | false => rfl
    | true => exact (apartL_ok h1 hi hb).elim
  · cases hb : a.foot.contains i with
    | false => rfl
    | true => exact (apartL_ok h2 hi hb).elim
  · rw [ht] at h3
    simp only [Bool.and_eq_true] at h3
    exact ⟨by simpa using h3.1, by simpa using h3.2⟩
  · rw [ht] at h4
    simpa using h4

theorem mask_closed {S : Nat → Bool} (hS : Closed ops.toList S) {j : Nat} {o : Oper} (ho : ops[j]? = some o) (hp : ∀ e, e ∈ o.after.toList → Region.binds .any e = true → S e.on = true) {k : Nat} (hk : ((masksA ops.toList [])[j]?.getD 0).testBit k = true) : S k = true := by
  cases hm : (masksA ops.toList [])[j]? with
  | none => rw [hm] at hk; simp at hk
  | some m =>
    rw [hm] at hk
    refine masks_ok hS (acc := []) (fun i => by simp) (fun i m hi => by simp at hi) j m hm (fun o' ho' e he hb => ?_) k hk
    rw [Array.getElem?_toList, ho] at ho'
    cases ho'
    exact hp e he hb

theorem writes_foot {o : Oper} {e : Ent} (hw : e.d.writes = writesOf o.op e.d.foot) {id : Nat} (h : e.d.writes.contains id = true) : e.d.foot.contains id = true := by
  rw [hw] at h
  unfold writesOf at h
  split at h
  · simp at h
  · exact h

theorem draw_step (hcall : CallOk P callf) {es : List Ent} {s0 : St} {V : Nat → Prop} {K : KW} (hpl : Plan P callf ops N es s0 V) {S : Nat → Bool} (hS : Closed ops.toList S) {j : Nat} {o : Oper} (ho : ops[j]? = some o) (hj : S j = false)
    (hp : ∀ e, e ∈ o.after.toList → Region.binds .any e = true → S e.on = true) {a : Act} {w : World} (hsim : SimS es s0 N HF V K S a w) {Q : Exit → Act → World → Prop} :
    wpOp P ops Q j (SimS es s0 N HF V K (fun k => S k || k == j)) a w := by
  have hjl : j < es.length := by
    rw [hpl.len]
    rcases Nat.lt_or_ge j ops.size with h | h
    · exact h
    · rw [Array.getElem?_eq_none h] at ho; exact nomatch ho
  obtain ⟨e, he⟩ : ∃ e, es[j]? = some e := ⟨_, List.getElem?_eq_getElem hjl⟩
  obtain ⟨o', sj, ho', hent, hlook⟩ := hpl.state j e he
  obtain rfl : o' = o := by rw [ho] at ho'; exact (Option.some.inj ho').symm
  obtain ⟨σ, K', hσ, hext, hs⟩ := hsim
  -- what is done agrees with what the text had done, where this operation looks
  have hcl : ∀ (k : Nat) (d : Ent), es[k]? = some d → (S k = true ∧ ¬ k < j ∨ S k = false ∧ k < j) → (∀ i, d.d.writes.contains i = true → e.d.foot.contains i = false) ∧ (∀ t, d.d.dst = some t → e.d.reads.contains t = false) := fun k d hd hcase => by
    rcases hcase with ⟨h1, h2⟩ | ⟨h1, h2⟩
    · have hne : k ≠ j := by rintro rfl; rw [hj] at h1; exact nomatch h1
      rcases hpl.pairs k j d e hd he (by omega) with hb | hb
      · exfalso
        obtain ⟨ok, sk, hok, _, _⟩ := hpl.state k d hd
        have := mask_closed hS hok (fun x hx hxb => hS k ok h1 (by rw [Array.getElem?_toList]; exact hok) x hx hxb) hb
        rw [hj] at this
        exact nomatch this
      · obtain ⟨q1, q2, q3, q4⟩ := apartD_ok hb
        exact ⟨q2, q4⟩
    · rcases hpl.pairs j k e d he hd h2 with hb | hb
      · exfalso
        have := mask_closed hS ho hp hb
        rw [h1] at this
        exact nomatch this
      · obtain ⟨q1, q2, q3, q4⟩ := apartD_ok hb
        exact ⟨q1, fun t ht => (q3 t ht).1⟩
  have hSk : ∀ (k : Nat) (d : Ent), es[k]? = some d → ¬ (S k = true ∧ ¬ k < j ∨ S k = false ∧ k < j) → S k = decide (k < j) := fun k d _ hn => by
    cases hk : S k with
    | true => by_cases hlt : k < j
              · simp [hlt]
              · exact absurd (Or.inl ⟨hk, hlt⟩) hn
    | false => by_cases hlt : k < j
               · exact absurd (Or.inr ⟨hk, hlt⟩) hn
               · simp [hlt]
  have hag : Agree σ.tmps sj.tmps (readsOf ops o') := fun t ht => by
    rw [hσ.tmps, hlook.tmps]
    refine lookT_congr fun k d hd hdt => ?_
    by_cases hc : S k = true ∧ ¬ k < j ∨ S k = false ∧ k < j
    · have := (hcl k d hd hc).2 t hdt
      rw [hent.reads] at this
      rw [this] at ht
      exact nomatch ht
    · exact hSk k d hd hc
  have hheap : restrictA e.d.foot 0 σ.heap = restrictA e.d.foot 0 sj.heap := by
    apply List.ext_getElem?
    intro id
    rw [restrict_get, restrict_get, Nat.zero_add]
    split
    · rename_i hin
      rw [hσ.heap, hlook.heap]
      refine lookH_congr fun k d hd hdw => ?_
      by_cases hc : S k = true ∧ ¬ k < j ∨ S k = false ∧ k < j
      · have := (hcl k d hd hc).1 id hdw
        rw [this] at hin
        exact nomatch hin
      · exact hSk k d hd hc
    · have : ∀ h : Heap, h.length = N → (h[id]?.map fun _ => (none : Option AObj)) = if id < N then some none else none := fun h hh => by
        split
        · rename_i hlt; rw [List.getElem?_eq_getElem (by omega)]; rfl
        · rename_i hge; rw [List.getElem?_eq_none (by omega)]; rfl
      rw [this _ hσ.len, this _ hlook.len]
  have hone : oneOp P callf ops e.place o' σ.tmps (restrictA e.d.foot 0 σ.heap) = some (e.v, e.h) := by
    rw [oneOp_agree hag, hheap]
    exact hent.one
  -- the frame that fills what was hidden
  let HFj : Nat → Option AObj := fun id => if e.d.foot.contains id then HF id else comb σ.heap HF id
  have hcomb : comb (restrictA e.d.foot 0 σ.heap) HFj = comb σ.heap HF := by
    funext id
    have hg := restrict_get (F := e.d.foot) (h := σ.heap) (i := 0) id
    rw [Nat.zero_add] at hg
    by_cases hin : e.d.foot.contains id = true
    · rw [if_pos hin] at hg
      simp only [comb, hg, HFj, hin, if_true]
    · rw [if_neg hin] at hg
      cases hx : σ.heap[id]? with
      | none => rw [hx] at hg; simp [comb, hg, hx]
      | some x =>
        rw [hx] at hg
        have hin' : e.d.foot.contains id = false := by simpa using hin
        simp only [comb, hg, Option.map_some, HFj, hin', Bool.false_eq_true, if_false]
  have hfit : Fit K' (restrictA e.d.foot 0 σ.heap) HFj (VS es V S) w := ⟨by rw [hcomb]; exact hs.fit.ok, fun id x hx => by
    have hg := restrict_get (F := e.d.foot) (h := σ.heap) (i := 0) id
    rw [Nat.zero_add] at hg
    by_cases hin : e.d.foot.contains id = true
    · rw [if_pos hin] at hg
      simp only [HFj, hin, if_true] at hx
      rw [hg]; exact hs.fit.hf id x hx
    · have hin' : e.d.foot.contains id = false := by simpa using hin
      simp only [HFj, hin', Bool.false_eq_true, if_false] at hx
      rw [if_neg hin] at hg
      rw [hg]
      cases hx' : σ.heap[id]? with
      | none => simp [comb, hx'] at hx
      | some y => rfl, fun i hi => hs.fit.vlen i (by rw [restrict_length] at hi; exact hi)⟩
  have hplace : ∀ r, e.place = some r → VS es V S r ∧ r < (restrictA e.d.foot 0 σ.heap).length := fun r hr => by
    obtain ⟨q1, q2⟩ := hpl.places j e r he hr
    refine ⟨⟨q1, fun i e' hi hSi => ?_⟩, by rw [restrict_length, hσ.len]; exact q2⟩
    have hne : j ≠ i := by rintro rfl; rw [hj] at hSi; exact nomatch hSi
    exact hpl.apart j i e e' r he hi hne hr
  refine (one_ok hcall ho hs.tmps hfit hplace hone fun u w' K'' hk hd hf => ?_).1
  -- the state with one more done
  have hlen : e.h.length = σ.heap.length := by rw [hent.len, hσ.len]
  have hset := setIds_get (W := e.d.writes) (h := σ.heap) (h' := e.h) hlen
  have hnot : ∀ (k : Nat) (d : Ent), j < k → es[k]? = some d → S k = true → (∀ i, e.d.writes.contains i = true → d.d.writes.contains i = false) ∧ ∀ t, e.d.dst = some t → d.d.dst ≠ some t := fun k d hlt hd hSk' => by
    rcases hpl.pairs k j d e hd he hlt with hb | hb
    · exfalso
      obtain ⟨ok, sk, hok, _, _⟩ := hpl.state k d hd
      have := mask_closed hS hok (fun x hx hxb => hS k ok hSk' (by rw [Array.getElem?_toList]; exact hok) x hx hxb) hb
      rw [hj] at this
      exact nomatch this
    · obtain ⟨q1, q2, q3, q4⟩ := apartD_ok hb
      refine ⟨fun i hi => ?_, fun t ht => (q3 t ht).2⟩
      obtain ⟨ok, sk, hok, hek, _⟩ := hpl.state k d hd
      cases hc : d.d.writes.contains i with
      | false => rfl
      | true =>
        have h1 := q1 i hi
        rw [writes_foot hek.writes hc] at h1
        exact nomatch h1
  refine ⟨⟨putA σ.tmps o'.dst e.v, setIds σ.heap e.h e.d.writes⟩, K'', ⟨fun t => ?_, fun id => ?_, by simp only; rw [hset.1, hσ.len]⟩, hext.trans hk, ⟨den_put (hs.tmps.mono hk) hd _, by rw [put_defers]; exact hs.defers, ?_, fun id x hx => ?_, fun i hi => ?_⟩⟩
  · rw [lookT_more (S := S) he (fun k => rfl) fun hdst k e' hlt hk' hdt => by
      cases hSk' : S k with
      | false => rfl
      | true => exact absurd hdt ((hnot k e' hlt hk' hSk').2 t hdst)]
    rw [putA_get, ← hent.dst]
    by_cases hdt : e.d.dst = some t
    · rw [if_pos hdt, hdt]
      simp only [beq_self_eq_true, if_true]
      rw [hσ.tmps]
      -- in range or not, as at the start
      have : ∀ (S : Nat → Bool) (es : List Ent) (b : Option AV), (lookT t S es b).map (fun _ => e.v) = b.map fun _ => e.v := by
        intro S es
        induction es generalizing S with
        | nil => intro b; rfl
        | cons x es ih =>
          intro b
          simp only [lookT]
          rw [ih]
          split
          · cases b <;> rfl
          · rfl
      rw [this]
    · rw [if_neg hdt]
      have hf2 : (e.d.dst == some t) = false := by simpa using hdt
      rw [hf2]
      simp only [Bool.false_eq_true, if_false]
      exact hσ.tmps t
  · rw [lookH_more (S := S) he (fun k => rfl) fun hw k e' hlt hk' hdw => by
      cases hSk' : S k with
      | false => rfl
      | true => have := (hnot k e' hlt hk' hSk').1 id hw; rw [hdw] at this; exact nomatch this]
    rw [hset.2 id]
    split
    · rfl
    · exact hσ.heap id
  · -- the world fits
    have hVS : ∀ i, VS es V (fun k => S k || k == j) i → afterV e.place (restrictA e.d.foot 0 σ.heap).length e.h.length (VS es V S) i := fun i hi => by
      refine ⟨⟨hi.1, fun k d hd hSk' => hi.2 k d hd (by simp [hSk'])⟩, hi.2 j e he (by simp), ?_⟩
      rw [restrict_length, hlen]
      omega
    have hfin : comb (setIds σ.heap e.h e.d.writes) HF = comb e.h HFj := by
      funext id
      have h1 := hset.2 id
      by_cases hw : e.d.writes.contains id = true
      · have hin := writes_foot hent.writes hw
        rw [if_pos hw] at h1
        simp only [comb, h1, HFj, hin, if_true]
      · rw [if_neg hw] at h1
        by_cases hin : e.d.foot.contains id = true
        · -- looked at alone
          have hor : onlyReads o'.op = true := by
            rw [hent.writes] at hw
            unfold writesOf at hw
            split at hw
            · rename_i h2; exact h2
            · exact absurd hin hw
          have hkeep := onlyReads_keeps hor hone
          have hg := restrict_get (F := e.d.foot) (h := σ.heap) (i := 0) id
          rw [Nat.zero_add, if_pos hin, ← hkeep] at hg
          simp only [comb, h1, hg, HFj, hin, if_true]
        · have hin' : e.d.foot.contains id = false := by simpa using hin
          rcases Nat.lt_or_ge id e.h.length with hlt | hge
          · have := holes_get hent.holes id hlt (by rw [Nat.zero_add]; exact hin')
            simp only [comb, h1, this, HFj, hin', Bool.false_eq_true, if_false]
          · simp only [comb, h1, List.getElem?_eq_none (l := σ.heap) (i := id) (by omega), List.getElem?_eq_none hge]
    rw [hfin]
    exact hf.ok.virgin hVS
  · rw [hset.2 id]
    split
    · rename_i hw
      have hin := writes_foot hent.writes hw
      exact hf.hf id x (by simp only [HFj, hin, if_true]; exact hx)
    · exact hs.fit.hf id x hx
  · simp only [hset.1, hσ.len] at hi
    refine ⟨hpl.vlen i hi, fun k d hd _ hr => ?_⟩
    have := (hpl.places k d i hd hr).2
    omega

theorem draw_any (hcall : CallOk P callf) {es : List Ent} {s0 : St} {V : Nat → Prop} {K : KW} (hpl : Plan P callf ops N es s0 V) {Q : Exit → Act → World → Prop} (hfin : ∀ a w, SimS es s0 N HF V K (fun _ => true) a w → Q .normal a w) :
    ∀ (fuel : Nat) (listed : Array Bool) (a : Act) (w : World), listed.size = ops.size → cnt ops.size (fun i => !listed.getD i true) = fuel → Closed ops.toList (fun k => listed.getD k false) → SimS es s0 N HF V K (fun k => listed.getD k false) a w → wpAny P .any ops Q fuel listed a w := by
  have hall : ∀ (listed : Array Bool), listed.size = ops.size → (∀ i, i < ops.size → listed.getD i true = true) → ∀ a w, SimS es s0 N HF V K (fun k => listed.getD k false) a w → Q .normal a w := fun listed hsz hl a w ⟨σ, K', h1, h2, h3⟩ => by
    have hS : ∀ (k : Nat) (e : Ent), es[k]? = some e → listed.getD k false = true := fun k e hk => by
      have hlt := lt_of_some hk
      rw [hpl.len] at hlt
      have := hl k hlt
      rw [Array.getD_eq_getD_getElem?, Array.getElem?_eq_getElem (by omega)] at this ⊢
      exact this
    refine hfin a w ⟨σ, K', ⟨fun t => ?_, fun id => ?_, h1.len⟩, h2, ⟨h3.tmps, h3.defers, h3.fit.virgin (fun i hi => ⟨hi.1, fun k e hk _ => hi.2 k e hk rfl⟩) fun i hi => ?_⟩⟩
    · rw [h1.tmps]; exact lookT_congr fun k e hk _ => hS k e hk
    · rw [h1.heap]; exact lookH_congr fun k e hk _ => hS k e hk
    · rw [h1.len] at hi
      refine ⟨hpl.vlen i hi, fun k d hd _ hr => ?_⟩
      have := (hpl.places k d i hd hr).2
      omega
  have hready : ∀ (listed : Array Bool) (i : Nat), i ∈ Region.ready .any ops listed ↔ i < ops.size ∧ listed.getD i true = false ∧ ∃ o, ops[i]? = some o ∧ ∀ e, e ∈ o.after.toList → Region.binds .any e = true → listed.getD e.on false = true := fun listed i => by
    unfold Region.ready
    rw [List.mem_filter]
    simp only [List.mem_range, Bool.and_eq_true]
    constructor
    · rintro ⟨h1, h2, h3⟩
      refine ⟨h1, by simpa using h2, ?_⟩
      cases ho : ops[i]? with
      | none => rw [ho] at h3; simp at h3
      | some o =>
        rw [ho] at h3
        simp only [Option.map_some, Option.getD_some] at h3
        refine ⟨o, rfl, fun e he hb => ?_⟩
        rw [← Array.all_toList] at h3
        have := List.all_eq_true.1 h3 e he
        simpa [hb] using this
    · rintro ⟨h1, h2, o, ho, h3⟩
      refine ⟨h1, by simpa using h2, ?_⟩
      rw [ho]
      simp only [Option.map_some, Option.getD_some]
      rw [← Array.all_toList, List.all_eq_true]
      intro e he
      cases hb : Region.binds .any e with
      | false => rfl
      | true => simpa using h3 e he hb
  have hnil : ∀ (listed : Array Bool), listed.size = ops.size → Region.ready .any ops listed = [] → ∀ i, i < ops.size → listed.getD i true = true := fun listed hsz hr i => by
    induction i using Nat.strongRecOn with
    | _ i ih =>
      intro hi
      cases hl : listed.getD i true with
      | true => rfl
      | false =>
        exfalso
        have hmem : i ∈ Region.ready .any ops listed := (hready listed i).2 ⟨hi, hl, ops[i], Array.getElem?_eq_getElem hi, fun x hx hb => by
          obtain ⟨e, he⟩ : ∃ e, es[i]? = some e := ⟨_, List.getElem?_eq_getElem (by rw [hpl.len]; exact hi)⟩
          obtain ⟨o', sj, ho', hent, _⟩ := hpl.state i e he
          rw [Array.getElem?_eq_getElem hi] at ho'
          cases ho'
          have hlt := hent.edges x hx hb
          have := ih x.on hlt (by omega)
          rw [Array.getD_eq_getD_getElem?, Array.getElem?_eq_getElem (by omega)] at this ⊢
          exact this⟩
        rw [hr] at hmem
        simp at hmem
  intro fuel
  induction fuel with
  | zero =>
    intro listed a w hsz hc hcl hsim
    have hl : ∀ i, i < ops.size → listed.getD i true = true := fun i hi => by have := cnt_zero hc i hi; simpa using this
    refine ⟨?_, hall listed hsz hl a w hsim⟩
    cases hr : Region.ready .any ops listed with
    | nil => rfl
    | cons x xs =>
      have := (hready listed x).1 (by rw [hr]; simp)
      rw [hl x this.1] at this
      exact nomatch this.2.1
  | succ fuel ih =>
    intro listed a w hsz hc hcl hsim
    refine ⟨fun hr => hall listed hsz (hnil listed hsz hr) a w hsim, fun i hi => ?_⟩
    obtain ⟨h1, h2, o, ho, h3⟩ := (hready listed i).1 hi
    have hgd : ∀ (k : Nat) (b : Bool), (listed.setIfInBounds i true).getD k b = if k = i then true else listed.getD k b := fun k b => by
      rw [Array.getD_eq_getD_getElem?, Array.getElem?_setIfInBounds, Array.getD_eq_getD_getElem?]
      by_cases hk : i = k
      · subst hk; simp [hsz, h1]
      · rw [if_neg hk, if_neg (fun e => hk e.symm)]
    have hfalse : listed.getD i false = false := by
      rw [Array.getD_eq_getD_getElem?, Array.getElem?_eq_getElem (by omega)] at h2 ⊢
      exact h2
    have hstep := draw_step (Q := Q) hcall hpl hcl ho hfalse h3 hsim
    refine wpOp_mono (fun a' w' hs => ?_) hstep
    have hSe : (fun k => listed.getD k false || k == i) = fun k => (listed.setIfInBounds i true).getD k false := by
      funext k
      rw [hgd]
      by_cases hk : k = i
      · subst hk; simp
      · simp [hk]
    rw [hSe] at hs
    refine ih (listed.setIfInBounds i true) a' w' (by simp [hsz]) ?_ (fun k ok hk hok x hx hb => ?_) hs
    · have := cnt_less (n := ops.size) (f := fun k => !listed.getD k true) (g := fun k => !(listed.setIfInBounds i true).getD k true) (j := i) h1 (by simp [h2]) (by simp [hgd]) fun k hk => by simp [hgd, hk]
      omega
    · have hk : (listed.setIfInBounds i true).getD k false = true := hk
      show (listed.setIfInBounds i true).getD x.on false = true
      rw [hgd] at hk ⊢
      split
      · rfl
      · split at hk
        · rename_i hki
          subst hki
          rw [Array.getElem?_toList, ho] at hok
          cases hok
          exact h3 x hx hb
        · exact hcl k ok hk hok x hx hb

theorem rep_false {n : Nat} (k : Nat) : (Array.replicate n false).getD k false = false := by
  rw [Array.getD_eq_getD_getElem?, Array.getElem?_replicate]
  split <;> rfl

theorem regionDraw_ok (hm : P.follows .mixedOrders = true) (hcall : CallOk P callf) {s s' : St} {K : KW} {V : Nat → Prop} {a : Act} {w : World} {id : Nat} {Q : Exit → Act → World → Prop} (hr : regionDraw P callf ops s = some s') (hsim : Sim K s HF V a w) :
    s.heap.length ≤ s'.heap.length ∧ ((∀ a' w' K', Kext K K' → Sim K' s' HF (afterV none s.heap.length s'.heap.length V) a' w' → Q .normal a' w') → (Code.region id ops true).wp P Q a w) := by
  unfold regionDraw at hr
  dsimp only at hr
  generalize hh0 : s.heap ++ List.replicate (countBoxes ops.toList) none = h0 at hr
  have hN : h0.length = s.heap.length + countBoxes ops.toList := by rw [← hh0]; simp
  obtain ⟨es, g1, g2, g3, g4⟩ := regionD_logs hr
  obtain ⟨e1, e2, e3, e4⟩ := logs_end g1 rfl
  refine ⟨by rw [e3, hN]; omega, fun hq => ?_⟩
  have hpl : Plan P callf ops h0.length es ⟨s.tmps, h0⟩ V := {
    state := fun i e hi => by
      obtain ⟨o, si, q1, q2, q3, q4, q5⟩ := logs_state g1 rfl i e hi
      exact ⟨o, si, by rw [← Array.getElem?_toList]; exact q1, by simpa using q2, q3, q4, q5⟩
    pairs := fun i j e d hi hj hlt => g2 i e hi j d.d (by simp [hj]) (by simpa using hlt)
    places := fun i e r hi hr => by
      have := g3 i e r hi hr
      exact ⟨hsim.fit.vlen r (by omega), by omega⟩
    apart := fun i j e e' r hi hj hne hr => by
      rcases Nat.lt_or_ge i j with h | h
      · exact g4 i j e e' r hi hj h hr
      · intro hr'
        exact g4 j i e' e r hj hi (by omega) hr' hr
    len := by rw [e4]; simp
    vlen := fun i hi => hsim.fit.vlen i (by omega) }
  have hcomb : comb h0 HF = comb s.heap HF := by
    funext i
    simp only [comb, ← hh0]
    rcases Nat.lt_or_ge i s.heap.length with h | h
    · rw [List.getElem?_append_left h]
    · rw [List.getElem?_append_right h, List.getElem?_eq_none (l := s.heap) h]
      cases hx : (List.replicate (countBoxes ops.toList) (none : Option AObj))[i - s.heap.length]? with
      | none => rfl
      | some x =>
        have := List.mem_of_getElem? hx
        rw [(List.mem_replicate.1 this).2]
        exact hsim.fit.hf_virgin (hsim.fit.vlen i h)
  refine wp_region_any hm (draw_any (HF := HF) (N := h0.length) (s0 := ⟨s.tmps, h0⟩) (V := V) (K := K) hcall hpl (fun a' w' hs => ?_) ops.size _ a _ (by simp) ?_ (fun i o hi => ?_) ?_)
  · obtain ⟨σ, K', hl, hk, hs⟩ := hs
    refine hq a' w' K' hk ⟨?_, hs.defers, ?_⟩
    · have : σ.tmps = s'.tmps := by
        apply List.ext_getElem?
        intro t
        rw [hl.tmps, e1]
      rw [← this]; exact hs.tmps
    · have : σ.heap = s'.heap := by
        apply List.ext_getElem?
        intro t
        rw [hl.heap, e2]
      rw [← this]
      refine hs.fit.virgin (fun i hi => ⟨hi.1, fun k d hd _ hr => ?_⟩) fun i hi => ⟨hsim.fit.vlen i (by rw [hl.len] at hi; omega), (by intro e; cases e), Or.inr hi⟩
      have hp := g3 k d i hd hr
      have hii := hi.2.2
      rw [hl.len] at hii
      omega
  · exact cnt_true fun i hi => by simp [Array.getD_eq_getD_getElem?, hi]
  · exact absurd hi (by simp only [rep_false i]; simp)
  · refine ⟨⟨s.tmps, h0⟩, K, ⟨fun t => ?_, fun i => ?_, rfl⟩, Kext.refl K, hsim.tmps, hsim.defers, ?_, fun i o hi => ?_, fun i hi => ⟨hsim.fit.vlen i (by simp only at hi; omega), fun k d hd hSk => ?_⟩⟩
    · rw [lookT_none]; intro k e _ _; exact rep_false k
    · rw [lookH_none]; intro k e _ _; exact rep_false k
    · rw [hcomb]
      exact (hsim.fit.ok.drew).virgin fun i hi => hi.1
    · have := hsim.fit.hf i o hi
      simp only [← hh0]
      rw [List.getElem?_append_left (lt_of_some this)]; exact this
    · exfalso
      exact absurd hSk (by simp only [rep_false k]; simp)

end
end Go.Proofs.Ytfdcjngclelnhaa

set_option linter.unusedSimpArgs false
namespace Go.Proofs.Ytfdcjngclelnhaa
open Go Go.RowKit

def exOf : Ex → Exit
  | .normal => .normal
  | .exit i => .exit i
  | .goto l => .goto l
  | .ret => .ret

def CallFOk (P : Program) (f : FuncId) (p : Prim) : Prop :=
  ∀ args h v h', p args h = some (v, h') → h.length ≤ h'.length ∧ ∀ (K : KW) (HF : Nat → Option AObj) (V : Nat → Prop) (w : World) (vargs : Array Value), DenL K args vargs.toList → Fit K h HF V w →
    CallGives P ((callFunc f vargs).run P w) fun u w' => ∃ K', Kext K K' ∧ Den K' v u ∧ Fit K' h' HF (afterV none h.length h'.length V) w'

def PrimsOk (P : Program) (prim : FuncId → Option Prim) : Prop := ∀ f p, prim f = some p → CallFOk P f p

structure ProgOk (P : Program) : Prop where
  mixed : P.follows .mixedOrders = true
  named : P.funcs.toList.all (fun fn => fn.body.isNone || !(fn.name == "runtime.NumGoroutine")) = true

def RunOk (P : Program) (r : Code → St → Option (Ex × St)) : Prop :=
  ∀ c s e s', r c s = some (e, s') → s.heap.length ≤ s'.heap.length ∧ ∀ (K : KW) (HF : Nat → Option AObj) (V : Nat → Prop) (a : Act) (w : World) (Q : Exit → Act → World → Prop), Sim K s HF V a w →
    (∀ a' w' K', Kext K K' → Sim K' s' HF (afterV none s.heap.length s'.heap.length V) a' w' → Q (exOf e) a' w') → c.wp P Q a w

/- what a call lets go -/

def restrictK (n : Nat) (K : KW) : KW :=
  { K with blk := fun i => if i < n then K.blk i else none, key := fun k => match k with | .tip i m => if i < n then K.key (.tip i m) else none | .at i o v => if i < n then K.key (.at i o v) else none }

section
variable {P : Program} {K : KW} {w : World} {HF : Nat → Option AObj} {V : Nat → Prop}

theorem restrict_tip {n i m : Nat} (h : i < n) : (restrictK n K).key (.tip i m) = K.key (.tip i m) := by simp [restrictK, h]
theorem restrict_at {n i o v : Nat} (h : i < n) : (restrictK n K).key (.at i o v) = K.key (.at i o v) := by simp [restrictK, h]
theorem restrict_blk {n i : Nat} (h : i < n) : (restrictK n K).blk i = K.blk i := by simp [restrictK, h]

theorem undersL_index {n : Nat} : ∀ {l : List AV}, undersL n l = true → ∀ (j : Nat) (x : AV), l[j]? = some x → x.under n = true
  | [], _, j, x, h => by simp at h
  | y :: l, h, j, x, hx => by
    simp only [undersL, Bool.and_eq_true] at h
    cases j with
    | zero => simp at hx; subst hx; exact h.1
    | succ j => exact undersL_index h.2 j x (by simpa using hx)

theorem den_restrict {n : Nat} {x : AV} {v : Value} (h : Den K x v) (hu : x.under n = true) : Den (restrictK n K) x v := by
  induction h with
  | dat h => exact .dat h
  | full es a b o sz ha h => exact .full es a b o sz ha h
  | tip id es r hr hcap h => simp only [AV.under, decide_eq_true_eq] at hu; exact .tip id es r (by rw [restrict_tip hu]; exact hr) hcap h
  | «at» id off ver es r hr hcap h => simp only [AV.under, decide_eq_true_eq] at hu; exact .at id off ver es r (by rw [restrict_at hu]; exact hr) hcap h
  | pnil => exact .pnil
  | ptr id off b h => simp only [AV.under, decide_eq_true_eq] at hu; exact .ptr id off b (by rw [restrict_blk hu]; exact h)
  | ep cs off b o vs h hv => exact .ep cs off b o vs h hv
  | func fn a c va vc hla _ hlc _ iha ihc =>
    simp only [AV.under, Bool.and_eq_true] at hu
    exact .func fn a c va vc hla (fun j x v h1 h2 => iha j x v h1 h2 (undersL_index hu.1 j x h1)) hlc fun j x v h1 h2 => ihc j x v h1 h2 (undersL_index hu.2 j x h1)
  | nilFunc => exact .nilFunc
  | iface t _ ih => simp only [AV.under] at hu; exact .iface t (ih hu)
  | nilIface => exact .nilIface
  | agg cs vs hl _ ih => simp only [AV.under] at hu; exact .agg cs vs hl fun j x v h1 h2 => ih j x v h1 h2 (undersL_index hu j x h1)
  | tuple cs vs hl _ ih => simp only [AV.under] at hu; exact .tuple cs vs hl fun j x v h1 h2 => ih j x v h1 h2 (undersL_index hu j x h1)
  | sdata id off ver es r hr hcap h => simp only [AV.under, decide_eq_true_eq] at hu; exact .sdata id off ver es r (by rw [restrict_at hu]; exact hr) hcap h

theorem denL_restrict {n : Nat} {xs : List AV} {vs : List Value} (h : DenL K xs vs) (hu : undersL n xs = true) : DenL (restrictK n K) xs vs := by
  induction h with
  | nil => exact .nil
  | cons hd _ ih =>
    simp only [undersL, Bool.and_eq_true] at hu
    exact .cons (den_restrict hd hu.1) (ih hu.2)

mutual
theorem under_mono {n m : Nat} (h : n ≤ m) : ∀ {x : AV}, x.under n = true → x.under m = true
  | .dat _, _ => rfl
  | .own .full _, _ => rfl
  | .own (.tip i) _, hx => by simp only [AV.under, decide_eq_true_eq] at hx ⊢; omega
  | .own (.at i _ _ _) _, hx => by simp only [AV.under, decide_eq_true_eq] at hx ⊢; omega
  | .ptr none, _ => rfl
  | .ptr (some (i, _)), hx => by simp only [AV.under, decide_eq_true_eq] at hx ⊢; omega
  | .ep _ _, _ => rfl
  | .func _ a c, hx => by simp only [AV.under, Bool.and_eq_true] at hx ⊢; exact ⟨undersL_mono h hx.1, undersL_mono h hx.2⟩
  | .nilFunc, _ => rfl
  | .iface _ v, hx => by simp only [AV.under] at hx ⊢; exact under_mono h hx
  | .nilIface, _ => rfl
  | .agg cs, hx => by simp only [AV.under] at hx ⊢; exact undersL_mono h hx
  | .tuple cs, hx => by simp only [AV.under] at hx ⊢; exact undersL_mono h hx
  | .sdata i _ _ _ _, hx => by simp only [AV.under, decide_eq_true_eq] at hx ⊢; omega
theorem undersL_mono {n m : Nat} (h : n ≤ m) : ∀ {l : List AV}, undersL n l = true → undersL m l = true
  | [], _ => rfl
  | x :: l, hx => by simp only [undersL, Bool.and_eq_true] at hx ⊢; exact ⟨under_mono h hx.1, undersL_mono h hx.2⟩
end

theorem comb_take {h : Heap} {n i : Nat} : comb (h.take n) HF i = if i < n then comb h HF i else none := by
  simp only [comb, List.getElem?_take]
  by_cases hi : i < n
  · simp only [if_pos hi]
  · simp only [if_neg hi]

theorem OkW.restrict {hc : Nat → Option AObj} {ow : Nat → Option OKey} {n n' : Nat} (hk : OkW K hc (afterV none n n' V) w ow) : OkW (restrictK n K) (fun i => if i < n then hc i else none) V w ow := by
  have hfree : ∀ r m, Free K w r m → Free (restrictK n K) w r m := fun r m hf => ⟨hf.blk, hf.imm, hf.base⟩
  refine ⟨hk.imm, hk.below, fun id e cs ver hid => ?_, fun id e m sz hid => ?_, fun id e m sz hid => ?_, fun i hi => ?_, fun id e cs ver hid => ?_, hk.own⟩
  · by_cases hi : id < n
    · simp only [if_pos hi] at hid
      obtain ⟨b, vs, hb⟩ := hk.box id e cs ver hid
      refine ⟨b, vs, by rw [restrict_blk hi]; exact hb.blk, hb.own, hb.base, hb.heap, hb.imm, denL_restrict hb.den (undersL_mono (by omega) hb.under), fun j c hj => ?_, hb.under⟩
      have := hb.cell j c hj
      unfold CellOk at this ⊢
      split at this
      · exact this
      · obtain ⟨h1, h2, h3, r, h4, h5, h6, h7⟩ := this
        exact ⟨h1, h2, h3, r, by rw [restrict_at hi]; exact h4, h5, hfree _ _ h6, h7⟩
      · trivial
    · simp only [if_neg hi] at hid; exact nomatch hid
  · by_cases hi : id < n
    · simp only [if_pos hi] at hid
      obtain ⟨r, h1, h2, h3, h4, h5⟩ := hk.tip id e m sz hid
      exact ⟨r, by rw [restrict_tip hi]; exact h1, h2, h3, hfree _ _ h4, h5⟩
    · simp only [if_neg hi] at hid; exact nomatch hid
  · by_cases hi : id < n
    · simp only [if_pos hi] at hid
      intro m' hm'
      rw [restrict_tip hi]
      exact hk.more id e m sz hid m' hm'
    · simp only [if_neg hi] at hid; exact nomatch hid
  · by_cases hin : i < n
    · obtain ⟨g1, g2, g3, g4⟩ := hk.fresh i ⟨hi, (by intro e; cases e), Or.inl hin⟩
      exact ⟨by simp only [if_pos hin]; exact g1, by rw [restrict_blk hin]; exact g2, fun m => by rw [restrict_tip hin]; exact g3 m, fun o v => by rw [restrict_at hin]; exact g4 o v⟩
    · exact ⟨by simp only [if_neg hin], by simp [restrictK, hin], fun m => by simp [restrictK, hin], fun o v => by simp [restrictK, hin]⟩
  · by_cases hi : id < n
    · simp only [if_pos hi] at hid
      intro o v hv
      rw [restrict_at hi]
      exact hk.ver id e cs ver hid o v hv
    · simp only [if_neg hi] at hid; exact nomatch hid

theorem Fit.letGo {K' : KW} {w' : World} {h h' : Heap} (hk : Fit K h HF V w) (hext : Kext K K') (hk' : Fit K' h' HF (afterV none h.length h'.length V) w') (hle : h.length ≤ h'.length) :
    Kext K (restrictK h.length K') ∧ Fit (restrictK h.length K') (h'.take h.length) HF (afterV none h.length (h'.take h.length).length V) w' := by
  have hlen : (h'.take h.length).length = h.length := by simp; omega
  obtain ⟨ow, hok⟩ := hk.ok
  constructor
  · refine ⟨hext.base, hext.imm, fun i b hb => ?_, fun k r hr => ?_, hext.old⟩
    · have hi : i < h.length := by
        rcases Nat.lt_or_ge i h.length with h1 | h1
        · exact h1
        · have := (hok.fresh i (hk.vlen i h1)).2.1
          rw [hb] at this; exact nomatch this
      rw [restrict_blk hi]; exact hext.blk i b hb
    · cases k with
      | tip i m =>
        have hi : i < h.length := by
          rcases Nat.lt_or_ge i h.length with h1 | h1
          · exact h1
          · have := (hok.fresh i (hk.vlen i h1)).2.2.1 m
            rw [hr] at this; exact nomatch this
        rw [restrict_tip hi]; exact hext.key _ r hr
      | «at» i o v =>
        have hi : i < h.length := by
          rcases Nat.lt_or_ge i h.length with h1 | h1
          · exact h1
          · have := (hok.fresh i (hk.vlen i h1)).2.2.2 o v
            rw [hr] at this; exact nomatch this
        rw [restrict_at hi]; exact hext.key _ r hr
  · obtain ⟨ow', hok'⟩ := hk'.ok
    have := hok'.restrict
    have hc : (fun i => if i < h.length then comb h' HF i else none) = comb (h'.take h.length) HF := by
      funext i
      rw [comb_take]
    rw [hc] at this
    refine ⟨⟨ow', this.virgin fun i hi => hi.1⟩, fun i o hi => ?_, fun i hi => ⟨hk.vlen i (by omega), (by intro e; cases e), Or.inr hi⟩⟩
    have h1 := hk.hf i o hi
    rw [List.getElem?_take, if_pos (lt_of_some h1)]
    exact hk'.hf i o hi

theorem den_tupleA {vs : List AV} {us : List Value} (h : DenL K vs us) : Den K (tupleA vs) (if hl : us.toArray.size = 1 then us.toArray[0] else .tuple us.toArray) := by
  cases h with
  | nil => exact Den.of_tuple (vs := #[]) .nil
  | cons hx hr =>
    cases hr with
    | nil => simpa [tupleA] using hx
    | cons hy hr =>
      simp only [tupleA]
      rw [dif_neg (by simp)]
      exact Den.of_tuple (.cons hx (.cons hy hr))

def resSem (tmps : Array Value) : ResultVar → Sem Value
  | .tmp t => pure (tmps.getD t undef)
  | .cell x t => do loadVar t (← asAddr (tmps.getD x undef))

theorem results_eq (fn : Func) (tmps : Array Value) : results fn tmps = (do let vs ← fn.results.mapM (resSem tmps); pure (if h : vs.size = 1 then vs[0] else .tuple vs)) := rfl

theorem run_result {ts : List AV} {a : Act} {h : Heap} {rv : ResultVar} {v : AV} (hts : DenL K ts a.tmps.toList) (hk : Fit K h HF V w) (hr : resultA P ts h rv = some v) :
    ∃ u, (resSem a.tmps rv).run P w = .ok u w ∧ Den K v u := by
  cases rv with
  | tmp t => simp [resultA] at hr; subst hr; exact ⟨_, rfl, den_getD hts t⟩
  | cell x t =>
    simp only [resultA] at hr
    obtain ⟨ow, hok⟩ := hk.ok
    have hd := den_getD hts x
    obtain ⟨u, h1, h2⟩ := run_loadA hok (fun id o hi => comb_some hi) hr hd
    refine ⟨u, ?_, h2⟩
    rw [← h1]
    show (asAddr (a.tmps.getD x undef) >>= fun y => loadVar t y : Sem Value).run P w = (Instr.loadAt t (a.tmps.getD x undef)).run P w
    generalize ts.getD x undefA = q at hr hd
    generalize a.tmps.getD x undef = z at hd
    unfold loadA at hr
    split at hr
    · cases hd; rfl
    · cases hd; rfl
    · exact nomatch hr

theorem run_results {ts : List AV} {a : Act} {h : Heap} (hts : DenL K ts a.tmps.toList) (hk : Fit K h HF V w) : ∀ {rs : List ResultVar} {vs : List AV}, resultsA P ts h rs = some vs →
    ∃ us, (rs.mapM (resSem a.tmps)).run P w = .ok us w ∧ DenL K vs us
  | [], vs, h => by simp [resultsA] at h; subst h; exact ⟨[], rfl, .nil⟩
  | r :: rs, vs, h => by
    simp only [resultsA] at h
    split at h
    · rename_i v hv
      simp only [Option.map_eq_some_iff] at h
      obtain ⟨vs', h1, rfl⟩ := h
      obtain ⟨u, g1, g2⟩ := run_result (P := P) hts hk hv
      obtain ⟨us, g3, g4⟩ := run_results hts hk h1
      exact ⟨u :: us, by simp only [List.mapM_cons, Sem.run_bind, g1, Result.andThen_ok, g3, Sem.run_pure], .cons g2 g4⟩
    · exact nomatch h

theorem alloc_len {place : Option Nat} {h h' : Heap} {o : AObj} {id : Nat} (ha : allocObj place h o = some (id, h')) : h.length ≤ h'.length := by
  unfold allocObj at ha
  split at ha
  · cases ha; simp
  · split at ha
    · cases ha; simp
    · exact nomatch ha

theorem settle_len {h : Heap} {id off v : Nat} {old : Option AV} {x : AV} : (settle h id off v old x).2.length = h.length := by
  unfold settle
  split
  · split
    · split <;> simp
    · rfl
  · split
    · split <;> rfl
    · rfl
  · rfl
  · rfl

theorem settleL_len {id : Nat} {cs : List AV} : ∀ {xs : List AV} {off v : Nat} {h : Heap}, (settleL id cs off v h xs).2.length = h.length
  | [], _, _, _ => rfl
  | x :: xs, off, v, h => by
    simp only [settleL]
    rw [settleL_len, settle_len]

theorem newVar_len {place : Option Nat} {h h' : Heap} {e : TypeId} {cs : List AV} {v : AV} (hn : newVarA place h e cs = some (v, h')) : h.length ≤ h'.length := by
  unfold newVarA at hn
  split at hn
  · rename_i id h'' ha
    split at hn
    · cases hn; exact alloc_len ha
    · exact nomatch hn
  · exact nomatch hn

theorem store_len {t : TypeId} {x v : AV} {h h' : Heap} (hs : storeA P t x v h = some h') : h.length ≤ h'.length := by
  unfold storeA at hs
  split at hs
  · split at hs
    · dsimp only at hs
      split at hs
      · split at hs
        · cases hs
          rw [List.length_set, settleL_len]
          exact Nat.le_refl _
        · exact nomatch hs
      · exact nomatch hs
    · exact nomatch hs
  · exact nomatch hs

theorem append_len {ts : List TypeId} {place : Option Nat} {s x v : AV} {h h' : Heap} (ha : appendA P ts place s x h = some (v, h')) : h.length ≤ h'.length := by
  unfold appendA at ha
  repeat' (split at ha)
  all_goals first
    | (cases ha; done)
    | (cases ha; exact Nat.le_refl _)
    | (cases ha; simp; done)
    | (cases ha; rename_i hal; exact alloc_len hal)
    | (cases ha; rename_i hal; have := alloc_len hal; simpa using this)

theorem callA_len {callf : CallF} (hc : ∀ f args h v h', callf f args h = some (v, h') → h.length ≤ h'.length) {place : Option Nat} {c : Call} {ts : List AV} {h h' : Heap} {v : AV} (hs : callA P callf place c ts h = some (v, h')) : h.length ≤ h'.length := by
  unfold callA at hs
  split at hs
  · exact nomatch hs
  · split at hs
    · unfold builtinA at hs
      split at hs
      · simp only [Option.map_eq_some_iff, Prod.mk.injEq] at hs
        obtain ⟨a, h1, _, rfl⟩ := hs
        exact Nat.le_refl _
      · exact append_len hs
      · cases hs; exact Nat.le_refl _
      · cases hs; exact Nat.le_refl _
      · have h2 := (keep_some hs).2; subst h2; exact Nat.le_refl _
      · have h2 := (keep_some hs).2; subst h2; exact Nat.le_refl _
      · have h2 := (keep_some hs).2; subst h2; exact Nat.le_refl _
      · exact nomatch hs
    · split at hs
      · exact hc _ _ _ _ _ hs
      · exact nomatch hs
    · exact nomatch hs

theorem stepOp_len {callf : CallF} (hc : ∀ f args h v h', callf f args h = some (v, h') → h.length ≤ h'.length) {place : Option Nat} {op : Op} {ts : List AV} {h h' : Heap} {v : AV} (hs : stepOp P callf place op ts h = some (v, h')) : h.length ≤ h'.length := by
  have hcallA : ∀ c, callA P callf place c ts h = some (v, h') → h.length ≤ h'.length := fun c hs => callA_len hc hs
  unfold stepOp at hs
  repeat' (split at hs)
  all_goals first
    | (cases hs; done)
    | (have h2 := (keep_some hs).2; subst h2; exact Nat.le_refl _)
    | exact newVar_len hs
    | exact hcallA _ hs
    | (simp only [Option.map_eq_some_iff, Prod.mk.injEq] at hs; obtain ⟨a, h1, _, rfl⟩ := hs; exact store_len h1)
    | (cases hs; exact Nat.le_refl _)

theorem oneOp_len {callf : CallF} (hc : ∀ f args h v h', callf f args h = some (v, h') → h.length ≤ h'.length) {ops : Array Oper} {place : Option Nat} {o : Oper} {ts : List AV} {h h' : Heap} {v : AV} (hs : oneOp P callf ops place o ts h = some (v, h')) : h.length ≤ h'.length := by
  unfold oneOp at hs
  split at hs
  · exact stepOp_len hc hs
  · cases hs; exact Nat.le_refl _
  · exact nomatch hs

theorem enter_ok (hP : ProgOk P) {prim : FuncId → Option Prim} (hprim : PrimsOk P prim) {r : Code → St → Option (Ex × St)} (hr : RunOk P r) : CallOk P (enterA P prim r) := by
  intro f args h v h' hc
  unfold enterA at hc
  split at hc
  · rename_i p hp
    exact hprim f p hp args h v h' hc
  · split at hc
    · exact nomatch hc
    · rename_i fn hfn
      split at hc
      · exact nomatch hc
      · rename_i body hbody
        have key : ∀ e s, r body ⟨args.map sealV ++ List.replicate (fn.ntmps - args.length) undefA, h⟩ = some (e, s) → (e = .normal ∨ e = .ret) → (match resultsA P s.tmps s.heap fn.results.toList with | some vs => some (finishA h.length (sealR (tupleA vs)) s.heap) | none => none) = some (v, h') →
            h.length ≤ h'.length ∧ ∀ (K : KW) (HF : Nat → Option AObj) (V : Nat → Prop) (w : World) (vargs : Array Value), DenL K args vargs.toList → Fit K h HF V w →
              CallGives P ((callFunc f vargs).run P w) fun u w' => ∃ K', Kext K K' ∧ Den K' v u ∧ Fit K' h' HF (afterV none h.length h'.length V) w' := by
          intro e s hrun he hres
          split at hres
          · rename_i vs hvs
            obtain ⟨hle, hwp⟩ := hr _ _ _ _ hrun
            simp only at hle
            simp only [Option.some.injEq] at hres
            refine ⟨?_, fun K HF V w vargs hargs hk => ?_⟩
            · unfold finishA at hres
              split at hres
              · cases hres; simp; omega
              · cases hres; exact hle
            · have hcf : (callFunc f vargs).run P w = .ok (.enter f vargs) w := by
                have hname : (fn.name == "runtime.NumGoroutine") = false := by
                  have := List.all_eq_true.1 hP.named fn (Array.mem_toList_iff.2 (Array.mem_of_getElem? hfn))
                  simpa [hbody] using this
                simp only [callFunc, Sem.run_bind, run_program, Result.andThen_ok, hfn, hname, hbody, Option.isNone_some, Bool.false_eq_true, if_false, Sem.run_pure]
              rw [hcf]
              refine calls_of_wp hfn hbody ?_
              have hsz : vargs.size = args.length := by have := hargs.length; simpa using this
              refine hwp K HF V { tmps := vargs ++ Array.replicate (fn.ntmps - vargs.size) undef, defers := [] } w _ ⟨?_, rfl, hk⟩ fun a' w' K' hext hs => ?_
              · rw [Array.toList_append, Array.toList_replicate, hsz]
                exact (denL_map (fun _ _ => den_sealV) hargs).append (DenL.replicate den_undef _)
              · obtain ⟨us, g1, g2⟩ := run_results (P := P) hs.tmps hs.fit hvs
                have hdt := den_sealR (den_tupleA g2)
                have hres' : (results fn a'.tmps).run P w' = .ok (if hl : us.toArray.size = 1 then us.toArray[0] else .tuple us.toArray) w' := by
                  rw [results_eq, Sem.run_bind, Array.mapM_eq_mapM_toList, Sem.run_map, g1]
                  rfl
                have hfin : ∃ K'', Kext K K'' ∧ Den K'' v (if hl : us.toArray.size = 1 then us.toArray[0] else .tuple us.toArray) ∧ Fit K'' h' HF (afterV none h.length h'.length V) w' := by
                  unfold finishA at hres
                  split at hres
                  · rename_i hu
                    cases hres
                    obtain ⟨q1, q2⟩ := hk.letGo hext hs.fit hle
                    exact ⟨_, q1, den_restrict hdt hu, q2⟩
                  · cases hres
                    exact ⟨K', hext, hdt, hs.fit⟩
                have hpost : bodyPost P fn (fun | .returned v', w' => ∃ K', Kext K K' ∧ Den K' v v' ∧ Fit K' h' HF (afterV none h.length h'.length V) w' | _, _ => False) .ret a' w' := ⟨hs.defers, _, hres', hfin⟩
                rcases he with rfl | rfl
                · exact hpost
                · exact hpost
          · exact nomatch hres
        split at hc
        · rename_i s hrun
          exact key .normal s hrun (Or.inl rfl) hc
        · rename_i s hrun
          exact key .ret s hrun (Or.inr rfl) hc
        · exact nomatch hc

theorem Sim.trans {K K' : KW} {s s1 s2 : St} {a : Act} (h : Sim K s HF V a w) {a' : Act} {w' : World} (h1 : s.heap.length ≤ s1.heap.length) (h2 : s1.heap.length ≤ s2.heap.length) (h' : Sim K' s2 HF (afterV none s1.heap.length s2.heap.length (afterV none s.heap.length s1.heap.length V)) a' w') : Sim K' s2 HF (afterV none s.heap.length s2.heap.length V) a' w' :=
  ⟨h'.tmps, h'.defers, h'.fit.trans h1 h2 fun i hi => h.fit.vlen i (by omega)⟩

theorem Sim.start {K : KW} {s : St} {a : Act} (h : Sim K s HF V a w) : Sim K s HF (afterV none s.heap.length s.heap.length V) a w := ⟨h.tmps, h.defers, h.fit.start⟩

theorem cond_val {K : KW} {s : St} {a : Act} (h : Sim K s HF V a w) {x : Operand} {t : Bool} (hx : evalX s.tmps x = some (.dat (.bool t))) : a.eval x = .bool t := by
  have hd := den_evalX h.tmps hx
  generalize a.eval x = q at hd
  cases hd with | dat hd => cases hd; rfl

/-- a scope, from a piece of its body on -/
def ScopeArr (P : Program) (body : Code) (cur : Code) (Q : Exit → Act → World → Prop) (a : Act) (w : World) : Prop :=
  ∀ (b : Frame) (k : List Item) (cs : List Frame), ∃ e a' w', Q e a' w' ∧ Arrives P (lone (b.at a (.code cur :: .inScope body :: k)) cs w) b k cs e a' w'

theorem scopeLoop_ok {r : Code → St → Option (Ex × St)} (hr : RunOk P r) {body : Code} : ∀ (n : Nat) (cur : Code) (s : St) (e : Ex) (s' : St), scopeLoop r body n cur s = some (e, s') → s.heap.length ≤ s'.heap.length ∧
    ∀ (K : KW) (HF : Nat → Option AObj) (V : Nat → Prop) (a : Act) (w : World) (Q : Exit → Act → World → Prop), Sim K s HF V a w → (∀ a' w' K', Kext K K' → Sim K' s' HF (afterV none s.heap.length s'.heap.length V) a' w' → Q (exOf e) a' w') → ScopeArr P body cur Q a w
  | 0, _, _, _, _, h => by simp [scopeLoop] at h
  | n + 1, cur, s, e, s', h => by
    simp only [scopeLoop] at h
    -- an end of the piece that is none of the scope's own gotos
    have fin : ∀ e1 s1, r cur s = some (e1, s1) → (∀ l, e1 = .goto l → findLabel body l = none) → (e1, s1) = (e, s') → s.heap.length ≤ s'.heap.length ∧
        ∀ (K : KW) (HF : Nat → Option AObj) (V : Nat → Prop) (a : Act) (w : World) (Q : Exit → Act → World → Prop), Sim K s HF V a w → (∀ a' w' K', Kext K K' → Sim K' s' HF (afterV none s.heap.length s'.heap.length V) a' w' → Q (exOf e) a' w') → ScopeArr P body cur Q a w := by
      intro e1 s1 hrun hg heq
      cases heq
      obtain ⟨hle, hwp⟩ := hr _ _ _ _ hrun
      refine ⟨hle, fun K HF V a w Q hsim hq b k cs => ?_⟩
      have hw := hwp K HF V a w (fun e' a' w' => e' = exOf e ∧ Q e' a' w') hsim fun a' w' K' h1 h2 => ⟨rfl, hq a' w' K' h1 h2⟩
      obtain ⟨e2, a', w', ⟨rfl, hq'⟩, harr⟩ := hw b (.inScope body :: k) cs
      refine ⟨exOf e, a', w', hq', ?_⟩
      cases e with
      | normal => exact Steps.trans harr (.one step_inScope)
      | exit id => exact fun k' hk => harr k' (by simp [exitTo, hk])
      | goto l => exact fun k' hk => harr k' (by simp [gotoIn, hg l rfl, hk])
      | ret => exact harr
    split at h
    · rename_i l s1 hrun
      split at h
      · rename_i rest hfl
        obtain ⟨hle, hwp⟩ := hr _ _ _ _ hrun
        obtain ⟨hle2, hsc⟩ := scopeLoop_ok hr n rest s1 e s' h
        refine ⟨Nat.le_trans hle hle2, fun K HF V a w Q hsim hq b k cs => ?_⟩
        have hw := hwp K HF V a w (fun e' a' w' => e' = .goto l ∧ ScopeArr P body rest Q a' w') hsim fun a' w' K' h1 h2 => ⟨rfl, hsc K' HF _ a' w' Q h2 fun a'' w'' K'' h3 h4 => hq a'' w'' K'' (h1.trans h3) (hsim.trans hle hle2 h4)⟩
        obtain ⟨e2, a', w', ⟨rfl, hs⟩, harr⟩ := hw b (.inScope body :: k) cs
        obtain ⟨e3, a'', w'', hq', harr'⟩ := hs b k cs
        exact ⟨e3, a'', w'', hq', .of_steps (harr _ (by simp [gotoIn, hfl])) harr'⟩
      · rename_i hfl
        exact fin _ _ hrun (fun l' hl' => by cases hl'; exact hfl) (Option.some.inj h)
    · rename_i hng
      cases hrun : r cur s with
      | none => rw [hrun] at h; exact nomatch h
      | some q =>
        obtain ⟨e1, s1⟩ := q
        rw [hrun] at h
        exact fin e1 s1 hrun (fun l hl => by subst hl; exact (hng l s1 hrun).elim) (Option.some.inj h)

theorem run_ok (hP : ProgOk P) {prim : FuncId → Option Prim} (hprim : PrimsOk P prim) : ∀ k, RunOk P (run P prim k)
  | 0 => fun c s e s' h => by simp [run] at h
  | k + 1 => by
    have ih := run_ok hP hprim k
    have hcall := enter_ok hP hprim ih
    -- loops
    have hloop : ∀ (b : Code) (j : Nat), j ≤ k + 1 → ∀ (s : St) (e : Ex) (s' : St), run P prim j (.loop b) s = some (e, s') → s.heap.length ≤ s'.heap.length ∧ ∀ (K : KW) (HF : Nat → Option AObj) (V : Nat → Prop) (a : Act) (w : World) (Q : Exit → Act → World → Prop), Sim K s HF V a w →
        (∀ a' w' K', Kext K K' → Sim K' s' HF (afterV none s.heap.length s'.heap.length V) a' w' → Q (exOf e) a' w') → Code.rounds P b Q j a w := by
      intro b j
      induction j with
      | zero => intro _ s e s' h; simp [run] at h
      | succ j ihj =>
        intro hjk s e s' h
        have ihr : RunOk P (run P prim j) := run_ok hP hprim j
        simp only [run] at h
        split at h
        · rename_i s1 hrun
          obtain ⟨hle, hwp⟩ := ihr _ _ _ _ hrun
          obtain ⟨hle2, hrest⟩ := ihj (by omega) s1 e s' h
          refine ⟨Nat.le_trans hle hle2, fun K HF V a w Q hsim hq => ?_⟩
          rw [rounds_succ]
          exact hwp K HF V a w _ hsim fun a' w' K' h1 h2 => hrest K' HF _ a' w' Q h2 fun a'' w'' K'' h3 h4 => hq a'' w'' K'' (h1.trans h3) (hsim.trans hle hle2 h4)
        · rename_i hne
          obtain ⟨hle, hwp⟩ := ihr _ _ _ _ h
          refine ⟨hle, fun K HF V a w Q hsim hq => ?_⟩
          rw [rounds_succ]
          refine hwp K HF V a w _ hsim fun a' w' K' h1 h2 => ?_
          have := hq a' w' K' h1 h2
          cases e with
          | normal => exact (hne s' h).elim
          | exit i => exact this
          | goto l => exact this
          | ret => exact this
    intro c s e s' h
    simp only [run] at h
    split at h
    · cases h; exact ⟨Nat.le_refl _, fun K HF V a w Q hsim hq => wp_skip (hq a w K (Kext.refl K) hsim.start)⟩
    · cases h; exact ⟨Nat.le_refl _, fun K HF V a w Q hsim hq => wp_label (hq a w K (Kext.refl K) hsim.start)⟩
    · rename_i id ops draw
      split at h
      · rename_i hd
        subst hd
        simp only [Option.map_eq_some_iff, Prod.mk.injEq] at h
        obtain ⟨s1, h1, rfl, rfl⟩ := h
        have hle : s.heap.length ≤ s1.heap.length := by
          unfold regionDraw at h1
          dsimp only at h1
          obtain ⟨es, g1, _⟩ := regionD_logs h1
          have := (logs_end g1 rfl).2.2.1
          rw [this]; simp
        refine ⟨hle, fun K HF V a w Q hsim hq => ?_⟩
        exact (regionDraw_ok hP.mixed hcall h1 hsim).2 hq
      · rename_i hd
        have hd' : draw = false := by simpa using hd
        subst hd'
        simp only [Option.map_eq_some_iff, Prod.mk.injEq] at h
        obtain ⟨s1, h1, rfl, rfl⟩ := h
        have hgo := fun (K : KW) (HF : Nat → Option AObj) (V : Nat → Prop) (a : Act) (w : World) (Q : Exit → Act → World → Prop) (hsim : Sim K s HF V a w) => regionT_ok hcall ops.toList 0 s s1 K V a w Q (fun j => by simp) h1 hsim
        have hle : s.heap.length ≤ s1.heap.length := by
          have : ∀ (l : List Oper) (s s' : St), regionT P (enterA P prim (run P prim k)) ops l s = some s' → s.heap.length ≤ s'.heap.length := by
            intro l
            induction l with
            | nil => intro s s' hr; simp [regionT] at hr; subst hr; exact Nat.le_refl _
            | cons o l ihl =>
              intro s s' hr
              simp only [regionT] at hr
              split at hr
              · rename_i v h2 hone
                exact Nat.le_trans (oneOp_len (fun f args h v h' hc => (hcall f args h v h' hc).1) hone) (ihl _ _ hr)
              · exact nomatch hr
          exact this _ _ _ h1
        refine ⟨hle, fun K HF V a w Q hsim hq => wp_region ?_⟩
        have := (hgo K HF V a w Q hsim).2 hq
        rw [List.range_eq_range']
        simpa using this
    · rename_i x y
      split at h
      · rename_i s1 hrun
        obtain ⟨hle, hwp⟩ := ih _ _ _ _ hrun
        obtain ⟨hle2, hwp2⟩ := ih _ _ _ _ h
        refine ⟨Nat.le_trans hle hle2, fun K HF V a w Q hsim hq => wp_seq ?_⟩
        exact hwp K HF V a w _ hsim fun a' w' K' h1 h2 => hwp2 K' HF _ a' w' Q h2 fun a'' w'' K'' h3 h4 => hq a'' w'' K'' (h1.trans h3) (hsim.trans hle hle2 h4)
      · rename_i hne
        obtain ⟨hle, hwp⟩ := ih _ _ _ _ h
        refine ⟨hle, fun K HF V a w Q hsim hq => wp_seq ?_⟩
        refine hwp K HF V a w _ hsim fun a' w' K' h1 h2 => ?_
        have := hq a' w' K' h1 h2
        cases e with
        | normal => exact (hne s' h).elim
        | exit i => exact this
        | goto l => exact this
        | ret => exact this
    · rename_i x p q
      split at h
      · rename_i t hx
        obtain ⟨hle, hwp⟩ := ih _ _ _ _ h
        exact ⟨hle, fun K HF V a w Q hsim hq => wp_cond (cond_val hsim hx) (hwp K HF V a w Q hsim hq)⟩
      · exact nomatch h
    · rename_i id b
      split at h
      · rename_i i s1 hrun
        obtain ⟨hle, hwp⟩ := ih _ _ _ _ hrun
        split at h
        · rename_i hi
          cases h
          refine ⟨hle, fun K HF V a w Q hsim hq => wp_block (hwp K HF V a w _ hsim fun a' w' K' h1 h2 => ?_)⟩
          simp only [exOf, Exit.inBlock, hi, if_true]
          exact hq a' w' K' h1 h2
        · rename_i hi
          cases h
          refine ⟨hle, fun K HF V a w Q hsim hq => wp_block (hwp K HF V a w _ hsim fun a' w' K' h1 h2 => ?_)⟩
          simp only [exOf, Exit.inBlock, hi, if_false]
          exact hq a' w' K' h1 h2
      · rename_i hne
        obtain ⟨hle, hwp⟩ := ih _ _ _ _ h
        refine ⟨hle, fun K HF V a w Q hsim hq => wp_block (hwp K HF V a w _ hsim fun a' w' K' h1 h2 => ?_)⟩
        have := hq a' w' K' h1 h2
        cases e with
        | normal => exact this
        | exit i => exact (hne i s' h).elim
        | goto l => exact this
        | ret => exact this
    · rename_i b
      have h' : run P prim (k + 1) (.loop b) s = some (e, s') := by simp only [run]; exact h
      obtain ⟨hle, hl⟩ := hloop b (k + 1) (Nat.le_refl _) s e s' h'
      exact ⟨hle, fun K HF V a w Q hsim hq => wp_loop_rounds (k + 1) (hl K HF V a w Q hsim hq)⟩
    · cases h; exact ⟨Nat.le_refl _, fun K HF V a w Q hsim hq => wp_exit (hq a w K (Kext.refl K) hsim.start)⟩
    · cases h; exact ⟨Nat.le_refl _, fun K HF V a w Q hsim hq => wp_goto (hq a w K (Kext.refl K) hsim.start)⟩
    · rename_i b
      obtain ⟨hle, hs⟩ := scopeLoop_ok ih k b s e s' h
      refine ⟨hle, fun K HF V a w Q hsim hq b' k' cs => ?_⟩
      obtain ⟨e2, a', w', hq', harr⟩ := hs K HF V a w Q hsim hq b' k' cs
      exact ⟨e2, a', w', hq', .of_steps (.one step_scope) harr⟩
    · cases h; exact ⟨Nat.le_refl _, fun K HF V a w Q hsim hq => wp_ret (hq a w K (Kext.refl K) hsim.start)⟩
    · exact nomatch h

theorem call_ok (hP : ProgOk P) {prim : FuncId → Option Prim} (hprim : PrimsOk P prim) (k : Nat) : CallOk P (call P prim k) := enter_ok hP hprim (run_ok hP hprim k)

end
end Go.Proofs.Ytfdcjngclelnhaa

set_option linter.unusedSimpArgs false
namespace Go.Proofs.Ytfdcjngclelnhaa
open Go Go.RowKit

def idxByte (c : UInt8) : List UInt8 → Nat → Int
  | [], _ => -1
  | b :: l, i => if b == c then (i : Int) else idxByte c l (i + 1)

theorem idxByte_eq (c : UInt8) : ∀ (l : List UInt8) (i : Nat), idxByte c l i = if Lib.indexByte l c = -1 then -1 else Lib.indexByte l c + i
  | [], i => by simp [idxByte, Lib.indexByte]
  | b :: l, i => by
    have hge := Lib.indexByte_ge l c
    simp only [idxByte, Lib.indexByte]
    split
    · simp
    · rw [idxByte_eq c l (i + 1)]
      by_cases h : Lib.indexByte l c = -1
      · simp [h]
      · have h2 : (Lib.indexByte l c == -1) = false := by simpa using h
        rw [if_neg h, h2]
        simp only [Bool.false_eq_true, if_false]
        rw [if_neg (by omega)]
        omega

def primIndexByte : Prim := fun args h => match args with
  | [.dat (.str s), .dat (.int .u8 c)] => some (.dat (.int .i64 (idxByte c.toNat.toUInt8 s 0)), h)
  | _ => none

def primCount : Prim := fun args h => match args with
  | [.dat (.str s), .dat (.int .u8 c)] => some (.dat (.int .i64 (s.count c.toNat.toUInt8)), h)
  | _ => none

def primSame : Prim := fun args h => match args with
  | [x] => some (x, h)
  | _ => none

section
variable {P : Program} {f : FuncId} {fn : Func}

theorem extern_ok {p : Prim} {e : Array Value → Sem Value} (hf : P.funcs[f]? = some fn) (hname : (fn.name == "runtime.NumGoroutine") = false) (hb : fn.body.isNone = true) (hn : Extern.findNext fn = none) (he : Extern.find fn = some e)
    (h : ∀ args h v h', p args h = some (v, h') → h' = h ∧ ∀ (K : KW) (w : World) (vargs : Array Value), DenL K args vargs.toList → ∃ u, (e vargs).run P w = .ok u w ∧ Den K v u) : CallFOk P f p := by
  intro args hp v h' hs
  obtain ⟨rfl, h2⟩ := h args hp v h' hs
  refine ⟨Nat.le_refl _, fun K HF V w vargs hargs hk => ?_⟩
  obtain ⟨u, h3, h4⟩ := h2 K w vargs hargs
  rw [run_callFunc_extern hf hname hb hn he, h3, Result.andThen_ok]
  exact ⟨K, Kext.refl K, h4, hk.start⟩

theorem primIndexByte_ok (hf : P.funcs[f]? = some fn) (hname : (fn.name == "runtime.NumGoroutine") = false) (hb : fn.body.isNone = true) (hn : Extern.findNext fn = none) (he : Extern.find fn = some Extern.BytealgIndexByte.indexByte) : CallFOk P f primIndexByte := by
  refine extern_ok hf hname hb hn he fun args h v h' hs => ?_
  unfold primIndexByte at hs
  split at hs
  · rename_i s c
    cases hs
    refine ⟨rfl, fun K w vargs hargs => ?_⟩
    obtain ⟨a, b, rfl, ha, hb'⟩ := denL_two hargs
    cases ha with | dat ha => ?_
    cases hb' with | dat hb' => ?_
    cases ha; cases hb'
    refine ⟨_, Lib.run_indexByteString (P := P) ⟨s.toArray⟩ c w, ?_⟩
    have : Lib.indexByte s c.toNat.toUInt8 = idxByte c.toNat.toUInt8 s 0 := by
      rw [idxByte_eq]
      split
      · rename_i h; exact h
      · simp
    rw [← this]
    exact .dat (.int _ _)
  · exact nomatch hs

theorem primCount_ok (hf : P.funcs[f]? = some fn) (hname : (fn.name == "runtime.NumGoroutine") = false) (hb : fn.body.isNone = true) (hn : Extern.findNext fn = none) (he : Extern.find fn = some Extern.BytealgCount.count) : CallFOk P f primCount := by
  refine extern_ok hf hname hb hn he fun args h v h' hs => ?_
  unfold primCount at hs
  split at hs
  · rename_i s c
    cases hs
    refine ⟨rfl, fun K w vargs hargs => ?_⟩
    obtain ⟨a, b, rfl, ha, hb'⟩ := denL_two hargs
    cases ha with | dat ha => ?_
    cases hb' with | dat hb' => ?_
    cases ha; cases hb'
    exact ⟨_, Lib.run_countString (P := P) ⟨s.toArray⟩ c w, .dat (.int _ _)⟩
  · exact nomatch hs

theorem primSame_ok (hf : P.funcs[f]? = some fn) (hname : (fn.name == "runtime.NumGoroutine") = false) (hb : fn.body.isNone = true) (hn : Extern.findNext fn = none) (he : Extern.find fn = some Extern.AbiNoEscape.same) : CallFOk P f primSame := by
  refine extern_ok hf hname hb hn he fun args h v h' hs => ?_
  unfold primSame at hs
  split at hs
  · cases hs
    refine ⟨rfl, fun K w vargs hargs => ?_⟩
    obtain ⟨a, rfl, ha⟩ := denL_one hargs
    exact ⟨a, rfl, ha⟩
  · exact nomatch hs

def K0 (W : World) : KW := { base := W, imm := W.cell?, blk := fun _ => none, key := fun _ => none }

theorem fit0 (W : World) : Fit (K0 W) [] (fun _ => none) (fun _ => True) W :=
  { ok := ⟨fun _ => none, { imm := fun _ _ h => h, below := Below.refl _ _, box := fun id e cs ver h => by simp [comb] at h, tip := fun id e n sz h => by simp [comb] at h, more := fun id e n sz h => by simp [comb] at h, fresh := fun id _ => ⟨by simp [comb], rfl, fun _ => rfl, fun _ _ => rfl⟩, ver := fun id e cs ver h => by simp [comb] at h, own := by intro b k h; cases h }⟩
    hf := by intro i o h; cases h
    vlen := fun _ _ => trivial }

/-- a law's call -/
theorem law_calls (hP : ProgOk P) {prim : FuncId → Option Prim} (hprim : PrimsOk P prim) {body : Code} (hf : P.funcs[f]? = some fn) (hb : fn.body = some body) {k : Nat} {args : List AV} {vargs : Array Value} {h' : Heap} {W : World} (hargs : DenL (K0 W) args vargs.toList)
    (hc : call P prim k f args [] = some (.dat (.bool true), h')) : Calls P f vargs W fun e W' => e = .returned (.bool true) ∧ Below W.heap.size W W' := by
  obtain ⟨_, h2⟩ := call_ok hP hprim k f args [] _ _ hc
  have h3 := h2 (K0 W) (fun _ => none) (fun _ => True) W vargs hargs (fit0 W)
  have hname : (fn.name == "runtime.NumGoroutine") = false := by
    have := List.all_eq_true.1 hP.named fn (Array.mem_toList_iff.2 (Array.mem_of_getElem? hf))
    simpa [hb] using this
  have hcf : (callFunc f vargs).run P W = .ok (.enter f vargs) W := by
    simp only [callFunc, Sem.run_bind, run_program, Result.andThen_ok, hf, hname, hb, Option.isNone_some, Bool.false_eq_true, if_false, Sem.run_pure]
  rw [hcf] at h3
  refine Calls.mono h3 fun e W' hr => ?_
  cases e with
  | returned v =>
    obtain ⟨K', e1, e2, e3⟩ := hr
    cases e2 with | dat e2 => ?_
    cases e2
    obtain ⟨ow, hok⟩ := e3.ok
    have hbel := hok.below
    rw [e1.base] at hbel
    exact ⟨rfl, hbel⟩
  | panicked c => exact hr.elim
  | outgrown => exact hr.elim

/- A CONTRACT AS AN ENTRY: what a call does in no heap, over plain data, it does in every heap. -/

def AV.isDat : AV → Bool
  | .dat _ => true
  | _ => false

/-- plain data -/
def AV.plain : AV → Bool
  | .dat _ => true
  | .tuple vs => vs.all AV.isDat
  | _ => false

theorem den_plain {K K' : KW} (hi : ∀ a v, K.imm a = some v → K'.imm a = some v) {v : AV} {u : Value} (h : Den K v u) (hp : v.plain = true) : Den K' v u := by
  cases h with
  | dat h => exact .dat (h.mono hi)
  | tuple cs vs hl h =>
    refine .tuple cs vs hl fun j x v h1 h2 => ?_
    have hx : x.isDat = true := List.all_eq_true.1 hp x (List.mem_of_getElem? h1)
    have := h j x v h1 h2
    cases this with
    | dat h => exact .dat (h.mono hi)
    | _ => cases hx
  | _ => cases hp

theorem denL_plain {K K' : KW} (hi : ∀ a v, K.imm a = some v → K'.imm a = some v) {vs : List AV} {us : List Value} (h : DenL K vs us) (hp : vs.all AV.plain = true) : DenL K' vs us := by
  induction h with
  | nil => exact .nil
  | cons hd _ ih =>
    simp only [List.all_cons, Bool.and_eq_true] at hp
    exact .cons (den_plain hi hd hp.1) (ih hp.2)

/-- more cells are told, of blocks that nobody owns -/
theorem OkW.tell {K : KW} {h : Nat → Option AObj} {V : Nat → Prop} {w : World} {ow : Nat → Option OKey} (hk : OkW K h V w ow) {imm' : Imm} (hext : Kext K { K with imm := imm' }) (hc : ∀ a c, imm' a = some c → w.cell? a = some c)
    (ho : ∀ b k, ow b = some k → ∀ off sp, imm' ⟨b, off, sp⟩ = K.imm ⟨b, off, sp⟩) : OkW { K with imm := imm' } h V w ow := by
  have hfree : ∀ r n k, Free K w r n → ow r.b = some k → Free { K with imm := imm' } w r n := fun r n k hf hb =>
    ⟨hf.blk, fun off sp hle => (ho _ _ hb off sp).trans (hf.imm off sp hle), hf.base⟩
  refine ⟨hc, hk.below, fun id e cs ver hid => ?_, fun id e n sz hid => ?_, hk.more, hk.fresh, hk.ver, hk.own⟩
  · obtain ⟨b, vs, hbox⟩ := hk.box id e cs ver hid
    exact ⟨b, vs, hbox.blk, hbox.own, hbox.base, hbox.heap, fun off sp => (ho _ _ hbox.own off sp).trans (hbox.imm off sp), hbox.den.mono hext,
      fun i c hi => (hbox.cell i c hi).mono hext (Nat.le_refl _) fun r n v hf hb => ⟨hfree r n _ hf hb, hb⟩, hbox.under⟩
  · obtain ⟨r, h1, h2, h3, h4, h5⟩ := hk.tip id e n sz hid
    exact ⟨r, h1, h2, h3, hfree r n _ h4 h5, h5⟩

theorem CallGives.mono {nx : Result Next} {R R' : Value → World → Prop} (h : CallGives P nx R) (hr : ∀ u w, R u w → R' u w) : CallGives P nx R' := by
  unfold CallGives at h ⊢
  split at h
  · exact hr _ _ h
  · refine Calls.mono h fun e w' h1 => ?_
    split at h1
    · exact hr _ _ h1
    · exact h1.elim
  · exact h.elim

theorem CallFOk.ofCall (hP : ProgOk P) {prim : FuncId → Option Prim} (hprim : PrimsOk P prim) {p : Prim}
    (h : ∀ args h v h', p args h = some (v, h') → h' = h ∧ args.all AV.plain = true ∧ v.plain = true ∧ ∃ k, call P prim k f args [] = some (v, [])) : CallFOk P f p := by
  intro args hp v h' hs
  obtain ⟨rfl, hpa, hpv, k, hc⟩ := h args hp v h' hs
  refine ⟨Nat.le_refl _, fun K HF V w vargs hargs hk => ?_⟩
  obtain ⟨_, h2⟩ := call_ok hP hprim k f args [] _ _ hc
  obtain ⟨ow, hok⟩ := hk.ok
  let K2 : KW := { base := w, imm := K.imm, blk := fun _ => none, key := fun _ => none }
  have hfit : Fit K2 [] (fun _ => none) (fun _ => True) w :=
    { ok := ⟨fun _ => none, { imm := hok.imm, below := Below.refl _ _, box := fun id e cs ver h => by simp [comb] at h, tip := fun id e n sz h => by simp [comb] at h, more := fun id e n sz h => by simp [comb] at h, fresh := fun id _ => ⟨by simp [comb], rfl, fun _ => rfl, fun _ _ => rfl⟩, ver := fun id e cs ver h => by simp [comb] at h, own := by intro b k h; cases h }⟩
      hf := by intro i o h; cases h
      vlen := fun _ _ => trivial }
  have h3 := h2 K2 (fun _ => none) (fun _ => True) w vargs (denL_plain (K := K) (K' := K2) (fun _ _ h => h) hargs hpa) hfit
  refine CallGives.mono h3 fun u w' hr => ?_
  obtain ⟨K', e1, e2, e3⟩ := hr
  obtain ⟨ow', hok'⟩ := e3.ok
  have hbel : Below w.heap.size w w' := by have := hok'.below; rw [e1.base] at this; exact this
  have hsame : ∀ b k, ow b = some k → w'.heap[b]? = w.heap[b]? := fun b k hb => hbel.block b (hok.own b k hb)
  have hext : Kext K { K with imm := K'.imm } := ⟨rfl, e1.imm, fun _ _ h => h, fun _ _ h => h, fun a ha => e1.old a (Nat.lt_of_lt_of_le ha hok.base_le)⟩
  have hk1 : OkW K (comb h' HF) V w' ow := hok.world (hok.below.trans ⟨hbel.os, hbel.tape, hbel.output, hbel.size, fun i hi => hbel.block i (Nat.lt_of_lt_of_le hi hok.base_le)⟩) hbel.size hsame fun a c ha => hok'.imm a c (e1.imm a c ha)
  have hk2 := hk1.tell hext hok'.imm fun b k hb off sp => e1.old _ (hok.own b k hb)
  refine ⟨_, hext, den_plain (K := K') (K' := { K with imm := K'.imm }) (fun _ _ h => h) e2 hpv, ⟨ow, hk2.virgin fun i hi => hi.1⟩, hk.hf, fun i hi => ⟨hk.vlen i hi, (by intro e; cases e), Or.inr hi⟩⟩

end
end Go.Proofs.Ytfdcjngclelnhaa
