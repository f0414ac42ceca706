/- Part of a proof. -/
import Derived.Test.YtfdcjngclelnhaaGreatDg
set_option linter.unusedSectionVars false
set_option linter.unusedSimpArgs false
set_option linter.unusedVariables false
namespace Go.Proofs.YtfdcjngclelnhaaGreat
open Go Go.RowKit
variable [mode:Inhabited ModeT]
def CallGives (P:Program) (nx:Result Next) (R:Value → World → Prop):Prop :=
 match nx with
 | .ok (.value v) w=>R v w
 | .ok (.enter f args) w=>Calls P f args w fun
   | .returned v,w'=>R v w'
   | _,_=>False
 | _=>False
def CallOk (P:Program) (callf:CallF):Prop :=
 ∀ f args h v h',callf f args h = some (v,h') → h.length ≤ h'.length ∧ ∀ (K:KW) (HF:Nat → Option AObj) (V:Nat → Prop) (w:World) (vargs:Array Value),DenL K args vargs.toList → Fit K h HF V w →
  CallGives P ((callFunc f vargs).run P w) fun u w'=>∃ K',Kext K K' ∧ Den K' v u ∧ Fit K' h' HF (afterV none h.length h'.length V) w'
def StepGoes (P:Program) (K:KW) (HF:Nat → Option AObj) (V:Nat → Prop) (w:World) (a:Act) (o:Oper) (v:AV) (h':Heap):Prop :=
 ∀ (next:Act → World → Prop) (Q:Exit → Act → World → Prop),(∀ u w' K',Kext K K' → Den K' v u → Fit K' h' HF V w' → next (a.put o.dst u) w') → o.wp P a w next Q
section
variable {P:Program} {K:KW} {w:World} {h:Heap} {HF:Nat → Option AObj} {V:Nat → Prop}
theorem JT {a:Act} {o:Oper} {v:AV} {h':Heap} (s:Sem Value) (he:execOp a.eval o = (do pure (.value (← s)):Sem Next)) (hs:∃ u w' K',s.run P w = .ok u w' ∧ Kext K K' ∧ Den K' v u ∧ Fit K' h' HF V w'):StepGoes P K HF V w a o v h':=by
 obtain ⟨u,w',K',h1,h2,h3,h4⟩:=hs
 intro next Q hn
 unfold Oper.wp
 rw [he]
 simp only [Sem.run_bind,h1,Result.andThen_ok,Sem.run_pure,Oper.upon_value]
 exact hn u w' K' h2 h3 h4
theorem QbC {a:Act} {o:Oper} {v:AV} {h':Heap} {u:Value} (he:(execOp a.eval o).run P w = .ok (.value u) w) (hd:Den K v u) (hf:Fit K h' HF V w):StepGoes P K HF V w a o v h':=by
 intro next Q hn
 unfold Oper.wp
 rw [he,Oper.upon_value]
 exact hn u w K (Kext.refl K) hd hf
theorem Qb7 {a:Act} {o:Oper} {h':Heap} (s:Sem Unit) (he:execOp a.eval o = (do s; pure .skip:Sem Next)) (hs:∃ w' K',s.run P w = .ok () w' ∧ Kext K K' ∧ Fit K' h' HF V w'):StepGoes P K HF V w a o undefA h':=by
 obtain ⟨w',K',h1,h2,h3⟩:=hs
 intro next Q hn
 unfold Oper.wp
 rw [he]
 simp only [Sem.run_bind,h1,Result.andThen_ok,Sem.run_pure,Oper.upon_skip]
 exact hn undef w' K' h2 Q0z h3
theorem Qke {a:Act} {o:Oper} {v:AV} {h':Heap} (he:CallGives P ((execOp a.eval o).run P w) fun u w'=>∃ K',Kext K K' ∧ Den K' v u ∧ Fit K' h' HF V w'):StepGoes P K HF V w a o v h':=by
 intro next Q hn
 unfold Oper.wp
 generalize (execOp a.eval o).run P w = r at he
 unfold CallGives at he
 split at he
 ·rw [Oper.upon_value]
  obtain ⟨K',h1,h2,h3⟩:=he
  exact hn _ _ K' h1 h2 h3
 ·rw [Oper.upon_enter]
  refine Calls.mono he fun e w' hr=>?_
  cases e with
  | returned u =>
   obtain ⟨K',h1,h2,h3⟩:=hr
   exact hn u w' K' h1 h2 h3
  | panicked c=>exact hr.elim
  | outgrown=>exact hr.elim
 ·exact he.elim
theorem QC {h h':Heap} {o:Option AV} {v:AV} (hk:keep h o = some (v,h')):o = some v ∧ h' = h:=by
 unfold keep at hk
 simp only [Option.map_eq_some_iff,Prod.mk.injEq] at hk
 obtain ⟨a,h1,rfl,rfl⟩:=hk
 exact ⟨h1,rfl⟩
theorem QU {a:Act} {o:Oper} {v:AV} {place:Option Nat} (s:Sem Value) (he:execOp a.eval o = (do pure (.value (← s)):Sem Next)) (hk:Fit K h HF V w) (hp:∀ r,place = some r → V r ∧ r < h.length) (hs:∃ u,s.run P w = .ok u w ∧ Den K v u) :
  StepGoes P K HF (afterV place h.length h.length V) w a o v h:=by
 obtain ⟨u,h1,h2⟩:=hs
 exact JT s he ⟨u,w,K,h1,Kext.refl K,h2,hk.after fun r hr=>(hp r hr).2⟩
theorem Fit.of_ok {K':KW} {w':World} {V':Nat → Prop} (hk:Fit K h HF V w) (hok:Ok K' (comb h HF) V' w') (hv:∀ i,h.length ≤ i → V' i):Fit K' h HF V' w':=⟨hok,hk.hf,hv⟩
theorem Q9l {a:Act} {o:Oper} {v:AV} {place:Option Nat} (s:Sem Value) (he:execOp a.eval o = (do pure (.value (← s)):Sem Next)) (hk:Fit K h HF V w) (hp:∀ r,place = some r → V r ∧ r < h.length) (hs:Gives P K w s v (comb h HF) V) :
  StepGoes P K HF (afterV place h.length h.length V) w a o v h:=by
 obtain ⟨u,w',K',h1,h2,h3,h4⟩:=hs
 exact JT s he ⟨u,w',K',h1,h2,h3,(hk.of_ok h4 hk.vlen).after fun r hr=>(hp r hr).2⟩
theorem Q39 (ts:Array TypeId) (ty:TypeId) (a:Addr) (n c:Nat) (hc:c ≠ 0):(Builtin.unsafeSliceData_ ts ty #[.slice (some a) n c]).run P w = .ok (.pointer (some a)) w:=by
 have hdef:Builtin.unsafeSliceData_ ts ty #[.slice (some a) n c] = (if c ≠ 0 then pure (.pointer (some a)) else do if (← viewAt a.block).isSome then pure (.pointer (some a)) else pure (.pointer (some ⟨← newObj (.view a (← elemOf ty)),0,none⟩)):Sem Value):=rfl
 rw [hdef,if_pos hc]
 rfl
theorem Q3h (ts:Array TypeId) (ty:TypeId) (n c:Nat):(Builtin.unsafeSliceData_ ts ty #[.slice none n c]).run P w = .ok (.pointer none) w:=rfl
theorem Q7s {x:AV} {vs:Array Value} (h:DenL K [x] vs.toList):∃ y,vs = #[y] ∧ Den K x y:=by
 obtain ⟨l⟩:=vs
 cases h with
 | cons hx hr=>cases hr; exact ⟨_,rfl,hx⟩
theorem Qfs {x y:AV} {vs:Array Value} (h:DenL K [x,y] vs.toList):∃ a b,vs = #[a,b] ∧ Den K x a ∧ Den K y b:=by
 obtain ⟨l⟩:=vs
 cases h with
 | cons hx hr =>
  cases hr with
  | cons hy hr=>cases hr; exact ⟨_,_,rfl,hx,hy⟩
theorem Qcz {a:Act} {o:Oper} {v:AV} {h':Heap} {place:Option Nat} {c:Call} {b:Builtin} {args:List AV} (ho:o.op = .call c) (hb:c.callee = .builtin b) (hk:Fit K h HF V w) (hp:∀ r,place = some r → V r ∧ r < h.length)
  (hargs:DenL K args (c.args.map a.eval).toList) (hs:builtinA P b c.argTypes.toList place args h = some (v,h')):StepGoes P K HF (afterV place h.length h'.length V) w a o v h' ∧ h.length ≤ h'.length:=by
 have hexec:∀ (s:Sem Value),(builtin b c.argTypes o.type (c.args.map fun | .const _=>true | _=>false) (c.args.map a.eval) = (do pure (.value (← s)):Sem Next)) → execOp a.eval o = (do pure (.value (← s)):Sem Next):=fun s hs=>by
  simp only [execOp,ho,resolve,hb,pure_bind,invoke]
  exact hs
 generalize hvs:c.args.map a.eval = vs at hargs hexec
 unfold builtinA at hs
 split at hs
 ·rename_i t ts x xs hts
  simp only [Option.map_eq_some_iff,Prod.mk.injEq] at hs
  obtain ⟨u,h1,rfl,rfl⟩:=hs
  have ht0:c.argTypes[0]? = some t:=by rw [← Array.getElem?_toList,hts]; rfl
  cases hv:vs.toList with
  | nil=>rw [hv] at hargs; cases hargs
  | cons y ys =>
   rw [hv] at hargs
   cases hargs with
   | cons hx _ =>
    have hv0:vs[0]? = some y:=by rw [← Array.getElem?_toList,hv]; rfl
    exact ⟨QU (Builtin.len_ c.argTypes o.type vs) (hexec _ rfl) hk hp (QoR h1 hx ht0 hv0),Nat.le_refl _⟩
 ·rename_i ts s x rest hts
  cases hv:vs.toList with
  | nil=>rw [hv] at hargs; cases hargs
  | cons y ys =>
   rw [hv] at hargs
   cases hargs with
   | cons hx hxs =>
    cases ys with
    | nil=>cases hxs
    | cons z zs =>
     cases hxs with
     | cons hz hzs =>
      obtain ⟨u,w',K',g1,g2,g3,g4,g5⟩:=Qax (ty:=o.type) hk hp hs hx hz
      refine ⟨JT (Builtin.append_ c.argTypes o.type vs) (hexec _ rfl) ⟨u,w',K',?_,g2,g3,g4⟩,g5⟩
      have e0:vs[0]? = some y:=by rw [← Array.getElem?_toList,hv]; rfl
      have e1:vs[1]? = some z:=by rw [← Array.getElem?_toList,hv]; rfl
      rw [← g1]
      unfold Builtin.append_
      simp only [e0,e1,List.getElem?_toArray,List.getElem?_cons_zero,List.getElem?_cons_succ]
 ·rename_i rest hts
  cases hs
  obtain ⟨y,rfl,hy⟩:=Q7s hargs
  have hy':=Q0r hy
  subst hy'
  exact ⟨QU (Builtin.unsafeSliceData_ c.argTypes o.type _) (hexec _ rfl) hk hp ⟨_,Q3h _ _ _ _,.pnil⟩,Nat.le_refl _⟩
 ·cases hs
  obtain ⟨y,rfl,hy⟩:=Q7s hargs
  cases hy with
  | «at» _ _ _ _ r hr hcap hcells =>
   exact ⟨QU (Builtin.unsafeSliceData_ c.argTypes o.type _) (hexec _ rfl) hk hp ⟨_,Q39 _ _ _ _ _ (by simp at hcap; omega),.sdata _ _ _ _ r hr hcap hcells⟩,Nat.le_refl _⟩
 ·rename_i pt ts p n hts
  obtain ⟨h1,rfl⟩:=QC hs
  obtain ⟨y,z,rfl,hy,hz⟩:=Qfs hargs
  have ht0:c.argTypes[0]? = some pt:=by rw [← Array.getElem?_toList,hts]; rfl
  obtain ⟨u,w',g1,g2,g3⟩:=Q4i (ty:=o.type) hk ht0 h1 hy hz
  exact ⟨JT (Builtin.unsafeString_ c.argTypes o.type _) (hexec _ rfl) ⟨u,w',K,g1,Kext.refl K,g2,g3.after fun r hr=>(hp r hr).2⟩,Nat.le_refl _⟩
 ·obtain ⟨h1,rfl⟩:=QC hs
  cases hv:vs.toList with
  | nil=>rw [hv] at hargs; cases hargs
  | cons y ys =>
   rw [hv] at hargs
   cases hargs with
   | cons hx hxs =>
    obtain ⟨u,g1,g2⟩:=Q1N (P:=P) (w:=w) h1 hx hxs
    refine ⟨QU (Builtin.min_ c.argTypes o.type vs) (hexec _ rfl) hk hp ⟨u,?_,g2⟩,Nat.le_refl _⟩
    simp only [Builtin.min_,hv]
    exact g1
 ·obtain ⟨h1,rfl⟩:=QC hs
  cases hv:vs.toList with
  | nil=>rw [hv] at hargs; cases hargs
  | cons y ys =>
   rw [hv] at hargs
   cases hargs with
   | cons hx hxs =>
    obtain ⟨u,g1,g2⟩:=Q1N (P:=P) (w:=w) h1 hx hxs
    refine ⟨QU (Builtin.max_ c.argTypes o.type vs) (hexec _ rfl) hk hp ⟨u,?_,g2⟩,Nat.le_refl _⟩
    simp only [Builtin.max_,hv]
    exact g1
 ·exact nomatch hs
theorem QqF {callf:CallF} (hcall:CallOk P callf) {a:Act} {o:Oper} {ts:List AV} {v:AV} {h':Heap} {place:Option Nat} (hts:DenL K ts a.tmps.toList) (hk:Fit K h HF V w) (hp:∀ r,place = some r → V r ∧ r < h.length)
  (hs:stepOp P callf place o.op ts h = some (v,h')):StepGoes P K HF (afterV place h.length h'.length V) w a o v h' ∧ h.length ≤ h'.length:=by
 obtain ⟨ow,hok⟩:=hk.ok
 have hh:∀ id o,h[id]? = some (some o) → comb h HF id = some o:=fun id o hi=>Qe hi
 have hp2:∀ r,place = some r → V r:=fun r hr=>(hp r hr).1
 unfold stepOp at hs
 split at hs
 case h_1 x heq | h_2 x heq =>
  obtain ⟨h1,rfl⟩:=QC hs
  exact ⟨QU (pure (a.eval x)) (by simp only [execOp,heq,pure_bind]) hk hp ⟨_,rfl,Qt hts h1⟩,Nat.le_refl _⟩
 case h_3 c x y heq =>
  split at hs
  ·rename_i t hc
   obtain ⟨h1,rfl⟩:=QC hs
   have hd:=Qt hts hc
   have hcv:a.eval c = .bool t:=by
    generalize a.eval c = q at hd
    cases hd with | dat hd=>cases hd; rfl
   refine ⟨QbC (u:=if t then a.eval x else a.eval y) ?_ ?_ (hk.after fun r hr=>(hp r hr).2),Nat.le_refl _⟩
   ·simp only [execOp,heq,hcv,asBool,pure_bind,Sem.run_pure]
   ·cases t
    ·exact Qt hts h1
    ·exact Qt hts h1
  ·exact nomatch hs
 case h_4 t heq =>
  split at hs
  ·rename_i z hz
   obtain ⟨zv,h1,h2,_⟩:=JP (P:=P) (w:=w) (K:=K) hz
   obtain ⟨K',g1,g2,g3,g4⟩:=Q2O hk hp2 hs (vs:=zv.cells) h2.cells
   refine ⟨JT (Instr.alloc t true (.tuple #[])) (by simp only [execOp,heq]) ⟨_,_,K',?_,g1,g2,g3⟩,g4⟩
   simp only [Instr.alloc,Sem.run_bind,h1,Result.andThen_ok,newVar,newRow,run_newObj_alloc,Sem.run_pure]
  ·exact nomatch hs
 case h_5 t x heq =>
  split at hs
  ·rename_i z hz
   obtain ⟨K',g1,g2,g3,g4⟩:=Q2O hk hp2 hs (vs:=(a.eval x).cells) (Qt hts hz).cells
   refine ⟨JT (Instr.box t (a.eval x)) (by simp only [execOp,heq]) ⟨_,_,K',?_,g1,g2,g3⟩,g4⟩
   simp only [Instr.box,Sem.run_bind,Result.andThen_ok,newVar,newRow,run_newObj_alloc,Sem.run_pure]
  ·exact nomatch hs
 case h_6 t parts heq =>
  split at hs
  ·rename_i ps hps
   obtain ⟨h1,rfl⟩:=QC hs
   exact ⟨QU _ (by simp only [execOp,heq]) hk hp (QfZ (Yv hts hps) h1),Nat.le_refl _⟩
  ·exact nomatch hs
 case h_7 t len parts heq =>
  split at hs
  ·rename_i ps hps
   split at hs
   ·obtain ⟨u,w',K',g1,g2,g3,g4,g5⟩:=Q3N (a:=a) hk hp2 (Yv hts hps) hs
    exact ⟨JT _ (by simp only [execOp,heq]) ⟨u,w',K',g1,g2,g3,g4⟩,g5⟩
   obtain ⟨h1,rfl⟩:=QC hs
   exact ⟨Q9l _ (by simp only [execOp,heq]) hk hp (Q46 hk.ok (Yv hts hps) h1),Nat.le_refl _⟩
  ·exact nomatch hs
 case h_8 t x heq =>
  split at hs
  ·rename_i p hpx
   obtain ⟨h1,rfl⟩:=QC hs
   exact ⟨QU _ (by simp only [execOp,heq]) hk hp (Qb4 hok hh h1 (Qt hts hpx)),Nat.le_refl _⟩
  ·exact nomatch hs
 case h_9 t x y heq =>
  split at hs
  ·rename_i p u hpx hpy
   simp only [Option.map_eq_some_iff,Prod.mk.injEq] at hs
   obtain ⟨h'',h1,rfl,rfl⟩:=hs
   obtain ⟨w',K',g1,g2,g3,g4⟩:=Qib hk h1 (Qt hts hpx) (Qt hts hpy)
   refine ⟨Qb7 _ (by simp only [execOp,heq]) ⟨w',K',g1,g2,?_⟩,by omega⟩
   have:=g3.after (place:=place) fun r hr=>by rw [g4]; exact (hp r hr).2
   rw [g4] at this ⊢
   exact this
  ·exact nomatch hs
 case h_10 x heq =>
  split at hs
  ·rename_i u hu
   obtain ⟨h1,rfl⟩:=QC hs
   obtain ⟨g1,g2⟩:=Qar (P:=P) (w:=w) heq h1 (Qt hts hu)
   exact ⟨QbC g1 g2 (hk.after fun r hr=>(hp r hr).2),Nat.le_refl _⟩
  ·exact nomatch hs
 case h_11 op t x y yt heq =>
  split at hs
  ·rename_i p u hpx hpy
   obtain ⟨h1,rfl⟩:=QC hs
   exact ⟨QU _ (by simp only [execOp,heq]; rfl) hk hp (Qpv h1 (Qt hts hpx) (Qt hts hpy)),Nat.le_refl _⟩
  ·exact nomatch hs
 case h_12 op t x heq =>
  split at hs
  ·rename_i p hpx
   obtain ⟨h1,rfl⟩:=QC hs
   exact ⟨QU _ (by simp only [execOp,heq]) hk hp (Qqi h1 (Qt hts hpx)),Nat.le_refl _⟩
  ·exact nomatch hs
 case h_13 s d x heq =>
  split at hs
  ·rename_i q hpx
   obtain ⟨h1,rfl⟩:=QC hs
   exact ⟨QU _ (by simp only [execOp,heq]) hk hp (Qe1 hok hh h1 (Qt hts hpx)),Nat.le_refl _⟩
  ·rename_i p _ hpx
   obtain ⟨h1,rfl⟩:=QC hs
   exact ⟨Q9l _ (by simp only [execOp,heq]) hk hp (QeS hk.ok h1 (Qt hts hpx)),Nat.le_refl _⟩
  ·exact nomatch hs
 case h_14 fn first captured heq =>
  split at hs
  ·rename_i p q hpx hpy
   cases hs
   refine ⟨QU (Instr.makeFunc fn (first.map a.eval) (captured.map a.eval)) (by simp only [execOp,heq]) hk hp ⟨_,rfl,Den.of_func ?_ ?_⟩,Nat.le_refl _⟩
   ·rw [Array.toList_map]; exact Q2f hts hpx
   ·rw [Array.toList_map]; exact Q2f hts hpy
  ·exact nomatch hs
 case h_15 t x lo hi mx heq =>
  split at hs
  ·rename_i p hpx
   obtain ⟨h1,rfl⟩:=QC hs
   exact ⟨QU _ (by simp only [execOp,heq]) hk hp (QfG hts h1 (Qt hts hpx)),Nat.le_refl _⟩
  ·exact nomatch hs
 case h_16 t x f heq =>
  split at hs
  ·rename_i p hpx
   obtain ⟨h1,rfl⟩:=QC hs
   exact ⟨QU _ (by simp only [execOp,heq]) hk hp (Q9u h1 (Qt hts hpx)),Nat.le_refl _⟩
  ·exact nomatch hs
 case h_17 t x f heq =>
  split at hs
  ·rename_i p hpx
   obtain ⟨h1,rfl⟩:=QC hs
   exact ⟨QU _ (by simp only [execOp,heq]) hk hp (Qg6 h1 (Qt hts hpx)),Nat.le_refl _⟩
  ·exact nomatch hs
 case h_18 t x i heq =>
  split at hs
  ·rename_i p q hpx hpy
   obtain ⟨h1,rfl⟩:=QC hs
   exact ⟨QU _ (by simp only [execOp,heq]) hk hp (Q7R h1 (Qt hts hpx) (Qt hts hpy)),Nat.le_refl _⟩
  ·exact nomatch hs
 case h_19 t x i heq =>
  split at hs
  ·rename_i p q hpx hpy
   obtain ⟨h1,rfl⟩:=QC hs
   exact ⟨QU _ (by simp only [execOp,heq]) hk hp (QfV h1 (Qt hts hpx) (Qt hts hpy)),Nat.le_refl _⟩
  ·exact nomatch hs
 case h_20 x i heq =>
  split at hs
  ·rename_i vs hpx
   obtain ⟨h1,rfl⟩:=QC hs
   have hd:=Qt hts hpx
   generalize hq:a.eval x = q at hd
   obtain ⟨us,rfl,hl⟩:=hd.tuple_list
   obtain ⟨u,g1,g2⟩:=hl.get h1
   rw [Array.getElem?_toList] at g1
   exact ⟨QU (Instr.extract (.tuple us) i) (by simp only [execOp,heq,hq]) hk hp ⟨u,by simp [Instr.extract,g1],g2⟩,Nat.le_refl _⟩
  ·exact nomatch hs
 case h_21 t reserve heq =>
  split at hs
  ·rename_i kt et hu
   split at hs
   ·rename_i id h'' ha
    cases hs
    obtain ⟨u,w',K',g1,g2,g3,g4,g5⟩:=Q9O (P:=P) (t:=t) (kt:=kt) (et:=et) hk hp2 ha
    exact ⟨JT (Instr.makeMap t none) (by simp only [execOp,heq]; rfl) ⟨u,w',K',g1,g2,g3,g4⟩,g5⟩
   ·exact nomatch hs
  ·exact nomatch hs
 case h_22 t len cap heq =>
  split at hs
  ·rename_i p q hpx hpy
   obtain ⟨u,w',K',g1,g2,g3,g4,g5⟩:=Q5f hk hp2 hs (Qt hts hpx) (Qt hts hpy)
   exact ⟨JT _ (by simp only [execOp,heq]) ⟨u,w',K',g1,g2,g3,g4⟩,g5⟩
  ·exact nomatch hs
 case h_23 t x i ok heq =>
  split at hs
  ·rename_i p q hpx hpy
   obtain ⟨h1,rfl⟩:=QC hs
   exact ⟨QU _ (by simp only [execOp,heq]) hk hp (Qfe hok h1 (Qt hts hpx) (Qt hts hpy)),Nat.le_refl _⟩
  ·exact nomatch hs
 case h_24 t x i y heq =>
  split at hs
  ·rename_i p q r hpx hpy hpz
   simp only [Option.map_eq_some_iff,Prod.mk.injEq] at hs
   obtain ⟨h'',h1,rfl,rfl⟩:=hs
   obtain ⟨w',K',g1,g2,g3,g4⟩:=Q7O hk h1 (Qt hts hpx) (Qt hts hpy) (Qt hts hpz)
   refine ⟨Qb7 _ (by simp only [execOp,heq]) ⟨w',K',g1,g2,?_⟩,by omega⟩
   have:=g3.after (place:=place) fun r hr=>by rw [g4]; exact (hp r hr).2
   rw [g4] at this ⊢
   exact this
  ·exact nomatch hs
 case h_25 t x heq =>
  split at hs
  ·rename_i p hpx
   obtain ⟨u,w',K',g1,g2,g3,g4,g5⟩:=Qdb hk hp2 hs (Qt hts hpx)
   exact ⟨JT _ (by simp only [execOp,heq]) ⟨u,w',K',g1,g2,g3,g4⟩,g5⟩
  ·exact nomatch hs
 case h_26 x isS heq =>
  split at hs
  ·rename_i p hpx
   obtain ⟨u,w',g1,g2,g3,g4⟩:=QjG (P:=P) (ty:=o.type) hk hs (Qt hts hpx)
   refine ⟨JT _ (by simp only [execOp,heq]) ⟨u,w',K,g1,Kext.refl K,g2,?_⟩,by omega⟩
   have:=g3.after (place:=place) fun r hr=>by rw [g4]; exact (hp r hr).2
   rw [g4] at this ⊢
   exact this
  ·exact nomatch hs
 case h_27 c heq =>
  unfold callA at hs
  split at hs
  ·exact nomatch hs
  ·rename_i args hargs
   have hd:=Q2f hts hargs
   split at hs
   ·rename_i b hb
    exact Qcz heq hb hk hp (by rw [Array.toList_map]; exact hd) hs
   ·rename_i x hx
    split at hs
    ·rename_i f first captured hf
     obtain ⟨g1,g2⟩:=hcall _ _ _ _ _ hs
     have hfd:=Qt hts hf
     obtain ⟨va,vc,hev,hva,hvc⟩:=hfd.func_list
     have hall:DenL K (first ++ args ++ captured) (va ++ c.args.map a.eval ++ vc).toList:=by
      rw [Array.toList_append,Array.toList_append,Array.toList_map]
      exact (hva.append hd).append hvc
     have hgo:=g2 K HF V w _ hall hk
     refine ⟨Qke ?_,g1⟩
     have hex:(execOp a.eval o).run P w = (callFunc f (va ++ c.args.map a.eval ++ vc)).run P w:=by
      simp only [execOp,heq,resolve,hx,hev,Deferred.ofValue,pure_bind,invoke]
     rw [hex]
     have hsub:∀ i,afterV place h.length h'.length V i → afterV none h.length h'.length V i:=fun i hi=>⟨hi.1,(by intro e; cases e),hi.2.2⟩
     unfold CallGives at hgo ⊢
     split at hgo
     ·obtain ⟨K',k1,k2,k3⟩:=hgo
      exact ⟨K',k1,k2,k3.virgin hsub fun i hi=>⟨(k3.vlen i hi).1,fun e=>by have:=(hp i e).2; omega,Or.inr hi⟩⟩
     ·refine Calls.mono hgo fun e w' hr=>?_
      cases e with
      | returned u =>
       obtain ⟨K',k1,k2,k3⟩:=hr
       exact ⟨K',k1,k2,k3.virgin hsub fun i hi=>⟨(k3.vlen i hi).1,fun e=>by have:=(hp i e).2; omega,Or.inr hi⟩⟩
      | panicked c=>exact hr.elim
      | outgrown=>exact hr.elim
     ·exact hgo.elim
    ·exact nomatch hs
   ·exact nomatch hs
 case h_28=>exact nomatch hs
end
end Go.Proofs.YtfdcjngclelnhaaGreat
namespace Go.Proofs.YtfdcjngclelnhaaGreat
open Go Go.RowKit
variable [mode:Inhabited ModeT]
structure Sim (K:KW) (s:St) (HF:Nat → Option AObj) (V:Nat → Prop) (a:Act) (w:World):Prop where
 tmps:DenL K s.tmps a.tmps.toList
 defers:a.defers = []
 fit:Fit K s.heap HF V w
section
variable {P:Program} {K:KW} {w:World} {HF:Nat → Option AObj} {V:Nat → Prop}
theorem QcL {V:Nat → Prop} {n n' n'':Nat} (h1:n ≤ n') (h2:n' ≤ n'') (i:Nat) (h:afterV none n n'' V i):afterV none n' n'' (afterV none n n' V) i:=by
 obtain ⟨a,_,c⟩:=h
 exact ⟨⟨a,(by intro e; cases e),by omega⟩,(by intro e; cases e),by omega⟩
theorem Fit.trans {K':KW} {h h':Heap} {n:Nat} {w':World} (h1:n ≤ h.length) (h2:h.length ≤ h'.length) (hk:Fit K' h' HF (afterV none h.length h'.length (afterV none n h.length V)) w') (hv:∀ i,h'.length ≤ i → V i):Fit K' h' HF (afterV none n h'.length V) w' :=
 hk.virgin (QcL h1 h2) fun i hi=>⟨hv i hi,(by intro e; cases e),Or.inr hi⟩
theorem Fit.start {h:Heap} (hk:Fit K h HF V w):Fit K h HF (afterV none h.length h.length V) w:=hk.after (by intro r e; cases e)
theorem Qop (a:Act) (dst:Option Tmp) (v:Value):(a.put dst v).tmps.toList = (match dst with | some d=>a.tmps.toList.set d v | none=>a.tmps.toList):=by
 cases dst with
 | none=>rfl
 | some d=>simp [Act.put,Array.toList_setIfInBounds]
theorem Q3f (a:Act) (dst:Option Tmp) (v:Value):(a.put dst v).defers = a.defers:=by cases dst <;> rfl
theorem Qcu {ts:List AV} {a:Act} {v:AV} {u:Value} (h:DenL K ts a.tmps.toList) (hv:Den K v u) (dst:Option Tmp):DenL K (putA ts dst v) (a.put dst u).tmps.toList:=by
 rw [Qop]
 cases dst with
 | none=>exact h
 | some d=>exact h.set d hv
theorem QaH {ops:Array Oper} {o:Oper} {ts:List AV} {a:Act} {b:Bool} (h:DenL K ts a.tmps.toList) (hw:wantedA ops o ts = some b):Region.wanted o (yielded ops a.tmps) = b:=by
 unfold wantedA at hw
 unfold Region.wanted
 split at hw
 ·rename_i hg; cases hw; rw [hg]
 ·rename_i j want hg
  rw [hg]
  simp only []
  split at hw
  ·rename_i d hd
   split at hw
   ·rename_i c hc
    cases hw
    obtain ⟨u,h1,h2⟩:=h.get hc
    cases h2 with | dat h2=>?_
    cases h2
    rw [Array.getElem?_toList] at h1
    have:yielded ops a.tmps j = some c:=by simp [yielded,hd,h1]
    rw [this]
    cases c <;> cases want <;> rfl
   ·rename_i vs hc
    cases hw
    obtain ⟨u,h1,h2⟩:=h.get hc
    obtain ⟨us,rfl,_⟩:=h2.tuple_list
    rw [Array.getElem?_toList] at h1
    have:yielded ops a.tmps j = none:=by simp [yielded,hd,h1]
    rw [this]
    rfl
   ·exact nomatch hw
  ·exact nomatch hw
theorem Qdj {callf:CallF} (hcall:CallOk P callf) {ops:Array Oper} {i:Nat} {o:Oper} {a:Act} {ts:List AV} {h h':Heap} {v:AV} {place:Option Nat} (hi:ops[i]? = some o) (hts:DenL K ts a.tmps.toList) (hk:Fit K h HF V w) (hp:∀ r,place = some r → V r ∧ r < h.length)
  (hs:oneOp P callf ops place o ts h = some (v,h')) {next:Act → World → Prop} {Q:Exit → Act → World → Prop} (hn:∀ u w' K',Kext K K' → Den K' v u → Fit K' h' HF (afterV place h.length h'.length V) w' → next (a.put o.dst u) w') :
  wpOp P ops Q i next a w ∧ h.length ≤ h'.length:=by
 unfold oneOp at hs
 unfold wpOp
 rw [hi]
 simp only []
 split at hs
 ·rename_i hw
  rw [QaH hts hw]
  obtain ⟨h1,h2⟩:=QqF hcall (o:=o) hts hk hp hs
  exact ⟨by simp only [if_true]; exact Or.inl (h1 next Q hn),h2⟩
 ·rename_i hw
  rw [QaH hts hw]
  cases hs
  exact ⟨by simp only [Bool.false_eq_true,if_false]; exact hn undef w K (Kext.refl K) Q0z (hk.after fun r hr=>(hp r hr).2),Nat.le_refl _⟩
 ·exact nomatch hs
theorem Qgc {ops:Array Oper} {i:Nat} {C:Prop} {a:Act} (h:wpOp P ops (fun _ _ _=>False) i (fun _ _=>C) a w):C:=by
 unfold wpOp at h
 split at h
 ·exact h
 ·split at h
  ·rcases h with h | ⟨_,_,_,h⟩
   ·unfold Oper.wp at h
    generalize (execOp _ _).run P w = r at h
    cases r with
    | ok nx w' =>
     cases nx <;> simp only [Oper.upon] at h <;> first
      | exact h
      | (obtain ⟨e, w'', fr, hr, _⟩ := h []
         cases e with
         | returned v=>exact hr
         | panicked c=>exact hr.elim
         | outgrown=>obtain ⟨_,_,hr⟩:=hr; exact hr.elim)
      | (obtain ⟨v, w'', hr, _⟩ := h default []
         exact hr)
      | exact h.elim
    | halt x w'=>cases x <;> simp only [Oper.upon] at h
   ·exact h.elim
  ·exact h
theorem Q10 {callf:CallF} (hcall:CallOk P callf) {ops:Array Oper}:∀ (l:List Oper) (k:Nat) (s s':St) (K:KW) (V:Nat → Prop) (a:Act) (w:World) (Q:Exit → Act → World → Prop),(∀ j,l[j]? = ops[k + j]?) → regionT P callf ops l s = some s' → Sim K s HF V a w →
  s.heap.length ≤ s'.heap.length ∧ ((∀ a' w' K',Kext K K' → Sim K' s' HF (afterV none s.heap.length s'.heap.length V) a' w' → Q .normal a' w') → wpOps P ops Q (List.range' k l.length) a w)
 | [],k,s,s',K,V,a,w,Q,_,hr,hsim=>by
  simp [regionT] at hr
  subst hr
  exact ⟨Nat.le_refl _,fun hq=>hq a w K (Kext.refl K) ⟨hsim.tmps,hsim.defers,hsim.fit.start⟩⟩
 | o :: l,k,s,s',K,V,a,w,Q,hl,hr,hsim=>by
  simp only [regionT] at hr
  split at hr
  ·rename_i v h hone
   have hi:ops[k]? = some o:=by have:=hl 0; simpa using this.symm
   have hl':∀ j,l[j]? = ops[k + 1 + j]?:=fun j=>by have:=hl (j + 1); rw [show k + 1 + j = k + (j + 1) by omega]; simpa using this
   have hle1:=(Qdj hcall hi hsim.tmps hsim.fit (place:=none) (by intro r e; cases e) hone (next:=fun _ _=>True) (Q:=Q) (fun _ _ _ _ _ _=>trivial)).2
   have hnext:∀ u w' K',Kext K K' → Den K' v u → Fit K' h HF (afterV none s.heap.length h.length V) w' → h.length ≤ s'.heap.length ∧ ((∀ a' w' K',Kext K K' → Sim K' s' HF (afterV none s.heap.length s'.heap.length V) a' w' → Q .normal a' w') → wpOps P ops Q (List.range' (k + 1) l.length) (a.put o.dst u) w'):=fun u w' K' he hd hf=>by
    obtain ⟨g1,g2⟩:=Q10 hcall l (k + 1) ⟨putA s.tmps o.dst v,h⟩ s' K' _ (a.put o.dst u) w' Q hl' hr ⟨Qcu (hsim.tmps.mono he) hd _,by rw [Q3f]; exact hsim.defers,hf⟩
    refine ⟨g1,fun hq=>g2 fun a' w'' K'' he' hs'=>hq a' w'' K'' (he.trans he') ⟨hs'.tmps,hs'.defers,hs'.fit.trans hle1 g1 fun i hi=>hsim.fit.vlen i (by simp only at g1; omega)⟩⟩
   have hle2:h.length ≤ s'.heap.length:=by
    exact Qgc (Qdj hcall hi hsim.tmps hsim.fit (place:=none) (by intro r e; cases e) hone (next:=fun _ _=>h.length ≤ s'.heap.length) (Q:=fun _ _ _=>False) fun u w' K' he hd hf=>by
     obtain ⟨g1,_⟩:=Q10 hcall l (k + 1) ⟨putA s.tmps o.dst v,h⟩ s' K' _ (a.put o.dst u) w' Q hl' hr ⟨Qcu (hsim.tmps.mono he) hd _,by rw [Q3f]; exact hsim.defers,hf⟩
     exact g1).1
   refine ⟨Nat.le_trans hle1 hle2,fun hq=>?_⟩
   rw [List.length_cons,List.range'_succ,wpOps_cons]
   exact (Qdj hcall hi hsim.tmps hsim.fit (place:=none) (by intro r e; cases e) hone (next:=wpOps P ops Q (List.range' (k + 1) l.length)) (Q:=Q) fun u w' K' he hd hf=>(hnext u w' K' he hd hf).2 hq).1
  ·exact nomatch hr
end
end Go.Proofs.YtfdcjngclelnhaaGreat
namespace Go.Proofs.YtfdcjngclelnhaaGreat
open Go Go.RowKit
variable [mode:Inhabited ModeT]
structure Ent where
 d:Done
 v:AV
 h:Heap
 place:Option Nat
 at_:Nat
 lv:Nat
 v0:AV
 h0:Heap
def Ent.slots (e:Ent):List Nat:=e.place.toList ++ List.range' e.at_ e.lv
def lookT (t:Nat):(Nat → Bool) → List Ent → Option AV → Option AV
 | _,[],b=>b
 | S,e :: r,b=>lookT t (fun k=>S (k + 1)) r (if S 0 && e.d.dst == some t then b.map fun _=>e.v else b)
def lookH (id:Nat):(Nat → Bool) → List Ent → Option (Option AObj) → Option (Option AObj)
 | _,[],b=>b
 | S,e :: r,b=>lookH id (fun k=>S (k + 1)) r (if S 0 && e.d.writes.contains id then e.h[id]? else b)
theorem Q1F {t:Nat}:∀ {es:List Ent} {S S':Nat → Bool} {b:Option AV},(∀ (k:Nat) (e:Ent),es[k]? = some e → e.d.dst = some t → S k = S' k) → lookT t S es b = lookT t S' es b
 | [],_,_,_,_=>rfl
 | e :: es,S,S',b,h=>by
  simp only [lookT]
  have h0:(S 0 && e.d.dst == some t) = (S' 0 && e.d.dst == some t):=by
   by_cases hd:e.d.dst = some t
   ·rw [h 0 e rfl hd]
   ·have hf:(e.d.dst == some t) = false:=by simpa using hd
    rw [hf]; simp
  rw [h0]
  exact Q1F fun k e' hk hd=>h (k + 1) e' (by simpa using hk) hd
theorem Q1W {id:Nat}:∀ {es:List Ent} {S S':Nat → Bool} {b:Option (Option AObj)},(∀ (k:Nat) (e:Ent),es[k]? = some e → e.d.writes.contains id = true → S k = S' k) → lookH id S es b = lookH id S' es b
 | [],_,_,_,_=>rfl
 | e :: es,S,S',b,h=>by
  simp only [lookH]
  have h0:(S 0 && e.d.writes.contains id) = (S' 0 && e.d.writes.contains id):=by
   by_cases hd:e.d.writes.contains id = true
   ·rw [h 0 e rfl hd]
   ·simp at hd; simp [hd]
  rw [h0]
  exact Q1W fun k e' hk hd=>h (k + 1) e' (by simpa using hk) hd
theorem Q0L {t:Nat}:∀ {es:List Ent} {S:Nat → Bool} {b:Option AV},(∀ (k:Nat) (e:Ent),es[k]? = some e → e.d.dst = some t → S k = false) → lookT t S es b = b
 | [],_,_,_=>rfl
 | e :: es,S,b,h=>by
  simp only [lookT]
  have h0:(S 0 && e.d.dst == some t) = false:=by
   by_cases hd:e.d.dst = some t
   ·rw [h 0 e rfl hd]; rfl
   ·simp [hd]
  rw [h0]
  exact Q0L fun k e' hk hd=>h (k + 1) e' (by simpa using hk) hd
theorem Q0G {id:Nat}:∀ {es:List Ent} {S:Nat → Bool} {b:Option (Option AObj)},(∀ (k:Nat) (e:Ent),es[k]? = some e → e.d.writes.contains id = true → S k = false) → lookH id S es b = b
 | [],_,_,_=>rfl
 | e :: es,S,b,h=>by
  simp only [lookH]
  have h0:(S 0 && e.d.writes.contains id) = false:=by
   by_cases hd:e.d.writes.contains id = true
   ·rw [h 0 e rfl hd]; rfl
   ·simp at hd; simp [hd]
  rw [h0]
  exact Q0G fun k e' hk hd=>h (k + 1) e' (by simpa using hk) hd
theorem Q6N {t:Nat}:∀ {es:List Ent} {S S':Nat → Bool} {b:Option AV} {j:Nat} {e:Ent},es[j]? = some e → (∀ k,S' k = (S k || k == j)) → (e.d.dst = some t → ∀ (k:Nat) (e':Ent),j < k → es[k]? = some e' → e'.d.dst = some t → S k = false) →
  lookT t S' es b = if e.d.dst = some t then b.map fun _=>e.v else lookT t S es b
 | [],_,_,_,_,_,h,_,_=>by simp at h
 | x :: es,S,S',b,0,e,h,hS,hn=>by
  simp at h
  subst h
  simp only [lookT]
  have h0:S' 0 = true:=by rw [hS 0]; simp
  have h1:(fun k=>S' (k + 1)) = fun k=>S (k + 1):=by funext k; rw [hS]; simp
  rw [h0,h1]
  by_cases hd:x.d.dst = some t
  ·rw [if_pos hd]
   have:(true && x.d.dst == some t) = true:=by simp [hd]
   rw [this]
   simp only [if_true]
   exact Q0L fun k e' hk hdd=>hn hd (k + 1) e' (by omega) (by simpa using hk) hdd
  ·rw [if_neg hd]
   have:(true && x.d.dst == some t) = false:=by simp [hd]
   have h2:(S 0 && x.d.dst == some t) = false:=by simp [hd]
   rw [this,h2]
 | x :: es,S,S',b,j + 1,e,h,hS,hn=>by
  simp only [lookT]
  have h0:S' 0 = S 0:=by rw [hS 0]; simp
  rw [h0]
  rw [Q6N (S:=fun k=>S (k + 1)) (j:=j) (e:=e) (by simpa using h) (fun k=>by rw [hS]; simp) fun hd k e' hk hk' hdd=>hn hd (k + 1) e' (by omega) (by simpa using hk') hdd]
  split
  ·split
   ·cases b <;> rfl
   ·rfl
  ·rfl
theorem Q76 {id:Nat}:∀ {es:List Ent} {S S':Nat → Bool} {b:Option (Option AObj)} {j:Nat} {e:Ent},es[j]? = some e → (∀ k,S' k = (S k || k == j)) →
  (e.d.writes.contains id = true → ∀ (k:Nat) (e':Ent),j < k → es[k]? = some e' → e'.d.writes.contains id = true → S k = false) → lookH id S' es b = if e.d.writes.contains id = true then e.h[id]? else lookH id S es b
 | [],_,_,_,_,_,h,_,_=>by simp at h
 | x :: es,S,S',b,0,e,h,hS,hn=>by
  simp at h
  subst h
  simp only [lookH]
  have h0:S' 0 = true:=by rw [hS 0]; simp
  have h1:(fun k=>S' (k + 1)) = fun k=>S (k + 1):=by funext k; rw [hS]; simp
  rw [h0,h1]
  by_cases hd:x.d.writes.contains id = true
  ·rw [if_pos hd,hd]
   simp only [Bool.and_self,if_true]
   exact Q0G fun k e' hk hdd=>hn hd (k + 1) e' (by omega) (by simpa using hk) hdd
  ·rw [if_neg hd]
   have hd':x.d.writes.contains id = false:=by simpa using hd
   rw [hd']
   simp
 | x :: es,S,S',b,j + 1,e,h,hS,hn=>by
  simp only [lookH]
  have h0:S' 0 = S 0:=by rw [hS 0]; simp
  rw [h0]
  rw [Q76 (S:=fun k=>S (k + 1)) (j:=j) (e:=e) (by simpa using h) (fun k=>by rw [hS]; simp) fun hd k e' hk hk' hdd=>hn hd (k + 1) e' (by omega) (by simpa using hk') hdd]
def Closed (ops:List Oper) (S:Nat → Bool):Prop:=∀ (i:Nat) (o:Oper),S i = true → ops[i]? = some o → ∀ e,e ∈ o.after.toList → Region.binds .any e = true → S e.on = true
theorem QjO {es:List Edge} {acc:List Nat} {k:Nat}:∀ {s:Nat},(es.foldl (fun s e=>if Region.binds .any e then s ||| 2 ^ e.on ||| acc.getD e.on 0 else s) s).testBit k = true → s.testBit k = true ∨ ∃ e,e ∈ es ∧ Region.binds .any e = true ∧ (e.on = k ∨ (acc.getD e.on 0).testBit k = true):=by
 induction es with
 | nil=>intro s h; exact Or.inl h
 | cons e es ih =>
  intro s h
  simp only [List.foldl_cons] at h
  rcases ih h with h1 | ⟨e',h1,h2,h3⟩
  ·split at h1
   ·rename_i hb
    simp only [Nat.testBit_or,Bool.or_eq_true] at h1
    rcases h1 with (h1 | h1) | h1
    ·exact Or.inl h1
    ·refine Or.inr ⟨e,by simp,hb,Or.inl ?_⟩
     rw [Nat.testBit_two_pow] at h1
     simpa using h1
    ·exact Or.inr ⟨e,by simp,hb,Or.inr h1⟩
   ·exact Or.inl h1
  ·exact Or.inr ⟨e',by simp [h1],h2,h3⟩
theorem Qes {ops:List Oper} {S:Nat → Bool} (hS:Closed ops S):∀ {l:List Oper} {acc:List Nat},(∀ j,l[j]? = ops[acc.length + j]?) → (∀ (i m:Nat),acc[i]? = some m → (∀ o,ops[i]? = some o → ∀ e,e ∈ o.after.toList → Region.binds .any e = true → S e.on = true) → ∀ k,m.testBit k = true → S k = true) →
  ∀ (i m:Nat),(masksA l acc)[i]? = some m → (∀ o,ops[i]? = some o → ∀ e,e ∈ o.after.toList → Region.binds .any e = true → S e.on = true) → ∀ k,m.testBit k = true → S k = true
 | [],acc,_,hacc=>by simpa [masksA] using hacc
 | o :: l,acc,hl,hacc=>by
  simp only [masksA]
  have ho:ops[acc.length]? = some o:=by have:=hl 0; simpa using this.symm
  refine Qes hS (fun j=>?_) fun i m hi hp k hk=>?_
  ·have:=hl (j + 1)
   simp only [List.length_append,List.length_singleton]
   rw [show acc.length + 1 + j = acc.length + (j + 1) by omega]
   simpa using this
  ·rw [List.getElem?_append] at hi
   split at hi
   ·exact hacc i m hi hp k hk
   ·rename_i hge
    have hieq:i = acc.length:=by
     have:=Qi hi
     simp at this
     omega
    subst hieq
    rw [Nat.sub_self] at hi
    have hi:=Option.some.inj hi
    subst hi
    rcases QjO hk with h | ⟨e,h1,h2,h3⟩
    ·simp at h
    ·have hs:=hp o ho e h1 h2
     rcases h3 with h3 | h3
     ·rw [← h3]; exact hs
     ·have hin:∃ m,acc[e.on]? = some m:=by
       rcases Nat.lt_or_ge e.on acc.length with h | h
       ·exact ⟨_,List.getElem?_eq_getElem h⟩
       ·rw [List.getD_eq_getElem?_getD,List.getElem?_eq_none h] at h3
        simp at h3
      obtain ⟨m,hm⟩:=hin
      rw [List.getD_eq_getElem?_getD,hm] at h3
      exact hacc e.on m hm (fun o' ho' e' he' hb'=>hS e.on o' hs ho' e' he' hb') k h3
theorem QbR {a b:List Nat} (h:apartL a b = true) {i:Nat} (ha:a.contains i = true) (hb:b.contains i = true):False:=by
 unfold apartL at h
 have:=List.all_eq_true.1 h i (by simpa using ha)
 rw [hb] at this
 simp at this
theorem Q5E {m:Nat} {d:Done}:∀ {l:List Done} {i:Nat},checkOne m d i l = true → ∀ (j:Nat) (e:Done),l[j]? = some e → m.testBit (i + j) = true ∨ apartD e d = true
 | [],_,_,j,e,h=>by simp at h
 | x :: l,i,hc,j,e,h=>by
  simp only [checkOne,Bool.and_eq_true,Bool.or_eq_true] at hc
  cases j with
  | zero=>simp at h; subst h; exact hc.1
  | succ j =>
   have:=Q5E hc.2 j e (by simpa using h)
   rwa [show i + 1 + j = i + (j + 1) by omega] at this
end Go.Proofs.YtfdcjngclelnhaaGreat
