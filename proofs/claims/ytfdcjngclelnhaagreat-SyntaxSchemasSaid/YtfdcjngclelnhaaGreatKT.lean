/- Part of a proof. -/
import Derived.Test.YtfdcjngclelnhaaGreatKC5
import Derived.Test.YtfdcjngclelnhaaGreatKM
set_option linter.unusedSectionVars false
set_option linter.unusedSimpArgs false
set_option linter.unusedVariables false
namespace Go.Proofs.YtfdcjngclelnhaaGreat
open Go Go.RowKit
def Lift (k:PrimK) (p:Prim):Prop:=∀ args h K,k args h K → ∃ v h',p args h = some (v,h') ∧ K v h'
abbrev Ent1:=List Nat × PrimK × Prim
structure EntryOk (P:Program) (x:Ent1):Prop where
 lift:Lift x.2.1 x.2.2
 call:CallFOk P (x.1.headD 0) x.2.2
def Par (Kk:Kv) (p:Prop) (o:Option (AV × Heap)):Prop:=p → ∃ v h',o = some (v,h') ∧ Kk v h'
theorem Qm {Kk:Kv} {v:AV} {h:Heap}:Par Kk (Kk v h) (some (v,h)):=fun hk=>⟨v,h,rfl,hk⟩
theorem Qb {Kk:Kv} {o:Option (AV × Heap)}:Par Kk False o:=fun hk=>hk.elim
theorem Ql {Kk:Kv} {b:Bool} {p q:Prop} {t f:Option (AV × Heap)} (ht:Par Kk p t) (hf:Par Kk q f):Par Kk (cnd b p q) (cnd b t f):=by cases b <;> assumption
theorem Qq {Kk:Kv} {α:Type} {o:Option α} {K:α → Option (AV × Heap)} {K':α → Prop} (h:∀ a,Par Kk (K' a) (K a)):Par Kk (bnd False o K') (bnd none o K):=by
 cases o with
 | none=>exact Qb
 | some a=>exact h a
theorem Qn {Kk:Kv} {P:Program} {t:TypeId} {d:D} {K:AV → Option (AV × Heap)} {K':AV → Prop} (h:∀ a,Par Kk (K' a) (K a)):Par Kk (castK False P t d K') (castK none P t d K):=by
 unfold castK
 split
 ·exact Qq fun a=>h _
 ·exact Qq fun a=>h _
 ·exact Qq fun a=>h _
 ·exact Ql (h _) Qb
 ·exact Ql (h _) Qb
 ·exact h _
 ·exact Qb
theorem Qjp {Kk:Kv} {h:Heap} {i:Nat} {t:TypeId} {K:List AV → Nat → Option (AV × Heap)} {K':List AV → Nat → Prop} (hh:∀ a b,Par Kk (K' a b) (K a b)):Par Kk (boxK False h i t K') (boxK none h i t K):=by
 unfold boxK
 split
 ·split
  ·exact hh _ _
  ·exact Qb
 ·exact Qb
theorem Qp {α β:Type} {o:Option α} {K:α → Option β} {b:β} (h:bnd none o K = some b):∃ a,o = some a ∧ K a = some b:=by
 cases o with
 | none=>cases h
 | some a=>exact ⟨a,rfl,h⟩
theorem YZ {β:Type} {c:Bool} {t:Option β} {b:β} (h:cnd c t none = some b):c = true ∧ t = some b:=by
 cases c with
 | false=>cases h
 | true=>exact ⟨rfl,h⟩
theorem ZP {β:Type} {P:Program} {t:TypeId} {d:D} {K:AV → Option β} {b:β} (h:castK none P t d K = some b):K (.dat d) = some b:=by
 unfold castK at h
 split at h
 ·obtain ⟨n,h1,h2⟩:=Qp h
  rw [Qem h1]; exact h2
 ·obtain ⟨n,h1,h2⟩:=Qp h
  rw [QdT h1]; exact h2
 ·obtain ⟨n,h1,h2⟩:=Qp h
  rw [QdN h1]; exact h2
 ·obtain ⟨h1,h2⟩:=YZ h
  rw [Q3b h1]; exact h2
 ·obtain ⟨h1,h2⟩:=YZ h
  rw [Q3b h1]; exact h2
 ·exact h
 ·cases h
theorem Qit {β:Type} {h:Heap} {i:Nat} {t:TypeId} {K:List AV → Nat → Option β} {b:β} (hk:boxK none h i t K = some b):∃ cs v,h[i]? = some (some (.cells t cs v)) ∧ K (cs.map sealC) v = some b:=by
 unfold boxK at hk
 split at hk
 ·rename_i e cs v hi
  split at hk
  ·rename_i he
   have:=Nat.eq_of_beq_eq_true he
   subst this
   exact ⟨cs,v,hi,hk⟩
  ·cases hk
 ·cases hk
theorem QaL {t:TypeId} {d:D} (h:okG t d = true):d = G t d:=Q3b h
theorem Qu {Kk:Kv} {h:Heap} {i t:Nat} {K:Nat → Nat → Option (AV × Heap)} {K':Nat → Nat → Prop} (hh:∀ a b,Par Kk (K' a b) (K a b)):Par Kk (ptrK False h i t K') (ptrK none h i t K):=by
 unfold ptrK
 split
 ·split
  ·exact hh _ _
  ·exact Qb
 ·exact Qb
theorem Qj2 {β:Type} {h:Heap} {i t:Nat} {K:Nat → Nat → Option β} {b:β} (hk:ptrK none h i t K = some b):∃ a v,h[i]? = some (some (.cells t [.ptr (some (a,0))] v)) ∧ K a v = some b:=by
 unfold ptrK at hk
 split at hk
 ·rename_i e a v hi
  split at hk
  ·rename_i he
   have:=Nat.eq_of_beq_eq_true he
   subst this
   exact ⟨a,v,hi,hk⟩
  ·cases hk
 ·cases hk
theorem J6 {β:Type} {a b:Nat} {K:Option β} {x:β} (h:cnd (Nat.beq a b) K none = some x):a = b ∧ K = some x:=by
 obtain ⟨h1,h2⟩:=YZ h
 exact ⟨Nat.eq_of_beq_eq_true h1,h2⟩
theorem QiJ {β:Type} {a b:Nat} {K:Option β} {x:β} (h:cnd (Nat.blt a b) K none = some x):a < b ∧ K = some x:=by
 obtain ⟨h1,h2⟩:=YZ h
 exact ⟨by simpa [Nat.blt_eq] using h1,h2⟩
theorem Qig:∀ {p q:Pth},peq p q = true → p = q
 | [],[],_=>rfl
 | i :: p,j :: q,h=>by
  simp only [peq] at h
  split at h
  ·rename_i e; rw [Nat.eq_of_beq_eq_true e,Qig h]
  ·cases h
 | [],_ :: _,h=>nomatch h
 | _ :: _,[],h=>nomatch h
def dtab:List Ent1 → List Nat → Option Prim
 | [],_=>none
 | x :: r,q=>match peq x.1 q with | true=>some x.2.2 | false=>dtab r q
def callD (l:List Ent1):CallF:=fun f args h=>match dtab l (f :: fnIds args) with | some p=>p args h | none=>none
def tabE (l:List Ent1):CallK:=tab (l.map fun x=>(x.1,x.2.1))
theorem Qnd:∀ {P:Program} {l:List Ent1},(∀ x ∈ l,EntryOk P x) → ∀ (q:List Nat) (args:List AV) (h:Heap) (K:Kv),selK (l.map fun x=>(x.1,x.2.1)) q args h K → ∃ p,dtab l q = some p ∧ ∃ v h',p args h = some (v,h') ∧ K v h'
 | P,[],_,q,args,h,K,hk=>hk.elim
 | P,x :: r,hl,q,args,h,K,hk=>by
  cases hq:peq x.1 q with
  | true =>
   simp only [List.map_cons,selK,hq] at hk
   simp only [dtab,hq]
   exact ⟨_,rfl,(hl x (by simp)).lift args h K hk⟩
  | false =>
   simp only [List.map_cons,selK,hq] at hk
   simp only [dtab,hq]
   exact Qnd (l:=r) (fun y hy=>hl y (by simp [hy])) q args h K hk
theorem QrH {P:Program} {l:List Ent1} (hl:∀ x ∈ l,EntryOk P x):CkOk (tabE l) (callD l):=by
 intro f p h args hh K hk
 unfold tabE tab at h
 cases h
 obtain ⟨p,h1,h2⟩:=Qnd hl _ _ _ _ hk
 unfold callD
 rw [h1]; exact h2
theorem QeT:∀ {l:List Ent1} {q:List Nat} {p:Prim},dtab l q = some p → ∃ x ∈ l,x.1 = q ∧ x.2.2 = p
 | [],_,_,h=>nomatch h
 | x :: r,q,p,h=>by
  cases hf:peq x.1 q with
  | true =>
   simp only [dtab,hf] at h
   cases h
   exact ⟨x,by simp,Qig hf,rfl⟩
  | false =>
   simp only [dtab,hf] at h
   obtain ⟨y,h1,h2⟩:=QeT h
   exact ⟨y,by simp [h1],h2⟩
theorem QnT {P:Program} {l:List Ent1} (hl:∀ x ∈ l,EntryOk P x):CallOk P (callD l):=by
 intro f args h v h' hc
 unfold callD at hc
 split at hc
 ·rename_i p hp
  obtain ⟨x,h1,h2,rfl⟩:=QeT hp
  have:=(hl x h1).call args h v h' hc
  rw [h2] at this
  exact this
 ·cases hc
theorem Qba {is isn:List Nat} {j t k a:Nat} {ver:Nat} (h:is.getD k 0 = a) (hk:k < j + 1) (hn:k < isn.length ∧ isn.getD k 0 = a):SeenG is isn j (some (.cells t [.ptr (some (a,0))] ver)) (some (.cells t [.ptr (some (k,0))] 0)) (some (.cells t [.ptr (some (k,0))] 0)) (some (.cells t [.ptr (some (a,0))] ver)):=by
 refine ⟨_,_,_,_,_,[.ptr (some (k,0))],rfl,rfl,rfl,?_,?_,?_,?_⟩
 ·simp only [renL,AV.ren,hn.2]
 ·simp only [List.map_cons,List.map_nil,sealC,renL,AV.ren,h]
 ·simp only [smallL,AV.small,Bool.and_true,decide_eq_true_eq]; exact hk
 ·simp only [smallL,AV.small,Bool.and_true,decide_eq_true_eq]; exact hn.1
theorem nd1 {a:Nat}:[a].Nodup:=List.nodup_cons.2 ⟨by simp,List.nodup_nil⟩
def sorted:List Nat → Bool
 | a :: b :: r=>decide (a < b) && sorted (b :: r)
 | _=>true
theorem Qs4 {a:Nat}:sorted [a] = true:=rfl
theorem Qs0 {a b:Nat} {r:List Nat} (h:a < b) (hr:sorted (b :: r) = true):sorted (a :: b :: r) = true:=by simp [sorted,h,hr]
theorem Qdq:∀ {is:List Nat},sorted is = true → ∀ a b,a < b → b < is.length → is.getD a 0 < is.getD b 0
 | [],_,a,b,_,h=>by simp at h
 | [x],_,a,b,h1,h2=>by simp at h2; omega
 | x :: y :: r,h,a,b,h1,h2=>by
  simp only [sorted,Bool.and_eq_true,decide_eq_true_eq] at h
  have ih:=Qdq (is:=y :: r) h.2
  cases b with
  | zero=>omega
  | succ b =>
   cases a with
   | succ a=>simpa using ih a b (by omega) (by simpa using h2)
   | zero =>
    cases b with
    | zero=>simpa using h.1
    | succ b =>
     have:=ih 0 (b + 1) (by omega) (by simpa using h2)
     simp at this ⊢
     omega
def AllJ (p:Nat → Prop):Nat → Nat → Prop
 | _,0=>True
 | i,n + 1=>p i ∧ AllJ p (i + 1) n
theorem Jo {p:Nat → Prop} {i:Nat}:AllJ p i 0:=trivial
theorem Ji {p:Nat → Prop} {i n:Nat} (h:p i) (hr:AllJ p (i + 1) n):AllJ p i (n + 1):=⟨h,hr⟩
theorem QnZ {p:Nat → Prop}:∀ {n i:Nat},AllJ p i n → ∀ j,j < n → p (i + j)
 | n + 1,i,h,0,_=>h.1
 | n + 1,i,h,j + 1,hj=>by have:=QnZ h.2 j (by omega); rwa [show i + 1 + j = i + (j + 1) by omega] at this
theorem Jn {p:Nat → Prop} {n:Nat} (h:AllJ p 0 n):∀ j,j < n → p j:=fun j hj=>by have:=QnZ h j hj; rwa [Nat.zero_add] at this
theorem Qe2:∀ {l:List (Pth × Hook)} {p:Pth} {k:Hook},hkT l p = some k → (p,k) ∈ l
 | [],_,_,h=>nomatch h
 | (q,k0) :: r,p,k,h=>by
  simp only [hkT] at h
  split at h
  ·rename_i e; cases h; rw [Qig e]; simp
  ·simp [Qe2 h]
def HooksOk (P:Program) (body:Code) (Q:Exit → Act → World → Prop) (E:Entry) (l:List (Pth × Hook)):Prop :=
 ∀ x ∈ l,E.h.length ≤ x.2.base ∧ ∀ ts h,x.2.go ts h → Sem P body Q E (.at x.1) ts h
theorem Qkm {P:Program} {body:Code} {Q:Exit → Act → World → Prop} {E:Entry}:HooksOk P body Q E []:=fun _ h=>nomatch h
theorem Qi4 {P:Program} {body:Code} {Q:Exit → Act → World → Prop} {E:Entry} {p:Pth} {d:List Nat} {b:Nat} {u:Bool} {l:List (Pth × Hook)} (hb:E.h.length = b) (hl:HooksOk P body Q E l) :
  HooksOk P body Q E ((p,⟨d,b,u,fun ts h=>Sem P body Q E (.at p) ts h⟩) :: l):=by
 intro x hx
 rcases List.mem_cons.1 hx with rfl | hx
 ·exact ⟨by simp [hb],fun _ _ h=>h⟩
 ·exact hl x hx
theorem Qh {P:Program} {f:FuncId} {args:List AV} {h:Heap} {v:AV} {h':Heap} (hc:Call1 P f (args.map sealV) h v h'):Call1 P f args h v h' :=
 ⟨hc.1,fun K HF V w vargs hargs hk=>hc.2 K HF V w vargs (JS (fun _ _=>H8) hargs) hk⟩
theorem CallE.frame0 {P:Program} {f:FuncId} {args:List AV} {h:Heap} {v:AV} (hc:CallE P f args [] v []) (hsm:smallL 0 args = true) (hv:v.plain = true):Call1 P f (renL [] args) h v h:=by
 have:=hc.frame (h:=h) (is:=[]) (os:=[]) List.nodup_nil rfl rfl rfl hsm hv (fun j hj=>by simp at hj)
 exact this
theorem QoU {P:Program} {body:Code} {Q:Exit → Act → World → Prop} {E:Entry} {p:Pth} {ts:List AV} {h:Heap} (hs:Sem P body Q E (.on p) ts h):Sem P body Q E (.at p) ts h:=hs
theorem QiG {P:Program}:∀ x ∈ ([]:List Ent1),EntryOk P x:=fun _ h=>nomatch h
theorem all_cons {P:Program} {a:Ent1} {l:List Ent1} (h:EntryOk P a) (hl:∀ x ∈ l,EntryOk P x):∀ x ∈ a :: l,EntryOk P x:=fun x hx=>by
 rcases List.mem_cons.1 hx with rfl | hx
 ·exact h
 ·exact hl x hx
theorem Q7:ProgOk Tryz.prog:=⟨by kernel_rfl,by kernel_rfl⟩
end Go.Proofs.YtfdcjngclelnhaaGreat
namespace Go.Proofs.YtfdcjngclelnhaaGreat
open Go Go.RowKit
variable [mode:Inhabited ModeT]
noncomputable def finG (P:Program) (gs:List Bool) (f:FuncId) (n:Nat) (fn:Func) (K:Kv) (e:Ex) (ts:List AV) (h:Heap):Prop :=
 match e with
 | .exit _=>False
 | .goto _=>False
 | _=>match resultsK P ts h fn.results.toList with
  | some vs=>match leaveA f n (tupleA vs) h with
   | (v,h')=>K v (sealG gs h')
  | none=>False
noncomputable def execG (P:Program) (gs:List Bool) (ck:CallK) (f:FuncId) (fn:Func) (hk:Pth → Option Hook) (n:Nat) (c:Ctl) (ts:List AV) (h:Heap) (N:Nat) (K:Kv):Prop :=
 match fn.body with
 | some body=>exec P ck body hk (finG P gs f N fn K) n c ts h
 | none=>False
section
variable {P:Program} {gs:List Bool} {f:FuncId} {fn:Func} {body:Code}
def QvG (P:Program) (gs:List Bool) (fn:Func) (E:Entry) (v:AV) (h':Heap):Exit → Act → World → Prop :=
 bodyPost P fn (fun | .returned u,w'=>∃ K' hh,sealG gs hh = h' ∧ Kext E.K K' ∧ Den K' v u ∧ Fit K' hh E.HF (afterV none E.h.length hh.length E.V) w' | _,_=>False)
theorem QmC (hP:ProgOk P) (hfn:P.funcs[f]? = some fn) (hbody:fn.body = some body) {args:List AV} {h:Heap} {v:AV} {h':Heap}
  (hs:∀ E:Entry,E.h = h → Sem P body (QvG P gs fn E v h') E (.at []) (startT fn args) h):CallX P gs f args h v h':=by
 intro K HF V w vargs hargs hk
 have hcf:(callFunc f vargs).run P w = .ok (.enter f vargs) w:=by
  have hname : (fn.name == "runtime.NumGoroutine") = false := by
   have:=List.all_eq_true.1 hP.named fn (Array.mem_toList_iff.2 (Array.mem_of_getElem? hfn))
   simpa [hbody] using this
  simp only [callFunc,Sem.run_bind,run_program,Result.andThen_ok,hfn,hname,hbody,Option.isNone_some,Bool.false_eq_true,if_false,Sem.run_pure]
 rw [hcf]
 refine calls_of_wp hfn hbody ?_
 have hsz:vargs.size = args.length:=by have:=hargs.length; simpa using this
 have:=hs ⟨K,HF,V,h,w,hk⟩ rfl { tmps:=vargs ++ Array.replicate (fn.ntmps - vargs.size) undef,defers:=[] } w ⟨startT fn args,K,Ag.refl _,Kext.refl K,Nat.le_refl _,?_,rfl,hk.start⟩
 ·exact Y3 this
 ·rw [Array.toList_append,Array.toList_replicate,hsz]
  exact (JS (fun _ _=>H8) hargs).append (DenL.replicate Q0z _)
theorem Qq4 {E:Entry} {v:AV} {h':Heap} (e:Ex) (ts:List AV) (h:Heap) (hf:finG P gs f E.h.length fn (fun v1 h1=>v1 = v ∧ h1 = h') e ts h):Sem P body (QvG P gs fn E v h') E (.out e []) ts h:=by
 intro a w hi
 obtain ⟨ts0,K,hag,hext,hle,hsim⟩:=hi
 have key:(match resultsK P ts h fn.results.toList with
   | some vs=>match leaveA f E.h.length (tupleA vs) h with
    | (v1,h1)=>v1 = v ∧ sealG gs h1 = h'
   | none=>False) → QvG P gs fn E v h' .ret a w:=by
  intro hf
  split at hf
  ·rename_i vs hvs
   split at hf
   rename_i v1 h1 hl
   obtain ⟨rfl,rfl⟩:=hf
   obtain ⟨us,g1,g2⟩:=Q1m (P:=P) hsim.tmps hsim.fit (Q2I hag hvs)
   have hdt:=Q85 g2
   have hres':(results fn a.tmps).run P w = .ok (if hl:us.toArray.size = 1 then us.toArray[0] else .tuple us.toArray) w:=by
    rw [Q7i,Sem.run_bind,Array.mapM_eq_mapM_toList,Sem.run_map,g1]
    rfl
   obtain ⟨K'',q1,q2,q3⟩:=QdL E.fit hext hdt hsim.fit hle hl
   exact ⟨hsim.defers,_,hres',K'',h1,rfl,q1,q2,q3⟩
  ·exact hf.elim
 unfold finG at hf
 cases e with
 | exit _=>exact hf.elim
 | goto _=>exact hf.elim
 | normal=>exact key hf
 | ret=>exact key hf
end
theorem QoH {P:Program} {gs:List Bool} (hP:ProgOk P) {f:FuncId} {fn:Func} {body:Code} (hb:fn.body = some body) {l:List Ent1} (hl:∀ x ∈ l,EntryOk P x) {E:Entry} {hks:List (Pth × Hook)} {v:AV} {h':Heap}
  (hhk:HooksOk P body (QvG P gs fn E v h') E hks) {n N:Nat} (hN:E.h.length = N) {c:Ctl} {ts:List AV} {h:Heap}
  (hx:execG P gs (tabE l) f fn (hkT hks) n c ts h N (fun v1 h1=>v1 = v ∧ h1 = h')):Sem P body (QvG P gs fn E v h') E c ts h:=by
 unfold execG at hx
 rw [hb] at hx
 refine Qjk hP.mixed (QnT hl) (QrH hl) (fun p k hk=>?_) (fun e ts h hf=>?_) n c ts h hx
 ·exact hhk _ (Qe2 hk)
 ·subst hN; exact Qq4 (f:=f) e ts h hf
theorem CallX.plain {P:Program} {f:FuncId} {args:List AV} {h:Heap} {v:AV} {h':Heap} (hc:CallX P [] f args h v h'):CallE P f args h v h':=hc
def boxG {Z:Type} (z:Z) (h:Heap) (i:Nat) (t:TypeId) (K:List AV → Nat → Z):Z :=
 match h[i]? with
 | some (some (.cells e cs v))=>match Nat.beq e t with
  | true=>K cs v
  | false=>z
 | _=>z
theorem Qek {Kk:Kv} {h:Heap} {i t:Nat} {K:List AV → Nat → Option (AV × Heap)} {K':List AV → Nat → Prop} (hh:∀ a b,Par Kk (K' a b) (K a b)):Par Kk (boxG False h i t K') (boxG none h i t K):=by
 unfold boxG
 split
 ·split
  ·exact hh _ _
  ·exact Qb
 ·exact Qb
theorem QeQ {β:Type} {h:Heap} {i t:Nat} {K:List AV → Nat → Option β} {b:β} (hk:boxG none h i t K = some b):∃ cs v,h[i]? = some (some (.cells t cs v)) ∧ K cs v = some b:=by
 unfold boxG at hk
 split at hk
 ·rename_i e cs v hi
  split at hk
  ·rename_i he
   have:=Nat.eq_of_beq_eq_true he
   subst this
   exact ⟨cs,v,hi,hk⟩
  ·cases hk
 ·cases hk
inductive GC where
 | n
 | m
 | o (es:List D) (w:Nat)
def gcas {Z:Type} (g:GC) (a c:Z) (b:List D → Nat → Z):Z :=
 match g with
 | .n=>a
 | .m=>c
 | .o es w=>b es w
theorem Y5 {Kk:Kv} {g:GC} {a c:Option (AV × Heap)} {b:List D → Nat → Option (AV × Heap)} {a' c':Prop} {b':List D → Nat → Prop} (ha:Par Kk a' a) (hc:Par Kk c' c) (hb:∀ es w,Par Kk (b' es w) (b es w)):Par Kk (gcas g a' c' b') (gcas g a c b):=by
 cases g with
 | n=>exact ha
 | m=>exact hc
 | o es w=>exact hb es w
theorem Q7W {is isn:List Nat} {j:Nat} {o s s' o':Option AObj} {e:TypeId} {c0:List AV} {ver:Nat} {e':TypeId} {c':List AV} {ver':Nat} (h2:s = some (.cells e c0 ver)) (h3:s' = some (.cells e' c' ver')) (h1:o = some (.cells e (c0.map (AV.renC is)) ver)) (h4:o' = some (.cells e' (c'.map (AV.renC isn)) ver'))
  (h5:c0.all (AV.smallC (j + 1) j) = true) (h6:c'.all (AV.smallC isn.length j) = true):SeenX is isn j true o s s' o':=by
 subst h1 h2 h3 h4
 exact .grows _ _ _ _ _ _ h5 h6
theorem ZA {m j:Nat} (h:j < m) {off v e:Nat} {es:List D} {l:List AV} (hl:l.all (AV.smallC m j) = true):(AV.own (.at j off v e) es :: l).all (AV.smallC m j) = true:=by
 simp only [List.all_cons,AV.smallC,Nat.beq_refl,h,decide_true,Bool.and_self,Bool.true_and]
 exact hl
theorem ZC {m j i:Nat} (h:i < m) {o:Nat} {l:List AV} (hl:l.all (AV.smallC m j) = true):(AV.ptr (some (i,o)) :: l).all (AV.smallC m j) = true:=by
 simp only [List.all_cons,AV.smallC,AV.small,h,decide_true,Bool.true_and]
 exact hl
end Go.Proofs.YtfdcjngclelnhaaGreat
namespace Go.Proofs.YtfdcjngclelnhaaGreat
open Go Go.RowKit
open Classical in
noncomputable def pick {O R:Type} (enc:O → R) (w:(R → Prop) → Prop):Option O:=if h:∃ o,w (fun q=>q = enc o) then some h.choose else none
theorem QkI {O R:Type} {enc:O → R} {w:(R → Prop) → Prop} {o:O} (h:pick enc w = some o):w (fun q=>q = enc o):=by
 unfold pick at h
 split at h
 ·rename_i hx; cases h; exact hx.choose_spec
 ·cases h
theorem QpR {O R:Type} {enc:O → R} {w:(R → Prop) → Prop} {o:O} (hi:∀ a b,enc a = enc b → a = b) (h:∀ q:R → Prop,w q = q (enc o)):pick enc w = some o:=by
 have hx:∃ o,w (fun q=>q = enc o):=⟨o,by rw [h]⟩
 unfold pick
 rw [dif_pos hx]
 have:=hx.choose_spec
 rw [h] at this
 rw [hi _ _ this]
def loopN {V:Type} (st:(V → Prop) → V → Prop):Nat → V → Prop
 | 0,_=>False
 | n + 1,v=>st (loopN st n) v
theorem Q4 {V:Type} {st:(V → Prop) → V → Prop} {n:Nat} {v:V}:loopN st (n + 1) v = st (loopN st n) v:=rfl
noncomputable def rawN {V O R:Type} (enc:O → R) (st:(O → Prop) → (V → Prop) → V → Prop) (n:Nat) (v:V):Option O:=pick enc fun q=>loopN (st fun o=>q (enc o)) n v
theorem Q6 {V O R:Type} {enc:O → R} {st:(O → Prop) → (V → Prop) → V → Prop} {n:Nat} {v:V} {o:O} (hi:∀ a b,enc a = enc b → a = b) (h:∀ q:O → Prop,loopN (st q) n v = q o):rawN enc st n v = some o:=QpR hi fun _=>h _
def bn {α:Type} (o:Option α) (K:α → Prop):Prop:=bnd False o K
def an (b:Bool) (t:Prop):Prop:=cnd b t False
def fl (d:D):List Nat → Prop → Prop
 | [],A=>A
 | i :: r,A=>cnd (cel d i).flat (fl d r A) False
theorem Q3 {α:Type} {a:α} {K:α → Prop}:bn (some a) K = K a:=rfl
theorem Q5 {t:Prop}:an true t = t:=rfl
theorem Q1 {Z:Type} {t f:Z}:cnd true t f = t:=rfl
theorem Q0 {Z:Type} {t f:Z}:cnd false t f = f:=rfl
theorem Qs {b:Bool} {p q p' q':Prop} (hp:p → p') (hq:q → q'):cnd b p q → cnd b p' q':=by cases b <;> assumption
theorem Qv {b:Bool} {p p':Prop} (hp:p → p'):an b p → an b p':=by cases b <;> first | assumption | exact id
theorem QE {α:Type} {o:Option α} {K K':α → Prop} (h:∀ a,K a → K' a):bn o K → bn o K':=by
 cases o with
 | none=>exact id
 | some a=>exact h a
theorem QF {d:D} {A A':Prop} (h:A → A'):∀ {l:List Nat},fl d l A → fl d l A'
 | []=>h
 | _ :: _=>Qs (QF h) id
theorem Qr {g:GC} {a c a' c':Prop} {b b':List D → Nat → Prop} (ha:a → a') (hc:c → c') (hb:∀ es w,b es w → b' es w):gcas g a c b → gcas g a' c' b':=by
 cases g with
 | n=>exact ha
 | m=>exact hc
 | o es w=>exact hb es w
def rngs:List (Nat × Nat) → List Nat
 | []=>[]
 | (a,n) :: r=>List.range' a n ++ rngs r
def hooksOf (N:Nat) (g:Pth → List AV → Heap → Prop):List (Pth × List (Nat × Nat) × Bool) → List (Pth × Hook)
 | []=>[]
 | (p,d,u) :: r=>(p,⟨rngs d,N,u,g p⟩) :: hooksOf N g r
theorem Q7L {P:Program} {body:Code} {Q:Exit → Act → World → Prop} {E:Entry} {N:Nat} (hb:E.h.length = N):∀ l:List (Pth × List (Nat × Nat) × Bool),HooksOk P body Q E (hooksOf N (fun p ts h=>Sem P body Q E (.at p) ts h) l)
 | []=>Qkm
 | (_,_,_) :: r=>Qi4 hb (Q7L hb r)
def KOk {V O:Type} (P:Program) (gs:List Bool) (f:FuncId) (fn:Func) (en:List Ent1) (hk:List (Pth × List (Nat × Nat) × Bool)) (N:Nat) (at_:V → Pth × List AV × Heap) (enc:O → AV × Heap) (st:(O → Prop) → (V → Prop) → V → Prop):Prop :=
 ∀ (K:Kv) (g:Pth → List AV → Heap → Prop) (v:V),execG P gs (tabE en) f fn (hkT (hooksOf N g hk)) 1000 (.on (at_ v).1) (at_ v).2.1 (at_ v).2.2 N K = st (fun o=>K (enc o).1 (enc o).2) (fun v=>g (at_ v).1 (at_ v).2.1 (at_ v).2.2) v
def Mono {V O:Type} (st:(O → Prop) → (V → Prop) → V → Prop):Prop:=∀ r l l',(∀ v,l v → l' v) → ∀ v,st r l v → st r l' v
theorem Qd {V O:Type} {P:Program} {gs:List Bool} {f:FuncId} {fn:Func} {body:Code} {en:List Ent1} {hk:List (Pth × List (Nat × Nat) × Bool)} {N:Nat} {at_:V → Pth × List AV × Heap} {enc:O → AV × Heap} {st:(O → Prop) → (V → Prop) → V → Prop}
  (hP:ProgOk P) (hfn:P.funcs[f]? = some fn) (hb:fn.body = some body) (hl:∀ x ∈ en,EntryOk P x) (k:KOk P gs f fn en hk N at_ enc st) (hm:Mono st) {args:List AV} {h0:Heap} {n:Nat} {v:V} {o:O}
  (hv:at_ v = ([],startT fn args,h0)) (hN:h0.length = N) (ho:rawN enc st n v = some o):CallX P gs f args h0 (enc o).1 (enc o).2:=by
 have hw:loopN (st fun o'=>enc o' = enc o) n v:=QkI ho
 refine QmC hP hfn hb fun E hE=>?_
 have hlen:E.h.length = N:=by rw [hE]; exact hN
 have key:∀ n v,loopN (st fun o'=>enc o' = enc o) n v → Sem P body (QvG P gs fn E (enc o).1 (enc o).2) E (.on (at_ v).1) (at_ v).2.1 (at_ v).2.2:=by
  intro n
  induction n with
  | zero=>exact fun v h=>h.elim
  | succ n ih =>
   intro v h
   refine QoH (f:=f) hP hb hl (Q7L hlen hk) hlen (n:=1000) ?_
   rw [k]
   have e1:(fun o'=>(enc o').1 = (enc o).1 ∧ (enc o').2 = (enc o).2) = fun o'=>enc o' = enc o:=funext fun o'=>propext (Prod.ext_iff).symm
   rw [e1]
   exact hm _ _ _ (fun v hv=>QoU (ih v hv)) v h
 have:=key n v hw
 rw [hv] at this
 exact QoU this
end Go.Proofs.YtfdcjngclelnhaaGreat
namespace Go.Proofs.YtfdcjngclelnhaaGreat
open Go Go.RowKit
structure B105 where
 c0:D
 c1:Int
 c2:Int
 c3:Int
 c4:Int
def o105 (s:B105) (v:Nat):AObj:=.cells 105 [.dat s.c0,.dat (.int .i64 s.c1),.dat (.int .i64 s.c2),.dat (.int .i64 s.c3),.dat (.int .i64 s.c4)] v
def b105 (s:B105) (v:Nat):Option AObj:=some (o105 s v)
def k105 {Z:Type} (z:Z) (h:Heap) (i:Nat) (K:B105 → Nat → Z):Z:=boxK z h i 105 fun cs v=>match cs with | [.dat c0,.dat (.int .i64 c1),.dat (.int .i64 c2),.dat (.int .i64 c3),.dat (.int .i64 c4)]=>K ⟨c0,c1,c2,c3,c4⟩ v | _=>z
theorem JR {Kk:Kv} {h:Heap} {i:Nat} {K:B105 → Nat → Option (AV × Heap)} {K':B105 → Nat → Prop} (hh:∀ a b,Par Kk (K' a b) (K a b)):Par Kk (k105 False h i K') (k105 none h i K):=by
 unfold k105
 refine Qjp fun _ _=>?_
 split
 ·exact hh _ _
 ·exact Qb
theorem JQ {β:Type} {h:Heap} {i:Nat} {K:B105 → Nat → Option β} {b:β} (hk:k105 none h i K = some b):∃ s ver cs,h[i]? = some (some (.cells 105 cs ver)) ∧ b105 s 0 = some (.cells 105 (cs.map sealC) 0) ∧ K s ver = some b:=by
 obtain ⟨cs,v,h1,h2⟩:=Qit hk
 split at h2
 ·rename_i e
  exact ⟨_,v,cs,h1,by rw [e]; rfl,h2⟩
 ·cases h2
theorem ZF {cs:List AV} {ver:Nat} {s r:B105} (h:b105 s 0 = some (.cells 105 (cs.map sealC) 0)):Seen (some (.cells 105 cs ver)) (b105 s 0) (b105 r 0) (b105 r ver) :=
 ⟨_,_,_,_,_,rfl,h,rfl,rfl,by have e:=(AObj.cells.inj (Option.some.inj h)).2.1; rw [← e]; rfl,rfl⟩
theorem Qe5 {is isn:List Nat} {j:Nat} {cs:List AV} {ver:Nat} {s r:B105} (h:b105 s 0 = some (.cells 105 (cs.map sealC) 0)):SeenG is isn j (some (.cells 105 cs ver)) (b105 s 0) (b105 r 0) (b105 r ver) :=
 ⟨_,_,_,_,_,_,rfl,rfl,rfl,rfl,by have e:=(AObj.cells.inj (Option.some.inj h)).2.1; rw [← e]; rfl,rfl,rfl⟩
structure B74 where
 c0:D
 c1:Int
 c2:Int
 c3:Int
 c4:Int
def o74 (s:B74) (v:Nat):AObj:=.cells 74 [.dat s.c0,.dat (.int .i64 s.c1),.dat (.int .i64 s.c2),.dat (.int .i64 s.c3),.dat (.int .i64 s.c4)] v
def b74 (s:B74) (v:Nat):Option AObj:=some (o74 s v)
def k74 {Z:Type} (z:Z) (h:Heap) (i:Nat) (K:B74 → Nat → Z):Z:=boxK z h i 74 fun cs v=>match cs with | [.dat c0,.dat (.int .i64 c1),.dat (.int .i64 c2),.dat (.int .i64 c3),.dat (.int .i64 c4)]=>K ⟨c0,c1,c2,c3,c4⟩ v | _=>z
theorem Yu {Kk:Kv} {h:Heap} {i:Nat} {K:B74 → Nat → Option (AV × Heap)} {K':B74 → Nat → Prop} (hh:∀ a b,Par Kk (K' a b) (K a b)):Par Kk (k74 False h i K') (k74 none h i K):=by
 unfold k74
 refine Qjp fun _ _=>?_
 split
 ·exact hh _ _
 ·exact Qb
theorem Ys {β:Type} {h:Heap} {i:Nat} {K:B74 → Nat → Option β} {b:β} (hk:k74 none h i K = some b):∃ s ver cs,h[i]? = some (some (.cells 74 cs ver)) ∧ b74 s 0 = some (.cells 74 (cs.map sealC) 0) ∧ K s ver = some b:=by
 obtain ⟨cs,v,h1,h2⟩:=Qit hk
 split at h2
 ·rename_i e
  exact ⟨_,v,cs,h1,by rw [e]; rfl,h2⟩
 ·cases h2
theorem Q0a {cs:List AV} {ver:Nat} {s r:B74} (h:b74 s 0 = some (.cells 74 (cs.map sealC) 0)):Seen (some (.cells 74 cs ver)) (b74 s 0) (b74 r 0) (b74 r ver) :=
 ⟨_,_,_,_,_,rfl,h,rfl,rfl,by have e:=(AObj.cells.inj (Option.some.inj h)).2.1; rw [← e]; rfl,rfl⟩
noncomputable def sbx (t:TypeId) (d:D) (v:Nat):AObj:=.cells t ((cells Go.Proofs.Tryz.prog t d).map .dat) v
structure B132 where
 c0:List UInt8
 c1:Int
 c2:GC
 ver:Nat
def o132 (j:Nat) (s:B132):AObj:=gcas s.c2 (.cells 132 [.dat (.str s.c0),.dat (.int .i64 s.c1),.dat .nils] s.ver) (.cells 132 (.dat .nils :: [.dat (.str s.c0),.dat (.int .i64 s.c1),.dat .nils]) s.ver) (fun es w=>.cells 132 [.dat (.str s.c0),.dat (.int .i64 s.c1),.own (.at j 2 w 107) es] s.ver)
def b132 (j:Nat) (s:B132):Option AObj:=some (o132 j s)
def k132 {Z:Type} (z:Z) (h:Heap) (i:Nat) (K:B132 → Z):Z:=boxG z h i 132 fun cs ver=>match cs with
 | [.dat (.str c0),.dat (.int .i64 c1),.dat .nils]=>K ⟨c0,c1,.n,ver⟩
 | [.dat (.str c0),.dat (.int .i64 c1),.own (.at a b w e) es]=>cnd (Nat.beq a i) (cnd (Nat.beq b 2) (cnd (Nat.beq e 107) (K ⟨c0,c1,(.o es w),ver⟩) z) z) z
 | _=>z
theorem Q1s {Kk:Kv} {h:Heap} {i:Nat} {K:B132 → Option (AV × Heap)} {K':B132 → Prop} (hh:∀ a,Par Kk (K' a) (K a)):Par Kk (k132 False h i K') (k132 none h i K):=by
 unfold k132
 refine Qek fun _ _=>?_
 split
 ·exact hh _
 ·exact (Ql (Ql (Ql (hh _) Qb) Qb) Qb)
 ·exact Qb
theorem Q1Q {β:Type} {h:Heap} {i:Nat} {K:B132 → Option β} {b:β} (hk:k132 none h i K = some b):∃ s,h[i]? = some (b132 i s) ∧ K s = some b:=by
 obtain ⟨cs,v,h1,h2⟩:=QeQ hk
 split at h2
 ·exact ⟨⟨_,_,.n,_⟩,h1,h2⟩
 ·
  replace h2:=J6 h2
  obtain ⟨e0,h2⟩:=h2
  replace h2:=J6 h2
  obtain ⟨e1,h2⟩:=h2
  replace h2:=J6 h2
  obtain ⟨e2,h2⟩:=h2
  subst e0 e1 e2
  exact ⟨⟨_,_,(.o _ _),_⟩,h1,h2⟩
 ·cases h2
theorem Q1r {is isn:List Nat} {j i:Nat} {s r:B132} (hi:is.getD j 0 = i) (hn:isn.getD j 0 = i) (hj:j < isn.length):SeenX is isn j true (b132 i s) (b132 j s) (b132 j r) (b132 i r):=by
 subst hi
 rw [show b132 (is.getD j 0) r = b132 (isn.getD j 0) r by rw [hn]]
 obtain ⟨_,_,c2,_⟩:=s
 obtain ⟨_,_,d2,_⟩:=r
 cases c2 <;> cases d2 <;> refine Q7W rfl rfl rfl rfl ?_ ?_ <;> first | rfl | exact ZC (Nat.lt_succ_self _) rfl | exact ZC hj rfl | exact ZA (Nat.lt_succ_self _) rfl | exact ZA hj rfl | exact ZC (Nat.lt_succ_self _) (ZA (Nat.lt_succ_self _) rfl) | exact ZC hj (ZA hj rfl)
structure B167 where
 c1:GC
 ver:Nat
def o167 (j:Nat) (s:B167):AObj:=gcas s.c1 (.cells 167 [.ptr none,.dat .nils] s.ver) (.cells 167 [.ptr (some (j,0)),.dat .nils] s.ver) (fun es w=>.cells 167 [.ptr (some (j,0)),.own (.at j 1 w 5) es] s.ver)
def b167 (j:Nat) (s:B167):Option AObj:=some (o167 j s)
def k167 {Z:Type} (z:Z) (h:Heap) (i:Nat) (K:B167 → Z):Z:=boxG z h i 167 fun cs ver=>match cs with
 | [.ptr none,.dat .nils]=>K ⟨.n,ver⟩
 | [.ptr (some (p0,q0)),.dat .nils]=>cnd (Nat.beq p0 i) (cnd (Nat.beq q0 0) (K ⟨.m,ver⟩) z) z
 | [.ptr (some (p0,q0)),.own (.at a b w e) es]=>cnd (Nat.beq a i) (cnd (Nat.beq b 1) (cnd (Nat.beq e 5) (cnd (Nat.beq p0 i) (cnd (Nat.beq q0 0) (K ⟨(.o es w),ver⟩) z) z) z) z) z
 | _=>z
theorem Q4l {Kk:Kv} {h:Heap} {i:Nat} {K:B167 → Option (AV × Heap)} {K':B167 → Prop} (hh:∀ a,Par Kk (K' a) (K a)):Par Kk (k167 False h i K') (k167 none h i K):=by
 unfold k167
 refine Qek fun _ _=>?_
 split
 ·exact hh _
 ·exact (Ql (Ql (hh _) Qb) Qb)
 ·exact (Ql (Ql (Ql (Ql (Ql (hh _) Qb) Qb) Qb) Qb) Qb)
 ·exact Qb
theorem Q3T {β:Type} {h:Heap} {i:Nat} {K:B167 → Option β} {b:β} (hk:k167 none h i K = some b):∃ s,h[i]? = some (b167 i s) ∧ K s = some b:=by
 obtain ⟨cs,v,h1,h2⟩:=QeQ hk
 split at h2
 ·exact ⟨⟨.n,_⟩,h1,h2⟩
 ·
  replace h2:=J6 h2
  obtain ⟨e0,h2⟩:=h2
  replace h2:=J6 h2
  obtain ⟨e1,h2⟩:=h2
  subst e0 e1
  exact ⟨⟨.m,_⟩,h1,h2⟩
 ·
  replace h2:=J6 h2
  obtain ⟨e0,h2⟩:=h2
  replace h2:=J6 h2
  obtain ⟨e1,h2⟩:=h2
  replace h2:=J6 h2
  obtain ⟨e2,h2⟩:=h2
  replace h2:=J6 h2
  obtain ⟨e3,h2⟩:=h2
  replace h2:=J6 h2
  obtain ⟨e4,h2⟩:=h2
  subst e0 e1 e2 e3 e4
  exact ⟨⟨(.o _ _),_⟩,h1,h2⟩
 ·cases h2
theorem Q48 {is isn:List Nat} {j i:Nat} {s r:B167} (hi:is.getD j 0 = i) (hn:isn.getD j 0 = i) (hj:j < isn.length):SeenX is isn j true (b167 i s) (b167 j s) (b167 j r) (b167 i r):=by
 subst hi
 rw [show b167 (is.getD j 0) r = b167 (isn.getD j 0) r by rw [hn]]
 obtain ⟨c2,_⟩:=s
 obtain ⟨d2,_⟩:=r
 cases c2 <;> cases d2 <;> refine Q7W rfl rfl rfl rfl ?_ ?_ <;> first | rfl | exact ZC (Nat.lt_succ_self _) rfl | exact ZC hj rfl | exact ZA (Nat.lt_succ_self _) rfl | exact ZA hj rfl | exact ZC (Nat.lt_succ_self _) (ZA (Nat.lt_succ_self _) rfl) | exact ZC hj (ZA hj rfl)
end Go.Proofs.YtfdcjngclelnhaaGreat
