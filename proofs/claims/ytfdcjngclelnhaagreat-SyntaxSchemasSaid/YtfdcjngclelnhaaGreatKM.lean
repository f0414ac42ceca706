/- Part of a proof. -/
import Derived.Test.YtfdcjngclelnhaaGreatKC5
import Derived.Test.YtfdcjngclelnhaaGreatKA
import Derived.Test.YtfdcjngclelnhaaGreatProg
import Derived.KernelRfl
set_option linter.unusedSectionVars false
set_option linter.unusedSimpArgs false
set_option linter.unusedVariables false
set_option maxHeartbeats 1000000
namespace Go.Proofs.YtfdcjngclelnhaaGreat
open Go Go.RowKit
variable [mode:Inhabited ModeT]
def sealG:List Bool → Heap → Heap
 | g :: gs,o :: h=>(match g with | true=>o | false=>sealB o) :: sealG gs h
 | [],h=>h.map sealB
 | _,[]=>[]
theorem Q4B:∀ {gs:List Bool} {h:Heap} {j:Nat},(sealG gs h)[j]? = (h[j]?).map fun o=>if gs.getD j false then o else sealB o
 | [],h,j=>by simp [sealG]
 | _ :: _,[],j=>by simp [sealG]
 | g :: gs,o :: h,0=>by cases g <;> simp [sealG]
 | g :: gs,o :: h,j + 1=>by simpa [sealG] using Q4B (gs:=gs) (h:=h) (j:=j)
def CallX (P:Program) (gs:List Bool) (f:FuncId) (args:List AV) (h:Heap) (v:AV) (h':Heap):Prop :=
 ∀ (K:KW) (HF:Nat → Option AObj) (V:Nat → Prop) (w:World) (vargs:Array Value),DenL K args vargs.toList → Fit K h HF V w →
  CallGives P ((callFunc f vargs).run P w) fun u w'=>∃ K' hh,sealG gs hh = h' ∧ Kext K K' ∧ Den K' v u ∧ Fit K' hh HF (afterV none h.length hh.length V) w'
def AV.renC (is:List Nat):AV → AV
 | .own (.at j off v e) es=>.own (.at (is.getD j 0) off v e) es
 | x=>x.ren is
def AV.smallC (m j:Nat):AV → Bool
 | .own (.at i _ _ _) _=>Nat.beq i j && decide (i < m)
 | x=>x.small m
theorem Q0i {is:List Nat} {m j:Nat} {x:AV} (h:x.smallC m j = true):(∃ off v e es,x = .own (.at j off v e) es ∧ j < m) ∨ (x.small m = true ∧ x.renC is = x.ren is):=by
 cases x with
 | own g es =>
  cases g with
  | «at» i off v e =>
   simp only [AV.smallC,Bool.and_eq_true,decide_eq_true_eq] at h
   have:=Nat.eq_of_beq_eq_true h.1
   subst this
   exact .inl ⟨off,v,e,es,rfl,h.2⟩
  | _=>exact .inr ⟨h,rfl⟩
 | _=>exact .inr ⟨h,rfl⟩
theorem QaT {K K2:KW} {f:AV → AV}:∀ {xs:List AV} {vs:List Value},(∀ x v,x ∈ xs → Den K x v → Den K2 (f x) v) → DenL K xs vs → DenL K2 (xs.map f) vs
 | [],_,_,h=>by cases h; exact .nil
 | x :: r,_,hf,h=>by
  cases h with
  | cons h1 h2=>exact .cons (hf _ _ (by simp) h1) (QaT (fun y v hy=>hf y v (by simp [hy])) h2)
theorem Q67 {K K2:KW} {f:AV → AV}:∀ {xs:List AV} {vs:List Value},(∀ x v,x ∈ xs → Den K (f x) v → Den K2 x v) → DenL K (xs.map f) vs → DenL K2 xs vs
 | [],_,_,h=>by cases h; exact .nil
 | x :: r,_,hf,h=>by
  cases h with
  | cons h1 h2=>exact .cons (hf _ _ (by simp) h1) (Q67 (fun y v hy=>hf y v (by simp [hy])) h2)
theorem HL {n:Nat}:∀ {xs:List AV},undersL n xs = true ↔ ∀ x ∈ xs,x.under n = true
 | []=>by simp [undersL]
 | x :: r=>by simp [undersL,HL (xs:=r)]
inductive SeenX (is isn:List Nat) (j:Nat):Bool → Option AObj → Option AObj → Option AObj → Option AObj → Prop where
 | sealed {o s s' o':Option AObj} (h:SeenG is isn j o s s' o'):SeenX is isn j false o s s' o'
 | grows (e:TypeId) (c0:List AV) (ver:Nat) (e':TypeId) (c':List AV) (ver':Nat) (h1:c0.all (AV.smallC (j + 1) j) = true) (h2:c'.all (AV.smallC isn.length j) = true) :
   SeenX is isn j true (some (.cells e (c0.map (AV.renC is)) ver)) (some (.cells e c0 ver)) (some (.cells e' c' ver')) (some (.cells e' (c'.map (AV.renC isn)) ver'))
theorem Qgl {is:List Nat} {m:Nat} {x:AV} (h:x.small m = true):x.renC is = x.ren is:=by
 cases x <;> first | rfl | (simp [AV.small] at h)
theorem Q4k {m j:Nat} {x:AV} (h:x.small m = true):x.smallC m j = true:=by
 cases x <;> first | exact h | (simp [AV.small] at h)
theorem Yh {m:Nat}:∀ {l:List AV},smallL m l = true → ∀ x ∈ l,x.small m = true
 | [],_,x,hx=>nomatch hx
 | y :: r,h,x,hx=>by
  simp only [smallL,Bool.and_eq_true] at h
  rcases List.mem_cons.1 hx with rfl | hx
  ·exact h.1
  ·exact Yh h.2 x hx
theorem QfE {is:List Nat} {m:Nat} {l:List AV} (h:smallL m l = true):renL is l = l.map (AV.renC is):=by
 rw [Qc8]
 exact List.map_congr_left fun x hx=>(Qgl (Yh h x hx)).symm
structure BoxX (K:KW) (w:World) (ow:Nat → Option OKey) (is isn:List Nat) (g:Bool) (j:Nat) (o s s' o':Option AObj) (e:TypeId) (c cs0:List AV) (ver0 ver b:Nat) (vs:Array Value) (e':TypeId) (cs':List AV) (ver1 ver':Nat):Prop where
 ho:o = some (.cells e cs0 ver)
 hs:s = some (.cells e c ver0)
 hs':s' = some (.cells e' cs' ver1)
 ho':o' = some (.cells e' (cs'.map (AV.renC isn)) ver')
 box:BoxOk K w ow (is.getD j 0) e cs0 ver b vs
 den:DenL K (c.map (AV.renC is)) vs.toList
 sm:∀ x ∈ c,x.smallC (j + 1) j = true
 sm':∀ x ∈ cs',x.smallC isn.length j = true
 kind:(g = false ∧ ver1 = 0 ∧ ver' = ver ∧ smallL (j + 1) c = true ∧ smallL isn.length cs' = true) ∨ (g = true ∧ ver0 = ver ∧ cs0 = c.map (AV.renC is) ∧ ver1 = ver')
theorem Qqd {K:KW} {w:World} {ow:Nat → Option OKey} {is isn:List Nat} {g:Bool} {j:Nat} {o s s' o':Option AObj} (hx:SeenX is isn j g o s s' o')
  (hb:∀ e cs ver,o = some (.cells e cs ver) → ∃ b vs,BoxOk K w ow (is.getD j 0) e cs ver b vs):∃ e c cs0 ver0 ver b vs e' cs' ver1 ver',BoxX K w ow is isn g j o s s' o' e c cs0 ver0 ver b vs e' cs' ver1 ver':=by
 cases hx with
 | sealed h =>
  obtain ⟨e,cs,ver,c0,e',c',rfl,rfl,rfl,rfl,h5,h6,h7⟩:=h
  obtain ⟨b,vs,hb⟩:=hb _ _ _ rfl
  refine ⟨e,c0,cs,0,ver,b,vs,e',c',0,ver,rfl,rfl,rfl,by rw [QfE h7],hb,?_,fun x hx=>Q4k (Yh h6 x hx),fun x hx=>Q4k (Yh h7 x hx),.inl ⟨rfl,rfl,rfl,h6,h7⟩⟩
  have:=JS (fun _ _=>Zi) hb.den
  rwa [h5,QfE h6] at this
 | grows e c0 ver e' c' ver' h1 h2 =>
  obtain ⟨b,vs,hb⟩:=hb _ _ _ rfl
  exact ⟨e,c0,_,ver,ver,b,vs,e',c',ver',ver',rfl,rfl,rfl,rfl,hb,hb.den,List.all_eq_true.1 h1,List.all_eq_true.1 h2,.inr ⟨rfl,rfl,rfl,rfl⟩⟩
def keyAt {α:Type} (f:Nat → Nat → Nat → Option α):Key → Option α
 | .tip _ _=>none
 | .«at» j off v=>f j off v
theorem CallX.frame {P:Program} {gs:List Bool} {f:FuncId} {args:List AV} {hs hs' os news h:Heap} {v:AV} {is:List Nat} (hc:CallX P gs f args hs v hs') (hgs:gs.length ≤ is.length) (hsort:∀ a b,a < b → b < is.length → is.getD a 0 < is.getD b 0) (hl:hs.length = is.length) (hl':hs'.length = is.length + news.length) (hlo:os.length = is.length)
  (hsm:smallL is.length args = true) (hv:v.small (is.length + news.length) = true)
  (hin:∀ j,j < is.length → ∃ o s s' o',h[is.getD j 0]? = some o ∧ hs[j]? = some s ∧ hs'[j]? = some s' ∧ os[j]? = some o' ∧ SeenX is (isx is h.length news.length) j (gs.getD j false) o s s' o')
  (hnew:∀ j,j < news.length → ∃ e c,hs'[is.length + j]? = some (some (.cells e c 0)) ∧ smallL (is.length + news.length) c = true ∧ news[j]? = some (some (.cells e (renL (isx is h.length news.length) c) 0))) :
  Call1 P f (renL is args) h (v.ren (isx is h.length news.length)) (putB is os h ++ news):=by
 classical
 refine ⟨by rw [List.length_append,Hs]; omega,fun K HF V w vargs hargs hk=>?_⟩
 have hnd:is.Nodup:=Q2E is hsort
 have hlt:∀ i ∈ is,i < h.length:=fun i hi=>by
  obtain ⟨j,hj,rfl⟩:=List.getElem_of_mem hi
  obtain ⟨o,_,_,_,h1,_⟩:=hin j hj
  rw [List.getD_eq_getElem?_getD,List.getElem?_eq_getElem hj,Option.getD_some] at h1
  exact Qi h1
 have hgl:∀ j,gs.getD j false = true → j < is.length:=fun j hj=>by
  rcases Nat.lt_or_ge j is.length with h1 | h1
  ·exact h1
  ·rw [List.getD_eq_getElem?_getD,List.getElem?_eq_none (by omega)] at hj; cases hj
 obtain ⟨ow,hok⟩:=hk.ok
 have hlx:(isx is h.length news.length).length = is.length + news.length:=by simp [isx]
 have hbox:∀ j,j < is.length → ∃ e c cs0 ver0 ver b vs e' cs' ver1 ver',BoxX K w ow is (isx is h.length news.length) (gs.getD j false) j (some (.cells e cs0 ver)) (some (.cells e c ver0)) (some (.cells e' cs' ver1)) (some (.cells e' (cs'.map (AV.renC (isx is h.length news.length))) ver')) e c cs0 ver0 ver b vs e' cs' ver1 ver' ∧
   h[is.getD j 0]? = some (some (.cells e cs0 ver)) ∧ hs[j]? = some (some (.cells e c ver0)) ∧ hs'[j]? = some (some (.cells e' cs' ver1)) ∧ os[j]? = some (some (.cells e' (cs'.map (AV.renC (isx is h.length news.length))) ver')):=fun j hj=>by
  obtain ⟨o,s,s',o',h1,h2,h3,h4,h5⟩:=hin j hj
  obtain ⟨e,c,cs0,ver0,ver,b,vs,e',cs',ver1,ver',hb⟩:=Qqd (K:=K) (w:=w) (ow:=ow) h5 (fun e cs ver ho=>hok.box (is.getD j 0) e cs ver (Qe (by rw [h1,ho])))
  obtain ⟨rfl,rfl,rfl,rfl⟩:=And.intro hb.ho (And.intro hb.hs (And.intro hb.hs' hb.ho'))
  exact ⟨e,c,cs0,ver0,ver,b,vs,e',cs',ver1,ver',hb,h1,h2,h3,h4⟩
 have hgi:∀ j,j < is.length → is.idxOf (is.getD j 0) = j:=fun j hj=>by
  rw [List.getD_eq_getElem?_getD,List.getElem?_eq_getElem hj,Option.getD_some]
  exact hnd.idxOf_getElem j hj
 have hmem:∀ j,j < is.length → is.getD j 0 ∈ is:=fun j hj=>by
  rw [List.getD_eq_getElem?_getD,List.getElem?_eq_getElem hj,Option.getD_some]
  exact List.getElem_mem _
 have hidx:∀ {id:Nat},id ∈ is → ∃ j,j < is.length ∧ is.getD j 0 = id:=fun {id} hm=>by
  obtain ⟨j,hj,rfl⟩:=List.getElem_of_mem hm
  exact ⟨j,hj,by rw [List.getD_eq_getElem?_getD,List.getElem?_eq_getElem hj,Option.getD_some]⟩
 have hislt:∀ j,j < is.length → is.getD j 0 < h.length:=fun j hj=>hlt _ (hmem j hj)
 let isA:Nat → Prop:=fun b=>∃ j,j < is.length ∧ gs.getD j false = true ∧ ∃ e cs ver i v e' es r,h[is.getD j 0]? = some (some (.cells e cs ver)) ∧ cs[i]? = some (.own (.at (is.getD j 0) i v e') es) ∧ K.key (.at (is.getD j 0) i v) = some r ∧ r.b = b
 let isB:Nat → Prop:=fun b=>(∃ j,j < is.length ∧ K.blk (is.getD j 0) = some b) ∨ isA b
 have hown:∀ b,isB b → (∃ k:OKey,ow b = some k ∧ ∃ j,j < is.length ∧ (k = .box (is.getD j 0) ∨ ∃ off v,k = .at (is.getD j 0) off v)) ∧ ¬ K.base.old b:=fun b hB=>by
  rcases hB with ⟨j,hj,hb⟩ | ⟨j,hj,_,e,cs,ver,i,v,e',es,r,h1,h2,h3,rfl⟩
  ·obtain ⟨e,c,cs0,ver0,ver,b',vs,e',cs',ver1,ver',g1,_⟩:=hbox j hj
   have:b' = b:=by have:=g1.box.blk; rw [hb] at this; exact (Option.some.inj this).symm
   subst this
   exact ⟨⟨_,g1.box.own,j,hj,.inl rfl⟩,g1.box.base⟩
  ·obtain ⟨b',vs,hb⟩:=hok.box _ _ _ _ (Qe h1)
   obtain ⟨_,_,_,r',q1,_,q2,q3⟩:=hb.cell i _ h2
   rw [h3] at q1; cases q1
   exact ⟨⟨_,q3,j,hj,.inr ⟨_,_,rfl⟩⟩,q2.base⟩
 let K2:KW:={ base:=⟨w,fun b=>b < w.heap.size ∧ ¬ isB b,fun b hb=>hb.1⟩,imm:=K.imm,blk:=fun j=>if j < is.length then K.blk (is.getD j 0) else none,key:=keyAt fun j off v=>if gs.getD j false = true then K.key (.at (is.getD j 0) off v) else none,row:=fun _ _=>none }
 have hk2at:∀ j off v,gs.getD j false = true → K2.key (.at j off v) = K.key (.at (is.getD j 0) off v):=fun j off v hg=>by
  show (if gs.getD j false = true then _ else none) = _
  rw [if_pos hg]
 have hk2no:∀ j off v,gs.getD j false = false → K2.key (.at j off v) = none:=fun j off v hg=>by
  show (if gs.getD j false = true then _ else none) = none
  rw [if_neg (by rw [hg]; exact Bool.false_ne_true)]
 let ow2:Nat → Option OKey:=fun b=>match ow b with
  | some (.box i)=>if i ∈ is ∧ K.blk i = some b then some (.box (is.idxOf i)) else none
  | some (.at i off v)=>if i ∈ is then some (.at (is.idxOf i) off v) else none
  | _=>none
 have hfit:Fit K2 hs (fun _=>none) (fun i=>is.length ≤ i) w:=by
  have hcb:∀ id o,comb hs (fun _=>none) id = some o → hs[id]? = some (some o):=fun id o hid=>by
   simp only [comb] at hid
   split at hid
   ·rename_i o ho; rw [ho]; cases hid; rfl
   ·cases hid
   ·cases hid
  refine ⟨⟨ow2,hok.imm,BelowB.refl _,fun id e cs ver hid=>?_,fun id e n sz hid=>?_,fun id e n sz hid=>?_,fun id hid=>?_,fun id e cs ver hid off v hvv=>?_,fun b k hb=>?_,fun id o hid ho=>?_,fun id _ v=>rfl⟩,fun i o hi=>(by cases hi),fun i hi=>(by omega)⟩
  ·have hid2:=hcb _ _ hid
   have hj:id < is.length:=by rw [← hl]; exact Qi hid2
   obtain ⟨e0,c,cs0,ver0,ver2,b,vs,e',cs',ver1,ver',g1,p1,p2,p3,p4⟩:=hbox id hj
   rw [hid2] at p2; cases p2
   refine ⟨b,vs,?_,?_,?_,g1.box.heap,g1.box.imm,?_,fun i x hx=>?_,HL.2 fun x hx=>?_⟩
   ·show (if id < is.length then K.blk (is.getD id 0) else none) = some b
    rw [if_pos hj]; exact g1.box.blk
   ·show (match ow b with | some (.box i)=>if i ∈ is ∧ K.blk i = some b then some (.box (is.idxOf i)) else none | some (.at i off v)=>if i ∈ is then some (.at (is.idxOf i) off v) else none | _=>none) = some (OKey.box id)
    rw [g1.box.own]
    simp only [hmem id hj,g1.box.blk,and_self,if_true,hgi id hj]
   ·exact fun hold=>hold.2 (.inl ⟨id,hj,g1.box.blk⟩)
   ·refine Q67 (K:=K) (K2:=K2) (f:=AV.renC is) (fun x v hx hd=>?_) g1.den
    rcases Q0i (is:=is) (g1.sm x hx) with ⟨off,v',e3,es,rfl,_⟩ | ⟨h1,h2⟩
    ·rcases g1.kind with ⟨_,_,_,q,_⟩ | ⟨q,_⟩
     ·have:=Yh q _ hx; simp [AV.small] at this
     ·simp only [AV.renC] at hd
      cases hd with
      | «at» _ _ _ _ r hr hcap hcells=>exact .at id off v' es r (by rw [hk2at _ _ _ q]; exact hr) hcap hcells
    ·rw [h2] at hd
     exact QaU (K:=K) (K2:=K2) (m:=is.length) rfl (fun j hj=>by show (if j < is.length then K.blk (is.getD j 0) else none) = _; rw [if_pos hj]) (Q7u (by omega) h1) hd
   ·have hxm:=List.mem_of_getElem? hx
    rcases Q0i (is:=is) (g1.sm x hxm) with ⟨off,v',e3,es,rfl,_⟩ | ⟨h1,_⟩
    ·rcases g1.kind with ⟨_,_,_,q,_⟩ | ⟨q,q1,q2,_⟩
     ·have:=Yh q _ hxm; simp [AV.small] at this
     ·have hx2:cs0[i]? = some (.own (.at (is.getD id 0) off v' e3) es):=by rw [q2,List.getElem?_map,hx]; rfl
      have:=g1.box.cell i _ hx2
      obtain ⟨_,m2,m3,r,m4,m5,m6,m7⟩:=this
      subst m2
      refine ⟨rfl,rfl,by omega,r,by rw [hk2at _ _ _ q]; exact m4,m5,⟨m6.blk,m6.imm,fun hold=>hold.2 (.inr ⟨id,hj,q,_,_,_,_,_,_,_,r,p1,hx2,m4,rfl⟩)⟩,?_⟩
      show (match ow r.b with | some (.box i)=>if i ∈ is ∧ K.blk i = some r.b then some (.box (is.idxOf i)) else none | some (.at i off v)=>if i ∈ is then some (.at (is.idxOf i) off v) else none | _=>none:Option OKey) = _
      rw [m7]
      simp only [hmem id hj,if_true,hgi id hj]
    ·exact Q2U h1
   ·rcases Q0i (is:=is) (g1.sm x hx) with ⟨off,v',e3,es,rfl,h1⟩ | ⟨h1,_⟩
    ·simp [AV.under]
    ·exact Q5N h1
  ·have hid2:=hcb _ _ hid
   obtain ⟨_,_,_,_,_,_,_,_,_,_,_,_,_,g1,_⟩:=hbox id (by rw [← hl]; exact Qi hid2)
   rw [hid2] at g1; cases g1
  ·have hid2:=hcb _ _ hid
   obtain ⟨_,_,_,_,_,_,_,_,_,_,_,_,_,g1,_⟩:=hbox id (by rw [← hl]; exact Qi hid2)
   rw [hid2] at g1; cases g1
  ·refine ⟨?_,?_,fun _=>rfl,fun off v=>?_⟩
   ·simp only [comb]; rw [List.getElem?_eq_none (by omega)]
   ·show (if id < is.length then _ else none) = none
    rw [if_neg (by omega)]
   ·refine hk2no _ _ _ ?_
    cases hg:gs.getD id false with
    | false=>rfl
    | true=>have:=hgl id hg; omega
  ·have hid2:=hcb _ _ hid
   have hj:id < is.length:=by rw [← hl]; exact Qi hid2
   obtain ⟨e0,c,cs0,ver0,ver2,b,vs,e',cs',ver1,ver',g1,p1,p2,p3,p4⟩:=hbox id hj
   rw [hid2] at p2; cases p2
   rcases g1.kind with ⟨q,_⟩ | ⟨q,q1,_⟩
   ·exact hk2no _ _ _ q
   ·rw [hk2at _ _ _ q]
    exact hok.ver _ _ _ _ (Qe p1) off v (by omega)
  ·have:∃ k',ow b = some k':=by
    cases hob:ow b with
    | none=>simp [ow2,hob] at hb
    | some k'=>exact ⟨k',rfl⟩
   obtain ⟨k',hk'⟩:=this
   exact hok.own b k' hk'
  ·have hid2:=hcb _ _ hid
   obtain ⟨_,_,_,_,_,_,_,_,_,_,_,_,_,g1,_⟩:=hbox id (by rw [← hl]; exact Qi hid2)
   rw [hid2] at g1; cases g1; cases ho
 have hargs2:DenL K2 args vargs.toList:=Zn (K:=K) (K2:=K2) (m:=is.length) rfl (fun j hj=>by show (if j < is.length then K.blk (is.getD j 0) else none) = _; rw [if_pos hj]) hsm hargs
 have h3:=hc K2 (fun _=>none) (fun i=>is.length ≤ i) w vargs hargs2 hfit
 refine CallGives.mono h3 fun u w' hr=>?_
 obtain ⟨K',hh,ehh,e1,e2,e3⟩:=hr
 obtain ⟨ow',hok'⟩:=e3.ok
 have hbel:BelowB K2.base w':=by have:=hok'.below; rwa [e1.base] at this
 have hold:∀ b,b < w.heap.size → ¬ isB b → K2.base.old b:=fun b h1 h2=>⟨h1,h2⟩
 have hsame:∀ b,b < w.heap.size → ¬ isB b → w'.heap[b]? = w.heap[b]?:=fun b h1 h2=>hbel.block b (hold b h1 h2)
 have himm:∀ b,b < w.heap.size → ¬ isB b → ∀ off sp,K'.imm ⟨b,off,sp⟩ = K.imm ⟨b,off,sp⟩:=fun b h1 h2 off sp=>e1.old ⟨b,off,sp⟩ (hold b h1 h2)
 let gA:Nat → Bool:=fun i=>decide (i ∈ is) && gs.getD (is.idxOf i) false
 let K3:KW:={ base:=K.base,imm:=K'.imm,blk:=fun i=>if h.length ≤ i ∧ i < h.length + news.length then K'.blk (is.length + (i - h.length)) else K.blk i,key:=fun k=>match keyAt (fun i off v=>if gA i = true then some (K'.key (.at (is.idxOf i) off v)) else none) k with | some r=>r | none=>K.key k,row:=K.row }
 have hvir:∀ i,h.length ≤ i → K.blk i = none ∧ (∀ n,K.key (.tip i n) = none) ∧ ∀ off v,K.key (.at i off v) = none:=fun i hi=>(hok.fresh i (hk.vlen i hi)).2
 have hk3g:∀ j off v,gs.getD j false = true → K3.key (.at (is.getD j 0) off v) = K'.key (.at j off v):=fun j off v hg=>by
  have hj:=hgl j hg
  show (match (if gA (is.getD j 0) = true then some (K'.key (.at (is.idxOf (is.getD j 0)) off v)) else none) with | some r=>r | none=>K.key (.at (is.getD j 0) off v)) = _
  rw [if_pos (by simp only [gA,hmem j hj,hgi j hj,hg,decide_true,Bool.and_self]),hgi j hj]
 have hk3s:∀ j off v,j < is.length → gs.getD j false = false → K3.key (.at (is.getD j 0) off v) = K.key (.at (is.getD j 0) off v):=fun j off v hj hg=>by
  show (match (if gA (is.getD j 0) = true then some (K'.key (.at (is.idxOf (is.getD j 0)) off v)) else none) with | some r=>r | none=>K.key (.at (is.getD j 0) off v)) = _
  rw [if_neg (by simp only [gA,hgi j hj,hg,Bool.and_false]; exact Bool.false_ne_true)]
 have hk3o:∀ i off v,i ∉ is → K3.key (.at i off v) = K.key (.at i off v):=fun i off v hm=>by
  show (match (if gA i = true then some (K'.key (.at (is.idxOf i) off v)) else none) with | some r=>r | none=>K.key (.at i off v)) = _
  rw [if_neg (by simp only [gA,hm,decide_false,Bool.false_and]; exact Bool.false_ne_true)]
 have hext:Kext K K3:=⟨rfl,e1.imm,fun i b hb=>by
  show (if h.length ≤ i ∧ i < h.length + news.length then _ else K.blk i) = some b
  rw [if_neg (fun hc=>by rw [(hvir i hc.1).1] at hb; cases hb)]; exact hb,fun k r hr=>by
   cases k with
   | tip _ _=>exact hr
   | «at» i off v =>
    by_cases hm:i ∈ is
    ·obtain ⟨j,hj,rfl⟩:=hidx hm
     cases hg:gs.getD j false with
     | false=>rw [hk3s j off v hj hg]; exact hr
     | true=>rw [hk3g j off v hg]; exact e1.key _ _ (by rw [hk2at _ _ _ hg]; exact hr)
    ·rw [hk3o i off v hm]; exact hr,fun a ha=>by
  refine e1.old a (hold _ (Nat.lt_of_lt_of_le (K.base.lt _ ha) hok.below.size) fun hb=>?_)
  exact (hown _ hb).2 ha,fun _ _ _ h=>h⟩
 have hgx:∀ j,j < is.length → (isx is h.length news.length).getD j 0 = is.getD j 0:=fun j hj=>Qiv hj
 have hgn:∀ j,j < news.length → (isx is h.length news.length).getD (is.length + j) 0 = h.length + j:=fun j hj=>QdG hj
 have hblk3:∀ j,j < is.length + news.length → ∀ b,K'.blk j = some b → K3.blk ((isx is h.length news.length).getD j 0) = some b:=fun j hj b hb=>by
  rcases Nat.lt_or_ge j is.length with hj2 | hj2
  ·rw [hgx j hj2]
   obtain ⟨e0,c,cs0,ver0,ver2,b',vs,e',cs',ver1,ver',g1,p1,p2,p3,p4⟩:=hbox j hj2
   have h1:K2.blk j = some b':=by show (if j < is.length then K.blk (is.getD j 0) else none) = some b'; rw [if_pos hj2]; exact g1.box.blk
   have h2:=e1.blk j b' h1
   rw [hb] at h2
   show (if h.length ≤ is.getD j 0 ∧ is.getD j 0 < h.length + news.length then _ else K.blk (is.getD j 0)) = some b
   rw [if_neg (fun hc=>by have:=hislt j hj2; omega),g1.box.blk,h2]
  ·obtain ⟨i,rfl⟩:∃ i,j = is.length + i:=⟨j - is.length,by omega⟩
   rw [hgn i (by omega)]
   show (if h.length ≤ h.length + i ∧ h.length + i < h.length + news.length then K'.blk (is.length + (h.length + i - h.length)) else _) = some b
   rw [if_pos ⟨by omega,by omega⟩,Nat.add_sub_cancel_left]; exact hb
 have hfree:∀ r n k,Free K w r n → ow r.b = some k → ¬ isB r.b → Free K3 w' r n:=fun r n k hf hb hn=>by
  have hlt:=hok.own _ _ hb
  obtain ⟨vs,lo,hi,g1,g2⟩:=hf.blk
  exact ⟨⟨vs,lo,hi,by rw [hsame _ hlt hn]; exact g1,g2⟩,fun off sp ho=>by show K'.imm _ = none; rw [himm _ hlt hn]; exact hf.imm off sp ho,hf.base⟩
 have hplen:(putB is os h).length = h.length:=Hs is os h
 have hputlow:∀ id,id < h.length → (putB is os h ++ news)[id]? = (putB is os h)[id]?:=fun id hid=>List.getElem?_append_left (by omega)
 have hput:∀ id,id ∉ is → id < h.length → comb (putB is os h ++ news) HF id = comb h HF id:=fun id hid hl=>by
  simp only [comb,hputlow id hl,Zw is os h id hid]
 have hputm:∀ j,j < is.length → ∀ o,os[j]? = some (some o) → comb (putB is os h ++ news) HF (is.getD j 0) = some o:=fun j hj o ho =>
  Qe (by rw [hputlow _ (hislt j hj),Q6D is os h hnd (by omega) hlt j hj,ho])
 have hputn:∀ j,j < news.length → (putB is os h ++ news)[h.length + j]? = news[j]?:=fun j hj=>by
  rw [List.getElem?_append_right (by omega),hplen,Nat.add_sub_cancel_left]
 have hnone:∀ id,h.length + news.length ≤ id → comb (putB is os h ++ news) HF id = none:=fun id hid=>by
  simp only [comb]; rw [List.getElem?_eq_none (by rw [List.length_append,hplen]; exact hid)]
 have hnotB:∀ b k,ow b = some k → (∀ i ∈ is,k ≠ .box i ∧ ∀ off v,k ≠ .at i off v) → ¬ isB b:=fun b k hb hk hB=>by
  obtain ⟨⟨k',h1,j,hj,h2⟩,_⟩:=hown b hB
  rw [hb] at h1; cases h1
  obtain ⟨q1,q2⟩:=hk _ (hmem j hj)
  rcases h2 with h2 | ⟨off,v,h2⟩
  ·exact q1 h2
  ·exact q2 _ _ h2
 let cv:Option OKey → Option OKey:=fun k=>match k with
  | some (.box j)=>if j < is.length + news.length then some (.box ((isx is h.length news.length).getD j 0)) else none
  | some (.at j off v)=>if j < is.length then some (.at (is.getD j 0) off v) else none
  | _=>none
 let ow3:Nat → Option OKey:=fun b=>if isB b ∨ ow b = none then cv (ow' b) else ow b
 have how3:∀ b k,ow b = some k → ¬ isB b → ow3 b = some k:=fun b k hb hn=>by
  show (if isB b ∨ ow b = none then cv (ow' b) else ow b) = some k
  rw [if_neg (fun h=>h.elim hn (fun h=>by rw [hb] at h; cases h))]; exact hb
 have how3':∀ b,(isB b ∨ ow b = none) → ow3 b = cv (ow' b):=fun b hb=>by
  show (if isB b ∨ ow b = none then cv (ow' b) else ow b) = _
  rw [if_pos hb]
 have hmine:∀ b,¬ K2.base.old b → (isB b ∨ ow b = none) ∧ ¬ K.base.old b:=fun b hno=>by
  by_cases hB:isB b
  ·exact ⟨.inl hB,(hown b hB).2⟩
  ·have hge:¬ b < w.heap.size:=fun hlt=>hno ⟨hlt,hB⟩
   refine ⟨.inr ?_,fun hbo=>hge (Nat.lt_of_lt_of_le (K.base.lt _ hbo) hok.below.size)⟩
   cases hob:ow b with
   | none=>rfl
   | some k=>exact (hge (hok.own b k hob)).elim
 have hcellm:∀ {id i ver:Nat} {c:AV},id ∉ is → CellOk K w ow id i ver c → CellOk K3 w' ow3 id i ver c:=fun {id i ver c} hm hc =>
  hc.mono hext (Nat.le_refl _) fun r n v hf ho=>by
   have hn:¬ isB r.b:=hnotB _ _ ho fun i hi=>⟨fun e=>(by cases e),fun off v e=>by cases e; exact hm hi⟩
   exact ⟨hfree r n _ hf ho hn,how3 _ _ ho hn⟩
 have hsealed:∀ {j:Nat} {e:TypeId} {cs:List AV},gs.getD j false = false → hs'[j]? = some (some (.cells e cs 0)) → ∃ csh verh,hh[j]? = some (some (.cells e csh verh)) ∧ csh.map sealC = cs:=fun {j e cs} hg q1=>by
  rw [← ehh,Q4B] at q1
  cases hx:hh[j]? with
  | none=>rw [hx] at q1; cases q1
  | some x =>
   rw [hx] at q1
   simp only [Option.map_some,hg,Bool.false_eq_true,if_false] at q1
   cases x with
   | none=>simp [sealB] at q1
   | some x=>cases x <;> simp [sealB] at q1; exact ⟨_,_,by rw [q1.1],q1.2⟩
 have hexact:∀ {j:Nat} {o:Option AObj},gs.getD j false = true → hs'[j]? = some o → hh[j]? = some o:=fun {j o} hg q1=>by
  rw [← ehh,Q4B] at q1
  cases hx:hh[j]? with
  | none=>rw [hx] at q1; cases q1
  | some x=>rw [hx] at q1; simp only [Option.map_some,hg,if_true] at q1; exact q1
 have hmono:∀ a b,a ≤ b → b < is.length + news.length → (isx is h.length news.length).getD a 0 ≤ (isx is h.length news.length).getD b 0:=fun a b hab hb=>by
  rcases Nat.lt_or_ge b is.length with h1 | h1
  ·rw [hgx a (by omega),hgx b h1]
   rcases Nat.lt_or_ge a b with h2 | h2
   ·exact Nat.le_of_lt (hsort a b h2 h1)
   ·have:a = b:=by omega
    rw [this]; exact Nat.le_refl _
  ·obtain ⟨j,rfl⟩:∃ j,b = is.length + j:=⟨b - is.length,by omega⟩
   rw [hgn j (by omega)]
   rcases Nat.lt_or_ge a is.length with h2 | h2
   ·rw [hgx a h2]; have:=hislt a h2; omega
   ·obtain ⟨i,rfl⟩:∃ i,a = is.length + i:=⟨a - is.length,by omega⟩
    rw [hgn i (by omega)]; omega
 have hlenb:(putB is os h ++ news).length = h.length + news.length:=by rw [List.length_append,hplen]
 have hdenr:∀ {cs:List AV} {vs:List Value},smallL (is.length + news.length) cs = true → DenL K' cs vs → DenL K3 (renL (isx is h.length news.length) cs) vs:=fun {cs vs} hs hd =>
  Q0y (K:=K') (K2:=K3) rfl hblk3 hs hd
 refine ⟨K3,hext,?_,⟨ow3,hok'.imm,?_,fun id e cs ver hid=>?_,fun id e n sz hid=>?_,fun id e n sz hid=>?_,fun id hid=>?_,fun id e cs ver hid=>?_,fun b k hb=>?_,fun id o hid ho=>?_,fun id hid=>hok.freshr id hid.1⟩,fun i o hi=>?_,fun i hi=>⟨hk.vlen i (by rw [hlenb] at hi; omega),(by intro e; cases e),Or.inr hi⟩⟩
 ·exact Q6B (K:=K') (K2:=K3) rfl hblk3 hv e2
 ·exact hok.below.trans (.inr ⟨hbel.os,hbel.tape,hbel.output,hbel.size,fun k hk1=>hsame k (Nat.lt_of_lt_of_le (K.base.lt _ hk1) hok.below.size) fun hB=>(hown _ hB).2 hk1⟩)
 ·rcases Nat.lt_or_ge id h.length with hidl | hidl
  ·by_cases hm:id ∈ is
   ·obtain ⟨j,hj,rfl⟩:=hidx hm
    obtain ⟨e0,c,cs0,ver0,ver2,b0,vs0,e',cs',ver1,ver',g1,p1,p2,p3,p4⟩:=hbox j hj
    rw [hputm j hj _ p4] at hid; cases hid
    have hblk0:K'.blk j = some b0:=e1.blk j b0 (by show (if j < is.length then K.blk (is.getD j 0) else none) = some b0; rw [if_pos hj]; exact g1.box.blk)
    have hB0:isB b0:=.inl ⟨j,hj,g1.box.blk⟩
    rcases g1.kind with ⟨hg,rfl,rfl,_,q4⟩ | ⟨hg,rfl,_,rfl⟩
    ·rw [hlx] at q4
     obtain ⟨csh,verh,q5,q6⟩:=hsealed hg p3
     obtain ⟨b1,vs1,g4⟩:=hok'.box j e csh verh (Qe q5)
     have hb:b1 = b0:=by have:=g4.blk; rw [hblk0] at this; exact (Option.some.inj this).symm
     subst hb
     have hden:=JS (fun _ _=>Zi) g4.den
     rw [q6] at hden
     have hund:=ZV g4.under
     rw [q6] at hund
     rw [← QfE q4]
     refine ⟨b1,vs1,hext.blk _ _ g1.box.blk,?_,g1.box.base,g4.heap,g4.imm,hdenr q4 hden,fun i c hc=>Q3K q4 hc,?_⟩
     ·rw [how3' b1 (.inl hB0),g4.own]
      show (if j < is.length + news.length then some (OKey.box ((isx is h.length news.length).getD j 0)) else none) = _
      rw [if_pos (by omega),hgx j hj]
     ·have:=Zz (is:=isx is h.length news.length) (m:=is.length + news.length) (j:=j) (fun a ha=>hmono a j ha (by omega)) q4 hund
      rwa [hgx j hj] at this
    ·have q5:=hexact hg p3
     obtain ⟨b1,vs1,g4⟩:=hok'.box j e cs' ver1 (Qe q5)
     have hb:b1 = b0:=by have:=g4.blk; rw [hblk0] at this; exact (Option.some.inj this).symm
     subst hb
     refine ⟨b1,vs1,hext.blk _ _ g1.box.blk,?_,g1.box.base,g4.heap,g4.imm,?_,fun i c hc=>?_,HL.2 fun x hx=>?_⟩
     ·rw [how3' b1 (.inl hB0),g4.own]
      show (if j < is.length + news.length then some (OKey.box ((isx is h.length news.length).getD j 0)) else none) = _
      rw [if_pos (by omega),hgx j hj]
     ·refine QaT (K:=K') (K2:=K3) (fun x v hx hd=>?_) g4.den
      rcases Q0i (is:=isx is h.length news.length) (g1.sm' x hx) with ⟨off,v',e3,es,rfl,_⟩ | ⟨h1,h2⟩
      ·simp only [AV.renC]
       cases hd with
       | «at» _ _ _ _ r hr hcap hcells=>exact .at _ off v' es r (by rw [hgx j hj,hk3g j _ _ hg]; exact hr) hcap hcells
      ·rw [h2]
       exact Q6B (K:=K') (K2:=K3) (m:=is.length + news.length) rfl hblk3 (by rw [← hlx]; exact h1) hd
     ·rw [List.getElem?_map] at hc
      cases hx:cs'[i]? with
      | none=>rw [hx] at hc; cases hc
      | some x =>
       rw [hx] at hc; cases hc
       have hxm:=List.mem_of_getElem? hx
       rcases Q0i (is:=isx is h.length news.length) (g1.sm' x hxm) with ⟨off,v',e3,es,rfl,_⟩ | ⟨h1,h2⟩
       ·obtain ⟨_,m2,m3,r,m4,m5,m6,m7⟩:=g4.cell i _ hx
        subst m2
        have hno:¬ K2.base.old r.b:=by have:=m6.base; rwa [e1.base] at this
        obtain ⟨n1,n2⟩:=hmine _ hno
        simp only [AV.renC,hgx j hj]
        refine ⟨rfl,rfl,m3,r,by rw [hk3g j _ _ hg]; exact m4,m5,⟨m6.blk,m6.imm,n2⟩,?_⟩
        rw [how3' _ n1,m7]
        show (if j < is.length then some (OKey.at (is.getD j 0) off v') else none) = _
        rw [if_pos hj]
       ·rw [h2]
        have:=Q2U (K':=K3) (w':=w') (ow':=ow3) (id:=is.getD j 0) (i:=i) (ver:=ver1) h1
        cases x with
        | ptr o=>cases o <;> trivial
        | _=>first | trivial | exact this | exact nomatch h1
     ·obtain ⟨y,hy,rfl⟩:=List.mem_map.1 hx
      rcases Q0i (is:=isx is h.length news.length) (g1.sm' y hy) with ⟨off,v',e3,es,rfl,h1⟩ | ⟨h1,h2⟩
      ·simp only [AV.renC,AV.under,hgx j hj,decide_eq_true_eq]; omega
      ·rw [h2]
       have hu:=HL.1 g4.under y hy
       have:=Qby (is:=isx is h.length news.length) (m:=is.length + news.length) (j:=j) (fun a ha=>hmono a j ha (by omega)) (by rw [← hlx]; exact h1) hu
       rwa [hgx j hj] at this
   ·rw [hput id hm hidl] at hid
    obtain ⟨b,vs,g3⟩:=hok.box id e cs ver hid
    have hlb:=hok.own _ _ g3.own
    have hnb:=hnotB b _ g3.own fun i hi=>⟨fun e=>hm (by cases e; exact hi),fun _ _ e=>by cases e⟩
    exact ⟨b,vs,hext.blk _ _ g3.blk,how3 _ _ g3.own hnb,g3.base,by rw [hsame b hlb hnb]; exact g3.heap,fun off sp=>by show K'.imm _ = none; rw [himm b hlb hnb]; exact g3.imm off sp,g3.den.mono hext,fun i c hc=>hcellm hm (g3.cell i c hc),g3.under⟩
  ·obtain ⟨j,rfl⟩:∃ j,id = h.length + j:=⟨id - h.length,by omega⟩
   have hjn:j < news.length:=by
    rcases Nat.lt_or_ge j news.length with h1 | h1
    ·exact h1
    ·rw [hnone _ (by omega)] at hid; cases hid
   obtain ⟨e',c,q1,q2,q3⟩:=hnew j hjn
   rw [Qe (by rw [hputn j hjn]; exact q3)] at hid; cases hid
   obtain ⟨csh,verh,q5,q6⟩:=hsealed (by
    cases hg:gs.getD (is.length + j) false with
    | false=>rfl
    | true=>have:=hgl _ hg; omega) q1
   obtain ⟨b1,vs1,g4⟩:=hok'.box (is.length + j) e csh verh (Qe q5)
   have hno:¬ K2.base.old b1:=by have:=g4.base; rwa [e1.base] at this
   obtain ⟨n1,n2⟩:=hmine _ hno
   have hden:=JS (fun _ _=>Zi) g4.den
   rw [q6] at hden
   have hund:=ZV g4.under
   rw [q6] at hund
   refine ⟨b1,vs1,?_,?_,n2,g4.heap,g4.imm,hdenr q2 hden,fun i c hc=>Q3K q2 hc,?_⟩
   ·have:=hblk3 (is.length + j) (by omega) b1 g4.blk
    rwa [hgn j hjn] at this
   ·rw [how3' _ n1,g4.own]
    show (if is.length + j < is.length + news.length then some (OKey.box ((isx is h.length news.length).getD (is.length + j) 0)) else none) = _
    rw [if_pos (by omega),hgn j hjn]
   ·have:=Zz (is:=isx is h.length news.length) (m:=is.length + news.length) (j:=is.length + j) (fun a ha=>hmono a _ ha (by omega)) q2 hund
    rwa [hgn j hjn] at this
 ·rcases Nat.lt_or_ge id h.length with hidl | hidl
  ·by_cases hm:id ∈ is
   ·obtain ⟨j,hj,rfl⟩:=hidx hm
    obtain ⟨_,_,_,_,_,_,_,_,_,_,_,_,_,_,_,p4⟩:=hbox j hj
    rw [hputm j hj _ p4] at hid; cases hid
   ·rw [hput id hm hidl] at hid
    obtain ⟨r,h1,h2,h3,h4,h5⟩:=hok.tip id e n sz hid
    have hn:¬ isB r.b:=hnotB _ _ h5 fun _ _=>⟨fun e=>(by cases e),fun _ _ e=>by cases e⟩
    exact ⟨r,h1,h2,h3,hfree r n _ h4 h5 hn,how3 _ _ h5 hn⟩
  ·obtain ⟨j,rfl⟩:∃ j,id = h.length + j:=⟨id - h.length,by omega⟩
   rcases Nat.lt_or_ge j news.length with hjn | hjn
   ·obtain ⟨e',c,q1,q2,q3⟩:=hnew j hjn
    rw [Qe (by rw [hputn j hjn]; exact q3)] at hid; cases hid
   ·rw [hnone _ (by omega)] at hid; cases hid
 ·rcases Nat.lt_or_ge id h.length with hidl | hidl
  ·by_cases hm:id ∈ is
   ·obtain ⟨j,hj,rfl⟩:=hidx hm
    obtain ⟨_,_,_,_,_,_,_,_,_,_,_,_,_,_,_,p4⟩:=hbox j hj
    rw [hputm j hj _ p4] at hid; cases hid
   ·rw [hput id hm hidl] at hid
    exact hok.more id e n sz hid
  ·exact fun n' _=>(hvir id hidl).2.1 n'
 ·have hfr:=hok.fresh id hid.1
  have hid3:=hid.2.2
  rw [hlenb] at hid3
  have hm:id ∉ is:=fun hm=>by
   obtain ⟨j,hj,rfl⟩:=hidx hm
   obtain ⟨_,_,_,_,_,_,_,_,_,_,_,g1,_⟩:=hbox j hj
   have:=hfr.2.1
   rw [g1.box.blk] at this; cases this
  refine ⟨?_,?_,hfr.2.2.1,fun off v=>by rw [hk3o id off v hm]; exact hfr.2.2.2 off v⟩
  ·rcases hid3 with hid3 | hid3
   ·rw [hput id hm hid3]; exact hfr.1
   ·exact hnone id hid3
  ·show (if h.length ≤ id ∧ id < h.length + news.length then _ else K.blk id) = none
   rw [if_neg (by omega)]; exact hfr.2.1
 ·rcases Nat.lt_or_ge id h.length with hidl | hidl
  ·by_cases hm:id ∈ is
   ·intro off v hvle
    obtain ⟨j,hj,rfl⟩:=hidx hm
    obtain ⟨e0,c,cs0,ver0,ver2,b0,vs0,e',cs',ver1,ver',g1,p1,p2,p3,p4⟩:=hbox j hj
    rw [hputm j hj _ p4] at hid; cases hid
    rcases g1.kind with ⟨hg,_,rfl,_⟩ | ⟨hg,_,_,rfl⟩
    ·rw [hk3s j off v hj hg]
     exact hok.ver _ _ _ _ (Qe p1) off v hvle
    ·rw [hk3g j off v hg]
     exact hok'.ver _ _ _ _ (Qe (hexact hg p3)) off v hvle
   ·rw [hput id hm hidl] at hid
    intro off v hvle
    rw [hk3o id off v hm]
    exact hok.ver id e cs ver hid off v hvle
  ·intro off v _
   have hm:id ∉ is:=fun hm=>by have:=hlt id hm; omega
   rw [hk3o id off v hm]
   exact (hvir id hidl).2.2 off v
 ·by_cases hc:isB b ∨ ow b = none
  ·rw [how3' b hc] at hb
   cases hob':ow' b with
   | some k'=>exact hok'.own b k' hob'
   | none=>rw [hob'] at hb; cases hb
  ·simp only [not_or] at hc
   cases hob:ow b with
   | none=>exact (hc.2 hob).elim
   | some k'=>exact Nat.lt_of_lt_of_le (hok.own b k' hob) hbel.size
 ·rcases Nat.lt_or_ge id h.length with hidl | hidl
  ·by_cases hm:id ∈ is
   ·obtain ⟨j,hj,rfl⟩:=hidx hm
    obtain ⟨_,_,_,_,_,_,_,_,_,_,_,_,_,_,_,p4⟩:=hbox j hj
    rw [hputm j hj _ p4] at hid; cases hid; cases ho
   ·rw [hput id hm hidl] at hid
    refine (hok.fr id o hid ho).mono hext (fun _=>rfl) fun b hb=>?_
    have hlb:=hok.own _ _ hb
    have hnb:=hnotB b _ hb fun _ _=>⟨fun e=>(by cases e),fun _ _ e=>by cases e⟩
    exact ⟨hsame b hlb hnb,how3 _ _ hb hnb,fun off sp h=>by show K'.imm _ = none; rw [himm b hlb hnb]; exact h⟩
  ·obtain ⟨j,rfl⟩:∃ j,id = h.length + j:=⟨id - h.length,by omega⟩
   rcases Nat.lt_or_ge j news.length with hjn | hjn
   ·obtain ⟨e',c,q1,q2,q3⟩:=hnew j hjn
    rw [Qe (by rw [hputn j hjn]; exact q3)] at hid; cases hid; cases ho
   ·rw [hnone _ (by omega)] at hid; cases hid
 ·have hil:i < h.length:=by
   rcases Nat.lt_or_ge i h.length with h1 | h1
   ·exact h1
   ·have:=hk.hf i o hi; rw [List.getElem?_eq_none h1] at this; cases this
  have hm:i ∉ is:=fun hm=>by
   obtain ⟨j,hj,rfl⟩:=hidx hm
   obtain ⟨_,_,_,_,_,_,_,_,_,_,_,_,p1,_⟩:=hbox j hj
   rw [hk.hf _ o hi] at p1; cases p1
  rw [hputlow i hil,Zw is os h i hm]; exact hk.hf i o hi
def AV.plainN:AV → Bool
 | .nilIface=>true
 | v=>v.plain
theorem CallX.frame0 {P:Program} {gs:List Bool} {f:FuncId} {args:List AV} {hs hs' os h:Heap} {v:AV} {is:List Nat} (hc:CallX P gs f args hs v hs') (hgs:gs.length ≤ is.length) (hsort:∀ a b,a < b → b < is.length → is.getD a 0 < is.getD b 0) (hl:hs.length = is.length) (hl':hs'.length = is.length) (hlo:os.length = is.length)
  (hsm:smallL is.length args = true) (hv:v.plainN = true)
  (hin:∀ j,j < is.length → ∃ o s s' o',h[is.getD j 0]? = some o ∧ hs[j]? = some s ∧ hs'[j]? = some s' ∧ os[j]? = some o' ∧ SeenX is is j (gs.getD j false) o s s' o'):Call1 P f (renL is args) h v (putB is os h):=by
 have hx:isx is h.length ([]:Heap).length = is:=by simp [isx]
 have hp:∀ vs:List AV,vs.all AV.isDat = true → smallL (is.length + 0) vs = true ∧ renL is vs = vs:=fun vs hvs=>by
  induction vs with
  | nil=>exact ⟨rfl,rfl⟩
  | cons x r ih =>
   simp only [List.all_cons,Bool.and_eq_true] at hvs
   obtain ⟨i1,i2⟩:=ih hvs.2
   cases x <;> first | (have:=hvs.1; simp [AV.isDat] at this; done) | (simp only [smallL,renL,AV.small,AV.ren,i1,i2,Bool.and_self,and_self])
 have hv2:v.small (is.length + 0) = true ∧ v.ren is = v:=by
  cases v <;> first | (simp [AV.plainN,AV.plain] at hv; done) | exact ⟨rfl,rfl⟩ | (rename_i vs; obtain ⟨i1,i2⟩:=hp vs hv; exact ⟨i1,congrArg AV.tuple i2⟩)
 have:=hc.frame (news:=[]) hgs hsort hl hl' hlo hsm hv2.1 (by rw [hx]; exact hin) (fun j hj=>by simp at hj)
 rw [hx,hv2.2,List.append_nil] at this
 exact this
end Go.Proofs.YtfdcjngclelnhaaGreat
namespace Go.Proofs.YtfdcjngclelnhaaGreat
open Go Go.RowKit
instance theMode:Inhabited ModeT:=⟨⟨fun _=>false,fun _=>false,fun _=>false,fun _=>0⟩⟩
noncomputable def G (t:TypeId) (d:D):D:=.agg (cells Tryz.prog t d)
noncomputable def okG (t:TypeId) (d:D):Bool:=okT Tryz.prog t d
end Go.Proofs.YtfdcjngclelnhaaGreat
