/- Part of a proof. -/
import Derived.Test.YtfdcjngclelnhaaGreatKC2
set_option linter.unusedSectionVars false
set_option linter.unusedSimpArgs false
set_option linter.unusedVariables false
namespace Go.Proofs.YtfdcjngclelnhaaGreat
open Go Go.RowKit
variable [mode:Inhabited ModeT]
section
variable {P:Program} {body:Code} {Q:Exit → Act → World → Prop} {E:Entry} {ck:CallK} {callf:CallF}
theorem Q7D {p:Pth} {x y:Code} (h:subR body p = .seq x y):Qat P body Q (0 :: p) = Exit.then (y.wp P (Qat P body Q p)) (Qat P body Q p):=by simp only [Qat,h]
theorem Q9d {p:Pth} {x y:Code} {i:Nat} (h:subR body p = .seq x y):Qat P body Q ((i + 1) :: p) = Qat P body Q p:=by simp only [Qat,h]
theorem Q25 {p:Pth} {x:Operand} {y z:Code} {i:Nat} (h:subR body p = .cond x y z):Qat P body Q (i :: p) = Qat P body Q p:=by simp only [Qat,h]
theorem QaK {p:Pth} {id:Nat} {y:Code} {i:Nat} (h:subR body p = .block id y):Qat P body Q (i :: p) = Exit.inBlock id (Qat P body Q p):=by simp only [Qat,h]
theorem QdA {p:Pth} {y:Code} {i:Nat} (h:subR body p = .loop y):Qat P body Q (i :: p) = Exit.then (LoopAt P y (Qat P body Q p)) (Qat P body Q p):=by simp only [Qat,h]
theorem Q4X {p:Pth} {y:Code} {i:Nat} (h:subR body p = .scope y):Qat P body Q (i :: p) = scopeQ P y (Qat P body Q p):=by simp only [Qat,h]
theorem Zy (i:Nat) (p:Pth):subR body (i :: p) = (match subR body p with
  | .seq a b=>match i with | 0=>a | _=>b
  | .cond _ a b=>match i with | 0=>a | _=>b
  | .block _ b=>b
  | .loop b=>b
  | .scope b=>b
  | c=>c):=rfl
theorem Q0O {l:Nat}:∀ (c:Code) (p q:Pth),subR body p = c → labelAt c l p = some q → findLabel c l = some (.seq .skip (subR body q)) ∧ Qat P body Q q = Qat P body Q p
 | .seq a b,p,q,hc,h=>by
  have hb:subR body (1 :: p) = b:=by rw [Zy,hc]; rfl
  have hQ:Qat P body Q (1 :: p) = Qat P body Q p:=Q9d hc
  unfold labelAt at h
  split at h
  ·rename_i l'
   split at h
   ·rename_i hl
    cases h
    exact ⟨by simp only [findLabel,hl,if_true,hb],hQ⟩
   ·rename_i hl
    obtain ⟨h1,h2⟩:=Q0O b (1 :: p) q hb h
    exact ⟨by simp only [findLabel,hl,if_false]; exact h1,h2.trans hQ⟩
  ·split at h
   ·rename_i hn
    obtain ⟨h1,h2⟩:=Q0O b (1 :: p) q hb h
    exact ⟨by simp only [findLabel,hn]; exact h1,h2.trans hQ⟩
   ·cases h
 | .skip,_,_,_,h | .label _,_,_,_,h | .region _ _ _,_,_,_,h | .cond _ _ _,_,_,_,h | .block _ _,_,_,_,h | .loop _,_,_,_,h | .exit _,_,_,_,h | .goto _,_,_,_,h | .ret,_,_,_,h | .scope _,_,_,_,h | .rangeFunc _ _ _ _,_,_,_,h | .refuse _,_,_,_,h=>nomatch h
theorem Inv.cond {ts:List AV} {h:Heap} {a:Act} {w:World} (hi:Inv E ts h a w) {x:Operand} {t:Bool} (hx:evX ts x = some (.dat (.bool t))):a.eval x = .bool t:=by
 obtain ⟨ts0,K,hag,hext,hle,hsim⟩:=hi
 exact QeF hsim (hag.evX hx)
theorem Inv.region {ts ts':List AV} {s':St} {h:Heap} {a a':Act} {w w':World} {K K':KW} {ts0:List AV} (hle:E.h.length ≤ h.length) (hext:Kext E.K K) (hext':Kext K K') (hl:h.length ≤ s'.heap.length) (hag:Ag ts' s'.tmps)
  (hs:Sim K ⟨ts0,h⟩ E.HF (afterV none E.h.length h.length E.V) a w) (hsim:Sim K' s' E.HF (afterV none h.length s'.heap.length (afterV none E.h.length h.length E.V)) a' w'):Inv E ts' s'.heap a' w':=by
 refine ⟨s'.tmps,K',hag,hext.trans hext',Nat.le_trans hle hl,⟨hsim.tmps,hsim.defers,hsim.fit.trans hle hl fun i hi=>E.fit.vlen i (by simp only at hi; omega)⟩⟩
theorem QoN {hk : Pth → Option Hook} {fin : Ex → List AV → Heap → Prop} {n : Nat} {e : Ex} {i : Nat} {p : Pth} {ts : List AV} {h : Heap} : exec P ck body hk fin (n + 1) (.out e (i :: p)) ts h = (match subR body p with
          | .seq _ _=>match i,e with
           | 0,.normal=>exec P ck body hk fin n (.at (1 :: p)) ts h
           | _,e=>exec P ck body hk fin n (.out e p) ts h
          | .cond _ _ _=>exec P ck body hk fin n (.out e p) ts h
          | .block id _=>match e with
           | .exit j=>if j = id then exec P ck body hk fin n (.out .normal p) ts h else exec P ck body hk fin n (.out (.exit j) p) ts h
           | e=>exec P ck body hk fin n (.out e p) ts h
          | .loop _=>match e with
           | .normal=>exec P ck body hk fin n (.at p) ts h
           | e=>exec P ck body hk fin n (.out e p) ts h
          | .scope b=>match e with
           | .goto l=>match labelAt b l (0 :: p) with
            | some q=>exec P ck body hk fin n (.at q) ts h
            | none=>False
           | e=>exec P ck body hk fin n (.out e p) ts h
          | _=>False):=rfl
theorem Qjk (hm:P.follows .mixedOrders = true) (hcall:CallOk P callf) (hc:CkOk ck callf) {hk:Pth → Option Hook} {fin:Ex → List AV → Heap → Prop}
  (hhk:∀ p k,hk p = some k → E.h.length ≤ k.base ∧ ∀ ts h,k.go ts h → Sem P body Q E (.at p) ts h)
  (hfin:∀ e ts h,fin e ts h → Sem P body Q E (.out e []) ts h):∀ (n:Nat) (c:Ctl) (ts:List AV) (h:Heap),exec P ck body hk fin n c ts h → Sem P body Q E c ts h
 | 0,c,ts,h,hx=>hx.elim
 | n + 1,c,ts,h,hx=>by
  have ih:=Qjk hm hcall hc hhk hfin n
  have step:∀ c ts h,exec P ck body hk fin n c ts h → Sem P body Q E c ts h:=ih
  cases c with
  | «at» p =>
   change (match hk p with | some k=>k.run ts h | none=>exec P ck body hk fin n (.on p) ts h) at hx
   split at hx
   ·rename_i k hkp
    obtain ⟨h1,h2⟩:=hhk p k hkp
    intro a w hi
    obtain ⟨ts',h',h3,h4⟩:=hi.hook h1 hx
    exact h2 ts' h' h3 a w h4
   ·exact step (.on p) ts h hx
  | on p =>
   intro a w hi
   change (match subR body p with
    | .skip=>exec P ck body hk fin n (.out .normal p) ts h
    | .label _=>exec P ck body hk fin n (.out .normal p) ts h
    | .region _ ops draw=>regK P ck ops draw ts h fun ts h=>exec P ck body hk fin n (.out .normal p) ts h
    | .seq _ _=>exec P ck body hk fin n (.at (0 :: p)) ts h
    | .cond (.tmp t) _ _=>match ts[t]? with
     | some (.dat (.bool b))=>match b with
      | true=>exec P ck body hk fin n (.at (0 :: p)) (setN ts t (.dat (.bool true))) h
      | false=>exec P ck body hk fin n (.at (1 :: p)) (setN ts t (.dat (.bool false))) h
     | _=>False
    | .cond x _ _=>match evX ts x with
     | some (.dat (.bool b))=>cnd b (exec P ck body hk fin n (.at (0 :: p)) ts h) (exec P ck body hk fin n (.at (1 :: p)) ts h)
     | _=>False
    | .block _ _=>exec P ck body hk fin n (.at (0 :: p)) ts h
    | .loop _=>exec P ck body hk fin n (.at (0 :: p)) ts h
    | .scope _=>exec P ck body hk fin n (.at (0 :: p)) ts h
    | .exit id=>exec P ck body hk fin n (.out (.exit id) p) ts h
    | .goto l=>exec P ck body hk fin n (.out (.goto l) p) ts h
    | .ret=>exec P ck body hk fin n (.out .ret p) ts h
    | _=>False) at hx
   split at hx
   ·rename_i hs; rw [hs]; exact wp_skip (step _ _ _ hx a w hi)
   ·rename_i hs; rw [hs]; exact wp_label (step _ _ _ hx a w hi)
   ·rename_i id ops draw hs
    rw [hs]
    obtain ⟨ts0,K,hag,hext,hle,hsim⟩:=hi
    obtain ⟨s',ts',h1,h2,h3⟩:=QkT hc hag hx
    cases draw with
    | true =>
     simp only [if_true] at h1
     have hr:=Q2M (id:=id) (Q:=Qat P body Q p) hm hcall h1 hsim
     exact hr.2 fun a' w' K' g1 g2=>step _ _ _ h3 a' w' (Inv.region (ts:=ts) hle hext g1 hr.1 h2 hsim g2)
    | false =>
     simp only [Bool.false_eq_true,if_false] at h1
     have hr:=Q10 hcall ops.toList 0 ⟨ts0,h⟩ s' K _ a w (Qat P body Q p) (fun j=>by simp) h1 hsim
     refine wp_region ?_
     have:=hr.2 fun a' w' K' g1 g2=>step _ _ _ h3 a' w' (Inv.region (ts:=ts) hle hext g1 hr.1 h2 hsim g2)
     rw [List.range_eq_range']
     simpa using this
   ·rename_i x y hs
    rw [hs]
    refine wp_seq ?_
    have:=Y3 (step _ _ _ hx a w hi)
    rw [Zy,hs,Q7D hs] at this
    exact this
   ·rename_i t x y hs
    rw [hs]
    split at hx
    ·rename_i b hb
     have hev:evX ts (.tmp t) = some (.dat (.bool b)):=by
      simp only [evX,Q6E,List.getD_eq_getElem?_getD,hb,Option.getD_some,live?]
     split at hx
     ·rw [HA,Q40 hb] at hx
      refine wp_cond (hi.cond hev) ?_
      have:=Y3 (step _ _ _ hx a w hi)
      rw [Zy,hs,Q25 hs] at this
      exact this
     ·rw [HA,Q40 hb] at hx
      refine wp_cond (hi.cond hev) ?_
      have:=Y3 (step _ _ _ hx a w hi)
      rw [Zy,hs,Q25 hs] at this
      exact this
    ·exact hx.elim
   ·rename_i x y z _ hs
    rw [hs]
    split at hx
    ·rename_i b hb
     rcases Q79 hx with ⟨rfl,hx⟩ | ⟨rfl,hx⟩
     ·refine wp_cond (hi.cond hb) ?_
      have:=Y3 (step _ _ _ hx a w hi)
      rw [Zy,hs,Q25 hs] at this
      exact this
     ·refine wp_cond (hi.cond hb) ?_
      have:=Y3 (step _ _ _ hx a w hi)
      rw [Zy,hs,Q25 hs] at this
      exact this
    ·exact hx.elim
   ·rename_i id y hs
    rw [hs]
    refine wp_block ?_
    have:=Y3 (step _ _ _ hx a w hi)
    rw [Zy,hs,QaK hs] at this
    exact this
   ·rename_i y hs
    rw [hs]
    refine QjW ?_
    have:=Y3 (step _ _ _ hx a w hi)
    rw [Zy,hs,QdA hs] at this
    exact this
   ·rename_i y hs
    rw [hs]
    refine Qnj (Qft ?_)
    have:=Y3 (step _ _ _ hx a w hi)
    rw [Zy,hs,Q4X hs] at this
    exact this
   ·rename_i id hs; rw [hs]; exact wp_exit (step _ _ _ hx a w hi)
   ·rename_i id hs; rw [hs]; exact wp_goto (step _ _ _ hx a w hi)
   ·rename_i hs; rw [hs]; exact wp_ret (step _ _ _ hx a w hi)
   ·exact hx.elim
  | out e p =>
   cases p with
   | nil=>exact hfin e ts h hx
   | cons i p =>
    intro a w hi
    rw [QoN] at hx
    split at hx
    ·rename_i x y hs
     split at hx
     ·rw [Q7D hs]
      have:=Y3 (step _ _ _ hx a w hi)
      rw [Zy,hs,Q9d hs] at this
      exact this
     ·rename_i i' e' hne
      have:=step _ _ _ hx a w hi
      cases i with
      | zero =>
       rw [Q7D hs]
       cases e with
       | normal=>exact (hne rfl rfl).elim
       | exit _=>exact this
       | goto _=>exact this
       | ret=>exact this
      | succ i=>rw [Q9d hs]; exact this
    ·rename_i hs
     rw [Q25 hs]; exact step _ _ _ hx a w hi
    ·rename_i id y hs
     rw [QaK hs]
     split at hx
     ·split at hx
      ·rename_i hj
       simp only [exOf,Exit.inBlock,hj,if_true]
       exact step _ _ _ hx a w hi
      ·rename_i hj
       simp only [exOf,Exit.inBlock,hj,if_false]
       exact step _ _ _ hx a w hi
     ·rename_i hne
      have:=step _ _ _ hx a w hi
      cases e with
      | normal=>exact this
      | exit i=>exact (hne i rfl).elim
      | goto _=>exact this
      | ret=>exact this
    ·rename_i y hs
     rw [QdA hs]
     split at hx
     ·have:=step _ _ _ hx a w hi
      rw [hs] at this
      exact this
     ·rename_i hne
      have:=step _ _ _ hx a w hi
      cases e with
      | normal=>exact (hne rfl).elim
      | exit _=>exact this
      | goto _=>exact this
      | ret=>exact this
    ·rename_i y hs
     rw [Q4X hs]
     split at hx
     ·rename_i l
      split at hx
      ·rename_i q hq
       have hsub:subR body (0 :: p) = y:=by rw [Zy,hs]
       obtain ⟨h1,h2⟩:=Q0O (P:=P) (body:=body) (Q:=Q) y (0 :: p) q hsub hq
       have:=Y3 (step _ _ _ hx a w hi)
       rw [h2,Q4X hs] at this
       simp only [exOf,scopeQ,h1]
       exact Qft (wp_seq (wp_skip this))
      ·exact hx.elim
     ·rename_i hne
      have:=step _ _ _ hx a w hi
      cases e with
      | normal=>exact this
      | exit _=>exact this
      | goto l=>exact (hne l rfl).elim
      | ret=>exact this
    ·exact hx.elim
end
end Go.Proofs.YtfdcjngclelnhaaGreat
namespace Go.Proofs.YtfdcjngclelnhaaGreat
open Go Go.RowKit
variable [mode:Inhabited ModeT]
def Call1 (P:Program) (f:FuncId) (args:List AV) (h:Heap) (v:AV) (h':Heap):Prop :=
 h.length ≤ h'.length ∧ ∀ (K:KW) (HF:Nat → Option AObj) (V:Nat → Prop) (w:World) (vargs:Array Value),DenL K args vargs.toList → Fit K h HF V w →
  CallGives P ((callFunc f vargs).run P w) fun u w'=>∃ K',Kext K K' ∧ Den K' v u ∧ Fit K' h' HF (afterV none h.length h'.length V) w'
def CallE (P:Program) (f:FuncId) (args:List AV) (h:Heap) (v:AV) (h':Heap):Prop :=
 ∀ (K:KW) (HF:Nat → Option AObj) (V:Nat → Prop) (w:World) (vargs:Array Value),DenL K args vargs.toList → Fit K h HF V w →
  CallGives P ((callFunc f vargs).run P w) fun u w'=>∃ K' hh,hh.map sealB = h' ∧ Kext K K' ∧ Den K' v u ∧ Fit K' hh HF (afterV none h.length hh.length V) w'
section
variable {P:Program} {f:FuncId} {fn:Func} {body:Code}
theorem Q2I {ts ts0:List AV} {h:Heap} (hag:Ag ts ts0):∀ {rs:List ResultVar} {vs:List AV},resultsK P ts h rs = some vs → resultsA P ts0 h rs = some vs
 | [],vs,hv=>hv
 | r :: l,vs,hv=>by
  simp only [resultsK] at hv
  split at hv
  ·rename_i v h1
   simp only [Option.map_eq_some_iff] at hv
   obtain ⟨vs',h2,rfl⟩:=hv
   have:resultA P ts0 h r = some v:=by
    cases r with
    | tmp t=>exact congrArg some (hag.get h1)
    | cell a t =>
     simp only [resultK,Option.bind_eq_some_iff] at h1
     obtain ⟨x,h3,h4⟩:=h1
     simp only [resultA,hag.get h3]
     exact h4
   simp only [resultsA,this,Q2I hag h2,Option.map_some]
  ·cases hv
end
mutual
def AV.ren (is:List Nat):AV → AV
 | .ptr (some (j,o))=>.ptr (some (is.getD j 0,o))
 | .func fn a c=>.func fn (renL is a) (renL is c)
 | .tuple vs=>.tuple (renL is vs)
 | v=>v
def renL (is:List Nat):List AV → List AV
 | []=>[]
 | v :: r=>v.ren is :: renL is r
end
mutual
def AV.small (m:Nat):AV → Bool
 | .dat _=>true
 | .ptr (some (j,_))=>decide (j < m)
 | .ptr none=>true
 | .nilFunc=>true
 | .nilIface=>true
 | .func _ a c=>smallL m a && smallL m c
 | .tuple vs=>smallL m vs
 | _=>false
def smallL (m:Nat):List AV → Bool
 | []=>true
 | v :: r=>v.small m && smallL m r
end
theorem Qc8 (is:List Nat):∀ l,renL is l = l.map (AV.ren is)
 | []=>rfl
 | v :: r=>by rw [renL,Qc8 is r]; rfl
theorem Q2T {m:Nat}:∀ {l:List AV},smallL m l = true → ∀ {j:Nat} {x:AV},l[j]? = some x → x.small m = true
 | [],_,j,x,h=>by cases h
 | v :: r,hs,0,x,h=>by simp only [smallL,Bool.and_eq_true] at hs; cases h; exact hs.1
 | v :: r,hs,j + 1,x,h=>by simp only [smallL,Bool.and_eq_true] at hs; exact Q2T hs.2 h
mutual
theorem QaU {K K2:KW} {is:List Nat} {m:Nat} (hi:K2.imm = K.imm) (hb:∀ j,j < m → K2.blk j = K.blk (is.getD j 0)):∀ {x:AV} {v:Value},x.small m = true → Den K (x.ren is) v → Den K2 x v
 | .dat d,v,_,h=>by cases h with | dat h=>exact .dat (by rw [hi]; exact h)
 | .ptr none,v,_,h=>by cases h; exact .pnil
 | .ptr (some (j,o)),v,hs,h=>by
  simp only [AV.small,decide_eq_true_eq] at hs
  cases h with | ptr _ _ b h=>exact .ptr j o b (by rw [hb j hs]; exact h)
 | .nilFunc,v,_,h=>by cases h; exact .nilFunc
 | .nilIface,v,_,h=>by cases h; exact .nilIface
 | .func fn a c,v,hs,h=>by
  simp only [AV.small,Bool.and_eq_true] at hs
  simp only [AV.ren] at h
  cases h with
  | func _ _ _ va vc hla ha hlc hc =>
   have h1:=Zn hi hb hs.1 (DenL.of_index hla ha)
   have h2:=Zn hi hb hs.2 (DenL.of_index hlc hc)
   exact .func fn a c va vc h1.length h1.index h2.length h2.index
 | .tuple vs,v,hs,h=>by
  simp only [AV.small] at hs
  simp only [AV.ren] at h
  cases h with
  | tuple _ va hla ha =>
   have h1:=Zn hi hb hs (DenL.of_index hla ha)
   exact .tuple vs va h1.length h1.index
theorem Zn {K K2:KW} {is:List Nat} {m:Nat} (hi:K2.imm = K.imm) (hb:∀ j,j < m → K2.blk j = K.blk (is.getD j 0)):∀ {xs:List AV} {vs:List Value},smallL m xs = true → DenL K (renL is xs) vs → DenL K2 xs vs
 | [],vs,_,h=>by cases h; exact .nil
 | x :: r,vs,hs,h=>by
  simp only [smallL,Bool.and_eq_true] at hs
  simp only [renL] at h
  cases h with
  | cons h1 h2=>exact .cons (QaU hi hb hs.1 h1) (Zn hi hb hs.2 h2)
end
def putB:List Nat → Heap → Heap → Heap
 | i :: is,o :: os,h=>putB is os (h.set i o)
 | _,_,h=>h
theorem Hs:∀ (is:List Nat) (os h:Heap),(putB is os h).length = h.length
 | [],_,_=>rfl
 | _ :: _,[],_=>rfl
 | i :: is,o :: os,h=>by rw [putB,Hs is os]; simp
theorem Zw:∀ (is:List Nat) (os h:Heap) (x:Nat),x ∉ is → (putB is os h)[x]? = h[x]?
 | [],_,_,_,_=>rfl
 | _ :: _,[],_,_,_=>rfl
 | i :: is,o :: os,h,x,hx=>by
  simp only [List.mem_cons,not_or] at hx
  rw [putB,Zw is os _ x hx.2,List.getElem?_set_ne (Ne.symm hx.1)]
theorem Q6D:∀ (is:List Nat) (os h:Heap),is.Nodup → is.length = os.length → (∀ i ∈ is,i < h.length) → ∀ j,j < is.length → (putB is os h)[is.getD j 0]? = os[j]?
 | [],_,_,_,_,_,j,hj=>by simp at hj
 | _ :: _,[],_,_,hl,_,_,_=>by simp at hl
 | i :: is,o :: os,h,hn,hl,hlt,0,hj=>by
  rw [putB]
  have hi:i ∉ is:=(List.nodup_cons.1 hn).1
  show (putB is os (h.set i o))[i]? = some o
  rw [Zw is os _ i hi,List.getElem?_set_self (hlt i (by simp))]
 | i :: is,o :: os,h,hn,hl,hlt,j + 1,hj=>by
  rw [putB]
  have:=Q6D is os (h.set i o) (List.nodup_cons.1 hn).2 (by simpa using hl) (fun x hx=>by rw [List.length_set]; exact hlt x (by simp [hx])) j (by simpa using hj)
  simpa using this
structure Seen (o s s' o':Option AObj):Prop where
 ex:∃ e cs ver e' cs',o = some (.cells e cs ver) ∧ s = some (.cells e (cs.map sealC) 0) ∧ s' = some (.cells e' cs' 0) ∧ o' = some (.cells e' cs' ver) ∧ (cs.map sealC).all AV.isDat = true ∧ cs'.all AV.isDat = true
theorem CallE.frame {P:Program} {f:FuncId} {args:List AV} {hs hs' os h:Heap} {v:AV} {is:List Nat} (hc:CallE P f args hs v hs') (hnd:is.Nodup) (hl:hs.length = is.length) (hl':hs'.length = is.length) (hlo:os.length = is.length)
  (hsm:smallL is.length args = true) (hv:v.plain = true)
  (hin:∀ j,j < is.length → ∃ o s s' o',h[is.getD j 0]? = some o ∧ hs[j]? = some s ∧ hs'[j]? = some s' ∧ os[j]? = some o' ∧ Seen o s s' o'):Call1 P f (renL is args) h v (putB is os h):=by
 refine ⟨by rw [Hs]; exact Nat.le_refl _,fun K HF V w vargs hargs hk=>?_⟩
 have hlt:∀ i ∈ is,i < h.length:=fun i hi=>by
  obtain ⟨j,hj,rfl⟩:=List.getElem_of_mem hi
  obtain ⟨o,_,_,_,h1,_⟩:=hin j hj
  rw [List.getD_eq_getElem?_getD,List.getElem?_eq_getElem hj,Option.getD_some] at h1
  exact Qi h1
 obtain ⟨ow,hok⟩:=hk.ok
 have hbox:∀ j,j < is.length → ∃ e cs cs0 ver b vs e' cs',hs[j]? = some (some (.cells e cs 0)) ∧ cs.all AV.isDat = true ∧ BoxOk K w ow (is.getD j 0) e cs0 ver b vs ∧ DenL K cs vs.toList ∧
   h[is.getD j 0]? = some (some (.cells e cs0 ver)) ∧ hs'[j]? = some (some (.cells e' cs' 0)) ∧ os[j]? = some (some (.cells e' cs' ver)) ∧ cs'.all AV.isDat = true:=fun j hj=>by
  obtain ⟨o,s,s',o',h1,h2,h3,h4,e,cs,ver,e',cs',rfl,rfl,rfl,rfl,h5,h6⟩:=hin j hj
  obtain ⟨b,vs,hb⟩:=hok.box (is.getD j 0) e cs ver (Qe h1)
  exact ⟨e,_,cs,ver,b,vs,e',cs',h2,h5,hb,JS (fun _ _=>Zi) hb.den,h1,h3,h4,h6⟩
 let isB:Nat → Prop:=fun b=>∃ j,j < is.length ∧ K.blk (is.getD j 0) = some b
 let K2:KW:={ base:=⟨w,fun b=>b < w.heap.size ∧ ¬ isB b,fun b hb=>hb.1⟩,imm:=K.imm,blk:=fun j=>if j < is.length then K.blk (is.getD j 0) else none,key:=fun _=>none,row:=fun _ _=>none }
 let ow2:Nat → Option OKey:=fun b=>match ow b with
  | some (.box i)=>if i ∈ is ∧ K.blk i = some b then some (.box (is.idxOf i)) else none
  | _=>none
 have hgi:∀ j,j < is.length → is.idxOf (is.getD j 0) = j:=fun j hj=>by
  rw [List.getD_eq_getElem?_getD,List.getElem?_eq_getElem hj,Option.getD_some]
  exact hnd.idxOf_getElem j hj
 have hmem:∀ j,j < is.length → is.getD j 0 ∈ is:=fun j hj=>by
  rw [List.getD_eq_getElem?_getD,List.getElem?_eq_getElem hj,Option.getD_some]
  exact List.getElem_mem _
 have hdat:∀ {K1 K':KW} {cs:List AV} {vs:List Value},K'.imm = K1.imm → cs.all AV.isDat = true → DenL K1 cs vs → DenL K' cs vs:=fun hi ha hd=>by
  induction hd with
  | nil=>exact .nil
  | cons hx _ ih =>
   simp only [List.all_cons,Bool.and_eq_true] at ha
   refine .cons ?_ (ih ha.2)
   cases hx with
   | dat hx=>exact .dat (by rw [hi]; exact hx)
   | _=>exact nomatch ha.1
 have hunder:∀ {n:Nat} {cs:List AV},cs.all AV.isDat = true → undersL n cs = true:=fun {n} {cs} ha=>by
  induction cs with
  | nil=>rfl
  | cons c r ih =>
   simp only [List.all_cons,Bool.and_eq_true] at ha
   simp only [undersL,ih ha.2,Bool.and_true]
   cases c <;> first | rfl | exact nomatch ha.1
 have hcell:∀ {K':KW} {w':World} {ow':Nat → Option OKey} {id i ver:Nat} {c:AV},c.isDat = true → CellOk K' w' ow' id i ver c:=fun {K' w' ow' id i ver c} hc=>by
  cases c <;> first | trivial | exact nomatch hc
 have hfit:Fit K2 hs (fun _=>none) (fun i=>is.length ≤ i) w:=by
  refine ⟨⟨ow2,hok.imm,BelowB.refl _,fun id e cs ver hid=>?_,fun id e n sz hid=>?_,fun id e n sz hid=>?_,fun id hid=>?_,fun id e cs ver _ off v _=>rfl,fun b k hb=>?_,fun id o hid ho=>?_,fun id _ v=>rfl⟩,fun i o hi=>(by cases hi),fun i hi=>(by omega)⟩
  ·have hid2:hs[id]? = some (some (.cells e cs ver)):=by
    simp only [comb] at hid
    split at hid
    ·rename_i o ho; rw [ho]; cases hid; rfl
    ·cases hid
    ·cases hid
   have hj:id < is.length:=by rw [← hl]; exact Qi hid2
   obtain ⟨e',cs',cs0,ver',b,vs,_,_,g1,g2,g3,g4,_⟩:=hbox id hj
   rw [hid2] at g1; cases g1
   refine ⟨b,vs,?_,?_,?_,g3.heap,g3.imm,hdat (K1:=K) rfl g2 g4,fun i c hc=>hcell (List.all_eq_true.1 g2 c (List.mem_of_getElem? hc)),hunder g2⟩
   ·show (if id < is.length then K.blk (is.getD id 0) else none) = some b
    rw [if_pos hj]; exact g3.blk
   ·show (match ow b with | some (.box i)=>if i ∈ is ∧ K.blk i = some b then some (.box (is.idxOf i)) else none | _=>none) = some (OKey.box id)
    rw [g3.own]
    simp only [hmem id hj,g3.blk,and_self,if_true,hgi id hj]
   ·exact fun hold=>hold.2 ⟨id,hj,g3.blk⟩
  ·have:hs[id]? = some (some (.tip e n sz)):=by
    simp only [comb] at hid
    split at hid
    ·rename_i o ho; rw [ho]; cases hid; rfl
    ·cases hid
    ·cases hid
   obtain ⟨_,_,_,_,_,_,_,_,g1,_⟩:=hbox id (by rw [← hl]; exact Qi this)
   rw [this] at g1; cases g1
  ·have:hs[id]? = some (some (.tip e n sz)):=by
    simp only [comb] at hid
    split at hid
    ·rename_i o ho; rw [ho]; cases hid; rfl
    ·cases hid
    ·cases hid
   obtain ⟨_,_,_,_,_,_,_,_,g1,_⟩:=hbox id (by rw [← hl]; exact Qi this)
   rw [this] at g1; cases g1
  ·refine ⟨?_,?_,fun _=>rfl,fun _ _=>rfl⟩
   ·simp only [comb]; rw [List.getElem?_eq_none (by omega)]
   ·show (if id < is.length then _ else none) = none
    rw [if_neg (by omega)]
  ·have:∃ k',ow b = some k':=by
    cases hob:ow b with
    | none=>simp [ow2,hob] at hb
    | some k'=>exact ⟨k',rfl⟩
   obtain ⟨k',hk'⟩:=this
   exact hok.own b k' hk'
  ·have:hs[id]? = some (some o):=by
    simp only [comb] at hid
    split at hid
    ·rename_i o ho; rw [ho]; cases hid; rfl
    ·cases hid
    ·cases hid
   obtain ⟨_,_,_,_,_,_,_,_,g1,_⟩:=hbox id (by rw [← hl]; exact Qi this)
   rw [this] at g1; cases g1; cases ho
 have hargs2:DenL K2 args vargs.toList:=Zn (K:=K) (K2:=K2) (m:=is.length) rfl (fun j hj=>by show (if j < is.length then K.blk (is.getD j 0) else none) = _; rw [if_pos hj]) hsm hargs
 have h3:=hc K2 (fun _=>none) (fun i=>is.length ≤ i) w vargs hargs2 hfit
 refine CallGives.mono h3 fun u w' hr=>?_
 obtain ⟨K',hh,ehh,e1,e2,e3⟩:=hr
 obtain ⟨ow',hok'⟩:=e3.ok
 have hbel:BelowB K2.base w':=by have:=hok'.below; rwa [e1.base] at this
 have hown:∀ b,isB b → ∃ j,j < is.length ∧ ow b = some (.box (is.getD j 0)) ∧ ¬ K.base.old b:=fun b ⟨j,hj,hb⟩=>by
  obtain ⟨e,cs,cs0,ver,b',vs,_,_,g1,g2,g3,_⟩:=hbox j hj
  have:b' = b:=by have:=g3.blk; rw [hb] at this; exact (Option.some.inj this).symm
  subst this
  exact ⟨j,hj,g3.own,g3.base⟩
 have hold:∀ b,b < w.heap.size → ¬ isB b → K2.base.old b:=fun b h1 h2=>⟨h1,h2⟩
 have hsame:∀ b,b < w.heap.size → ¬ isB b → w'.heap[b]? = w.heap[b]?:=fun b h1 h2=>hbel.block b (hold b h1 h2)
 have himm:∀ b,b < w.heap.size → ¬ isB b → ∀ off sp,K'.imm ⟨b,off,sp⟩ = K.imm ⟨b,off,sp⟩:=fun b h1 h2 off sp=>e1.old ⟨b,off,sp⟩ (hold b h1 h2)
 have hext:Kext K { K with imm:=K'.imm }:=⟨rfl,e1.imm,fun _ _ h=>h,fun _ _ h=>h,fun a ha=>by
  refine e1.old a (hold _ (Nat.lt_of_lt_of_le (K.base.lt _ ha) hok.below.size) fun hb=>?_)
  obtain ⟨j,hj,_,hno⟩:=hown _ hb
  exact hno ha,fun _ _ _ h=>h⟩
 have hfree:∀ r n k,Free K w r n → ow r.b = some k → ¬ isB r.b → Free { K with imm:=K'.imm } w' r n:=fun r n k hf hb hn=>by
  have hlt:=hok.own _ _ hb
  obtain ⟨vs,lo,hi,g1,g2⟩:=hf.blk
  exact ⟨⟨vs,lo,hi,by rw [hsame _ hlt hn]; exact g1,g2⟩,fun off sp ho=>by show K'.imm _ = none; rw [himm _ hlt hn]; exact hf.imm off sp ho,hf.base⟩
 have hput:∀ id,id ∉ is → comb (putB is os h) HF id = comb h HF id:=fun id hid=>by
  simp only [comb,Zw is os h id hid]
 have hputm:∀ j,j < is.length → ∀ o,os[j]? = some (some o) → comb (putB is os h) HF (is.getD j 0) = some o:=fun j hj o ho =>
  Qe (by rw [Q6D is os h hnd (by omega) hlt j hj,ho])
 have hidx:∀ {id:Nat},id ∈ is → ∃ j,j < is.length ∧ is.getD j 0 = id:=fun {id} hm=>by
  obtain ⟨j,hj,rfl⟩:=List.getElem_of_mem hm
  exact ⟨j,hj,by rw [List.getD_eq_getElem?_getD,List.getElem?_eq_getElem hj,Option.getD_some]⟩
 have hnotB:∀ b k,ow b = some k → (∀ i ∈ is,k ≠ .box i) → ¬ isB b:=fun b k hb hk hB=>by
  obtain ⟨j,hj,h1,_⟩:=hown b hB
  rw [hb] at h1
  exact hk _ (hmem j hj) (Option.some.inj h1)
 have hcellm:∀ {id i ver:Nat} {c:AV},CellOk K w ow id i ver c → CellOk { K with imm:=K'.imm } w' ow id i ver c:=fun {id i ver c} hc =>
  hc.mono hext (Nat.le_refl _) fun r n v hf ho=>⟨hfree r n _ hf ho (hnotB _ _ ho fun _ _ e=>by cases e),ho⟩
 refine ⟨{ K with imm:=K'.imm },hext,Q57 (K:=K') (K':={ K with imm:=K'.imm }) (fun _ _ h=>h) e2 hv,⟨ow,hok'.imm,?_,fun id e cs ver hid=>?_,fun id e n sz hid=>?_,fun id e n sz hid=>?_,fun id hid=>?_,fun id e cs ver hid=>?_,fun b k hb=>Nat.lt_of_lt_of_le (hok.own b k hb) hbel.size,fun id o hid ho=>?_,fun id hid=>hok.freshr id hid.1⟩,fun i o hi=>?_,fun i hi=>⟨hk.vlen i (by rw [Hs] at hi; exact hi),(by intro e; cases e),Or.inr hi⟩⟩
 ·exact hok.below.trans (.inr ⟨hbel.os,hbel.tape,hbel.output,hbel.size,fun k hk1=>hsame k (Nat.lt_of_lt_of_le (K.base.lt _ hk1) hok.below.size) fun hB=>by
   obtain ⟨j,hj,_,hno⟩:=hown _ hB
   exact hno hk1⟩)
 ·by_cases hm:id ∈ is
  ·obtain ⟨j,hj,rfl⟩:=hidx hm
   obtain ⟨e0,cs1,cs0,ver0,b0,vs0,e',cs',g1,g2,g3,_,_,q1,q2,q4⟩:=hbox j hj
   rw [hputm j hj _ q2] at hid; cases hid
   obtain ⟨csh,verh,q5,q6⟩:∃ csh verh,hh[j]? = some (some (.cells e csh verh)) ∧ csh.map sealC = cs:=by
    rw [← ehh,List.getElem?_map] at q1
    cases hx:hh[j]? with
    | none=>rw [hx] at q1; cases q1
    | some x =>
     rw [hx] at q1
     cases x with
     | none=>simp [sealB] at q1
     | some x=>cases x <;> simp [sealB] at q1; exact ⟨_,_,by rw [q1.1],q1.2⟩
   obtain ⟨b1,vs1,g4⟩:=hok'.box j e csh verh (Qe q5)
   have hb:b1 = b0:=by
    have h1:K2.blk j = some b0:=by show (if j < is.length then K.blk (is.getD j 0) else none) = some b0; rw [if_pos hj]; exact g3.blk
    have h2:=e1.blk j b0 h1
    rw [g4.blk] at h2; exact Option.some.inj h2
   subst hb
   have hden:=JS (fun _ _=>Zi) g4.den
   rw [q6] at hden
   exact ⟨b1,vs1,g3.blk,g3.own,g3.base,g4.heap,g4.imm,hdat (K1:=K') rfl q4 hden,fun i c hc=>hcell (List.all_eq_true.1 q4 c (List.mem_of_getElem? hc)),hunder q4⟩
  ·rw [hput id hm] at hid
   obtain ⟨b,vs,g3⟩:=hok.box id e cs ver hid
   have hlb:=hok.own _ _ g3.own
   have hnb:=hnotB b _ g3.own fun i hi e=>hm (by cases e; exact hi)
   exact ⟨b,vs,g3.blk,g3.own,g3.base,by rw [hsame b hlb hnb]; exact g3.heap,fun off sp=>by show K'.imm _ = none; rw [himm b hlb hnb]; exact g3.imm off sp,g3.den.mono hext,fun i c hc=>hcellm (g3.cell i c hc),g3.under⟩
 ·by_cases hm:id ∈ is
  ·obtain ⟨j,hj,rfl⟩:=hidx hm
   obtain ⟨_,_,_,_,_,_,_,_,_,_,_,_,_,_,q2,_⟩:=hbox j hj
   rw [hputm j hj _ q2] at hid; cases hid
  ·rw [hput id hm] at hid
   obtain ⟨r,h1,h2,h3,h4,h5⟩:=hok.tip id e n sz hid
   exact ⟨r,h1,h2,h3,hfree r n _ h4 h5 (hnotB _ _ h5 fun _ _ e=>by cases e),h5⟩
 ·by_cases hm:id ∈ is
  ·obtain ⟨j,hj,rfl⟩:=hidx hm
   obtain ⟨_,_,_,_,_,_,_,_,_,_,_,_,_,_,q2,_⟩:=hbox j hj
   rw [hputm j hj _ q2] at hid; cases hid
  ·rw [hput id hm] at hid
   exact hok.more id e n sz hid
 ·have hfr:=hok.fresh id hid.1
  refine ⟨?_,hfr.2⟩
  have hm:id ∉ is:=fun hm=>by
   obtain ⟨j,hj,rfl⟩:=hidx hm
   obtain ⟨_,_,_,_,_,_,_,_,_,_,g3,_⟩:=hbox j hj
   have:=hfr.2.1
   rw [g3.blk] at this; cases this
  rw [hput id hm]; exact hfr.1
 ·by_cases hm:id ∈ is
  ·intro off v hvle
   obtain ⟨j,hj,rfl⟩:=hidx hm
   obtain ⟨e0,cs1,cs0,ver0,b0,vs0,e',cs',g1,g2,g3,_,q0,q1,q2,q4⟩:=hbox j hj
   rw [hputm j hj _ q2] at hid; cases hid
   exact hok.ver _ _ _ _ (Qe q0) off v hvle
  ·rw [hput id hm] at hid
   exact hok.ver id e cs ver hid
 ·by_cases hm:id ∈ is
  ·obtain ⟨j,hj,rfl⟩:=hidx hm
   obtain ⟨_,_,_,_,_,_,_,_,_,_,_,_,_,_,q2,_⟩:=hbox j hj
   rw [hputm j hj _ q2] at hid; cases hid; cases ho
  ·rw [hput id hm] at hid
   refine (hok.fr id o hid ho).mono hext (fun _=>rfl) fun b hb=>?_
   have hlb:=hok.own _ _ hb
   have hnb:=hnotB b _ hb fun _ _ e=>by cases e
   exact ⟨hsame b hlb hnb,hb,fun off sp h=>by show K'.imm _ = none; rw [himm b hlb hnb]; exact h⟩
 ·have hm:i ∉ is:=fun hm=>by
   obtain ⟨j,hj,rfl⟩:=hidx hm
   obtain ⟨_,_,_,_,_,_,_,_,_,_,_,_,q0,_⟩:=hbox j hj
   rw [hk.hf _ o hi] at q0; cases q0
  rw [Zw is os h i hm]; exact hk.hf i o hi
end Go.Proofs.YtfdcjngclelnhaaGreat
