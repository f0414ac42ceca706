/- Part of a proof. -/
import Derived.Test.YtfdcjngclelnhaaGreatD7
import Derived.Lib.FrozenHead
set_option linter.unusedSectionVars false
set_option linter.unusedSimpArgs false
set_option linter.unusedVariables false
namespace Go.Proofs.YtfdcjngclelnhaaGreat
open Go Go.RowKit
mutual
theorem Q8h {n m:Nat} (h:n ≤ m):∀ {x:AV},x.under n = true → x.under m = true
 | .dat _,_=>rfl
 | .own .full _,_=>rfl
 | .own (.tip i) _,hx=>by simp only [AV.under,decide_eq_true_eq] at hx ⊢; omega
 | .own (.at i _ _ _) _,hx=>by simp only [AV.under,decide_eq_true_eq] at hx ⊢; omega
 | .ptr none,_=>rfl
 | .ptr (some (i,_)),hx=>by simp only [AV.under,decide_eq_true_eq] at hx ⊢; omega
 | .ep _ _,_=>rfl
 | .func _ a c,hx=>by simp only [AV.under,Bool.and_eq_true] at hx ⊢; exact ⟨QM h hx.1,QM h hx.2⟩
 | .nilFunc,_=>rfl
 | .iface _ v,hx=>by simp only [AV.under] at hx ⊢; exact Q8h h hx
 | .nilIface,_=>rfl
 | .agg cs,hx=>by simp only [AV.under] at hx ⊢; exact QM h hx
 | .tuple cs,hx=>by simp only [AV.under] at hx ⊢; exact QM h hx
 | .sdata i _ _ _ _,hx=>by simp only [AV.under,decide_eq_true_eq] at hx ⊢; omega
 | .fp i _ _,hx=>by simp only [AV.under,decide_eq_true_eq] at hx ⊢; omega
 | .row i _ _ _ _,hx=>by simp only [AV.under,decide_eq_true_eq] at hx ⊢; omega
 | .mapv none,_=>rfl
 | .any,_=>rfl
 | .mapv (some i),hx=>by simp only [AV.under,decide_eq_true_eq] at hx ⊢; omega
theorem QM {n m:Nat} (h:n ≤ m):∀ {l:List AV},undersL n l = true → undersL m l = true
 | [],_=>rfl
 | x :: l,hx=>by simp only [undersL,Bool.and_eq_true] at hx ⊢; exact ⟨Q8h h hx.1,QM h hx.2⟩
end
theorem Zv {n:Nat}:∀ {a b:List AV},undersL n a = true → undersL n b = true → undersL n (a ++ b) = true
 | [],_,_,h=>h
 | x :: a,b,h,k=>by
  simp only [undersL,Bool.and_eq_true,List.cons_append] at h ⊢
  exact ⟨h.1,Zv h.2 k⟩
theorem Q0N {n:Nat}:∀ {a:List AV} (m:Nat),undersL n a = true → undersL n (a.take m) = true
 | [],m,h=>by simpa using h
 | x :: a,0,h=>rfl
 | x :: a,m + 1,h=>by
  simp only [undersL,Bool.and_eq_true,List.take_succ_cons] at h ⊢
  exact ⟨h.1,Q0N m h.2⟩
theorem Q0Z {n:Nat}:∀ {a:List AV} (m:Nat),undersL n a = true → undersL n (a.drop m) = true
 | [],m,h=>by simpa using h
 | x :: a,0,h=>h
 | x :: a,m + 1,h=>by
  simp only [undersL,Bool.and_eq_true,List.drop_succ_cons] at h ⊢
  exact Q0Z m h.2
theorem Q43 {h:Heap} {lim lim':Nat} {ws:List AV} (hl:limA h lim ws = some lim'):lim ≤ lim' ∧ undersL lim' ws = true:=by
 unfold limA at hl
 split at hl
 ·rename_i hu; cases hl; exact ⟨Nat.le_refl _,hu⟩
 ·split at hl
  ·rename_i hu; cases hl; exact ⟨by omega,QM (by omega) hu⟩
  ·exact nomatch hl
def withFr (K:KW) (id b n:Nat):KW:={ K with blk:=fun i=>if i = id then some b else K.blk i,row:=fun i v=>if i = id ∧ v = 0 then some ⟨b,0,n⟩ else K.row i v }
theorem Q29 {K:KW} {id b n:Nat} (h:K.blk id = none) (hr:∀ v,K.row id v = none):Kext K (withFr K id b n) where
 base:=rfl
 imm:=fun _ _ h=>h
 blk:=fun i b' hb=>by
  simp only [withFr]
  split
  ·rename_i e; rw [e,h] at hb; exact nomatch hb
  ·exact hb
 key:=fun _ _ h=>h
 old:=fun _ _=>rfl
 row:=fun i v r hv=>by
  simp only [withFr]
  split
  ·rename_i e; rw [e.1,hr] at hv; exact nomatch hv
  ·exact hv
section
variable {K:KW} {hc:Nat → Option AObj} {V:Nat → Prop} {w:World} {ow:Nat → Option OKey}
theorem OkW.newFr (hk:OkW K hc V w ow) {id:Nat} (hv:V id) {o:AObj} (ho:o.isFr = true) {obj:Obj} {n:Nat} (hat:FreeAt (withFr K id w.heap.size n) id o w.heap.size obj) :
  ∃ ow',OkW (withFr K id w.heap.size n) (upd hc id (some o)) (fun i=>V i ∧ i ≠ id) (w.alloc obj) ow' ∧ Kext K (withFr K id w.heap.size n):=by
 obtain ⟨f1,f2,f3,f4⟩:=hk.fresh id hv
 have f5:=hk.freshr id hv
 have hext:=Q29 (b:=w.heap.size) (n:=n) f2 f5
 have hp:=hk.push obj
 have hne:∀ b' k,ow b' = some k → b' ≠ w.heap.size:=fun b' k h1=>by have:=hk.own b' k h1; omega
 let ow':Nat → Option OKey:=fun b=>if b = w.heap.size then some (.fr id) else ow b
 have how:∀ b' k,ow b' = some k → ow' b' = some k:=fun b' k h1=>by simp [ow',hne b' k h1,h1]
 have hrow:∀ i v,i ≠ id → (withFr K id w.heap.size n).row i v = K.row i v:=fun i v h=>by simp [withFr,h]
 refine ⟨ow',⟨hp.imm,hp.below,fun id' e' cs' ver' hid=>?_,fun id' e' n sz hid=>?_,fun id' e' n sz hid=>?_,fun id' hv'=>?_,fun id' e' cs' ver' hid=>?_,fun b k hb=>?_,fun id' o' hid ho'=>?_,fun id' hv' v=>(hrow id' v hv'.2).trans (hk.freshr id' hv'.1 v)⟩,hext⟩
 ·by_cases hi:id' = id
  ·subst hi; rw [Qk] at hid; cases hid; cases ho
  ·rw [Qw hi] at hid
   obtain ⟨b,vs',hbox⟩:=hp.box id' e' cs' ver' hid
   refine ⟨b,vs',hext.blk _ _ hbox.blk,how _ _ hbox.own,hbox.base,hbox.heap,hbox.imm,hbox.den.mono hext,fun i c hi=>?_,hbox.under⟩
   exact (hbox.cell i c hi).mono hext (Nat.le_refl _) fun r n v hf ho=>⟨⟨hf.blk,hf.imm,hf.base⟩,how _ _ ho⟩
 ·by_cases hi:id' = id
  ·subst hi; rw [Qk] at hid; cases hid; cases ho
  ·rw [Qw hi] at hid
   obtain ⟨r,h1,h2,h3,h4,h5⟩:=hp.tip id' e' n sz hid
   exact ⟨r,h1,h2,h3,⟨h4.blk,h4.imm,h4.base⟩,how _ _ h5⟩
 ·by_cases hi:id' = id
  ·subst hi; rw [Qk] at hid; cases hid; cases ho
  ·rw [Qw hi] at hid; exact hk.more id' e' n sz hid
 ·obtain ⟨g1,g2,g3,g4⟩:=hk.fresh id' hv'.1
  exact ⟨by rw [Qw hv'.2]; exact g1,by simp [withFr,hv'.2,g2],g3,g4⟩
 ·by_cases hi:id' = id
  ·subst hi; rw [Qk] at hid; cases hid; cases ho
  ·rw [Qw hi] at hid; exact hk.ver id' e' cs' ver' hid
 ·simp only [ow'] at hb
  rw [Q3j]
  split at hb
  ·omega
  ·have:=hk.own b k hb; omega
 ·by_cases hi:id' = id
  ·subst hi; rw [Qk] at hid; cases hid
   refine ⟨w.heap.size,obj,hat,Z8 _ _,by simp [ow'],hk.base_le,fun off sp=>?_⟩
   show K.imm _ = none
   cases hm:K.imm ⟨w.heap.size,off,sp⟩ with
   | none=>rfl
   | some v =>
    have:=hk.imm _ _ hm
    obtain ⟨vs,e,f,h1,_⟩:=Zd this
    have:=ZD h1
    simp at this
  ·rw [Qw hi] at hid
   exact (hp.fr id' o' hid ho').mono hext (fun v=>hrow id' v hi) fun b hb=>⟨rfl,how _ _ hb,fun _ _ h=>h⟩
theorem OkW.turnFr (hk:OkW K hc V w ow) {id:Nat} {o o':AObj} (hid:hc id = some o) (ho:o.isFr = true) (ho':o'.isFr = true) {row:Nat → Nat → Option RRow} {w':World} {b2:Nat} {obj':Obj}
  (hrow:∀ i v r,K.row i v = some r → row i v = some r) (hrow':∀ i v,i ≠ id → row i v = K.row i v)
  (hat:FreeAt { K with row:=row } id o' b2 obj') (hb2:w'.heap[b2]? = some obj') (hbase:¬ K.base.old b2) (himm:∀ off sp,K.imm ⟨b2,off,sp⟩ = none) (hfree:ow b2 = none ∨ ow b2 = some (.fr id))
  (hbel:BelowB K.base w') (hsz:w.heap.size ≤ w'.heap.size) (hsame:∀ x k,ow x = some k → k ≠ .fr id → w'.heap[x]? = w.heap[x]?) (hcell:∀ a c,K.imm a = some c → w'.cell? a = some c) :
  OkW { K with row:=row } (upd hc id (some o')) V w' (fun x=>if x = b2 then some (.fr id) else ow x) ∧ Kext K { K with row:=row }:=by
 have hext:Kext K { K with row:=row }:=⟨rfl,fun _ _ h=>h,fun _ _ h=>h,fun _ _ h=>h,fun _ _=>rfl,hrow⟩
 have how:∀ x k,ow x = some k → k ≠ .fr id → (if x = b2 then some (.fr id) else ow x) = some k:=fun x k h1 h2=>by
  have:x ≠ b2:=by
   rintro rfl
   rcases hfree with h | h
   ·rw [h] at h1; cases h1
   ·rw [h] at h1; exact h2 (Option.some.inj h1).symm
  rw [if_neg this]; exact h1
 have hnf:∀ id':Nat,id' ≠ id → OKey.fr id' ≠ .fr id:=fun id' h e=>h (OKey.fr.inj e)
 have hV:∀ i,V i → i ≠ id:=fun i hi e=>by have:=(hk.fresh i hi).1; rw [e,hid] at this; cases this
 have hfr:∀ r n k,Free K w r n → ow r.b = some k → k ≠ .fr id → Free { K with row:=row } w' r n:=fun r n k hf h1 h2=>⟨by obtain ⟨vs,lo,hi,h3,h4⟩:=hf.blk; exact ⟨vs,lo,hi,(hsame _ _ h1 h2).trans h3,h4⟩,hf.imm,hf.base⟩
 refine ⟨⟨hcell,hbel,fun id' e' cs' ver' hid'=>?_,fun id' e' n sz hid'=>?_,fun id' e' n sz hid'=>?_,fun id' hv'=>?_,fun id' e' cs' ver' hid'=>?_,fun b k hb=>?_,fun id' o'' hid' ho''=>?_,fun id' hv' v=>(hrow' id' v (hV id' hv')).trans (hk.freshr id' hv' v)⟩,hext⟩
 ·by_cases hi:id' = id
  ·subst hi; rw [Qk] at hid'; cases hid'; cases ho'
  ·rw [Qw hi] at hid'
   obtain ⟨b,vs',hbox⟩:=hk.box id' e' cs' ver' hid'
   refine ⟨b,vs',hbox.blk,how _ _ hbox.own (fun e=>nomatch e),hbox.base,(hsame _ _ hbox.own (fun e=>nomatch e)).trans hbox.heap,hbox.imm,hbox.den.mono hext,fun i c hi=>?_,hbox.under⟩
   exact (hbox.cell i c hi).mono hext (Nat.le_refl _) fun r n v hf ho=>⟨hfr r n _ hf ho (fun e=>nomatch e),how _ _ ho (fun e=>nomatch e)⟩
 ·by_cases hi:id' = id
  ·subst hi; rw [Qk] at hid'; cases hid'; cases ho'
  ·rw [Qw hi] at hid'
   obtain ⟨r,h1,h2,h3,h4,h5⟩:=hk.tip id' e' n sz hid'
   exact ⟨r,h1,h2,h3,hfr r n _ h4 h5 (fun e=>nomatch e),how _ _ h5 (fun e=>nomatch e)⟩
 ·by_cases hi:id' = id
  ·subst hi; rw [Qk] at hid'; cases hid'; cases ho'
  ·rw [Qw hi] at hid'; exact hk.more id' e' n sz hid'
 ·obtain ⟨g1,g2,g3,g4⟩:=hk.fresh id' hv'
  exact ⟨by rw [Qw (hV id' hv')]; exact g1,g2,g3,g4⟩
 ·by_cases hi:id' = id
  ·subst hi; rw [Qk] at hid'; cases hid'; cases ho'
  ·rw [Qw hi] at hid'; exact hk.ver id' e' cs' ver' hid'
 ·split at hb
  ·rename_i e; rw [e]; exact ZD hb2
  ·have:=hk.own b k hb; omega
 ·by_cases hi:id' = id
  ·subst hi; rw [Qk] at hid'; cases hid'
   exact ⟨b2,obj',hat,hb2,if_pos rfl,hbase,himm⟩
  ·rw [Qw hi] at hid'
   refine (hk.fr id' o'' hid' ho'').mono hext (fun v=>hrow' id' v hi) fun b hb=>⟨hsame _ _ hb (hnf id' hi),how _ _ hb (hnf id' hi),fun _ _ h=>h⟩
theorem OkW.letFr (hk:OkW K hc V w ow) {id:Nat} {o:AObj} (hid:hc id = some o) (ho:o.isFr = true) {b:Nat} (hb:ow b = some (.fr id)):OkW K (upd hc id none) V w (fun x=>if x = b then none else ow x):=by
 have how:∀ x k,ow x = some k → k ≠ .fr id → (if x = b then none else ow x) = some k:=fun x k h1 h2=>by
  have:x ≠ b:=by rintro rfl; rw [hb] at h1; exact h2 (Option.some.inj h1).symm
  rw [if_neg this]; exact h1
 have hnf:∀ id':Nat,id' ≠ id → OKey.fr id' ≠ .fr id:=fun id' h e=>h (OKey.fr.inj e)
 have hV:∀ i,V i → i ≠ id:=fun i hi e=>by have:=(hk.fresh i hi).1; rw [e,hid] at this; cases this
 refine ⟨hk.imm,hk.below,fun id' e' cs' ver' hid'=>?_,fun id' e' n sz hid'=>?_,fun id' e' n sz hid'=>?_,fun id' hv'=>?_,fun id' e' cs' ver' hid'=>?_,fun b' k hb'=>?_,fun id' o'' hid' ho''=>?_,hk.freshr⟩
 ·by_cases hi:id' = id
  ·subst hi; rw [Qk] at hid'; cases hid'
  ·rw [Qw hi] at hid'
   obtain ⟨b,vs',hbox⟩:=hk.box id' e' cs' ver' hid'
   refine ⟨b,vs',hbox.blk,how _ _ hbox.own (fun e=>nomatch e),hbox.base,hbox.heap,hbox.imm,hbox.den,fun i c hi=>?_,hbox.under⟩
   exact (hbox.cell i c hi).mono (Kext.refl K) (Nat.le_refl _) fun r n v hf ho=>⟨hf,how _ _ ho (fun e=>nomatch e)⟩
 ·by_cases hi:id' = id
  ·subst hi; rw [Qk] at hid'; cases hid'
  ·rw [Qw hi] at hid'
   obtain ⟨r,h1,h2,h3,h4,h5⟩:=hk.tip id' e' n sz hid'
   exact ⟨r,h1,h2,h3,h4,how _ _ h5 (fun e=>nomatch e)⟩
 ·by_cases hi:id' = id
  ·subst hi; rw [Qk] at hid'; cases hid'
  ·rw [Qw hi] at hid'; exact hk.more id' e' n sz hid'
 ·obtain ⟨g1,g2,g3,g4⟩:=hk.fresh id' hv'
  exact ⟨by rw [Qw (hV id' hv')]; exact g1,g2,g3,g4⟩
 ·by_cases hi:id' = id
  ·subst hi; rw [Qk] at hid'; cases hid'
  ·rw [Qw hi] at hid'; exact hk.ver id' e' cs' ver' hid'
 ·split at hb'
  ·cases hb'
  ·exact hk.own b' k hb'
 ·by_cases hi:id' = id
  ·subst hi; rw [Qk] at hid'; cases hid'
  ·rw [Qw hi] at hid'
   exact (hk.fr id' o'' hid' ho'').mono (Kext.refl K) (fun _=>rfl) fun b' hb'=>⟨rfl,how _ _ hb' (hnf id' hi),fun _ _ h=>h⟩
end
end Go.Proofs.YtfdcjngclelnhaaGreat
namespace Go.Proofs.YtfdcjngclelnhaaGreat
open Go Go.RowKit
variable [mode:Inhabited ModeT]
def comb (h:Heap) (HF:Nat → Option AObj):Nat → Option AObj:=fun i =>
 match h[i]? with
 | some (some o)=>some o
 | some none=>HF i
 | none=>none
structure Fit (K:KW) (h:Heap) (HF:Nat → Option AObj) (V:Nat → Prop) (w:World):Prop where
 ok:Ok K (comb h HF) V w
 hf:∀ i o,HF i = some o → h[i]? = some none
 vlen:∀ i,h.length ≤ i → V i
def afterV (place:Option Nat) (n n':Nat) (V:Nat → Prop):Nat → Prop:=fun i=>V i ∧ place ≠ some i ∧ (i < n ∨ n' ≤ i)
section
variable {P:Program} {K:KW} {w:World} {h:Heap} {HF:Nat → Option AObj} {V:Nat → Prop} {ow:Nat → Option OKey}
theorem Qe {i:Nat} {o:AObj} (hi:h[i]? = some (some o)):comb h HF i = some o:=by simp [comb,hi]
theorem Qi {α:Type} {l:List α} {i:Nat} {x:α} (hi:l[i]? = some x):i < l.length:=by
 rcases Nat.lt_or_ge i l.length with h | h
 ·exact h
 ·rw [List.getElem?_eq_none h] at hi; exact nomatch hi
theorem Qll (o:AObj):comb (h ++ [some o]) HF = upd (comb h HF) h.length (some o):=by
 funext i
 simp only [comb,upd]
 by_cases hi:i = h.length
 ·subst hi; simp
 ·rw [if_neg hi]
  rcases Nat.lt_or_ge i h.length with h' | h'
  ·rw [List.getElem?_append_left h']
  ·rw [List.getElem?_eq_none (l:=h) h',List.getElem?_eq_none (by simp; omega)]
theorem Yx {r:Nat} (hr:r < h.length) (o:AObj):comb (h.set r (some o)) HF = upd (comb h HF) r (some o):=by
 funext i
 simp only [comb,upd]
 by_cases hi:i = r
 ·subst hi; simp [List.getElem?_set,hr]
 ·rw [if_neg hi,List.getElem?_set_ne (fun e=>hi e.symm)]
theorem QaJ {r:Nat} (hr:r < h.length) (hf:HF r = none):comb (h.set r none) HF = upd (comb h HF) r none:=by
 funext i
 simp only [comb,upd]
 by_cases hi:i = r
 ·subst hi; simp [List.getElem?_set,hr,hf]
 ·rw [if_neg hi,List.getElem?_set_ne (fun e=>hi e.symm)]
theorem Fit.hf_none (hk:Fit K h HF V w) {i:Nat} {o:AObj} (hi:h[i]? = some (some o)):HF i = none:=by
 cases hh:HF i with
 | none=>rfl
 | some o'=>rw [hk.hf i o' hh] at hi; cases hi
theorem Fit.hf_virgin (hk:Fit K h HF V w) {i:Nat} (hv:V i):HF i = none:=by
 cases hh:HF i with
 | none=>rfl
 | some o' =>
  obtain ⟨ow,hok⟩:=hk.ok
  have h1:=(hok.fresh i hv).1
  have h2:=hk.hf i o' hh
  simp [comb,h2,hh] at h1
theorem Fit.virgin {V':Nat → Prop} (hk:Fit K h HF V w) (h1:∀ i,V' i → V i) (h2:∀ i,h.length ≤ i → V' i):Fit K h HF V' w:=⟨hk.ok.virgin h1,hk.hf,h2⟩
theorem Fit.after (hk:Fit K h HF V w) {place:Option Nat} (hp:∀ r,place = some r → r < h.length):Fit K h HF (afterV place h.length h.length V) w :=
 hk.virgin (fun _ hi=>hi.1) fun i hi=>⟨hk.vlen i hi,fun e=>by have:=hp i e; omega,Or.inr hi⟩
theorem QlB {x:AV} {v:Value} (h:Den K x v):Den K (sealT x) v:=by
 unfold sealT
 split
 ·exact h
 ·exact .dat (Z0 h)
 ·exact h
theorem QkP (x:AV):(∀ j es,sealT x ≠ AV.own (.tip j) es) ∧ ∀ a b d f es,sealT x ≠ AV.own (.at a b d f) es:=by
 unfold sealT
 split
 ·exact ⟨fun _ _ e=>(nomatch e),fun _ _ _ _ _ e=>(nomatch e)⟩
 ·exact ⟨fun _ _ e=>(nomatch e),fun _ _ _ _ _ e=>(nomatch e)⟩
 ·rename_i h1
  exact ⟨fun j es e=>h1 _ es e,fun a b d f es e=>h1 _ es e⟩
theorem Ha {place:Option Nat} {o:AObj} {id:Nat} {h':Heap} (hk:Fit K h HF V w) (hp:∀ r,place = some r → V r) (ha:allocObj place h o = some (id,h')) :
  V id ∧ comb h' HF = upd (comb h HF) id (some o) ∧ h.length ≤ h'.length ∧ (∀ i o',HF i = some o' → h'[i]? = some none) ∧ (∀ i,h'.length ≤ i → afterV place h.length h'.length V i) ∧ (∀ i,afterV place h.length h'.length V i → V i ∧ i ≠ id):=by
 unfold allocObj at ha
 split at ha
 ·cases ha
  refine ⟨hk.vlen _ (Nat.le_refl _),Qll o,by simp,fun i o' hi=>?_,fun i hi=>?_,fun i hi=>?_⟩
  ·have:=hk.hf i o' hi
   rw [List.getElem?_append_left (Qi this)]; exact this
  ·simp at hi; exact ⟨hk.vlen i (by omega),by simp,Or.inr (by simpa using hi)⟩
  ·have:=hi.2.2; simp at this; exact ⟨hi.1,by omega⟩
 ·rename_i r
  split at ha
  ·rename_i hr
   cases ha
   have hlt:=Qi hr
   refine ⟨hp _ rfl,Yx hlt o,by simp,fun i o' hi=>?_,fun i hi=>?_,fun i hi=>?_⟩
   ·have h1:=hk.hf i o' hi
    have:i ≠ id:=by rintro rfl; have:=hk.hf_virgin (hp i rfl); rw [this] at hi; exact nomatch hi
    rw [List.getElem?_set_ne (fun e=>this e.symm)]; exact h1
   ·simp at hi; exact ⟨hk.vlen i hi,by simp; omega,Or.inr (by simpa using hi)⟩
   ·exact ⟨hi.1,fun e=>hi.2.1 (by rw [e])⟩
  ·exact nomatch ha
theorem Q02 {place:Option Nat} {e:TypeId} {cs:List AV} {id:Nat} {h':Heap} {ex:Bool} {vs:Array Value} (hk:Fit K h HF V w) (hp:∀ r,place = some r → V r) (hn:newFree place h e cs ex = some (id,h')) (hd:DenL K cs (vs.toList.take cs.length)) (hex:ex = true → cs.length = vs.size) :
  ∃ K',Kext K K' ∧ K'.row id 0 = some ⟨w.heap.size,0,vs.size⟩ ∧ Fit K' h' HF (afterV place h.length h'.length V) (w.alloc (.cells vs e)) ∧ h.length ≤ h'.length:=by
 unfold newFree at hn
 split at hn
 ·rename_i lim hl
  split at hn
  case isFalse=>exact nomatch hn
  rename_i hcl
  obtain ⟨hv,hcomb,hlen,hhf,hvl,hvi⟩:=Ha hk hp hn
  obtain ⟨ow,hok⟩:=hk.ok
  have hl2:cs.length ≤ vs.size:=by have:=hd.length; rw [List.length_take] at this; simp at this; omega
  have f5:=hok.freshr id hv
  have hext:=Q29 (b:=w.heap.size) (n:=vs.size) (hok.fresh id hv).2.1 f5
  obtain ⟨ow',hok',_⟩:=hok.newFr hv (o:=.free e cs 0 lim 0 ex) rfl (n:=vs.size) (obj:=.cells vs e)
   (.free e cs 0 lim 0 ex ⟨w.heap.size,0,vs.size⟩ vs 0 0 (by simp [withFr]) (by simp) hl2 (by rw [List.drop_zero]; exact hd.mono hext) (Q43 hl).2 (fun v hv'=>by simp only [withFr]; rw [if_neg (by omega)]; exact f5 v) (Nat.zero_le _) (fun h=>⟨rfl,(hex h).symm⟩) hcl)
  exact ⟨_,hext,by simp [withFr],⟨⟨ow',by rw [hcomb]; exact hok'.virgin hvi⟩,hhf,hvl⟩,hlen⟩
 ·exact nomatch hn
theorem Q2O {place:Option Nat} {e:TypeId} {cs:List AV} {v:AV} {h':Heap} {vs:Array Value} (hk:Fit K h HF V w) (hp:∀ r,place = some r → V r) (hn:newVarA place h e cs = some (v,h')) (hd:DenL K cs vs.toList) :
  ∃ K',Kext K K' ∧ Den K' v (.pointer (some ⟨w.heap.size,0,none⟩)) ∧ Fit K' h' HF (afterV place h.length h'.length V) (w.alloc (.cells vs e)) ∧ h.length ≤ h'.length:=by
 unfold newVarA at hn
 split at hn
 ·split at hn
  ·rename_i id h'' ha
   cases hn
   obtain ⟨K',hext,hrow,hf,hlen⟩:=Q02 (vs:=vs) hk hp ha (by rw [List.take_of_length_le (by rw [hd.length]; exact Nat.le_refl _)]; exact hd) (fun _=>by have:=hd.length; simpa using this.symm)
   exact ⟨K',hext,.fp _ _ 0 _ hrow,hf,hlen⟩
  ·exact nomatch hn
 split at hn
 ·rename_i id h'' ha
  split at hn
  ·rename_i hu
   cases hn
   obtain ⟨hv,hcomb,hlen,hhf,hvl,hvi⟩:=Ha hk hp ha
   obtain ⟨ow,hok⟩:=hk.ok
   obtain ⟨ow',hok',hext⟩:=hok.newBox hv (e:=e) (JS (fun _ _=>QlB) hd) (fun i c hi=>by
    rw [List.getElem?_map] at hi
    simp only [Option.map_eq_some_iff] at hi
    obtain ⟨x,_,rfl⟩:=hi
    exact QkP x) hu
   refine ⟨_,hext,.ptr _ _ _ (by simp [withBlk]),⟨⟨ow',?_⟩,hhf,hvl⟩,hlen⟩
   rw [hcomb]
   exact hok'.virgin hvi
  ·exact nomatch hn
 ·exact nomatch hn
theorem OkW.setBox (hk:OkW K (comb h HF) V w ow) {id:Nat} {hc:Nat → Option AObj} {e:TypeId} {cs cs':List AV} {ver ver' b:Nat} {vs vs':Array Value} (hcc:hc = comb h HF) (hid:hc id = some (.cells e cs ver)) (hb:BoxOk K w ow id e cs ver b vs)
  (hd:DenL K cs' vs'.toList) (hc':∀ (i:Nat) (c:AV),cs'[i]? = some c → CellOk K w ow id i ver' c) (hu:undersL (id + 1) cs' = true) (hv:ver ≤ ver'):OkW K (upd hc id (some (.cells e cs' ver'))) V (w.setRow b vs') ow:=by
 subst hcc
 have hne:∀ b' k,ow b' = some k → (∀ i,k ≠ .box i) → b' ≠ b:=fun b' k h1 h2 h3=>by rw [h3,hb.own] at h1; exact h2 _ (Option.some.inj h1).symm
 have hfree:∀ r n k,Free K w r n → ow r.b = some k → (∀ i,k ≠ .box i) → Free K (w.setRow b vs') r n:=fun r n k hf ho hk'=>hf.heap (setRow_other w b r.b vs' (hne _ _ ho hk'))
 have hcell:∀ id i ver c,CellOk K w ow id i ver c → CellOk K (w.setRow b vs') ow id i ver c:=fun id i ver c hc=>hc.mono (Kext.refl K) (Nat.le_refl _) fun r n v hf ho=>⟨hfree r n _ hf ho (fun _ e=>nomatch e),ho⟩
 refine ⟨fun a c ha=>?_,hk.below.step rfl rfl rfl ⟨by simp,fun k hk'=>setRow_other w b k vs' (by intro e; subst e; first | exact absurd hk' (by assumption) | exact absurd hk' hb.base | exact absurd hk' (by simpa using hbase))⟩,fun id' e' cs'' ver'' hid'=>?_,fun id' e' n sz hid'=>?_,fun id' e' n sz hid'=>?_,fun i hi=>?_,fun id' e' cs'' ver'' hid'=>?_,fun b' k hb'=>by simpa using hk.own b' k hb',fun id' o hid' ho=>?_,hk.freshr⟩
 ·have h1:=hk.imm a c ha
  have:a.block ≠ b:=by
   rintro rfl
   have:=hb.imm a.off a.spot
   rw [show (⟨a.block,a.off,a.spot⟩:Addr) = a from rfl,ha] at this
   exact nomatch this
  rw [ZU (setRow_other w b a.block vs' this)]; exact h1
 ·by_cases hi:id' = id
  ·subst hi
   rw [Qk] at hid'
   cases hid'
   exact ⟨b,vs',hb.blk,hb.own,hb.base,setRow_heap w b vs vs' e (0,0) hb.heap,hb.imm,hd,fun i c hi=>hcell _ _ _ _ (hc' i c hi),hu⟩
  ·rw [Qw hi] at hid'
   obtain ⟨b',vs'',hbox⟩:=hk.box id' e' cs'' ver'' hid'
   have hbne:b' ≠ b:=by
    rintro rfl
    have h1:=hbox.own
    rw [hb.own] at h1
    cases h1
    exact hi rfl
   exact ⟨b',vs'',hbox.blk,hbox.own,hbox.base,by rw [setRow_other w b b' vs' hbne]; exact hbox.heap,hbox.imm,hbox.den,fun i c hi=>hcell _ _ _ _ (hbox.cell i c hi),hbox.under⟩
 ·by_cases hi:id' = id
  ·subst hi; rw [Qk] at hid'; exact nomatch hid'
  ·rw [Qw hi] at hid'
   obtain ⟨r,h1,h2,h3,h4,h5⟩:=hk.tip id' e' n sz hid'
   exact ⟨r,h1,h2,h3,hfree _ _ _ h4 h5 (fun _ e=>nomatch e),h5⟩
 ·by_cases hi:id' = id
  ·subst hi; rw [Qk] at hid'; exact nomatch hid'
  ·rw [Qw hi] at hid'; exact hk.more id' e' n sz hid'
 ·have:=hk.fresh i hi
  have hne:i ≠ id:=by rintro rfl; rw [hid] at this; exact nomatch this.1
  exact ⟨by rw [Qw hne]; exact this.1,this.2⟩
 ·by_cases hi:id' = id
  ·subst hi; rw [Qk] at hid'; cases hid'
   exact fun off v hvv=>hk.ver id' _ _ _ hid off v (by omega)
  ·rw [Qw hi] at hid'; exact hk.ver id' e' cs'' ver'' hid'
 ·by_cases hi:id' = id
  ·subst hi; rw [Qk] at hid'; cases hid'; cases ho
  ·rw [Qw hi] at hid'
   exact (hk.fr id' o hid' ho).mono (Kext.refl K) (fun _=>rfl) fun b' hb'=>⟨setRow_other w b b' vs' (hne _ _ hb' (fun _ e=>nomatch e)),hb',fun _ _ h=>h⟩
theorem OkW.settle {hc:Nat → Option AObj} (hk:OkW K hc V w ow) {i id off v n sz:Nat} {e:TypeId} {r:KRow} (hi:hc i = some (.tip e n sz)) (hr:K.key (.tip i n) = some r) (hf:Free K w r n) (ho:ow r.b = some (.tip i))
  (hv:K.key (.at id off v) = none) {e':TypeId} {cs:List AV} {ver:Nat} (hid:hc id = some (.cells e' cs ver)) (hver:v < ver) :
  ∃ ow',Kext K (withAt K id off v r) ∧ OkW (withAt K id off v r) (upd hc i none) V w ow' ∧ ow' r.b = some (.at id off v) ∧ Free (withAt K id off v r) w r n ∧
   (∀ id' i' ver' c,CellOk K w ow id' i' ver' c → CellOk (withAt K id off v r) w ow' id' i' ver' c) ∧ (∀ b k,ow b = some k → (∀ j,k ≠ .tip j) → ow' b = some k):=by
 have hext:=Qea (r:=r) hv
 let ow':Nat → Option OKey:=fun b=>if b = r.b then some (.at id off v) else ow b
 have hkeep:∀ b k,ow b = some k → k ≠ .tip i → ow' b = some k:=fun b k h1 h2=>by
  have:b ≠ r.b:=by rintro rfl; rw [ho] at h1; exact h2 (Option.some.inj h1).symm
  simp [ow',this,h1]
 have hcell:∀ id' i' ver' c,CellOk K w ow id' i' ver' c → CellOk (withAt K id off v r) w ow' id' i' ver' c:=fun id' i' ver' c hc' =>
  hc'.mono hext (Nat.le_refl _) fun r' n' v' hf' ho'=>⟨⟨hf'.blk,hf'.imm,hf'.base⟩,hkeep _ _ ho' (fun e=>nomatch e)⟩
 refine ⟨ow',hext,⟨hk.imm,hk.below,fun id' e'' cs' ver' hid'=>?_,fun id' e'' n' sz' hid'=>?_,fun id' e'' n' sz' hid'=>?_,fun j hj=>?_,fun id' e'' cs' ver' hid'=>?_,fun b k hb=>?_,fun id' o hid' ho'=>?_,hk.freshr⟩,by simp [ow'],⟨hf.blk,hf.imm,hf.base⟩,hcell,fun b k h1 h2=>hkeep b k h1 (h2 i)⟩
 ·by_cases hne:id' = i
  ·subst hne; rw [Qk] at hid'; exact nomatch hid'
  ·rw [Qw hne] at hid'
   obtain ⟨b,vs,hbox⟩:=hk.box id' e'' cs' ver' hid'
   exact ⟨b,vs,hbox.blk,hkeep _ _ hbox.own (fun e=>nomatch e),hbox.base,hbox.heap,hbox.imm,hbox.den.mono hext,fun j c hj=>hcell _ _ _ _ (hbox.cell j c hj),hbox.under⟩
 ·by_cases hne:id' = i
  ·subst hne; rw [Qk] at hid'; exact nomatch hid'
  ·rw [Qw hne] at hid'
   obtain ⟨r',h1,h2,h3,h4,h5⟩:=hk.tip id' e'' n' sz' hid'
   exact ⟨r',hext.key _ _ h1,h2,h3,⟨h4.blk,h4.imm,h4.base⟩,hkeep _ _ h5 (fun e=>hne (OKey.tip.inj e))⟩
 ·by_cases hne:id' = i
  ·subst hne; rw [Qk] at hid'; exact nomatch hid'
  ·rw [Qw hne] at hid'
   intro n'' hn''
   have:=hk.more id' e'' n' sz' hid' n'' hn''
   simp [withAt,withKey,this]
 ·obtain ⟨g1,g2,g3,g4⟩:=hk.fresh j hj
  have hji:j ≠ i:=by rintro rfl; rw [hi] at g1; exact nomatch g1
  have hjd:j ≠ id:=by rintro rfl; rw [hid] at g1; exact nomatch g1
  refine ⟨by rw [Qw hji]; exact g1,g2,fun n'=>by simp [withAt,withKey,g3 n'],fun off' v'=>?_⟩
  simp [withAt,withKey,g4 off' v',hjd]
 ·by_cases hne:id' = i
  ·subst hne; rw [Qk] at hid'; exact nomatch hid'
  ·rw [Qw hne] at hid'
   intro off' v' hv'
   have:=hk.ver id' e'' cs' ver' hid' off' v' hv'
   simp only [withAt,withKey]
   by_cases heq:id' = id ∧ off' = off ∧ v' = v
   ·obtain ⟨rfl,rfl,rfl⟩:=heq
    rw [hid] at hid'
    cases hid'
    omega
   ·simp [heq,this]
 ·simp only [ow'] at hb
  split at hb
  ·rename_i hbe; rw [hbe]; exact hf.lt
  ·exact hk.own b k hb
 ·by_cases hne:id' = i
  ·subst hne; rw [Qk] at hid'; exact nomatch hid'
  ·rw [Qw hne] at hid'
   exact (hk.fr id' o hid' ho').mono hext (fun _=>rfl) fun b hb=>⟨rfl,hkeep _ _ hb (fun e=>nomatch e),fun _ _ h=>h⟩
end
end Go.Proofs.YtfdcjngclelnhaaGreat
