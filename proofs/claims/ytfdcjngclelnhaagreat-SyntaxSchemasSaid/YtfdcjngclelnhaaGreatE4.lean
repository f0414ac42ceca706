/- Part of a proof. -/
import Derived.Test.YtfdcjngclelnhaaGreatE3
set_option linter.unusedSectionVars false
set_option linter.unusedSimpArgs false
set_option linter.unusedVariables false
namespace Go.Proofs.YtfdcjngclelnhaaGreat
open Go Go.RowKit
variable [mode:Inhabited ModeT]
theorem Hz (p:Nat → Nat):∀ l:List AV,AV.movL p l = l.map (AV.mov p)
 | []=>rfl
 | v :: r=>by simp only [AV.movL,List.map_cons]; rw [Hz p r]
def Key.mov (p:Nat → Nat):Key → Key
 | .tip i n=>.tip (p i) n
 | .at i o v=>.at (p i) o v
def OKey.mov (p:Nat → Nat):OKey → OKey
 | .box i=>.box (p i)
 | .tip i=>.tip (p i)
 | .at i o v=>.at (p i) o v
 | .fr i=>.fr (p i)
def KW.mov (p:Nat → Nat) (K:KW):KW:={ K with blk:=fun i=>K.blk (p i),key:=fun k=>K.key (k.mov p),row:=fun i v=>K.row (p i) v }
section
variable {p:Nat → Nat} (hp:∀ i,p (p i) = i)
include hp
theorem Qdd {K:KW} {x:AV} {v:Value} (h:Den K x v):Den (K.mov p) (x.mov p) v:=by
 induction h with
 | dat h=>exact .dat h
 | full es a b o sz ha h=>exact .full es a b o sz ha h
 | tip id es r hr hcap h=>exact .tip (p id) es r (by show K.key (.tip (p (p id)) es.length) = _; rw [hp]; exact hr) hcap h
 | «at» id off ver es r hr hcap h=>exact .at (p id) off ver es r (by show K.key (.at (p (p id)) off ver) = _; rw [hp]; exact hr) hcap h
 | pnil=>exact .pnil
 | ptr id off b h=>exact .ptr (p id) off b (by show K.blk (p (p id)) = _; rw [hp]; exact h)
 | ep cs off b o vs h hv=>exact .ep cs off b o vs h hv
 | func fn a c va vc hla _ hlc _ iha ihc =>
  simp only [AV.mov,Hz]
  refine .func fn _ _ va vc (by rw [List.length_map]; exact hla) (fun j x v h1 h2=>?_) (by rw [List.length_map]; exact hlc) (fun j x v h1 h2=>?_)
  ·rw [List.getElem?_map,Option.map_eq_some_iff] at h1
   obtain ⟨y,h3,rfl⟩:=h1
   exact iha j y v h3 h2
  ·rw [List.getElem?_map,Option.map_eq_some_iff] at h1
   obtain ⟨y,h3,rfl⟩:=h1
   exact ihc j y v h3 h2
 | nilFunc=>exact .nilFunc
 | iface t _ ih=>exact .iface t ih
 | nilIface=>exact .nilIface
 | agg cs vs hl _ ih =>
  simp only [AV.mov,Hz]
  refine .agg _ vs (by rw [List.length_map]; exact hl) fun j x v h1 h2=>?_
  rw [List.getElem?_map,Option.map_eq_some_iff] at h1
  obtain ⟨y,h3,rfl⟩:=h1
  exact ih j y v h3 h2
 | tuple cs vs hl _ ih =>
  simp only [AV.mov,Hz]
  refine .tuple _ vs (by rw [List.length_map]; exact hl) fun j x v h1 h2=>?_
  rw [List.getElem?_map,Option.map_eq_some_iff] at h1
  obtain ⟨y,h3,rfl⟩:=h1
  exact ih j y v h3 h2
 | sdata id off ver es r hr hcap h=>exact .sdata (p id) off ver es r (by show K.key (.at (p (p id)) off ver) = _; rw [hp]; exact hr) hcap h
 | fp id ver off r hr=>exact .fp (p id) ver off r (by show K.row (p (p id)) ver = _; rw [hp]; exact hr)
 | row id ver off len sz r hr hs hle=>exact .row (p id) ver off len sz r (by show K.row (p (p id)) ver = _; rw [hp]; exact hr) hs hle
 | mapnil=>exact .mapnil
 | mapv id b h=>exact .mapv (p id) b (by show K.blk (p (p id)) = _; rw [hp]; exact h)
 | any v h=>exact .any v h
theorem Qez {K:KW} {xs:List AV} {vs:List Value} (h:DenL K xs vs):DenL (K.mov p) (AV.movL p xs) vs:=by
 induction h with
 | nil=>exact .nil
 | cons hd _ ih=>exact .cons (Qdd hp hd) ih
end
def Fixes (p:Nat → Nat) (K:KW):Prop:=∀ i,p i ≠ i → K.blk i = none ∧ (∀ n,K.key (.tip i n) = none) ∧ (∀ off v,K.key (.at i off v) = none) ∧ ∀ v,K.row i v = none
theorem Qjo {p:Nat → Nat} {K:KW} (hf:Fixes p K) {x:AV} {v:Value} (h:Den K x v):x.mov p = x:=by
 have hl:∀ (cs:List AV) (vs:List Value),vs.length = cs.length → (∀ (j:Nat) (x:AV) (v:Value),cs[j]? = some x → vs[j]? = some v → x.mov p = x) → AV.movL p cs = cs:=fun cs vs hlen hh=>by
  rw [Hz]
  apply List.ext_getElem?
  intro j
  rw [List.getElem?_map]
  cases hj:cs[j]? with
  | none=>rfl
  | some x =>
   have hjl:j < vs.length:=by
    rcases Nat.lt_or_ge j cs.length with h | h
    ·omega
    ·rw [List.getElem?_eq_none h] at hj; cases hj
   simp only [Option.map_some,hh j x _ hj (List.getElem?_eq_getElem hjl)]
 have hb:∀ i b,K.blk i = some b → p i = i:=fun i b h=>by
  by_cases hh:p i = i
  ·exact hh
  ·rw [(hf i hh).1] at h; cases h
 have ht:∀ i n r,K.key (.tip i n) = some r → p i = i:=fun i n r h=>by
  by_cases hh:p i = i
  ·exact hh
  ·rw [(hf i hh).2.1] at h; cases h
 have ha:∀ i o n r,K.key (.at i o n) = some r → p i = i:=fun i o n r h=>by
  by_cases hh:p i = i
  ·exact hh
  ·rw [(hf i hh).2.2.1] at h; cases h
 have hr:∀ i v r,K.row i v = some r → p i = i:=fun i v r h=>by
  by_cases hh:p i = i
  ·exact hh
  ·rw [(hf i hh).2.2.2] at h; cases h
 induction h with
 | dat h=>rfl
 | full es a b o sz ha h=>rfl
 | tip id es r h1 hcap h=>simp only [AV.mov,ht _ _ _ h1]
 | «at» id off ver es r h1 hcap h=>simp only [AV.mov,ha _ _ _ _ h1]
 | pnil=>rfl
 | ptr id off b h=>simp only [AV.mov,hb _ _ h]
 | ep cs off b o vs h hv=>rfl
 | func fn a c va vc hla _ hlc _ iha ihc=>simp only [AV.mov,hl a _ hla iha,hl c _ hlc ihc]
 | nilFunc=>rfl
 | iface t _ ih=>simp only [AV.mov,ih]
 | nilIface=>rfl
 | agg cs vs hla _ ih=>simp only [AV.mov,hl cs _ hla ih]
 | tuple cs vs hla _ ih=>simp only [AV.mov,hl cs _ hla ih]
 | sdata id off ver es r h1 hcap h=>simp only [AV.mov,ha _ _ _ _ h1]
 | fp id ver off r h1=>simp only [AV.mov,hr _ _ _ h1]
 | row id ver off len sz r h1 hs hle=>simp only [AV.mov,hr _ _ _ h1]
 | mapnil=>rfl
 | mapv id b h=>simp only [AV.mov,hb _ _ h]
 | any v h=>rfl
theorem Qeo {p:Nat → Nat} {K:KW} (hf:Fixes p K) {xs:List AV} {vs:List Value} (h:DenL K xs vs):AV.movL p xs = xs:=by
 induction h with
 | nil=>rfl
 | cons hd _ ih=>simp only [AV.movL,Qjo hf hd,ih]
theorem Qmt {p:Nat → Nat} (hp:∀ i,p (p i) = i) {K:KW} {es:List (D × AV × Nat)} {ms:List MapEntry} (h:EntL K es ms):EntL (K.mov p) (es.map fun x=>(x.1,x.2.1.mov p,x.2.2)) ms:=by
 induction h with
 | nil=>exact .nil
 | cons h1 h2 _ ih=>exact .cons h1 (Qdd hp h2) ih
theorem QnH {p:Nat → Nat} {K:KW} (hf:Fixes p K) {es:List (D × AV × Nat)} {ms:List MapEntry} (h:EntL K es ms):(es.map fun x=>(x.1,x.2.1.mov p,x.2.2)) = es:=by
 induction h with
 | nil=>rfl
 | cons h1 h2 _ ih=>simp only [List.map_cons,ih,Qjo hf h2]
theorem QfP {p:Nat → Nat} (hp:∀ i,p (p i) = i) {n m id b:Nat} {K:KW} {o:AObj} {obj:Obj} (h:FreeAt K id o b obj) (ho:ordOk (p id) (o.mov p n m) = true):FreeAt (K.mov p) (p id) (o.mov p n m) b obj:=by
 cases h with
 | free e cs ver lim fz ex r vs lo hi hr hsz hle hd hu hv hfz hex hcl =>
  have hlen:(AV.movL p cs).length = cs.length:=by rw [Hz,List.length_map]
  refine .free e _ ver _ fz ex r vs lo hi (by show K.row (p (p id)) ver = _; rw [hp]; exact hr) hsz (by rw [hlen]; exact hle) (by rw [hlen]; exact Qez hp hd) ho (fun v hv'=>by show K.row (p (p id)) v = _; rw [hp]; exact hv v hv') hfz (fun h=>by rw [hlen]; exact hex h) ?_
  rw [Hz,List.all_map]
  refine (List.all_congr rfl fun x=>?_).trans hcl
  cases x with
  | own g es=>cases g <;> rfl
  | ptr o=>cases o <;> rfl
  | mapv o=>cases o <;> rfl
  | dat d=>cases d <;> rfl
  | _=>rfl
 | mp es clock lim b ms hb hd hu=>exact .mp _ clock _ b ms (by show K.blk (p (p id)) = _; rw [hp]; exact hb) (Qmt hp hd) ho
 | sit s QJ b hb=>exact .sit s QJ b (by show K.blk (p (p id)) = _; rw [hp]; exact hb)
 | mit0 b since last seen hb=>exact .mit0 b since last seen (by show K.blk (p (p id)) = _; rw [hp]; exact hb)
 | mit m b bm since last seen hb hm=>exact .mit (p m) b bm since last seen (by show K.blk (p (p id)) = _; rw [hp]; exact hb) (by show K.blk (p (p m)) = _; rw [hp]; exact hm)
theorem Qp3 {p:Nat → Nat} {n m:Nat} (o:AObj):(o.mov p n m).isFr = o.isFr:=by
 cases o with
 | mit m _ _ _=>cases m <;> rfl
 | _=>rfl
theorem OkW.mov {p:Nat → Nat} (hp:∀ i,p (p i) = i) {K:KW} {h h2:Nat → Option AObj} {V V2:Nat → Prop} {w:World} {ow:Nat → Option OKey} (hk:OkW K h V w ow)
  (h1:∀ i o,h2 i = some o → ∃ o' n m,h (p i) = some o' ∧ o = o'.mov p n m ∧ ordOk i o = true) (hn:∀ i,h (p i) = none → h2 i = none) (hv:∀ i,V2 i → V (p i)) :
  OkW (K.mov p) h2 V2 w (fun b=>(ow b).map (OKey.mov p)):=by
 have hown:∀ b i,ow b = some (.box (p i)) → (ow b).map (OKey.mov p) = some (.box i):=fun b i h=>by rw [h]; simp [OKey.mov,hp]
 have hfree:∀ r c,Free K w r c → Free (K.mov p) w r c:=fun r c h=>⟨h.blk,h.imm,h.base⟩
 refine ⟨hk.imm,hk.below,fun id e cs ver hid=>?_,fun id e c sz hid=>?_,fun id e c sz hid=>?_,fun id hid=>?_,fun id e cs ver hid=>?_,fun b k hb=>?_,fun id o hid ho=>?_,fun id hid v=>?_⟩
 ·obtain ⟨o',n,m,g1,g2,g3⟩:=h1 id _ hid
  cases o' with
  | cells e' cs' ver' =>
   simp only [AObj.mov,AObj.cells.injEq] at g2
   obtain ⟨rfl,rfl,rfl⟩:=g2
   obtain ⟨b,vs,hb⟩:=hk.box _ _ _ _ g1
   refine ⟨b,vs,hb.blk,hown b id hb.own,hb.base,hb.heap,hb.imm,Qez hp hb.den,fun i c hc=>?_,g3⟩
   rw [Hz,List.getElem?_map,Option.map_eq_some_iff] at hc
   obtain ⟨x,hx,rfl⟩:=hc
   have hcell:=hb.cell i x hx
   cases x with
   | own g es =>
    cases g with
    | full=>trivial
    | tip j=>exact hcell.elim
    | «at» a b' c' d =>
     obtain ⟨q1,q2,q3,r,q4,q5,q6,q7⟩:=hcell
     refine ⟨by rw [q1,hp],q2,q3,r,q4,q5,hfree _ _ q6,?_⟩
     show (ow r.b).map (OKey.mov p) = _
     rw [q7]; simp [OKey.mov,hp]
   | ptr o=>cases o <;> trivial
   | mapv o=>cases o <;> trivial
   | _=>trivial
  | mit m _ _ _=>cases m <;> cases g2
  | _=>cases g2
 ·obtain ⟨o',n,m,g1,g2,g3⟩:=h1 id _ hid
  cases o' with
  | tip e' c' sz' =>
   simp only [AObj.mov,AObj.tip.injEq] at g2
   obtain ⟨rfl,rfl,rfl⟩:=g2
   obtain ⟨r,q1,q2,q3,q4,q5⟩:=hk.tip _ _ _ _ g1
   refine ⟨r,q1,q2,q3,hfree _ _ q4,?_⟩
   show (ow r.b).map (OKey.mov p) = _
   rw [q5]; simp [OKey.mov,hp]
  | mit m _ _ _=>cases m <;> cases g2
  | _=>cases g2
 ·obtain ⟨o',n,m,g1,g2,g3⟩:=h1 id _ hid
  cases o' with
  | tip e' c' sz' =>
   simp only [AObj.mov,AObj.tip.injEq] at g2
   obtain ⟨rfl,rfl,rfl⟩:=g2
   exact hk.more _ _ _ _ g1
  | mit m _ _ _=>cases m <;> cases g2
  | _=>cases g2
 ·obtain ⟨q1,q2,q3,q4⟩:=hk.fresh _ (hv id hid)
  exact ⟨hn id q1,q2,q3,q4⟩
 ·obtain ⟨o',n,m,g1,g2,g3⟩:=h1 id _ hid
  cases o' with
  | cells e' cs' ver' =>
   simp only [AObj.mov,AObj.cells.injEq] at g2
   obtain ⟨rfl,rfl,rfl⟩:=g2
   exact hk.ver _ _ _ _ g1
  | mit m _ _ _=>cases m <;> cases g2
  | _=>cases g2
 ·cases hb':ow b with
  | none=>rw [hb'] at hb; cases hb
  | some k'=>exact hk.own b k' hb'
 ·obtain ⟨o',n,m,g1,rfl,g3⟩:=h1 id _ hid
  rw [Qp3] at ho
  obtain ⟨b,obj,q1,q2,q3,q4,q5⟩:=hk.fr _ _ g1 ho
  refine ⟨b,obj,?_,q2,by show (ow b).map (OKey.mov p) = _; rw [q3]; simp [OKey.mov,hp],q4,q5⟩
  have:=QfP hp (n:=n) (m:=m) q1 (by rw [hp]; exact g3)
  rwa [hp] at this
 ·exact hk.freshr _ (hv id hid) v
theorem Qqn {n c s:Nat} (hs:s + c ≤ n) (i:Nat):mvI n c s (mvI n c s i) = i:=by
 unfold mvI
 split
 ·rw [if_neg (by omega),if_pos (by omega)]; omega
 ·split
  ·rw [if_pos (by omega)]; omega
  ·rfl
theorem QqR {p:Nat → Nat} {K:KW} (hf:Fixes p K) {o:AObj} {w:World} {ow:Nat → Option OKey} {h:Nat → Option AObj} {V:Nat → Prop} (hk:OkW K h V w ow) {i:Nat} (hi:h i = some o) :
  (∃ n m,o = o.mov p n m) ∧ ordOk i o = true:=by
 cases o with
 | cells e cs ver =>
  obtain ⟨b,vs,hb⟩:=hk.box _ _ _ _ hi
  exact ⟨⟨0,0,by simp only [AObj.mov,Qeo hf hb.den]⟩,hb.under⟩
 | tip _ _ _=>exact ⟨⟨0,0,rfl⟩,rfl⟩
 | free e cs ver lim fz ex =>
  obtain ⟨b,obj,q1,_⟩:=hk.fr _ _ hi rfl
  cases q1 with
  | free _ _ _ _ _ _ r vs lo hi hr hsz hle hd hu hv hfz hex hcl=>exact ⟨⟨lim,0,by simp [AObj.mov,movLim,Qeo hf hd]⟩,hu⟩
 | mp es c lim =>
  obtain ⟨b,obj,q1,_⟩:=hk.fr _ _ hi rfl
  cases q1 with
  | mp _ _ _ b ms hb hd hu=>exact ⟨⟨lim,0,by simp only [AObj.mov,movLim,QnH hf hd,Nat.le_refl,if_true]⟩,hu⟩
 | sit _ _=>exact ⟨⟨0,0,rfl⟩,rfl⟩
 | mit m s l k =>
  cases m with
  | none=>exact ⟨⟨0,0,rfl⟩,rfl⟩
  | some m =>
   obtain ⟨b,obj,q1,_⟩:=hk.fr _ _ hi rfl
   cases q1 with
   | mit _ b bm _ _ _ hb hm =>
    have:p m = m:=by
     by_cases hh:p m = m
     ·exact hh
     ·rw [(hf m hh).1] at hm; cases hm
    exact ⟨⟨0,0,by simp only [AObj.mov,this]⟩,rfl⟩
theorem Q2X:∀ {h:Heap} {k i:Nat} {o:AObj},ordAll k h = true → h[i]? = some (some o) → ordOk (k + i) o = true
 | [],_,_,_,_,hi=>by simp at hi
 | x :: h,k,i,o,ho,hi=>by
  cases x with
  | none =>
   simp only [ordAll] at ho
   cases i with
   | zero=>simp at hi
   | succ i=>rw [show k + (i + 1) = k + 1 + i by omega]; exact Q2X ho (by simpa using hi)
  | some y =>
   simp only [ordAll,Bool.and_eq_true] at ho
   cases i with
   | zero=>simp at hi; subst hi; exact ho.1
   | succ i=>rw [show k + (i + 1) = k + 1 + i by omega]; exact Q2X ho.2 (by simpa using hi)
theorem QnX {hm:Heap} {N c s:Nat} (hl:hm.length = N + c) (hs:s + c ≤ N):(putM N c s hm).length = N ∧ ∀ i,i < N → (putM N c s hm)[i]? = hm[mvI N c s i]?:=by
 unfold putM
 have l1:(hm.take s).length = s:=by rw [List.length_take]; omega
 have l2:(hm.drop N).length = c:=by rw [List.length_drop]; omega
 have l3:((hm.take N).drop (s + c)).length = N - (s + c):=by rw [List.length_drop,List.length_take]; omega
 refine ⟨by rw [List.length_append,List.length_append,l1,l2,l3]; omega,fun i hi=>?_⟩
 unfold mvI
 rw [if_neg (by omega)]
 rcases Nat.lt_or_ge i s with h1 | h1
 ·rw [if_neg (by omega),List.append_assoc,List.getElem?_append_left (by omega),List.getElem?_take,if_pos h1]
 ·rcases Nat.lt_or_ge i (s + c) with h2 | h2
  ·rw [if_pos ⟨h1,h2⟩,List.getElem?_append_left (by rw [List.length_append,l1,l2]; omega),List.getElem?_append_right (by omega),l1,List.getElem?_drop]
  ·rw [if_neg (by omega),List.getElem?_append_right (by rw [List.length_append,l1,l2]; omega),List.length_append,l1,l2,List.getElem?_drop,List.getElem?_take,if_pos (by omega),show s + c + (i - (s + c)) = i by omega]
theorem QgO {N L s:Nat} {v0 v:AV} {h h0 h':Heap} {K K1:KW} {HF:Nat → Option AObj} {V:Nat → Prop} {w0 w:World} {u:Value} (hs:settleC N L s v0 h0 = some (v,h')) (hN:h.length = N) (hL:L = 0 ∨ s + L ≤ N) {pl:Option Nat} (hpl:pl = none ∨ L = 0)
  (hpre:Fit K h HF V w0) (hk:Kext K K1) (hd:Den K1 v0 u) (hf:Fit K1 h0 HF (afterV pl N h0.length V) w) (hp0:∀ r,pl = some r → r < N) (hvs:∀ r,s ≤ r → r < s + L → V r) :
  ∃ K2,Kext K K2 ∧ Den K2 v u ∧ Fit K2 h' HF (fun i=>V i ∧ pl ≠ some i ∧ (i < s ∨ s + L ≤ i)) w:=by
 unfold settleC at hs
 split at hs
 ·rename_i hlen
  cases hs
  refine ⟨K1,hk,hd,hf.virgin (fun i hi=>⟨hi.1,hi.2.1,by omega⟩) fun i hi=>⟨hpre.vlen i (by omega),fun e=>by have:=hp0 i e; omega,by omega⟩⟩
 ·rename_i hlen
  split at hs
  ·rename_i hcond
   obtain ⟨hgt,hcL,hsL,hord⟩:=hcond
   obtain rfl:pl = none:=by
    rcases hpl with h | h
    ·exact h
    ·omega
   simp only [Option.some.injEq,Prod.mk.injEq] at hs
   obtain ⟨rfl,rfl⟩:=hs
   generalize hc:h0.length - N = c at *
   have hlen0:h0.length = N + c:=by omega
   have hsc:s + c ≤ N:=by omega
   have hp:=Qqn hsc
   have hvir:∀ i,mvI N c s i ≠ i → V i:=fun i hi=>by
    unfold mvI at hi
    split at hi
    ·exact hpre.vlen i (by omega)
    ·split at hi
     ·exact hvs i (by omega) (by omega)
     ·exact absurd rfl hi
   obtain ⟨ow0,hok0⟩:=hpre.ok
   have hfix:Fixes (mvI N c s) K:=fun i hi=>by
    obtain ⟨_,q2,q3,q4⟩:=hok0.fresh i (hvir i hi)
    exact ⟨q2,q3,q4,hok0.freshr i (hvir i hi)⟩
   have hHF:∀ i,mvI N c s i ≠ i → HF i = none:=fun i hi=>hpre.hf_virgin (hvir i hi)
   obtain ⟨ow,hok⟩:=hf.ok
   have hml:(movH N c s h0).length = N + c:=by unfold movH; rw [List.length_map]; exact hlen0
   obtain ⟨pl',pg⟩:=QnX hml hsc
   have hget:∀ i,i < N → (putM N c s (movH N c s h0))[i]? = (h0[mvI N c s i]?).map fun o=>o.map (AObj.mov (mvI N c s) N (s + c)):=fun i hi=>by
    rw [pg i hi]; unfold movH; rw [List.getElem?_map]
   refine ⟨K1.mov (mvI N c s),?_,Qdd hp hd,⟨⟨_,OkW.mov (V2:=fun i=>V i ∧ (none:Option Nat) ≠ some i ∧ (i < s ∨ s + L ≤ i)) hp hok (fun i o hi=>?_) (fun i hi=>?_) (fun i hi=>?_)⟩,fun i o hi=>?_,fun i hi=>⟨hpre.vlen i (by rw [pl'] at hi; omega),(by intro e; cases e),by rw [pl'] at hi; omega⟩⟩⟩
   ·refine ⟨hk.base,hk.imm,fun i b hb=>?_,fun k r hr=>?_,hk.old,fun i v r hr=>?_⟩
    ·have:mvI N c s i = i:=by
      by_cases hh:mvI N c s i = i
      ·exact hh
      ·rw [(hfix i hh).1] at hb; cases hb
     show K1.blk (mvI N c s i) = _
     rw [this]; exact hk.blk i b hb
    ·have:k.mov (mvI N c s) = k:=by
      cases k with
      | tip i n =>
       by_cases hh:mvI N c s i = i
       ·simp only [Key.mov,hh]
       ·rw [(hfix i hh).2.1] at hr; cases hr
      | «at» i o n =>
       by_cases hh:mvI N c s i = i
       ·simp only [Key.mov,hh]
       ·rw [(hfix i hh).2.2.1] at hr; cases hr
     show K1.key (k.mov (mvI N c s)) = _
     rw [this]; exact hk.key k r hr
    ·have:mvI N c s i = i:=by
      by_cases hh:mvI N c s i = i
      ·exact hh
      ·rw [(hfix i hh).2.2.2] at hr; cases hr
     show K1.row (mvI N c s i) v = _
     rw [this]; exact hk.row i v r hr
   ·have hiN:i < N:=by
     rcases Nat.lt_or_ge i N with h1 | h1
     ·exact h1
     ·simp only [comb] at hi; rw [List.getElem?_eq_none (by omega)] at hi; cases hi
    have hgi:=hget i hiN
    simp only [comb] at hi
    split at hi
    ·rename_i o2 ho2
     cases hi
     rw [ho2] at hgi
     cases hx:h0[mvI N c s i]? with
     | none=>rw [hx] at hgi; cases hgi
     | some x =>
      rw [hx] at hgi
      cases x with
      | none=>cases hgi
      | some o' =>
       simp only [Option.map_some,Option.some.injEq] at hgi
       refine ⟨o',N,s + c,Qe hx,hgi,?_⟩
       have:=Q2X hord ho2
       simpa using this
    ·rename_i ho2
     have hpi:mvI N c s i = i:=by
      by_cases hh:mvI N c s i = i
      ·exact hh
      ·rw [hHF i hh] at hi; cases hi
     have hpre2:comb h HF i = some o:=by simp only [comb,hpre.hf i o hi]; exact hi
     obtain ⟨⟨n,m,q1⟩,q2⟩:=QqR hfix hok0 hpre2
     refine ⟨o,n,m,?_,q1,q2⟩
     rw [hpi]
     simp only [comb,hf.hf i o hi]
     exact hi
    ·cases hi
   ·rcases Nat.lt_or_ge i N with hiN | hiN
    ·have hgi:=hget i hiN
     have hpl:mvI N c s i < h0.length:=by
      unfold mvI
      split
      ·omega
      ·split <;> omega
     obtain ⟨x,hx⟩:∃ x,h0[mvI N c s i]? = some x:=⟨_,List.getElem?_eq_getElem hpl⟩
     rw [hx] at hgi
     simp only [comb,hx] at hi
     cases x with
     | some o=>cases hi
     | none =>
      simp only [comb,hgi,Option.map_some,Option.map_none]
      by_cases hh:mvI N c s i = i
      ·rw [hh] at hi; exact hi
      ·exact hHF i hh
    ·simp only [comb]; rw [List.getElem?_eq_none (by omega)]
   ·refine ⟨?_,(by intro e; cases e),?_⟩
    ·by_cases hh:mvI N c s i = i
     ·rw [hh]; exact hi.1
     ·exact hvir _ (by rw [hp]; exact fun e=>hh e.symm)
    ·have h2:=hi.2.2
     rw [hlen0]
     unfold mvI
     split
     ·left; omega
     ·split <;> omega
   ·have hiN:i < N:=by have:=Qi (hpre.hf i o hi); omega
    have hpi:mvI N c s i = i:=by
     by_cases hh:mvI N c s i = i
     ·exact hh
     ·rw [hHF i hh] at hi; cases hi
    rw [hget i hiN,hpi,hf.hf i o hi]; rfl
  ·cases hs
end Go.Proofs.YtfdcjngclelnhaaGreat
namespace Go.Proofs.YtfdcjngclelnhaaGreat
open Go Go.RowKit
variable [mode:Inhabited ModeT]
section
variable {P:Program} {callf:CallF} {ops:Array Oper} {N:Nat}
theorem Qoe {x:Option AV} {h h':Heap} {v:AV} (h1:(x.map fun v=>(v,h)) = some (v,h')):h' = h:=by
 cases x with
 | none=>cases h1
 | some y=>cases h1; rfl
theorem Q6p {ts:List AV} {o:Oper} {place:Option Nat} {h h':Heap} {v:AV} (hr:onlyReads o.op = true) (h1:oneOp P callf ops place o ts h = some (v,h')):h' = h:=by
 unfold oneOp at h1
 split at h1
 ·unfold onlyReads at hr
  split at hr
  ·rename_i hop
   rw [hop] at h1
   simp only [stepOp] at h1
   split at h1
   ·exact (QC h1).2
   ·exact nomatch h1
  ·rename_i hop
   rw [hop] at h1
   simp only [stepOp] at h1
   split at h1
   ·exact (QC h1).2
   ·exact (QC h1).2
   ·exact nomatch h1
  ·rename_i hop
   rw [hop] at h1
   simp only [stepOp] at h1
   split at h1
   ·exact (QC h1).2
   ·exact nomatch h1
  ·rename_i c hop
   rw [hop] at h1
   simp only [stepOp,callA] at h1
   split at hr
   ·rename_i hc
    rw [hc] at h1
    split at h1
    ·exact nomatch h1
    ·simp only [builtinA] at h1
     split at h1
     all_goals first
      | contradiction
      | exact (Qoe h1)
      | (cases h1; done)
      | (cases h1; rfl)
   ·rename_i hc
    rw [hc] at h1
    split at h1
    ·exact nomatch h1
    ·simp only [builtinA] at h1
     split at h1
     all_goals first
      | contradiction
      | (cases h1; rfl)
      | (cases h1; done)
   ·exact nomatch hr
  ·exact nomatch hr
 ·cases h1; rfl
 ·exact nomatch h1
mutual
theorem D.same_ok:∀ {a b:D},a.same b = true → a = b
 | .bool a,.bool b,h=>by simp [D.same] at h; rw [h]
 | .int k n,.int k' n',h=>by simp [D.same] at h; rw [h.1,h.2]
 | .str a,.str b,h=>by simp [D.same] at h; rw [h]
 | .nils,.nils,_=>rfl
 | .slice es,.slice es',h=>by simp only [D.same] at h; rw [D.sameL_ok h]
 | .agg es,.agg es',h=>by simp only [D.same] at h; rw [D.sameL_ok h]
 | .bool _,.int _ _,h | .bool _,.str _,h | .bool _,.nils,h | .bool _,.slice _,h | .bool _,.agg _,h=>by simp [D.same] at h
 | .int _ _,.bool _,h | .int _ _,.str _,h | .int _ _,.nils,h | .int _ _,.slice _,h | .int _ _,.agg _,h=>by simp [D.same] at h
 | .str _,.bool _,h | .str _,.int _ _,h | .str _,.nils,h | .str _,.slice _,h | .str _,.agg _,h=>by simp [D.same] at h
 | .nils,.bool _,h | .nils,.int _ _,h | .nils,.str _,h | .nils,.slice _,h | .nils,.agg _,h=>by simp [D.same] at h
 | .slice _,.bool _,h | .slice _,.int _ _,h | .slice _,.str _,h | .slice _,.nils,h | .slice _,.agg _,h=>by simp [D.same] at h
 | .agg _,.bool _,h | .agg _,.int _ _,h | .agg _,.str _,h | .agg _,.nils,h | .agg _,.slice _,h=>by simp [D.same] at h
theorem D.sameL_ok:∀ {a b:List D},D.sameL a b = true → a = b
 | [],[],_=>rfl
 | a :: r,b :: q,h=>by
  simp only [D.sameL,Bool.and_eq_true] at h
  rw [D.same_ok h.1,D.sameL_ok h.2]
 | [],_ :: _,h=>by simp [D.sameL] at h
 | _ :: _,[],h=>by simp [D.sameL] at h
end
theorem AV.same_ok {a b:AV} (h:a.same b = true):a = b:=by
 unfold AV.same at h
 split at h
 ·rw [D.same_ok h]
 ·simp at h; obtain ⟨⟨rfl,rfl⟩,rfl⟩:=h; rfl
 ·simp at h; obtain ⟨⟨⟨⟨rfl,rfl⟩,rfl⟩,rfl⟩,rfl⟩:=h; rfl
 ·rfl
 ·rfl
 ·simp at h; rw [h]
 ·rfl
 ·rfl
 ·cases h
theorem sameL_ok:∀ {a b:List AV},sameL a b = true → a = b
 | [],[],_=>rfl
 | a :: r,b :: q,h=>by
  simp only [sameL,Bool.and_eq_true] at h
  rw [AV.same_ok h.1,sameL_ok h.2]
 | [],_ :: _,h=>by simp [sameL] at h
 | _ :: _,[],h=>by simp [sameL] at h
theorem AObj.same_ok {a b:AObj} (h:a.same b = true):a = b:=by
 unfold AObj.same at h
 split at h
 ·simp only [Bool.and_eq_true,beq_iff_eq] at h
  obtain ⟨⟨⟨⟨⟨rfl,rfl⟩,rfl⟩,rfl⟩,rfl⟩,h6⟩:=h
  rw [sameL_ok h6]
 ·cases h
theorem Qk7 {h h':Heap} {i:Nat} (hs:sameAt h h' i = true):h'[i]? = h[i]?:=by
 unfold sameAt at hs
 split at hs
 ·rename_i a b h1 h2; rw [h1,h2,AObj.same_ok hs]
 ·cases hs
theorem Qct {op:Op} {F:List Nat} {h h':Heap} {i:Nat} (hw:(writesIn op F h h').contains i = true):F.contains i = true:=by
 unfold writesIn at hw
 split at hw
 ·simp at hw
 ·split at hw
  ·simp only [List.contains_iff_mem,List.mem_filter] at hw ⊢; exact hw.1
  ·exact hw
theorem Q7m {ts:List AV} {o:Oper} {place:Option Nat} {F:List Nat} {h h0 h':Heap} {v v0:AV} {L s:Nat} (h1:oneOp P callf ops place o ts h = some (v0,h0)) (hN:h.length = N) (hse:settleC N L s v0 h0 = some (v,h')) {i:Nat} (hf:F.contains i = true) (hw:(writesIn o.op F h h').contains i = false):h'[i]? = h[i]?:=by
 unfold writesIn at hw
 split at hw
 ·rename_i hr
  obtain rfl:=Q6p hr h1
  unfold settleC at hse
  rw [if_pos hN] at hse
  cases hse; rfl
 ·split at hw
  ·refine Qk7 ?_
   cases hs:sameAt h h' i with
   | true=>rfl
   | false =>
    have:(F.filter fun i=>!sameAt h h' i).contains i = true:=by
     simp only [List.contains_iff_mem,List.mem_filter] at hf ⊢
     exact ⟨hf,by simp [hs]⟩
    rw [this] at hw; cases hw
  ·rw [hf] at hw; cases hw
structure EntOk (P:Program) (callf:CallF) (ops:Array Oper) (N:Nat) (k:Nat) (o:Oper) (e:Ent) (ts:List AV) (h:Heap):Prop where
 one:oneOp P callf ops e.place o ts (restrictA e.d.foot 0 h) = some (e.v0,e.h0)
 settle:settleC N e.lv e.at_ e.v0 e.h0 = some (e.v,e.h)
 excl:e.place = none ∨ e.lv = 0
 len:e.h.length = N
 holes:holesA e.d.foot 0 e.h = true
 reads:e.d.reads = readsOf ops o
 dst:e.d.dst = o.dst
 wsub:∀ i,e.d.writes.contains i = true → e.d.foot.contains i = true
 wkeep:∀ i,e.d.foot.contains i = true → e.d.writes.contains i = false → e.h[i]? = (restrictA e.d.foot 0 h)[i]?
 place:∀ r,e.place = some r → e.d.foot.contains r = true
 edges:∀ x,x ∈ o.after.toList → Region.binds .any x = true → x.on < k
inductive Logs (P:Program) (callf:CallF) (ops:Array Oper) (N:Nat):Nat → List Oper → List Ent → St → St → Prop where
 | nil (k:Nat) (s:St):Logs P callf ops N k [] [] s s
 | cons {k:Nat} {o:Oper} {l:List Oper} {e:Ent} {es:List Ent} {s s':St} (h:EntOk P callf ops N k o e s.tmps s.heap) (hr:Logs P callf ops N (k + 1) l es ⟨putA s.tmps o.dst e.v,setIds s.heap e.h e.d.writes⟩ s'):Logs P callf ops N k (o :: l) (e :: es) s s'
theorem Q8I (ts:List AV) (dst:Option Tmp) (v:AV) (t:Nat):(putA ts dst v)[t]? = if dst == some t then ts[t]?.map (fun _=>v) else ts[t]?:=by
 cases dst with
 | none=>rfl
 | some d =>
  simp only [putA,List.getElem?_set]
  by_cases hd:d = t
  ·subst hd
   simp
   by_cases hl:d < ts.length
   ·simp [hl]
   ·simp [hl]
  ·simp [hd]
theorem Yp:∀ {W:List Nat} {h h':Heap},h'.length = h.length → (setIds h h' W).length = h.length ∧ ∀ id:Nat,(setIds h h' W)[id]? = if W.contains id then h'[id]? else h[id]?
 | [],h,h',_=>⟨rfl,fun id=>by simp [setIds]⟩
 | i :: W,h,h',hl=>by
  simp only [setIds]
  cases hi:h'[i]? with
  | none =>
   obtain ⟨g1,g2⟩:=Yp (W:=W) hl
   refine ⟨g1,fun id=>?_⟩
   rw [g2]
   have hge:h.length ≤ i:=by
    rcases Nat.lt_or_ge i h.length with h1 | h1
    ·rw [List.getElem?_eq_getElem (by omega)] at hi; exact nomatch hi
    ·exact h1
   by_cases hid:id = i
   ·subst hid
    simp [hi,List.getElem?_eq_none hge]
   ·simp [hid]
  | some o =>
   obtain ⟨g1,g2⟩:=Yp (W:=W) (h:=h.set i o) (h':=h') (by simpa using hl)
   refine ⟨by simpa using g1,fun id=>?_⟩
   rw [g2,List.getElem?_set]
   by_cases hid:i = id
   ·subst hid
    have:i < h.length:=by have:=Qi hi; omega
    simp [hi,this]
   ·have:¬ id = i:=fun e=>hid e.symm
    simp [hid,this]
theorem ZH {F:List Nat}:∀ {h:Heap} {i:Nat} (id:Nat),(restrictA F i h)[id]? = if F.contains (i + id) then h[id]? else h[id]?.map fun _=>none
 | [],i,id=>by simp [restrictA]
 | o :: h,i,0=>by
  simp only [restrictA,List.getElem?_cons_zero,Nat.add_zero,Option.map_some]
  split <;> rfl
 | o :: h,i,id + 1=>by
  simp only [restrictA,List.getElem?_cons_succ]
  rw [ZH id,show i + 1 + id = i + (id + 1) by omega]
theorem Zh {F:List Nat}:∀ {h:Heap} {i:Nat},(restrictA F i h).length = h.length
 | [],_=>rfl
 | o :: h,i=>by simp [restrictA,Zh]
theorem Qbs {F:List Nat}:∀ {h:Heap} {i:Nat},holesA F i h = true → ∀ id:Nat,id < h.length → F.contains (i + id) = false → h[id]? = some none
 | [],i,_,id,hl,_=>by simp at hl
 | o :: h,i,hh,id,hl,hf=>by
  simp only [holesA,Bool.and_eq_true,Bool.or_eq_true] at hh
  cases id with
  | zero =>
   rw [Nat.add_zero] at hf
   rcases hh.1 with h1 | h1
   ·rw [hf] at h1; exact nomatch h1
   ·cases o with
    | none=>rfl
    | some o=>simp at h1
  | succ id =>
   rw [List.getElem?_cons_succ]
   exact Qbs hh.2 id (by simpa using hl) (by rw [show i + 1 + id = i + (id + 1) by omega]; exact hf)
theorem Q0T:∀ {l:List Oper} {at_:Nat} {masks:List Nat} {done:List Done} {s s':St},s.heap.length = N → regionD P callf ops N l at_ masks done s = some s' →
  ∃ es,Logs P callf ops N done.length l es s s' ∧ (∀ (i:Nat) (e:Ent),es[i]? = some e → ∀ (j:Nat) (d:Done),(done ++ es.map (·.d))[j]? = some d → j < done.length + i → (masks[i]?.getD 0).testBit j = true ∨ apartD d e.d = true) ∧
   (∀ (i:Nat) (e:Ent) (r:Nat),es[i]? = some e → r ∈ e.slots → at_ ≤ r ∧ r < at_ + countBoxes l) ∧ (∀ (i j:Nat) (e e':Ent) (r:Nat),es[i]? = some e → es[j]? = some e' → i < j → r ∈ e.slots → r ∉ e'.slots)
 | [],at_,masks,done,s,s',_,h=>by
  simp [regionD] at h
  subst h
  exact ⟨[],.nil _ _,fun i e hi=>by simp at hi,fun i e r hi=>by simp at hi,fun i j e e' r hi=>by simp at hi⟩
 | o :: l,at_,masks,done,s,s',hN0,h=>by
  unfold regionD at h
  split at h
  ·rename_i d v h' hdo
   unfold doneOp at hdo
   split at hdo
   ·exact nomatch hdo
   ·rename_i w hw
    split at hdo
    ·exact nomatch hdo
    ·rename_i F0 hF
     split at hdo
     ·exact nomatch hdo
     ·rename_i v0 h0 hone
      split at hdo
      ·exact nomatch hdo
      ·rename_i v' h'' hset
       split at hdo
       ·rename_i hcond
        obtain ⟨c1,c2,c3,c4⟩:=hcond
        simp only [Option.some.injEq,Prod.mk.injEq] at hdo
        obtain ⟨rfl,rfl,rfl⟩:=hdo
        have hset':=Yp (W:=writesIn o.op (slotsOf o.op w at_ ++ F0) (restrictA (slotsOf o.op w at_ ++ F0) 0 s.heap) h'') (h:=s.heap) (h':=h'') (by rw [c1,hN0])
        obtain ⟨es,g1,g2,g3,g4⟩:=Q0T (by simp only; rw [hset'.1]; exact hN0) h
        generalize hpe:placeOf o.op w at_ = pl at hone
        generalize hlv:(if makesBox o.op then 0 else leaveN o.op) = lv at hset
        have hsl:slotsOf o.op w at_ = pl.toList ++ List.range' at_ lv:=by
         unfold slotsOf
         rw [hpe,← hlv]
         split <;> rfl
        let e:Ent:=⟨⟨readsOf ops o,o.dst,slotsOf o.op w at_ ++ F0,writesIn o.op (slotsOf o.op w at_ ++ F0) (restrictA (slotsOf o.op w at_ ++ F0) 0 s.heap) h''⟩,v',h'',pl,at_,lv,v0,h0⟩
        have hlen:(done ++ [e.d]).length = done.length + 1:=by simp
        have hes:e.slots = slotsOf o.op w at_:=hsl.symm
        have hpl:∀ r,pl = some r → r = at_ ∧ makesBox o.op = true:=fun r hr=>by
         rw [← hpe] at hr
         simp only [placeOf] at hr
         split at hr
         ·rename_i hm; simp at hm; exact ⟨(Option.some.inj hr).symm,hm.1⟩
         ·exact nomatch hr
        have hin:∀ r,r ∈ e.slots → at_ ≤ r ∧ r < nextAt o.op at_:=fun r hr=>by
         have hr:r ∈ pl.toList ++ List.range' at_ lv:=hr
         rcases List.mem_append.1 hr with hr | hr
         ·obtain ⟨q1,q2⟩:=hpl r (by simpa using hr)
          rw [nextAt,if_pos q2]; omega
         ·rw [List.mem_range'_1] at hr
          rw [← hlv] at hr
          unfold nextAt
          split <;> rename_i hm <;> simp [hm] at hr <;> omega
        have hexcl:pl = none ∨ lv = 0:=by
         cases hp:pl with
         | none=>exact Or.inl rfl
         | some r=>right; rw [← hlv,if_pos (hpl r hp).2]
        have hrl:(restrictA (slotsOf o.op w at_ ++ F0) 0 s.heap).length = N:=by rw [Zh]; exact hN0
        have hnx:∀ r,nextAt o.op at_ ≤ r ∧ r < nextAt o.op at_ + countBoxes l → at_ ≤ r ∧ r < at_ + countBoxes (o :: l):=fun r hr=>by
         simp only [countBoxes]
         unfold nextAt at hr; split at hr <;> rename_i hm <;> simp [hm] <;> omega
        refine ⟨e :: es,.cons ⟨hone,hset,hexcl,c1,c2,rfl,rfl,fun i hi=>Qct hi,fun i hi hw=>Q7m hone hrl hset hi hw,fun r hr=>by simp only [e] at hr ⊢; rw [hsl,hr]; simp,fun x hx hb=>?_⟩ (by rw [hlen] at g1; exact g1),fun i e' hi j d hj hlt=>?_,fun i e' r hi hr=>?_,fun i j e1 e2 r hi hj hlt hr=>?_⟩
        ·have:=List.all_eq_true.1 c4 x hx
         simpa [hb] using this
        ·cases i with
         | zero =>
          have hi':=Option.some.inj hi
          subst hi'
          rw [List.getElem?_append_left (by omega)] at hj
          have:=Q5E c3 j d hj
          rw [Nat.zero_add] at this
          have hm:masks[0]?.getD 0 = masks.headD 0:=by cases masks <;> rfl
          rw [hm]
          exact this
         | succ i =>
          have:=g2 i e' (by simpa using hi) j d (by simpa using hj) (by rw [hlen]; omega)
          have hm:masks[i + 1]?.getD 0 = masks.tail[i]?.getD 0:=by cases masks <;> simp
          rw [hm]
          exact this
        ·cases i with
         | zero =>
          have hi':=Option.some.inj hi
          subst hi'
          have:=hin r hr
          simp only [countBoxes]
          unfold nextAt at this; split at this <;> rename_i hm <;> simp [hm] <;> omega
         | succ i=>exact hnx r (g3 i e' r (by simpa using hi) hr)
        ·cases i with
         | zero =>
          have hi':=Option.some.inj hi
          subst hi'
          cases j with
          | zero=>omega
          | succ j =>
           have q:=hin r hr
           intro hr2
           have:=g3 j e2 r (by simpa using hj) hr2
           omega
         | succ i =>
          cases j with
          | zero=>omega
          | succ j=>exact g4 i j e1 e2 r (by simpa using hi) (by simpa using hj) (by omega) hr
       ·exact nomatch hdo
  ·exact nomatch h
theorem logs_state:∀ {k:Nat} {l:List Oper} {es:List Ent} {s s':St},Logs P callf ops N k l es s s' → s.heap.length = N → ∀ (i:Nat) (e:Ent),es[i]? = some e → ∃ (o:Oper) (si:St),l[i]? = some o ∧ EntOk P callf ops N (k + i) o e si.tmps si.heap ∧
  (∀ t:Nat,si.tmps[t]? = lookT t (fun j=>decide (j < i)) es s.tmps[t]?) ∧ (∀ id:Nat,si.heap[id]? = lookH id (fun j=>decide (j < i)) es s.heap[id]?) ∧ si.heap.length = N
 | _,_,_,_,_,.nil _ _,_,i,e,hi=>by simp at hi
 | k,_,_,s,s',.cons (o:=o) (l:=l) (e:=x) (es:=es) h hr,hN,i,e,hi=>by
  cases i with
  | zero =>
   have hi':=Option.some.inj hi
   subst hi'
   refine ⟨o,s,rfl,h,fun t=>?_,fun id=>?_,hN⟩
   ·rw [Q0L]; intro j e' _ _; simp
   ·rw [Q0G]; intro j e' _ _; simp
  | succ i =>
   have hsl:=Yp (W:=x.d.writes) (h:=s.heap) (h':=x.h) (by rw [h.len,hN])
   obtain ⟨o',si,q1,q2,q3,q4,q5⟩:=logs_state hr (by simp only; rw [hsl.1,hN]) i e (by simpa using hi)
   refine ⟨o',si,by simpa using q1,by rw [show k + (i + 1) = k + 1 + i by omega]; exact q2,fun t=>?_,fun id=>?_,q5⟩
   ·rw [q3 t]
    simp only [lookT]
    have e1:(fun k=>decide (k + 1 < i + 1)) = fun k=>decide (k < i):=by funext k; simp
    rw [e1,Q8I,h.dst]
    simp
   ·rw [q4 id]
    simp only [lookH]
    have e1:(fun k=>decide (k + 1 < i + 1)) = fun k=>decide (k < i):=by funext k; simp
    rw [e1,hsl.2 id]
    simp
theorem Q6R:∀ {k:Nat} {l:List Oper} {es:List Ent} {s s':St},Logs P callf ops N k l es s s' → s.heap.length = N →
  (∀ t:Nat,s'.tmps[t]? = lookT t (fun _=>true) es s.tmps[t]?) ∧ (∀ id:Nat,s'.heap[id]? = lookH id (fun _=>true) es s.heap[id]?) ∧ s'.heap.length = N ∧ es.length = l.length
 | _,_,_,_,_,.nil _ _,hN=>⟨fun _=>rfl,fun _=>rfl,hN,rfl⟩
 | k,_,_,s,s',.cons (o:=o) (l:=l) (e:=x) (es:=es) h hr,hN=>by
  have hsl:=Yp (W:=x.d.writes) (h:=s.heap) (h':=x.h) (by rw [h.len,hN])
  obtain ⟨q1,q2,q3,q4⟩:=Q6R hr (by simp only; rw [hsl.1,hN])
  refine ⟨fun t=>?_,fun id=>?_,q3,by simp [q4]⟩
  ·rw [q1 t]
   simp only [lookT]
   rw [Q8I,h.dst]
   simp
  ·rw [q2 id]
   simp only [lookH]
   rw [hsl.2 id]
   simp
def Agree (ts ts':List AV) (l:List Tmp):Prop:=∀ t,l.contains t = true → ts[t]? = ts'[t]?
theorem Qfn {ts ts':List AV} {x:Operand} (h:∀ t,x = .tmp t → ts[t]? = ts'[t]?):evalX ts x = evalX ts' x:=by
 cases x with
 | tmp t=>simp only [evalX,List.getD_eq_getElem?_getD,h t rfl]
 | _=>rfl
theorem HR {ts ts':List AV}:∀ {l:List Operand},(∀ x,x ∈ l → evalX ts x = evalX ts' x) → evalL ts l = evalL ts' l
 | [],_=>rfl
 | x :: l,h=>by
  simp only [evalL]
  rw [h x (by simp),HR fun y hy=>h y (by simp [hy])]
theorem YL {ts ts':List AV}:∀ {l:List (Nat × Operand)},(∀ x,x ∈ l → evalX ts x.2 = evalX ts' x.2) → evalParts ts l = evalParts ts' l
 | [],_=>rfl
 | (i,x) :: l,h=>by
  simp only [evalParts]
  rw [h (i,x) (by simp),YL fun y hy=>h y (by simp [hy])]
theorem H1 {ts ts':List AV} {o:Option Operand} {d t:Nat} (h:∀ x,o = some x → evalX ts x = evalX ts' x):boundA ts o d t = boundA ts' o d t:=by
 cases o with
 | none=>rfl
 | some x=>simp only [boundA,h x rfl]
theorem QcI {ts ts':List AV} {op:Op} {place:Option Nat} {h:Heap} (hx:∀ x,x ∈ op.operands.toList → evalX ts x = evalX ts' x):stepOp P callf place op ts h = stepOp P callf place op ts' h:=by
 cases op with
 | move x=>simp only [stepOp]; rw [hx x (by simp [Op.operands])]
 | assign x=>simp only [stepOp]; rw [hx x (by simp [Op.operands])]
 | pick c a b=>simp only [stepOp]; rw [hx c (by simp [Op.operands]),hx a (by simp [Op.operands]),hx b (by simp [Op.operands])]
 | box e x=>simp only [stepOp]; rw [hx x (by simp [Op.operands])]
 | build t ps =>
  simp only [stepOp]
  rw [YL (ts':=ts') fun y hy=>hx y.2 (by simp [Op.operands]; exact ⟨y.1,by simpa using hy⟩)]
 | buildSlice t n ps =>
  simp only [stepOp]
  rw [YL (ts':=ts') fun y hy=>hx y.2 (by simp [Op.operands]; exact ⟨y.1,by simpa using hy⟩)]
 | load t x=>simp only [stepOp]; rw [hx x (by simp [Op.operands])]
 | store t x y=>simp only [stepOp]; rw [hx x (by simp [Op.operands]),hx y (by simp [Op.operands])]
 | nilCheck x=>simp only [stepOp]; rw [hx x (by simp [Op.operands])]
 | binOp op t x y u=>simp only [stepOp]; rw [hx x (by simp [Op.operands]),hx y (by simp [Op.operands])]
 | unOp op t x=>simp only [stepOp]; rw [hx x (by simp [Op.operands])]
 | convert s d x=>simp only [stepOp]; rw [hx x (by simp [Op.operands])]
 | makeFunc fn a c =>
  simp only [stepOp]
  rw [HR (l:=a.toList) (ts':=ts') fun y hy=>hx y (by simp [Op.operands]; exact Or.inl (by simpa using hy)),HR (l:=c.toList) (ts':=ts') fun y hy=>hx y (by simp [Op.operands]; exact Or.inr (by simpa using hy))]
 | slice t x lo hi mx =>
  simp only [stepOp]
  rw [hx x (by simp [Op.operands])]
  have b1:∀ d t,boundA ts lo d t = boundA ts' lo d t:=fun d t=>H1 fun y hy=>hx y (by subst hy; simp [Op.operands])
  have b2:∀ d t,boundA ts hi d t = boundA ts' hi d t:=fun d t=>H1 fun y hy=>hx y (by subst hy; simp [Op.operands])
  have b3:∀ d t y,mx = some y → boundA ts (some y) d t = boundA ts' (some y) d t:=fun d t y hm=>H1 fun z hz=>hx z (by subst hm; cases hz; simp [Op.operands])
  have b4:∀ d t y,hi = some y → boundA ts (some y) d t = boundA ts' (some y) d t:=fun d t y hm=>H1 fun z hz=>hx z (by subst hm; cases hz; simp [Op.operands])
  have hs:∀ a,sliceA P t a lo hi mx ts = sliceA P t a lo hi mx ts':=fun a=>by
   unfold sliceA
   cases mx with
   | none=>simp only [b1,b2]
   | some m =>
    cases hi with
    | none=>simp only [b1,b2]
    | some y=>simp only [b1,b2,b3 _ _ m rfl,b4 _ _ y rfl]
  simp only [hs]
 | fieldAddr t x f=>simp only [stepOp]; rw [hx x (by simp [Op.operands])]
 | field t x f=>simp only [stepOp]; rw [hx x (by simp [Op.operands])]
 | indexAddr t x i=>simp only [stepOp]; rw [hx x (by simp [Op.operands]),hx i (by simp [Op.operands])]
 | index t x i=>simp only [stepOp]; rw [hx x (by simp [Op.operands]),hx i (by simp [Op.operands])]
 | extract x i=>simp only [stepOp]; rw [hx x (by simp [Op.operands])]
 | makeMap t r=>simp only [stepOp]
 | makeSlice t l c=>simp only [stepOp]; rw [hx l (by simp [Op.operands]),hx c (by simp [Op.operands])]
 | lookup t x i ok=>simp only [stepOp]; rw [hx x (by simp [Op.operands]),hx i (by simp [Op.operands])]
 | mapUpdate t x i v=>simp only [stepOp]; rw [hx x (by simp [Op.operands]),hx i (by simp [Op.operands]),hx v (by simp [Op.operands])]
 | range t x=>simp only [stepOp]; rw [hx x (by simp [Op.operands])]
 | next x b=>simp only [stepOp]; rw [hx x (by simp [Op.operands])]
 | call c =>
  simp only [stepOp,callA]
  rw [HR (l:=c.args.toList) (ts':=ts') fun y hy=>hx y (by simp [Op.operands,Call.operands]; exact Or.inr (by simpa using hy))]
  cases hc:c.callee with
  | value f=>simp only []; rw [hx f (by simp [Op.operands,Call.operands,hc])]
  | _=>rfl
 | _=>rfl
theorem Qeu {ts ts':List AV} {o:Oper} {place:Option Nat} {h:Heap} (hx:Agree ts ts' (readsOf ops o)):oneOp P callf ops place o ts h = oneOp P callf ops place o ts' h:=by
 have h1:∀ x,x ∈ o.op.operands.toList → evalX ts x = evalX ts' x:=fun x hxx=>Qfn fun t ht=>hx t (by
  subst ht
  simp only [readsOf,List.contains_iff_mem,List.mem_append,List.mem_filterMap]
  exact Or.inl ⟨.tmp t,hxx,rfl⟩)
 have h2:wantedA ops o ts = wantedA ops o ts':=by
  unfold wantedA
  cases hg:o.guard with
  | none=>rfl
  | some g =>
   obtain ⟨j,want⟩:=g
   simp only []
   cases hd:(ops[j]?).bind (·.dst) with
   | none=>rfl
   | some d =>
    simp only []
    rw [hx d (by simp only [readsOf,hg,hd]; simp)]
 unfold oneOp
 rw [h2,QcI h1]
end
end Go.Proofs.YtfdcjngclelnhaaGreat
