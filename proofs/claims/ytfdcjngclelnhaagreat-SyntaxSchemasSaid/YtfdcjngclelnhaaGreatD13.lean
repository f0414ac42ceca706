/- Part of a proof. -/
import Derived.Test.YtfdcjngclelnhaaGreatDf
set_option linter.unusedSectionVars false
set_option linter.unusedSimpArgs false
set_option linter.unusedVariables false
namespace Go.Proofs.YtfdcjngclelnhaaGreat
open Go Go.RowKit
variable [mode:Inhabited ModeT]
section
variable {P:Program} {K:KW} {w:World} {h:Heap} {HF:Nat → Option AObj} {V:Nat → Prop} {ow:Nat → Option OKey} {hc:Nat → Option AObj}
theorem Q6o {ts:Array TypeId} {ty elem:TypeId} {info:TypeInfo} (ht:AppTypes P ts elem info) {vx:Value} {news:List Value} (hm:More P K info.size vx [] news) (hw:∀ a c,K.imm a = some c → w.cell? a = some c) {base:Option Addr} {len cap:Nat} (hn:len ≤ cap) :
  (Builtin.append_ ts ty #[.slice base len cap,vx]).run P w = .ok (.slice base len cap) w:=by
 obtain ⟨⟨t1,h1,h2⟩,⟨t2,d,h3,h4,h5⟩,h6⟩:=ht
 have hd:(match d with | .int _=>true | _=>false) = false:=by cases d <;> first | rfl | exact absurd rfl (h5 _)
 have hsz:(sizeOf elem).run P w = .ok info.size w:=Qo (by simp [sizeA,h6])
 have hnil:news = []:=by
  have:=hm.den.length
  exact List.eq_nil_of_length_eq_zero (by simpa using this)
 subst hnil
 unfold Builtin.append_
 have hn':len + ([]:List D).length ≤ cap:=by simpa using hn
 simp only [h1,h3,List.getElem?_toArray,List.getElem?_cons_zero,List.getElem?_cons_succ,Sem.run_bind,Q2 h2,Result.andThen_ok,hsz,Q2 h4,Sem.run_pure]
 simp only [Bool.false_eq_true,if_false,Sem.run_bind,hm.len w,Result.andThen_ok,Bool.not_false,if_true,if_pos hn',hm.cells w hw]
 cases base <;> simp [storeCells]
theorem Qax {argTypes:Array TypeId} {ty:TypeId} {place:Option Nat} {s x v:AV} {vs vx:Value} {h':Heap} (hk:Fit K h HF V w) (hp:∀ r,place = some r → V r ∧ r < h.length) (ha:appendA P argTypes.toList place s x h = some (v,h')) (hs:Den K s vs) (hx:Den K x vx) :
  ∃ u w' K',(Builtin.append_ argTypes ty #[vs,vx]).run P w = .ok u w' ∧ Kext K K' ∧ Den K' v u ∧ Fit K' h' HF (afterV place h.length h'.length V) w' ∧ h.length ≤ h'.length:=by
 unfold appendA at ha
 split at ha
 ·rename_i hin; exact Qa2 hk hp ha hin hs hx
 rename_i hnin
 clear hnin
 split at ha
 ·rename_i sType xType rest hts
  have ht0:argTypes[0]? = some sType:=by rw [← Array.getElem?_toList,hts]; rfl
  have ht1:argTypes[1]? = some xType:=by rw [← Array.getElem?_toList,hts]; rfl
  split at ha
  ·rename_i elem xd hu1 hu2
   split at ha
   ·rename_i info hint hinfo
    have hAT:AppTypes P argTypes elem info:=⟨⟨sType,ht0,hu1⟩,⟨xType,xd,ht1,hu2,fun k e=>by subst e; simp at hint⟩,hinfo⟩
    split at ha
    ·rename_i xs hxs
     obtain ⟨news,hm⟩:=QmE (P:=P) hxs hx
     obtain ⟨ow,hok⟩:=hk.ok
     split at ha
     ·exact nomatch ha
     ·rename_i hsz0
      split at ha
      ·rename_i hemp
       have:xs = []:=by simpa using hemp
       subst this
       split at ha
       ·rename_i es hes
        cases ha
        obtain ⟨a,cap,rfl,hcap,_⟩:=Yl hs hes
        exact ⟨_,w,K,Q6o hAT hm hok.imm hcap,Kext.refl K,hs,hk.after (fun r hr=>(hp r hr).2),Nat.le_refl _⟩
       ·exact nomatch ha
      ·rename_i hemp
       have hpos:0 < xs.length:=by cases xs with | nil=>simp at hemp | cons=>simp
       split at ha
       ·exact nomatch ha
       ·rename_i hzero
        have hzero':info.zero.map (fun v=>v.cells.size) = some info.size:=by simpa using hzero
        split at ha
        ·
         rename_i id es
         split at ha
         ·rename_i e n sz hid
          split at ha
          ·rename_i hcond
           obtain ⟨c1,c2,c3,c4⟩:=hcond
           subst c1; subst c2; subst c3
           cases ha
           obtain ⟨r,g1,g2,g3,g4,g5⟩:=hok.tip id _ _ _ (Qe hid)
           have hlt:=Qi hid
           have hrel:=hok.releaseTip g5
           have hnV:∀ i,V i → i ≠ id:=fun i hi e=>by subst e; have:=(hok.fresh i hi).1; rw [Qe hid] at this; exact nomatch this
           have hkeys:∀ n',es.length + xs.length ≤ n' → K.key (.tip id n') = none:=fun n' hn'=>hok.more id _ _ _ (Qe hid) n' (by omega)
           have hfin:∀ o,comb (h.set id (some o)) HF = upd (upd (comb h HF) id none) id (some o):=fun o=>by
            rw [Yx hlt]; funext i; simp only [upd]; split <;> rfl
           have hhf:∀ o i o',HF i = some o' → (h.set id (some o))[i]? = some none:=fun o i o' hi=>by
            have h2:=hk.hf i o' hi
            have:id ≠ i:=by rintro rfl; rw [hid] at h2; cases h2
            rw [List.getElem?_set_ne this]; exact h2
           have hvl:∀ i,(h.set id (some (.tip e (es.length + xs.length) info.size))).length ≤ i → afterV place h.length (h.set id (some (.tip e (es.length + xs.length) info.size))).length V i:=fun i hi=>by
            simp at hi; exact ⟨hk.vlen i hi,fun e=>by have:=(hp i e).2; omega,Or.inr (by simpa using hi)⟩
           cases hs with
           | tip _ _ r' hr' hcap hcells =>
            obtain rfl:r' = r:=by rw [g1] at hr'; exact (Option.some.inj hr').symm
            by_cases hin:es.length + xs.length ≤ r'.cap
            ·obtain ⟨w',K',ow',q1,q2,q3,q4⟩:=QaX (P:=P) (ty:=ty) hrel hAT hm g3 hcells g4 (by simp [freeOw]) hin (Qk _ _ _) hnV hkeys
             rw [g2,g3,← hfin] at q4
             exact ⟨_,w',K',q1,q2,q3,⟨⟨ow',q4.virgin fun i hi=>hi.1⟩,hhf _,hvl⟩,by simp⟩
            ·obtain ⟨u,w',K',ow',q1,q2,q3,q4⟩:=HH (P:=P) (ty:=ty) hrel hAT hm (b:=r'.b) (o:=0) (fun _=>rfl) (fun _=>g3) hcells hin c4 hzero' (Qk _ _ _) hnV hkeys
             rw [← hfin] at q4
             exact ⟨u,w',K',q1,q2,q3,⟨⟨ow',q4.virgin fun i hi=>hi.1⟩,hhf _,hvl⟩,by simp⟩
          ·exact nomatch ha
         ·exact nomatch ha
        ·
         rename_i b off v0 e0 es
         split at ha
         ·rename_i be cs ver hb
          split at ha
          ·rename_i b' off' v' e' es' hcs
           split at ha
           ·rename_i hcond
            obtain ⟨rfl,rfl,rfl,rfl,rfl,c6,c9,c7,c8⟩:=hcond
            split at ha
            ·rename_i id h'' hal
             cases ha
             obtain ⟨bb,vv,hbox⟩:=hok.box _ _ _ _ (Qe hb)
             obtain ⟨_,_,_,r,g1,g2,g3,g4⟩:=hbox.cell _ _ hcs
             have hlt:=Qi hb
             have hrel:=hok.releaseAt (Qe hb) hcs g4
             have hcomb:comb (h.set b' (some (.cells be (cs.set off' (.dat (.slice es'))) ver))) HF = upd (comb h HF) b' (some (.cells be (cs.set off' (.dat (.slice es'))) ver)):=Yx hlt _
             rw [← hcomb] at hrel
             have hfit1:Fit K (h.set b' (some (.cells be (cs.set off' (.dat (.slice es'))) ver))) HF V w:=⟨⟨_,hrel⟩,fun i o hi=>by
              have h2:=hk.hf i o hi
              have:b' ≠ i:=by rintro rfl; rw [hb] at h2; cases h2
              rw [List.getElem?_set_ne this]; exact h2,fun i hi=>hk.vlen i (by simpa using hi)⟩
             obtain ⟨a1,a2,a3,a4,a5,a6⟩:=Ha hfit1 (fun r hr=>(hp r hr).1) hal
             have hvir:=hrel.virgin (V':=afterV place h.length h'.length V) (fun i hi=>hi.1)
             have hfr:=hrel.fresh id a1
             have hl1:(h.set b' (some (.cells be (cs.set off' (.dat (.slice es'))) ver))).length = h.length:=by simp
             rw [hl1] at a3 a5 a6
             cases hs with
             | «at» _ _ _ _ r' hr' hcap hcells =>
              obtain rfl:r' = r:=by rw [g1] at hr'; exact (Option.some.inj hr').symm
              have hsz:es ≠ [] → r'.sz = info.size:=fun hne=>by
               cases es with
               | nil=>exact absurd rfl hne
               | cons e es=>simp [sized] at c7; rw [← c7]; exact (hcells.1 e (by simp)).symm
              rw [c6] at g3
              have hne:es ≠ []:=by rintro rfl; exact c9 rfl
              by_cases hin:es.length + xs.length ≤ r'.cap
              ·obtain ⟨w',K',ow',q1,q2,q3,q4⟩:=QaX (P:=P) (ty:=ty) hvir hAT hm (hsz hne) hcells g3 (by simp [freeOw]) hin hfr.1 (fun i hi=>(a6 i hi).2) (fun n' _=>hfr.2.2.1 n')
               rw [g2,hsz hne,← a2] at q4
               exact ⟨_,w',K',q1,q2,q3,⟨⟨ow',q4⟩,a4,a5⟩,a3⟩
              ·obtain ⟨u,w',K',ow',q1,q2,q3,q4⟩:=HH (P:=P) (ty:=ty) hvir hAT hm (b:=r'.b) (o:=0) (fun _=>rfl) hsz hcells hin c8 hzero' hfr.1 (fun i hi=>(a6 i hi).2) (fun n' _=>hfr.2.2.1 n')
               rw [← a2] at q4
               exact ⟨u,w',K',q1,q2,q3,⟨⟨ow',q4⟩,a4,a5⟩,a3⟩
            ·exact nomatch ha
           ·exact nomatch ha
          ·exact nomatch ha
         ·exact nomatch ha
        ·
         rename_i es
         split at ha
         ·rename_i hcond
          obtain ⟨c1,c2⟩:=hcond
          split at ha
          ·rename_i id h'' hal
           cases ha
           obtain ⟨a1,a2,a3,a4,a5,a6⟩:=Ha hk (fun r hr=>(hp r hr).1) hal
           have hvir:=hok.virgin (V':=afterV place h.length h'.length V) (fun i hi=>hi.1)
           have hfr:=hok.fresh id a1
           cases hs with
           | full _ a b o sz haa hcells =>
            have hsz:es ≠ [] → sz = info.size:=fun hne=>by
             cases es with
             | nil=>exact absurd rfl hne
             | cons e es=>simp [sized] at c1; rw [← c1]; exact (hcells.1 e (by simp)).symm
            obtain ⟨u,w',K',ow',q1,q2,q3,q4⟩:=HH (P:=P) (ty:=ty) hvir hAT hm (base:=some a) (cap:=es.length) (b:=b) (o:=o) (fun hne=>by rw [haa hne]) hsz hcells (by omega) c2 hzero' hfr.1 (fun i hi=>(a6 i hi).2) (fun n' _=>hfr.2.2.1 n')
            rw [← a2] at q4
            exact ⟨u,w',K',q1,q2,q3,⟨⟨ow',q4⟩,a4,a5⟩,a3⟩
          ·exact nomatch ha
         ·exact nomatch ha
        ·
         split at ha
         ·rename_i c2
          split at ha
          ·rename_i id h'' hal
           cases ha
           obtain ⟨a1,a2,a3,a4,a5,a6⟩:=Ha hk (fun r hr=>(hp r hr).1) hal
           have hvir:=hok.virgin (V':=afterV place h.length h'.length V) (fun i hi=>hi.1)
           have hfr:=hok.fresh id a1
           have hnl:=Q0r hs
           subst hnl
           obtain ⟨u,w',K',ow',q1,q2,q3,q4⟩:=HH (P:=P) (ty:=ty) hvir hAT hm (es:=[]) (base:=none) (cap:=0) (b:=0) (o:=0) (sz:=0) (by simp) (by simp) ⟨by simp,[],.nil,by simp⟩ (by rw [List.length_nil]; omega) (by simpa using c2) hzero' hfr.1 (fun i hi=>(a6 i hi).2) (fun n' _=>hfr.2.2.1 n')
           simp only [List.length_nil,Nat.zero_add,List.nil_append] at q1 q3 q4
           rw [← a2] at q4
           exact ⟨u,w',K',q1,q2,q3,⟨⟨ow',q4⟩,a4,a5⟩,a3⟩
          ·exact nomatch ha
         ·exact nomatch ha
        ·exact nomatch ha
    ·exact nomatch ha
   ·exact nomatch ha
  ·exact nomatch ha
 ·exact nomatch ha
end
end Go.Proofs.YtfdcjngclelnhaaGreat
namespace Go.Proofs.YtfdcjngclelnhaaGreat
open Go Go.RowKit
variable [mode:Inhabited ModeT]
section
variable {P:Program} {K:KW} {w:World} {h:Heap} {HF:Nat → Option AObj} {V:Nat → Prop} {ow:Nat → Option OKey} {hc:Nat → Option AObj}
theorem Q2C {b:Nat} {ns:List Int}:∀ (k j:Nat) (acc:ByteArray),j + k ≤ ns.length → (∀ (i:Nat) (n:Int),ns[i]? = some n → w.cell? ⟨b,i,none⟩ = some (.int .u8 n)) →
  (loadBytes ⟨b,j,none⟩ acc k).run P w = .ok (((ns.drop j).take k).foldl (fun r n=>r.push (UInt8.ofNat n.toNat)) acc) w
 | 0,j,acc,_,_=>by simp [loadBytes]
 | k + 1,j,acc,hle,hcell=>by
  have hj:j < ns.length:=by omega
  have hd:ns.drop j = ns[j] :: ns.drop (j + 1):=List.drop_eq_getElem_cons hj
  have hc:=hcell j ns[j] (List.getElem?_eq_getElem hj)
  simp only [loadBytes,Sem.run_bind,Qee hc,Result.andThen_ok,JZ]
  rw [Q2C k (j + 1) _ (by omega) hcell,hd]
  rfl
theorem QhE {e u:TypeId} {n count:Nat} (h1:P.cellsOf e = 1) (h2:sameLayout P P.depth e u = true) (h3:n ≤ count):liesAt P P.depth e (count / P.cellsOf e) 0 u n = true:=by
 have hd:P.depth = (2 * (P.types.size + Made.depth) + 1) + 1:=rfl
 have hrow:rowAt P (sameLayout P P.depth · u) P.depth e (count / P.cellsOf e) 0 n = true:=by
  generalize hq:(sameLayout P P.depth · u) = q
  have hqe:q e = true:=by rw [← hq]; exact h2
  rw [hd,h1]
  unfold rowAt
  simp [h1,hqe,h3]
 generalize hm:P.depth = m at hrow ⊢
 rw [hm] at hd
 subst hd
 unfold liesAt
 rw [hm,hrow]
 rfl
theorem Qsb {lo hi n m:Nat} (h1:hi ≤ m) (h2:n ≤ m):(if n = 0 then (lo,hi) else if lo == hi then (0,0 + n) else (min lo 0,max hi (0 + n))).2 ≤ m:=by
 split
 ·exact h1
 ·split <;> simp <;> omega
theorem OkW.freezeAt (hk:OkW K hc V w ow) {id off v ver:Nat} {e:TypeId} {cs:List AV} {es:List D} {r:KRow} (hid:hc id = some (.cells e cs ver)) (hcs:cs[off]? = some (.own (.at id off v r.e) es)) (hr:K.key (.at id off v) = some r)
  {n:Nat} (hn:n ≤ es.length * r.sz):OkW K hc V (w.freeze ⟨r.b,0,none⟩ n) ow:=by
 obtain ⟨bb,vv,hbox⟩:=hk.box _ _ _ _ hid
 obtain ⟨_,_,_,r',g1,g2,g3,g4⟩:=hbox.cell _ _ hcs
 obtain rfl:r' = r:=by rw [hr] at g1; exact (Option.some.inj g1).symm
 obtain ⟨⟨arr,lo,hi,hblk,hsz,hhi⟩,himm,hbase⟩:=g3
 have hheap:=Q1D (a:=⟨r'.b,0,none⟩) (n:=n) hblk
 have hoth:∀ b,b ≠ r'.b → (w.freeze ⟨r'.b,0,none⟩ n).heap[b]? = w.heap[b]?:=fun b hb=>Yc hb
 have hne:∀ b k,ow b = some k → k ≠ .at id off v → b ≠ r'.b:=fun b k h1 h2 h3=>by rw [h3,g4] at h1; exact h2 (Option.some.inj h1).symm
 have hcell:∀ i j ver' c,CellOk K w ow i j ver' c → ((i = id ∧ j = off) → c = .own (.at id off v r'.e) es) → CellOk K (w.freeze ⟨r'.b,0,none⟩ n) ow i j ver' c:=fun i j ver' c hcc hq=>by
  unfold CellOk at hcc ⊢
  split at hcc
  ·exact hcc
  ·rename_i id' off' v' e' es'
   obtain ⟨h1,h2,h3,r2,h4,h5,h6,h7⟩:=hcc
   refine ⟨h1,h2,h3,r2,h4,h5,?_,h7⟩
   by_cases hb:r2.b = r'.b
   ·rw [hb,g4] at h7
    cases h7
    have:=hq ⟨rfl,rfl⟩
    cases this
    obtain rfl:r2 = r':=by rw [hr] at h4; exact (Option.some.inj h4).symm
    refine ⟨⟨arr,_,_,hheap,hsz,Qsb hhi hn⟩,himm,hbase⟩
   ·exact h6.heap (hoth _ hb)
  ·trivial
 refine ⟨fun a c ha=>?_,hk.below.step ?_ ?_ ?_ ⟨by rw [HJ]; omega,fun k hk'=>hoth k (by intro e; subst e; first | exact absurd hk' (by assumption) | exact absurd hk' hb.base | exact absurd hk' (by simpa using hbase))⟩,fun i e' cs' ver' hi=>?_,fun i e' n' sz' hi=>?_,hk.more,hk.fresh,hk.ver,fun b k hb=>by rw [HJ]; exact hk.own b k hb,fun i o hi ho=>(hk.fr i o hi ho).mono (Kext.refl K) (fun _=>rfl) fun b hb=>⟨hoth b (hne _ _ hb (by intro e; cases e)),hb,fun _ _ h=>h⟩,hk.freshr⟩
 ·have h1:=hk.imm a c ha
  by_cases hab:a.block = r'.b
  ·obtain ⟨ab,ao,asp⟩:=a
   simp only at hab
   subst hab
   obtain ⟨vs',e',f',k1,k2,k3⟩:=Zd h1
   simp only at k2 k3
   subst k2
   rw [hblk] at k1
   cases k1
   rw [HI hheap]; exact k3
  ·rw [ZU (hoth _ hab)]; exact h1
 all_goals try (unfold World.freeze; split <;> rfl)
 ·obtain ⟨b,vs,hb⟩:=hk.box i e' cs' ver' hi
  refine ⟨b,vs,hb.blk,hb.own,hb.base,by rw [hoth b (hne _ _ hb.own (by intro e; cases e))]; exact hb.heap,hb.imm,hb.den,fun j c hj=>hcell _ _ _ _ (hb.cell j c hj) fun hq=>?_,hb.under⟩
  obtain ⟨rfl,rfl⟩:=hq
  rw [hid] at hi
  cases hi
  rw [hcs] at hj
  exact (Option.some.inj hj).symm
 ·obtain ⟨r2,h1,h2,h3,h4,h5⟩:=hk.tip i e' n' sz' hi
  exact ⟨r2,h1,h2,h3,h4.heap (hoth _ (hne _ _ h5 (by intro e; cases e))),h5⟩
theorem Q3S (ts:Array TypeId) (ty pt:TypeId) (k:IntKind) (ht:ts[0]? = some pt):(Builtin.unsafeString_ ts ty #[.pointer none,.int k 0]).run P w = .ok (.string .empty) w:=by
 unfold Builtin.unsafeString_
 split
 ·show Sem.run P (asInt (.int k 0) >>= _) w = _
  simp [asInt,asIntOf]
 ·rename_i hno; exact absurd ht (hno pt)
theorem Q4f (ts:Array TypeId) (ty pt:TypeId) (k:IntKind) (a:Addr) (ht:ts[0]? = some pt):(Builtin.unsafeString_ ts ty #[.pointer (some a),.int k 0]).run P w = .ok (.string .empty) w:=by
 unfold Builtin.unsafeString_
 split
 ·show Sem.run P (asInt (.int k 0) >>= _) w = _
  simp [asInt,asIntOf]
 ·rename_i hno; exact absurd ht (hno pt)
theorem Q4d (w':World) (ts:Array TypeId) (ty pt u:TypeId) (k:IntKind) (a:Addr) (n:Int) (s:ByteArray) (ht:ts[0]? = some pt) (hn:¬ n < 0) (h0:¬ n = 0) (hmax:¬ n > IntKind.i64.max)
  (he:(elemOf pt).run P w = .ok u w) (hv:(variablesAt a u n.toNat).run P w = .ok true w) (hl:(loadBytes a .empty n.toNat).run P w = .ok s w) (hf:(freeze a n.toNat).run P w = .ok () w'):(Builtin.unsafeString_ ts ty #[.pointer (some a),.int k n]).run P w = .ok (.string s) w':=by
 unfold Builtin.unsafeString_
 split
 ·rename_i h
  rw [ht] at h; cases h
  show Sem.run P (asInt (.int k n) >>= _) w = _
  simp only [asInt,asIntOf,Sem.run_bind,Sem.run_pure,Result.andThen_ok,if_neg hn,if_neg hmax,if_neg h0,he,hv,if_true,hl,hf]
 ·rename_i hno; exact absurd ht (hno pt)
theorem Q4i {ts:Array TypeId} {ty pt:TypeId} {p n v:AV} {vp vn:Value} (hk:Fit K h HF V w) (ht:ts[0]? = some pt) (hs:unsafeStringA P pt p n h = some v) (hp:Den K p vp) (hn:Den K n vn) :
  ∃ u w',(Builtin.unsafeString_ ts ty #[vp,vn]).run P w = .ok u w' ∧ Den K v u ∧ Fit K h HF V w':=by
 unfold unsafeStringA at hs
 split at hs
 ·cases hs
  cases hp
  cases hn with | dat hn=>?_
  cases hn
  refine ⟨.string .empty,w,?_,.dat (.str []),hk⟩
  exact Q3S ts ty pt _ ht
 ·rename_i b off v0 e es k n
  split at hs
  ·exact nomatch hs
  ·rename_i hn0
   cases hp with
   | sdata _ _ _ _ r hr hcap hcells =>
    cases hn with | dat hn=>?_
    cases hn
    split at hs
    ·rename_i hz
     cases hs
     subst hz
     refine ⟨.string .empty,w,?_,.dat (.str []),hk⟩
     exact Q4f ts ty pt _ _ ht
    ·rename_i hnz
     split at hs
     ·rename_i be cs ver u hb hu
      split at hs
      ·rename_i b' off' v' e' es' hcs
       split at hs
       ·rename_i hcond
        obtain ⟨rfl,rfl,rfl,rfl,c5,c6,c7,c8,c9⟩:=hcond
        simp only [Option.map_eq_some_iff] at hs
        obtain ⟨s,hs,rfl⟩:=hs
        obtain ⟨ow,hok⟩:=hk.ok
        obtain ⟨bb,vv,hbox⟩:=hok.box _ _ _ _ (Qe hb)
        obtain ⟨_,_,_,r2,g1,g2,g3,g4⟩:=hbox.cell _ _ hcs
        obtain rfl:r2 = r:=by rw [hr] at g1; exact (Option.some.inj g1).symm
        have g3':=g3
        obtain ⟨⟨arr,lo,hi,hblk,hsz,hhi⟩,himm,hbase⟩:=g3'
        have htk:=hcells.take n.toNat c7
        obtain ⟨t1,vs,t2,t3⟩:=htk
        obtain ⟨ns,rfl,rfl⟩:=Q21 hs t2
        have hes:es ≠ []:=by rintro rfl; simp at c7; omega
        have hsz1:r2.sz = 1:=by
         have hne:es.take n.toNat ≠ []:=by
          intro h0
          have:=congrArg List.length h0
          rw [List.length_take,List.length_nil] at this
          omega
         cases hte:es.take n.toNat with
         | nil=>exact absurd hte hne
         | cons x xs =>
          have hx:=t1 x (by rw [hte]; simp)
          rw [hte] at hs
          unfold bytesOf at hs
          split at hs
          case h_1 heq=>exact nomatch heq
          case h_3=>exact nomatch hs
          rename_i m r' heq
          cases heq
          simpa [D.cells] using hx.symm
        have hnl:ns.length = n.toNat:=by
         have:=t2.length
         rw [QX t1,hsz1] at this
         simp at this
         omega
        have hle:es.length ≤ arr.size:=by
         have hsz2:=hsz
         rw [hsz1,Nat.mul_one] at hsz2
         omega
        have hlies:=QhE (P:=P) (n:=n.toNat) (count:=arr.size) c6 c8 (by omega)
        have hcell:∀ (i:Nat) (m:Int),ns[i]? = some m → w.cell? ⟨r2.b,i,none⟩ = some (.int .u8 m):=fun i m hi=>by
         have:=hok.imm _ _ (t3 i (.int .u8 m) (by simp [hi]))
         rwa [Nat.zero_add] at this
        have hload:=Q2C (P:=P) (w:=w) (b:=r2.b) (ns:=ns) n.toNat 0 ByteArray.empty (by omega) hcell
        rw [List.drop_zero,List.take_of_length_le (by omega),Q8C] at hload
        have helem:(elemOf pt).run P w = .ok u w:=by simp [elemOf,Q2 hu]
        refine ⟨.string ⟨(ns.map fun n=>UInt8.ofNat n.toNat).toArray⟩,w.freeze ⟨r2.b,0,none⟩ n.toNat,?_,.dat (.str _),⟨⟨ow,hok.freezeAt (Qe hb) (by rw [g2]; exact hcs) hr (by rw [c5,hsz1]; omega)⟩,hk.hf,hk.vlen⟩⟩
        have hmax:¬ n > IntKind.i64.max:=by rw [IntKind.max_i64]; omega
        exact Q4d _ ts ty pt u _ _ n _ ht hn0 hnz hmax helem (by simp only [variablesAt,run_program,run_shape,Q1o hblk,hlies,if_true,Sem.run_bind,Sem.run_pure,Result.andThen_ok]) hload (run_freeze _ _ _ _)
       ·exact nomatch hs
      ·exact nomatch hs
     ·exact nomatch hs
 ·exact nomatch hs
end
end Go.Proofs.YtfdcjngclelnhaaGreat
