/- Part of a proof. -/
import Derived.Test.YtfdcjngclelnhaaGreatKC4
set_option linter.unusedSectionVars false
set_option linter.unusedSimpArgs false
set_option linter.unusedVariables false
set_option maxHeartbeats 1000000
namespace Go.Proofs.YtfdcjngclelnhaaGreat
open Go Go.RowKit
variable [mode:Inhabited ModeT]
def isx (is:List Nat) (n k:Nat):List Nat:=is ++ (List.range k).map (n + ·)
theorem Qiv {is:List Nat} {n k j:Nat} (hj:j < is.length):(isx is n k).getD j 0 = is.getD j 0:=by
 simp only [isx,List.getD_eq_getElem?_getD]
 rw [List.getElem?_append_left hj]
theorem QdG {is:List Nat} {n k j:Nat} (hj:j < k):(isx is n k).getD (is.length + j) 0 = n + j:=by
 simp only [isx,List.getD_eq_getElem?_getD]
 rw [List.getElem?_append_right (by omega),Nat.add_sub_cancel_left,List.getElem?_map,List.getElem?_range hj]; rfl
theorem Q2E (is:List Nat) (h:∀ a b,a < b → b < is.length → is.getD a 0 < is.getD b 0):is.Nodup:=by
 refine List.pairwise_iff_getElem.2 fun a b ha hb hab he=>?_
 have:=h a b hab hb
 simp only [List.getD_eq_getElem?_getD,List.getElem?_eq_getElem ha,List.getElem?_eq_getElem hb,Option.getD_some] at this
 omega
mutual
theorem Q6B {K K2:KW} {is:List Nat} {m:Nat} (hi:K2.imm = K.imm) (hb:∀ j,j < m → ∀ b,K.blk j = some b → K2.blk (is.getD j 0) = some b):∀ {x:AV} {v:Value},x.small m = true → Den K x v → Den K2 (x.ren is) v
 | .dat d,v,_,h=>by cases h with | dat h=>exact .dat (by rw [hi]; exact h)
 | .ptr none,v,_,h=>by cases h; exact .pnil
 | .ptr (some (j,o)),v,hs,h=>by
  simp only [AV.small,decide_eq_true_eq] at hs
  cases h with | ptr _ _ b h=>exact .ptr _ o b (hb j hs b h)
 | .nilFunc,v,_,h=>by cases h; exact .nilFunc
 | .nilIface,v,_,h=>by cases h; exact .nilIface
 | .func fn a c,v,hs,h=>by
  simp only [AV.small,Bool.and_eq_true] at hs
  cases h with
  | func _ _ _ va vc hla ha hlc hc =>
   have h1:=Q0y hi hb hs.1 (DenL.of_index hla ha)
   have h2:=Q0y hi hb hs.2 (DenL.of_index hlc hc)
   exact .func fn _ _ va vc h1.length h1.index h2.length h2.index
 | .tuple vs,v,hs,h=>by
  simp only [AV.small] at hs
  cases h with
  | tuple _ va hla ha =>
   have h1:=Q0y hi hb hs (DenL.of_index hla ha)
   exact .tuple _ va h1.length h1.index
theorem Q0y {K K2:KW} {is:List Nat} {m:Nat} (hi:K2.imm = K.imm) (hb:∀ j,j < m → ∀ b,K.blk j = some b → K2.blk (is.getD j 0) = some b):∀ {xs:List AV} {vs:List Value},smallL m xs = true → DenL K xs vs → DenL K2 (renL is xs) vs
 | [],vs,_,h=>by cases h; exact .nil
 | x :: r,vs,hs,h=>by
  simp only [smallL,Bool.and_eq_true] at hs
  simp only [renL]
  cases h with
  | cons h1 h2=>exact .cons (Q6B hi hb hs.1 h1) (Q0y hi hb hs.2 h2)
end
mutual
theorem Qby {is:List Nat} {m j:Nat} (hm:∀ a,a ≤ j → is.getD a 0 ≤ is.getD j 0):∀ {x:AV},x.small m = true → x.under (j + 1) = true → (x.ren is).under (is.getD j 0 + 1) = true
 | .dat d,_,_=>rfl
 | .ptr none,_,_=>rfl
 | .ptr (some (i,o)),_,hu=>by
  simp only [AV.under,decide_eq_true_eq] at hu
  simp only [AV.ren,AV.under,decide_eq_true_eq]
  have:=hm i (by omega); omega
 | .nilFunc,_,_=>rfl
 | .nilIface,_,_=>rfl
 | .func fn a c,hs,hu=>by
  simp only [AV.small,Bool.and_eq_true] at hs
  simp only [AV.under,Bool.and_eq_true] at hu
  simp only [AV.ren,AV.under,Bool.and_eq_true]
  exact ⟨Zz hm hs.1 hu.1,Zz hm hs.2 hu.2⟩
 | .tuple vs,hs,hu=>by
  simp only [AV.small] at hs
  simp only [AV.under] at hu
  simp only [AV.ren,AV.under]
  exact Zz hm hs hu
theorem Zz {is:List Nat} {m j:Nat} (hm:∀ a,a ≤ j → is.getD a 0 ≤ is.getD j 0):∀ {xs:List AV},smallL m xs = true → undersL (j + 1) xs = true → undersL (is.getD j 0 + 1) (renL is xs) = true
 | [],_,_=>rfl
 | x :: r,hs,hu=>by
  simp only [smallL,Bool.and_eq_true] at hs
  simp only [undersL,Bool.and_eq_true] at hu
  simp only [renL,undersL,Bool.and_eq_true]
  exact ⟨Qby hm hs.1 hu.1,Zz hm hs.2 hu.2⟩
end
mutual
theorem Q5N {n:Nat}:∀ {x:AV},x.small n = true → x.under n = true
 | .dat d,_=>rfl
 | .ptr none,_=>rfl
 | .ptr (some (i,o)),h=>h
 | .nilFunc,_=>rfl
 | .nilIface,_=>rfl
 | .func fn a c,h=>by
  simp only [AV.small,Bool.and_eq_true] at h
  simp only [AV.under,Bool.and_eq_true]
  exact ⟨Yd h.1,Yd h.2⟩
 | .tuple vs,h=>by
  simp only [AV.small] at h
  simp only [AV.under]; exact Yd h
theorem Yd {n:Nat}:∀ {xs:List AV},smallL n xs = true → undersL n xs = true
 | [],_=>rfl
 | x :: r,h=>by
  simp only [smallL,Bool.and_eq_true] at h
  simp only [undersL,Bool.and_eq_true]; exact ⟨Q5N h.1,Yd h.2⟩
end
mutual
theorem Q7u {n m:Nat} (hn:n ≤ m):∀ {x:AV},x.small n = true → x.small m = true
 | .dat d,_=>rfl
 | .ptr none,_=>rfl
 | .ptr (some (i,o)),h=>by simp only [AV.small,decide_eq_true_eq] at h ⊢; omega
 | .nilFunc,_=>rfl
 | .nilIface,_=>rfl
 | .func fn a c,h=>by
  simp only [AV.small,Bool.and_eq_true] at h ⊢
  exact ⟨YH hn h.1,YH hn h.2⟩
 | .tuple vs,h=>by simp only [AV.small] at h ⊢; exact YH hn h
theorem YH {n m:Nat} (hn:n ≤ m):∀ {xs:List AV},smallL n xs = true → smallL m xs = true
 | [],_=>rfl
 | x :: r,h=>by
  simp only [smallL,Bool.and_eq_true] at h ⊢
  exact ⟨Q7u hn h.1,YH hn h.2⟩
end
theorem Q2U {K':KW} {w':World} {ow':Nat → Option OKey} {id i ver n:Nat} {c:AV} (hc:c.small n = true):CellOk K' w' ow' id i ver c:=by
 cases c <;> first | trivial | exact nomatch hc
theorem Q3K {K':KW} {w':World} {ow':Nat → Option OKey} {id i ver n:Nat} {is:List Nat} {cs:List AV} {c:AV} (hs:smallL n cs = true) (hc:(renL is cs)[i]? = some c):CellOk K' w' ow' id i ver c:=by
 rw [Qc8,List.getElem?_map,Option.map_eq_some_iff] at hc
 obtain ⟨x,h1,rfl⟩:=hc
 have:=Q2T hs h1
 cases x with
 | ptr o=>cases o <;> trivial
 | _=>first | trivial | exact nomatch this
structure SeenG (is isn:List Nat) (j:Nat) (o s s' o':Option AObj):Prop where
 ex:∃ e cs ver c0 e' c',o = some (.cells e cs ver) ∧ s = some (.cells e c0 0) ∧ s' = some (.cells e' c' 0) ∧ o' = some (.cells e' (renL isn c') ver) ∧ cs.map sealC = renL is c0 ∧ smallL (j + 1) c0 = true ∧ smallL isn.length c' = true
theorem CallE.frameG {P:Program} {f:FuncId} {args:List AV} {hs hs' os news h:Heap} {v:AV} {is:List Nat} (hc:CallE P f args hs v hs') (hsort:∀ a b,a < b → b < is.length → is.getD a 0 < is.getD b 0) (hl:hs.length = is.length) (hl':hs'.length = is.length + news.length) (hlo:os.length = is.length)
  (hsm:smallL is.length args = true) (hv:v.small (is.length + news.length) = true)
  (hin:∀ j,j < is.length → ∃ o s s' o',h[is.getD j 0]? = some o ∧ hs[j]? = some s ∧ hs'[j]? = some s' ∧ os[j]? = some o' ∧ SeenG is (isx is h.length news.length) j o s s' o')
  (hnew:∀ j,j < news.length → ∃ e c,hs'[is.length + j]? = some (some (.cells e c 0)) ∧ smallL (is.length + news.length) c = true ∧ news[j]? = some (some (.cells e (renL (isx is h.length news.length) c) 0))) :
  Call1 P f (renL is args) h (v.ren (isx is h.length news.length)) (putB is os h ++ news):=by
 refine ⟨by rw [List.length_append,Hs]; omega,fun K HF V w vargs hargs hk=>?_⟩
 have hnd:is.Nodup:=Q2E is hsort
 have hlt:∀ i ∈ is,i < h.length:=fun i hi=>by
  obtain ⟨j,hj,rfl⟩:=List.getElem_of_mem hi
  obtain ⟨o,_,_,_,h1,_⟩:=hin j hj
  rw [List.getD_eq_getElem?_getD,List.getElem?_eq_getElem hj,Option.getD_some] at h1
  exact Qi h1
 obtain ⟨ow,hok⟩:=hk.ok
 have hbox:∀ j,j < is.length → ∃ e cs cs0 ver b vs e' cs',hs[j]? = some (some (.cells e cs 0)) ∧ smallL (j + 1) cs = true ∧ BoxOk K w ow (is.getD j 0) e cs0 ver b vs ∧ DenL K (renL is cs) vs.toList ∧
   h[is.getD j 0]? = some (some (.cells e cs0 ver)) ∧ hs'[j]? = some (some (.cells e' cs' 0)) ∧ os[j]? = some (some (.cells e' (renL (isx is h.length news.length) cs') ver)) ∧ smallL (is.length + news.length) cs' = true:=fun j hj=>by
  obtain ⟨o,s,s',o',h1,h2,h3,h4,e,cs,ver,c0,e',cs',rfl,rfl,rfl,rfl,h5,h6,h7⟩:=hin j hj
  have hlx:(isx is h.length news.length).length = is.length + news.length:=by simp [isx]
  rw [hlx] at h7
  obtain ⟨b,vs,hb⟩:=hok.box (is.getD j 0) e cs ver (Qe h1)
  exact ⟨e,c0,cs,ver,b,vs,e',cs',h2,h6,hb,by have:=JS (fun _ _=>Zi) hb.den; rwa [h5] at this,h1,h3,h4,h7⟩
 let isB:Nat → Prop:=fun b=>∃ j,j < is.length ∧ K.blk (is.getD j 0) = some b
 let K2:KW:={ base:=⟨w,fun b=>b < w.heap.size ∧ ¬ isB b,fun b hb=>hb.1⟩,imm:=K.imm,blk:=fun j=>if j < is.length then K.blk (is.getD j 0) else none,key:=fun _=>none,row:=fun _ _=>none }
 let ow2:Nat → Option OKey:=fun b=>match ow b with
  | some (.box i)=>if i ∈ is ∧ K.blk i = some b then some (.box (is.idxOf i)) else none
  | _=>none
 have hgi:∀ j,j < is.length → is.idxOf (is.getD j 0) = j:=fun j hj=>by
  rw [List.getD_eq_getElem?_getD,List.getElem?_eq_getElem hj,Option.getD_some]
  exact hnd.idxOf_getElem j hj
 have hmem:∀ j,j < is.length → is.getD j 0 ∈ is:=fun j hj=>by
  rw [List.getD_eq_getElem?_getD,List.getElem?_eq_getElem hj,Option.getD_some]
  exact List.getElem_mem _
 have hfit:Fit K2 hs (fun _=>none) (fun i=>is.length ≤ i) w:=by
  refine ⟨⟨ow2,hok.imm,BelowB.refl _,fun id e cs ver hid=>?_,fun id e n sz hid=>?_,fun id e n sz hid=>?_,fun id hid=>?_,fun id e cs ver _ off v _=>rfl,fun b k hb=>?_,fun id o hid ho=>?_,fun id _ v=>rfl⟩,fun i o hi=>(by cases hi),fun i hi=>(by omega)⟩
  ·have hid2:hs[id]? = some (some (.cells e cs ver)):=by
    simp only [comb] at hid
    split at hid
    ·rename_i o ho; rw [ho]; cases hid; rfl
    ·cases hid
    ·cases hid
   have hj:id < is.length:=by rw [← hl]; exact Qi hid2
   obtain ⟨e',cs',cs0,ver',b,vs,_,_,g1,g2,g3,g4,_⟩:=hbox id hj
   rw [hid2] at g1; cases g1
   refine ⟨b,vs,?_,?_,?_,g3.heap,g3.imm,Zn (K:=K) (K2:=K2) (m:=is.length) rfl (fun j hj=>by show (if j < is.length then K.blk (is.getD j 0) else none) = _; rw [if_pos hj]) (YH (by omega) g2) g4,fun i c hc=>Q2U (Q2T g2 hc),Yd g2⟩
   ·show (if id < is.length then K.blk (is.getD id 0) else none) = some b
    rw [if_pos hj]; exact g3.blk
   ·show (match ow b with | some (.box i)=>if i ∈ is ∧ K.blk i = some b then some (.box (is.idxOf i)) else none | _=>none) = some (OKey.box id)
    rw [g3.own]
    simp only [hmem id hj,g3.blk,and_self,if_true,hgi id hj]
   ·exact fun hold=>hold.2 ⟨id,hj,g3.blk⟩
  ·have:hs[id]? = some (some (.tip e n sz)):=by
    simp only [comb] at hid
    split at hid
    ·rename_i o ho; rw [ho]; cases hid; rfl
    ·cases hid
    ·cases hid
   obtain ⟨_,_,_,_,_,_,_,_,g1,_⟩:=hbox id (by rw [← hl]; exact Qi this)
   rw [this] at g1; cases g1
  ·have:hs[id]? = some (some (.tip e n sz)):=by
    simp only [comb] at hid
    split at hid
    ·rename_i o ho; rw [ho]; cases hid; rfl
    ·cases hid
    ·cases hid
   obtain ⟨_,_,_,_,_,_,_,_,g1,_⟩:=hbox id (by rw [← hl]; exact Qi this)
   rw [this] at g1; cases g1
  ·refine ⟨?_,?_,fun _=>rfl,fun _ _=>rfl⟩
   ·simp only [comb]; rw [List.getElem?_eq_none (by omega)]
   ·show (if id < is.length then _ else none) = none
    rw [if_neg (by omega)]
  ·have:∃ k',ow b = some k':=by
    cases hob:ow b with
    | none=>simp [ow2,hob] at hb
    | some k'=>exact ⟨k',rfl⟩
   obtain ⟨k',hk'⟩:=this
   exact hok.own b k' hk'
  ·have:hs[id]? = some (some o):=by
    simp only [comb] at hid
    split at hid
    ·rename_i o ho; rw [ho]; cases hid; rfl
    ·cases hid
    ·cases hid
   obtain ⟨_,_,_,_,_,_,_,_,g1,_⟩:=hbox id (by rw [← hl]; exact Qi this)
   rw [this] at g1; cases g1; cases ho
 have hargs2:DenL K2 args vargs.toList:=Zn (K:=K) (K2:=K2) (m:=is.length) rfl (fun j hj=>by show (if j < is.length then K.blk (is.getD j 0) else none) = _; rw [if_pos hj]) hsm hargs
 have h3:=hc K2 (fun _=>none) (fun i=>is.length ≤ i) w vargs hargs2 hfit
 refine CallGives.mono h3 fun u w' hr=>?_
 obtain ⟨K',hh,ehh,e1,e2,e3⟩:=hr
 obtain ⟨ow',hok'⟩:=e3.ok
 have hbel:BelowB K2.base w':=by have:=hok'.below; rwa [e1.base] at this
 have hown:∀ b,isB b → ∃ j,j < is.length ∧ ow b = some (.box (is.getD j 0)) ∧ ¬ K.base.old b:=fun b ⟨j,hj,hb⟩=>by
  obtain ⟨e,cs,cs0,ver,b',vs,_,_,g1,g2,g3,_⟩:=hbox j hj
  have:b' = b:=by have:=g3.blk; rw [hb] at this; exact (Option.some.inj this).symm
  subst this
  exact ⟨j,hj,g3.own,g3.base⟩
 have hold:∀ b,b < w.heap.size → ¬ isB b → K2.base.old b:=fun b h1 h2=>⟨h1,h2⟩
 have hsame:∀ b,b < w.heap.size → ¬ isB b → w'.heap[b]? = w.heap[b]?:=fun b h1 h2=>hbel.block b (hold b h1 h2)
 have himm:∀ b,b < w.heap.size → ¬ isB b → ∀ off sp,K'.imm ⟨b,off,sp⟩ = K.imm ⟨b,off,sp⟩:=fun b h1 h2 off sp=>e1.old ⟨b,off,sp⟩ (hold b h1 h2)
 let K3:KW:={ K with imm:=K'.imm,blk:=fun i=>if h.length ≤ i ∧ i < h.length + news.length then K'.blk (is.length + (i - h.length)) else K.blk i }
 have hvir:∀ i,h.length ≤ i → K.blk i = none ∧ (∀ n,K.key (.tip i n) = none) ∧ ∀ off v,K.key (.at i off v) = none:=fun i hi=>(hok.fresh i (hk.vlen i hi)).2
 have hext:Kext K K3:=⟨rfl,e1.imm,fun i b hb=>by
  show (if h.length ≤ i ∧ i < h.length + news.length then _ else K.blk i) = some b
  rw [if_neg (fun hc=>by rw [(hvir i hc.1).1] at hb; cases hb)]; exact hb,fun _ _ h=>h,fun a ha=>by
  refine e1.old a (hold _ (Nat.lt_of_lt_of_le (K.base.lt _ ha) hok.below.size) fun hb=>?_)
  obtain ⟨j,hj,_,hno⟩:=hown _ hb
  exact hno ha,fun _ _ _ h=>h⟩
 have hgx:∀ j,j < is.length → (isx is h.length news.length).getD j 0 = is.getD j 0:=fun j hj=>Qiv hj
 have hgn:∀ j,j < news.length → (isx is h.length news.length).getD (is.length + j) 0 = h.length + j:=fun j hj=>QdG hj
 have hislt:∀ j,j < is.length → is.getD j 0 < h.length:=fun j hj=>hlt _ (hmem j hj)
 have hblk3:∀ j,j < is.length + news.length → ∀ b,K'.blk j = some b → K3.blk ((isx is h.length news.length).getD j 0) = some b:=fun j hj b hb=>by
  rcases Nat.lt_or_ge j is.length with hj2 | hj2
  ·rw [hgx j hj2]
   obtain ⟨e,cs,cs0,ver,b',vs,_,_,g1,g2,g3,_⟩:=hbox j hj2
   have h1:K2.blk j = some b':=by show (if j < is.length then K.blk (is.getD j 0) else none) = some b'; rw [if_pos hj2]; exact g3.blk
   have h2:=e1.blk j b' h1
   rw [hb] at h2
   show (if h.length ≤ is.getD j 0 ∧ is.getD j 0 < h.length + news.length then _ else K.blk (is.getD j 0)) = some b
   rw [if_neg (fun hc=>by have:=hislt j hj2; omega),g3.blk,h2]
  ·obtain ⟨i,rfl⟩:∃ i,j = is.length + i:=⟨j - is.length,by omega⟩
   rw [hgn i (by omega)]
   show (if h.length ≤ h.length + i ∧ h.length + i < h.length + news.length then K'.blk (is.length + (h.length + i - h.length)) else _) = some b
   rw [if_pos ⟨by omega,by omega⟩,Nat.add_sub_cancel_left]; exact hb
 have hfree:∀ r n k,Free K w r n → ow r.b = some k → ¬ isB r.b → Free K3 w' r n:=fun r n k hf hb hn=>by
  have hlt:=hok.own _ _ hb
  obtain ⟨vs,lo,hi,g1,g2⟩:=hf.blk
  exact ⟨⟨vs,lo,hi,by rw [hsame _ hlt hn]; exact g1,g2⟩,fun off sp ho=>by show K'.imm _ = none; rw [himm _ hlt hn]; exact hf.imm off sp ho,hf.base⟩
 have hplen:(putB is os h).length = h.length:=Hs is os h
 have hputlow:∀ id,id < h.length → (putB is os h ++ news)[id]? = (putB is os h)[id]?:=fun id hid=>List.getElem?_append_left (by omega)
 have hput:∀ id,id ∉ is → id < h.length → comb (putB is os h ++ news) HF id = comb h HF id:=fun id hid hl=>by
  simp only [comb,hputlow id hl,Zw is os h id hid]
 have hputm:∀ j,j < is.length → ∀ o,os[j]? = some (some o) → comb (putB is os h ++ news) HF (is.getD j 0) = some o:=fun j hj o ho =>
  Qe (by rw [hputlow _ (hislt j hj),Q6D is os h hnd (by omega) hlt j hj,ho])
 have hputn:∀ j,j < news.length → (putB is os h ++ news)[h.length + j]? = news[j]?:=fun j hj=>by
  rw [List.getElem?_append_right (by omega),hplen,Nat.add_sub_cancel_left]
 have hnone:∀ id,h.length + news.length ≤ id → comb (putB is os h ++ news) HF id = none:=fun id hid=>by
  simp only [comb]; rw [List.getElem?_eq_none (by rw [List.length_append,hplen]; exact hid)]
 have hidx:∀ {id:Nat},id ∈ is → ∃ j,j < is.length ∧ is.getD j 0 = id:=fun {id} hm=>by
  obtain ⟨j,hj,rfl⟩:=List.getElem_of_mem hm
  exact ⟨j,hj,by rw [List.getD_eq_getElem?_getD,List.getElem?_eq_getElem hj,Option.getD_some]⟩
 have hnotB:∀ b k,ow b = some k → (∀ i ∈ is,k ≠ .box i) → ¬ isB b:=fun b k hb hk hB=>by
  obtain ⟨j,hj,h1,_⟩:=hown b hB
  rw [hb] at h1
  exact hk _ (hmem j hj) (Option.some.inj h1)
 let ow3:Nat → Option OKey:=fun b=>match ow b with
  | some k=>some k
  | none=>match ow' b with
   | some (.box j)=>if is.length ≤ j ∧ j < is.length + news.length then some (.box (h.length + (j - is.length))) else none
   | _=>none
 have how3:∀ b k,ow b = some k → ow3 b = some k:=fun b k hb=>by simp only [ow3,hb]
 have hcellm:∀ {id i ver:Nat} {c:AV},CellOk K w ow id i ver c → CellOk K3 w' ow3 id i ver c:=fun {id i ver c} hc =>
  hc.mono hext (Nat.le_refl _) fun r n v hf ho=>⟨hfree r n _ hf ho (hnotB _ _ ho fun _ _ e=>by cases e),how3 _ _ ho⟩
 have hsealed:∀ {j:Nat} {e:TypeId} {cs:List AV},hs'[j]? = some (some (.cells e cs 0)) → ∃ csh verh,hh[j]? = some (some (.cells e csh verh)) ∧ csh.map sealC = cs:=fun {j e cs} q1=>by
  rw [← ehh,List.getElem?_map] at q1
  cases hx:hh[j]? with
  | none=>rw [hx] at q1; cases q1
  | some x =>
   rw [hx] at q1
   cases x with
   | none=>simp [sealB] at q1
   | some x=>cases x <;> simp [sealB] at q1; exact ⟨_,_,by rw [q1.1],q1.2⟩
 have hdenr:∀ {cs:List AV} {vs:List Value},smallL (is.length + news.length) cs = true → DenL K' cs vs → DenL K3 (renL (isx is h.length news.length) cs) vs:=fun {cs vs} hs hd =>
  Q0y (K:=K') (K2:=K3) rfl hblk3 hs hd
 have hmono:∀ a b,a ≤ b → b < is.length + news.length → (isx is h.length news.length).getD a 0 ≤ (isx is h.length news.length).getD b 0:=fun a b hab hb=>by
  rcases Nat.lt_or_ge b is.length with h1 | h1
  ·rw [hgx a (by omega),hgx b h1]
   rcases Nat.lt_or_ge a b with h2 | h2
   ·exact Nat.le_of_lt (hsort a b h2 h1)
   ·have:a = b:=by omega
    rw [this]; exact Nat.le_refl _
  ·obtain ⟨j,rfl⟩:∃ j,b = is.length + j:=⟨b - is.length,by omega⟩
   rw [hgn j (by omega)]
   rcases Nat.lt_or_ge a is.length with h2 | h2
   ·rw [hgx a h2]; have:=hislt a h2; omega
   ·obtain ⟨i,rfl⟩:∃ i,a = is.length + i:=⟨a - is.length,by omega⟩
    rw [hgn i (by omega)]; omega
 have hlenb:(putB is os h ++ news).length = h.length + news.length:=by rw [List.length_append,hplen]
 refine ⟨K3,hext,?_,⟨ow3,hok'.imm,?_,fun id e cs ver hid=>?_,fun id e n sz hid=>?_,fun id e n sz hid=>?_,fun id hid=>?_,fun id e cs ver hid=>?_,fun b k hb=>?_,fun id o hid ho=>?_,fun id hid=>hok.freshr id hid.1⟩,fun i o hi=>?_,fun i hi=>⟨hk.vlen i (by rw [hlenb] at hi; omega),(by intro e; cases e),Or.inr hi⟩⟩
 ·exact Q6B (K:=K') (K2:=K3) rfl hblk3 hv e2
 ·exact hok.below.trans (.inr ⟨hbel.os,hbel.tape,hbel.output,hbel.size,fun k hk1=>hsame k (Nat.lt_of_lt_of_le (K.base.lt _ hk1) hok.below.size) fun hB=>by
   obtain ⟨j,hj,_,hno⟩:=hown _ hB
   exact hno hk1⟩)
 ·rcases Nat.lt_or_ge id h.length with hidl | hidl
  ·by_cases hm:id ∈ is
   ·obtain ⟨j,hj,rfl⟩:=hidx hm
    obtain ⟨e0,cs1,cs0,ver0,b0,vs0,e',cs',g1,g2,g3,_,_,q1,q2,q4⟩:=hbox j hj
    rw [hputm j hj _ q2] at hid; cases hid
    obtain ⟨csh,verh,q5,q6⟩:=hsealed q1
    obtain ⟨b1,vs1,g4⟩:=hok'.box j e csh verh (Qe q5)
    have hb:b1 = b0:=by
     have h1:K2.blk j = some b0:=by show (if j < is.length then K.blk (is.getD j 0) else none) = some b0; rw [if_pos hj]; exact g3.blk
     have h2:=e1.blk j b0 h1
     rw [g4.blk] at h2; exact Option.some.inj h2
    subst hb
    have hden:=JS (fun _ _=>Zi) g4.den
    rw [q6] at hden
    have hund:=ZV g4.under
    rw [q6] at hund
    refine ⟨b1,vs1,hext.blk _ _ g3.blk,how3 _ _ g3.own,g3.base,g4.heap,g4.imm,hdenr q4 hden,fun i c hc=>Q3K q4 hc,?_⟩
    have:=Zz (is:=isx is h.length news.length) (m:=is.length + news.length) (j:=j) (fun a ha=>hmono a j ha (by omega)) q4 hund
    rwa [hgx j hj] at this
   ·rw [hput id hm hidl] at hid
    obtain ⟨b,vs,g3⟩:=hok.box id e cs ver hid
    have hlb:=hok.own _ _ g3.own
    have hnb:=hnotB b _ g3.own fun i hi e=>hm (by cases e; exact hi)
    exact ⟨b,vs,hext.blk _ _ g3.blk,how3 _ _ g3.own,g3.base,by rw [hsame b hlb hnb]; exact g3.heap,fun off sp=>by show K'.imm _ = none; rw [himm b hlb hnb]; exact g3.imm off sp,g3.den.mono hext,fun i c hc=>hcellm (g3.cell i c hc),g3.under⟩
  ·obtain ⟨j,rfl⟩:∃ j,id = h.length + j:=⟨id - h.length,by omega⟩
   have hjn:j < news.length:=by
    rcases Nat.lt_or_ge j news.length with h1 | h1
    ·exact h1
    ·rw [hnone _ (by omega)] at hid; cases hid
   obtain ⟨e',c,q1,q2,q3⟩:=hnew j hjn
   rw [Qe (by rw [hputn j hjn]; exact q3)] at hid; cases hid
   obtain ⟨csh,verh,q5,q6⟩:=hsealed q1
   obtain ⟨b1,vs1,g4⟩:=hok'.box (is.length + j) e csh verh (Qe q5)
   have hnew1:¬ b1 < w.heap.size:=fun hb=>by
    by_cases hB:isB b1
    ·obtain ⟨i,hi,hbi⟩:=hB
     obtain ⟨e0,cs1,cs0,ver0,b0,vs0,e'',cs'',g1,g2,g3,_,_,p1,p2,p4⟩:=hbox i hi
     have h1:K2.blk i = some b0:=by show (if i < is.length then K.blk (is.getD i 0) else none) = some b0; rw [if_pos hi]; exact g3.blk
     have h2:=e1.blk i b0 h1
     obtain ⟨csi,veri,p5,p6⟩:=hsealed p1
     obtain ⟨bi,vsi,gi⟩:=hok'.box i e'' csi veri (Qe p5)
     have e2:bi = b0:=by have:=gi.blk; rw [h2] at this; exact (Option.some.inj this).symm
     have e3:b1 = b0:=by have:=g3.blk; rw [hbi] at this; exact Option.some.inj this
     have h5:=gi.own
     rw [e2,← e3,g4.own] at h5
     cases h5
     omega
    ·have:=g4.base
     rw [e1.base] at this
     exact this ⟨hb,hB⟩
   have howb:ow b1 = none:=by
    cases hob:ow b1 with
    | none=>rfl
    | some k=>exact (hnew1 (hok.own b1 k hob)).elim
   have hden:=JS (fun _ _=>Zi) g4.den
   rw [q6] at hden
   have hund:=ZV g4.under
   rw [q6] at hund
   refine ⟨b1,vs1,?_,?_,fun hbo=>hnew1 (Nat.lt_of_lt_of_le (K.base.lt _ hbo) hok.below.size),g4.heap,g4.imm,hdenr q2 hden,fun i c hc=>Q3K q2 hc,?_⟩
   ·have:=hblk3 (is.length + j) (by omega) b1 g4.blk
    rwa [hgn j hjn] at this
   ·simp only [ow3,howb,g4.own]
    rw [if_pos ⟨by omega,by omega⟩,Nat.add_sub_cancel_left]
   ·have:=Zz (is:=isx is h.length news.length) (m:=is.length + news.length) (j:=is.length + j) (fun a ha=>hmono a _ ha (by omega)) q2 hund
    rwa [hgn j hjn] at this
 ·rcases Nat.lt_or_ge id h.length with hidl | hidl
  ·by_cases hm:id ∈ is
   ·obtain ⟨j,hj,rfl⟩:=hidx hm
    obtain ⟨_,_,_,_,_,_,_,_,_,_,_,_,_,_,q2,_⟩:=hbox j hj
    rw [hputm j hj _ q2] at hid; cases hid
   ·rw [hput id hm hidl] at hid
    obtain ⟨r,h1,h2,h3,h4,h5⟩:=hok.tip id e n sz hid
    exact ⟨r,h1,h2,h3,hfree r n _ h4 h5 (hnotB _ _ h5 fun _ _ e=>by cases e),how3 _ _ h5⟩
  ·obtain ⟨j,rfl⟩:∃ j,id = h.length + j:=⟨id - h.length,by omega⟩
   rcases Nat.lt_or_ge j news.length with hjn | hjn
   ·obtain ⟨e',c,q1,q2,q3⟩:=hnew j hjn
    rw [Qe (by rw [hputn j hjn]; exact q3)] at hid; cases hid
   ·rw [hnone _ (by omega)] at hid; cases hid
 ·rcases Nat.lt_or_ge id h.length with hidl | hidl
  ·by_cases hm:id ∈ is
   ·obtain ⟨j,hj,rfl⟩:=hidx hm
    obtain ⟨_,_,_,_,_,_,_,_,_,_,_,_,_,_,q2,_⟩:=hbox j hj
    rw [hputm j hj _ q2] at hid; cases hid
   ·rw [hput id hm hidl] at hid
    exact hok.more id e n sz hid
  ·exact fun n' _=>(hvir id hidl).2.1 n'
 ·have hfr:=hok.fresh id hid.1
  have hid3:=hid.2.2
  rw [hlenb] at hid3
  refine ⟨?_,?_,hfr.2.2⟩
  ·rcases hid3 with hid3 | hid3
   ·have hm:id ∉ is:=fun hm=>by
     obtain ⟨j,hj,rfl⟩:=hidx hm
     obtain ⟨_,_,_,_,_,_,_,_,_,_,g3,_⟩:=hbox j hj
     have:=hfr.2.1
     rw [g3.blk] at this; cases this
    rw [hput id hm hid3]; exact hfr.1
   ·exact hnone id hid3
  ·show (if h.length ≤ id ∧ id < h.length + news.length then _ else K.blk id) = none
   rw [if_neg (by omega)]; exact hfr.2.1
 ·rcases Nat.lt_or_ge id h.length with hidl | hidl
  ·by_cases hm:id ∈ is
   ·intro off v hvle
    obtain ⟨j,hj,rfl⟩:=hidx hm
    obtain ⟨e0,cs1,cs0,ver0,b0,vs0,e',cs',g1,g2,g3,_,q0,q1,q2,q4⟩:=hbox j hj
    rw [hputm j hj _ q2] at hid; cases hid
    exact hok.ver _ _ _ _ (Qe q0) off v hvle
   ·rw [hput id hm hidl] at hid
    exact hok.ver id e cs ver hid
  ·exact fun off v _=>(hvir id hidl).2.2 off v
 ·cases hob:ow b with
  | some k'=>exact Nat.lt_of_lt_of_le (hok.own b k' hob) hbel.size
  | none =>
   cases hob':ow' b with
   | some k'=>exact hok'.own b k' hob'
   | none=>simp [ow3,hob,hob'] at hb
 ·rcases Nat.lt_or_ge id h.length with hidl | hidl
  ·by_cases hm:id ∈ is
   ·obtain ⟨j,hj,rfl⟩:=hidx hm
    obtain ⟨_,_,_,_,_,_,_,_,_,_,_,_,_,_,q2,_⟩:=hbox j hj
    rw [hputm j hj _ q2] at hid; cases hid; cases ho
   ·rw [hput id hm hidl] at hid
    refine (hok.fr id o hid ho).mono hext (fun _=>rfl) fun b hb=>?_
    have hlb:=hok.own _ _ hb
    have hnb:=hnotB b _ hb fun _ _ e=>by cases e
    exact ⟨hsame b hlb hnb,how3 _ _ hb,fun off sp h=>by show K'.imm _ = none; rw [himm b hlb hnb]; exact h⟩
  ·obtain ⟨j,rfl⟩:∃ j,id = h.length + j:=⟨id - h.length,by omega⟩
   rcases Nat.lt_or_ge j news.length with hjn | hjn
   ·obtain ⟨e',c,q1,q2,q3⟩:=hnew j hjn
    rw [Qe (by rw [hputn j hjn]; exact q3)] at hid; cases hid; cases ho
   ·rw [hnone _ (by omega)] at hid; cases hid
 ·have hil:i < h.length:=by
   rcases Nat.lt_or_ge i h.length with h1 | h1
   ·exact h1
   ·have:=hk.hf i o hi; rw [List.getElem?_eq_none h1] at this; cases this
  have hm:i ∉ is:=fun hm=>by
   obtain ⟨j,hj,rfl⟩:=hidx hm
   obtain ⟨_,_,_,_,_,_,_,_,_,_,_,_,q0,_⟩:=hbox j hj
   rw [hk.hf _ o hi] at q0; cases q0
  rw [hputlow i hil,Zw is os h i hm]; exact hk.hf i o hi
theorem CallE.frameG0 {P:Program} {f:FuncId} {args:List AV} {hs hs' os h:Heap} {v:AV} {is:List Nat} (hc:CallE P f args hs v hs') (hsort:∀ a b,a < b → b < is.length → is.getD a 0 < is.getD b 0) (hl:hs.length = is.length) (hl':hs'.length = is.length) (hlo:os.length = is.length)
  (hsm:smallL is.length args = true) (hv:v.plain = true)
  (hin:∀ j,j < is.length → ∃ o s s' o',h[is.getD j 0]? = some o ∧ hs[j]? = some s ∧ hs'[j]? = some s' ∧ os[j]? = some o' ∧ SeenG is is j o s s' o'):Call1 P f (renL is args) h v (putB is os h):=by
 have hx:isx is h.length ([]:Heap).length = is:=by simp [isx]
 have hp:∀ vs:List AV,vs.all AV.isDat = true → smallL (is.length + 0) vs = true ∧ renL is vs = vs:=fun vs hvs=>by
  induction vs with
  | nil=>exact ⟨rfl,rfl⟩
  | cons x r ih =>
   simp only [List.all_cons,Bool.and_eq_true] at hvs
   obtain ⟨i1,i2⟩:=ih hvs.2
   cases x <;> first | (have:=hvs.1; simp [AV.isDat] at this; done) | (simp only [smallL,renL,AV.small,AV.ren,i1,i2,Bool.and_self,and_self])
 have hv2:v.small (is.length + 0) = true ∧ v.ren is = v:=by
  cases v <;> first | (simp [AV.plain] at hv; done) | exact ⟨rfl,rfl⟩ | (rename_i vs; obtain ⟨i1,i2⟩:=hp vs hv; exact ⟨i1,congrArg AV.tuple i2⟩)
 have:=hc.frameG (news:=[]) hsort hl hl' hlo hsm hv2.1 (by rw [hx]; exact hin) (fun j hj=>by simp at hj)
 rw [hx,hv2.2,List.append_nil] at this
 exact this
end Go.Proofs.YtfdcjngclelnhaaGreat
