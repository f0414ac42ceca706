/- Part of a proof. -/
import Derived.Test.YtfdcjngclelnhaaGreatD10
set_option linter.unusedSectionVars false
set_option linter.unusedSimpArgs false
set_option linter.unusedVariables false
namespace Go.Proofs.YtfdcjngclelnhaaGreat
open Go Go.RowKit
variable [mode:Inhabited ModeT]
section
variable {P:Program} {K:KW} {w:World} {h:Heap} {HF:Nat → Option AObj} {V:Nat → Prop} {ow:Nat → Option OKey} {hc:Nat → Option AObj}
def freeOw (ow:Nat → Option OKey) (b:Nat):Nat → Option OKey:=fun x=>if x = b then none else ow x
theorem OkW.release (hk:OkW K hc V w ow) {b:Nat} {k0:OKey} (ho:ow b = some k0) {hc':Nat → Option AObj} (htip:∀ id e n sz,hc' id = some (.tip e n sz) → hc id = some (.tip e n sz) ∧ k0 ≠ .tip id)
  (hbox:∀ id e cs' ver,hc' id = some (.cells e cs' ver) → k0 ≠ .box id ∧ ∃ cs,hc id = some (.cells e cs ver) ∧ undersL (id + 1) cs' = true ∧ (∀ vs,DenL K cs vs → DenL K cs' vs) ∧ ∀ (i:Nat) (c:AV),cs'[i]? = some c → CellOk K w ow id i ver c → CellOk K w (freeOw ow b) id i ver c)
  (hcell:∀ id e cs cs' ver,hc id = some (.cells e cs ver) → hc' id = some (.cells e cs' ver) → ∀ (i:Nat) (c:AV),cs'[i]? = some c → CellOk K w ow id i ver c) (hnone:∀ id,hc id = none → hc' id = none) (hfr:∀ id o,hc' id = some o → o.isFr = true → hc id = some o ∧ k0 ≠ .fr id):OkW K hc' V w (freeOw ow b):=by
 have hkeep:∀ x k,ow x = some k → k ≠ k0 → freeOw ow b x = some k:=fun x k h1 h2=>by
  have:x ≠ b:=by rintro rfl; rw [ho] at h1; exact h2 (Option.some.inj h1).symm
  simp [freeOw,this,h1]
 refine ⟨hk.imm,hk.below,fun id e cs' ver hid=>?_,fun id e n sz hid=>?_,fun id e n sz hid=>?_,fun i hi=>?_,fun id e cs' ver hid=>?_,fun x k hx=>?_,fun id o hid ho=>?_,hk.freshr⟩
 ·obtain ⟨hk0,cs,h1,h2,h3,h4⟩:=hbox id e cs' ver hid
  obtain ⟨bb,vs,hb⟩:=hk.box id e cs ver h1
  exact ⟨bb,vs,hb.blk,hkeep _ _ hb.own (fun e=>hk0 e.symm),hb.base,hb.heap,hb.imm,h3 _ hb.den,fun i c hi=>h4 i c hi (hcell id e cs cs' ver h1 hid i c hi),h2⟩
 ·obtain ⟨h1,h2⟩:=htip id e n sz hid
  obtain ⟨r,g1,g2,g3,g4,g5⟩:=hk.tip id e n sz h1
  exact ⟨r,g1,g2,g3,g4,hkeep _ _ g5 (fun e=>h2 e.symm)⟩
 ·exact hk.more id e n sz (htip id e n sz hid).1
 ·obtain ⟨g1,g2⟩:=hk.fresh i hi
  exact ⟨hnone i g1,g2⟩
 ·obtain ⟨_,cs,h1,_⟩:=hbox id e cs' ver hid
  exact hk.ver id e cs ver h1
 ·simp only [freeOw] at hx
  split at hx
  ·exact nomatch hx
  ·exact hk.own x k hx
 ·obtain ⟨h1,h2⟩:=hfr id o hid ho
  exact (hk.fr id o h1 ho).mono (Kext.refl K) (fun _=>rfl) fun x hx=>⟨rfl,hkeep _ _ hx (fun e=>h2 e.symm),fun _ _ h=>h⟩
theorem OkW.releaseTip (hk:OkW K hc V w ow) {id:Nat} {b:Nat} (ho:ow b = some (.tip id)):OkW K (upd hc id none) V w (freeOw ow b):=by
 refine hk.release ho (fun i e n sz hi=>?_) (fun i e cs' ver hi=>?_) (fun i e cs cs' ver h1 h2 j c hj=>?_) (fun i hi=>?_) fun i o hi ho'=>?_
 ·by_cases hne:i = id
  ·subst hne; rw [Qk] at hi; exact nomatch hi
  ·rw [Qw hne] at hi; exact ⟨hi,fun e=>hne (OKey.tip.inj e).symm⟩
 ·by_cases hne:i = id
  ·subst hne; rw [Qk] at hi; exact nomatch hi
  ·rw [Qw hne] at hi
   refine ⟨(by intro e; cases e),cs',hi,?_,fun vs h=>h,fun j c hj hcc=>hcc.mono (Kext.refl K) (Nat.le_refl _) fun r n v hf ho'=>⟨hf,?_⟩⟩
   ·obtain ⟨bb,vs,hb⟩:=hk.box i e cs' ver hi
    exact hb.under
   ·have:r.b ≠ b:=by intro e; rw [e,ho] at ho'; exact nomatch ho'
    simp [freeOw,this,ho']
 ·by_cases hne:i = id
  ·subst hne; rw [Qk] at h2; exact nomatch h2
  ·rw [Qw hne,h1] at h2
   cases h2
   obtain ⟨bb,vs,hb⟩:=hk.box i e cs ver h1
   exact hb.cell j c hj
 ·by_cases hne:i = id
  ·subst hne; exact Qk _ _ _
  ·rw [Qw hne]; exact hi
 ·by_cases hne:i = id
  ·subst hne; rw [Qk] at hi; cases hi
  ·rw [Qw hne] at hi; exact ⟨hi,fun e=>nomatch e⟩
theorem Q5I {n:Nat} {x:AV} (hx:x.under n = true):∀ {cs:List AV} {i:Nat},undersL n cs = true → undersL n (cs.set i x) = true
 | [],_,h=>by simpa using h
 | c :: cs,0,h=>by simp [undersL] at h ⊢; exact ⟨hx,h.2⟩
 | c :: cs,i + 1,h=>by simp [undersL] at h ⊢; exact ⟨h.1,Q5I hx h.2⟩
theorem Qdx {cs:List AV} {vs:List Value} {i:Nat} {x y:AV} (h:DenL K cs vs) (hx:cs[i]? = some x) (hy:∀ v,Den K x v → Den K y v):DenL K (cs.set i y) vs:=by
 induction h generalizing i with
 | nil=>simp at hx
 | cons hd ht ih =>
  cases i with
  | zero=>simp at hx; subst hx; exact .cons (hy _ hd) ht
  | succ i=>exact .cons hd (ih (by simpa using hx))
theorem OkW.releaseAt (hk:OkW K hc V w ow) {id off v ver:Nat} {e e':TypeId} {cs:List AV} {es:List D} {b:Nat} (hid:hc id = some (.cells e cs ver)) (hcs:cs[off]? = some (.own (.at id off v e') es)) (ho:ow b = some (.at id off v)) :
  OkW K (upd hc id (some (.cells e (cs.set off (.dat (.slice es))) ver))) V w (freeOw ow b):=by
 have hoff:off < cs.length:=Qi hcs
 refine hk.release ho (fun i e2 n sz hi=>?_) (fun i e2 cs' ver' hi=>?_) (fun i e2 cs1 cs' ver' h1 h2 j c hj=>?_) (fun i hi=>?_) fun i o hi ho'=>?_
 ·by_cases hne:i = id
  ·subst hne; rw [Qk] at hi; cases hi
  ·rw [Qw hne] at hi; exact ⟨hi,by intro e; cases e⟩
 ·have hfree:∀ i (j:Nat) c,CellOk K w ow i j ver' c → (i = id → j ≠ off) → CellOk K w (freeOw ow b) i j ver' c:=fun i j c hcc hne=>hcc.mono (Kext.refl K) (Nat.le_refl _) fun r n v' hf ho'=>⟨hf,by
   have:r.b ≠ b:=by
    intro e3
    rw [e3,ho] at ho'
    cases ho'
    exact hne rfl rfl
   simp [freeOw,this,ho']⟩
  by_cases hne:i = id
  ·subst hne
   rw [Qk] at hi
   cases hi
   obtain ⟨bb,vs,hb⟩:=hk.box _ _ _ _ hid
   refine ⟨(by intro e; cases e),cs,hid,Q5I (by simp [AV.under]) hb.under,fun vs h=>Qdx h hcs (fun v hv=>.dat (Z0 hv)),fun j c hj hcc=>?_⟩
   rw [List.getElem?_set] at hj
   split at hj
   ·rename_i hj'
    subst hj'
    first
     | (rw [if_pos hoff] at hj; cases hj; trivial)
     | (cases hj; trivial)
   ·rename_i hj'
    exact hfree _ _ _ hcc (fun _ e=>hj' e.symm)
  ·rw [Qw hne] at hi
   obtain ⟨bb,vs,hb⟩:=hk.box _ _ _ _ hi
   exact ⟨(by intro e; cases e),cs',hi,hb.under,fun vs h=>h,fun j c hj hcc=>hfree _ _ _ hcc (fun e=>absurd e hne)⟩
 ·obtain ⟨bb,vs,hb⟩:=hk.box _ _ _ _ h1
  by_cases hne:i = id
  ·subst hne
   rw [Qk] at h2
   rw [hid] at h1
   cases h1
   cases h2
   rw [List.getElem?_set] at hj
   split at hj
   ·rename_i hj'
    subst hj'
    first
     | (rw [if_pos hoff] at hj; cases hj; trivial)
     | (cases hj; trivial)
   ·exact hb.cell j c hj
  ·rw [Qw hne,h1] at h2
   cases h2
   exact hb.cell j c hj
 ·by_cases hne:i = id
  ·subst hne; rw [hid] at hi; exact nomatch hi
  ·rw [Qw hne]; exact hi
 ·by_cases hne:i = id
  ·subst hne; rw [Qk] at hi; cases hi; cases ho'
  ·rw [Qw hne] at hi; exact ⟨hi,fun e=>nomatch e⟩
theorem OkW.claim (hk:OkW K hc V w ow) {id n:Nat} {r:KRow} (hid:hc id = none) (hnV:∀ i,V i → i ≠ id) (hkeys:∀ n',n ≤ n' → K.key (.tip id n') = none) (hf:Free K w r n) (hu:ow r.b = none) :
  ∃ ow',Kext K (withTip K id n r) ∧ OkW (withTip K id n r) (upd hc id (some (.tip r.e n r.sz))) V w ow':=by
 have hext:Kext K (withTip K id n r):=QcR (hkeys n (Nat.le_refl _))
 let ow':Nat → Option OKey:=fun b=>if b = r.b then some (.tip id) else ow b
 have hkeep:∀ b k,ow b = some k → ow' b = some k:=fun b k h1=>by
  have:b ≠ r.b:=by rintro rfl; rw [hu] at h1; exact nomatch h1
  simp [ow',this,h1]
 refine ⟨ow',hext,hk.imm,hk.below,fun id' e' cs ver hid'=>?_,fun id' e' n' sz' hid'=>?_,fun id' e' n' sz' hid'=>?_,fun i hi=>?_,fun id' e' cs ver hid'=>?_,fun b k hb=>?_,fun id' o hid' ho=>?_,hk.freshr⟩
 ·by_cases hi:id' = id
  ·subst hi; rw [Qk] at hid'; cases hid'
  ·rw [Qw hi] at hid'
   obtain ⟨b,vs,hb⟩:=hk.box id' e' cs ver hid'
   exact ⟨b,vs,hb.blk,hkeep _ _ hb.own,hb.base,hb.heap,hb.imm,hb.den.mono hext,fun i c hc'=>(hb.cell i c hc').mono hext (Nat.le_refl _) fun r n v hf ho=>⟨⟨hf.blk,hf.imm,hf.base⟩,hkeep _ _ ho⟩,hb.under⟩
 ·by_cases hi:id' = id
  ·subst hi; rw [Qk] at hid'; cases hid'
   exact ⟨r,Q26,rfl,rfl,⟨hf.blk,hf.imm,hf.base⟩,by simp [ow']⟩
  ·rw [Qw hi] at hid'
   obtain ⟨r',h1,h2,h3,h4,h5⟩:=hk.tip id' e' n' sz' hid'
   exact ⟨r',hext.key _ _ h1,h2,h3,⟨h4.blk,h4.imm,h4.base⟩,hkeep _ _ h5⟩
 ·by_cases hi:id' = id
  ·subst hi; rw [Qk] at hid'; cases hid'
   intro n'' hn''
   have hne:¬ n'' = n:=by omega
   simp [withTip,withKey,hne,hkeys n'' (by omega)]
  ·rw [Qw hi] at hid'
   intro n'' hn''
   have:=hk.more id' e' n' sz' hid' n'' hn''
   simp [withTip,withKey,hi,this]
 ·obtain ⟨g1,g2,g3,g4⟩:=hk.fresh i hi
  have hne:=hnV i hi
  exact ⟨by rw [Qw hne]; exact g1,g2,fun n'=>by simp [withTip,withKey,hne,g3 n'],fun off v=>by simp [withTip,withKey,g4 off v]⟩
 ·by_cases hi:id' = id
  ·subst hi; rw [Qk] at hid'; cases hid'
  ·rw [Qw hi] at hid'
   intro off v hv'
   simp [withTip,withKey,hk.ver id' e' cs ver hid' off v hv']
 ·simp only [ow'] at hb
  split at hb
  ·rename_i hbe; rw [hbe]; exact hf.lt
  ·exact hk.own b k hb
 ·by_cases hi:id' = id
  ·subst hi; rw [Qk] at hid'; cases hid'; cases ho
  ·rw [Qw hi] at hid'
   exact (hk.fr id' o hid' ho).mono hext (fun _=>rfl) fun b hb=>⟨rfl,hkeep _ _ hb,fun _ _ h=>h⟩
theorem QcK {imm:Imm} {b sz:Nat} {es xs:List D} {news:List Value} (h:Cells imm b 0 sz es) (hs:∀ e,e ∈ xs → e.cells.length = sz) (hd:DenDL imm (xs.flatMap D.cells) news) (hv:∀ (j:Nat) (v:Value),news[j]? = some v → imm ⟨b,es.length * sz + j,none⟩ = some v) :
  Cells imm b 0 sz (es ++ xs):=by
 obtain ⟨h1,vs,h2,h3⟩:=h
 have hvl:vs.length = es.length * sz:=by rw [h2.length,QX h1]
 refine ⟨fun e he=>(List.mem_append.1 he).elim (h1 e) (hs e),vs ++ news,by rw [List.flatMap_append]; exact h2.append hd,fun j v hj=>?_⟩
 rw [List.getElem?_append] at hj
 split at hj
 ·exact h3 j v hj
 ·rename_i hge
  rw [hvl] at hj hge
  have:=hv _ v hj
  rwa [show es.length * sz + (j - es.length * sz) = 0 + j by omega] at this
theorem QaX (hk:OkW K hc V w ow) {ts:Array TypeId} {ty elem:TypeId} {info:TypeInfo} (ht:AppTypes P ts elem info) {vx:Value} {xs:List D} {news:List Value} (hm:More P K info.size vx xs news) {r:KRow} (hsz:r.sz = info.size) {es:List D}
  (hcells:Cells K.imm r.b 0 r.sz es) (hf:Free K w r es.length) (hu:ow r.b = none) (hcap:es.length + xs.length ≤ r.cap) {id:Nat} (hid:hc id = none) (hnV:∀ i,V i → i ≠ id) (hkeys:∀ n',es.length + xs.length ≤ n' → K.key (.tip id n') = none) :
  ∃ w' K' ow',(Builtin.append_ ts ty #[.slice (some ⟨r.b,0,none⟩) es.length r.cap,vx]).run P w = .ok (.slice (some ⟨r.b,0,none⟩) (es.length + xs.length) r.cap) w' ∧ Kext K K' ∧ Den K' (.own (.tip id) (es ++ xs)) (.slice (some ⟨r.b,0,none⟩) (es.length + xs.length) r.cap) ∧
   OkW K' (upd hc id (some (.tip r.e (es.length + xs.length) r.sz))) V w' ow':=by
 obtain ⟨⟨arr,lo,hi,hblk,hsize,hhi⟩,himm,hbase⟩:=hf
 have hnl:news.length = xs.length * r.sz:=by rw [hsz,hm.den.length,QX hm.szs]
 have hle:es.length * r.sz + news.length ≤ arr.size:=by
  rw [hnl,← Nat.add_mul]
  exact Nat.le_trans (Nat.mul_le_mul_right _ hcap) hsize
 let arr':Array Value:=(arr.toList.take (es.length * r.sz) ++ news ++ arr.toList.drop (es.length * r.sz + news.length)).toArray
 have hrun:=Q9P (P:=P) (w:=w) (ty:=ty) ht hm hk.imm (b:=r.b) hcap
 have hst:=run_storeCells_atF P r.b (es.length * r.sz) r.e (lo,hi) news 0 arr w hblk (by simpa using hhi) (by simpa using hle) hm.one
 rw [Nat.add_zero] at hst
 rw [hsz] at hst
 rw [hst,Result.andThen_ok] at hrun
 have hasz:arr'.size = arr.size:=by simp [arr']; omega
 have hlow:∀ off,off < es.length * r.sz → arr'[off]? = arr[off]?:=fun off ho=>by
  have:(arr.toList.take (es.length * r.sz)).length = es.length * r.sz:=by simp; omega
  simp only [arr',List.getElem?_toArray]
  rw [List.append_assoc,List.getElem?_append_left (by omega),List.getElem?_take,if_pos ho,Array.getElem?_toList]
 have hnew:∀ (j:Nat) (v:Value),news[j]? = some v → arr'[es.length * r.sz + j]? = some v:=fun j v hj=>by
  have htl:(arr.toList.take (es.length * r.sz)).length = es.length * r.sz:=by simp; omega
  simp only [arr',List.getElem?_toArray]
  rw [List.append_assoc,List.getElem?_append_right (by omega),htl,Nat.add_sub_cancel_left,List.getElem?_append_left (Qi hj)]
  exact hj
 have hheap:(w.setRow r.b arr').heap[r.b]? = some (.cells arr' r.e (lo,hi)):=setRow_heap w r.b arr arr' r.e (lo,hi) hblk
 have hk1:OkW K hc V (w.setRow r.b arr') ow:=hk.world (hk.below.step rfl rfl rfl ⟨by simp,fun k hk'=>setRow_other w r.b k arr' (by intro e; subst e; first | exact absurd hk' (by assumption) | exact absurd hk' hb.base | exact absurd hk' (by simpa using hbase))⟩) (by simp) (fun b k ho=>setRow_other w r.b b arr' (fun e=>by rw [e,hu] at ho; exact nomatch ho)) fun a c ha=>by
  have h1:=hk.imm a c ha
  by_cases hab:a.block = r.b
  ·obtain ⟨ab,ao,asp⟩:=a
   simp only at hab
   subst hab
   obtain ⟨vs,e,f,g1,g2,g3⟩:=Zd h1
   simp only at g2 g3
   subst g2
   rw [hblk] at g1
   cases g1
   have:ao < es.length * r.sz:=by
    rcases Nat.lt_or_ge ao (es.length * r.sz) with h | h
    ·exact h
    ·have:=himm ao none h; rw [ha] at this; exact nomatch this
   rw [HI hheap,hlow ao this]; exact g3
  ·rw [ZU (setRow_other w r.b a.block arr' hab)]; exact h1
 obtain ⟨hk2,hext2⟩:=hk1.told (m:=(es.length + xs.length) * r.sz) hheap hu hbase
 obtain ⟨ow',hext3,hk3⟩:=hk2.claim (r:=r) hid hnV (fun n' hn'=>hkeys n' hn') ⟨⟨arr',lo,hi,hheap,by omega,Nat.le_trans hhi (Nat.mul_le_mul_right _ (Nat.le_add_right _ _))⟩,fun off sp ho=>by
  rw [Q2N ho]; exact himm off sp (Nat.le_trans (Nat.mul_le_mul_right _ (Nat.le_add_right _ _)) ho),hbase⟩ hu
 refine ⟨_,_,ow',hrun,hext2.trans hext3,?_,?_⟩
 ·have hlen:(es ++ xs).length = es.length + xs.length:=by simp
  have hd:Cells (withTip (withImm K r.b ((es.length + xs.length) * r.sz) arr') id (es.length + xs.length) r).imm r.b 0 r.sz (es ++ xs) → Den (withTip (withImm K r.b ((es.length + xs.length) * r.sz) arr') id (es.length + xs.length) r) (.own (.tip id) (es ++ xs)) (.slice (some ⟨r.b,0,none⟩) (es.length + xs.length) r.cap):=fun h=>by
   have:=Den.tip id (es ++ xs) r (by rw [hlen]; exact Q26) (by rw [hlen]; exact hcap) h
   rwa [hlen] at this
  refine hd ?_
  refine QcK (hcells.mono (hext2.trans hext3).imm) (fun e he=>by rw [hsz]; exact hm.szs e he) (hm.den.mono (hext2.trans hext3).imm) fun j v hj=>?_
  show (withImm K r.b ((es.length + xs.length) * r.sz) arr').imm ⟨r.b,es.length * r.sz + j,none⟩ = some v
  have hjl:=Qi hj
  rw [Q0X (by rw [Nat.add_mul,← hnl]; omega)]
  exact hnew j v hj
 ·rw [← hsz]; exact hk3
theorem HH (hk:OkW K hc V w ow) {ts:Array TypeId} {ty elem:TypeId} {info:TypeInfo} (ht:AppTypes P ts elem info) {vx:Value} {xs:List D} {news:List Value} (hm:More P K info.size vx xs news) {es:List D} {base:Option Addr} {cap b o sz:Nat}
  (ha:es ≠ [] → base = some ⟨b,o,none⟩) (hsz:es ≠ [] → sz = info.size) (hcells:Cells K.imm b o sz es) (hcap:¬ es.length + xs.length ≤ cap) (hroom:roomOk (es.length + xs.length) info.bytes = true) (hz:info.zero.map (fun v=>v.cells.size) = some info.size) {id:Nat} (hid:hc id = none)
  (hnV:∀ i,V i → i ≠ id) (hkeys:∀ n',es.length + xs.length ≤ n' → K.key (.tip id n') = none) :
  ∃ u w' K' ow',(Builtin.append_ ts ty #[.slice base es.length cap,vx]).run P w = .ok u w' ∧ Kext K K' ∧ Den K' (.own (.tip id) (es ++ xs)) u ∧ OkW K' (upd hc id (some (.tip elem (es.length + xs.length) info.size))) V w' ow':=by
 obtain ⟨zv,hz1,hz2⟩:∃ zv,info.zero = some zv ∧ zv.cells.size = info.size:=by
  cases hzz:info.zero with
  | none=>rw [hzz] at hz; exact nomatch hz
  | some zv=>rw [hzz] at hz; exact ⟨zv,rfl,Option.some.inj hz⟩
 obtain ⟨h1,vs,h2,h3⟩:=hcells
 have hszz:∀ e,e ∈ es → e.cells.length = info.size:=fun e he=>by rw [h1 e he]; exact hsz (by rintro rfl; simp at he)
 have hvl:vs.length = es.length * info.size:=by rw [h2.length,QX hszz]
 have hold:∀ w:World,(∀ a c,K.imm a = some c → w.cell? a = some c) → (Builtin.firstCells info.size es.length (.slice base es.length cap)).run P w = .ok vs.toArray w:=fun w hw=>by
  by_cases hne:es = []
  ·subst hne
   have:vs = []:=List.eq_nil_of_length_eq_zero (by simpa using hvl)
   subst this
   cases base <;> simp [Builtin.firstCells,loadCells,loadCellsFrom]
  ·rw [ha hne]
   simp only [Builtin.firstCells]
   have:=J9 (P:=P) (w:=w) (b:=b) (o:=o) (n:=es.length * info.size) (vs:=vs) (by omega) fun j v hj=>hw _ _ (h3 j v hj)
   rw [this,List.take_of_length_le (by omega)]
 obtain ⟨cap',rest,hrun,hc',hrl⟩:=Q6t (P:=P) (w:=w) (ty:=ty) ht hm hk.imm hcap hroom hold hz1 hz2
 have hnl:news.length = xs.length * info.size:=by rw [hm.den.length,QX hm.szs]
 let arr:Array Value:=(vs ++ news ++ rest).toArray
 have hasz:arr.size = cap' * info.size:=by
  have:(es.length + xs.length) * info.size + (cap' - (es.length + xs.length)) * info.size = cap' * info.size:=by rw [← Nat.add_mul]; congr 1; omega
  rw [Nat.add_mul] at this
  simp [arr,hvl,hnl,hrl]; omega
 have hkd:=hk.drew
 have hnone:ow w.drew.heap.size = none:=hkd.not_own_new
 have hb:=Z8 w.drew (.cells arr elem)
 obtain ⟨hk1,hext1⟩:=(hkd.push (.cells arr elem)).told (m:=(es.length + xs.length) * info.size) hb hnone hkd.base_le
 let r:KRow:=⟨w.drew.heap.size,cap',info.size,elem⟩
 obtain ⟨ow',hext2,hk2⟩:=hk1.claim (r:=r) (n:=es.length + xs.length) hid hnV (fun n' hn'=>hkeys n' hn') ⟨⟨arr,0,0,hb,by simp only [r]; omega,Nat.zero_le _⟩,fun off sp ho=>by
  rw [Q2N ho]
  cases hmm:K.imm ⟨w.drew.heap.size,off,sp⟩ with
  | none=>rfl
  | some v =>
   obtain ⟨vs',e',f,g1,_⟩:=Zd (hkd.imm _ _ hmm)
   have:=ZD g1
   simp at this,hkd.base_le⟩ hnone
 refine ⟨_,_,_,ow',hrun,hext1.trans hext2,?_,hk2⟩
 have hlen:(es ++ xs).length = es.length + xs.length:=by simp
 have hd:Cells (withTip (withImm K w.drew.heap.size ((es.length + xs.length) * info.size) arr) id (es.length + xs.length) r).imm r.b 0 r.sz (es ++ xs) → Den (withTip (withImm K w.drew.heap.size ((es.length + xs.length) * info.size) arr) id (es.length + xs.length) r) (.own (.tip id) (es ++ xs)) (.slice (some ⟨r.b,0,none⟩) (es.length + xs.length) r.cap):=fun h=>by
  have:=Den.tip id (es ++ xs) r (by rw [hlen]; exact Q26) (by rw [hlen]; exact hc') h
  rwa [hlen] at this
 refine hd ?_
 refine ⟨fun e he=>(List.mem_append.1 he).elim (hszz e) (hm.szs e),vs ++ news,?_,fun j v hj=>?_⟩
 ·rw [List.flatMap_append]; exact (h2.append hm.den).mono (hext1.trans hext2).imm
 ·show (withImm K w.drew.heap.size ((es.length + xs.length) * info.size) arr).imm ⟨w.drew.heap.size,0 + j,none⟩ = some v
  have hjl:=Qi hj
  rw [Nat.zero_add,Q0X (by rw [Nat.add_mul]; simp at hjl; omega)]
  simp only [arr,List.getElem?_toArray]
  rw [List.getElem?_append_left hjl]; exact hj
end
end Go.Proofs.YtfdcjngclelnhaaGreat
namespace Go.Proofs.YtfdcjngclelnhaaGreat
open Go Go.RowKit
variable [mode:Inhabited ModeT]
section
variable {P:Program} {K:KW} {w:World} {h:Heap} {HF:Nat → Option AObj} {V:Nat → Prop} {ow:Nat → Option OKey} {hc:Nat → Option AObj}
structure MoreF (P:Program) (K:KW) (w:World) (sz:Nat) (vx:Value) (ys:List AV) (n:Nat) (news:List Value):Prop where
 den:DenL K ys news
 one:ys.all AV.isCell = true
 num:ys.length = n * sz
 len:∀ w:World,(Builtin.lenOf vx).run P w = .ok n w
 cells:∀ w':World,w'.heap = w.heap → (Builtin.firstCells sz n vx).run P w' = .ok news.toArray w'
theorem Qaf {ds:List D} (h:ds.all (fun | .agg _=>false | _=>true) = true):(ds.map AV.dat).all AV.isCell = true:=by
 rw [List.all_eq_true] at h ⊢
 intro x hx
 obtain ⟨d,hd,rfl⟩:=List.mem_map.1 hx
 have:=h d hd
 cases d <;> first | rfl | (cases this)
theorem Q07 (hk:OkW K (comb h HF) V w ow) {sz:Nat} {x:AV} {es:List D} {vx:Value} (hx:Den K x vx) (he:elems x = some es) (hf:es.all (fun e=>e.cells.length == sz && e.cells.all fun | .agg _=>false | _=>true) = true) :
  ∃ news,MoreF P K w sz vx ((es.flatMap D.cells).map .dat) es.length news:=by
 obtain ⟨a,cap,rfl,hcap,b,o,sz',ha,hsz,vs,hd,hv⟩:=Yl hx he
 have hsz2:∀ e,e ∈ es → e.cells.length = sz:=fun e he=>by
  have:=List.all_eq_true.1 hf e he
  simp only [Bool.and_eq_true,beq_iff_eq] at this
  exact this.1
 have hl:vs.length = es.length * sz:=by rw [hd.length,QX hsz2]
 refine ⟨vs,DenL.of_dat hd,Qaf ?_,by rw [List.length_map,QX hsz2],fun w=>rfl,fun w' hw=>?_⟩
 ·rw [List.all_flatMap,List.all_eq_true]
  intro e he
  have:=List.all_eq_true.1 hf e he
  simp only [Bool.and_eq_true] at this
  exact this.2
 ·by_cases hne:es = []
  ·subst hne
   have:vs = []:=List.eq_nil_of_length_eq_zero (by simpa using hl)
   subst this
   cases a <;> simp [Builtin.firstCells,loadCells,loadCellsFrom]
  ·rw [ha hne]
   simp only [Builtin.firstCells]
   have:=J9 (P:=P) (w:=w') (b:=b) (o:=o) (n:=es.length * sz) (vs:=vs) (by omega) fun j v hj=>by
    have h1:=hk.imm _ _ (hv j v hj)
    unfold World.cell? at h1 ⊢
    rw [hw]; exact h1
   rw [this,List.take_of_length_le (by omega)]
theorem QhX (hk:OkW K (comb h HF) V w ow) {sz:Nat} {x:AV} {ys:List AV} {vx:Value} (hc:cellsOf h sz x = some ys) (hx:Den K x vx):∃ n news,MoreF P K w sz vx ys n news:=by
 unfold cellsOf at hc
 split at hc
 ·cases hc
  obtain ⟨news,hm⟩:=Q07 (P:=P) (sz:=sz) hk hx (es:=[]) rfl rfl
  exact ⟨_,news,hm⟩
 ·split at hc
  ·rename_i es hf
   cases hc
   obtain ⟨news,hm⟩:=Q07 (P:=P) (sz:=sz) hk hx (es:=es) rfl hf
   exact ⟨_,news,hm⟩
  ·exact nomatch hc
 ·split at hc
  ·rename_i es hf
   cases hc
   obtain ⟨news,hm⟩:=Q07 (P:=P) (sz:=sz) hk hx (es:=es) rfl hf
   exact ⟨_,news,hm⟩
  ·exact nomatch hc
 ·rename_i id ver off len n
  split at hc
  ·rename_i e cs v lim fz ex hid
   split at hc
   ·rename_i hcond
    obtain ⟨rfl,rfl,hle⟩:=hcond
    cases hc
    obtain ⟨b,obj,hf,hb,_⟩:=hk.fr id _ (Qe hid) rfl
    cases hf with
    | free _ _ _ _ _ _ r vs lo hi hr hsz hcl hd hu hvn hfz hex hcc =>
     cases hx with
     | row _ _ _ _ _ r' hr' hz hle' =>
      obtain rfl:r' = r:=by rw [hr] at hr'; exact (Option.some.inj hr').symm
      have hl:((cs.drop off).take (len * n)).length = len * n:=by rw [List.length_take,List.length_drop]; omega
      refine ⟨len,(((vs.toList.drop r'.o).take cs.length).drop off).take (len * n),(hd.drop off).take _,?_,hl,fun w=>rfl,fun w' hw=>?_⟩
      ·rw [List.all_eq_true] at hcc ⊢
       exact fun x hx=>hcc x (List.mem_of_mem_drop (List.mem_of_mem_take hx))
      ·simp only [Builtin.firstCells]
       have hvl:(((vs.toList.drop r'.o).take cs.length).drop off).length = cs.length - off:=by
        have:vs.toList.length = vs.size:=by simp
        rw [List.length_drop,List.length_take,List.length_drop]; omega
       have:=J9 (P:=P) (w:=w') (b:=r'.b) (o:=r'.o + off) (n:=len * n) (vs:=((vs.toList.drop r'.o).take cs.length).drop off) (by omega) fun j v hj=>by
        rw [World.cell?,hw,hb]
        simp only [Option.isSome_none,Bool.false_eq_true,if_false]
        rw [List.getElem?_drop,List.getElem?_take] at hj
        split at hj
        ·rw [List.getElem?_drop,Array.getElem?_toList] at hj
         rwa [Nat.add_assoc]
        ·cases hj
       rw [this]
   ·exact nomatch hc
  ·exact nomatch hc
 ·rename_i s
  split at hc
  ·rename_i h1
   cases hc
   subst h1
   cases hx with | dat hx=>?_
   cases hx
   have hz:(ByteArray.mk s.toArray).size = s.length:=by simp [ByteArray.size]
   refine ⟨s.length,s.map fun b=>Value.int .u8 b.toNat,?_,?_,by simp,fun w=>by simp [Builtin.lenOf,hz],fun w' hw=>?_⟩
   ·induction s with
    | nil=>exact .nil
    | cons b s ih=>exact .cons (.dat (.int _ _)) (ih (by simp [ByteArray.size]))
   ·rw [List.all_eq_true]
    intro x hx
    obtain ⟨b,_,rfl⟩:=List.mem_map.1 hx
    rfl
   ·have:(ByteArray.mk s.toArray).extract 0 s.length = ByteArray.mk s.toArray:=by
     apply ByteArray.ext
     rw [ByteArray.data_extract]
     apply Array.ext'
     rw [Array.toList_extract,List.extract_eq_take_drop]
     simp
    simp only [Builtin.firstCells,this]
    simp
  ·exact nomatch hc
 ·exact nomatch hc
theorem Q1A {ts:Array TypeId} {ty elem:TypeId} {info:TypeInfo} (ht:AppTypes P ts elem info) {vx:Value} {ys:List AV} {k:Nat} {news:List Value} (hm:MoreF P K w info.size vx ys k news) {base:Option Addr} {len cap:Nat} (hn:len + k ≤ cap) :
  (Builtin.append_ ts ty #[.slice base len cap,vx]).run P w = ((match base with | some a=>storeCells (a.add (len * info.size)) news | none=>pure ():Sem Unit).run P w).andThen fun _ w'=>.ok (.slice base (len + k) cap) w':=by
 obtain ⟨⟨t1,h1,h2⟩,⟨t2,d,h3,h4,h5⟩,h6⟩:=ht
 have hd:(match d with | .int _=>true | _=>false) = false:=by cases d <;> first | rfl | exact absurd rfl (h5 _)
 have hsz:(sizeOf elem).run P w = .ok info.size w:=Qo (by simp [sizeA,h6])
 unfold Builtin.append_
 simp only [h1,h3,List.getElem?_toArray,List.getElem?_cons_zero,List.getElem?_cons_succ,Sem.run_bind,Q2 h2,Result.andThen_ok,hsz,Q2 h4,Sem.run_pure]
 simp only [Bool.false_eq_true,if_false,Sem.run_bind,hm.len w,Result.andThen_ok,Bool.not_false,if_true,if_pos hn,hm.cells w rfl]
 cases base <;> simp <;> rfl
theorem Q0o {ts:Array TypeId} {ty elem:TypeId} {info:TypeInfo} (ht:AppTypes P ts elem info) {vx:Value} {ys:List AV} {k:Nat} {news old:List Value} (hm:MoreF P K w info.size vx ys k news)
  {base:Option Addr} {len cap:Nat} (hn:¬ len + k ≤ cap) (hroom:roomOk (len + k) info.bytes = true) (hold:(Builtin.firstCells info.size len (.slice base len cap)).run P w.drew = .ok old.toArray w.drew)
  (hz:info.zero.map (fun v=>v.cells.size) = some info.size) :
  ∃ cap' rest,(Builtin.append_ ts ty #[.slice base len cap,vx]).run P w = .ok (.slice (some ⟨w.drew.heap.size,0,none⟩) (len + k) cap') (w.drew.alloc (.cells (old ++ news ++ rest).toArray elem)) ∧ len + k ≤ cap' ∧ rest.length = (cap' - (len + k)) * info.size:=by
 obtain ⟨zv,hz,hzs⟩:∃ zv,info.zero = some zv ∧ zv.cells.size = info.size:=by
  cases hzz:info.zero with
  | none=>rw [hzz] at hz; exact nomatch hz
  | some zv=>rw [hzz] at hz; exact ⟨zv,rfl,Option.some.inj hz⟩
 obtain ⟨⟨t1,h1,h2⟩,⟨t2,d,h3,h4,h5⟩,h6⟩:=ht
 have hd:(match d with | .int _=>true | _=>false) = false:=by cases d <;> first | rfl | exact absurd rfl (h5 _)
 have hsz:(sizeOf elem).run P w = .ok info.size w:=Qo (by simp [sizeA,h6])
 have hti:∀ w:World,(typeInfo elem).run P w = .ok info w:=fun w=>by simp [typeInfo,program,Sem.run,h6]
 simp only [roomOk,decide_eq_true_eq] at hroom
 obtain ⟨r1,r2⟩:=hroom
 have hnext:=nextslicecap_le (need:=len + k) (old:=cap) (by omega)
 have hbytes:¬ Builtin.nextslicecap (len + k) cap * info.bytes > 2 ^ 48:=by
  have:=Nat.mul_le_mul_right info.bytes hnext
  omega
 obtain ⟨cap',w',hc1,rfl,hc2⟩:=Q3i (P:=P) (w:=w) (need:=len + k) (old:=cap) (elem:=elem)
 refine ⟨cap',(Builtin.zeroCells zv.cells (cap' - (len + k))).toList,?_,hc2,by simp [Builtin.zeroCells,hzs]⟩
 unfold Builtin.append_
 simp only [h1,h3,List.getElem?_toArray,List.getElem?_cons_zero,List.getElem?_cons_succ,Sem.run_bind,Q2 h2,Result.andThen_ok,hsz,Q2 h4,Sem.run_pure]
 simp only [Bool.false_eq_true,if_false,Sem.run_bind,hm.len w,Result.andThen_ok,Bool.not_false,if_true,if_neg hn,hti w,false_or]
 have hmax:¬ (((len + k:Nat):Int) > IntKind.i64.max ∧ info.bytes = 0):=by
  rintro ⟨h,_⟩
  simp at h
  omega
 rw [if_neg hmax]
 simp only [Sem.run_bind,hti w,Result.andThen_ok]
 rw [if_neg hbytes]
 have hti':=hti w.drew
 have hzr:(zeroValue elem).run P w.drew = .ok zv w.drew:=by simp [zeroValue,typeInfo,program,Sem.run,h6,hz]
 simp only [Sem.run_bind,hc1,Result.andThen_ok,hti',Q1I,hold,hm.cells w.drew rfl,hzr,newRow,run_newObj_alloc,Sem.run_pure,if_true]
 simp
 congr 2
 apply Array.ext'
 simp
theorem Qqx {α:Type} (A news:List α) (o off m n:Nat) (h1:off + m ≤ n) (h2:o + n ≤ A.length) (h3:o + off + m + news.length ≤ A.length) :
  ((A.take (o + off + m) ++ news ++ A.drop (o + off + m + news.length)).drop (o + off)).take (m + news.length) = (((A.drop o).take n).drop off).take m ++ news:=by
 have hd:(A.take (o + off + m)).drop (o + off) = (A.drop (o + off)).take m:=by rw [List.drop_take]; congr 1; omega
 have hx:(A.take (o + off + m)).length = o + off + m:=by rw [List.length_take]; omega
 have hy:((A.drop (o + off)).take m).length = m:=by rw [List.length_take,List.length_drop]; omega
 rw [List.append_assoc,List.drop_append_of_le_length (by omega),hd,← List.append_assoc,List.take_append_of_le_length (by rw [List.length_append,hy]; omega),List.take_of_length_le (by rw [List.length_append,hy]; omega)]
 congr 1
 rw [List.drop_take,List.take_take,Nat.min_eq_left (by omega),List.drop_drop]
theorem Fit.drew (hk:Fit K h HF V w):Fit K h HF V w.drew:=⟨hk.ok.drew,hk.hf,hk.vlen⟩
theorem Qa2 {argTypes:Array TypeId} {ty:TypeId} {place:Option Nat} {s x v:AV} {vs vx:Value} {h':Heap} (hk:Fit K h HF V w) (hp:∀ r,place = some r → V r ∧ r < h.length) (ha:appendF P argTypes.toList place s x h = some (v,h')) (hin:intoFree P argTypes.toList s = true) (hs:Den K s vs) (hx:Den K x vx) :
  ∃ u w' K',(Builtin.append_ argTypes ty #[vs,vx]).run P w = .ok u w' ∧ Kext K K' ∧ Den K' v u ∧ Fit K' h' HF (afterV place h.length h'.length V) w' ∧ h.length ≤ h'.length:=by
 unfold appendF at ha
 split at ha
 case h_2=>exact nomatch ha
 rename_i sType xType rest hts
 have ht0:argTypes[0]? = some sType:=by rw [← Array.getElem?_toList,hts]; rfl
 have ht1:argTypes[1]? = some xType:=by rw [← Array.getElem?_toList,hts]; rfl
 split at ha
 case h_2=>exact nomatch ha
 rename_i elem xd hu1 hu2
 split at ha
 case h_2=>exact nomatch ha
 rename_i info hint hinfo
 have hAT:AppTypes P argTypes elem info:=⟨⟨sType,ht0,hu1⟩,⟨xType,xd,ht1,hu2,fun k e=>by subst e; simp at hint⟩,hinfo⟩
 split at ha
 case h_2=>exact nomatch ha
 rename_i xs hxs
 obtain ⟨ow,hok⟩:=hk.ok
 obtain ⟨k,news,hm⟩:=QhX (P:=P) hok hxs hx
 have hnl:news.length = xs.length:=hm.den.length
 split at ha
 ·exact nomatch ha
 rename_i hsz0
 have hbase:∃ base len cap,vs = .slice base len cap ∧ len ≤ cap:=by
  unfold intoFree at hin
  split at hin
  ·cases hs with
   | row _ _ _ _ _ r hr hz hle=>exact ⟨_,_,_,rfl,(Nat.le_div_iff_mul_le (by omega)).2 (by omega)⟩
  ·exact ⟨none,0,0,Q0r hs,Nat.le_refl _⟩
  ·cases hs with
   | full _ a b o sz ha hc=>exact ⟨some a,0,0,rfl,Nat.le_refl _⟩
  ·exact nomatch hin
 split at ha
 ·rename_i hemp
  have hx0:xs = []:=by simpa using hemp
  subst hx0
  cases ha
  have hn0:news = []:=List.eq_nil_of_length_eq_zero hnl
  subst hn0
  have hk0:k = 0:=by
   have:=hm.num
   simp only [List.length_nil] at this
   rcases Nat.eq_zero_or_pos k with h0 | h0
   ·exact h0
   ·have:=Nat.mul_pos h0 (Nat.pos_of_ne_zero hsz0); omega
  subst hk0
  obtain ⟨base,len,cap,rfl,hlc⟩:=hbase
  have:=Q1A (P:=P) (ty:=ty) hAT hm (base:=base) (len:=len) (cap:=cap) (by omega)
  refine ⟨_,w,K,?_,Kext.refl K,hs,hk.after (fun r hr=>(hp r hr).2),Nat.le_refl _⟩
  rw [this]
  cases base <;> simp [storeCells]
 rename_i hemp
 have hkpos:0 < k:=by
  have:=hm.num
  rcases Nat.eq_zero_or_pos k with h0 | h0
  ·subst h0; simp at this; subst this; simp at hemp
  ·exact h0
 have hdiv:xs.length / info.size = k:=by rw [hm.num,Nat.mul_div_cancel _ (Nat.pos_of_ne_zero hsz0)]
 split at ha
 ·exact nomatch ha
 rename_i hzero
 have hzero':info.zero.map (fun v=>v.cells.size) = some info.size:=by simpa using hzero
 split at ha
 ·exact nomatch ha
 split at ha
 ·rename_i id ver off len n
  split at ha
  case h_2=>exact nomatch ha
  rename_i e cs v0 lim fz ex hid
  split at ha
  case isFalse=>exact nomatch ha
  rename_i hcond
  obtain ⟨rfl,rfl,rfl,c1,c2,c3⟩:=hcond
  rw [hdiv] at c3 ha
  split at ha
  case h_2=>exact nomatch ha
  rename_i lim' hl
  cases ha
  have hlk:=Q43 hl
  cases hs with
  | row _ _ _ _ _ r hr hz hle =>
  obtain ⟨b,obj,hf,hb,hown,hbb,himm⟩:=hok.fr id _ (Qe hid) rfl
  cases hf with
  | free _ _ _ _ _ _ r' vs lo hi hr' hsz hcl hcd hu hvn hff hex hcc =>
  obtain rfl:r' = r:=by rw [hr] at hr'; exact (Option.some.inj hr').symm
  have hvl:vs.toList.length = vs.size:=by simp
  have hcut:((cs.drop off).take (len * info.size)).length = len * info.size:=by rw [List.length_take,List.length_drop]; omega
  have hu':=QM hlk.1 hu
  have hunder:undersL lim' ((cs.drop off).take (len * info.size) ++ xs) = true:=Zv (Q0N _ (Q0Z _ hu')) hlk.2
  have hcells:((cs.drop off).take (len * info.size) ++ xs).all AV.isCell = true:=by
   rw [List.all_append,hm.one,Bool.and_true]
   rw [List.all_eq_true] at hcc ⊢
   exact fun x hx=>hcc x (List.mem_of_mem_drop (List.mem_of_mem_take hx))
  have hclen:((cs.drop off).take (len * info.size) ++ xs).length = (len + k) * info.size:=by rw [List.length_append,hcut,hm.num,Nat.add_mul]
  have hrowf:∀ (r2:RRow),(∀ i v r,K.row i v = some r → (fun i v=>if i = id ∧ v = v0 + 1 then some r2 else K.row i v) i v = some r):=fun r2 i v r hiv=>by
   show (if i = id ∧ v = v0 + 1 then some r2 else K.row i v) = some r
   rw [if_neg]
   ·exact hiv
   ·rintro ⟨rfl,rfl⟩
    rw [hvn _ (by omega)] at hiv; cases hiv
  have hrowo:∀ (r2:RRow) i v,i ≠ id → (fun i v=>if i = id ∧ v = v0 + 1 then some r2 else K.row i v) i v = K.row i v:=fun r2 i v hi=>if_neg (fun h=>hi h.1)
  have hne:∀ x k,ow x = some k → k ≠ .fr id → x ≠ r'.b:=fun x k h1 h2 h3=>by rw [h3,hown] at h1; exact h2 (Option.some.inj h1).symm
  have hcomb:∀ o,comb (h.set id (some o)) HF = upd (comb h HF) id (some o):=fun o=>Yx (Qi hid) o
  have hfin:∀ (K2:KW) (w2:World) (ow2:Nat → Option OKey) (o:AObj),OkW K2 (upd (comb h HF) id (some o)) V w2 ow2 → Fit K2 (h.set id (some o)) HF (afterV place h.length (h.set id (some o)).length V) w2:=fun K2 w2 ow2 o hok2 =>
   ⟨⟨ow2,by rw [hcomb]; exact hok2.virgin fun i hi=>hi.1⟩,fun i o hi'=>by
    have h2:=hk.hf i o hi'
    have:id ≠ i:=by rintro rfl; rw [hid] at h2; cases h2
    rw [List.getElem?_set_ne this]; exact h2,fun i hi=>by
    simp at hi; exact ⟨hk.vlen i hi,fun e=>by have:=(hp i e).2; omega,Or.inr (by simpa using hi)⟩⟩
  by_cases hfit:len + k ≤ (r'.n - off) / info.size
  ·
   have hfit':(len + k) * info.size ≤ r'.n - off:=(Nat.le_div_iff_mul_le (Nat.pos_of_ne_zero hsz0)).1 hfit
   have hadd:(len + k) * info.size = len * info.size + news.length:=by rw [Nat.add_mul,hnl,hm.num]
   have hrun:=Q1A (P:=P) (ty:=ty) hAT hm (base:=some ⟨r'.b,r'.o + off,none⟩) (len:=len) (cap:=(r'.n - off) / info.size) hfit
   have hst:=run_storeCells_atF P r'.b (r'.o + off + len * info.size) e (lo,hi) news 0 vs w hb (by simp only; omega) (by omega) (Hy hm.den hm.one)
   simp only [JZ] at hrun
   rw [hst,Result.andThen_ok] at hrun
   simp only [Nat.add_zero] at hrun
   generalize hvs':(vs.toList.take (r'.o + off + len * info.size) ++ news ++ vs.toList.drop (r'.o + off + len * info.size + news.length)).toArray = vs' at hrun
   have hvsz:vs'.size = vs.size:=by
    subst hvs'
    simp only [List.size_toArray,List.length_append,List.length_take,List.length_drop]; omega
   let r2:RRow:=⟨r'.b,r'.o + off,r'.n - off⟩
   have hext:Kext K { K with row:=fun i v=>if i = id ∧ v = v0 + 1 then some r2 else K.row i v }:=⟨rfl,fun _ _ h=>h,fun _ _ h=>h,fun _ _ h=>h,fun _ _=>rfl,hrowf r2⟩
   have hat:FreeAt { K with row:=fun i v=>if i = id ∧ v = v0 + 1 then some r2 else K.row i v } id (.free e ((cs.drop off).take (len * info.size) ++ xs) (v0 + 1) lim' (fz - off) false) r2.b (.cells vs' e (lo,hi)):=by
    refine .free e _ _ lim' _ false r2 vs' lo hi (if_pos ⟨rfl,rfl⟩) (by simp only [r2]; omega) (by simp only [r2]; omega) ?_ hunder (fun v hv=>?_) (by simp only [r2]; omega) (fun h=>nomatch h) hcells
    ·subst hvs'
     rw [hclen,hadd]
     have:=Qqx vs.toList news r'.o off (len * info.size) cs.length c1 (by omega) (by omega)
     simp only [r2]
     rw [this]
     exact (((hcd.drop off).take _).append hm.den).mono hext
    ·show (if id = id ∧ v = v0 + 1 then some r2 else K.row id v) = none
     rw [if_neg (by omega)]; exact hvn _ (by omega)
   have hok2:=(hok.turnFr (Qe hid) rfl (o':=.free e ((cs.drop off).take (len * info.size) ++ xs) (v0 + 1) lim' (fz - off) false) rfl (w':=w.setRow r'.b vs') (hrowf r2) (hrowo r2) hat (setRow_heap w r'.b vs vs' e (lo,hi) hb) hbb himm (Or.inr hown)
    (hok.below.step rfl rfl rfl ⟨by simp,fun k hk'=>setRow_other w r'.b k vs' (by intro e; subst e; first | exact absurd hk' (by assumption) | exact absurd hk' hb.base | exact absurd hk' (by simpa using hbase))⟩) (by simp) (fun x k h1 h2=>setRow_other w r'.b x vs' (hne x k h1 h2)) fun a c ha=>by
     have h1:=hok.imm a c ha
     have:a.block ≠ r'.b:=by
      intro e1
      have:=himm a.off a.spot
      rw [← e1,show (⟨a.block,a.off,a.spot⟩:Addr) = a from rfl,ha] at this
      exact nomatch this
     rw [ZU (setRow_other w r'.b a.block vs' this)]; exact h1).1
   refine ⟨_,_,_,hrun,hext,?_,hfin _ _ _ _ hok2,by simp⟩
   have:=Den.row (K:={ K with row:=fun i v=>if i = id ∧ v = v0 + 1 then some r2 else K.row i v }) id (v0 + 1) 0 (len + k) info.size r2 (if_pos ⟨rfl,rfl⟩) hz (by simp only [r2]; omega)
   simpa [r2] using this
  ·
   have hold:(Builtin.firstCells info.size len (.slice (some ⟨r'.b,r'.o + off,none⟩) len ((r'.n - off) / info.size))).run P w.drew = .ok ((((vs.toList.drop r'.o).take cs.length).drop off).take (len * info.size)).toArray w.drew:=by
    simp only [Builtin.firstCells]
    exact J9 (P:=P) (w:=w.drew) (b:=r'.b) (o:=r'.o + off) (n:=len * info.size) (vs:=((vs.toList.drop r'.o).take cs.length).drop off) (by rw [List.length_drop,List.length_take,List.length_drop]; omega) fun j v hj=>by
     rw [HI (w:=w.drew) hb]
     rw [List.getElem?_drop,List.getElem?_take] at hj
     split at hj
     ·rw [List.getElem?_drop,Array.getElem?_toList] at hj
      rwa [Nat.add_assoc]
     ·cases hj
   obtain ⟨cap',rest,hrun,hc1,hrl⟩:=Q0o (P:=P) (ty:=ty) hAT hm (base:=some ⟨r'.b,r'.o + off,none⟩) hfit c3 hold hzero'
   generalize holdg:(((vs.toList.drop r'.o).take cs.length).drop off).take (len * info.size) = old at hrun
   have holdl:old.length = len * info.size:=by subst holdg; rw [List.length_take,List.length_drop,List.length_take,List.length_drop]; omega
   have hcapm:(len + k) * info.size ≤ cap' * info.size:=Nat.mul_le_mul_right _ hc1
   have hrl':rest.length = cap' * info.size - (len + k) * info.size:=by rw [hrl,Nat.sub_mul]
   have hadd:(len + k) * info.size = len * info.size + news.length:=by rw [Nat.add_mul,hnl,hm.num]
   let r2:RRow:=⟨w.drew.heap.size,0,cap' * info.size⟩
   have hokd:=hok.drew
   have hext:Kext K { K with row:=fun i v=>if i = id ∧ v = v0 + 1 then some r2 else K.row i v }:=⟨rfl,fun _ _ h=>h,fun _ _ h=>h,fun _ _ h=>h,fun _ _=>rfl,hrowf r2⟩
   have hat:FreeAt { K with row:=fun i v=>if i = id ∧ v = v0 + 1 then some r2 else K.row i v } id (.free e ((cs.drop off).take (len * info.size) ++ xs) (v0 + 1) lim' (fz - off) false) r2.b (.cells (old ++ news ++ rest).toArray e (0,0)):=by
    refine .free e _ _ lim' _ false r2 _ 0 0 (if_pos ⟨rfl,rfl⟩) (by simp only [r2,List.size_toArray,List.length_append]; omega) (by simp only [r2]; omega) ?_ hunder (fun v hv=>?_) (Nat.zero_le _) (fun h=>nomatch h) hcells
    ·simp only [r2,List.drop_zero]
     rw [hclen,List.take_append_of_le_length (l₁:=old ++ news) (by rw [List.length_append]; omega),List.take_of_length_le (l:=old ++ news) (by rw [List.length_append]; omega),← holdg]
     exact (((hcd.drop off).take _).append hm.den).mono hext
    ·show (if id = id ∧ v = v0 + 1 then some r2 else K.row id v) = none
     rw [if_neg (by omega)]; exact hvn _ (by omega)
   have hpu:=hokd.push (.cells (old ++ news ++ rest).toArray e)
   have hnew:ow w.drew.heap.size = none:=hokd.not_own_new
   have hok2:=(hpu.turnFr (Qe hid) rfl (o':=.free e ((cs.drop off).take (len * info.size) ++ xs) (v0 + 1) lim' (fz - off) false) rfl (w':=w.drew.alloc (.cells (old ++ news ++ rest).toArray e)) (hrowf r2) (hrowo r2) hat (Z8 _ _) hokd.base_le (fun off sp=>by
     cases hmm:K.imm ⟨w.drew.heap.size,off,sp⟩ with
     | none=>rfl
     | some v =>
      obtain ⟨vs',e',f,g1,_⟩:=Zd (hokd.imm _ _ hmm)
      have:=ZD g1
      simp at this) (Or.inl hnew) hpu.below (Nat.le_refl _) (fun x k h1 h2=>rfl) fun a c ha=>hpu.imm a c ha).1
   refine ⟨_,_,_,hrun,hext,?_,hfin _ _ _ _ hok2,by simp⟩
   have:=Den.row (K:={ K with row:=fun i v=>if i = id ∧ v = v0 + 1 then some r2 else K.row i v }) id (v0 + 1) 0 (len + k) info.size r2 (if_pos ⟨rfl,rfl⟩) hz (by simp only [r2]; omega)
   simpa [r2,Nat.mul_div_cancel _ (Nat.pos_of_ne_zero hsz0)] using this
 ·
  rename_i hnr
  rw [hdiv] at ha
  split at ha
  case isFalse=>exact nomatch ha
  rename_i hroom
  split at ha
  case h_2=>exact nomatch ha
  rename_i id h'' hnf
  cases ha
  obtain ⟨base,rfl⟩:∃ base,vs = .slice base 0 0:=by
   unfold intoFree at hin
   split at hin
   ·exact (hnr _ _ _ _ _ rfl).elim
   ·exact ⟨none,Q0r hs⟩
   ·cases hs with
    | full _ a b o sz ha hc=>exact ⟨some a,rfl⟩
   ·exact nomatch hin
  have hold:(Builtin.firstCells info.size 0 (.slice base 0 0)).run P w.drew = .ok ([]:List Value).toArray w.drew:=by
   cases base <;> simp [Builtin.firstCells,loadCells,loadCellsFrom]
  obtain ⟨cap',rest,hrun,hc1,hrl⟩:=Q0o (P:=P) (ty:=ty) hAT hm (base:=base) (len:=0) (cap:=0) (old:=[]) (by omega) (by rw [Nat.zero_add]; exact hroom) hold hzero'
  simp only [Nat.zero_add,List.nil_append] at hrun hc1 hrl
  have hcapm:k * info.size ≤ cap' * info.size:=Nat.mul_le_mul_right _ hc1
  obtain ⟨K',hext,hrow,hfit,hlen⟩:=Q02 (vs:=(news ++ rest).toArray) hk.drew (fun r hr=>(hp r hr).1) hnf (by
   show DenL K xs ((news ++ rest).take xs.length)
   rw [List.take_append_of_le_length (by omega),List.take_of_length_le (by omega)]; exact hm.den) (fun h=>nomatch h)
  refine ⟨_,_,K',hrun,hext,?_,hfit,hlen⟩
  have hsz:(news ++ rest).toArray.size = cap' * info.size:=by
   rw [List.size_toArray,List.length_append,hrl,Nat.sub_mul,hnl,hm.num]; omega
  have:=Den.row (K:=K') id 0 0 k info.size _ hrow hsz0 (by simp only; omega)
  simp only [hsz,Nat.add_zero,Nat.sub_zero,Nat.mul_div_cancel _ (Nat.pos_of_ne_zero hsz0)] at this
  exact this
end
end Go.Proofs.YtfdcjngclelnhaaGreat
