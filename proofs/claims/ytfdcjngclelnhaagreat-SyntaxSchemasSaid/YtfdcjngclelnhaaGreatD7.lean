/- Part of a proof. -/
import Derived.Test.YtfdcjngclelnhaaGreatD4
import Derived.Laws.NewFold
set_option linter.unusedSectionVars false
set_option linter.unusedSimpArgs false
set_option linter.unusedVariables false
namespace Go.Proofs.YtfdcjngclelnhaaGreat
open Go Go.RowKit
variable [mode:Inhabited ModeT]
def Gives (P:Program) (K:KW) (w:World) (s:Sem Value) (v:AV) (h:Nat → Option AObj) (V:Nat → Prop):Prop :=
 ∃ u w' K',s.run P w = .ok u w' ∧ Kext K K' ∧ Den K' v u ∧ Ok K' h V w'
section
variable {P:Program} {K:KW} {w:World} {hc:Nat → Option AObj} {V:Nat → Prop} {ow:Nat → Option OKey}
theorem Gives.same {s:Sem Value} {v:AV} (hok:Ok K hc V w) (h:∃ u,s.run P w = .ok u w ∧ Den K v u):Gives P K w s v hc V:=by
 obtain ⟨u,h1,h2⟩:=h
 exact ⟨u,w,K,h1,Kext.refl K,h2,hok⟩
theorem OkW.not_own_new (hk:OkW K hc V w ow):ow w.heap.size = none:=by
 cases ho:ow w.heap.size with
 | none=>rfl
 | some k=>have:=hk.own _ _ ho; omega
theorem Q7l {imm:Imm} (s:List UInt8):DenDL imm ((s.map fun b=>D.int .u8 b.toNat).flatMap D.cells) (s.map fun b=>Value.int .u8 b.toNat):=by
 induction s with
 | nil=>exact .nil
 | cons b s ih=>simp only [List.map_cons,List.flatMap_cons,D.cells,List.cons_append,List.nil_append]; exact .cons (.int _ _) ih
theorem Q2J {b m sz:Nat} {arr:Array Value} {es:List D} {vs:List Value} (hsz:∀ e,e ∈ es → e.cells.length = sz) (hd:DenDL K.imm (es.flatMap D.cells) vs) (hl:vs.length ≤ m)
  (harr:∀ (j:Nat) (v:Value),vs[j]? = some v → arr[j]? = some v) (hext:Kext K (withImm K b m arr)):Cells (withImm K b m arr).imm b 0 sz es:=by
 refine ⟨hsz,vs,hd.mono hext.imm,fun j v hj=>?_⟩
 have hjl:j < vs.length:=by
  rcases Nat.lt_or_ge j vs.length with h | h
  ·exact h
  ·rw [List.getElem?_eq_none h] at hj; exact nomatch hj
 rw [Nat.zero_add,Q0X (by omega)]
 exact harr j v hj
theorem QeS {s d:TypeId} {x v:AV} {vx:Value} (hok:Ok K hc V w) (h:convA P s d x = some v) (hx:Den K x vx):Gives P K w (convert s d vx) v hc V:=by
 unfold convA at h
 split at h
 ·rename_i sd k k' n h1 h2
  cases h
  cases hx with | dat hx=>?_
  cases hx
  exact .same hok ⟨_,by simp [convert,Q2 h1,Q2 h2,Conv.intToInt],.dat (.int _ _)⟩
 ·rename_i sd s h1 h2
  cases h
  cases hx with | dat hx=>?_
  cases hx
  refine .same hok ⟨_,?_,.dat (.str _)⟩
  simp only [convert,Sem.run_bind,Q2 h1,Q2 h2,Result.andThen_ok]
  rfl
 ·rename_i e h1 h2 _
  split at h
  ·rename_i es h3 h4
   simp only [Option.map_eq_some_iff] at h
   obtain ⟨s,hs,rfl⟩:=h
   obtain ⟨a,cap,rfl,hcap,b,o,sz,ha,hsz,vs,hd,hv⟩:=Yl hx h4
   obtain ⟨ns,rfl,rfl⟩:=Q21 hs hd
   obtain ⟨ow,hk⟩:=hok
   refine .same ⟨ow,hk⟩ ⟨.string ⟨(ns.map fun n=>UInt8.ofNat n.toNat).toArray⟩,?_,.dat (.str _)⟩
   rw [run_convert_bytes_string (P:=P) w _ _ e a es.length cap h1 h3 h2]
   by_cases hne:es = []
   ·subst hne
    cases ns with
    | nil =>
     cases a with
     | none=>simp [Conv.bytesToString]; rfl
     | some a =>
      rw [List.length_nil,run_bytesToString (P:=P) w a 0 cap [] (by simp [loadCells,loadCellsFrom])]
      rfl
    | cons n ns=>have:=hd.length; simp at this
   ·rw [ha hne]
    have hlen:(ns.map (Value.int .u8)).length = es.length:=by
     have h1:=hd.length
     have h2:=QX hsz
     have h3:sz = 1:=by
      cases es with
      | nil=>exact absurd rfl hne
      | cons e es =>
       have:=hsz e (by simp)
       unfold bytesOf at hs
       split at hs
       case h_1 heq=>exact nomatch heq
       case h_3=>exact nomatch hs
       rename_i n r' heq
       cases heq
       simpa [D.cells] using this.symm
     rw [h3] at h2; omega
    rw [run_bytesToString (P:=P) w ⟨b,o,none⟩ es.length cap ns]
    ·rw [Q8C]; rfl
    ·have:=J9 (P:=P) (w:=w) (b:=b) (o:=o) (n:=es.length) (vs:=ns.map (Value.int .u8)) (by omega) fun j v hj=>hk.imm _ _ (hv j v hj)
     rw [this,List.take_of_length_le (by omega)]
  ·exact nomatch h
 ·rename_i e s h1 h2
  split at h
  ·rename_i h3 h4
   cases h
   cases hx with | dat hx=>?_
   cases hx
   obtain ⟨ow,hk⟩:=hok
   obtain ⟨cap,w',hcap,rfl,hle⟩:=Q3i (P:=P) (w:=w) (need:=s.length) (old:=0) (elem:=e)
   let arr:Array Value:=(s.map fun b=>Value.int .u8 b.toNat).toArray ++ Array.replicate (cap - s.length) (.int .u8 0)
   have hk1:=hk.drew
   obtain ⟨hk2,hext⟩:=hk1.row arr e
   have hnew:=hk1.not_own_new
   have hb:=Z8 w.drew (.cells arr e)
   have hk3:=hk2.freeze (a:=⟨w.drew.heap.size,arr.size,none⟩) (n:=1) hb hnew hk1.base_le
   refine ⟨.slice (some ⟨w.drew.heap.size,0,none⟩) s.length cap,_,_,?_,hext,.dat ?_,ow,hk3⟩
   ·have hz:(ByteArray.mk s.toArray).size = s.length:=by simp [ByteArray.size]
    have hel:(Array.map (fun b:UInt8=>Value.int .u8 (b.toNat:Int)) (ByteArray.mk s.toArray).data) = (s.map fun b=>Value.int .u8 b.toNat).toArray:=by simp
    simp only [convert,Sem.run_bind,Q2 h1,Q2 h2,Q2 h3,Result.andThen_ok,Conv.stringToBytes,hz,hcap,hel,newRow,run_newObj_alloc,markStringish,Sem.run_pure,run_shape]
    rw [Q1o hb]
    simp only [run_freeze,Result.andThen_ok]
    rfl
   ·have hl:s.length = (s.map fun b=>D.int .u8 b.toNat).length:=by simp
    rw [hl]
    refine .of_cells (b:=w.drew.heap.size) (o:=0) (sz:=1) (by simpa using hle) (fun _=>rfl) ?_
    refine Q2J (K:=K) (vs:=s.map fun b=>Value.int .u8 b.toNat) ?_ (Q7l s) (by simp [arr]) (fun j v hj=>?_) hext
    ·intro e he
     simp at he
     obtain ⟨b,_,rfl⟩:=he
     rfl
    ·have hjl:j < (s.map fun b=>Value.int .u8 b.toNat).length:=by
      rcases Nat.lt_or_ge j (s.map fun b=>Value.int .u8 b.toNat).length with h | h
      ·exact h
      ·rw [List.getElem?_eq_none h] at hj; exact nomatch hj
     rw [Array.getElem?_append_left (by simpa using hjl)]
     simpa using hj
  ·exact nomatch h
 ·exact nomatch h
end
end Go.Proofs.YtfdcjngclelnhaaGreat
namespace Go.Proofs.YtfdcjngclelnhaaGreat
open Go Go.RowKit
variable [mode:Inhabited ModeT]
section
variable {P:Program} {K:KW} {w:World} {hc:Nat → Option AObj} {V:Nat → Prop} {ow:Nat → Option OKey}
theorem Q0A {ts:List AV} {a:Act} (hts:DenL K ts a.tmps.toList) {x:Operand} {dflt top n y:Nat} {code:BoundsCode} (h:boundA ts (some x) dflt top = some n) (hy:top ≤ y) :
  (Instr.sliceBound (a.eval x) y code).run P w = .ok n w ∧ n ≤ top:=by
 simp only [boundA] at h
 split at h
 ·rename_i k i he
  split at h
  ·rename_i hi
   cases h
   have hd:=Qt hts he
   generalize a.eval x = v at hd ⊢
   cases hd with | dat hd=>?_
   cases hd
   refine ⟨?_,by omega⟩
   have:0 ≤ i ∧ i ≤ (y:Int):=by omega
   simp [Instr.sliceBound,asIntOf,this]
  ·exact nomatch h
 ·exact nomatch h
theorem Q1K {ts:List AV} {a:Act} (hts:DenL K ts a.tmps.toList) {lo hi:Option Operand} {len cap h l:Nat} {sl:Bool} (hcap:len ≤ cap) (h1:boundA ts hi len len = some h) (h2:boundA ts lo 0 h = some l) :
  (Instr.sliceBounds sl len cap (lo.map a.eval) (hi.map a.eval) none).run P w = .ok (l,h,cap) w ∧ l ≤ h ∧ h ≤ len:=by
 have e1:∃ r,(match hi.map a.eval with | some v=>Instr.sliceBound v cap (if sl then .sliceAcap else .sliceAlen) | none=>pure len:Sem Nat).run P w = .ok r w ∧ r = h ∧ h ≤ len:=by
  cases hi with
  | none=>simp [boundA] at h1; subst h1; exact ⟨_,rfl,rfl,Nat.le_refl _⟩
  | some x=>obtain ⟨g1,g2⟩:=Q0A (P:=P) (w:=w) hts (y:=cap) (code:=if sl then .sliceAcap else .sliceAlen) h1 hcap; exact ⟨_,g1,rfl,g2⟩
 have e2:∃ r,(match lo.map a.eval with | some v=>Instr.sliceBound v h .sliceB | none=>pure 0:Sem Nat).run P w = .ok r w ∧ r = l ∧ l ≤ h:=by
  cases lo with
  | none=>simp [boundA] at h2; subst h2; exact ⟨_,rfl,rfl,Nat.zero_le _⟩
  | some x=>obtain ⟨g1,g2⟩:=Q0A (P:=P) (w:=w) hts (y:=h) (code:=.sliceB) h2 (Nat.le_refl _); exact ⟨_,g1,rfl,g2⟩
 obtain ⟨r1,e1,rfl,g1⟩:=e1
 obtain ⟨r2,e2,rfl,g2⟩:=e2
 refine ⟨?_,g2,g1⟩
 unfold Instr.sliceBounds
 cases hi with
 | none =>
  simp [boundA] at h1
  subst h1
  simp only [Option.map_none,Sem.run_bind,Sem.run_pure,Result.andThen_ok,Option.isSome_none,Bool.false_eq_true,if_false]
  cases lo with
  | none=>simp only [Option.map_none,Sem.run_pure,Result.ok.injEq,and_true] at e2; subst e2; rfl
  | some y=>simp only [Option.map_some] at e2 ⊢; simp only [Sem.run_bind,e2,Result.andThen_ok,Sem.run_pure]
 | some x =>
  simp only [Option.map_some] at e1 ⊢
  simp only [Sem.run_bind,Sem.run_pure,Result.andThen_ok,Option.isSome_none,Bool.false_eq_true,if_false,e1]
  cases lo with
  | none=>simp only [Option.map_none,Sem.run_pure,Result.ok.injEq,and_true] at e2; subst e2; rfl
  | some y=>simp only [Option.map_some] at e2 ⊢; simp only [Sem.run_bind,e2,Result.andThen_ok,Sem.run_pure]
theorem Q6b {ts:List AV} {a:Act} (hts:DenL K ts a.tmps.toList) {lo:Option Operand} {hi mx:Operand} {len cap h l m:Nat} (hcap:len ≤ cap) (h0:boundA ts (some mx) 0 len = some m) (h1:boundA ts (some hi) 0 m = some h)
  (h2:boundA ts lo 0 h = some l):(Instr.sliceBounds true len cap (lo.map a.eval) (some (a.eval hi)) (some (a.eval mx))).run P w = .ok (l,h,m) w ∧ l ≤ h ∧ h ≤ m ∧ m ≤ len:=by
 obtain ⟨e0,g0⟩:=Q0A (P:=P) (w:=w) hts (y:=cap) (code:=.slice3Acap) h0 hcap
 obtain ⟨e1,g1⟩:=Q0A (P:=P) (w:=w) hts (y:=m) (code:=.slice3B) h1 (Nat.le_refl _)
 have e2:∃ r,(match lo.map a.eval with | some v=>Instr.sliceBound v h .slice3C | none=>pure 0:Sem Nat).run P w = .ok r w ∧ r = l ∧ l ≤ h:=by
  cases lo with
  | none=>simp [boundA] at h2; subst h2; exact ⟨_,rfl,rfl,Nat.zero_le _⟩
  | some x=>obtain ⟨g1,g2⟩:=Q0A (P:=P) (w:=w) hts (y:=h) (code:=.slice3C) h2 (Nat.le_refl _); exact ⟨_,g1,rfl,g2⟩
 obtain ⟨r2,e2,rfl,g2⟩:=e2
 refine ⟨?_,g2,g1,g0⟩
 unfold Instr.sliceBounds
 simp only [Sem.run_bind,if_true,e0,Result.andThen_ok,e1,Option.isSome_some]
 cases lo with
 | none=>simp only [Option.map_none,Sem.run_pure,Result.ok.injEq,and_true] at e2; subst e2; rfl
 | some y=>simp only [Option.map_some] at e2 ⊢; simp only [Sem.run_bind,e2,Result.andThen_ok,Sem.run_pure]
theorem Qrb {imm:Imm} {b o sz n l h m:Nat} {a:Option Addr} {es:List D} (hcells:Cells imm b o sz es) (ha:es ≠ [] → a = some ⟨b,o,none⟩) (hs:sized n es = true) (hl:l ≤ h) (hh:h ≤ es.length) (hm:h ≤ m) :
  ((es.drop l).take (h - l)).length = h - l ∧ Cells imm b (o + l * sz) sz ((es.drop l).take (h - l)) ∧ (((es.drop l).take (h - l)) ≠ [] → (if m = l then a else a.map (·.add (l * n))) = some ⟨b,o + l * sz,none⟩):=by
 refine ⟨by simp; omega,(hcells.drop l (by omega)).take (h - l) (by simp; omega),fun hne=>?_⟩
 have hlt:l < h:=by
  rcases Nat.lt_or_ge l h with h' | h'
  ·exact h'
  ·exfalso; apply hne; have:h - l = 0:=by omega
   simp [this]
 have hes:es ≠ []:=by rintro rfl; simp at hh; omega
 have hn:n = sz:=by
  cases es with
  | nil=>exact absurd rfl hes
  | cons e es=>simp [sized] at hs; rw [← hs]; exact hcells.1 e (by simp)
 rw [if_neg (by omega),ha hes,Option.map_some,JZ,hn]
theorem ZQ {t elem:TypeId} {n:Nat} {a:Option Addr} {len cap l h m:Nat} {lo hi mx:Option Value} (hu:P.underlying t = some (.slice elem)) (hn:sizeA P elem = some n)
  (hb:(Instr.sliceBounds true len cap lo hi mx).run P w = .ok (l,h,m) w):(Instr.sliceAt t (.slice a len cap) lo hi mx).run P w = .ok (.slice (if m = l then a else a.map (·.add (l * n))) (h - l) (m - l)) w:=by
 simp only [Instr.sliceAt,Sem.run_bind,Q2 hu,Result.andThen_ok,Instr.slice,hb,Qo hn]
 rfl
theorem Q0r {v:Value} (h:Den K (.dat .nils) v):v = .slice none 0 0:=by
 cases h with | dat h=>?_
 cases h
 rfl
theorem QdI {x:AV} {v:Value} (h:Den K x v) {es:List D} (he:elems x = some es) {n c:Nat} (hv:v = .slice none n c):x = .dat .nils:=by
 cases h with
 | dat h=>cases h <;> simp_all
 | any _ _=>simp [elems] at he
 | _=>simp_all
theorem QfG {ts:List AV} {a:Act} (hts:DenL K ts a.tmps.toList) {t:TypeId} {x v:AV} {vx:Value} {lo hi mx:Option Operand} (h:sliceA P t x lo hi mx ts = some v) (hx:Den K x vx) :
  ∃ u,(Instr.sliceAt t vx (lo.map a.eval) (hi.map a.eval) (mx.map a.eval)).run P w = .ok u w ∧ Den K v u:=by
 unfold sliceA at h
 split at h
 ·rename_i s hu
  split at h
  ·exact nomatch h
  ·rename_i hmx
   have:mx = none:=by cases mx <;> simp at hmx ⊢
   subst this
   split at h
   ·rename_i hh h1
    split at h
    ·rename_i l h2
     cases h
     cases hx with | dat hx=>?_
     cases hx
     obtain ⟨e1,e2,e3⟩:=Q1K (P:=P) (w:=w) hts (sl:=false) (Nat.le_refl _) h1 h2
     have hz:(ByteArray.mk s.toArray).size = s.length:=by simp [ByteArray.size]
     refine ⟨.string ⟨((s.drop l).take (hh - l)).toArray⟩,?_,.dat (.str _)⟩
     have hex:(ByteArray.mk s.toArray).extract l hh = ⟨((s.drop l).take (hh - l)).toArray⟩:=by
      apply ByteArray.ext
      rw [ByteArray.data_extract]
      apply Array.ext'
      rw [Array.toList_extract,List.extract_eq_take_drop]
     simp only [Instr.sliceAt,Sem.run_bind,Q2 hu,Result.andThen_ok,Instr.slice,Option.map_none,Option.isSome_none,Bool.false_eq_true,if_false,hz,e1,Sem.run_pure,hex]
    ·exact nomatch h
   ·exact nomatch h
 ·rename_i elem id ver off len n hu
  split at h
  ·exact nomatch h
  rename_i hn
  have hn:sizeA P elem = some n:=by simpa using hn
  cases hx with
  | row _ _ _ _ _ r hr hz hle =>
  have hcap:len ≤ (r.n - off) / n:=(Nat.le_div_iff_mul_le (by omega)).2 (by omega)
  split at h
  ·split at h
   ·rename_i hh h1
    split at h
    ·rename_i l h2
     obtain ⟨e1,e2,e3⟩:=Q1K (P:=P) (w:=w) hts (sl:=true) hcap h1 h2
     refine ⟨_,ZQ hu hn e1,?_⟩
     split at h
     ·rename_i hl0
      subst hl0
      cases h
      have ha:(if (r.n - off) / n = 0 then some (⟨r.b,r.o + off,none⟩:Addr) else (some (⟨r.b,r.o + off,none⟩:Addr)).map (·.add (0 * n))) = some ⟨r.b,r.o + off,none⟩:=by
       split
       ·rfl
       ·rw [Nat.zero_mul,Option.map_some,JZ,Nat.add_zero]
      rw [ha,Nat.sub_zero,Nat.sub_zero]
      refine .row id ver off hh n r hr hz (Nat.le_trans ?_ hle)
      have:=Nat.mul_le_mul_right n e3
      omega
     ·rename_i hl0
      split at h
      ·rename_i hlh
       cases h
       rw [if_neg (by omega),Option.map_some,JZ]
       have h3:l * n ≤ hh * n:=Nat.mul_le_mul_right n e2
       have h4:=Nat.mul_le_mul_right n e3
       have hdiv:(r.n - (off + l * n)) / n = (r.n - off) / n - l:=by
        rw [Nat.sub_add_eq,Nat.mul_comm l n,Nat.sub_mul_div_of_le (r.n - off) n l (by rw [Nat.mul_comm n l]; omega)]
       have:=Den.row (K:=K) id ver (off + l * n) (hh - l) n r hr hz (by rw [Nat.sub_mul]; omega)
       rwa [hdiv,← Nat.add_assoc] at this
      ·rename_i hlh
       cases h
       have hz0:hh - l = 0:=by omega
       rw [hz0]
       have hsome:∃ a',(if (r.n - off) / n = l then some (⟨r.b,r.o + off,none⟩:Addr) else (some (⟨r.b,r.o + off,none⟩:Addr)).map (·.add (l * n))) = some a':=by split <;> exact ⟨_,rfl⟩
       obtain ⟨a',ha'⟩:=hsome
       rw [ha']
       exact .dat (DenD.of_cells (es:=[]) (b:=0) (o:=0) (sz:=0) (Nat.zero_le _) (fun h=>absurd rfl h) ⟨by simp,[],.nil,by simp⟩)
    ·exact nomatch h
   ·exact nomatch h
  ·rename_i mm
   split at h
   ·exact nomatch h
   ·rename_i hx'
    split at h
    ·rename_i m h0
     split at h
     ·rename_i hh h1
      split at h
      ·rename_i l h2
       obtain ⟨e1,e2,e3,e4⟩:=Q6b (P:=P) (w:=w) hts hcap h0 h1 h2
       refine ⟨_,ZQ hu hn e1,?_⟩
       split at h
       ·rename_i hlm
        cases h
        subst hlm
        have hz0:hh - l = 0:=by omega
        rw [hz0,Nat.sub_self,if_pos rfl]
        exact .full [] _ 0 0 0 (fun h=>absurd rfl h) ⟨by simp,[],.nil,by simp⟩
       ·exact nomatch h
      ·exact nomatch h
     ·exact nomatch h
    ·exact nomatch h
 ·rename_i elem hu _
  split at h
  ·rename_i n es hn he
   split at h
   ·rename_i hs
    obtain ⟨ad,cap,rfl,hcap,b,o,sz,ha,hcells⟩:=Yl hx he
    split at h
    ·split at h
     ·rename_i hh h1
      split at h
      ·rename_i l h2
       obtain ⟨e1,e2,e3⟩:=Q1K (P:=P) (w:=w) hts (sl:=true) hcap h1 h2
       refine ⟨_,ZQ hu hn e1,?_⟩
       obtain ⟨p1,p2,p3⟩:=Qrb (m:=cap) hcells ha hs e2 e3 (by omega)
       have p4:∀ a':Addr,ad = some a' → ∃ a'',(if cap = l then ad else ad.map (·.add (l * n))) = some a'':=fun a' e=>by rw [e]; split <;> exact ⟨_,rfl⟩
       simp only at h
       split at h
       ·cases h
        have hnl:=Q0r hx
        simp [elems] at he
        subst he
        simp at hnl
        obtain ⟨rfl,rfl⟩:=hnl
        simp at e3
        subst e3
        simp at e2
        subst e2
        exact .dat .nils
       ·rename_i es0 _
        simp [elems] at he
        subst he
        cases hx with
        | full _ a' b' o' sz' ha' hc' =>
         obtain ⟨a'',ha''⟩:=p4 a' rfl
         split at h
         ·rename_i hhe
          cases h
          subst hhe
          rw [ha''] at p3 ⊢
          have:=Den.full (K:=K) _ a'' b (o + l * sz) sz (fun h=>Option.some.inj (p3 h)) p2
          rwa [p1] at this
         ·cases h
          rw [ha''] at p3 ⊢
          have:=DenD.of_cells (imm:=K.imm) (cap:=es0.length - l) (by rw [p1]; omega) (fun h=>Option.some.inj (p3 h)) p2
          rw [p1] at this
          exact .dat this
       ·rename_i hnn hnf
        cases h
        have hsome:∃ a',ad = some a':=by
         cases ad with
         | some a'=>exact ⟨a',rfl⟩
         | none =>
          exact (hnn (QdI hx he rfl)).elim
        obtain ⟨a',rfl⟩:=hsome
        obtain ⟨a'',ha''⟩:=p4 a' rfl
        rw [ha''] at p3 ⊢
        have:=DenD.of_cells (imm:=K.imm) (cap:=cap - l) (by rw [p1]; omega) (fun h=>Option.some.inj (p3 h)) p2
        rw [p1] at this
        exact .dat this
      ·exact nomatch h
     ·exact nomatch h
    ·rename_i mm
     split at h
     ·exact nomatch h
     ·rename_i hx'
      split at h
      ·rename_i m h0
       split at h
       ·rename_i hh h1
        split at h
        ·rename_i l h2
         obtain ⟨e1,e2,e3,e4⟩:=Q6b (P:=P) (w:=w) hts hcap h0 h1 h2
         refine ⟨_,ZQ hu hn e1,?_⟩
         obtain ⟨p1,p2,p3⟩:=Qrb (m:=m) hcells ha hs e2 (by omega) e3
         have p4:∀ a':Addr,ad = some a' → ∃ a'',(if m = l then ad else ad.map (·.add (l * n))) = some a'':=fun a' e=>by rw [e]; split <;> exact ⟨_,rfl⟩
         simp only at h
         split at h
         ·cases h
          have hnl:=Q0r hx
          simp [elems] at he
          subst he
          simp at hnl
          obtain ⟨rfl,rfl⟩:=hnl
          simp at e4
          subst e4
          simp at e3
          subst e3
          simp at e2
          subst e2
          exact .dat .nils
         ·rename_i es0 _
          simp [elems] at he
          subst he
          cases hx with
          | full _ a' b' o' sz' ha' hc' =>
           obtain ⟨a'',ha''⟩:=p4 a' rfl
           split at h
           ·rename_i hhe
            cases h
            subst hhe
            rw [ha''] at p3 ⊢
            have:=Den.full (K:=K) _ a'' b (o + l * sz) sz (fun h=>Option.some.inj (p3 h)) p2
            rwa [p1] at this
           ·cases h
            rw [ha''] at p3 ⊢
            have:=DenD.of_cells (imm:=K.imm) (cap:=m - l) (by rw [p1]; omega) (fun h=>Option.some.inj (p3 h)) p2
            rw [p1] at this
            exact .dat this
         ·rename_i hnn hnf
          have hsome:∃ a',ad = some a':=by
           cases ad with
           | some a'=>exact ⟨a',rfl⟩
           | none =>
            exact (hnn (QdI hx he rfl)).elim
          obtain ⟨a',rfl⟩:=hsome
          obtain ⟨a'',ha''⟩:=p4 a' rfl
          split at h
          ·rename_i hhe
           cases h
           subst hhe
           rw [ha''] at p3 ⊢
           have:=Den.full (K:=K) _ a'' b (o + l * sz) sz (fun h=>Option.some.inj (p3 h)) p2
           rwa [p1] at this
          ·cases h
           rw [ha''] at p3 ⊢
           have:=DenD.of_cells (imm:=K.imm) (cap:=m - l) (by rw [p1]; omega) (fun h=>Option.some.inj (p3 h)) p2
           rw [p1] at this
           exact .dat this
        ·exact nomatch h
       ·exact nomatch h
      ·exact nomatch h
   ·exact nomatch h
  ·exact nomatch h
 ·exact nomatch h
theorem QpT {isMax:Bool} {a b v:AV} {va vb:Value} (h:mm2 isMax a b = some v) (ha:Den K a va) (hb:Den K b vb) :
  ∃ u,((if isMax then Builtin.max2 else Builtin.min2) va vb).run P w = .ok u w ∧ Den K v u:=by
 unfold mm2 at h
 split at h
 ·cases h
  cases ha with | dat ha=>?_
  cases hb with | dat hb=>?_
  cases ha; cases hb
  cases isMax
  ·exact ⟨_,by simp [Builtin.min2],.dat (.int _ _)⟩
  ·exact ⟨_,by simp [Builtin.max2],.dat (.int _ _)⟩
 ·exact nomatch h
theorem Q1N {isMax:Bool}:∀ {l:List AV} {a v:AV} {va:Value} {vl:List Value},minMaxA isMax a l = some v → Den K a va → DenL K l vl →
  ∃ u,(vl.foldlM (if isMax then Builtin.max2 else Builtin.min2) va).run P w = .ok u w ∧ Den K v u
 | [],a,v,va,_,h,ha,.nil=>by simp [minMaxA] at h; subst h; exact ⟨va,rfl,ha⟩
 | b :: l,a,v,va,_,h,ha,.cons hb hl=>by
  simp only [minMaxA] at h
  split at h
  ·rename_i c hc
   obtain ⟨u,h1,h2⟩:=QpT (P:=P) (w:=w) hc ha hb
   obtain ⟨u',h3,h4⟩:=Q1N h h2 hl
   exact ⟨u',by simp only [List.foldlM_cons,Sem.run_bind,h1,Result.andThen_ok,h3],h4⟩
  ·exact nomatch h
end
end Go.Proofs.YtfdcjngclelnhaaGreat
namespace Go.Proofs.YtfdcjngclelnhaaGreat
open Go Go.RowKit
variable [mode:Inhabited ModeT]
section
variable {P:Program} {K:KW} {w:World} {hc:Nat → Option AObj} {V:Nat → Prop} {ow:Nat → Option OKey}
theorem HB {cs xs:List AV} {vs us:List Value} {off:Nat} (h:DenL K cs vs) (hx:DenL K xs us):DenL K (spliceL cs off xs) (vs.take off ++ us ++ vs.drop (off + us.length)):=by
 unfold spliceL
 rw [hx.length]
 exact ((h.take off).append hx).append (h.drop _)
theorem H7 (off:Nat):∀ (vs:List Value) (k:Nat) (arr:Array Value),off + k + vs.length ≤ arr.size →
  ((vs.zipIdx k).foldl (fun cs (c,j)=>cs.setIfInBounds (off + j) c) arr).toList = arr.toList.take (off + k) ++ vs ++ arr.toList.drop (off + k + vs.length)
 | [],k,arr,_=>by simp
 | v :: vs,k,arr,h=>by
  simp only [List.length_cons] at h
  simp only [List.zipIdx_cons,List.foldl_cons]
  rw [H7 off vs (k + 1) _ (by simp; omega)]
  have hlt:off + k < arr.toList.length:=by simp; omega
  have e1:(arr.setIfInBounds (off + k) v).toList = arr.toList.take (off + k) ++ v :: arr.toList.drop (off + k + 1):=by
   rw [Array.toList_setIfInBounds,List.set_eq_take_append_cons_drop,if_pos hlt]
  rw [e1]
  have hl:(arr.toList.take (off + k)).length = off + k:=by rw [List.length_take]; omega
  have e2:(arr.toList.take (off + k) ++ v :: arr.toList.drop (off + k + 1)).take (off + (k + 1)) = arr.toList.take (off + k) ++ [v]:=by
   rw [List.take_append,hl,List.take_of_length_le (by omega)]
   have:off + (k + 1) - (off + k) = 1:=by omega
   rw [this]; simp
  have e3:(arr.toList.take (off + k) ++ v :: arr.toList.drop (off + k + 1)).drop (off + (k + 1) + vs.length) = arr.toList.drop (off + k + (vs.length + 1)):=by
   rw [List.drop_append,hl,List.drop_of_length_le (by omega)]
   have:off + (k + 1) + vs.length - (off + k) = vs.length + 1:=by omega
   rw [this,List.drop_succ_cons,List.drop_drop,List.nil_append]
   congr 1; omega
  rw [e2,e3]
  simp [List.length_cons]
inductive DenP (K:KW):List (Nat × AV) → List (Nat × Value) → Prop where
 | nil:DenP K [] []
 | cons {i:Nat} {x:AV} {v:Value} {xs:List (Nat × AV)} {vs:List (Nat × Value)}:Den K x v → DenP K xs vs → DenP K ((i,x) :: xs) ((i,v) :: vs)
theorem Yv {ts:List AV} {a:Act} (h:DenL K ts a.tmps.toList):∀ {xs:List (Nat × Operand)} {vs:List (Nat × AV)},evalParts ts xs = some vs → DenP K vs (xs.map fun (i,x)=>(i,a.eval x))
 | [],vs,hx=>by simp [evalParts] at hx; subst hx; exact .nil
 | (i,x) :: xs,vs,hx=>by
  simp only [evalParts] at hx
  split at hx
  ·rename_i v hv
   simp at hx
   obtain ⟨r,hr,rfl⟩:=hx
   exact .cons (Qt h hv) (Yv h hr)
  ·exact nomatch hx
theorem Q8g {place:Nat → Option (Nat × Nat)}:∀ {ps:List (Nat × AV)} {vps:List (Nat × Value)} {cs cs':List AV} {arr:Array Value},fillA place cs ps = some cs' → DenP K ps vps → DenL K cs arr.toList →
  ∃ arr',Instr.fill place arr vps = some arr' ∧ DenL K cs' arr'.toList
 | [],_,cs,cs',arr,h,.nil,hd=>by simp [fillA] at h; subst h; exact ⟨arr,rfl,hd⟩
 | (i,x) :: ps,_,cs,cs',arr,h,.cons (v:=v) hx hp,hd=>by
  simp only [fillA] at h
  split at h
  ·exact nomatch h
  ·rename_i off size hpl
   split at h
   ·rename_i hcond
    obtain ⟨c1,c2⟩:=hcond
    have hcl:=hx.cells
    have hl1:v.cells.size = size:=by have:=hcl.length; simp at this; omega
    have hl2:arr.size = cs.length:=by have:=hd.length; simpa using this
    have hsp:(v.cells.zipIdx.foldl (fun cs (c,j)=>cs.setIfInBounds (off + j) c) arr).toList = arr.toList.take off ++ v.cells.toList ++ arr.toList.drop (off + v.cells.toList.length):=by
     have:=H7 off v.cells.toList 0 arr (by simp; omega)
     rw [← Array.foldl_toList,Array.toList_zipIdx]
     exact this
    obtain ⟨arr',h1,h2⟩:=Q8g (arr:=v.cells.zipIdx.foldl (fun cs (c,j)=>cs.setIfInBounds (off + j) c) arr) h hp (by rw [hsp]; exact HB hd hcl)
    refine ⟨arr',?_,h2⟩
    unfold Instr.fill
    simp only [hpl]
    rw [if_neg (by simp [hl1]; omega)]
    exact h1
   ·exact nomatch h
theorem Q1d:∀ {fs:List Field} {pl:List (Nat × Nat)},fieldPlaces P fs = some pl → (fs.mapM fun f=>(do pure (f.offset,← sizeOf f.type):Sem (Nat × Nat))).run P w = .ok pl w
 | [],pl,h=>by simp [fieldPlaces] at h; subst h; rfl
 | f :: fs,pl,h=>by
  simp only [fieldPlaces] at h
  split at h
  ·rename_i n hn
   simp only [Option.map_eq_some_iff] at h
   obtain ⟨r,hr,rfl⟩:=h
   simp only [List.mapM_cons,Sem.run_bind,Qo hn,Result.andThen_ok,Sem.run_pure,Q1d hr]
  ·exact nomatch h
theorem QfZ {a:Act} {t:TypeId} {parts:Array (Nat × Operand)} {ps:List (Nat × AV)} {v:AV} (hp:DenP K ps (parts.toList.map fun (i,x)=>(i,a.eval x))) (h:buildA P t ps = some v) :
  ∃ u,(Instr.build t (parts.map fun (i,x)=>(i,a.eval x))).run P w = .ok u w ∧ Den K v u:=by
 unfold buildA at h
 split at h
 ·rename_i z fields hz hu
  split at h
  ·rename_i pl hpl
   simp only [Option.map_eq_some_iff] at h
   obtain ⟨cs,hcs,rfl⟩:=h
   obtain ⟨zv,h1,h2,_⟩:=JP (P:=P) (w:=w) (K:=K) hz
   obtain ⟨arr',h3,h4⟩:=Q8g hcs hp h2.cells
   refine ⟨.agg arr',?_,Yk h4⟩
   have hpl':(fields.mapM fun f=>(do pure (f.offset,← sizeOf f.type):Sem (Nat × Nat))).run P w = .ok pl.toArray w:=by
    rw [Array.mapM_eq_mapM_toList]
    rw [Sem.run_map,Q1d hpl]
    rfl
   simp only [Instr.build,Sem.run_bind,h1,Result.andThen_ok,Q2 hu,hpl',Array.toList_map]
   have:(fun (i:Nat)=>pl.toArray[i]?) = fun (i:Nat)=>pl[i]?:=by funext i; simp
   rw [this,h3]
   rfl
  ·exact nomatch h
 ·rename_i z n elem hz hu
  split at h
  ·rename_i sz hs
   simp only [Option.map_eq_some_iff] at h
   obtain ⟨cs,hcs,rfl⟩:=h
   obtain ⟨zv,h1,h2,_⟩:=JP (P:=P) (w:=w) (K:=K) hz
   obtain ⟨arr',h3,h4⟩:=Q8g hcs hp h2.cells
   refine ⟨.agg arr',?_,Yk h4⟩
   simp only [Instr.build,Sem.run_bind,h1,Result.andThen_ok,Q2 hu,Qo hs,Array.toList_map]
   rw [h3]
   rfl
  ·exact nomatch h
 ·exact nomatch h
theorem Qbo {x:AV} {v:Value} {d:D} (h:Den K x v) (hd:x.toD = some d):DenDL K.imm d.cells v.cells.toList:=by
 have:=(Den.dat (K:=K) (QpL h hd)).cells
 have e:(AV.dat d).cells = d.cells.map .dat:=by cases d <;> rfl
 rw [e] at this
 exact H4 this
theorem Qe7 {sz:Nat}:∀ {es:List D} {i:Nat} {d:D},(∀ e,e ∈ es → e.cells.length = sz) → d.cells.length = sz → i < es.length →
  (es.set i d).flatMap D.cells = (es.flatMap D.cells).take (i * sz) ++ d.cells ++ (es.flatMap D.cells).drop (i * sz + sz)
 | [],i,d,_,_,h=>by simp at h
 | e :: es,0,d,h,hd,_=>by
  have he:=h e (by simp)
  simp only [List.set_cons_zero,List.flatMap_cons,Nat.zero_mul,List.take_zero,List.nil_append,Nat.zero_add]
  rw [List.drop_append,← he,List.drop_length]
  simp
 | e :: es,i + 1,d,h,hd,hi=>by
  have he:=h e (by simp)
  simp only [List.set_cons_succ,List.flatMap_cons]
  rw [Qe7 (fun x hx=>h x (by simp [hx])) hd (by simpa using hi)]
  rw [List.take_append,List.drop_append,he]
  have e1:(i + 1) * sz = sz + i * sz:=by rw [Nat.add_mul]; omega
  have e2:(i + 1) * sz - sz = i * sz:=by omega
  have e3:(i + 1) * sz + sz - sz = i * sz + sz:=by omega
  have hA:sz ≤ (i + 1) * sz:=by rw [e1]; omega
  have hB:sz ≤ (i + 1) * sz + sz:=by omega
  rw [e2,e3,List.take_of_length_le (l:=e.cells) (by omega),List.drop_of_length_le (l:=e.cells) (by omega)]
  simp
theorem Qb1 {sz:Nat}:∀ {ps:List (Nat × AV)} {vps:List (Nat × Value)} {es es':List D} {arr:Array Value},fillS sz es ps = some es' → DenP K ps vps → (∀ e,e ∈ es → e.cells.length = sz) → DenDL K.imm (es.flatMap D.cells) arr.toList →
  ∃ arr',Instr.fill (fun i=>some (i * sz,sz)) arr vps = some arr' ∧ DenDL K.imm (es'.flatMap D.cells) arr'.toList ∧ (∀ e,e ∈ es' → e.cells.length = sz) ∧ es'.length = es.length
 | [],_,es,es',arr,h,.nil,hs,hd=>by simp [fillS] at h; subst h; exact ⟨arr,rfl,hd,hs,rfl⟩
 | (i,x) :: ps,_,es,es',arr,h,.cons (v:=v) hx hp,hs,hd=>by
  simp only [fillS] at h
  split at h
  ·rename_i d hdx
   split at h
   ·rename_i hcond
    obtain ⟨c1,c2⟩:=hcond
    have hcl:=Qbo hx hdx
    have hl1:v.cells.size = sz:=by have:=hcl.length; simp at this; omega
    have hl2:arr.size = es.length * sz:=by have:=hd.length; rw [QX hs] at this; simpa using this
    have hle:i * sz + sz ≤ es.length * sz:=by
     have:(i + 1) * sz ≤ es.length * sz:=Nat.mul_le_mul_right sz c2
     rw [Nat.succ_mul] at this; exact this
    have hsp:(v.cells.zipIdx.foldl (fun cs (c,j)=>cs.setIfInBounds (i * sz + j) c) arr).toList = arr.toList.take (i * sz) ++ v.cells.toList ++ arr.toList.drop (i * sz + v.cells.toList.length):=by
     have:=H7 (i * sz) v.cells.toList 0 arr (by simp; omega)
     rw [← Array.foldl_toList,Array.toList_zipIdx]
     exact this
    obtain ⟨arr',h1,h2,h3,h4⟩:=Qb1 (arr:=v.cells.zipIdx.foldl (fun cs (c,j)=>cs.setIfInBounds (i * sz + j) c) arr) h hp (fun e he=>by
      rcases List.mem_or_eq_of_mem_set he with h' | h'
      ·exact hs e h'
      ·rw [h']; exact c1) (by
      rw [hsp,Qe7 hs c1 c2]
      have:v.cells.toList.length = sz:=by simpa using hl1
      rw [this]
      exact ((hd.take _).append hcl).append (hd.drop _))
    refine ⟨arr',?_,h2,h3,by rw [h4]; simp⟩
    unfold Instr.fill
    simp only []
    rw [if_neg (by simp [hl1]; omega)]
    exact h1
   ·exact nomatch h
  ·exact nomatch h
theorem Q1C {d:D} {n:Nat} (hd:d.cells.length = n) (hn:0 < n):∀ (len j:Nat),j < len * n → ((List.replicate len d).flatMap D.cells)[j]? = d.cells[j % n]?
 | 0,j,h=>by simp at h
 | len + 1,j,h=>by
  rw [List.replicate_succ,List.flatMap_cons,List.getElem?_append]
  split
  ·rename_i hj; rw [hd] at hj; rw [Nat.mod_eq_of_lt hj]
  ·rename_i hj
   rw [hd] at hj ⊢
   rw [Nat.succ_mul] at h
   rw [Q1C hd hn len (j - n) (by omega),← Nat.mod_eq_sub_mod (a:=j) (b:=n) (by omega)]
theorem QlZ {d:D} {zv:Value} {n len:Nat} (hz:DenDL K.imm d.cells zv.cells.toList) (hd:d.cells.length = n) (hn:0 < n) :
  DenDL K.imm ((List.replicate len d).flatMap D.cells) ((Array.range (len * n)).map fun i=>zv.cells[i % zv.cells.size]!).toList:=by
 have hsz:zv.cells.size = n:=by have:=hz.length; simpa [hd] using this
 have hfl:((List.replicate len d).flatMap D.cells).length = len * n:=by
  rw [QX (sz:=n) (fun e he=>by rw [(List.mem_replicate.1 he).2]; exact hd)]; simp
 refine DenDL.of_index (by simp [hfl]) fun j x v hx hv=>?_
 have hj:j < len * n:=by
  rcases Nat.lt_or_ge j (len * n) with h | h
  ·exact h
  ·rw [List.getElem?_eq_none (by rw [hfl]; exact h)] at hx; exact nomatch hx
 rw [Q1C hd hn len j hj] at hx
 have hm:j % n < n:=Nat.mod_lt _ hn
 have hv':zv.cells.toList[j % n]? = some v:=by
  rw [Array.getElem?_toList] at hv ⊢
  rw [Array.getElem?_map,Array.getElem?_range,if_pos hj] at hv
  simp only [Option.map_some,Option.some.injEq,hsz] at hv
  have:j % n < zv.cells.size:=by omega
  rw [Array.getElem?_eq_getElem this]
  rw [getElem!_pos zv.cells (j % n) this] at hv
  rw [hv]
 exact hz.index _ _ _ hx hv'
theorem Q46 {a:Act} {t:TypeId} {len:Nat} {parts:Array (Nat × Operand)} {ps:List (Nat × AV)} {v:AV} (hok:Ok K hc V w) (hp:DenP K ps (parts.toList.map fun (i,x)=>(i,a.eval x))) (h:buildSliceA P t len ps = some v) :
  Gives P K w (Instr.buildSlice t len (parts.map fun (i,x)=>(i,a.eval x))) v hc V:=by
 unfold buildSliceA at h
 split at h
 ·rename_i elem hu
  split at h
  ·rename_i n z hn hz
   split at h
   ·rename_i zd hzd
    split at h
    ·rename_i hcond
     obtain ⟨c1,c2,c3⟩:=hcond
     simp only [Option.map_eq_some_iff] at h
     obtain ⟨es,hes,rfl⟩:=h
     obtain ⟨ow,hk⟩:=hok
     obtain ⟨zv,h1,h2,_⟩:=JP (P:=P) (w:=w) (K:=K) hz
     have hzc:=Qbo h2 hzd
     have hsz:zv.cells.size = n:=by have:=hzc.length; simpa [c2] using this
     have key:∀ zc:Array Value,DenDL K.imm ((List.replicate len zd).flatMap D.cells) ((Array.range (len * n)).map fun i=>zc[i % zc.size]!).toList →
       Gives P K w (do
        let some cells:=Instr.fill (fun i=>some (i * n,n)) ((Array.range (len * n)).map (zc[· % zc.size]!)) (parts.map fun (i,x)=>(i,a.eval x)).toList
         | stuck "buildSlice: a part of the wrong size"
        pure (.slice (some (← newRow elem cells)) len len)) (.own .full es) hc V:=by
      intro zc hzc'
      obtain ⟨arr',h3,h4,h5,h6⟩:=Qb1 hes hp (fun e he=>by rw [(List.mem_replicate.1 he).2]; exact c2) hzc'
      obtain ⟨hk2,hext⟩:=hk.row arr' elem
      refine ⟨.slice (some ⟨w.heap.size,0,none⟩) len len,_,_,?_,hext,?_,ow,hk2⟩
      ·rw [Array.toList_map,h3]
       simp only [Sem.run_bind,newRow,run_newObj_alloc,Result.andThen_ok,Sem.run_pure]
      ·have hl:es.length = len:=by rw [h6]; simp
       have:=Den.full (K:=withImm K w.heap.size arr'.size arr') es ⟨w.heap.size,0,none⟩ w.heap.size 0 n (fun _=>rfl) (Q2J (K:=K) h5 h4 (by simp) (fun j v hj=>by rw [← Array.getElem?_toList]; exact hj) hext)
       rwa [hl] at this
     have hlim:¬ len * n > 2 ^ 24:=by omega
     by_cases h0:len * n = 0
     ·have := key #[] (by rw [h0]; have : len = 0 := by rcases Nat.mul_eq_zero.1 h0 with h | h <;> omega
                          subst this; simpa using DenDL.nil)
      obtain ⟨u,w',K',g1,g2⟩:=this
      refine ⟨u,w',K',?_,g2⟩
      rw [← g1]
      simp only [Instr.buildSlice,Sem.run_bind,Q2 hu,Result.andThen_ok,Qo hn,if_neg hlim,if_pos h0,Sem.run_pure]
      try rfl
     ·have:=key zv.cells (QlZ hzc c2 (by omega))
      obtain ⟨u,w',K',g1,g2⟩:=this
      refine ⟨u,w',K',?_,g2⟩
      rw [← g1]
      simp only [Instr.buildSlice,Sem.run_bind,Q2 hu,Result.andThen_ok,Qo hn,if_neg hlim,if_neg h0,Sem.run_pure,h1]
      try rfl
    ·exact nomatch h
   ·exact nomatch h
  ·exact nomatch h
 ·exact nomatch h
end
end Go.Proofs.YtfdcjngclelnhaaGreat
