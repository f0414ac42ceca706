/- Part of a proof. -/
import Derived.Test.YtfdcjngclelnhaaGreatL12
import Derived.Test.YtfdcjngclelnhaaGreatL6
import Derived.Test.YtfdcjngclelnhaaGreatL8
set_option linter.unusedSectionVars false
set_option linter.unusedSimpArgs false
set_option linter.unusedVariables false
namespace Go.Proofs.YtfdcjngclelnhaaGreat
open Go
section
variable {T:List Tok} (hT:TOk T) {N r:Nat} (hN:140 + 8 * (r + 3) ≤ N ∧ r ≤ 200000) (ih:POk T N r) {n d k:Nat} (hd:d ≤ 40) {m:Mix}
include hT hN ih hd
theorem ppart_l5 (hn:N + 2 ≤ n) (hk:k ≤ r) (hm:m.In T k) {f:Nat} (hf:k ≤ f) {n':Nat} (hn':k + 2 ≤ n') {v:Bool} {items froms wheres group having:D} {w:Nat} (h1:okL items) (h2:okL froms) (h3:okL wheres) (h4:okL group) (h5:okL having) :
    Sat T k (bP T d) okQ (fun q=>loopN (p_part_st (fns n) q) n' (.l5 (bP T d m) v items froms wheres group having w)) m (seqO (pList T (keyF T (recs isW T r) d) f) fun o=>seqO (limitF T) fun limit=>retO (qu 1 v items froms wheres group having o limit .nils)):=by
  obtain ⟨n',rfl⟩:∃ z,n' = z + 1:=⟨n' - 1,by omega⟩
  simp only [loopN_s,p_part_st]
  show Sat T k (bP T d) okQ _ m (seqO (seqO (seqO ((recs isW T r).expr d) fun x=>ifO T 1 w_desc (retO (ky x true)) (retO (ky x false))) fun x=>pMore T (keyF T (recs isW T r) d) f [x]) _)
  simp only [seq_seq,seq_if,seq_ret]
  refine Sat.call (ih.expr _ (by omega) _ hd _ (by omega) _ hm) fun x m hm hx=>?_
  simp only [hx,an_true,flEx hx]
  have nx:∀ (jj:Nat),jj ≤ k → ∀ (y:D) (m:Mix),okY y → m.In T jj → Sat T jj (bP T d) okQ (fun q=>bn ((fns n).p_take (bP T d m) [44]) fun x68=>loopN (p_part_st (fns n) q) n' (.l6 x68.1 x68.2 v items froms wheres group having w [y] (w + 1))) m (seqO (pMore T (keyF T (recs isW T r) d) f [y]) fun o=>seqO (limitF T) fun limit=>retO (qu 1 v items froms wheres group having o limit .nils)):=fun jj hjj y m hy hm=>by
    have t1:=p_takeM hT (n:=n) (d:=d) (by omega) hm (show firstL [44] = false from rfl)
    simp only [t1,bn_some]
    exact ppart_l6 hT hN ih hd hn h1 h2 h3 h4 h5 jj (by omega) f (by omega) n' (by omega) m w (w + 1) [y] hm (by simp) (by simp [sized,cells_len hy,ctKy]) (by simp; omega)
  refine Sat.word hT.ends (by decide) hm (p_takeW hT (by omega) hm (by decide)) (fun i j hj hm=>?_) ?_ <;> simp only [cnd_true,cnd_false,Bool.not_true,Bool.not_false]
  · simp only [(okKy hx (s:=true)).2]
    exact nx _ (by omega) _ _ (okKy hx).1 hm
  · simp only [(okKy hx (s:=false)).2]
    exact nx _ (by omega) _ _ (okKy hx).1 hm
theorem ppart_l4 (hn:N + 2 ≤ n) (hk:k ≤ r) (hm:m.In T k) {f:Nat} (hf:k ≤ f) {n':Nat} (hn':k + 3 ≤ n') {v:Bool} {items froms wheres group having:D} {w:Nat} (h1:okL items) (h2:okL froms) (h3:okL wheres) (h4:okL group) (h5:okL having) :
    Sat T k (bP T d) okQ (fun q=>loopN (p_part_st (fns n) q) n' (.l4 (bP T d m) v items froms wheres group having w)) m (sel3F T (recs isW T r) f d v items froms wheres group having):=by
  obtain ⟨n',rfl⟩:∃ z,n' = z + 1:=⟨n' - 1,by omega⟩
  have e1:items.flat = true:=h1
  have e2:froms.flat = true:=h2
  have e3:wheres.flat = true:=h3
  have e4:group.flat = true:=h4
  have e5:having.flat = true:=h5
  simp only [loopN_s,p_part_st,sel3F,orderF,seq_if,seq_seq,seq_ret,e1,e2,e3,e4,e5,an_true]
  refine Sat.word hT.ends (by decide) hm (p_takeW hT (by omega) hm (by decide)) (fun i j hj hm=>?_) ?_ <;> simp only [cnd_true,cnd_false,Bool.not_true,Bool.not_false]
  · refine Sat.callU (p_mustW hT (by omega) (hm.mono (Nat.le_succ _)) (by decide)) fun m hm=>?_
    exact ppart_l5 hT hN ih hd hn (by omega) hm (by omega) (by omega) h1 h2 h3 h4 h5
  · exact plim hT hN ih hd hn hm h1 h2 h3 h4 h5 rfl
theorem ppart_l3 (hn:N + 2 ≤ n) (hk:k ≤ r) (hm:m.In T k) {f:Nat} (hf:k ≤ f) {n':Nat} (hn':k + 4 ≤ n') {v:Bool} {items froms wheres:D} {w:Nat} (h1:okL items) (h2:okL froms) (h3:okL wheres) :
    Sat T k (bP T d) okQ (fun q=>loopN (p_part_st (fns n) q) n' (.l3 (bP T d m) v items froms wheres w)) m (sel2F T (recs isW T r) f d v items froms wheres):=by
  obtain ⟨n',rfl⟩:∃ z,n' = z + 1:=⟨n' - 1,by omega⟩
  simp only [loopN_s,p_part_st,sel2F,groupF,optF,seq_if,seq_seq,seq_ret]
  refine Sat.word hT.ends (by decide) hm (p_takeW hT (by omega) hm (by decide)) (fun i j hj hm=>?_) ?_ <;> simp only [cnd_true,cnd_false,Bool.not_true,Bool.not_false]
  · refine Sat.callU (p_mustW hT (by omega) (hm.mono (Nat.le_succ _)) (by decide)) fun m hm=>?_
    refine Sat.call (p_exprs_ hT hN ih hd (by omega) (by omega) hm (by omega)) fun o m hm ho=>?_
    have ho':o.flat = true:=ho
    simp only [ho',an_true]
    refine Sat.word hT.ends (by decide) hm (p_takeW hT (by omega) hm (by decide)) (fun i j hj hm=>?_) ?_ <;> simp only [cnd_true,cnd_false,Bool.not_true,Bool.not_false]
    · refine Sat.call (ih.expr _ (by omega) _ hd _ (by omega) _ hm) fun x m hm hx=>?_
      simp only [hx,an_true,G_ok hx]
      exact ppart_l4 hT hN ih hd hn (by omega) hm (by omega) (by omega) h1 h2 h3 ho rfl
    · exact ppart_l4 hT hN ih hd hn (by omega) hm (by omega) (by omega) h1 h2 h3 ho rfl
  · exact ppart_l4 hT hN ih hd hn (by omega) hm (by omega) (by omega) h1 h2 h3 rfl rfl
theorem ppart_l2 (hn:N + 2 ≤ n) (hk:k ≤ r) (hm:m.In T k) {f:Nat} (hf:k ≤ f) {n':Nat} (hn':k + 5 ≤ n') {v:Bool} {items froms:D} {w:Nat} (h1:okL items) (h2:okL froms) :
    Sat T k (bP T d) okQ (fun q=>loopN (p_part_st (fns n) q) n' (.l2 (bP T d m) v items froms w)) m (sel1F T (recs isW T r) f d v items froms):=by
  obtain ⟨n',rfl⟩:∃ z,n' = z + 1:=⟨n' - 1,by omega⟩
  simp only [loopN_s,p_part_st,sel1F,optF,seq_if,seq_seq,seq_ret]
  refine Sat.word hT.ends (by decide) hm (p_takeW hT (by omega) hm (by decide)) (fun i j hj hm=>?_) ?_ <;> simp only [cnd_true,cnd_false,Bool.not_true,Bool.not_false]
  · refine Sat.call (ih.expr _ (by omega) _ hd _ (by omega) _ hm) fun x m hm hx=>?_
    simp only [hx,an_true,G_ok hx]
    exact ppart_l3 hT hN ih hd hn (by omega) hm (by omega) (by omega) h1 h2 rfl
  · exact ppart_l3 hT hN ih hd hn (by omega) hm (by omega) (by omega) h1 h2 rfl
theorem pfrom (hn:N + 2 ≤ n) (hk:k ≤ r) (hm:m.In T k) {f:Nat} (hf:k ≤ f) {n':Nat} (hn':k + 5 ≤ n') {v:Bool} {items:D} {w w2:Nat} (h1:okL items) :
    Sat T k (bP T d) okQ (fun q=>bn ((fns n).p_take (bP T d m) [102,114,111,109]) fun x53=>cnd x53.1 (bn ((fns n).p_src x53.2) fun x54=>an (okG 65 x54.1) (loopN (p_part_st (fns n) q) n' (.l2 x54.2 v items (.slice [G 65 x54.1]) w2))) (loopN (p_part_st (fns n) q) n' (.l2 x53.2 v items .nils w))) m (seqO (optF T w_from (sourceF isW T (recs isW T r) f d)) fun froms=>sel1F T (recs isW T r) f d v items froms):=by
  simp only [optF,seq_if,seq_seq,seq_ret]
  refine Sat.word hT.ends (by decide) hm (p_takeW hT (by omega) hm (by decide)) (fun i j hj hm=>?_) ?_ <;> simp only [cnd_true,cnd_false,Bool.not_true,Bool.not_false]
  · refine Sat.call (p_src_ hT hN ih hd (by omega) (by omega) hm (by omega)) fun x m hm hx=>?_
    simp only [hx,an_true,G_ok hx]
    exact ppart_l2 hT hN ih hd hn (by omega) hm (by omega) (by omega) h1 rfl
  · exact ppart_l2 hT hN ih hd hn (by omega) hm (by omega) (by omega) h1 rfl
theorem ppart_l1 (hn:N + 2 ≤ n) {v:Bool} {f:Nat}:∀ k,k ≤ r → k ≤ f → ∀ g,k ≤ g → ∀ n',2 * k + 6 ≤ n' → ∀ (m:Mix) (w w':Nat) (l:List D),m.In T k → l ≠ [] → sized 7 l = true → l.length + k ≤ 500000 →
    Sat T k (bP T d) okQ (fun q=>loopN (p_part_st (fns n) q) n' (.l1 (m.sees T 4 [44]) (bP T d (m.takes T 4 [44])) v w l w')) m (seqO (pMore T (itemF isW T (recs isW T r) d) g l) fun items=>seqO (optF T w_from (sourceF isW T (recs isW T r) f d)) fun froms=>sel1F T (recs isW T r) f d v items froms):=by
  intro k
  induction k using Nat.strongRecOn with
  | ind k IH =>
    intro hk hf g hg n' hn' m w w' l hm hl hs hlen
    obtain ⟨n',rfl⟩:∃ z,n' = z + 1:=⟨n' - 1,by omega⟩
    have he:l.isEmpty = false:=by cases l with | nil=>exact absurd rfl hl | cons _ _=>rfl
    have hbl:l.length.beq l.length = true:=Nat.beq_refl _
    have hbw:w.beq w = true:=Nat.beq_refl _
    have hap:∀ z:D,(l.length + 1).beq (l ++ [z]).length = true:=fun z=>by rw [List.length_append]; exact Nat.beq_refl _
    have hrm:=room_ok (show l.length + 1 ≤ 1000000 by omega) (show 112 ≤ 1000 by decide)
    simp only [loopN_s,p_part_st,an_true,hbw,hbl,he,hs,hrm,hap,cnd_false]
    cases m with
    | er i d' a e =>
      simp only [Mix.sees,Mix.takes,cnd_false]
      exact Sat.spec (pfrom hT hN ih hd hn hk hm hf (v:=v) (by omega) (show okL (.slice l) from rfl)) fun j hj=>nomatch hj
    | ok i =>
      obtain ⟨j,rfl⟩:∃ j,k = j + 1:=⟨k - 1,by have:=hm.2; have:=hm.1; omega⟩
      obtain ⟨g,rfl⟩:∃ z,g = z + 1:=⟨g - 1,by omega⟩
      cases hs1:pSees T 4 [44] i with
      | false =>
        simp only [Mix.sees,Mix.takes,hs1,cnd_false,Bool.false_eq_true,if_false]
        refine Sat.spec (pfrom hT hN ih hd hn hk hm hf (v:=v) (by omega) (show okL (.slice l) from rfl)) fun i' hi'=>?_
        cases hi'
        show _ = (Out.bind (ifO T 4 [44] _ _ i) _)
        simp only [ifO,hs1,Bool.false_eq_true,if_false,retO,Out.bind]
      | true =>
        have hi:=hT.ends.next hm.1 (show (tk T i).kind ≠ 0 by rw [(sees_kind hs1).1]; decide)
        have hm':(Mix.ok (i + 1)).In T j:=⟨hi,by have:=hm.2; omega⟩
        simp only [Mix.sees,Mix.takes,hs1,cnd_true,if_true]
        refine Sat.more (r:=j) (Sat.shift (m':=.ok (i + 1)) (g:=seqO (seqO (seqO ((recs isW T r).expr d) fun x=>seqO (pMust T 1 w_as) fun _=>seqO (pName isW T) fun s=>retO (itm x s)) fun y=>pMore T (itemF isW T (recs isW T r) d) g (l ++ [y])) fun items=>seqO (optF T w_from (sourceF isW T (recs isW T r) f d)) fun froms=>sel1F T (recs isW T r) f d v items froms) ?_ (by
          show (Out.bind (ifO T 4 [44] _ _ i) _) = _
          simp only [ifO,hs1,if_true]; rfl)) (Nat.le_succ j)
        simp only [seq_seq,seq_ret]
        refine Sat.call (ih.expr _ (by omega) _ hd _ (by omega) _ hm') fun x m hm hx=>?_
        simp only [hx,an_true,flEx hx]
        refine Sat.callU (p_mustW hT (by omega) (hm.mono (Nat.le_succ _)) (by decide)) fun m hm=>?_
        refine Sat.call (p_name_ hT (by omega) (hm.mono (Nat.le_succ _))) fun s m hm _=>?_
        have t1:=p_takeM hT (n:=n) (d:=d) (by omega) hm (show firstL [44] = false from rfl)
        simp only [(okItm hx (s:=s)).2,t1,bn_some]
        exact IH j (by omega) (by omega) (by omega) g (by omega) n' (by omega) m w' (w' + 1) (l ++ [itm x s]) hm (by simp) (by cases l with | nil=>exact absurd rfl hl | cons _ _=>exact hs) (by simp; omega)
theorem ppart_l0 (hn:N + 2 ≤ n) (hk:k ≤ r) (hm:m.In T k) {f:Nat} (hf:k ≤ f) {n':Nat} (hn':2 * k + 7 ≤ n') {v:Bool} :
    Sat T k (bP T d) okQ (fun q=>loopN (p_part_st (fns n) q) n' (.l0 (bP T d m) v)) m (sel0F isW T (recs isW T r) f d v):=by
  obtain ⟨n',rfl⟩:∃ z,n' = z + 1:=⟨n' - 1,by omega⟩
  simp only [loopN_s,p_part_st]
  show Sat T k (bP T d) okQ _ m (seqO (seqO (seqO ((recs isW T r).expr d) fun x=>seqO (pMust T 1 w_as) fun _=>seqO (pName isW T) fun s=>retO (itm x s)) fun x=>pMore T (itemF isW T (recs isW T r) d) f [x]) _)
  simp only [seq_seq,seq_ret]
  refine Sat.call (ih.expr _ (by omega) _ hd _ (by omega) _ hm) fun x m hm hx=>?_
  simp only [hx,an_true,flEx hx]
  refine Sat.callU (p_mustW hT (by omega) (hm.mono (Nat.le_succ _)) (by decide)) fun m hm=>?_
  refine Sat.call (p_name_ hT (by omega) (hm.mono (Nat.le_succ _))) fun s m hm _=>?_
  have t1:=p_takeM hT (n:=n) (d:=d) (by omega) hm (show firstL [44] = false from rfl)
  simp only [(okItm hx (s:=s)).2,t1,bn_some]
  exact ppart_l1 hT hN ih hd hn k hk hf f hf n' (by omega) m 11 12 [itm x s] hm (by simp) (by simp [sized,cells_len (okItm hx (s:=s)).1,ctItm]) (by simp; omega)
theorem p_part_ (hn:N + 3 ≤ n) (hk:k ≤ r + 1) {i:Nat} (hm:(Mix.ok i).In T k):Has T k (bP T d) okQ ((fns n).p_part (bP T d (.ok i))) (.ok i) (partF isW T (recs isW T r) (r + 1) d):=by
  obtain ⟨n,rfl,hp⟩:=pos hn; refine Sat.has (X:=fun q=>p_part_st (fns n) q (loopN (p_part_st (fns n) q) n) (.e (bP T d (.ok i)))) ?_ fun o ho=>rawN_eq enc25_inj ho; simp only [p_part_st]
  unfold partF
  refine Sat.word hT.ends (by decide) hm (p_takeM hT (by omega) hm (by decide)) (fun i j hj hm=>?_) ?_ <;> simp only [cnd_true,cnd_false,Bool.not_true,Bool.not_false]
  · refine Sat.call (ih.query _ (by omega) _ hd _ (by omega) _ hm) fun x m hm hx=>?_
    simp only [hx,an_true,flQu hx,G_ok hx]
    refine Sat.callU (p_mustM hT (by omega) (hm.mono (Nat.le_succ _)) (by decide)) fun m hm=>?_
    exact Sat.ret hm hx rfl rfl
  · obtain ⟨j,rfl⟩:∃ j,k = j + 1:=⟨k - 1,by have:=hm.2; have:=hm.1; omega⟩
    unfold selectF
    refine Sat.more (Sat.callU (p_mustW hT (by omega) hm (by decide)) fun m hm=>?_) (Nat.le_succ j)
    simp only [seq_if,seq_ret]
    refine Sat.word hT.ends (by decide) hm (p_takeW hT (by omega) hm (by decide)) (fun i j hj hm=>?_) ?_ <;> simp only [cnd_true,cnd_false,Bool.not_true,Bool.not_false]
    · exact ppart_l0 hT hN ih hd (by omega) (by omega) hm (by omega) (by omega)
    · exact ppart_l0 hT hN ih hd (by omega) (by omega) hm (by omega) (by omega)
theorem pqu_step (hd1:d + 1 ≤ 40) (hn:N + 3 ≤ n) (hk:k ≤ r + 1) (hm:m.In T k) {x:D} (hx:okQ x) {f:Nat} {Lp:(D × B74 → Prop) → B74 → Int → List D → Prop}
    (hL:∀ j,j + 1 ≤ k → ∀ m kind y,m.In T j → okQ y → Sat T j (bP T d) okQ (fun q=>Lp q (bP T (d + 1) m) kind [x,y]) m (quLoop T ((recs isW T r).part (d + 1)) f (qu kind false .nils .nils .nils .nils .nils .nils (-1) (.slice [x,y])))) :
    Sat T k (bP T d) okQ (fun q=>cnd ((bP T (d + 1) m).c4 == 0) (bn ((fns n).p_is (bP T (d + 1) m) [117,110,105,111,110]) fun x85=>cnd x85.1 (bn ((fns n).p_take x85.2 [117,110,105,111,110]) fun x86=>cnd x86.1 (bn ((fns n).p_take x86.2 [97,108,108]) fun x87=>cnd x87.1 (bn ((fns n).p_part x87.2) fun x88=>an (okG 38 x88.1) (Lp q x88.2 3 [x,G 38 x88.1])) (bn ((fns n).p_part x87.2) fun x89=>an (okG 38 x89.1) (Lp q x89.2 2 [x,G 38 x89.1]))) (bn ((fns n).p_take x86.2 [101,120,99,101,112,116]) fun x90=>cnd x90.1 (bn ((fns n).p_part x90.2) fun x91=>an (okG 38 x91.1) (Lp q x91.2 4 [x,G 38 x91.1])) (bn ((fns n).p_must x90.2 [105,110,116,101,114,115,101,99,116]) fun x92=>bn ((fns n).p_part x92) fun x93=>an (okG 38 x93.1) (Lp q x93.2 5 [x,G 38 x93.1])))) (bn ((fns n).p_is x85.2 [101,120,99,101,112,116]) fun x94=>cnd x94.1 (bn ((fns n).p_take x94.2 [117,110,105,111,110]) fun x95=>cnd x95.1 (bn ((fns n).p_take x95.2 [97,108,108]) fun x96=>cnd x96.1 (bn ((fns n).p_part x96.2) fun x97=>an (okG 38 x97.1) (Lp q x97.2 3 [x,G 38 x97.1])) (bn ((fns n).p_part x96.2) fun x98=>an (okG 38 x98.1) (Lp q x98.2 2 [x,G 38 x98.1]))) (bn ((fns n).p_take x95.2 [101,120,99,101,112,116]) fun x99=>cnd x99.1 (bn ((fns n).p_part x99.2) fun x100=>an (okG 38 x100.1) (Lp q x100.2 4 [x,G 38 x100.1])) (bn ((fns n).p_must x99.2 [105,110,116,101,114,115,101,99,116]) fun x101=>bn ((fns n).p_part x101) fun x102=>an (okG 38 x102.1) (Lp q x102.2 5 [x,G 38 x102.1])))) (bn ((fns n).p_is x94.2 [105,110,116,101,114,115,101,99,116]) fun x103=>cnd x103.1 (bn ((fns n).p_take x103.2 [117,110,105,111,110]) fun x104=>cnd x104.1 (bn ((fns n).p_take x104.2 [97,108,108]) fun x105=>cnd x105.1 (bn ((fns n).p_part x105.2) fun x106=>an (okG 38 x106.1) (Lp q x106.2 3 [x,G 38 x106.1])) (bn ((fns n).p_part x105.2) fun x107=>an (okG 38 x107.1) (Lp q x107.2 2 [x,G 38 x107.1]))) (bn ((fns n).p_take x104.2 [101,120,99,101,112,116]) fun x108=>cnd x108.1 (bn ((fns n).p_part x108.2) fun x109=>an (okG 38 x109.1) (Lp q x109.2 4 [x,G 38 x109.1])) (bn ((fns n).p_must x108.2 [105,110,116,101,114,115,101,99,116]) fun x110=>bn ((fns n).p_part x110) fun x111=>an (okG 38 x111.1) (Lp q x111.2 5 [x,G 38 x111.1])))) ((q (x,(B74.mk x103.2.c0 x103.2.c1 (IntKind.i64.wrap (x103.2.c2 - 1)) x103.2.c3 x103.2.c4))))))) ((q (x,(B74.mk (bP T (d + 1) m).c0 (bP T (d + 1) m).c1 (IntKind.i64.wrap ((bP T (d + 1) m).c2 - 1)) (bP T (d + 1) m).c3 (bP T (d + 1) m).c4))))) m (quLoop T ((recs isW T r).part (d + 1)) (f + 1) x):=by
  have go:∀ (kind:Int) (j:Nat),j + 1 ≤ k → ∀ i,(Mix.ok i).In T j → Sat T j (bP T d) okQ (fun q=>bn ((fns n).p_part (bP T (d + 1) (.ok i))) fun x36=>an (okG 38 x36.1) (Lp q x36.2 kind [x,G 38 x36.1])) (.ok i) (seqO ((recs isW T r).part (d + 1)) fun y=>quLoop T ((recs isW T r).part (d + 1)) f (qu kind false .nils .nils .nils .nils .nils .nils (-1) (.slice [x,y]))):=by
    intro kind j hj i hm
    refine Sat.call (ih.part _ (by omega) _ hd1 _ (by omega) _ hm) fun y m hm hy=>?_
    simp only [hy,an_true,G_ok hy]
    exact hL j hj m kind y hm hy
  have i1:=p_isW hT (n:=n) (d:=d + 1) (by omega) hm (show firstL [117,110,105,111,110] = true from rfl)
  have i2:=p_isW hT (n:=n) (d:=d + 1) (by omega) hm (show firstL [101,120,99,101,112,116] = true from rfl)
  have i3:=p_isW hT (n:=n) (d:=d + 1) (by omega) hm (show firstL [105,110,116,101,114,115,101,99,116] = true from rfl)
  have t1:=p_takeW hT (n:=n) (d:=d + 1) (by omega) hm (show firstL [117,110,105,111,110] = true from rfl)
  have t2:=p_takeW hT (n:=n) (d:=d + 1) (by omega) hm (show firstL [101,120,99,101,112,116] = true from rfl)
  have e0:=live_eqP (d:=d + 1) hm
  simp only [e0]
  cases m with
  | er i d' a e =>
    simp only [Mix.live,cnd_false]
    exact Sat.spec (Sat.up hT hd hm hx rfl rfl) fun j hj=>nomatch hj
  | ok i =>
    obtain ⟨j,rfl⟩:∃ j,k = j + 1:=⟨k - 1,by have:=hm.2; have:=hm.1; omega⟩
    simp only [Mix.live,cnd_true,i1,bn_some,i2,i3,t1]
    cases hs1:pSees T 1 [117,110,105,111,110] i with
    | true =>
      have hi:=hT.ends.next hm.1 (show (tk T i).kind ≠ 0 by rw [(sees_kind hs1).1]; decide)
      have hm':(Mix.ok (i + 1)).In T j:=⟨hi,by have:=hm.2; omega⟩
      simp only [Mix.sees,Mix.takes,hs1,cnd_true,if_true]
      refine Sat.more (r:=j) (Sat.shift (m':=.ok (i + 1)) (g:=ifO T 1 w_all (seqO ((recs isW T r).part (d + 1)) fun y=>quLoop T ((recs isW T r).part (d + 1)) f (qu 3 false .nils .nils .nils .nils .nils .nils (-1) (.slice [x,y]))) (seqO ((recs isW T r).part (d + 1)) fun y=>quLoop T ((recs isW T r).part (d + 1)) f (qu 2 false .nils .nils .nils .nils .nils .nils (-1) (.slice [x,y])))) ?_ (by simp only [Mix.sp,quLoop]; simp only [ifO,w_union,hs1,if_true])) (Nat.le_succ j)
      have hm:=hm'
      refine Sat.word hT.ends (by decide) hm (p_takeW hT (by omega) hm (by decide)) (fun i j hj hm=>?_) ?_ <;> simp only [cnd_true,cnd_false,Bool.not_true,Bool.not_false]
      · exact go 3 _ (by omega) _ hm
      · exact go 2 _ (by omega) _ hm
    | false =>
      have t1':(fns n).p_take (bP T (d + 1) (.ok i)) [117,110,105,111,110] = some (false,bP T (d + 1) (.ok i)):=by rw [t1]; simp only [Mix.sees,Mix.takes,hs1,Bool.false_eq_true,if_false]
      cases hs2:pSees T 1 [101,120,99,101,112,116] i with
      | true =>
        have hi:=hT.ends.next hm.1 (show (tk T i).kind ≠ 0 by rw [(sees_kind hs2).1]; decide)
        have hm':(Mix.ok (i + 1)).In T j:=⟨hi,by have:=hm.2; omega⟩
        simp only [Mix.sees,Mix.takes,hs1,hs2,cnd_true,cnd_false,Bool.false_eq_true,if_false,if_true,t2,bn_some]
        refine Sat.more (r:=j) (Sat.shift (m':=.ok (i + 1)) (g:=seqO ((recs isW T r).part (d + 1)) fun y=>quLoop T ((recs isW T r).part (d + 1)) f (qu 4 false .nils .nils .nils .nils .nils .nils (-1) (.slice [x,y]))) ?_ (by simp only [Mix.sp,quLoop]; simp only [ifO,w_union,w_except,hs1,hs2,Bool.false_eq_true,if_false,if_true])) (Nat.le_succ j)
        exact go 4 _ (by omega) _ hm'
      | false =>
        cases hs3:pSees T 1 [105,110,116,101,114,115,101,99,116] i with
        | true =>
          have hi:=hT.ends.next hm.1 (show (tk T i).kind ≠ 0 by rw [(sees_kind hs3).1]; decide)
          have hm':(Mix.ok (i + 1)).In T j:=⟨hi,by have:=hm.2; omega⟩
          have hmu:(fns n).p_must (bP T (d + 1) (.ok i)) [105,110,116,101,114,115,101,99,116] = some (bP T (d + 1) (.ok (i + 1))):=by
            obtain ⟨s,h1,m',rfl,h2,_,h3⟩:=p_mustW hT (n:=n) (d:=d + 1) (by omega) hm (show firstL [105,110,116,101,114,115,101,99,116] = true from rfl)
            simp only [Mix.sp,pMust,hs3,if_true] at h3
            rw [h1,h3.1]
          simp only [Mix.sees,Mix.takes,hs1,hs2,hs3,cnd_true,cnd_false,Bool.false_eq_true,if_false,t2,bn_some,hmu]
          refine Sat.more (r:=j) (Sat.shift (m':=.ok (i + 1)) (g:=seqO ((recs isW T r).part (d + 1)) fun y=>quLoop T ((recs isW T r).part (d + 1)) f (qu 5 false .nils .nils .nils .nils .nils .nils (-1) (.slice [x,y]))) ?_ (by simp only [Mix.sp,quLoop]; simp only [ifO,w_union,w_except,w_intersect,hs1,hs2,hs3,Bool.false_eq_true,if_false,if_true])) (Nat.le_succ j)
          exact go 5 _ (by omega) _ hm'
        | false =>
          simp only [Mix.sees,hs1,hs2,hs3,cnd_false]
          refine Sat.spec (Sat.up hT hd hm hx rfl rfl) fun i' hi'=>?_
          cases hi'
          simp only [quLoop]
          simp only [ifO,w_union,w_except,w_intersect,hs1,hs2,hs3,Bool.false_eq_true,if_false]
theorem pqu_loop (hd1:d + 1 ≤ 40) (hn:N + 3 ≤ n):∀ k,k ≤ r + 1 → ∀ f,k ≤ f → ∀ n',k + 1 ≤ n' → ∀ (m:Mix) (kind:Int) (a c:D) (w:Nat),m.In T k → okQ a → okQ c →
    Sat T k (bP T d) okQ (fun q=>loopN (p_Query_st (fns n) q) n' (.l1 (bP T (d + 1) m) kind [a,c] w)) m (quLoop T ((recs isW T r).part (d + 1)) f (qu kind false .nils .nils .nils .nils .nils .nils (-1) (.slice [a,c]))):=by
  intro k
  induction k using Nat.strongRecOn with
  | ind k IH =>
    intro hk f hf n' hn' m kind a c w hm ha hc
    obtain ⟨n',rfl⟩:∃ z,n' = z + 1:=⟨n' - 1,by omega⟩
    have h1:=pqu_step hT hN ih hd hd1 hn hk hm (x:=qu kind false .nils .nils .nils .nils .nils .nils (-1) (.slice [a,c])) (mkQ rfl) (f:=f - 1) (Lp:=fun q s kind l1=>loopN (p_Query_st (fns n) q) n' (.l1 s kind l1 (w + 10))) fun j hj m' kind' y hm' hy =>
      IH j (by omega) (by omega) (f - 1) (by omega) n' (by omega) m' kind' _ y _ hm' (mkQ rfl) hy
    refine Sat.spec h1 fun i hi=>?_
    subst hi
    obtain ⟨f,rfl⟩:∃ f',f = f' + 1:=⟨f - 1,by have:=hm.2; have:=hm.1; omega⟩
    rfl
theorem p_Query_ (hn:N + 4 ≤ n) (hk:k ≤ r + 1) (hm:m.In T k):Has T k (bP T d) okQ ((fns n).p_Query (bP T d m)) m (queryF isW T (recs isW T r) (r + 1) d):=by
  obtain ⟨n,rfl,hp⟩:=pos hn; refine Sat.has (X:=fun q=>p_Query_st (fns n) q (loopN (p_Query_st (fns n) q) n) (.e (bP T d m))) ?_ fun o ho=>rawN_eq enc25_inj ho; simp only [p_Query_st]
  refine Sat.down hT (by omega) hd hm (fun i d' a e hm=>?_) fun i hm hd1=>?_
  · have hc:((bP T (d + 1) (.er i d' a e)).c4 != 0) = true:=bneE hm.2
    simp only [hc,cnd_true]
    exact Sat.spec (Sat.up hT hd hm (show okQ (qu 0 false .nils .nils .nils .nils .nils .nils 0 .nils) from mkQ rfl) rfl rfl) fun j hj=>nomatch hj
  · have hc:((bP T (d + 1) (.ok i)).c4 != 0) = false:=rfl
    simp only [hc,cnd_false]
    refine Sat.call (p_part_ hT hN ih hd1 (by omega) hk hm) fun x m hm hx=>?_
    simp only [hx,an_true,flQu hx]
    obtain ⟨n',rfl⟩:∃ z,n = z + 1:=⟨n - 1,by omega⟩
    have h1:=pqu_step hT hN ih hd hd1 (show N + 3 ≤ n' + 1 by omega) hk hm hx (f:=r) (Lp:=fun q s kind l1=>loopN (p_Query_st (fns (n' + 1)) q) n' (.l1 s kind l1 20)) fun j hj m' kind' y hm' hy =>
      pqu_loop hT hN ih hd hd1 (by omega) j (by omega) r (by omega) n' (by omega) m' kind' x y _ hm' hx hy
    refine Sat.eq h1 fun q=>?_
    simp only [loopN_s,p_Query_st,flQu hx,G_ok hx]
end
theorem p_base {T:List Tok} (hT:TOk T):POk T 200 0:=by
  have no:∀ {i k:Nat} {p:Prop},k ≤ 0 → (Mix.ok i).In T k → p:=fun hk hm=>by have:=hm.1; have:=hm.2; omega
  have nots:∀ n,190 ≤ n → ∀ d,d ≤ 40 → ∀ k,k ≤ 0 → ∀ m:Mix,m.In T k → Has T k (bP T d) okE ((fns n).p_not (bP T d m)) m ((recs isW T 0).nots d):=fun n hn d hd k hk m hm=>by
    cases m with
    | ok i=>exact no hk hm
    | er i d' a e =>
      obtain ⟨n,rfl,hp⟩:=pos hn; refine Sat.has (X:=fun q=>p_not_st (fns n) q (loopN (p_not_st (fns n) q) n) (.e (bP T d (.er i d' a e)))) ?_ fun o ho=>rawN_eq enc25_inj ho; simp only [p_not_st]
      have hc:((bP T d (.er i d' a e)).c4 != 0) = true:=bneE hm.2
      simp only [hc,cnd_true]
      exact Sat.spec (Sat.ret hm (show okE (ex 0 0 [] [] .nils .nils) from mkE rfl) rfl rfl) fun j hj=>nomatch hj
  have ands:∀ n,195 ≤ n → ∀ d,d ≤ 40 → ∀ k,k ≤ 0 → ∀ m:Mix,m.In T k → Has T k (bP T d) okE ((fns n).p_and (bP T d m)) m ((recs isW T 0).ands d):=fun n hn d hd k hk m hm=>by
    cases m with
    | ok i=>exact no hk hm
    | er i d' a e =>
      refine Has.spec (f:=seqO ((recs isW T 0).nots d) fun x=>pLoop (opIn T 1 [w_and]) (fun _=>.err 0 0) 1 x) ?_ fun j hj=>nomatch hj
      obtain ⟨n,rfl,hp⟩:=pos hn; refine Sat.has (X:=fun q=>p_and_st (fns n) q (loopN (p_and_st (fns n) q) n) (.e (bP T d (.er i d' a e)))) ?_ fun o ho=>rawN_eq enc25_inj ho; simp only [p_and_st]
      refine Sat.call (nots n (by omega) d hd k hk _ hm) fun x m hm hx=>?_
      simp only [hx,an_true,flEx hx]
      refine Sat.eq ?_ fun q=>conwAnd (w:=.l0 _ _ _)
      exact loop1_sat (r:=0) (leaf:=fun q v s=>q (v,s)) hT.ends (by decide) (fun k m hm=>p_takeW hT (by omega) hm (by decide)) (fun j hj i hi=>no (Nat.le_of_eq (Nat.le_zero.1 hj)) hi) (fun w x y hx hy=>r_bin_ (by omega) hx hy) (fun k m x hm hx=>Sat.ret hm hx rfl rfl) k (by omega) 1 (by omega) n (by omega) m x 6 hm hx
  refine ⟨fun n hn d hd k hk m hm=>?_,fun n hn d hd k hk m hm=>?_,fun n hn=>ands n (by omega),fun n hn=>nots n (by omega),fun n hn d hd k hk i hm=>no hk hm,fun n hn d hd k hk i hm=>no hk hm,fun n hn d hd k hk i hm=>no hk hm,fun n hn d hd k hk i hm=>no hk hm⟩
  · cases m with
    | ok i=>exact no hk hm
    | er i d' a e =>
      refine Has.spec (f:=seqO (pDeep T d) fun _=>(recs isW T 0).expr (d + 1)) ?_ fun j hj=>nomatch hj
      obtain ⟨n,rfl,hp⟩:=pos hn; refine Sat.has (X:=fun q=>p_Expr_st (fns n) q (loopN (p_Expr_st (fns n) q) n) (.e (bP T d (.er i d' a e)))) ?_ fun o ho=>rawN_eq enc25_inj ho; simp only [p_Expr_st]
      refine Sat.down hT (by omega) hd hm (fun i d' a e hm=>?_) fun i hm hd1=>no hk hm
      obtain ⟨⟨v,s⟩,hC,m',hs,hin,hg,i',d'',rfl⟩:=ands n (by omega) 0 (by omega) k hk (.er i d' a e) hm
      have hC':(fns n).p_and (bP T (d + 1) (.er i d' a e)) = some (v,s):=hC
      have hs':s = bP T (d + 1) (.er i' d'' a e):=hs
      have hv:okE v:=hg
      obtain ⟨n,rfl⟩:∃ z,n = z + 1:=⟨n - 1,by omega⟩
      refine ⟨(v,bP T d (.er i' (IntKind.i64.wrap (d'' - 1)) a e)),⟨.er i' (IntKind.i64.wrap (d'' - 1)) a e,rfl,hin,hv,_,_,rfl⟩,fun q=>?_⟩
      have t1:=p_takeW hT (n:=n + 1) (d:=d + 1) (by omega) hin (show firstL [111,114] = true from rfl)
      simp only [hC',bn_some,hs',hv,an_true,flEx hv,loopN_s,p_Expr_st,t1,Mix.sees,Mix.takes,cnd_false,G_ok hv]
      rfl
  · cases m with
    | ok i=>exact no hk hm
    | er i d' a e =>
      refine Has.spec (f:=seqO (pDeep T d) fun _=>(recs isW T 0).query (d + 1)) ?_ fun j hj=>nomatch hj
      obtain ⟨n,rfl,hp⟩:=pos hn; refine Sat.has (X:=fun q=>p_Query_st (fns n) q (loopN (p_Query_st (fns n) q) n) (.e (bP T d (.er i d' a e)))) ?_ fun o ho=>rawN_eq enc25_inj ho; simp only [p_Query_st]
      refine Sat.down hT (by omega) hd hm (fun i d' a e hm=>?_) fun i hm hd1=>no hk hm
      have hc:((bP T (d + 1) (.er i d' a e)).c4 != 0) = true:=bneE hm.2
      simp only [hc,cnd_true]
      exact Sat.spec (Sat.up hT hd hm (show okQ (qu 0 false .nils .nils .nils .nils .nils .nils 0 .nils) from mkQ rfl) rfl rfl) fun j hj=>nomatch hj
theorem p_step {T:List Tok} (hT:TOk T) {N r:Nat} (hN:140 + 8 * (r + 3) ≤ N ∧ r ≤ 200000) (ih:POk T N r):POk T (N + 13) (r + 1) :=
  ⟨fun n hn d hd k hk m hm => p_Expr_ hT hN ih hd (by omega) hk hm, fun n hn d hd k hk m hm => p_Query_ hT hN ih hd (by omega) hk hm,
   fun n hn d hd k hk m hm=>p_and_ hT hN ih hd (by omega) hk hm,fun n hn d hd k hk m hm=>p_not_ hT hN ih hd (by omega) hk hm,
   fun n hn d hd k hk i hm=>p_sum_ hT hN ih hd (by omega) hk hm,fun n hn d hd k hk i hm=>p_prod_ hT hN ih hd (by omega) hk hm,
   fun n hn d hd k hk i hm=>p_unary_ hT hN ih hd (by omega) hk hm,fun n hn d hd k hk i hm=>p_part_ hT hN ih hd (by omega) hk hm⟩
theorem p_all {T:List Tok} (hT:TOk T):∀ r,r ≤ 200000 → POk T (200 + 13 * r) r
  | 0,_=>p_base hT
  | r + 1,h=>by
    have h1:=p_step hT (N:=200 + 13 * r) (r:=r) ⟨by omega,by omega⟩ (p_all hT r (by omega))
    rwa [show 200 + 13 * r + 13 = 200 + 13 * (r + 1) by omega] at h1
end Go.Proofs.YtfdcjngclelnhaaGreat
namespace Go.Proofs.YtfdcjngclelnhaaGreat
open Go
set_option maxHeartbeats 1000000
theorem scanGo_bad {s:List UInt8} {p:Nat} {e:Int}:∀ f i T,scanGo s f i T = .bad p e → e ≠ 0
  | 0,i,T,h=>by cases h; decide
  | f + 1,i,T,h=>by
    rw [scanGo] at h
    try dsimp only at h
    split at h
    · split at h
      · cases h; decide
      · cases h
    · split at h
      · cases h; decide
      · split at h
        · cases h; decide
        · exact scanGo_bad f _ _ h
theorem scan_bad {s:List UInt8} {p:Nat} {e:Int} (h:scanR s = .bad p e):e ≠ 0:=by
  unfold scanR at h
  split at h
  · cases h; decide
  · exact scanGo_bad _ _ _ h
def zE:D:=ex 0 0 [] [] .nils .nils
def zQ:D:=qu 0 false .nils .nils .nils .nils .nils .nils 0 .nils
def resD (z:D):Out D → D × Int × Int
  | .ok v _=>(v,0,0)
  | .err a e=>(z,a,e)
def readR (z:D) (f:List Tok → Nat → Out D):SR → D × Int × Int
  | .ok T=>resD z (readAll T (f T))
  | .bad p e=>(z,Int.ofNat p,e)
def exprR (T:List Tok):Nat → Out D:=(recs isW T T.length).expr 0
def queryR (T:List Tok):Nat → Out D:=(recs isW T T.length).query 0
theorem d00:((0:Int) != 0) = false:=rfl
theorem d00b:((0:Int) == 0) = true:=rfl
theorem d10:((10:Int) != 0) = true:=rfl
theorem d10b:((10:Int) == 0) = false:=rfl
theorem r_New_ {n:Nat} (hn:100000 ≤ n) {s:List UInt8}:(fns n).r_New s 0 = some ⟨(scanD (scanR s)).1,0,0,(scanD (scanR s)).2.1,(scanD (scanR s)).2.2⟩:=by
  obtain ⟨n,rfl,hp⟩:=pos (show 99999 + 1 ≤ n by omega)
  refine rawN_eq enc28_inj fun q=>?_
  have hfl:(scanD (scanR s)).1.flat = true:=by cases scanR s <;> rfl
  simp only [loopN_s,r_New_st,k_Scan_ (show 80500 ≤ n by omega),bn_some,hfl,an_true]
theorem zEW:W 0 zE:=.e0
theorem zQW:W 2 zQ:=.qu (.nils rfl) (.nils rfl) (.nils rfl) (.nils rfl) (.nils rfl) (.nils rfl) (.nils rfl)
theorem s_readE_ {n:Nat} (hn:1500000 ≤ n) {s:List UInt8}:(fns n).s_readE s 0 = some (readR zE exprR (scanR s)):=by
  obtain ⟨n,rfl,hp⟩:=pos (show 1499999 + 1 ≤ n by omega)
  refine rawN_eq enc16_inj fun q=>?_
  simp only [loopN_s,s_readE_st,t_Scan_ (show 40400 ≤ n by omega),bn_some]
  cases h:scanR s with
  | bad p e =>
    simp only [scanD,bneE (scan_bad h),cnd_true]
    rfl
  | ok T =>
    have hT:=scan_tok h
    have hl:=hT.len
    have h0:0 < T.length:=hT.ends.1
    obtain ⟨n,rfl,hp⟩:=pos (show 1499998 + 1 ≤ n by omega)
    obtain ⟨⟨v,st⟩,ho,m,hs,hi,hg,hm⟩:=(s_all hT T.length (by omega)).expr n (by omega) 0 (by omega) T.length (Nat.le_refl _) (.ok 0) ⟨h0,by omega⟩
    dsimp only at hs hg hm
    subst hs
    have h1:(fns (n + 1)).s_Expr1 (B105.mk (tD T) 0 0 0 0) = some (v,bS T 0 m):=by
      refine rawN_eq enc0_inj fun q=>?_
      have ho':(fns n).s_expr (B105.mk (tD T) 0 0 0 0) = some (v,bS T 0 m):=ho
      simp only [loopN_s,s_Expr1_st,ho',bn_some,show okG 26 v = true from hg,an_true,flEx hg,G_ok hg]
    have hfl:(tD T).flat = true:=rfl
    simp only [scanD,d00,cnd_false,hfl,an_true,h1,bn_some,show okG 26 v = true from hg,flEx hg,G_ok hg,readR,readAll,exprR]
    cases m with
    | ok i =>
      have hnow:=s_now_ hT (n:=n + 1) (by omega) hi.1 (d:=Int.ofNat 0) (a:=0) (e:=0)
      have hfail:=s_failO hT (n:=n + 1) (by omega) hi.1 (d:=Int.ofNat 0) (x:=10)
      cases hr:(recs isW T T.length).expr 0 0 with
      | err a e=>simp only [Mix.sp,hr] at hm; obtain ⟨_,_,hm⟩:=hm; cases hm
      | ok w j =>
        simp only [Mix.sp,hr] at hm
        obtain ⟨hm1,rfl⟩:=hm
        cases hm1
        simp only [bS,hnow,bn_some,okTok,an_true,cTok0,Out.bind]
        by_cases hk:(tk T i).kind = 0
        · simp only [hk,d00,d00b,cnd_false,if_true,resD]
        · simp only [bneE hk,beqE hk,cnd_true,hfail,bn_some,d10,Bool.false_eq_true,if_false,noGo,resD]
          rfl
    | er i d a e =>
      have hnow:=s_now_ hT (n:=n + 1) (by omega) hi.1 (d:=d) (a:=a) (e:=e)
      have hfail:=s_failE (n:=n + 1) (by omega) (t:=tD T) (i:=Int.ofNat i) (d:=d) (a:=a) (x:=10) hi.2
      cases hr:(recs isW T T.length).expr 0 0 with
      | ok w j=>simp only [Mix.sp,hr] at hm; cases hm.1
      | err a' e' =>
        simp only [Mix.sp,hr] at hm
        obtain ⟨_,_,hm1⟩:=hm
        cases hm1
        simp only [bS,hnow,bn_some,okTok,an_true,cTok0,Out.bind,hfail,bneE hi.2,cnd_true,cnd_same,resD]
        rfl
theorem readE_W {s:List UInt8}:W 0 (readR zE exprR (scanR s)).1:=by
  cases h:scanR s with
  | bad p e=>exact zEW
  | ok T =>
    have hl:=(scan_tok h).len
    show W 0 (resD zE (readAll T (exprR T))).1
    cases hr:readAll T (exprR T) with
    | err a e=>exact zEW
    | ok v i=>exact readAll_W ((y_all T.length (by omega)).expr 0) hr
theorem S_Expr_ {n:Nat} (hn:1500001 ≤ n) {s:List UInt8}:(fns n).S_Expr s = some (readR zE exprR (scanR s)):=by
  obtain ⟨n,rfl,hp⟩:=pos (show 1500000 + 1 ≤ n by omega)
  refine rawN_eq enc17_inj fun q=>?_
  have hg:okG 26 (readR zE exprR (scanR s)).1 = true:=(w_same readE_W).1
  simp only [loopN_s,S_Expr_st,s_readE_ hp,bn_some,hg,an_true,flEx hg,G_ok hg]
theorem r_Expr_ {n:Nat} (hn:1500001 ≤ n) {s:List UInt8}:(fns n).r_Expr s = some (readR zE exprR (scanR s)):=by
  obtain ⟨n,rfl,hp⟩:=pos (show 1500000 + 1 ≤ n by omega)
  refine rawN_eq enc17_inj fun q=>?_
  simp only [loopN_s,r_Expr_st,r_New_ (show 100000 ≤ n by omega),bn_some]
  cases h:scanR s with
  | bad p e =>
    simp only [scanD,bneE (scan_bad h),cnd_true]
    rfl
  | ok T =>
    have hT:=scan_tok h
    have hl:=hT.len
    have h0:0 < T.length:=hT.ends.1
    obtain ⟨⟨v,st⟩,ho,m,hs,hi,hg,hm⟩:=(p_all hT T.length (by omega)).expr n (by omega) 0 (by omega) T.length (Nat.le_refl _) (.ok 0) ⟨h0,by omega⟩
    dsimp only at hs hg hm
    subst hs
    have ho':(fns n).p_Expr (B74.mk (tD T) 0 0 0 0) = some (v,bP T 0 m):=ho
    simp only [scanD,d00,cnd_false,ho',bn_some,show okG 26 v = true from hg,an_true,flEx hg,G_ok hg,readR,readAll,exprR]
    obtain ⟨n,rfl,hp2⟩:=pos (show 1499999 + 1 ≤ n by omega)
    cases m with
    | ok i =>
      have hbad:=p_badO hT (n:=n) (by omega) hi.1 (d:=Int.ofNat 0) (x:=10)
      cases hr:(recs isW T T.length).expr 0 0 with
      | err a e=>simp only [Mix.sp,hr] at hm; obtain ⟨_,_,hm⟩:=hm; cases hm
      | ok w j =>
        simp only [Mix.sp,hr] at hm
        obtain ⟨hm1,rfl⟩:=hm
        cases hm1
        by_cases hk:(tk T i).kind = 0
        · have hend:(fns (n + 1)).p_End (bP T 0 (.ok i)) = some (0,0,bP T 0 (.ok i)):=rawN_eq enc27_inj fun q=>by
            simp only [loopN_s,p_End_st,bP,asL_tD,bn_some,atD_tD hi.1,okTok,an_true,cTok0,hk,d00,d00b,cnd_false,cnd_true]
          simp only [hend,bn_some,d00,d00b,cnd_false,hk,Out.bind,if_true,resD]
        · have hend:(fns (n + 1)).p_End (bP T 0 (.ok i)) = some ((tk T i).at_,10,⟨tD T,Int.ofNat i,Int.ofNat 0,(tk T i).at_,10⟩):=rawN_eq enc27_inj fun q=>by
            simp only [loopN_s,p_End_st,bP,asL_tD,bn_some,atD_tD hi.1,okTok,an_true,cTok0,bneE hk,d00,d00b,cnd_false,cnd_true,hbad,d10b]
          simp only [hend,bn_some,d10,cnd_true,beqE hk,Out.bind,Bool.false_eq_true,if_false,noGo,resD]
          rfl
    | er i d a e =>
      have hend:(fns (n + 1)).p_End (bP T 0 (.er i d a e)) = some (a,e,bP T 0 (.er i d a e)):=rawN_eq enc27_inj fun q=>by
        simp only [loopN_s,p_End_st,bP,beqE hi.2,cnd_false]
      cases hr:(recs isW T T.length).expr 0 0 with
      | ok w j=>simp only [Mix.sp,hr] at hm; cases hm.1
      | err a' e' =>
        simp only [Mix.sp,hr] at hm
        obtain ⟨_,_,hm1⟩:=hm
        cases hm1
        simp only [hend,bn_some,bneE hi.2,cnd_true,Out.bind,resD]
        rfl
theorem s_readQ_ {n:Nat} (hn:1500000 ≤ n) {s:List UInt8}:(fns n).s_readQ s 0 = some (readR zQ queryR (scanR s)):=by
  obtain ⟨n,rfl,hp⟩:=pos (show 1499999 + 1 ≤ n by omega)
  refine rawN_eq enc16_inj fun q=>?_
  simp only [loopN_s,s_readQ_st,t_Scan_ (show 40400 ≤ n by omega),bn_some]
  cases h:scanR s with
  | bad p e =>
    simp only [scanD,bneE (scan_bad h),cnd_true]
    rfl
  | ok T =>
    have hT:=scan_tok h
    have hl:=hT.len
    have h0:0 < T.length:=hT.ends.1
    obtain ⟨n,rfl,hp⟩:=pos (show 1499998 + 1 ≤ n by omega)
    obtain ⟨⟨v,st⟩,ho,m,hs,hi,hg,hm⟩:=(s_all hT T.length (by omega)).query n (by omega) 0 (by omega) T.length (Nat.le_refl _) (.ok 0) ⟨h0,by omega⟩
    dsimp only at hs hg hm
    subst hs
    have h1:(fns (n + 1)).s_Query1 (B105.mk (tD T) 0 0 0 0) = some (v,bS T 0 m):=by
      refine rawN_eq enc0_inj fun q=>?_
      have ho':(fns n).s_query (B105.mk (tD T) 0 0 0 0) = some (v,bS T 0 m):=ho
      simp only [loopN_s,s_Query1_st,ho',bn_some,show okG 38 v = true from hg,an_true,flQu hg,G_ok hg]
    have hfl:(tD T).flat = true:=rfl
    simp only [scanD,d00,cnd_false,hfl,an_true,h1,bn_some,show okG 38 v = true from hg,flQu hg,G_ok hg,readR,readAll,queryR]
    cases m with
    | ok i =>
      have hnow:=s_now_ hT (n:=n + 1) (by omega) hi.1 (d:=Int.ofNat 0) (a:=0) (e:=0)
      have hfail:=s_failO hT (n:=n + 1) (by omega) hi.1 (d:=Int.ofNat 0) (x:=10)
      cases hr:(recs isW T T.length).query 0 0 with
      | err a e=>simp only [Mix.sp,hr] at hm; obtain ⟨_,_,hm⟩:=hm; cases hm
      | ok w j =>
        simp only [Mix.sp,hr] at hm
        obtain ⟨hm1,rfl⟩:=hm
        cases hm1
        simp only [bS,hnow,bn_some,okTok,an_true,cTok0,Out.bind]
        by_cases hk:(tk T i).kind = 0
        · simp only [hk,d00,d00b,cnd_false,if_true,resD]
        · simp only [bneE hk,beqE hk,cnd_true,hfail,bn_some,d10,Bool.false_eq_true,if_false,noGo,resD]
          rfl
    | er i d a e =>
      have hnow:=s_now_ hT (n:=n + 1) (by omega) hi.1 (d:=d) (a:=a) (e:=e)
      have hfail:=s_failE (n:=n + 1) (by omega) (t:=tD T) (i:=Int.ofNat i) (d:=d) (a:=a) (x:=10) hi.2
      cases hr:(recs isW T T.length).query 0 0 with
      | ok w j=>simp only [Mix.sp,hr] at hm; cases hm.1
      | err a' e' =>
        simp only [Mix.sp,hr] at hm
        obtain ⟨_,_,hm1⟩:=hm
        cases hm1
        simp only [bS,hnow,bn_some,okTok,an_true,cTok0,Out.bind,hfail,bneE hi.2,cnd_true,cnd_same,resD]
        rfl
theorem readQ_W {s:List UInt8}:W 2 (readR zQ queryR (scanR s)).1:=by
  cases h:scanR s with
  | bad p e=>exact zQW
  | ok T =>
    have hl:=(scan_tok h).len
    show W 2 (resD zQ (readAll T (queryR T))).1
    cases hr:readAll T (queryR T) with
    | err a e=>exact zQW
    | ok v i=>exact readAll_W ((y_all T.length (by omega)).query 0) hr
theorem S_Query_ {n:Nat} (hn:1500001 ≤ n) {s:List UInt8}:(fns n).S_Query s = some (readR zQ queryR (scanR s)):=by
  obtain ⟨n,rfl,hp⟩:=pos (show 1500000 + 1 ≤ n by omega)
  refine rawN_eq enc17_inj fun q=>?_
  have hg:okG 38 (readR zQ queryR (scanR s)).1 = true:=(w_same readQ_W).1
  simp only [loopN_s,S_Query_st,s_readQ_ hp,bn_some,hg,an_true,flQu hg,G_ok hg]
theorem r_Query_ {n:Nat} (hn:1500001 ≤ n) {s:List UInt8}:(fns n).r_Query s = some (readR zQ queryR (scanR s)):=by
  obtain ⟨n,rfl,hp⟩:=pos (show 1500000 + 1 ≤ n by omega)
  refine rawN_eq enc17_inj fun q=>?_
  simp only [loopN_s,r_Query_st,r_New_ (show 100000 ≤ n by omega),bn_some]
  cases h:scanR s with
  | bad p e =>
    simp only [scanD,bneE (scan_bad h),cnd_true]
    rfl
  | ok T =>
    have hT:=scan_tok h
    have hl:=hT.len
    have h0:0 < T.length:=hT.ends.1
    obtain ⟨⟨v,st⟩,ho,m,hs,hi,hg,hm⟩:=(p_all hT T.length (by omega)).query n (by omega) 0 (by omega) T.length (Nat.le_refl _) (.ok 0) ⟨h0,by omega⟩
    dsimp only at hs hg hm
    subst hs
    have ho':(fns n).p_Query (B74.mk (tD T) 0 0 0 0) = some (v,bP T 0 m):=ho
    simp only [scanD,d00,cnd_false,ho',bn_some,show okG 38 v = true from hg,an_true,flQu hg,G_ok hg,readR,readAll,queryR]
    obtain ⟨n,rfl,hp2⟩:=pos (show 1499999 + 1 ≤ n by omega)
    cases m with
    | ok i =>
      have hbad:=p_badO hT (n:=n) (by omega) hi.1 (d:=Int.ofNat 0) (x:=10)
      cases hr:(recs isW T T.length).query 0 0 with
      | err a e=>simp only [Mix.sp,hr] at hm; obtain ⟨_,_,hm⟩:=hm; cases hm
      | ok w j =>
        simp only [Mix.sp,hr] at hm
        obtain ⟨hm1,rfl⟩:=hm
        cases hm1
        by_cases hk:(tk T i).kind = 0
        · have hend:(fns (n + 1)).p_End (bP T 0 (.ok i)) = some (0,0,bP T 0 (.ok i)):=rawN_eq enc27_inj fun q=>by
            simp only [loopN_s,p_End_st,bP,asL_tD,bn_some,atD_tD hi.1,okTok,an_true,cTok0,hk,d00,d00b,cnd_false,cnd_true]
          simp only [hend,bn_some,d00,d00b,cnd_false,hk,Out.bind,if_true,resD]
        · have hend:(fns (n + 1)).p_End (bP T 0 (.ok i)) = some ((tk T i).at_,10,⟨tD T,Int.ofNat i,Int.ofNat 0,(tk T i).at_,10⟩):=rawN_eq enc27_inj fun q=>by
            simp only [loopN_s,p_End_st,bP,asL_tD,bn_some,atD_tD hi.1,okTok,an_true,cTok0,bneE hk,d00,d00b,cnd_false,cnd_true,hbad,d10b]
          simp only [hend,bn_some,d10,cnd_true,beqE hk,Out.bind,Bool.false_eq_true,if_false,noGo,resD]
          rfl
    | er i d a e =>
      have hend:(fns (n + 1)).p_End (bP T 0 (.er i d a e)) = some (a,e,bP T 0 (.er i d a e)):=rawN_eq enc27_inj fun q=>by
        simp only [loopN_s,p_End_st,bP,beqE hi.2,cnd_false]
      cases hr:(recs isW T T.length).query 0 0 with
      | ok w j=>simp only [Mix.sp,hr] at hm; cases hm.1
      | err a' e' =>
        simp only [Mix.sp,hr] at hm
        obtain ⟨_,_,hm1⟩:=hm
        cases hm1
        simp only [hend,bn_some,bneE hi.2,cnd_true,Out.bind,resD]
        rfl
end Go.Proofs.YtfdcjngclelnhaaGreat
