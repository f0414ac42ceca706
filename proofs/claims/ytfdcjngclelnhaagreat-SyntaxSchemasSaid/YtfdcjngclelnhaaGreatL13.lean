/- Part of a proof. -/
import Derived.Test.YtfdcjngclelnhaaGreatL12
set_option linter.unusedSectionVars false
set_option linter.unusedSimpArgs false
set_option linter.unusedVariables false
namespace Go.Proofs.YtfdcjngclelnhaaGreat
open Go
section
variable {T:List Tok} (hT:TOk T) {N r:Nat} (hN:140 + 8 * (r + 3) ≤ N ∧ r ≤ 200000) (ih:POk T N r) {n d k:Nat} (hd:d ≤ 40) {m:Mix}
include hT hN ih hd
theorem Qp1 (hn:N + 2 ≤ n) (hk:k ≤ r) (hm:m.In T k) {f:Nat} (hf:k ≤ f) {n':Nat} (hn':k + 2 ≤ n') {v:Bool} {items froms wheres group having:D} {w:Nat} (h1:ZZ items) (h2:ZZ froms) (h3:ZZ wheres) (h4:ZZ group) (h5:ZZ having) :
  Sat T k (bP T d) YJ (fun q=>loopN (QI (Q8 n) q) n' (.l5 (bP T d m) v items froms wheres group having w)) m (Qc (Ye T (Q9Y T (Qj isW T r) d) f) fun o=>Qc (Q0h T) fun limit=>Qx (qu 1 v items froms wheres group having o limit .nils)):=by
 obtain ⟨n',rfl⟩:∃ z,n' = z + 1:=⟨n' - 1,by omega⟩
 simp only [Q4,QI]
 show Sat T k (bP T d) YJ _ m (Qc (Qc (Qc ((Qj isW T r).expr d) fun x=>JJ T 1 Qh7 (Qx (ky x true)) (Qx (ky x false))) fun x=>Z6 T (Q9Y T (Qj isW T r) d) f [x]) _)
 simp only [QY,Zf,QW]
 refine Sat.call (ih.expr _ (by omega) _ hd _ (by omega) _ hm) fun x m hm hx=>?_
 simp only [hx,Q5,JA hx]
 have nx:∀ (jj:Nat),jj ≤ k → ∀ (y:D) (m:Mix),okY y → m.In T jj → Sat T jj (bP T d) YJ (fun q=>bn ((Q8 n).p_take (bP T d m) [44]) fun x68=>loopN (QI (Q8 n) q) n' (.l6 x68.1 x68.2 v items froms wheres group having w [y] (w + 1))) m (Qc (Z6 T (Q9Y T (Qj isW T r) d) f [y]) fun o=>Qc (Q0h T) fun limit=>Qx (qu 1 v items froms wheres group having o limit .nils)):=fun jj hjj y m hy hm=>by
  have t1:=JV hT (n:=n) (d:=d) (by omega) hm (show QT [44] = false from rfl)
  simp only [t1,Q3]
  exact Qo9 hT hN ih hd hn h1 h2 h3 h4 h5 jj (by omega) f (by omega) n' (by omega) m w (w + 1) [y] hm (by simp) (by simp [sized,Z7 hy,Qqb]) (by simp; omega)
 refine Sat.word hT.ends (by decide) hm (Qz hT (by omega) hm (by decide)) (fun i j hj hm=>?_) ?_ <;> simp only [Q1,Q0,Bool.not_true,Bool.not_false]
 ·simp only [(Q8H hx (s:=true)).2]
  exact nx _ (by omega) _ _ (Q8H hx).1 hm
 ·simp only [(Q8H hx (s:=false)).2]
  exact nx _ (by omega) _ _ (Q8H hx).1 hm
theorem Q89 (hn:N + 2 ≤ n) (hk:k ≤ r) (hm:m.In T k) {f:Nat} (hf:k ≤ f) {n':Nat} (hn':k + 3 ≤ n') {v:Bool} {items froms wheres group having:D} {w:Nat} (h1:ZZ items) (h2:ZZ froms) (h3:ZZ wheres) (h4:ZZ group) (h5:ZZ having) :
  Sat T k (bP T d) YJ (fun q=>loopN (QI (Q8 n) q) n' (.l4 (bP T d m) v items froms wheres group having w)) m (Qf8 T (Qj isW T r) f d v items froms wheres group having):=by
 obtain ⟨n',rfl⟩:∃ z,n' = z + 1:=⟨n' - 1,by omega⟩
 have e1:items.flat = true:=h1
 have e2:froms.flat = true:=h2
 have e3:wheres.flat = true:=h3
 have e4:group.flat = true:=h4
 have e5:having.flat = true:=h5
 simp only [Q4,QI,Qf8,QcM,Zf,QY,QW,e1,e2,e3,e4,e5,Q5]
 refine Sat.word hT.ends (by decide) hm (Qz hT (by omega) hm (by decide)) (fun i j hj hm=>?_) ?_ <;> simp only [Q1,Q0,Bool.not_true,Bool.not_false]
 ·refine Sat.callU (JD hT (by omega) (hm.mono (Nat.le_succ _)) (by decide)) fun m hm=>?_
  exact Qp1 hT hN ih hd hn (by omega) hm (by omega) (by omega) h1 h2 h3 h4 h5
 ·exact QrY hT hN ih hd hn hm h1 h2 h3 h4 h5 rfl
theorem Qf5 (hn:N + 2 ≤ n) (hk:k ≤ r) (hm:m.In T k) {f:Nat} (hf:k ≤ f) {n':Nat} (hn':k + 4 ≤ n') {v:Bool} {items froms wheres:D} {w:Nat} (h1:ZZ items) (h2:ZZ froms) (h3:ZZ wheres) :
  Sat T k (bP T d) YJ (fun q=>loopN (QI (Q8 n) q) n' (.l3 (bP T d m) v items froms wheres w)) m (Qfr T (Qj isW T r) f d v items froms wheres):=by
 obtain ⟨n',rfl⟩:∃ z,n' = z + 1:=⟨n' - 1,by omega⟩
 simp only [Q4,QI,Qfr,QcT,Q4v,Zf,QY,QW]
 refine Sat.word hT.ends (by decide) hm (Qz hT (by omega) hm (by decide)) (fun i j hj hm=>?_) ?_ <;> simp only [Q1,Q0,Bool.not_true,Bool.not_false]
 ·refine Sat.callU (JD hT (by omega) (hm.mono (Nat.le_succ _)) (by decide)) fun m hm=>?_
  refine Sat.call (Qn0 hT hN ih hd (by omega) (by omega) hm (by omega)) fun o m hm ho=>?_
  have ho':o.flat = true:=ho
  simp only [ho',Q5]
  refine Sat.word hT.ends (by decide) hm (Qz hT (by omega) hm (by decide)) (fun i j hj hm=>?_) ?_ <;> simp only [Q1,Q0,Bool.not_true,Bool.not_false]
  ·refine Sat.call (ih.expr _ (by omega) _ hd _ (by omega) _ hm) fun x m hm hx=>?_
   simp only [hx,Q5,Qy hx]
   exact Q89 hT hN ih hd hn (by omega) hm (by omega) (by omega) h1 h2 h3 ho rfl
  ·exact Q89 hT hN ih hd hn (by omega) hm (by omega) (by omega) h1 h2 h3 ho rfl
 ·exact Q89 hT hN ih hd hn (by omega) hm (by omega) (by omega) h1 h2 h3 rfl rfl
theorem QeI (hn:N + 2 ≤ n) (hk:k ≤ r) (hm:m.In T k) {f:Nat} (hf:k ≤ f) {n':Nat} (hn':k + 5 ≤ n') {v:Bool} {items froms:D} {w:Nat} (h1:ZZ items) (h2:ZZ froms) :
  Sat T k (bP T d) YJ (fun q=>loopN (QI (Q8 n) q) n' (.l2 (bP T d m) v items froms w)) m (Q61 T (Qj isW T r) f d v items froms):=by
 obtain ⟨n',rfl⟩:∃ z,n' = z + 1:=⟨n' - 1,by omega⟩
 simp only [Q4,QI,Q61,Q4v,Zf,QY,QW]
 refine Sat.word hT.ends (by decide) hm (Qz hT (by omega) hm (by decide)) (fun i j hj hm=>?_) ?_ <;> simp only [Q1,Q0,Bool.not_true,Bool.not_false]
 ·refine Sat.call (ih.expr _ (by omega) _ hd _ (by omega) _ hm) fun x m hm hx=>?_
  simp only [hx,Q5,Qy hx]
  exact Qf5 hT hN ih hd hn (by omega) hm (by omega) (by omega) h1 h2 rfl
 ·exact Qf5 hT hN ih hd hn (by omega) hm (by omega) (by omega) h1 h2 rfl
theorem QqW (hn:N + 2 ≤ n) (hk:k ≤ r) (hm:m.In T k) {f:Nat} (hf:k ≤ f) {n':Nat} (hn':k + 5 ≤ n') {v:Bool} {items:D} {w w2:Nat} (h1:ZZ items) :
  Sat T k (bP T d) YJ (fun q=>bn ((Q8 n).p_take (bP T d m) [102,114,111,109]) fun x53=>cnd x53.1 (bn ((Q8 n).p_src x53.2) fun x54=>an (okG 65 x54.1) (loopN (QI (Q8 n) q) n' (.l2 x54.2 v items (.slice [G 65 x54.1]) w2))) (loopN (QI (Q8 n) q) n' (.l2 x53.2 v items .nils w))) m (Qc (Q4v T Qds (Q0K isW T (Qj isW T r) f d)) fun froms=>Q61 T (Qj isW T r) f d v items froms):=by
 simp only [Q4v,Zf,QY,QW]
 refine Sat.word hT.ends (by decide) hm (Qz hT (by omega) hm (by decide)) (fun i j hj hm=>?_) ?_ <;> simp only [Q1,Q0,Bool.not_true,Bool.not_false]
 ·refine Sat.call (Qry hT hN ih hd (by omega) (by omega) hm (by omega)) fun x m hm hx=>?_
  simp only [hx,Q5,Qy hx]
  exact QeI hT hN ih hd hn (by omega) hm (by omega) (by omega) h1 rfl
 ·exact QeI hT hN ih hd hn (by omega) hm (by omega) (by omega) h1 rfl
theorem Qoo (hn:N + 2 ≤ n) {v:Bool} {f:Nat}:∀ k,k ≤ r → k ≤ f → ∀ g,k ≤ g → ∀ n',2 * k + 6 ≤ n' → ∀ (m:Mix) (w w':Nat) (l:List D),m.In T k → l ≠ [] → sized 7 l = true → l.length + k ≤ 500000 →
  Sat T k (bP T d) YJ (fun q=>loopN (QI (Q8 n) q) n' (.l1 (m.sees T 4 [44]) (bP T d (m.takes T 4 [44])) v w l w')) m (Qc (Z6 T (Q84 isW T (Qj isW T r) d) g l) fun items=>Qc (Q4v T Qds (Q0K isW T (Qj isW T r) f d)) fun froms=>Q61 T (Qj isW T r) f d v items froms):=by
 intro k
 induction k using Nat.strongRecOn with
 | ind k IH =>
  intro hk hf g hg n' hn' m w w' l hm hl hs hlen
  obtain ⟨n',rfl⟩:∃ z,n' = z + 1:=⟨n' - 1,by omega⟩
  have he:l.isEmpty = false:=by cases l with | nil=>exact absurd rfl hl | cons _ _=>rfl
  have hbl:l.length.beq l.length = true:=Nat.beq_refl _
  have hbw:w.beq w = true:=Nat.beq_refl _
  have hap:∀ z:D,(l.length + 1).beq (l ++ [z]).length = true:=fun z=>by rw [List.length_append]; exact Nat.beq_refl _
  have hrm:=ZK (show l.length + 1 ≤ 1000000 by omega) (show 112 ≤ 1000 by decide)
  simp only [Q4,QI,Q5,hbw,hbl,he,hs,hrm,hap,Q0]
  cases m with
  | er i d' a e =>
   simp only [Mix.sees,Mix.takes,Q0]
   exact Sat.spec (QqW hT hN ih hd hn hk hm hf (v:=v) (by omega) (show ZZ (.slice l) from rfl)) fun j hj=>nomatch hj
  | ok i =>
   obtain ⟨j,rfl⟩:∃ j,k = j + 1:=⟨k - 1,by have:=hm.2; have:=hm.1; omega⟩
   obtain ⟨g,rfl⟩:∃ z,g = z + 1:=⟨g - 1,by omega⟩
   cases hs1:JI T 4 [44] i with
   | false =>
    simp only [Mix.sees,Mix.takes,hs1,Q0,Bool.false_eq_true,if_false]
    refine Sat.spec (QqW hT hN ih hd hn hk hm hf (v:=v) (by omega) (show ZZ (.slice l) from rfl)) fun i' hi'=>?_
    cases hi'
    show _ = (Out.bind (JJ T 4 [44] _ _ i) _)
    simp only [JJ,hs1,Bool.false_eq_true,if_false,Qx,Out.bind]
   | true =>
    have hi:=hT.ends.next hm.1 (show (tk T i).kind ≠ 0 by rw [(JN hs1).1]; decide)
    have hm':(Mix.ok (i + 1)).In T j:=⟨hi,by have:=hm.2; omega⟩
    simp only [Mix.sees,Mix.takes,hs1,Q1,if_true]
    refine Sat.more (r:=j) (Sat.shift (m':=.ok (i + 1)) (g:=Qc (Qc (Qc ((Qj isW T r).expr d) fun x=>Qc (QG T 1 Qg8) fun _=>Qc (JX isW T) fun s=>Qx (itm x s)) fun y=>Z6 T (Q84 isW T (Qj isW T r) d) g (l ++ [y])) fun items=>Qc (Q4v T Qds (Q0K isW T (Qj isW T r) f d)) fun froms=>Q61 T (Qj isW T r) f d v items froms) ?_ (by
     show (Out.bind (JJ T 4 [44] _ _ i) _) = _
     simp only [JJ,hs1,if_true]; rfl)) (Nat.le_succ j)
    simp only [QY,QW]
    refine Sat.call (ih.expr _ (by omega) _ hd _ (by omega) _ hm') fun x m hm hx=>?_
    simp only [hx,Q5,JA hx]
    refine Sat.callU (JD hT (by omega) (hm.mono (Nat.le_succ _)) (by decide)) fun m hm=>?_
    refine Sat.call (Jg hT (by omega) (hm.mono (Nat.le_succ _))) fun s m hm _=>?_
    have t1:=JV hT (n:=n) (d:=d) (by omega) hm (show QT [44] = false from rfl)
    simp only [(QaO hx (s:=s)).2,t1,Q3]
    exact IH j (by omega) (by omega) (by omega) g (by omega) n' (by omega) m w' (w' + 1) (l ++ [itm x s]) hm (by simp) (by cases l with | nil=>exact absurd rfl hl | cons _ _=>exact hs) (by simp; omega)
theorem Qf1 (hn:N + 2 ≤ n) (hk:k ≤ r) (hm:m.In T k) {f:Nat} (hf:k ≤ f) {n':Nat} (hn':2 * k + 7 ≤ n') {v:Bool} :
  Sat T k (bP T d) YJ (fun q=>loopN (QI (Q8 n) q) n' (.l0 (bP T d m) v)) m (QiP isW T (Qj isW T r) f d v):=by
 obtain ⟨n',rfl⟩:∃ z,n' = z + 1:=⟨n' - 1,by omega⟩
 simp only [Q4,QI]
 show Sat T k (bP T d) YJ _ m (Qc (Qc (Qc ((Qj isW T r).expr d) fun x=>Qc (QG T 1 Qg8) fun _=>Qc (JX isW T) fun s=>Qx (itm x s)) fun x=>Z6 T (Q84 isW T (Qj isW T r) d) f [x]) _)
 simp only [QY,QW]
 refine Sat.call (ih.expr _ (by omega) _ hd _ (by omega) _ hm) fun x m hm hx=>?_
 simp only [hx,Q5,JA hx]
 refine Sat.callU (JD hT (by omega) (hm.mono (Nat.le_succ _)) (by decide)) fun m hm=>?_
 refine Sat.call (Jg hT (by omega) (hm.mono (Nat.le_succ _))) fun s m hm _=>?_
 have t1:=JV hT (n:=n) (d:=d) (by omega) hm (show QT [44] = false from rfl)
 simp only [(QaO hx (s:=s)).2,t1,Q3]
 exact Qoo hT hN ih hd hn k hk hf f hf n' (by omega) m 11 12 [itm x s] hm (by simp) (by simp [sized,Z7 (QaO hx (s:=s)).1,Qj7]) (by simp; omega)
theorem Qjh (hn:N + 3 ≤ n) (hk:k ≤ r + 1) {i:Nat} (hm:(Mix.ok i).In T k):Has T k (bP T d) YJ ((Q8 n).p_part (bP T d (.ok i))) (.ok i) (Q6O isW T (Qj isW T r) (r + 1) d):=by
 obtain ⟨n,rfl,hp⟩:=QJ hn; refine Sat.has (X:=fun q=>QI (Q8 n) q (loopN (QI (Q8 n) q) n) (.e (bP T d (.ok i)))) ?_ fun o ho=>Q6 QZ ho; simp only [QI]
 unfold Q6O
 refine Sat.word hT.ends (by decide) hm (JV hT (by omega) hm (by decide)) (fun i j hj hm=>?_) ?_ <;> simp only [Q1,Q0,Bool.not_true,Bool.not_false]
 ·refine Sat.call (ih.query _ (by omega) _ hd _ (by omega) _ hm) fun x m hm hx=>?_
  simp only [hx,Q5,Q4w hx,Qy hx]
  refine Sat.callU (Jh hT (by omega) (hm.mono (Nat.le_succ _)) (by decide)) fun m hm=>?_
  exact Sat.ret hm hx rfl rfl
 ·obtain ⟨j,rfl⟩:∃ j,k = j + 1:=⟨k - 1,by have:=hm.2; have:=hm.1; omega⟩
  unfold Q6G
  refine Sat.more (Sat.callU (JD hT (by omega) hm (by decide)) fun m hm=>?_) (Nat.le_succ j)
  simp only [Zf,QW]
  refine Sat.word hT.ends (by decide) hm (Qz hT (by omega) hm (by decide)) (fun i j hj hm=>?_) ?_ <;> simp only [Q1,Q0,Bool.not_true,Bool.not_false]
  ·exact Qf1 hT hN ih hd (by omega) (by omega) hm (by omega) (by omega)
  ·exact Qf1 hT hN ih hd (by omega) (by omega) hm (by omega) (by omega)
theorem Qfk (hd1:d + 1 ≤ 40) (hn:N + 3 ≤ n) (hk:k ≤ r + 1) (hm:m.In T k) {x:D} (hx:YJ x) {f:Nat} {Lp:(D × B74 → Prop) → B74 → Int → List D → Prop}
  (hL:∀ j,j + 1 ≤ k → ∀ m kind y,m.In T j → YJ y → Sat T j (bP T d) YJ (fun q=>Lp q (bP T (d + 1) m) kind [x,y]) m (JY T ((Qj isW T r).part (d + 1)) f (qu kind false .nils .nils .nils .nils .nils .nils (-1) (.slice [x,y])))) :
  Sat T k (bP T d) YJ (fun q=>cnd ((bP T (d + 1) m).c4 == 0) (bn ((Q8 n).p_is (bP T (d + 1) m) [117,110,105,111,110]) fun x85=>cnd x85.1 (bn ((Q8 n).p_take x85.2 [117,110,105,111,110]) fun x86=>cnd x86.1 (bn ((Q8 n).p_take x86.2 [97,108,108]) fun x87=>cnd x87.1 (bn ((Q8 n).p_part x87.2) fun x88=>an (okG 38 x88.1) (Lp q x88.2 3 [x,G 38 x88.1])) (bn ((Q8 n).p_part x87.2) fun x89=>an (okG 38 x89.1) (Lp q x89.2 2 [x,G 38 x89.1]))) (bn ((Q8 n).p_take x86.2 [101,120,99,101,112,116]) fun x90=>cnd x90.1 (bn ((Q8 n).p_part x90.2) fun x91=>an (okG 38 x91.1) (Lp q x91.2 4 [x,G 38 x91.1])) (bn ((Q8 n).p_must x90.2 [105,110,116,101,114,115,101,99,116]) fun x92=>bn ((Q8 n).p_part x92) fun x93=>an (okG 38 x93.1) (Lp q x93.2 5 [x,G 38 x93.1])))) (bn ((Q8 n).p_is x85.2 [101,120,99,101,112,116]) fun x94=>cnd x94.1 (bn ((Q8 n).p_take x94.2 [117,110,105,111,110]) fun x95=>cnd x95.1 (bn ((Q8 n).p_take x95.2 [97,108,108]) fun x96=>cnd x96.1 (bn ((Q8 n).p_part x96.2) fun x97=>an (okG 38 x97.1) (Lp q x97.2 3 [x,G 38 x97.1])) (bn ((Q8 n).p_part x96.2) fun x98=>an (okG 38 x98.1) (Lp q x98.2 2 [x,G 38 x98.1]))) (bn ((Q8 n).p_take x95.2 [101,120,99,101,112,116]) fun x99=>cnd x99.1 (bn ((Q8 n).p_part x99.2) fun x100=>an (okG 38 x100.1) (Lp q x100.2 4 [x,G 38 x100.1])) (bn ((Q8 n).p_must x99.2 [105,110,116,101,114,115,101,99,116]) fun x101=>bn ((Q8 n).p_part x101) fun x102=>an (okG 38 x102.1) (Lp q x102.2 5 [x,G 38 x102.1])))) (bn ((Q8 n).p_is x94.2 [105,110,116,101,114,115,101,99,116]) fun x103=>cnd x103.1 (bn ((Q8 n).p_take x103.2 [117,110,105,111,110]) fun x104=>cnd x104.1 (bn ((Q8 n).p_take x104.2 [97,108,108]) fun x105=>cnd x105.1 (bn ((Q8 n).p_part x105.2) fun x106=>an (okG 38 x106.1) (Lp q x106.2 3 [x,G 38 x106.1])) (bn ((Q8 n).p_part x105.2) fun x107=>an (okG 38 x107.1) (Lp q x107.2 2 [x,G 38 x107.1]))) (bn ((Q8 n).p_take x104.2 [101,120,99,101,112,116]) fun x108=>cnd x108.1 (bn ((Q8 n).p_part x108.2) fun x109=>an (okG 38 x109.1) (Lp q x109.2 4 [x,G 38 x109.1])) (bn ((Q8 n).p_must x108.2 [105,110,116,101,114,115,101,99,116]) fun x110=>bn ((Q8 n).p_part x110) fun x111=>an (okG 38 x111.1) (Lp q x111.2 5 [x,G 38 x111.1])))) ((q (x,(B74.mk x103.2.c0 x103.2.c1 (IntKind.i64.wrap (x103.2.c2 - 1)) x103.2.c3 x103.2.c4))))))) ((q (x,(B74.mk (bP T (d + 1) m).c0 (bP T (d + 1) m).c1 (IntKind.i64.wrap ((bP T (d + 1) m).c2 - 1)) (bP T (d + 1) m).c3 (bP T (d + 1) m).c4))))) m (JY T ((Qj isW T r).part (d + 1)) (f + 1) x):=by
 have go:∀ (kind:Int) (j:Nat),j + 1 ≤ k → ∀ i,(Mix.ok i).In T j → Sat T j (bP T d) YJ (fun q=>bn ((Q8 n).p_part (bP T (d + 1) (.ok i))) fun x36=>an (okG 38 x36.1) (Lp q x36.2 kind [x,G 38 x36.1])) (.ok i) (Qc ((Qj isW T r).part (d + 1)) fun y=>JY T ((Qj isW T r).part (d + 1)) f (qu kind false .nils .nils .nils .nils .nils .nils (-1) (.slice [x,y]))):=by
  intro kind j hj i hm
  refine Sat.call (ih.part _ (by omega) _ hd1 _ (by omega) _ hm) fun y m hm hy=>?_
  simp only [hy,Q5,Qy hy]
  exact hL j hj m kind y hm hy
 have i1:=Q3p hT (n:=n) (d:=d + 1) (by omega) hm (show QT [117,110,105,111,110] = true from rfl)
 have i2:=Q3p hT (n:=n) (d:=d + 1) (by omega) hm (show QT [101,120,99,101,112,116] = true from rfl)
 have i3:=Q3p hT (n:=n) (d:=d + 1) (by omega) hm (show QT [105,110,116,101,114,115,101,99,116] = true from rfl)
 have t1:=Qz hT (n:=n) (d:=d + 1) (by omega) hm (show QT [117,110,105,111,110] = true from rfl)
 have t2:=Qz hT (n:=n) (d:=d + 1) (by omega) hm (show QT [101,120,99,101,112,116] = true from rfl)
 have e0:=Qep (d:=d + 1) hm
 simp only [e0]
 cases m with
 | er i d' a e =>
  simp only [Mix.live,Q0]
  exact Sat.spec (Sat.up hT hd hm hx rfl rfl) fun j hj=>nomatch hj
 | ok i =>
  obtain ⟨j,rfl⟩:∃ j,k = j + 1:=⟨k - 1,by have:=hm.2; have:=hm.1; omega⟩
  simp only [Mix.live,Q1,i1,Q3,i2,i3,t1]
  cases hs1:JI T 1 [117,110,105,111,110] i with
  | true =>
   have hi:=hT.ends.next hm.1 (show (tk T i).kind ≠ 0 by rw [(JN hs1).1]; decide)
   have hm':(Mix.ok (i + 1)).In T j:=⟨hi,by have:=hm.2; omega⟩
   simp only [Mix.sees,Mix.takes,hs1,Q1,if_true]
   refine Sat.more (r:=j) (Sat.shift (m':=.ok (i + 1)) (g:=JJ T 1 Qr4 (Qc ((Qj isW T r).part (d + 1)) fun y=>JY T ((Qj isW T r).part (d + 1)) f (qu 3 false .nils .nils .nils .nils .nils .nils (-1) (.slice [x,y]))) (Qc ((Qj isW T r).part (d + 1)) fun y=>JY T ((Qj isW T r).part (d + 1)) f (qu 2 false .nils .nils .nils .nils .nils .nils (-1) (.slice [x,y])))) ?_ (by simp only [Mix.sp,JY]; simp only [JJ,Q3Q,hs1,if_true])) (Nat.le_succ j)
   have hm:=hm'
   refine Sat.word hT.ends (by decide) hm (Qz hT (by omega) hm (by decide)) (fun i j hj hm=>?_) ?_ <;> simp only [Q1,Q0,Bool.not_true,Bool.not_false]
   ·exact go 3 _ (by omega) _ hm
   ·exact go 2 _ (by omega) _ hm
  | false =>
   have t1':(Q8 n).p_take (bP T (d + 1) (.ok i)) [117,110,105,111,110] = some (false,bP T (d + 1) (.ok i)):=by rw [t1]; simp only [Mix.sees,Mix.takes,hs1,Bool.false_eq_true,if_false]
   cases hs2:JI T 1 [101,120,99,101,112,116] i with
   | true =>
    have hi:=hT.ends.next hm.1 (show (tk T i).kind ≠ 0 by rw [(JN hs2).1]; decide)
    have hm':(Mix.ok (i + 1)).In T j:=⟨hi,by have:=hm.2; omega⟩
    simp only [Mix.sees,Mix.takes,hs1,hs2,Q1,Q0,Bool.false_eq_true,if_false,if_true,t2,Q3]
    refine Sat.more (r:=j) (Sat.shift (m':=.ok (i + 1)) (g:=Qc ((Qj isW T r).part (d + 1)) fun y=>JY T ((Qj isW T r).part (d + 1)) f (qu 4 false .nils .nils .nils .nils .nils .nils (-1) (.slice [x,y]))) ?_ (by simp only [Mix.sp,JY]; simp only [JJ,Q3Q,Q4m,hs1,hs2,Bool.false_eq_true,if_false,if_true])) (Nat.le_succ j)
    exact go 4 _ (by omega) _ hm'
   | false =>
    cases hs3:JI T 1 [105,110,116,101,114,115,101,99,116] i with
    | true =>
     have hi:=hT.ends.next hm.1 (show (tk T i).kind ≠ 0 by rw [(JN hs3).1]; decide)
     have hm':(Mix.ok (i + 1)).In T j:=⟨hi,by have:=hm.2; omega⟩
     have hmu:(Q8 n).p_must (bP T (d + 1) (.ok i)) [105,110,116,101,114,115,101,99,116] = some (bP T (d + 1) (.ok (i + 1))):=by
      obtain ⟨s,h1,m',rfl,h2,_,h3⟩:=JD hT (n:=n) (d:=d + 1) (by omega) hm (show QT [105,110,116,101,114,115,101,99,116] = true from rfl)
      simp only [Mix.sp,QG,hs3,if_true] at h3
      rw [h1,h3.1]
     simp only [Mix.sees,Mix.takes,hs1,hs2,hs3,Q1,Q0,Bool.false_eq_true,if_false,t2,Q3,hmu]
     refine Sat.more (r:=j) (Sat.shift (m':=.ok (i + 1)) (g:=Qc ((Qj isW T r).part (d + 1)) fun y=>JY T ((Qj isW T r).part (d + 1)) f (qu 5 false .nils .nils .nils .nils .nils .nils (-1) (.slice [x,y]))) ?_ (by simp only [Mix.sp,JY]; simp only [JJ,Q3Q,Q4m,Q1z,hs1,hs2,hs3,Bool.false_eq_true,if_false,if_true])) (Nat.le_succ j)
     exact go 5 _ (by omega) _ hm'
    | false =>
     simp only [Mix.sees,hs1,hs2,hs3,Q0]
     refine Sat.spec (Sat.up hT hd hm hx rfl rfl) fun i' hi'=>?_
     cases hi'
     simp only [JY]
     simp only [JJ,Q3Q,Q4m,Q1z,hs1,hs2,hs3,Bool.false_eq_true,if_false]
theorem QnL (hd1:d + 1 ≤ 40) (hn:N + 3 ≤ n):∀ k,k ≤ r + 1 → ∀ f,k ≤ f → ∀ n',k + 1 ≤ n' → ∀ (m:Mix) (kind:Int) (a c:D) (w:Nat),m.In T k → YJ a → YJ c →
  Sat T k (bP T d) YJ (fun q=>loopN (Ja (Q8 n) q) n' (.l1 (bP T (d + 1) m) kind [a,c] w)) m (JY T ((Qj isW T r).part (d + 1)) f (qu kind false .nils .nils .nils .nils .nils .nils (-1) (.slice [a,c]))):=by
 intro k
 induction k using Nat.strongRecOn with
 | ind k IH =>
  intro hk f hf n' hn' m kind a c w hm ha hc
  obtain ⟨n',rfl⟩:∃ z,n' = z + 1:=⟨n' - 1,by omega⟩
  have h1:=Qfk hT hN ih hd hd1 hn hk hm (x:=qu kind false .nils .nils .nils .nils .nils .nils (-1) (.slice [a,c])) (mkQ rfl) (f:=f - 1) (Lp:=fun q s kind l1=>loopN (Ja (Q8 n) q) n' (.l1 s kind l1 (w + 10))) fun j hj m' kind' y hm' hy =>
   IH j (by omega) (by omega) (f - 1) (by omega) n' (by omega) m' kind' _ y _ hm' (mkQ rfl) hy
  refine Sat.spec h1 fun i hi=>?_
  subst hi
  obtain ⟨f,rfl⟩:∃ f',f = f' + 1:=⟨f - 1,by have:=hm.2; have:=hm.1; omega⟩
  rfl
theorem Qn1 (hn:N + 4 ≤ n) (hk:k ≤ r + 1) (hm:m.In T k):Has T k (bP T d) YJ ((Q8 n).p_Query (bP T d m)) m (queryF isW T (Qj isW T r) (r + 1) d):=by
 obtain ⟨n,rfl,hp⟩:=QJ hn; refine Sat.has (X:=fun q=>Ja (Q8 n) q (loopN (Ja (Q8 n) q) n) (.e (bP T d m))) ?_ fun o ho=>Q6 QZ ho; simp only [Ja]
 refine Sat.down hT (by omega) hd hm (fun i d' a e hm=>?_) fun i hm hd1=>?_
 ·have hc:((bP T (d + 1) (.er i d' a e)).c4 != 0) = true:=Q2y hm.2
  simp only [hc,Q1]
  exact Sat.spec (Sat.up hT hd hm (show YJ (qu 0 false .nils .nils .nils .nils .nils .nils 0 .nils) from mkQ rfl) rfl rfl) fun j hj=>nomatch hj
 ·have hc:((bP T (d + 1) (.ok i)).c4 != 0) = false:=rfl
  simp only [hc,Q0]
  refine Sat.call (Qjh hT hN ih hd1 (by omega) hk hm) fun x m hm hx=>?_
  simp only [hx,Q5,Q4w hx]
  obtain ⟨n',rfl⟩:∃ z,n = z + 1:=⟨n - 1,by omega⟩
  have h1:=Qfk hT hN ih hd hd1 (show N + 3 ≤ n' + 1 by omega) hk hm hx (f:=r) (Lp:=fun q s kind l1=>loopN (Ja (Q8 (n' + 1)) q) n' (.l1 s kind l1 20)) fun j hj m' kind' y hm' hy =>
   QnL hT hN ih hd hd1 (by omega) j (by omega) r (by omega) n' (by omega) m' kind' x y _ hm' hx hy
  refine Sat.eq h1 fun q=>?_
  simp only [Q4,Ja,Q4w hx,Qy hx]
end
theorem Qrr {T:List Tok} (hT:TOk T):POk T 200 0:=by
 have no:∀ {i k:Nat} {p:Prop},k ≤ 0 → (Mix.ok i).In T k → p:=fun hk hm=>by have:=hm.1; have:=hm.2; omega
 have nots:∀ n,190 ≤ n → ∀ d,d ≤ 40 → ∀ k,k ≤ 0 → ∀ m:Mix,m.In T k → Has T k (bP T d) JB ((Q8 n).p_not (bP T d m)) m ((Qj isW T 0).nots d):=fun n hn d hd k hk m hm=>by
  cases m with
  | ok i=>exact no hk hm
  | er i d' a e =>
   obtain ⟨n,rfl,hp⟩:=QJ hn; refine Sat.has (X:=fun q=>YF (Q8 n) q (loopN (YF (Q8 n) q) n) (.e (bP T d (.er i d' a e)))) ?_ fun o ho=>Q6 QZ ho; simp only [YF]
   have hc:((bP T d (.er i d' a e)).c4 != 0) = true:=Q2y hm.2
   simp only [hc,Q1]
   exact Sat.spec (Sat.ret hm (show JB (ex 0 0 [] [] .nils .nils) from Hg rfl) rfl rfl) fun j hj=>nomatch hj
 have ands:∀ n,195 ≤ n → ∀ d,d ≤ 40 → ∀ k,k ≤ 0 → ∀ m:Mix,m.In T k → Has T k (bP T d) JB ((Q8 n).p_and (bP T d m)) m ((Qj isW T 0).ands d):=fun n hn d hd k hk m hm=>by
  cases m with
  | ok i=>exact no hk hm
  | er i d' a e =>
   refine Has.spec (f:=Qc ((Qj isW T 0).nots d) fun x=>YU (Yf T 1 [Qdz]) (fun _=>.err 0 0) 1 x) ?_ fun j hj=>nomatch hj
   obtain ⟨n,rfl,hp⟩:=QJ hn; refine Sat.has (X:=fun q=>Zq (Q8 n) q (loopN (Zq (Q8 n) q) n) (.e (bP T d (.er i d' a e)))) ?_ fun o ho=>Q6 QZ ho; simp only [Zq]
   refine Sat.call (nots n (by omega) d hd k hk _ hm) fun x m hm hx=>?_
   simp only [hx,Q5,JA hx]
   refine Sat.eq ?_ fun q=>QiM (w:=.l0 _ _ _)
   exact Q5s (r:=0) (leaf:=fun q v s=>q (v,s)) hT.ends (by decide) (fun k m hm=>Qz hT (by omega) hm (by decide)) (fun j hj i hi=>no (Nat.le_of_eq (Nat.le_zero.1 hj)) hi) (fun w x y hx hy=>Q4z (by omega) hx hy) (fun k m x hm hx=>Sat.ret hm hx rfl rfl) k (by omega) 1 (by omega) n (by omega) m x 6 hm hx
 refine ⟨fun n hn d hd k hk m hm=>?_,fun n hn d hd k hk m hm=>?_,fun n hn=>ands n (by omega),fun n hn=>nots n (by omega),fun n hn d hd k hk i hm=>no hk hm,fun n hn d hd k hk i hm=>no hk hm,fun n hn d hd k hk i hm=>no hk hm,fun n hn d hd k hk i hm=>no hk hm⟩
 ·cases m with
  | ok i=>exact no hk hm
  | er i d' a e =>
   refine Has.spec (f:=Qc (YX T d) fun _=>(Qj isW T 0).expr (d + 1)) ?_ fun j hj=>nomatch hj
   obtain ⟨n,rfl,hp⟩:=QJ hn; refine Sat.has (X:=fun q=>JO (Q8 n) q (loopN (JO (Q8 n) q) n) (.e (bP T d (.er i d' a e)))) ?_ fun o ho=>Q6 QZ ho; simp only [JO]
   refine Sat.down hT (by omega) hd hm (fun i d' a e hm=>?_) fun i hm hd1=>no hk hm
   obtain ⟨⟨v,s⟩,hC,m',hs,hin,hg,i',d'',rfl⟩:=ands n (by omega) 0 (by omega) k hk (.er i d' a e) hm
   have hC':(Q8 n).p_and (bP T (d + 1) (.er i d' a e)) = some (v,s):=hC
   have hs':s = bP T (d + 1) (.er i' d'' a e):=hs
   have hv:JB v:=hg
   obtain ⟨n,rfl⟩:∃ z,n = z + 1:=⟨n - 1,by omega⟩
   refine ⟨(v,bP T d (.er i' (IntKind.i64.wrap (d'' - 1)) a e)),⟨.er i' (IntKind.i64.wrap (d'' - 1)) a e,rfl,hin,hv,_,_,rfl⟩,fun q=>?_⟩
   have t1:=Qz hT (n:=n + 1) (d:=d + 1) (by omega) hin (show QT [111,114] = true from rfl)
   simp only [hC',Q3,hs',hv,Q5,JA hv,Q4,JO,t1,Mix.sees,Mix.takes,Q0,Qy hv]
   rfl
 ·cases m with
  | ok i=>exact no hk hm
  | er i d' a e =>
   refine Has.spec (f:=Qc (YX T d) fun _=>(Qj isW T 0).query (d + 1)) ?_ fun j hj=>nomatch hj
   obtain ⟨n,rfl,hp⟩:=QJ hn; refine Sat.has (X:=fun q=>Ja (Q8 n) q (loopN (Ja (Q8 n) q) n) (.e (bP T d (.er i d' a e)))) ?_ fun o ho=>Q6 QZ ho; simp only [Ja]
   refine Sat.down hT (by omega) hd hm (fun i d' a e hm=>?_) fun i hm hd1=>no hk hm
   have hc:((bP T (d + 1) (.er i d' a e)).c4 != 0) = true:=Q2y hm.2
   simp only [hc,Q1]
   exact Sat.spec (Sat.up hT hd hm (show YJ (qu 0 false .nils .nils .nils .nils .nils .nils 0 .nils) from mkQ rfl) rfl rfl) fun j hj=>nomatch hj
theorem Qrv {T:List Tok} (hT:TOk T) {N r:Nat} (hN:140 + 8 * (r + 3) ≤ N ∧ r ≤ 200000) (ih:POk T N r):POk T (N + 13) (r + 1) :=
 ⟨fun n hn d hd k hk m hm => QpM hT hN ih hd (by omega) hk hm, fun n hn d hd k hk m hm => Qn1 hT hN ih hd (by omega) hk hm,
  fun n hn d hd k hk m hm=>Qhh hT hN ih hd (by omega) hk hm,fun n hn d hd k hk m hm=>Qms hT hN ih hd (by omega) hk hm,
  fun n hn d hd k hk i hm=>QmV hT hN ih hd (by omega) hk hm,fun n hn d hd k hk i hm=>QiQ hT hN ih hd (by omega) hk hm,
  fun n hn d hd k hk i hm=>Qff hT hN ih hd (by omega) hk hm,fun n hn d hd k hk i hm=>Qjh hT hN ih hd (by omega) hk hm⟩
theorem Qr2 {T:List Tok} (hT:TOk T):∀ r,r ≤ 200000 → POk T (200 + 13 * r) r
 | 0,_=>Qrr hT
 | r + 1,h=>by
  have h1:=Qrv hT (N:=200 + 13 * r) (r:=r) ⟨by omega,by omega⟩ (Qr2 hT r (by omega))
  rwa [show 200 + 13 * r + 13 = 200 + 13 * (r + 1) by omega] at h1
end Go.Proofs.YtfdcjngclelnhaaGreat
