/- Part of a proof. -/
import Derived.Test.YtfdcjngclelnhaaGreatL10
import Derived.Test.YtfdcjngclelnhaaGreatL40
set_option linter.unusedSectionVars false
set_option linter.unusedSimpArgs false
set_option linter.unusedVariables false
namespace Go.Proofs.YtfdcjngclelnhaaGreat
open Go
def Qsf:OV B74 → Q3R
 | .l0 a b c e=>.l0 a b c e
def Qsu:OV B74 → Q6F
 | .l0 a b c e=>.l0 a b c e
def Qst:QV B74 → Q6A
 | .l0 a b c=>.l0 a b c
def Qs3:QV B74 → Q3x
 | .l0 a b c=>.l0 a b c
theorem Qmn {S:Q9} {q:D × B74 → Prop} {n:Nat} {w:OV B74}:loopN (ZT S q) n (Qsf w) = loopN (Q2j opsProd S.p_unary S.p_oneOf S.r_bin q) n w:=Jd (fun l w=>by cases w; rfl) n w
theorem QpP {S:Q9} {q:D × B74 → Prop} {n:Nat} {w:OV B74}:loopN (YI S q) n (Qsu w) = loopN (Q2j opsSum S.p_prod S.p_oneOf S.r_bin q) n w:=Jd (fun l w=>by cases w; rfl) n w
theorem QiM {S:Q9} {q:D × B74 → Prop} {n:Nat} {w:QV B74}:loopN (Zq S q) n (Qst w) = loopN (Q3P Qdz S.p_not S.p_take S.r_bin fun v s=>q (v,s)) n w:=Jd (fun l w=>by cases w; rfl) n w
theorem QnD {S:Q9} {q:D × B74 → Prop} {n:Nat} {w:QV B74}:loopN (JO S q) n (Qs3 w) = loopN (Q3P Qoa S.p_and S.p_take S.r_bin fun v s=>q (v,B74.mk s.c0 s.c1 (IntKind.i64.wrap (s.c2 - 1)) s.c3 s.c4)) n w:=Jd (fun l w=>by cases w; rfl) n w
section
variable {T:List Tok} (hT:TOk T) {N r:Nat} (hN:140 + 8 * (r + 3) ≤ N ∧ r ≤ 200000) (ih:POk T N r) {n d k:Nat} (hd:d ≤ 40) {m:Mix}
include hT hN ih hd
theorem QiQ (hn:N + 3 ≤ n) (hk:k ≤ r + 1) {i:Nat} (hm:(Mix.ok i).In T k):Has T k (bP T d) JB ((Q8 n).p_prod (bP T d (.ok i))) (.ok i) (prodF isW T (Qj isW T r) (r + 1) d):=by
 obtain ⟨n,rfl,hp⟩:=QJ hn; refine Sat.has (X:=fun q=>ZT (Q8 n) q (loopN (ZT (Q8 n) q) n) (.e (bP T d (.ok i)))) ?_ fun o ho=>Q6 QZ ho; simp only [ZT]
 refine Sat.call (Qff hT hN ih hd (by omega) hk hm) fun x m hm hx=>?_
 have ho:=fun (k:Nat) (m:Mix) (hm:m.In T k)=>Q8o hT (n:=n) (d:=d) (ops:=opsProd) (by decide) (by decide) (by omega) hm
 have ho1:(Q8 n).p_oneOf (bP T d m) (.slice [.str [42],.str [47],.str [37]]) = _:=ho k m hm
 simp only [hx,Q5,JA hx,ho1,Q3]
 refine Sat.eq ?_ fun q=>Qmn (w:=.l0 _ _ _ _)
 exact Qbn hT.ends ho (by decide) (fun j hj i hi=>ih.unary n (by omega) d hd j hj i hi) (fun w x y hx hy=>Q4z (by omega) hx hy) k hk (r + 1) hk n (by omega) m x 6 hm hx
theorem QmV (hn:N + 4 ≤ n) (hk:k ≤ r + 1) {i:Nat} (hm:(Mix.ok i).In T k):Has T k (bP T d) JB ((Q8 n).p_sum (bP T d (.ok i))) (.ok i) (sumF isW T (Qj isW T r) (r + 1) d):=by
 obtain ⟨n,rfl,hp⟩:=QJ hn; refine Sat.has (X:=fun q=>YI (Q8 n) q (loopN (YI (Q8 n) q) n) (.e (bP T d (.ok i)))) ?_ fun o ho=>Q6 QZ ho; simp only [YI]
 refine Sat.call (QiQ hT hN ih hd (by omega) hk hm) fun x m hm hx=>?_
 have ho:=fun (k:Nat) (m:Mix) (hm:m.In T k)=>Q8o hT (n:=n) (d:=d) (ops:=opsSum) (by decide) (by decide) (by omega) hm
 have ho1:(Q8 n).p_oneOf (bP T d m) (.slice [.str [43],.str [45],.str [124,124]]) = _:=ho k m hm
 simp only [hx,Q5,JA hx,ho1,Q3]
 refine Sat.eq ?_ fun q=>QpP (w:=.l0 _ _ _ _)
 exact Qbn hT.ends ho (by decide) (fun j hj i hi=>ih.prod n (by omega) d hd j hj i hi) (fun w x y hx hy=>Q4z (by omega) hx hy) k hk (r + 1) hk n (by omega) m x 6 hm hx
theorem QrF (hn:N + 5 ≤ n) (hk:k ≤ r + 1) {i:Nat} (hm:(Mix.ok i).In T k):Has T k (bP T d) JB ((Q8 n).p_cmp (bP T d (.ok i))) (.ok i) (QpS isW T (Qj isW T r) (r + 1) d):=by
 obtain ⟨n,rfl,hp⟩:=QJ hn; refine Sat.has (X:=fun q=>Q1p (Q8 n) q (loopN (Q1p (Q8 n) q) n) (.e (bP T d (.ok i)))) ?_ fun o ho=>Q6 QZ ho; simp only [Q1p]
 refine Sat.call (QmV hT hN ih hd (by omega) hk hm) fun x m hm hx=>?_
 have ho1:(Q8 n).p_oneOf (bP T d m) (.slice [.str [61],.str [60,62],.str [60,61],.str [62,61],.str [60],.str [62]]) = some (m.op T opsCmpP,bP T d (m.opTakes T opsCmpP)):=Q8o hT (n:=n) (d:=d) (ops:=opsCmpP) (by decide) (by decide) (by omega) hm
 have e0:(!(([]:List UInt8) == [])) = false:=rfl
 simp only [hx,Q5,JA hx,ho1,Q3,Qy hx]
 have brk:∀ {j:Nat} {v:Int} {m:Mix},j ≤ r → m.In T j → Sat T j (bP T d) JB (fun q=>bn ((Q8 n).p_must (bP T d m) [40]) fun x39=>bn ((Q8 n).p_Query x39) fun x40=>an (okG 38 x40.1) (fl x40.1 [2,3,4,5,6,7,9] (bn ((Q8 n).p_must x40.2 [41]) fun x41=>q ((.agg [.int .i64 13,.int .i64 v,.str [],.str [],.slice [x],.slice [G 38 x40.1]]),x41)))) m (Qc (JF T (Qj isW T r) d) fun q=>Qx (ex 13 v [] [] (Z5 x) (Z5 q))):=by
  intro j v m hj hm
  simp only [JF,QY,QW]
  refine Sat.callU (Jh hT (by omega) (hm.mono (Nat.le_succ _)) (by decide)) fun m hm=>?_
  refine Sat.call (ih.query _ (by omega) _ hd _ (by omega) _ hm) fun y m hm hy=>?_
  simp only [hy,Q5,Q4w hy,Qy hy]
  refine Sat.callU (Jh hT (by omega) (hm.mono (Nat.le_succ _)) (by decide)) fun m hm=>?_
  exact Sat.ret hm (Hg rfl) rfl rfl
 have rest:Sat T k (bP T d) JB (fun q=>bn ((Q8 n).p_take (bP T d m) [105,115]) fun x32=>cnd x32.1 (bn ((Q8 n).p_take x32.2 [110,111,116]) fun x33=>cnd x33.1 (bn ((Q8 n).p_must x33.2 [110,117,108,108]) fun x34=>q ((.agg [.int .i64 9,.int .i64 1,.str [],.str [],.slice [x],.nils]),x34)) (bn ((Q8 n).p_must x33.2 [110,117,108,108]) fun x35=>q ((.agg [.int .i64 9,.int .i64 0,.str [],.str [],.slice [x],.nils]),x35))) (bn ((Q8 n).p_is x32.2 [110,111,116]) fun x36=>cnd x36.1 (bn ((Q8 n).p_take x36.2 [110,111,116]) fun x37=>cnd x37.1 (bn ((Q8 n).p_must x37.2 [105,110]) fun x38=>bn ((Q8 n).p_must x38 [40]) fun x39=>bn ((Q8 n).p_Query x39) fun x40=>an (okG 38 x40.1) (fl x40.1 [2,3,4,5,6,7,9] (bn ((Q8 n).p_must x40.2 [41]) fun x41=>q ((.agg [.int .i64 13,.int .i64 1,.str [],.str [],.slice [x],.slice [G 38 x40.1]]),x41)))) (bn ((Q8 n).p_must x37.2 [105,110]) fun x42=>bn ((Q8 n).p_must x42 [40]) fun x43=>bn ((Q8 n).p_Query x43) fun x44=>an (okG 38 x44.1) (fl x44.1 [2,3,4,5,6,7,9] (bn ((Q8 n).p_must x44.2 [41]) fun x45=>q ((.agg [.int .i64 13,.int .i64 0,.str [],.str [],.slice [x],.slice [G 38 x44.1]]),x45))))) (bn ((Q8 n).p_is x36.2 [105,110]) fun x46=>cnd x46.1 (bn ((Q8 n).p_take x46.2 [110,111,116]) fun x47=>cnd x47.1 (bn ((Q8 n).p_must x47.2 [105,110]) fun x48=>bn ((Q8 n).p_must x48 [40]) fun x49=>bn ((Q8 n).p_Query x49) fun x50=>an (okG 38 x50.1) (fl x50.1 [2,3,4,5,6,7,9] (bn ((Q8 n).p_must x50.2 [41]) fun x51=>q ((.agg [.int .i64 13,.int .i64 1,.str [],.str [],.slice [x],.slice [G 38 x50.1]]),x51)))) (bn ((Q8 n).p_must x47.2 [105,110]) fun x52=>bn ((Q8 n).p_must x52 [40]) fun x53=>bn ((Q8 n).p_Query x53) fun x54=>an (okG 38 x54.1) (fl x54.1 [2,3,4,5,6,7,9] (bn ((Q8 n).p_must x54.2 [41]) fun x55=>q ((.agg [.int .i64 13,.int .i64 0,.str [],.str [],.slice [x],.slice [G 38 x54.1]]),x55))))) (q (x,x46.2))))) m (Q5A T (Qj isW T r) d x):=by
  unfold Q5A
  refine Sat.word hT.ends (by decide) hm (Qz hT (by omega) hm (by decide)) (fun i j hj hm=>?_) ?_ <;> simp only [Q1,Q0,Bool.not_true,Bool.not_false]
  ·unfold isF
   refine Sat.word hT.ends (by decide) hm (Qz hT (by omega) hm (by decide)) (fun i j hj hm=>?_) ?_ <;> simp only [Q1,Q0,Bool.not_true,Bool.not_false]
   ·refine Sat.callU (JD hT (by omega) (hm.mono (Nat.le_succ _)) (by decide)) fun m hm=>?_
    exact Sat.ret hm (Hg rfl) rfl rfl
   ·refine Sat.callU (JD hT (by omega) (hm.mono (Nat.le_succ _)) (by decide)) fun m hm=>?_
    exact Sat.ret hm (Hg rfl) rfl rfl
  have i1:=Q3p hT (n:=n) (d:=d) (by omega) hm (show QT [110,111,116] = true from rfl)
  have i2:=Q3p hT (n:=n) (d:=d) (by omega) hm (show QT [105,110] = true from rfl)
  have t1:=Qz hT (n:=n) (d:=d) (by omega) hm (show QT [110,111,116] = true from rfl)
  simp only [i1,Q3,i2,t1]
  cases m with
  | er i d' a e =>
   simp only [Mix.sees,Q0]
   exact Sat.spec (Sat.ret hm hx rfl rfl) fun j hj=>nomatch hj
  | ok i =>
   obtain ⟨j,rfl⟩:∃ j,k = j + 1:=⟨k - 1,by have:=hm.2; have:=hm.1; omega⟩
   cases hs1:JI T 1 [110,111,116] i with
   | true =>
    have hi:=hT.ends.next hm.1 (show (tk T i).kind ≠ 0 by rw [(JN hs1).1]; decide)
    simp only [Mix.sees,Mix.takes,hs1,Q1,if_true]
    refine Sat.more (r:=j) (Sat.shift (m':=.ok (i + 1)) (g:=Qc (QG T 1 QjL) fun _=>Qc (JF T (Qj isW T r) d) fun q=>Qx (ex 13 1 [] [] (Z5 x) (Z5 q))) ?_ (by simp only [Mix.sp,JJ,Qbb,hs1,if_true])) (Nat.le_succ j)
    have hm':(Mix.ok (i + 1)).In T j:=⟨hi,by have:=hm.2; omega⟩
    refine Sat.callU (JD hT (by omega) (hm'.mono (Nat.le_succ _)) (by decide)) fun m hm=>?_
    exact brk (by omega) hm
   | false =>
    cases hs2:JI T 1 [105,110] i with
    | true =>
     simp only [Mix.sees,Mix.takes,hs1,hs2,Q1,Q0,Bool.false_eq_true,if_false]
     refine Sat.more (r:=j) (Sat.spec (f:=Qc (QG T 1 QjL) fun _=>Qc (JF T (Qj isW T r) d) fun q=>Qx (ex 13 0 [] [] (Z5 x) (Z5 q))) ?_ fun i' hi'=>?_) (Nat.le_succ j)
     ·refine Sat.callU (JD hT (by omega) hm (by decide)) fun m hm=>?_
      exact brk (by omega) hm
     ·cases hi'
      simp only [JJ,Qc,QG,Qbb,QjL,hs1,hs2,Bool.false_eq_true,if_false,if_true,Out.bind]
    | false =>
     simp only [Mix.sees,hs1,hs2,Q0]
     refine Sat.spec (Sat.ret hm hx rfl rfl) fun i' hi'=>?_
     cases hi'
     simp only [JJ,Qbb,QjL,hs1,hs2,Bool.false_eq_true,if_false]
 cases m with
 | er i d' a e =>
  simp only [Mix.op,Mix.opTakes,e0,Q0]
  exact Sat.spec rest fun j hj=>nomatch hj
 | ok i =>
  cases hc:Yf T 4 opsCmp i with
  | none =>
   simp only [Mix.op,Mix.opTakes,QbW,hc,Option.getD_none,e0,Q0]
   refine Sat.spec rest fun j hj=>?_
   cases hj
   simp only [QdZ,hc]
  | some u =>
   have hu:=hc
   rw [Q3E] at hu
   split at hu
   ·rename_i hcc
    simp only [Bool.and_eq_true] at hcc
    cases hu
    have hne':(tk T i).text ≠ []:=(by decide:∀ w ∈ opsCmp,w ≠ []) _ (by simpa using hcc.2)
    have e1:(!((tk T i).text == [])) = true:=by simpa using hne'
    have hi:=hT.ends.next hm.1 (show (tk T i).kind ≠ 0 by rw [eq_of_beq hcc.1]; decide)
    obtain ⟨j,rfl⟩:∃ j,k = j + 1:=⟨k - 1,by have:=hm.2; omega⟩
    have hm':(Mix.ok (i + 1)).In T j:=⟨hi,by have:=hm.2; omega⟩
    simp only [Mix.op,Mix.opTakes,QbW,hc,Option.getD_some,e1,Q1]
    refine Sat.more (r:=j) (Sat.shift (m':=.ok (i + 1)) (g:=Qc ((Qj isW T r).sum d) fun y=>Qx (ZO (tk T i).text x y)) ?_ (by simp only [Mix.sp,QdZ,hc]; rfl)) (Nat.le_succ j)
    refine Sat.call (ih.sum _ (by omega) _ hd _ (by omega) _ hm') fun y m hm hy=>?_
    simp only [hy,Q5,Qy hy,hx,Q4z (show 1 ≤ n by omega) hx hy,Q3,show okG 26 (ZO (tk T i).text x y) = true from Yg,JA (show okG 26 (ZO (tk T i).text x y) = true from Yg),Qy (show okG 26 (ZO (tk T i).text x y) = true from Yg)]
    exact Sat.ret hm Yg rfl rfl
   ·exact nomatch hu
theorem Qms (hn:N + 6 ≤ n) (hk:k ≤ r + 1) (hm:m.In T k):Has T k (bP T d) JB ((Q8 n).p_not (bP T d m)) m (notF isW T (Qj isW T r) (r + 1) d):=by
 obtain ⟨n,rfl,hp⟩:=QJ hn; refine Sat.has (X:=fun q=>YF (Q8 n) q (loopN (YF (Q8 n) q) n) (.e (bP T d m))) ?_ fun o ho=>Q6 QZ ho; simp only [YF]
 cases m with
 | er i d' a e =>
  have hc:((bP T d (.er i d' a e)).c4 != 0) = true:=Q2y hm.2
  simp only [hc,Q1]
  exact Sat.spec (Sat.ret hm (show JB (ex 0 0 [] [] .nils .nils) from Hg rfl) rfl rfl) fun j hj=>nomatch hj
 | ok i =>
 have hc4:((bP T d (.ok i)).c4 != 0) = false:=rfl
 simp only [hc4,Q0]
 unfold notF
 refine Sat.word hT.ends (by decide) hm (Qz hT (by omega) hm (by decide)) (fun i j hj hm=>?_) ?_ <;> simp only [Q1,Q0,Bool.not_true,Bool.not_false]
 ·refine Sat.down hT (by omega) hd hm (fun i d' a e hm=>?_) fun i hm hd1=>?_
  ·have h1:Has T _ (bP T (d + 1)) JB ((Q8 n).p_not (bP T (d + 1) (.er i d' a e))) (.er i d' a e) ((Qj isW T r).nots (d + 1)):=Has.er (d0:=0) (ih.nots n (by omega) 0 (by omega) _ (by omega) (.er i d' a e) hm)
   refine Sat.call h1 fun x m hm hx=>?_
   simp only [hx,Q5,Qy hx]
   exact Sat.up hT hd hm (Hg rfl) rfl rfl
  ·refine Sat.call (ih.nots _ (by omega) _ hd1 _ (by omega) _ hm) fun x m hm hx=>?_
   simp only [hx,Q5,Qy hx]
   exact Sat.up hT hd hm (Hg rfl) rfl rfl
 ·refine Sat.last (QrF hT hN ih hd (by omega) hk hm) fun x m hx q=>?_
  simp only [hx,Q5,JA hx,Qy hx]
theorem Qhh (hn:N + 7 ≤ n) (hk:k ≤ r + 1) (hm:m.In T k):Has T k (bP T d) JB ((Q8 n).p_and (bP T d m)) m (andF isW T (Qj isW T r) (r + 1) d):=by
 obtain ⟨n,rfl,hp⟩:=QJ hn; refine Sat.has (X:=fun q=>Zq (Q8 n) q (loopN (Zq (Q8 n) q) n) (.e (bP T d m))) ?_ fun o ho=>Q6 QZ ho; simp only [Zq]
 refine Sat.call (Qms hT hN ih hd (by omega) hk hm) fun x m hm hx=>?_
 simp only [hx,Q5,JA hx]
 refine Sat.eq ?_ fun q=>QiM (w:=.l0 _ _ _)
 exact Q5s (leaf:=fun q v s=>q (v,s)) hT.ends (by decide) (fun k m hm=>Qz hT (by omega) hm (by decide)) (fun j hj i hi=>ih.nots n (by omega) d hd j hj _ hi) (fun w x y hx hy=>Q4z (by omega) hx hy) (fun k m x hm hx=>Sat.ret hm hx rfl rfl) k hk (r + 1) hk n (by omega) m x 6 hm hx
theorem QpM (hn:N + 8 ≤ n) (hk:k ≤ r + 1) (hm:m.In T k):Has T k (bP T d) JB ((Q8 n).p_Expr (bP T d m)) m (exprF isW T (Qj isW T r) (r + 1) d):=by
 obtain ⟨n,rfl,hp⟩:=QJ hn; refine Sat.has (X:=fun q=>JO (Q8 n) q (loopN (JO (Q8 n) q) n) (.e (bP T d m))) ?_ fun o ho=>Q6 QZ ho; simp only [JO]
 refine Sat.down hT (by omega) hd hm (fun i d' a e hm=>?_) fun i hm hd1=>?_
 ·obtain ⟨⟨v,s⟩,hC,m',hs,hin,hg,i',d'',rfl⟩:=Qhh hT hN ih (d:=0) (by omega) (show N + 7 ≤ n by omega) hk hm
  have hC':(Q8 n).p_and (bP T (d + 1) (.er i d' a e)) = some (v,s):=hC
  have hs':s = bP T (d + 1) (.er i' d'' a e):=hs
  have hv:JB v:=hg
  obtain ⟨n,rfl⟩:∃ z,n = z + 1:=⟨n - 1,by omega⟩
  refine ⟨(v,bP T d (.er i' (IntKind.i64.wrap (d'' - 1)) a e)),⟨.er i' (IntKind.i64.wrap (d'' - 1)) a e,rfl,hin,hv,_,_,rfl⟩,fun q=>?_⟩
  have t1:=Qz hT (n:=n + 1) (d:=d + 1) (by omega) hin (show QT [111,114] = true from rfl)
  simp only [hC',Q3,hs',hv,Q5,JA hv,Q4,JO,t1,Mix.sees,Mix.takes,Q0,Qy hv]
  rfl
 ·refine Sat.call (Qhh hT hN ih hd1 (by omega) hk hm) fun x m hm hx=>?_
  simp only [hx,Q5,JA hx]
  refine Sat.eq ?_ fun q=>QnD (w:=.l0 _ _ _)
  exact Q5s (leaf:=fun q v s=>q (v,B74.mk s.c0 s.c1 (IntKind.i64.wrap (s.c2 - 1)) s.c3 s.c4)) hT.ends (by decide) (fun k m hm=>Qz hT (by omega) hm (by decide)) (fun j hj i hi=>ih.ands n (by omega) (d + 1) hd1 j hj _ hi) (fun w x y hx hy=>Q4z (by omega) hx hy) (fun k m x hm hx=>Sat.up hT hd hm hx rfl rfl) k hk (r + 1) hk n (by omega) m x 6 hm hx
end
end Go.Proofs.YtfdcjngclelnhaaGreat
namespace Go.Proofs.YtfdcjngclelnhaaGreat
open Go
def QrJ:MV B74 → Q2d
 | .l0 a b=>.l0 a b
 | .l1 a b c=>.l1 a b c
theorem Qkk {S:Q9} {q:D × B74 → Prop} {n:Nat} {w:MV B74}:loopN (Zu S q) n (QrJ w) = loopN (HT 26 6 96 S.p_Expr S.p_take q) n w:=Jd (fun l w=>by cases w <;> rfl) n w
theorem Qep {T:List Tok} {d r:Nat} {m:Mix} (hm:m.In T r):((bP T d m).c4 == 0) = m.live:=by
 cases m with
 | ok i=>rfl
 | er i d' a e=>exact Q1j hm.2
section
variable {T:List Tok} (hT:TOk T) {N r:Nat} (hN:140 + 8 * (r + 3) ≤ N ∧ r ≤ 200000) (ih:POk T N r) {n d k:Nat} (hd:d ≤ 40) {m:Mix}
include hT hN ih hd
theorem Qoc (hn:N + 1 ≤ n) (hk:k ≤ r) (hm:m.In T k):Has T k (bP T d) okF ((Q8 n).p_one (bP T d m)) m (Yb isW T (Qj isW T r) d):=by
 obtain ⟨n,rfl,hp⟩:=QJ hn; refine Sat.has (X:=fun q=>Q1B (Q8 n) q (loopN (Q1B (Q8 n) q) n) (.e (bP T d m))) ?_ fun o ho=>Q6 QZ ho; simp only [Q1B]
 unfold Yb
 refine Sat.word hT.ends (by decide) hm (JV hT (by omega) hm (by decide)) (fun i j hj hm=>?_) ?_ <;> simp only [Q1,Q0,Bool.not_true,Bool.not_false]
 ·refine Sat.call (ih.query _ (by omega) _ hd _ (by omega) _ hm) fun x m hm hx=>?_
  simp only [hx,Q5,Q4w hx,Qy hx]
  refine Sat.callU (Jh hT (by omega) (hm.mono (Nat.le_succ _)) (by decide)) fun m hm=>?_
  refine Sat.callU (JD hT (by omega) (hm.mono (Nat.le_succ _)) (by decide)) fun m hm=>?_
  refine Sat.call (Jg hT (by omega) (hm.mono (Nat.le_succ _))) fun s m hm _=>?_
  exact Sat.ret hm (mkF rfl) rfl rfl
 ·refine Sat.call (Jg hT (by omega) (hm.mono (Nat.le_succ _))) fun s m hm _=>?_
  have tail:∀ (v:Bool) {j:Nat} {m:Mix},m.In T j → Sat T j (bP T d) okF (fun q=>bn ((Q8 n).p_take (bP T d m) [97,115]) fun x=>cnd x.1 (bn ((Q8 n).p_name x.2) fun y=>q ((.agg [.int .i64 1,.str s,.bool v,.str y.1,.nils,.nils,.nils]),y.2)) (q ((.agg [.int .i64 1,.str s,.bool v,.str s,.nils,.nils,.nils]),x.2))) m (JJ T 1 Qg8 (Qc (JX isW T) fun t=>Qx (frm 1 s v t .nils .nils .nils)) (Qx (frm 1 s v s .nils .nils .nils))):=by
   intro v j m hm
   refine Sat.word hT.ends (by decide) hm (Qz hT (by omega) hm (by decide)) (fun i j hj hm=>?_) ?_ <;> simp only [Q1,Q0,Bool.not_true,Bool.not_false]
   ·refine Sat.call (Jg hT (by omega) (hm.mono (Nat.le_succ _))) fun t m hm _=>?_
    exact Sat.ret hm (mkF rfl) rfl rfl
   ·exact Sat.ret hm (mkF rfl) rfl rfl
  simp only [Zf,QW]
  refine Sat.word hT.ends (by decide) hm (Qz hT (by omega) hm (by decide)) (fun i j hj hm=>?_) ?_ <;> simp only [Q1,Q0,Bool.not_true,Bool.not_false]
  ·exact tail true hm
  ·exact tail false hm
theorem QbZ (hn:N + 1 ≤ n) (hk:k ≤ r) (hm:m.In T k) {x:D} (hx:okF x) {f:Nat} {Lp:(D × B74 → Prop) → B74 → Int → List D → List D → Prop}
  (hL:∀ j,j + 1 = k → ∀ m kind y e,m.In T j → okF y → JB e → Sat T j (bP T d) okF (fun q=>Lp q (bP T d m) kind [x,y] [e]) m (JU isW T (Qj isW T r) d f (frm kind [] false [] .nils (.slice [x,y]) (Z5 e)))) :
  Sat T k (bP T d) okF (fun q=>cnd ((bP T d m).c4 == 0) (bn ((Q8 n).p_is (bP T d m) [108,101,102,116]) fun x62=>cnd x62.1 (bn ((Q8 n).p_take x62.2 [108,101,102,116]) fun x63=>cnd x63.1 (bn ((Q8 n).p_must x63.2 [106,111,105,110]) fun x64=>bn ((Q8 n).p_one x64) fun x65=>an (okG 65 x65.1) (fl x65.1 [4,5,6] (bn ((Q8 n).p_must x65.2 [111,110]) fun x66=>bn ((Q8 n).p_Expr x66) fun x67=>an (okG 26 x67.1) (Lp q x67.2 4 [x,G 65 x65.1] [G 26 x67.1])))) (bn ((Q8 n).p_must x63.2 [106,111,105,110]) fun x68=>bn ((Q8 n).p_one x68) fun x69=>an (okG 65 x69.1) (fl x69.1 [4,5,6] (bn ((Q8 n).p_must x69.2 [111,110]) fun x70=>bn ((Q8 n).p_Expr x70) fun x71=>an (okG 26 x71.1) (Lp q x71.2 3 [x,G 65 x69.1] [G 26 x71.1]))))) (bn ((Q8 n).p_is x62.2 [106,111,105,110]) fun x72=>cnd x72.1 (bn ((Q8 n).p_take x72.2 [108,101,102,116]) fun x73=>cnd x73.1 (bn ((Q8 n).p_must x73.2 [106,111,105,110]) fun x74=>bn ((Q8 n).p_one x74) fun x75=>an (okG 65 x75.1) (fl x75.1 [4,5,6] (bn ((Q8 n).p_must x75.2 [111,110]) fun x76=>bn ((Q8 n).p_Expr x76) fun x77=>an (okG 26 x77.1) (Lp q x77.2 4 [x,G 65 x75.1] [G 26 x77.1])))) (bn ((Q8 n).p_must x73.2 [106,111,105,110]) fun x78=>bn ((Q8 n).p_one x78) fun x79=>an (okG 65 x79.1) (fl x79.1 [4,5,6] (bn ((Q8 n).p_must x79.2 [111,110]) fun x80=>bn ((Q8 n).p_Expr x80) fun x81=>an (okG 26 x81.1) (Lp q x81.2 3 [x,G 65 x79.1] [G 26 x81.1]))))) ((q (x,x72.2))))) ((q (x,(bP T d m))))) m (JU isW T (Qj isW T r) d (f + 1) x):=by
 refine Sat.live (Qep hm) hm hx ⟨m,rfl,hm,fun i d a e h=>⟨_,_,h⟩⟩ ?_
 have go:∀ (kind:Int) (j:Nat),j + 1 = k → ∀ m:Mix,m.In T j → Sat T j (bP T d) okF (fun q=>bn ((Q8 n).p_one (bP T d m)) fun x31=>an (okG 65 x31.1) (fl x31.1 [4,5,6] (bn ((Q8 n).p_must x31.2 [111,110]) fun x32=>bn ((Q8 n).p_Expr x32) fun x33=>an (okG 26 x33.1) (Lp q x33.2 kind [x,G 65 x31.1] [G 26 x33.1])))) m (Qc (Yb isW T (Qj isW T r) d) fun y=>Qc (QG T 1 Qjy) fun _=>Qc ((Qj isW T r).expr d) fun e=>JU isW T (Qj isW T r) d f (frm kind [] false [] .nils (.slice [x,y]) (Z5 e))):=by
  intro kind j hj m hm
  refine Sat.call (Qoc hT hN ih hd hn (by omega) hm) fun y m hm hy=>?_
  simp only [hy,Q5,Q8p hy,Qy hy]
  refine Sat.callU (JD hT (by omega) (hm.mono (Nat.le_succ _)) (by decide)) fun m hm=>?_
  refine Sat.call (ih.expr _ (by omega) _ hd _ (by omega) _ hm) fun e m hm he=>?_
  simp only [he,Q5,Qy he]
  exact hL j hj m kind y e hm hy he
 have i1:=Q3p hT (n:=n) (d:=d) (by omega) hm (show QT [108,101,102,116] = true from rfl)
 have i2:=Q3p hT (n:=n) (d:=d) (by omega) hm (show QT [106,111,105,110] = true from rfl)
 have t1:=Qz hT (n:=n) (d:=d) (by omega) hm (show QT [108,101,102,116] = true from rfl)
 simp only [i1,Q3,i2,t1]
 cases m with
 | er i d' a e =>
  simp only [Mix.sees,Q0]
  exact Sat.spec (Sat.ret hm hx rfl rfl) fun j hj=>nomatch hj
 | ok i =>
  obtain ⟨j,rfl⟩:∃ j,k = j + 1:=⟨k - 1,by have:=hm.2; have:=hm.1; omega⟩
  cases hs1:JI T 1 [108,101,102,116] i with
  | true =>
   have hi:=hT.ends.next hm.1 (show (tk T i).kind ≠ 0 by rw [(JN hs1).1]; decide)
   simp only [Mix.sees,Mix.takes,hs1,Q1,if_true]
   have hm':(Mix.ok (i + 1)).In T j:=⟨hi,by have:=hm.2; omega⟩
   refine Sat.more (r:=j) (Sat.shift (m':=.ok (i + 1)) (g:=Qc (QG T 1 Q4E) fun _=>Qc (Yb isW T (Qj isW T r) d) fun y=>Qc (QG T 1 Qjy) fun _=>Qc ((Qj isW T r).expr d) fun e=>JU isW T (Qj isW T r) d f (frm 4 [] false [] .nils (.slice [x,y]) (Z5 e))) ?_ (by simp only [Mix.sp,JU,JJ,Qd6,hs1,if_true])) (Nat.le_succ j)
   refine Sat.callU (JD hT (by omega) (hm'.mono (Nat.le_succ _)) (by decide)) fun m hm=>?_
   exact go 4 j rfl m hm
  | false =>
   cases hs2:JI T 1 [106,111,105,110] i with
   | true =>
    simp only [Mix.sees,Mix.takes,hs1,hs2,Q1,Q0,Bool.false_eq_true,if_false]
    refine Sat.more (r:=j) (Sat.spec (f:=Qc (QG T 1 Q4E) fun _=>Qc (Yb isW T (Qj isW T r) d) fun y=>Qc (QG T 1 Qjy) fun _=>Qc ((Qj isW T r).expr d) fun e=>JU isW T (Qj isW T r) d f (frm 3 [] false [] .nils (.slice [x,y]) (Z5 e))) ?_ fun i' hi'=>?_) (Nat.le_succ j)
    ·refine Sat.callU (JD hT (by omega) hm (by decide)) fun m hm=>?_
     exact go 3 j rfl m hm
    ·cases hi'
     conv=>rhs; rw [JU]
     simp only [JJ,Qc,QG,Qd6,Q4E,hs1,hs2,Bool.false_eq_true,if_false,if_true,Out.bind]
   | false =>
    simp only [Mix.sees,hs1,hs2,Q0]
    refine Sat.spec (Sat.ret hm hx rfl rfl) fun i' hi'=>?_
    cases hi'
    conv=>rhs; rw [JU]
    simp only [JJ,Qd6,Q4E,hs1,hs2,Bool.false_eq_true,if_false]
theorem QkD (hn:N + 1 ≤ n):∀ k,k ≤ r → ∀ f,k ≤ f → ∀ n',k + 1 ≤ n' → ∀ (m:Mix) (kind:Int) (a c e:D) (w:Nat),m.In T k → okF a → okF c → JB e →
  Sat T k (bP T d) okF (fun q=>loopN (Zm (Q8 n) q) n' (.l1 (bP T d m) kind [a,c] [e] w)) m (JU isW T (Qj isW T r) d f (frm kind [] false [] .nils (.slice [a,c]) (Z5 e))):=by
 intro k
 induction k using Nat.strongRecOn with
 | ind k IH =>
  intro hk f hf n' hn' m kind a c e w hm ha hc he
  obtain ⟨n',rfl⟩:∃ z,n' = z + 1:=⟨n' - 1,by omega⟩
  have h1:=QbZ hT hN ih hd hn hk hm (x:=frm kind [] false [] .nils (.slice [a,c]) (Z5 e)) (mkF rfl) (f:=f - 1) (Lp:=fun q s kind l1 l2=>loopN (Zm (Q8 n) q) n' (.l1 s kind l1 l2 (w + 7))) fun j hj m' kind' y e' hm' hy he' =>
   IH j (by omega) (by omega) (f - 1) (by omega) n' (by omega) m' kind' _ y e' _ hm' (mkF rfl) hy he'
  refine Sat.spec h1 fun i hi=>?_
  subst hi
  obtain ⟨f,rfl⟩:∃ f',f = f' + 1:=⟨f - 1,by have:=hm.2; have:=hm.1; omega⟩
  rfl
theorem Qry (hn:N + 2 ≤ n) (hk:k ≤ r) (hm:m.In T k) {f:Nat} (hf:k ≤ f):Has T k (bP T d) okF ((Q8 n).p_src (bP T d m)) m (Q0K isW T (Qj isW T r) f d):=by
 obtain ⟨n,rfl,hp⟩:=QJ hn; refine Sat.has (X:=fun q=>Zm (Q8 n) q (loopN (Zm (Q8 n) q) n) (.e (bP T d m))) ?_ fun o ho=>Q6 QZ ho; simp only [Zm]
 refine Sat.call (Qoc hT hN ih hd (by omega) hk hm) fun x m hm hx=>?_
 simp only [hx,Q5,Q8p hx]
 obtain ⟨n',rfl⟩:∃ z,n = z + 1:=⟨n - 1,by omega⟩
 have h1:=QbZ hT hN ih hd (show N + 1 ≤ n' + 1 by omega) hk hm hx (f:=f - 1) (Lp:=fun q s kind l1 l2=>loopN (Zm (Q8 (n' + 1)) q) n' (.l1 s kind l1 l2 14)) fun j hj m' kind' y e' hm' hy he' =>
  QkD hT hN ih hd (by omega) j (by omega) (f - 1) (by omega) n' (by omega) m' kind' x y e' _ hm' hx hy he'
 refine Sat.spec (Sat.eq h1 fun q=>?_) fun i hi=>?_
 ·simp only [Q4,Zm,Q8p hx,Qy hx]
 ·subst hi
  obtain ⟨f,rfl⟩:∃ f',f = f' + 1:=⟨f - 1,by have:=hm.2; have:=hm.1; omega⟩
  rfl
theorem Qn0 (hn:N + 2 ≤ n) (hk:k ≤ r) (hm:m.In T k) {f:Nat} (hf:k ≤ f):Has T k (bP T d) ZZ ((Q8 n).p_exprs (bP T d m)) m (Ye T ((Qj isW T r).expr d) f):=by
 obtain ⟨n,rfl,hp⟩:=QJ hn; refine Sat.has (X:=fun q=>Zu (Q8 n) q (loopN (Zu (Q8 n) q) n) (.e (bP T d m))) ?_ fun o ho=>Q6 Qbi ho; simp only [Zu]
 refine Sat.call (ih.expr _ (by omega) _ hd _ hk _ hm) fun x m hm hx=>?_
 simp only [hx,Q5,Qy hx]
 refine Sat.eq ?_ fun q=>Qkk (w:=.l0 _ _)
 have tk':∀ (k:Nat) (m:Mix) (w:List UInt8),m.In T k → w = [44] → (Q8 n).p_take (bP T d m) w = some (m.sees T 4 w,bP T d (m.takes T 4 w)):=fun k m w hm hw=>by
  subst hw
  exact JV hT (by omega) hm (by decide)
 exact (QbI hT.ends (by decide) (fun k m hm=>tk' k m [44] hm rfl) (fun j hj m hm=>ih.expr _ (by omega) _ hd _ hj _ hm) (fun v A h=>JA h) (fun v h=>by rw [Z7 h,Qgs]; rfl) k (by omega) f hf n (by omega) m [x] hm (by simp; omega)).2 x hx rfl
theorem QrY (hn:N + 2 ≤ n) (hm:m.In T k) {v:Bool} {items froms wheres group having o:D} (h1:ZZ items) (h2:ZZ froms) (h3:ZZ wheres) (h4:ZZ group) (h5:ZZ having) (ho:ZZ o) :
  Sat T k (bP T d) YJ (fun q=>bn ((Q8 n).p_take (bP T d m) [108,105,109,105,116]) fun x=>cnd x.1 (bn ((Q8 n).p_int x.2) fun y=>q (.agg [.int .i64 1,.bool v,items,froms,wheres,group,having,o,.int .i64 y.1,.nils],y.2)) (q (.agg [.int .i64 1,.bool v,items,froms,wheres,group,having,o,.int .i64 (-1),.nils],x.2))) m (Qc (Q0h T) fun limit=>Qx (qu 1 v items froms wheres group having o limit .nils)):=by
 unfold ZZ at h1 h2 h3 h4 h5 ho
 simp only [Q0h,Zf,QW]
 refine Sat.word hT.ends (by decide) hm (Qz hT (by omega) hm (by decide)) (fun i j hj hm=>?_) ?_ <;> simp only [Q1,Q0,Bool.not_true,Bool.not_false]
 ·refine Sat.call (QoM hT (by omega) (hm.mono (Nat.le_succ _))) fun x m hm _=>?_
  exact Sat.ret hm (mkQ (by simp only [h1,h2,h3,h4,h5,ho]; rfl)) rfl rfl
 ·exact Sat.ret hm (mkQ (by simp only [h1,h2,h3,h4,h5,ho]; rfl)) rfl rfl
theorem Qo9 (hn:N + 2 ≤ n) {v:Bool} {items froms wheres group having:D} (h1:ZZ items) (h2:ZZ froms) (h3:ZZ wheres) (h4:ZZ group) (h5:ZZ having) :
  ∀ k,k ≤ r → ∀ f,k ≤ f → ∀ n',k + 1 ≤ n' → ∀ (m:Mix) (w w':Nat) (l:List D),m.In T k → l ≠ [] → sized 7 l = true → l.length + k ≤ 500000 →
  Sat T k (bP T d) YJ (fun q=>loopN (QI (Q8 n) q) n' (.l6 (m.sees T 4 [44]) (bP T d (m.takes T 4 [44])) v items froms wheres group having w l w')) m (Qc (Z6 T (Q9Y T (Qj isW T r) d) f l) fun o=>Qc (Q0h T) fun limit=>Qx (qu 1 v items froms wheres group having o limit .nils)):=by
 intro k
 induction k using Nat.strongRecOn with
 | ind k IH =>
  intro hk f hf n' hn' m w w' l hm hl hs hlen
  obtain ⟨n',rfl⟩:∃ z,n' = z + 1:=⟨n' - 1,by omega⟩
  have g1:=h1; have g2:=h2; have g3:=h3; have g4:=h4; have g5:=h5
  unfold ZZ at h1 h2 h3 h4 h5
  have he:l.isEmpty = false:=by cases l with | nil=>exact absurd rfl hl | cons _ _=>rfl
  have hbl:l.length.beq l.length = true:=Nat.beq_refl _
  have hbw:w.beq w = true:=Nat.beq_refl _
  have hap:∀ z:D,(l.length + 1).beq (l ++ [z]).length = true:=fun z=>by rw [List.length_append]; exact Nat.beq_refl _
  have hrm:=ZK (show l.length + 1 ≤ 1000000 by omega) (show 104 ≤ 1000 by decide)
  have fin:∀ m:Mix,m.In T k → Sat T k (bP T d) YJ (fun q=>bn ((Q8 n).p_take (bP T d m) [108,105,109,105,116]) fun x=>cnd x.1 (bn ((Q8 n).p_int x.2) fun y=>q (.agg [.int .i64 1,.bool v,items,froms,wheres,group,having,.slice l,.int .i64 y.1,.nils],y.2)) (q (.agg [.int .i64 1,.bool v,items,froms,wheres,group,having,.slice l,.int .i64 (-1),.nils],x.2))) m (Qc (Q0h T) fun limit=>Qx (qu 1 v items froms wheres group having (.slice l) limit .nils)):=fun m hm=>QrY hT hN ih hd hn hm g1 g2 g3 g4 g5 rfl
  simp only [Q4,QI,h1,h2,h3,h4,h5,Q5,hbw,hbl,he,hs,hrm,hap,Q0]
  cases m with
  | er i d' a e =>
   simp only [Mix.sees,Mix.takes,Q0]
   exact Sat.spec (fin _ hm) fun j hj=>nomatch hj
  | ok i =>
   obtain ⟨j,rfl⟩:∃ j,k = j + 1:=⟨k - 1,by have:=hm.2; have:=hm.1; omega⟩
   obtain ⟨f,rfl⟩:∃ z,f = z + 1:=⟨f - 1,by omega⟩
   cases hs1:JI T 4 [44] i with
   | false =>
    simp only [Mix.sees,Mix.takes,hs1,Q0,Bool.false_eq_true,if_false]
    refine Sat.spec (fin _ hm) fun i' hi'=>?_
    cases hi'
    show _ = (Out.bind (JJ T 4 [44] _ _ i) _)
    simp only [JJ,hs1,Bool.false_eq_true,if_false,Qx,Out.bind]
   | true =>
    have hi:=hT.ends.next hm.1 (show (tk T i).kind ≠ 0 by rw [(JN hs1).1]; decide)
    have hm':(Mix.ok (i + 1)).In T j:=⟨hi,by have:=hm.2; omega⟩
    simp only [Mix.sees,Mix.takes,hs1,Q1,if_true]
    refine Sat.more (r:=j) (Sat.shift (m':=.ok (i + 1)) (g:=Qc (Qc (Qc ((Qj isW T r).expr d) fun x=>JJ T 1 Qh7 (Qx (ky x true)) (Qx (ky x false))) fun y=>Z6 T (Q9Y T (Qj isW T r) d) f (l ++ [y])) fun o=>Qc (Q0h T) fun limit=>Qx (qu 1 v items froms wheres group having o limit .nils)) ?_ (by
     show (Out.bind (JJ T 4 [44] _ _ i) _) = _
     simp only [JJ,hs1,if_true]; rfl)) (Nat.le_succ j)
    simp only [QY,Zf,QW]
    refine Sat.call (ih.expr _ (by omega) _ hd _ (by omega) _ hm') fun x m hm hx=>?_
    simp only [hx,Q5,JA hx]
    have hsz:∀ z:D,sized 7 (l ++ [z]) = true:=fun z=>by cases l with | nil=>exact absurd rfl hl | cons _ _=>exact hs
    have nx:∀ (jj:Nat),jj ≤ j → ∀ (y:D) (m:Mix),m.In T jj → Sat T jj (bP T d) YJ (fun q=>bn ((Q8 n).p_take (bP T d m) [44]) fun x71=>loopN (QI (Q8 n) q) n' (.l6 x71.1 x71.2 v items froms wheres group having w' (l ++ [y]) (w' + 1))) m (Qc (Z6 T (Q9Y T (Qj isW T r) d) f (l ++ [y])) fun o=>Qc (Q0h T) fun limit=>Qx (qu 1 v items froms wheres group having o limit .nils)):=fun jj hjj y m hm=>by
     have t1:=JV hT (n:=n) (d:=d) (by omega) hm (show QT [44] = false from rfl)
     simp only [t1,Q3]
     exact IH jj (by omega) (by omega) f (by omega) n' (by omega) m w' (w' + 1) (l ++ [y]) hm (by simp) (hsz y) (by simp; omega)
    refine Sat.word hT.ends (by decide) hm (Qz hT (by omega) hm (by decide)) (fun i j hj hm=>?_) ?_ <;> simp only [Q1,Q0,Bool.not_true,Bool.not_false]
    ·simp only [(Q8H hx (s:=true)).2]
     exact nx _ (by omega) _ _ hm
    ·simp only [(Q8H hx (s:=false)).2]
     exact nx _ (by omega) _ _ hm
end
end Go.Proofs.YtfdcjngclelnhaaGreat
