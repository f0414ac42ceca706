/- Part of a proof. -/
import Derived.Test.YtfdcjngclelnhaaGreatL10
import Derived.Test.YtfdcjngclelnhaaGreatL8
set_option linter.unusedSectionVars false
set_option linter.unusedSimpArgs false
set_option linter.unusedVariables false
namespace Go.Proofs.YtfdcjngclelnhaaGreat
open Go
def wProd:OV B74 → p_prod_V
  | .l0 a b c e=>.l0 a b c e
def wSum:OV B74 → p_sum_V
  | .l0 a b c e=>.l0 a b c e
def wAnd:QV B74 → p_and_V
  | .l0 a b c=>.l0 a b c
def wExpr:QV B74 → p_Expr_V
  | .l0 a b c=>.l0 a b c
theorem conwProd {S:Fns} {q:D × B74 → Prop} {n:Nat} {w:OV B74}:loopN (p_prod_st S q) n (wProd w) = loopN (loop2St opsProd S.p_unary S.p_oneOf S.r_bin q) n w:=conv_loop (fun l w=>by cases w; rfl) n w
theorem conwSum {S:Fns} {q:D × B74 → Prop} {n:Nat} {w:OV B74}:loopN (p_sum_st S q) n (wSum w) = loopN (loop2St opsSum S.p_prod S.p_oneOf S.r_bin q) n w:=conv_loop (fun l w=>by cases w; rfl) n w
theorem conwAnd {S:Fns} {q:D × B74 → Prop} {n:Nat} {w:QV B74}:loopN (p_and_st S q) n (wAnd w) = loopN (loop1St w_and S.p_not S.p_take S.r_bin fun v s=>q (v,s)) n w:=conv_loop (fun l w=>by cases w; rfl) n w
theorem conwExpr {S:Fns} {q:D × B74 → Prop} {n:Nat} {w:QV B74}:loopN (p_Expr_st S q) n (wExpr w) = loopN (loop1St w_or S.p_and S.p_take S.r_bin fun v s=>q (v,B74.mk s.c0 s.c1 (IntKind.i64.wrap (s.c2 - 1)) s.c3 s.c4)) n w:=conv_loop (fun l w=>by cases w; rfl) n w
section
variable {T:List Tok} (hT:TOk T) {N r:Nat} (hN:140 + 8 * (r + 3) ≤ N ∧ r ≤ 200000) (ih:POk T N r) {n d k:Nat} (hd:d ≤ 40) {m:Mix}
include hT hN ih hd
theorem p_prod_ (hn:N + 3 ≤ n) (hk:k ≤ r + 1) {i:Nat} (hm:(Mix.ok i).In T k):Has T k (bP T d) okE ((fns n).p_prod (bP T d (.ok i))) (.ok i) (prodF isW T (recs isW T r) (r + 1) d):=by
  obtain ⟨n,rfl,hp⟩:=pos hn; refine Sat.has (X:=fun q=>p_prod_st (fns n) q (loopN (p_prod_st (fns n) q) n) (.e (bP T d (.ok i)))) ?_ fun o ho=>rawN_eq enc25_inj ho; simp only [p_prod_st]
  refine Sat.call (p_unary_ hT hN ih hd (by omega) hk hm) fun x m hm hx=>?_
  have ho:=fun (k:Nat) (m:Mix) (hm:m.In T k)=>p_oneOf_ hT (n:=n) (d:=d) (ops:=opsProd) (by decide) (by decide) (by omega) hm
  have ho1:(fns n).p_oneOf (bP T d m) (.slice [.str [42],.str [47],.str [37]]) = _:=ho k m hm
  simp only [hx,an_true,flEx hx,ho1,bn_some]
  refine Sat.eq ?_ fun q=>conwProd (w:=.l0 _ _ _ _)
  exact loop2_sat hT.ends ho (by decide) (fun j hj i hi=>ih.unary n (by omega) d hd j hj i hi) (fun w x y hx hy=>r_bin_ (by omega) hx hy) k hk (r + 1) hk n (by omega) m x 6 hm hx
theorem p_sum_ (hn:N + 4 ≤ n) (hk:k ≤ r + 1) {i:Nat} (hm:(Mix.ok i).In T k):Has T k (bP T d) okE ((fns n).p_sum (bP T d (.ok i))) (.ok i) (sumF isW T (recs isW T r) (r + 1) d):=by
  obtain ⟨n,rfl,hp⟩:=pos hn; refine Sat.has (X:=fun q=>p_sum_st (fns n) q (loopN (p_sum_st (fns n) q) n) (.e (bP T d (.ok i)))) ?_ fun o ho=>rawN_eq enc25_inj ho; simp only [p_sum_st]
  refine Sat.call (p_prod_ hT hN ih hd (by omega) hk hm) fun x m hm hx=>?_
  have ho:=fun (k:Nat) (m:Mix) (hm:m.In T k)=>p_oneOf_ hT (n:=n) (d:=d) (ops:=opsSum) (by decide) (by decide) (by omega) hm
  have ho1:(fns n).p_oneOf (bP T d m) (.slice [.str [43],.str [45],.str [124,124]]) = _:=ho k m hm
  simp only [hx,an_true,flEx hx,ho1,bn_some]
  refine Sat.eq ?_ fun q=>conwSum (w:=.l0 _ _ _ _)
  exact loop2_sat hT.ends ho (by decide) (fun j hj i hi=>ih.prod n (by omega) d hd j hj i hi) (fun w x y hx hy=>r_bin_ (by omega) hx hy) k hk (r + 1) hk n (by omega) m x 6 hm hx
theorem p_cmp_ (hn:N + 5 ≤ n) (hk:k ≤ r + 1) {i:Nat} (hm:(Mix.ok i).In T k):Has T k (bP T d) okE ((fns n).p_cmp (bP T d (.ok i))) (.ok i) (cmpF isW T (recs isW T r) (r + 1) d):=by
  obtain ⟨n,rfl,hp⟩:=pos hn; refine Sat.has (X:=fun q=>p_cmp_st (fns n) q (loopN (p_cmp_st (fns n) q) n) (.e (bP T d (.ok i)))) ?_ fun o ho=>rawN_eq enc25_inj ho; simp only [p_cmp_st]
  refine Sat.call (p_sum_ hT hN ih hd (by omega) hk hm) fun x m hm hx=>?_
  have ho1:(fns n).p_oneOf (bP T d m) (.slice [.str [61],.str [60,62],.str [60,61],.str [62,61],.str [60],.str [62]]) = some (m.op T opsCmpP,bP T d (m.opTakes T opsCmpP)):=p_oneOf_ hT (n:=n) (d:=d) (ops:=opsCmpP) (by decide) (by decide) (by omega) hm
  have e0:(!(([]:List UInt8) == [])) = false:=rfl
  simp only [hx,an_true,flEx hx,ho1,bn_some,G_ok hx]
  have brk:∀ {j:Nat} {v:Int} {m:Mix},j ≤ r → m.In T j → Sat T j (bP T d) okE (fun q=>bn ((fns n).p_must (bP T d m) [40]) fun x39=>bn ((fns n).p_Query x39) fun x40=>an (okG 38 x40.1) (fl x40.1 [2,3,4,5,6,7,9] (bn ((fns n).p_must x40.2 [41]) fun x41=>q ((.agg [.int .i64 13,.int .i64 v,.str [],.str [],.slice [x],.slice [G 38 x40.1]]),x41)))) m (seqO (bracketedF T (recs isW T r) d) fun q=>retO (ex 13 v [] [] (one1 x) (one1 q))):=by
    intro j v m hj hm
    simp only [bracketedF,seq_seq,seq_ret]
    refine Sat.callU (p_mustM hT (by omega) (hm.mono (Nat.le_succ _)) (by decide)) fun m hm=>?_
    refine Sat.call (ih.query _ (by omega) _ hd _ (by omega) _ hm) fun y m hm hy=>?_
    simp only [hy,an_true,flQu hy,G_ok hy]
    refine Sat.callU (p_mustM hT (by omega) (hm.mono (Nat.le_succ _)) (by decide)) fun m hm=>?_
    exact Sat.ret hm (mkE rfl) rfl rfl
  have rest:Sat T k (bP T d) okE (fun q=>bn ((fns n).p_take (bP T d m) [105,115]) fun x32=>cnd x32.1 (bn ((fns n).p_take x32.2 [110,111,116]) fun x33=>cnd x33.1 (bn ((fns n).p_must x33.2 [110,117,108,108]) fun x34=>q ((.agg [.int .i64 9,.int .i64 1,.str [],.str [],.slice [x],.nils]),x34)) (bn ((fns n).p_must x33.2 [110,117,108,108]) fun x35=>q ((.agg [.int .i64 9,.int .i64 0,.str [],.str [],.slice [x],.nils]),x35))) (bn ((fns n).p_is x32.2 [110,111,116]) fun x36=>cnd x36.1 (bn ((fns n).p_take x36.2 [110,111,116]) fun x37=>cnd x37.1 (bn ((fns n).p_must x37.2 [105,110]) fun x38=>bn ((fns n).p_must x38 [40]) fun x39=>bn ((fns n).p_Query x39) fun x40=>an (okG 38 x40.1) (fl x40.1 [2,3,4,5,6,7,9] (bn ((fns n).p_must x40.2 [41]) fun x41=>q ((.agg [.int .i64 13,.int .i64 1,.str [],.str [],.slice [x],.slice [G 38 x40.1]]),x41)))) (bn ((fns n).p_must x37.2 [105,110]) fun x42=>bn ((fns n).p_must x42 [40]) fun x43=>bn ((fns n).p_Query x43) fun x44=>an (okG 38 x44.1) (fl x44.1 [2,3,4,5,6,7,9] (bn ((fns n).p_must x44.2 [41]) fun x45=>q ((.agg [.int .i64 13,.int .i64 0,.str [],.str [],.slice [x],.slice [G 38 x44.1]]),x45))))) (bn ((fns n).p_is x36.2 [105,110]) fun x46=>cnd x46.1 (bn ((fns n).p_take x46.2 [110,111,116]) fun x47=>cnd x47.1 (bn ((fns n).p_must x47.2 [105,110]) fun x48=>bn ((fns n).p_must x48 [40]) fun x49=>bn ((fns n).p_Query x49) fun x50=>an (okG 38 x50.1) (fl x50.1 [2,3,4,5,6,7,9] (bn ((fns n).p_must x50.2 [41]) fun x51=>q ((.agg [.int .i64 13,.int .i64 1,.str [],.str [],.slice [x],.slice [G 38 x50.1]]),x51)))) (bn ((fns n).p_must x47.2 [105,110]) fun x52=>bn ((fns n).p_must x52 [40]) fun x53=>bn ((fns n).p_Query x53) fun x54=>an (okG 38 x54.1) (fl x54.1 [2,3,4,5,6,7,9] (bn ((fns n).p_must x54.2 [41]) fun x55=>q ((.agg [.int .i64 13,.int .i64 0,.str [],.str [],.slice [x],.slice [G 38 x54.1]]),x55))))) (q (x,x46.2))))) m (cmp2F T (recs isW T r) d x):=by
    unfold cmp2F
    refine Sat.word hT.ends (by decide) hm (p_takeW hT (by omega) hm (by decide)) (fun i j hj hm=>?_) ?_ <;> simp only [cnd_true,cnd_false,Bool.not_true,Bool.not_false]
    · unfold isF
      refine Sat.word hT.ends (by decide) hm (p_takeW hT (by omega) hm (by decide)) (fun i j hj hm=>?_) ?_ <;> simp only [cnd_true,cnd_false,Bool.not_true,Bool.not_false]
      · refine Sat.callU (p_mustW hT (by omega) (hm.mono (Nat.le_succ _)) (by decide)) fun m hm=>?_
        exact Sat.ret hm (mkE rfl) rfl rfl
      · refine Sat.callU (p_mustW hT (by omega) (hm.mono (Nat.le_succ _)) (by decide)) fun m hm=>?_
        exact Sat.ret hm (mkE rfl) rfl rfl
    have i1:=p_isW hT (n:=n) (d:=d) (by omega) hm (show firstL [110,111,116] = true from rfl)
    have i2:=p_isW hT (n:=n) (d:=d) (by omega) hm (show firstL [105,110] = true from rfl)
    have t1:=p_takeW hT (n:=n) (d:=d) (by omega) hm (show firstL [110,111,116] = true from rfl)
    simp only [i1,bn_some,i2,t1]
    cases m with
    | er i d' a e =>
      simp only [Mix.sees,cnd_false]
      exact Sat.spec (Sat.ret hm hx rfl rfl) fun j hj=>nomatch hj
    | ok i =>
      obtain ⟨j,rfl⟩:∃ j,k = j + 1:=⟨k - 1,by have:=hm.2; have:=hm.1; omega⟩
      cases hs1:pSees T 1 [110,111,116] i with
      | true =>
        have hi:=hT.ends.next hm.1 (show (tk T i).kind ≠ 0 by rw [(sees_kind hs1).1]; decide)
        simp only [Mix.sees,Mix.takes,hs1,cnd_true,if_true]
        refine Sat.more (r:=j) (Sat.shift (m':=.ok (i + 1)) (g:=seqO (pMust T 1 w_in) fun _=>seqO (bracketedF T (recs isW T r) d) fun q=>retO (ex 13 1 [] [] (one1 x) (one1 q))) ?_ (by simp only [Mix.sp,ifO,w_not,hs1,if_true])) (Nat.le_succ j)
        have hm':(Mix.ok (i + 1)).In T j:=⟨hi,by have:=hm.2; omega⟩
        refine Sat.callU (p_mustW hT (by omega) (hm'.mono (Nat.le_succ _)) (by decide)) fun m hm=>?_
        exact brk (by omega) hm
      | false =>
        cases hs2:pSees T 1 [105,110] i with
        | true =>
          simp only [Mix.sees,Mix.takes,hs1,hs2,cnd_true,cnd_false,Bool.false_eq_true,if_false]
          refine Sat.more (r:=j) (Sat.spec (f:=seqO (pMust T 1 w_in) fun _=>seqO (bracketedF T (recs isW T r) d) fun q=>retO (ex 13 0 [] [] (one1 x) (one1 q))) ?_ fun i' hi'=>?_) (Nat.le_succ j)
          · refine Sat.callU (p_mustW hT (by omega) hm (by decide)) fun m hm=>?_
            exact brk (by omega) hm
          · cases hi'
            simp only [ifO,seqO,pMust,w_not,w_in,hs1,hs2,Bool.false_eq_true,if_false,if_true,Out.bind]
        | false =>
          simp only [Mix.sees,hs1,hs2,cnd_false]
          refine Sat.spec (Sat.ret hm hx rfl rfl) fun i' hi'=>?_
          cases hi'
          simp only [ifO,w_not,w_in,hs1,hs2,Bool.false_eq_true,if_false]
  cases m with
  | er i d' a e =>
    simp only [Mix.op,Mix.opTakes,e0,cnd_false]
    exact Sat.spec rest fun j hj=>nomatch hj
  | ok i =>
    cases hc:opIn T 4 opsCmp i with
    | none =>
      simp only [Mix.op,Mix.opTakes,opsCmp_eq,hc,Option.getD_none,e0,cnd_false]
      refine Sat.spec rest fun j hj=>?_
      cases hj
      simp only [cmp1F,hc]
    | some u =>
      have hu:=hc
      rw [opIn_eq] at hu
      split at hu
      · rename_i hcc
        simp only [Bool.and_eq_true] at hcc
        cases hu
        have hne':(tk T i).text ≠ []:=(by decide:∀ w ∈ opsCmp,w ≠ []) _ (by simpa using hcc.2)
        have e1:(!((tk T i).text == [])) = true:=by simpa using hne'
        have hi:=hT.ends.next hm.1 (show (tk T i).kind ≠ 0 by rw [eq_of_beq hcc.1]; decide)
        obtain ⟨j,rfl⟩:∃ j,k = j + 1:=⟨k - 1,by have:=hm.2; omega⟩
        have hm':(Mix.ok (i + 1)).In T j:=⟨hi,by have:=hm.2; omega⟩
        simp only [Mix.op,Mix.opTakes,opsCmp_eq,hc,Option.getD_some,e1,cnd_true]
        refine Sat.more (r:=j) (Sat.shift (m':=.ok (i + 1)) (g:=seqO ((recs isW T r).sum d) fun y=>retO (binX (tk T i).text x y)) ?_ (by simp only [Mix.sp,cmp1F,hc]; rfl)) (Nat.le_succ j)
        refine Sat.call (ih.sum _ (by omega) _ hd _ (by omega) _ hm') fun y m hm hy=>?_
        simp only [hy,an_true,G_ok hy,hx,r_bin_ (show 1 ≤ n by omega) hx hy,bn_some,show okG 26 (binX (tk T i).text x y) = true from okBin,flEx (show okG 26 (binX (tk T i).text x y) = true from okBin),G_ok (show okG 26 (binX (tk T i).text x y) = true from okBin)]
        exact Sat.ret hm okBin rfl rfl
      · exact nomatch hu
theorem p_not_ (hn:N + 6 ≤ n) (hk:k ≤ r + 1) (hm:m.In T k):Has T k (bP T d) okE ((fns n).p_not (bP T d m)) m (notF isW T (recs isW T r) (r + 1) d):=by
  obtain ⟨n,rfl,hp⟩:=pos hn; refine Sat.has (X:=fun q=>p_not_st (fns n) q (loopN (p_not_st (fns n) q) n) (.e (bP T d m))) ?_ fun o ho=>rawN_eq enc25_inj ho; simp only [p_not_st]
  cases m with
  | er i d' a e =>
    have hc:((bP T d (.er i d' a e)).c4 != 0) = true:=bneE hm.2
    simp only [hc,cnd_true]
    exact Sat.spec (Sat.ret hm (show okE (ex 0 0 [] [] .nils .nils) from mkE rfl) rfl rfl) fun j hj=>nomatch hj
  | ok i =>
  have hc4:((bP T d (.ok i)).c4 != 0) = false:=rfl
  simp only [hc4,cnd_false]
  unfold notF
  refine Sat.word hT.ends (by decide) hm (p_takeW hT (by omega) hm (by decide)) (fun i j hj hm=>?_) ?_ <;> simp only [cnd_true,cnd_false,Bool.not_true,Bool.not_false]
  · refine Sat.down hT (by omega) hd hm (fun i d' a e hm=>?_) fun i hm hd1=>?_
    · have h1:Has T _ (bP T (d + 1)) okE ((fns n).p_not (bP T (d + 1) (.er i d' a e))) (.er i d' a e) ((recs isW T r).nots (d + 1)):=Has.er (d0:=0) (ih.nots n (by omega) 0 (by omega) _ (by omega) (.er i d' a e) hm)
      refine Sat.call h1 fun x m hm hx=>?_
      simp only [hx,an_true,G_ok hx]
      exact Sat.up hT hd hm (mkE rfl) rfl rfl
    · refine Sat.call (ih.nots _ (by omega) _ hd1 _ (by omega) _ hm) fun x m hm hx=>?_
      simp only [hx,an_true,G_ok hx]
      exact Sat.up hT hd hm (mkE rfl) rfl rfl
  · refine Sat.last (p_cmp_ hT hN ih hd (by omega) hk hm) fun x m hx q=>?_
    simp only [hx,an_true,flEx hx,G_ok hx]
theorem p_and_ (hn:N + 7 ≤ n) (hk:k ≤ r + 1) (hm:m.In T k):Has T k (bP T d) okE ((fns n).p_and (bP T d m)) m (andF isW T (recs isW T r) (r + 1) d):=by
  obtain ⟨n,rfl,hp⟩:=pos hn; refine Sat.has (X:=fun q=>p_and_st (fns n) q (loopN (p_and_st (fns n) q) n) (.e (bP T d m))) ?_ fun o ho=>rawN_eq enc25_inj ho; simp only [p_and_st]
  refine Sat.call (p_not_ hT hN ih hd (by omega) hk hm) fun x m hm hx=>?_
  simp only [hx,an_true,flEx hx]
  refine Sat.eq ?_ fun q=>conwAnd (w:=.l0 _ _ _)
  exact loop1_sat (leaf:=fun q v s=>q (v,s)) hT.ends (by decide) (fun k m hm=>p_takeW hT (by omega) hm (by decide)) (fun j hj i hi=>ih.nots n (by omega) d hd j hj _ hi) (fun w x y hx hy=>r_bin_ (by omega) hx hy) (fun k m x hm hx=>Sat.ret hm hx rfl rfl) k hk (r + 1) hk n (by omega) m x 6 hm hx
theorem p_Expr_ (hn:N + 8 ≤ n) (hk:k ≤ r + 1) (hm:m.In T k):Has T k (bP T d) okE ((fns n).p_Expr (bP T d m)) m (exprF isW T (recs isW T r) (r + 1) d):=by
  obtain ⟨n,rfl,hp⟩:=pos hn; refine Sat.has (X:=fun q=>p_Expr_st (fns n) q (loopN (p_Expr_st (fns n) q) n) (.e (bP T d m))) ?_ fun o ho=>rawN_eq enc25_inj ho; simp only [p_Expr_st]
  refine Sat.down hT (by omega) hd hm (fun i d' a e hm=>?_) fun i hm hd1=>?_
  · obtain ⟨⟨v,s⟩,hC,m',hs,hin,hg,i',d'',rfl⟩:=p_and_ hT hN ih (d:=0) (by omega) (show N + 7 ≤ n by omega) hk hm
    have hC':(fns n).p_and (bP T (d + 1) (.er i d' a e)) = some (v,s):=hC
    have hs':s = bP T (d + 1) (.er i' d'' a e):=hs
    have hv:okE v:=hg
    obtain ⟨n,rfl⟩:∃ z,n = z + 1:=⟨n - 1,by omega⟩
    refine ⟨(v,bP T d (.er i' (IntKind.i64.wrap (d'' - 1)) a e)),⟨.er i' (IntKind.i64.wrap (d'' - 1)) a e,rfl,hin,hv,_,_,rfl⟩,fun q=>?_⟩
    have t1:=p_takeW hT (n:=n + 1) (d:=d + 1) (by omega) hin (show firstL [111,114] = true from rfl)
    simp only [hC',bn_some,hs',hv,an_true,flEx hv,loopN_s,p_Expr_st,t1,Mix.sees,Mix.takes,cnd_false,G_ok hv]
    rfl
  · refine Sat.call (p_and_ hT hN ih hd1 (by omega) hk hm) fun x m hm hx=>?_
    simp only [hx,an_true,flEx hx]
    refine Sat.eq ?_ fun q=>conwExpr (w:=.l0 _ _ _)
    exact loop1_sat (leaf:=fun q v s=>q (v,B74.mk s.c0 s.c1 (IntKind.i64.wrap (s.c2 - 1)) s.c3 s.c4)) hT.ends (by decide) (fun k m hm=>p_takeW hT (by omega) hm (by decide)) (fun j hj i hi=>ih.ands n (by omega) (d + 1) hd1 j hj _ hi) (fun w x y hx hy=>r_bin_ (by omega) hx hy) (fun k m x hm hx=>Sat.up hT hd hm hx rfl rfl) k hk (r + 1) hk n (by omega) m x 6 hm hx
end
end Go.Proofs.YtfdcjngclelnhaaGreat
namespace Go.Proofs.YtfdcjngclelnhaaGreat
open Go
def wExprs:MV B74 → p_exprs_V
  | .l0 a b=>.l0 a b
  | .l1 a b c=>.l1 a b c
theorem conwExprs {S:Fns} {q:D × B74 → Prop} {n:Nat} {w:MV B74}:loopN (p_exprs_st S q) n (wExprs w) = loopN (listSt 26 6 96 S.p_Expr S.p_take q) n w:=conv_loop (fun l w=>by cases w <;> rfl) n w
theorem live_eqP {T:List Tok} {d r:Nat} {m:Mix} (hm:m.In T r):((bP T d m).c4 == 0) = m.live:=by
  cases m with
  | ok i=>rfl
  | er i d' a e=>exact beqE hm.2
section
variable {T:List Tok} (hT:TOk T) {N r:Nat} (hN:140 + 8 * (r + 3) ≤ N ∧ r ≤ 200000) (ih:POk T N r) {n d k:Nat} (hd:d ≤ 40) {m:Mix}
include hT hN ih hd
theorem p_one_ (hn:N + 1 ≤ n) (hk:k ≤ r) (hm:m.In T k):Has T k (bP T d) okF ((fns n).p_one (bP T d m)) m (singleF isW T (recs isW T r) d):=by
  obtain ⟨n,rfl,hp⟩:=pos hn; refine Sat.has (X:=fun q=>p_one_st (fns n) q (loopN (p_one_st (fns n) q) n) (.e (bP T d m))) ?_ fun o ho=>rawN_eq enc25_inj ho; simp only [p_one_st]
  unfold singleF
  refine Sat.word hT.ends (by decide) hm (p_takeM hT (by omega) hm (by decide)) (fun i j hj hm=>?_) ?_ <;> simp only [cnd_true,cnd_false,Bool.not_true,Bool.not_false]
  · refine Sat.call (ih.query _ (by omega) _ hd _ (by omega) _ hm) fun x m hm hx=>?_
    simp only [hx,an_true,flQu hx,G_ok hx]
    refine Sat.callU (p_mustM hT (by omega) (hm.mono (Nat.le_succ _)) (by decide)) fun m hm=>?_
    refine Sat.callU (p_mustW hT (by omega) (hm.mono (Nat.le_succ _)) (by decide)) fun m hm=>?_
    refine Sat.call (p_name_ hT (by omega) (hm.mono (Nat.le_succ _))) fun s m hm _=>?_
    exact Sat.ret hm (mkF rfl) rfl rfl
  · refine Sat.call (p_name_ hT (by omega) (hm.mono (Nat.le_succ _))) fun s m hm _=>?_
    have tail:∀ (v:Bool) {j:Nat} {m:Mix},m.In T j → Sat T j (bP T d) okF (fun q=>bn ((fns n).p_take (bP T d m) [97,115]) fun x=>cnd x.1 (bn ((fns n).p_name x.2) fun y=>q ((.agg [.int .i64 1,.str s,.bool v,.str y.1,.nils,.nils,.nils]),y.2)) (q ((.agg [.int .i64 1,.str s,.bool v,.str s,.nils,.nils,.nils]),x.2))) m (ifO T 1 w_as (seqO (pName isW T) fun t=>retO (frm 1 s v t .nils .nils .nils)) (retO (frm 1 s v s .nils .nils .nils))):=by
      intro v j m hm
      refine Sat.word hT.ends (by decide) hm (p_takeW hT (by omega) hm (by decide)) (fun i j hj hm=>?_) ?_ <;> simp only [cnd_true,cnd_false,Bool.not_true,Bool.not_false]
      · refine Sat.call (p_name_ hT (by omega) (hm.mono (Nat.le_succ _))) fun t m hm _=>?_
        exact Sat.ret hm (mkF rfl) rfl rfl
      · exact Sat.ret hm (mkF rfl) rfl rfl
    simp only [seq_if,seq_ret]
    refine Sat.word hT.ends (by decide) hm (p_takeW hT (by omega) hm (by decide)) (fun i j hj hm=>?_) ?_ <;> simp only [cnd_true,cnd_false,Bool.not_true,Bool.not_false]
    · exact tail true hm
    · exact tail false hm
theorem psrc_step (hn:N + 1 ≤ n) (hk:k ≤ r) (hm:m.In T k) {x:D} (hx:okF x) {f:Nat} {Lp:(D × B74 → Prop) → B74 → Int → List D → List D → Prop}
    (hL:∀ j,j + 1 = k → ∀ m kind y e,m.In T j → okF y → okE e → Sat T j (bP T d) okF (fun q=>Lp q (bP T d m) kind [x,y] [e]) m (srcLoop isW T (recs isW T r) d f (frm kind [] false [] .nils (.slice [x,y]) (one1 e)))) :
    Sat T k (bP T d) okF (fun q=>cnd ((bP T d m).c4 == 0) (bn ((fns n).p_is (bP T d m) [108,101,102,116]) fun x62=>cnd x62.1 (bn ((fns n).p_take x62.2 [108,101,102,116]) fun x63=>cnd x63.1 (bn ((fns n).p_must x63.2 [106,111,105,110]) fun x64=>bn ((fns n).p_one x64) fun x65=>an (okG 65 x65.1) (fl x65.1 [4,5,6] (bn ((fns n).p_must x65.2 [111,110]) fun x66=>bn ((fns n).p_Expr x66) fun x67=>an (okG 26 x67.1) (Lp q x67.2 4 [x,G 65 x65.1] [G 26 x67.1])))) (bn ((fns n).p_must x63.2 [106,111,105,110]) fun x68=>bn ((fns n).p_one x68) fun x69=>an (okG 65 x69.1) (fl x69.1 [4,5,6] (bn ((fns n).p_must x69.2 [111,110]) fun x70=>bn ((fns n).p_Expr x70) fun x71=>an (okG 26 x71.1) (Lp q x71.2 3 [x,G 65 x69.1] [G 26 x71.1]))))) (bn ((fns n).p_is x62.2 [106,111,105,110]) fun x72=>cnd x72.1 (bn ((fns n).p_take x72.2 [108,101,102,116]) fun x73=>cnd x73.1 (bn ((fns n).p_must x73.2 [106,111,105,110]) fun x74=>bn ((fns n).p_one x74) fun x75=>an (okG 65 x75.1) (fl x75.1 [4,5,6] (bn ((fns n).p_must x75.2 [111,110]) fun x76=>bn ((fns n).p_Expr x76) fun x77=>an (okG 26 x77.1) (Lp q x77.2 4 [x,G 65 x75.1] [G 26 x77.1])))) (bn ((fns n).p_must x73.2 [106,111,105,110]) fun x78=>bn ((fns n).p_one x78) fun x79=>an (okG 65 x79.1) (fl x79.1 [4,5,6] (bn ((fns n).p_must x79.2 [111,110]) fun x80=>bn ((fns n).p_Expr x80) fun x81=>an (okG 26 x81.1) (Lp q x81.2 3 [x,G 65 x79.1] [G 26 x81.1]))))) ((q (x,x72.2))))) ((q (x,(bP T d m))))) m (srcLoop isW T (recs isW T r) d (f + 1) x):=by
  refine Sat.live (live_eqP hm) hm hx ⟨m,rfl,hm,fun i d a e h=>⟨_,_,h⟩⟩ ?_
  have go:∀ (kind:Int) (j:Nat),j + 1 = k → ∀ m:Mix,m.In T j → Sat T j (bP T d) okF (fun q=>bn ((fns n).p_one (bP T d m)) fun x31=>an (okG 65 x31.1) (fl x31.1 [4,5,6] (bn ((fns n).p_must x31.2 [111,110]) fun x32=>bn ((fns n).p_Expr x32) fun x33=>an (okG 26 x33.1) (Lp q x33.2 kind [x,G 65 x31.1] [G 26 x33.1])))) m (seqO (singleF isW T (recs isW T r) d) fun y=>seqO (pMust T 1 w_on) fun _=>seqO ((recs isW T r).expr d) fun e=>srcLoop isW T (recs isW T r) d f (frm kind [] false [] .nils (.slice [x,y]) (one1 e))):=by
    intro kind j hj m hm
    refine Sat.call (p_one_ hT hN ih hd hn (by omega) hm) fun y m hm hy=>?_
    simp only [hy,an_true,flFrm hy,G_ok hy]
    refine Sat.callU (p_mustW hT (by omega) (hm.mono (Nat.le_succ _)) (by decide)) fun m hm=>?_
    refine Sat.call (ih.expr _ (by omega) _ hd _ (by omega) _ hm) fun e m hm he=>?_
    simp only [he,an_true,G_ok he]
    exact hL j hj m kind y e hm hy he
  have i1:=p_isW hT (n:=n) (d:=d) (by omega) hm (show firstL [108,101,102,116] = true from rfl)
  have i2:=p_isW hT (n:=n) (d:=d) (by omega) hm (show firstL [106,111,105,110] = true from rfl)
  have t1:=p_takeW hT (n:=n) (d:=d) (by omega) hm (show firstL [108,101,102,116] = true from rfl)
  simp only [i1,bn_some,i2,t1]
  cases m with
  | er i d' a e =>
    simp only [Mix.sees,cnd_false]
    exact Sat.spec (Sat.ret hm hx rfl rfl) fun j hj=>nomatch hj
  | ok i =>
    obtain ⟨j,rfl⟩:∃ j,k = j + 1:=⟨k - 1,by have:=hm.2; have:=hm.1; omega⟩
    cases hs1:pSees T 1 [108,101,102,116] i with
    | true =>
      have hi:=hT.ends.next hm.1 (show (tk T i).kind ≠ 0 by rw [(sees_kind hs1).1]; decide)
      simp only [Mix.sees,Mix.takes,hs1,cnd_true,if_true]
      have hm':(Mix.ok (i + 1)).In T j:=⟨hi,by have:=hm.2; omega⟩
      refine Sat.more (r:=j) (Sat.shift (m':=.ok (i + 1)) (g:=seqO (pMust T 1 w_join) fun _=>seqO (singleF isW T (recs isW T r) d) fun y=>seqO (pMust T 1 w_on) fun _=>seqO ((recs isW T r).expr d) fun e=>srcLoop isW T (recs isW T r) d f (frm 4 [] false [] .nils (.slice [x,y]) (one1 e))) ?_ (by simp only [Mix.sp,srcLoop,ifO,w_left,hs1,if_true])) (Nat.le_succ j)
      refine Sat.callU (p_mustW hT (by omega) (hm'.mono (Nat.le_succ _)) (by decide)) fun m hm=>?_
      exact go 4 j rfl m hm
    | false =>
      cases hs2:pSees T 1 [106,111,105,110] i with
      | true =>
        simp only [Mix.sees,Mix.takes,hs1,hs2,cnd_true,cnd_false,Bool.false_eq_true,if_false]
        refine Sat.more (r:=j) (Sat.spec (f:=seqO (pMust T 1 w_join) fun _=>seqO (singleF isW T (recs isW T r) d) fun y=>seqO (pMust T 1 w_on) fun _=>seqO ((recs isW T r).expr d) fun e=>srcLoop isW T (recs isW T r) d f (frm 3 [] false [] .nils (.slice [x,y]) (one1 e))) ?_ fun i' hi'=>?_) (Nat.le_succ j)
        · refine Sat.callU (p_mustW hT (by omega) hm (by decide)) fun m hm=>?_
          exact go 3 j rfl m hm
        · cases hi'
          conv=>rhs; rw [srcLoop]
          simp only [ifO,seqO,pMust,w_left,w_join,hs1,hs2,Bool.false_eq_true,if_false,if_true,Out.bind]
      | false =>
        simp only [Mix.sees,hs1,hs2,cnd_false]
        refine Sat.spec (Sat.ret hm hx rfl rfl) fun i' hi'=>?_
        cases hi'
        conv=>rhs; rw [srcLoop]
        simp only [ifO,w_left,w_join,hs1,hs2,Bool.false_eq_true,if_false]
theorem psrc_loop (hn:N + 1 ≤ n):∀ k,k ≤ r → ∀ f,k ≤ f → ∀ n',k + 1 ≤ n' → ∀ (m:Mix) (kind:Int) (a c e:D) (w:Nat),m.In T k → okF a → okF c → okE e →
    Sat T k (bP T d) okF (fun q=>loopN (p_src_st (fns n) q) n' (.l1 (bP T d m) kind [a,c] [e] w)) m (srcLoop isW T (recs isW T r) d f (frm kind [] false [] .nils (.slice [a,c]) (one1 e))):=by
  intro k
  induction k using Nat.strongRecOn with
  | ind k IH =>
    intro hk f hf n' hn' m kind a c e w hm ha hc he
    obtain ⟨n',rfl⟩:∃ z,n' = z + 1:=⟨n' - 1,by omega⟩
    have h1:=psrc_step hT hN ih hd hn hk hm (x:=frm kind [] false [] .nils (.slice [a,c]) (one1 e)) (mkF rfl) (f:=f - 1) (Lp:=fun q s kind l1 l2=>loopN (p_src_st (fns n) q) n' (.l1 s kind l1 l2 (w + 7))) fun j hj m' kind' y e' hm' hy he' =>
      IH j (by omega) (by omega) (f - 1) (by omega) n' (by omega) m' kind' _ y e' _ hm' (mkF rfl) hy he'
    refine Sat.spec h1 fun i hi=>?_
    subst hi
    obtain ⟨f,rfl⟩:∃ f',f = f' + 1:=⟨f - 1,by have:=hm.2; have:=hm.1; omega⟩
    rfl
theorem p_src_ (hn:N + 2 ≤ n) (hk:k ≤ r) (hm:m.In T k) {f:Nat} (hf:k ≤ f):Has T k (bP T d) okF ((fns n).p_src (bP T d m)) m (sourceF isW T (recs isW T r) f d):=by
  obtain ⟨n,rfl,hp⟩:=pos hn; refine Sat.has (X:=fun q=>p_src_st (fns n) q (loopN (p_src_st (fns n) q) n) (.e (bP T d m))) ?_ fun o ho=>rawN_eq enc25_inj ho; simp only [p_src_st]
  refine Sat.call (p_one_ hT hN ih hd (by omega) hk hm) fun x m hm hx=>?_
  simp only [hx,an_true,flFrm hx]
  obtain ⟨n',rfl⟩:∃ z,n = z + 1:=⟨n - 1,by omega⟩
  have h1:=psrc_step hT hN ih hd (show N + 1 ≤ n' + 1 by omega) hk hm hx (f:=f - 1) (Lp:=fun q s kind l1 l2=>loopN (p_src_st (fns (n' + 1)) q) n' (.l1 s kind l1 l2 14)) fun j hj m' kind' y e' hm' hy he' =>
    psrc_loop hT hN ih hd (by omega) j (by omega) (f - 1) (by omega) n' (by omega) m' kind' x y e' _ hm' hx hy he'
  refine Sat.spec (Sat.eq h1 fun q=>?_) fun i hi=>?_
  · simp only [loopN_s,p_src_st,flFrm hx,G_ok hx]
  · subst hi
    obtain ⟨f,rfl⟩:∃ f',f = f' + 1:=⟨f - 1,by have:=hm.2; have:=hm.1; omega⟩
    rfl
theorem p_exprs_ (hn:N + 2 ≤ n) (hk:k ≤ r) (hm:m.In T k) {f:Nat} (hf:k ≤ f):Has T k (bP T d) okL ((fns n).p_exprs (bP T d m)) m (pList T ((recs isW T r).expr d) f):=by
  obtain ⟨n,rfl,hp⟩:=pos hn; refine Sat.has (X:=fun q=>p_exprs_st (fns n) q (loopN (p_exprs_st (fns n) q) n) (.e (bP T d m))) ?_ fun o ho=>rawN_eq enc24_inj ho; simp only [p_exprs_st]
  refine Sat.call (ih.expr _ (by omega) _ hd _ hk _ hm) fun x m hm hx=>?_
  simp only [hx,an_true,G_ok hx]
  refine Sat.eq ?_ fun q=>conwExprs (w:=.l0 _ _)
  have tk':∀ (k:Nat) (m:Mix) (w:List UInt8),m.In T k → w = [44] → (fns n).p_take (bP T d m) w = some (m.sees T 4 w,bP T d (m.takes T 4 w)):=fun k m w hm hw=>by
    subst hw
    exact p_takeM hT (by omega) hm (by decide)
  exact (list_sat1 hT.ends (by decide) (fun k m hm=>tk' k m [44] hm rfl) (fun j hj m hm=>ih.expr _ (by omega) _ hd _ hj _ hm) (fun v A h=>flEx h) (fun v h=>by rw [cells_len h,ctEx]; rfl) k (by omega) f hf n (by omega) m [x] hm (by simp; omega)).2 x hx rfl
theorem plim (hn:N + 2 ≤ n) (hm:m.In T k) {v:Bool} {items froms wheres group having o:D} (h1:okL items) (h2:okL froms) (h3:okL wheres) (h4:okL group) (h5:okL having) (ho:okL o) :
    Sat T k (bP T d) okQ (fun q=>bn ((fns n).p_take (bP T d m) [108,105,109,105,116]) fun x=>cnd x.1 (bn ((fns n).p_int x.2) fun y=>q (.agg [.int .i64 1,.bool v,items,froms,wheres,group,having,o,.int .i64 y.1,.nils],y.2)) (q (.agg [.int .i64 1,.bool v,items,froms,wheres,group,having,o,.int .i64 (-1),.nils],x.2))) m (seqO (limitF T) fun limit=>retO (qu 1 v items froms wheres group having o limit .nils)):=by
  unfold okL at h1 h2 h3 h4 h5 ho
  simp only [limitF,seq_if,seq_ret]
  refine Sat.word hT.ends (by decide) hm (p_takeW hT (by omega) hm (by decide)) (fun i j hj hm=>?_) ?_ <;> simp only [cnd_true,cnd_false,Bool.not_true,Bool.not_false]
  · refine Sat.call (p_int_ hT (by omega) (hm.mono (Nat.le_succ _))) fun x m hm _=>?_
    exact Sat.ret hm (mkQ (by simp only [h1,h2,h3,h4,h5,ho]; rfl)) rfl rfl
  · exact Sat.ret hm (mkQ (by simp only [h1,h2,h3,h4,h5,ho]; rfl)) rfl rfl
theorem ppart_l6 (hn:N + 2 ≤ n) {v:Bool} {items froms wheres group having:D} (h1:okL items) (h2:okL froms) (h3:okL wheres) (h4:okL group) (h5:okL having) :
    ∀ k,k ≤ r → ∀ f,k ≤ f → ∀ n',k + 1 ≤ n' → ∀ (m:Mix) (w w':Nat) (l:List D),m.In T k → l ≠ [] → sized 7 l = true → l.length + k ≤ 500000 →
    Sat T k (bP T d) okQ (fun q=>loopN (p_part_st (fns n) q) n' (.l6 (m.sees T 4 [44]) (bP T d (m.takes T 4 [44])) v items froms wheres group having w l w')) m (seqO (pMore T (keyF T (recs isW T r) d) f l) fun o=>seqO (limitF T) fun limit=>retO (qu 1 v items froms wheres group having o limit .nils)):=by
  intro k
  induction k using Nat.strongRecOn with
  | ind k IH =>
    intro hk f hf n' hn' m w w' l hm hl hs hlen
    obtain ⟨n',rfl⟩:∃ z,n' = z + 1:=⟨n' - 1,by omega⟩
    have g1:=h1; have g2:=h2; have g3:=h3; have g4:=h4; have g5:=h5
    unfold okL at h1 h2 h3 h4 h5
    have he:l.isEmpty = false:=by cases l with | nil=>exact absurd rfl hl | cons _ _=>rfl
    have hbl:l.length.beq l.length = true:=Nat.beq_refl _
    have hbw:w.beq w = true:=Nat.beq_refl _
    have hap:∀ z:D,(l.length + 1).beq (l ++ [z]).length = true:=fun z=>by rw [List.length_append]; exact Nat.beq_refl _
    have hrm:=room_ok (show l.length + 1 ≤ 1000000 by omega) (show 104 ≤ 1000 by decide)
    have fin:∀ m:Mix,m.In T k → Sat T k (bP T d) okQ (fun q=>bn ((fns n).p_take (bP T d m) [108,105,109,105,116]) fun x=>cnd x.1 (bn ((fns n).p_int x.2) fun y=>q (.agg [.int .i64 1,.bool v,items,froms,wheres,group,having,.slice l,.int .i64 y.1,.nils],y.2)) (q (.agg [.int .i64 1,.bool v,items,froms,wheres,group,having,.slice l,.int .i64 (-1),.nils],x.2))) m (seqO (limitF T) fun limit=>retO (qu 1 v items froms wheres group having (.slice l) limit .nils)):=fun m hm=>plim hT hN ih hd hn hm g1 g2 g3 g4 g5 rfl
    simp only [loopN_s,p_part_st,h1,h2,h3,h4,h5,an_true,hbw,hbl,he,hs,hrm,hap,cnd_false]
    cases m with
    | er i d' a e =>
      simp only [Mix.sees,Mix.takes,cnd_false]
      exact Sat.spec (fin _ hm) fun j hj=>nomatch hj
    | ok i =>
      obtain ⟨j,rfl⟩:∃ j,k = j + 1:=⟨k - 1,by have:=hm.2; have:=hm.1; omega⟩
      obtain ⟨f,rfl⟩:∃ z,f = z + 1:=⟨f - 1,by omega⟩
      cases hs1:pSees T 4 [44] i with
      | false =>
        simp only [Mix.sees,Mix.takes,hs1,cnd_false,Bool.false_eq_true,if_false]
        refine Sat.spec (fin _ hm) fun i' hi'=>?_
        cases hi'
        show _ = (Out.bind (ifO T 4 [44] _ _ i) _)
        simp only [ifO,hs1,Bool.false_eq_true,if_false,retO,Out.bind]
      | true =>
        have hi:=hT.ends.next hm.1 (show (tk T i).kind ≠ 0 by rw [(sees_kind hs1).1]; decide)
        have hm':(Mix.ok (i + 1)).In T j:=⟨hi,by have:=hm.2; omega⟩
        simp only [Mix.sees,Mix.takes,hs1,cnd_true,if_true]
        refine Sat.more (r:=j) (Sat.shift (m':=.ok (i + 1)) (g:=seqO (seqO (seqO ((recs isW T r).expr d) fun x=>ifO T 1 w_desc (retO (ky x true)) (retO (ky x false))) fun y=>pMore T (keyF T (recs isW T r) d) f (l ++ [y])) fun o=>seqO (limitF T) fun limit=>retO (qu 1 v items froms wheres group having o limit .nils)) ?_ (by
          show (Out.bind (ifO T 4 [44] _ _ i) _) = _
          simp only [ifO,hs1,if_true]; rfl)) (Nat.le_succ j)
        simp only [seq_seq,seq_if,seq_ret]
        refine Sat.call (ih.expr _ (by omega) _ hd _ (by omega) _ hm') fun x m hm hx=>?_
        simp only [hx,an_true,flEx hx]
        have hsz:∀ z:D,sized 7 (l ++ [z]) = true:=fun z=>by cases l with | nil=>exact absurd rfl hl | cons _ _=>exact hs
        have nx:∀ (jj:Nat),jj ≤ j → ∀ (y:D) (m:Mix),m.In T jj → Sat T jj (bP T d) okQ (fun q=>bn ((fns n).p_take (bP T d m) [44]) fun x71=>loopN (p_part_st (fns n) q) n' (.l6 x71.1 x71.2 v items froms wheres group having w' (l ++ [y]) (w' + 1))) m (seqO (pMore T (keyF T (recs isW T r) d) f (l ++ [y])) fun o=>seqO (limitF T) fun limit=>retO (qu 1 v items froms wheres group having o limit .nils)):=fun jj hjj y m hm=>by
          have t1:=p_takeM hT (n:=n) (d:=d) (by omega) hm (show firstL [44] = false from rfl)
          simp only [t1,bn_some]
          exact IH jj (by omega) (by omega) f (by omega) n' (by omega) m w' (w' + 1) (l ++ [y]) hm (by simp) (hsz y) (by simp; omega)
        refine Sat.word hT.ends (by decide) hm (p_takeW hT (by omega) hm (by decide)) (fun i j hj hm=>?_) ?_ <;> simp only [cnd_true,cnd_false,Bool.not_true,Bool.not_false]
        · simp only [(okKy hx (s:=true)).2]
          exact nx _ (by omega) _ _ hm
        · simp only [(okKy hx (s:=false)).2]
          exact nx _ (by omega) _ _ hm
end
end Go.Proofs.YtfdcjngclelnhaaGreat
