/- Part of a proof. -/
import Derived.Test.YtfdcjngclelnhaaL14
set_option linter.unusedSectionVars false
set_option linter.unusedSimpArgs false
set_option linter.unusedVariables false
namespace Go.Proofs.Ytfdcjngclelnhaa
open Go
structure SOk (T:List Tok) (N r:Nat):Prop where
  expr:∀ n,N ≤ n → ∀ d,d ≤ 40 → ∀ k,k ≤ r → ∀ m:Mix,m.In T k → Has T k (bS T d) okE ((fns n).s_expr (bS T d m)) m ((recs isW T r).expr d)
  query:∀ n,N ≤ n → ∀ d,d ≤ 40 → ∀ k,k ≤ r → ∀ m:Mix,m.In T k → Has T k (bS T d) okQ ((fns n).s_query (bS T d m)) m ((recs isW T r).query d)
  ands:∀ n,N ≤ n → ∀ d,d ≤ 40 → ∀ k,k ≤ r → ∀ i,(Mix.ok i).In T k → Has T k (bS T d) okE ((fns n).s_expr1 (bS T d (.ok i))) (.ok i) ((recs isW T r).ands d)
  nots:∀ n,N ≤ n → ∀ d,d ≤ 40 → ∀ k,k ≤ r → ∀ i,(Mix.ok i).In T k → Has T k (bS T d) okE ((fns n).s_not (bS T d (.ok i))) (.ok i) ((recs isW T r).nots d)
  sum:∀ n,N ≤ n → ∀ d,d ≤ 40 → ∀ k,k ≤ r → ∀ i,(Mix.ok i).In T k → Has T k (bS T d) okE ((fns n).s_sum (bS T d (.ok i))) (.ok i) ((recs isW T r).sum d)
  prod:∀ n,N ≤ n → ∀ d,d ≤ 40 → ∀ k,k ≤ r → ∀ i,(Mix.ok i).In T k → Has T k (bS T d) okE ((fns n).s_prod (bS T d (.ok i))) (.ok i) ((recs isW T r).prod d)
  unary:∀ n,N ≤ n → ∀ d,d ≤ 40 → ∀ k,k ≤ r → ∀ i,(Mix.ok i).In T k → Has T k (bS T d) okE ((fns n).s_unary (bS T d (.ok i))) (.ok i) ((recs isW T r).unary d)
  part:∀ n,N ≤ n → ∀ d,d ≤ 40 → ∀ k,k ≤ r → ∀ i,(Mix.ok i).In T k → Has T k (bS T d) okQ ((fns n).s_part (bS T d (.ok i))) (.ok i) ((recs isW T r).part d)
theorem s_bin_ {n:Nat} (hn:1 ≤ n) {w:List UInt8} {x y:D} (hx:okE x) (hy:okE y):(fns n).s_bin w x y = some (binX w x y):=by
  obtain ⟨n,rfl,hp⟩:=pos hn
  refine rawN_eq enc9_inj fun q=>?_
  simp only [loopN_s,s_bin_st,G_ok hx,G_ok hy]
  rfl
theorem s_gathers_ {n:Nat} (hn:1 ≤ n) {s:List UInt8}:(fns n).s_gathers s = some (gathersB s):=by
  obtain ⟨n,rfl,hp⟩:=pos hn
  refine rawN_eq enc10_inj fun q=>?_
  show caseL s q [w_count,w_sum,w_min,w_max] = _
  rw [caseL_eq]
  simp only [List.contains_cons,List.contains_nil,gathersB,Bool.or_false,Bool.or_assoc]
section
variable {T:List Tok} (hT:TOk T) {N r:Nat} (hN:40 + 8 * (r + 3) ≤ N ∧ r ≤ 200000) (ih:SOk T N r) {n d k:Nat} (hd:d ≤ 40) {m:Mix}
include hT hN ih hd
theorem s_bracketed_ (hn:N + 1 ≤ n) (hk:k ≤ r) (hm:m.In T k):Has T k (bS T d) okQ ((fns n).s_bracketed (bS T d m)) m (bracketedF T (recs isW T r) d):=by
  obtain ⟨n,rfl,hp⟩:=pos hn; refine Sat.has (X:=fun q=>s_bracketed_st (fns n) q (loopN (s_bracketed_st (fns n) q) n) (.e (bS T d m))) ?_ fun o ho=>rawN_eq enc0_inj ho; simp only [s_bracketed_st]
  refine Sat.callU (s_need_ hT (by omega) (hm.mono (Nat.le_succ _))) fun m hm=>?_
  refine Sat.call (ih.query _ (by omega) _ hd _ hk _ hm) fun x m hm hx=>?_
  simp only [hx,an_true,flQu hx,G_ok hx]
  refine Sat.callU (s_need_ hT (by omega) (hm.mono (Nat.le_succ _))) fun m hm=>?_
  exact Sat.ret hm hx rfl rfl
theorem s_cases_ (hn:N + 1 ≤ n) (hk:k ≤ r) (hm:m.In T k):Has T k (bS T d) okE ((fns n).s_cases (bS T d m)) m (casesF T (recs isW T r) d):=by
  obtain ⟨n,rfl,hp⟩:=pos hn; refine Sat.has (X:=fun q=>s_cases_st (fns n) q (loopN (s_cases_st (fns n) q) n) (.e (bS T d m))) ?_ fun o ho=>rawN_eq enc0_inj ho; simp only [s_cases_st]
  refine Sat.callU (s_must_ hT (by omega) (hm.mono (Nat.le_succ _))) fun m hm=>?_
  refine Sat.call (ih.expr _ (by omega) _ hd _ hk _ hm) fun x m hm hx=>?_
  simp only [hx,an_true,flEx hx,G_ok hx]
  refine Sat.callU (s_must_ hT (by omega) (hm.mono (Nat.le_succ _))) fun m hm=>?_
  refine Sat.call (ih.expr _ (by omega) _ hd _ hk _ hm) fun y m hm hy=>?_
  simp only [hy,an_true,flEx hy,G_ok hy]
  refine Sat.callU (s_must_ hT (by omega) (hm.mono (Nat.le_succ _))) fun m hm=>?_
  refine Sat.call (ih.expr _ (by omega) _ hd _ hk _ hm) fun z m hm hz=>?_
  simp only [hz,an_true,flEx hz,G_ok hz]
  refine Sat.callU (s_must_ hT (by omega) (hm.mono (Nat.le_succ _))) fun m hm=>?_
  exact Sat.ret hm (mkE rfl) rfl rfl
theorem s_round_ (hn:N + 1 ≤ n) (hk:k ≤ r) (hm:m.In T k):Has T k (bS T d) okE ((fns n).s_round (bS T d m)) m (roundF T (recs isW T r) d):=by
  obtain ⟨n,rfl,hp⟩:=pos hn; refine Sat.has (X:=fun q=>s_round_st (fns n) q (loopN (s_round_st (fns n) q) n) (.e (bS T d m))) ?_ fun o ho=>rawN_eq enc0_inj ho; simp only [s_round_st]
  refine Sat.see (s_sees_ hT (by omega) hm) ?_ ?_ <;> simp only [cnd_true,cnd_false]
  · refine Sat.call (ih.query _ (by omega) _ hd _ hk _ hm) fun x m hm hx=>?_
    simp only [hx,an_true,flQu hx,G_ok hx]
    refine Sat.callU (s_need_ hT (by omega) (hm.mono (Nat.le_succ _))) fun m hm=>?_
    exact Sat.ret hm (mkE rfl) rfl rfl
  · refine Sat.call (ih.expr _ (by omega) _ hd _ hk _ hm) fun x m hm hx=>?_
    simp only [hx,an_true,flEx hx,G_ok hx]
    refine Sat.callU (s_need_ hT (by omega) (hm.mono (Nat.le_succ _))) fun m hm=>?_
    exact Sat.ret hm hx rfl rfl
theorem s_column_ (hn:N + 1 ≤ n) (hk:k ≤ r + 1) (hm:m.In T k):Has T k (bS T d) okE ((fns n).s_column (bS T d m)) m (columnF isW T (recs isW T r) d):=by
  obtain ⟨n,rfl,hp⟩:=pos hn; refine Sat.has (X:=fun q=>s_column_st (fns n) q (loopN (s_column_st (fns n) q) n) (.e (bS T d m))) ?_ fun o ho=>rawN_eq enc0_inj ho; simp only [s_column_st]
  refine Sat.call (s_name_ hT (by omega) (hm.mono (Nat.le_succ _))) fun s m hm _=>?_
  simp only [s_gathers_ (show 1 ≤ n by omega),bn_some]
  have dot:∀ {m:Mix},m.In T k → Sat T k (bS T d) okE (fun q=>bn ((fns n).s_mark (bS T d m) [46]) fun x=>cnd x.1 (bn ((fns n).s_name x.2) fun y=>q ((.agg [.int .i64 5,.int .i64 0,.str y.1,.str s,.nils,.nils]),y.2)) (q ((.agg [.int .i64 5,.int .i64 0,.str s,.str [],.nils,.nils]),x.2))) m (dotF isW T s):=by
    intro m hm
    refine Sat.word hT.ends (by decide) hm (s_mark_ hT (by omega) hm) (fun i j hj hm=>?_) ?_ <;> simp only [cnd_true,cnd_false,Bool.not_true,Bool.not_false]
    · refine Sat.call (s_name_ hT (by omega) (hm.mono (Nat.le_succ _))) fun t m hm _=>?_
      exact Sat.ret hm (mkE rfl) rfl rfl
    · exact Sat.ret hm (mkE rfl) rfl rfl
  have agg:∀ {m:Mix} {j:Nat},j ≤ r → m.In T j → Sat T j (bS T d) okE (fun q=>bn ((fns n).s_expr (bS T d m)) fun x=>an (okG 38 x.1) (bn ((fns n).s_need x.2 [41]) fun y=>q ((.agg [.int .i64 15,.int .i64 0,.str s,.str [],D.slice [G 38 x.1],.nils]),y))) m (agg1F T (recs isW T r) d s):=by
    intro m j hj hm
    refine Sat.call (ih.expr _ (by omega) _ hd _ hj _ hm) fun x m hm hx=>?_
    simp only [hx,an_true,G_ok hx]
    refine Sat.callU (s_need_ hT (by omega) (hm.mono (Nat.le_succ _))) fun m hm=>?_
    exact Sat.ret hm (mkE rfl) rfl rfl
  cases hg:gathersB s with
  | false =>
    simp only [cnd_false,Bool.false_eq_true,if_false]
    exact dot hm
  | true =>
    simp only [cnd_true,if_true]
    refine Sat.word hT.ends (by decide) hm (s_mark_ hT (by omega) hm) (fun i j hj hm=>?_) ?_ <;> simp only [cnd_true,cnd_false,Bool.not_true,Bool.not_false]
    · unfold aggF
      cases hc:s == w_count with
      | false =>
        have hc':(s == [99,111,117,110,116]) = false:=hc
        simp only [hc',Bool.not_false,cnd_true,Bool.false_eq_true,if_false]
        exact agg (by omega) hm
      | true =>
        have hc':(s == [99,111,117,110,116]) = true:=hc
        simp only [hc',Bool.not_true,cnd_false,if_true]
        refine Sat.word hT.ends (by decide) hm (s_mark_ hT (by omega) hm) (fun i j hj hm=>?_) ?_ <;> simp only [cnd_true,cnd_false,Bool.not_true,Bool.not_false]
        · refine Sat.callU (s_need_ hT (by omega) (hm.mono (Nat.le_succ _))) fun m hm=>?_
          exact Sat.ret hm (mkE rfl) rfl rfl
        · exact agg (by omega) hm
    · exact dot hm
theorem s_prim_ (hn:N + 2 ≤ n) (hk:k ≤ r + 1) {i:Nat} (hm:(Mix.ok i).In T k):Has T k (bS T d) okE ((fns n).s_prim (bS T d (.ok i))) (.ok i) (primF isW T (recs isW T r) d):=by
  obtain ⟨n,rfl,hp⟩:=pos hn; refine Sat.has (X:=fun q=>s_prim_st (fns n) q (loopN (s_prim_st (fns n) q) n) (.e (bS T d (.ok i)))) ?_ fun o ho=>rawN_eq enc0_inj ho; simp only [s_prim_st]
  have en:=@s_now_ T hT n i (by omega) hm.1 (Int.ofNat d) 0 0
  have hc4:((bS T d (.ok i)).c4 != 0) = false:=rfl
  simp only [hc4,cnd_false]
  have en':(fns n).s_now (bS T d (.ok i)) = some ((tk T i).d,bS T d (.ok i)):=en
  simp only [en',bn_some,okTok,an_true,cTok0,cTok1,cTok2]
  have hnx:∀ {z:D},(tk T i).kind ≠ 0 → okE z → Sat T k (bS T d) okE (fun q=>bn ((fns n).s_next (bS T d (.ok i))) fun x=>q (z,x)) (.ok i) (fun _=>.ok z (i + 1)):=fun hk0 hz=>by
    have hi:=hT.ends.next hm.1 hk0
    simp only [s_next_ hT (show 1 ≤ n by omega) hi,bn_some]
    exact ⟨_,⟨.ok (i + 1),rfl,⟨hi,by have:=hm.2; omega⟩,hz,rfl,rfl⟩,fun _=>rfl⟩
  cases h2:(tk T i).kind == 2 with
  | true =>
    simp only [cnd_true]
    refine (hnx (fun e=>by simp [e] at h2) (mkE rfl)).spec fun j hj=>?_
    cases hj
    simp only [primF,h2,if_true]
  | false =>
    simp only [cnd_false]
    cases h3:(tk T i).kind == 3 with
    | true =>
      simp only [cnd_true]
      refine (hnx (fun e=>by simp [e] at h3) (mkE rfl)).spec fun j hj=>?_
      cases hj
      simp only [primF,h2,h3,Bool.false_eq_true,if_true,if_false]
    | false =>
      simp only [cnd_false]
      refine Sat.spec (f:=ifO T 1 w_null (retO (ex 1 0 [] [] .nils .nils)) (ifO T 1 w_true (retO (ex 2 1 [] [] .nils .nils)) (ifO T 1 w_false (retO (ex 2 0 [] [] .nils .nils))
        (ifO T 4 [58] (seqO (pName isW T) fun s=>retO (ex 6 0 s [] .nils .nils)) (ifO T 1 w_case (casesF T (recs isW T r) d)
        (ifO T 1 w_exists (seqO (bracketedF T (recs isW T r) d) fun q=>retO (ex 12 0 [] [] .nils (one1 q))) (ifO T 4 [40] (roundF T (recs isW T r) d) (columnF isW T (recs isW T r) d)))))))) ?_ fun j hj=>by
          cases hj
          simp only [primF,h2,h3,Bool.false_eq_true,if_false]
      refine Sat.word hT.ends (by decide) hm (s_word_ hT (by omega) hm) (fun i j hj hm=>?_) ?_ <;> simp only [cnd_true,cnd_false,Bool.not_true,Bool.not_false]
      · exact Sat.ret hm (mkE rfl) rfl rfl
      refine Sat.word hT.ends (by decide) hm (s_word_ hT (by omega) hm) (fun i j hj hm=>?_) ?_ <;> simp only [cnd_true,cnd_false,Bool.not_true,Bool.not_false]
      · exact Sat.ret hm (mkE rfl) rfl rfl
      refine Sat.word hT.ends (by decide) hm (s_word_ hT (by omega) hm) (fun i j hj hm=>?_) ?_ <;> simp only [cnd_true,cnd_false,Bool.not_true,Bool.not_false]
      · exact Sat.ret hm (mkE rfl) rfl rfl
      refine Sat.word hT.ends (by decide) hm (s_mark_ hT (by omega) hm) (fun i j hj hm=>?_) ?_ <;> simp only [cnd_true,cnd_false,Bool.not_true,Bool.not_false]
      · refine Sat.call (s_name_ hT (by omega) (hm.mono (Nat.le_succ _))) fun s m hm _=>?_
        exact Sat.ret hm (mkE rfl) rfl rfl
      refine Sat.word hT.ends (by decide) hm (s_word_ hT (by omega) hm) (fun i j hj hm=>?_) ?_ <;> simp only [cnd_true,cnd_false,Bool.not_true,Bool.not_false]
      · refine Sat.last (s_cases_ hT hN ih hd (by omega) (by omega) hm) fun x m hx q=>?_
        simp only [hx,an_true,flEx hx,G_ok hx]
      refine Sat.word hT.ends (by decide) hm (s_word_ hT (by omega) hm) (fun i j hj hm=>?_) ?_ <;> simp only [cnd_true,cnd_false,Bool.not_true,Bool.not_false]
      · refine Sat.call (s_bracketed_ hT hN ih hd (by omega) (by omega) hm) fun x m hm hx=>?_
        simp only [hx,an_true,G_ok hx]
        exact Sat.ret hm (mkE rfl) rfl rfl
      refine Sat.word hT.ends (by decide) hm (s_mark_ hT (by omega) hm) (fun i j hj hm=>?_) ?_ <;> simp only [cnd_true,cnd_false,Bool.not_true,Bool.not_false]
      · refine Sat.last (s_round_ hT hN ih hd (by omega) (by omega) hm) fun x m hx q=>?_
        simp only [hx,an_true,flEx hx,G_ok hx]
      · refine Sat.last (s_column_ hT hN ih hd (by omega) hk hm) fun x m hx q=>?_
        simp only [hx,an_true,flEx hx,G_ok hx]
theorem s_unary_ (hn:N + 3 ≤ n) (hk:k ≤ r + 1) {i:Nat} (hm:(Mix.ok i).In T k):Has T k (bS T d) okE ((fns n).s_unary (bS T d (.ok i))) (.ok i) (unaryF isW T (recs isW T r) d):=by
  obtain ⟨n,rfl,hp⟩:=pos hn; refine Sat.has (X:=fun q=>s_unary_st (fns n) q (loopN (s_unary_st (fns n) q) n) (.e (bS T d (.ok i)))) ?_ fun o ho=>rawN_eq enc0_inj ho; simp only [s_unary_st]
  refine Sat.word hT.ends (by decide) hm (s_mark_ hT (by omega) hm) (fun i j hj hm=>?_) ?_ <;> simp only [cnd_true,cnd_false,Bool.not_true,Bool.not_false]
  · rename_i i j
    have h1:Has T j (bS T d) okE ((fns n).s_inner_neg (bS T d (.ok i)) 7) (.ok i) (seqO (pDeep T d) fun _=>seqO ((recs isW T r).unary (d + 1)) fun x=>retO (ex 7 0 [] [] (one1 x) .nils)):=by
      have hn:=hp
      obtain ⟨n,rfl,hp⟩:=pos hn; refine Sat.has (X:=fun q=>s_inner_neg_st (fns n) q (loopN (s_inner_neg_st (fns n) q) n) (.e (bS T d (.ok i)) 7)) ?_ fun o ho=>rawN_eq enc13_inj ho; simp only [s_inner_neg_st]
      refine s_enter_ hT (by omega) hd hm (show okE (ex 0 0 [] [] .nils .nils) from mkE rfl) (fun q s=>rfl) fun i hi hd1=>?_
      simp only [Bool.not_true,cnd_false]
      refine Sat.call (ih.unary _ (by omega) _ hd1 _ (by omega) _ hi) fun x m hm hx=>?_
      simp only [hx,an_true,G_ok hx]
      exact Sat.leave hT (by omega) hd hm (mkE rfl) rfl fun _ _=>rfl
    refine Sat.last h1 fun x m hx q=>?_
    simp only [hx,an_true,flEx hx,G_ok hx]
  · refine Sat.last (s_prim_ hT hN ih hd (by omega) hk hm) fun x m hx q=>?_
    simp only [hx,an_true,flEx hx,G_ok hx]
def vProd:LV B82 → s_left_prod_V
  | .l0 a b c e=>.l0 a b c e
  | .l1 a b c e f g=>.l1 a b c e f g
def vSum:LV B82 → s_left_sum_V
  | .l0 a b c e=>.l0 a b c e
  | .l1 a b c e f g=>.l1 a b c e f g
def vAnd:LV B82 → s_left_and_V
  | .l0 a b c e=>.l0 a b c e
  | .l1 a b c e f g=>.l1 a b c e f g
def vOr:LV B82 → s_left_or_V
  | .l0 a b c e=>.l0 a b c e
  | .l1 a b c e f g=>.l1 a b c e f g
end
theorem conv_loop {V W:Type} {st:(V → Prop) → V → Prop} {st':(W → Prop) → W → Prop} {v:W → V} (h:∀ l w,st l (v w) = st' (fun w=>l (v w)) w):∀ n w,loopN st n (v w) = loopN st' n w
  | 0,_=>rfl
  | n + 1,w=>by
    rw [loopN_s,loopN_s,h]
    exact congrArg (fun l=>st' l w) (funext fun w=>conv_loop h n w)
theorem convProd {S:Fns} {q:D × B82 → Prop} {n:Nat} {w:LV B82}:loopN (s_left_prod_st S q) n (vProd w) = loopN (leftSt S.s_unary S.s_mark S.s_bin q) n w:=conv_loop (fun l w=>by cases w <;> rfl) n w
theorem convSum {S:Fns} {q:D × B82 → Prop} {n:Nat} {w:LV B82}:loopN (s_left_sum_st S q) n (vSum w) = loopN (leftSt S.s_prod S.s_mark S.s_bin q) n w:=conv_loop (fun l w=>by cases w <;> rfl) n w
theorem convAnd {S:Fns} {q:D × B82 → Prop} {n:Nat} {w:LV B82}:loopN (s_left_and_st S q) n (vAnd w) = loopN (leftSt S.s_not S.s_word S.s_bin q) n w:=conv_loop (fun l w=>by cases w <;> rfl) n w
theorem convOr {S:Fns} {q:D × B82 → Prop} {n:Nat} {w:LV B82}:loopN (s_left_or_st S q) n (vOr w) = loopN (leftSt S.s_expr1 S.s_word S.s_bin q) n w:=conv_loop (fun l w=>by cases w <;> rfl) n w
section
variable {T:List Tok} (hT:TOk T) {N r:Nat} (hN:40 + 8 * (r + 3) ≤ N ∧ r ≤ 200000) (ih:SOk T N r) {n d k:Nat} (hd:d ≤ 40) {m:Mix}
include hT hN ih hd
theorem s_prod_ (hn:N + 5 ≤ n) (hk:k ≤ r + 1) {i:Nat} (hm:(Mix.ok i).In T k):Has T k (bS T d) okE ((fns n).s_prod (bS T d (.ok i))) (.ok i) (prodF isW T (recs isW T r) (r + 1) d):=by
  have h1:∀ n,N + 4 ≤ n → Has T k (bS T d) okE ((fns n).s_left_prod (bS T d (.ok i)) (.slice (opsProd.map .str))) (.ok i) (prodF isW T (recs isW T r) (r + 1) d):=fun n hn=>by
    obtain ⟨n,rfl,hp⟩:=pos hn; refine Sat.has (X:=fun q=>s_left_prod_st (fns n) q (loopN (s_left_prod_st (fns n) q) n) (.e (bS T d (.ok i)) (.slice (opsProd.map .str)))) ?_ fun o ho=>rawN_eq enc12_inj ho; simp only [s_left_prod_st]
    refine Sat.call (s_unary_ hT hN ih hd (by omega) hk hm) fun x m hm hx=>?_
    simp only [hx,an_true,flEx hx]
    refine Sat.eq ?_ fun q=>convProd (w:=.l0 _ _ _ _)
    exact left_sat hT.ends (by decide) (fun k m w hm=>s_mark_ hT (by omega) hm) (fun j hj i hi=>ih.unary n (by omega) d hd j hj i hi) (fun w x y hx hy=>s_bin_ (by omega) hx hy) (by decide) k hk (r + 1) hk n (by omega) m x 6 hm hx
  obtain ⟨n,rfl,hp⟩:=pos hn; refine Sat.has (X:=fun q=>s_prod_st (fns n) q (loopN (s_prod_st (fns n) q) n) (.e (bS T d (.ok i)))) ?_ fun o ho=>rawN_eq enc0_inj ho; simp only [s_prod_st]
  refine Sat.last (h1 n (by omega)) fun x m hx q=>?_
  simp only [hx,an_true,flEx hx,G_ok hx]
theorem s_sum_ (hn:N + 7 ≤ n) (hk:k ≤ r + 1) {i:Nat} (hm:(Mix.ok i).In T k):Has T k (bS T d) okE ((fns n).s_sum (bS T d (.ok i))) (.ok i) (sumF isW T (recs isW T r) (r + 1) d):=by
  have h1:∀ n,N + 6 ≤ n → Has T k (bS T d) okE ((fns n).s_left_sum (bS T d (.ok i)) (.slice (opsSum.map .str))) (.ok i) (sumF isW T (recs isW T r) (r + 1) d):=fun n hn=>by
    obtain ⟨n,rfl,hp⟩:=pos hn; refine Sat.has (X:=fun q=>s_left_sum_st (fns n) q (loopN (s_left_sum_st (fns n) q) n) (.e (bS T d (.ok i)) (.slice (opsSum.map .str)))) ?_ fun o ho=>rawN_eq enc12_inj ho; simp only [s_left_sum_st]
    refine Sat.call (s_prod_ hT hN ih hd (by omega) hk hm) fun x m hm hx=>?_
    simp only [hx,an_true,flEx hx]
    refine Sat.eq ?_ fun q=>convSum (w:=.l0 _ _ _ _)
    exact left_sat hT.ends (by decide) (fun k m w hm=>s_mark_ hT (by omega) hm) (fun j hj i hi=>ih.prod n (by omega) d hd j hj i hi) (fun w x y hx hy=>s_bin_ (by omega) hx hy) (by decide) k hk (r + 1) hk n (by omega) m x 6 hm hx
  obtain ⟨n,rfl,hp⟩:=pos hn; refine Sat.has (X:=fun q=>s_sum_st (fns n) q (loopN (s_sum_st (fns n) q) n) (.e (bS T d (.ok i)))) ?_ fun o ho=>rawN_eq enc0_inj ho; simp only [s_sum_st]
  refine Sat.last (h1 n (by omega)) fun x m hx q=>?_
  simp only [hx,an_true,flEx hx,G_ok hx]
end
end Go.Proofs.Ytfdcjngclelnhaa
namespace Go.Proofs.Ytfdcjngclelnhaa
open Go
def tryC (T:List Tok) (rest:Nat → Out D) (x:D) (f:Nat → Out D) (l:List (List UInt8)):Nat → Out D:=fun i =>
  match opIn T 4 l i with
  | some w=>(rest (i + 1)).bind fun y=>retO (binX w x y)
  | none=>f i
theorem tryC_cons {T:List Tok} {rest:Nat → Out D} {x:D} {f:Nat → Out D} {w:List UInt8} {l:List (List UInt8)}:tryC T rest x f (w :: l) = ifO T 4 w (seqO rest fun y=>retO (binX w x y)) (tryC T rest x f l):=by
  funext i
  unfold tryC ifO seqO
  rw [opIn]
  cases pSees T 4 w i <;> rfl
section
variable {T:List Tok} (hT:TOk T) {N r:Nat} (hN:40 + 8 * (r + 3) ≤ N ∧ r ≤ 200000) (ih:SOk T N r) {n d k:Nat} (hd:d ≤ 40) {m:Mix}
include hT hN ih hd
theorem s_compared_ (hn:N + 8 ≤ n) (hk:k ≤ r + 1) {i:Nat} (hm:(Mix.ok i).In T k):Has T k (bS T d) okE ((fns n).s_compared (bS T d (.ok i))) (.ok i) (cmpF isW T (recs isW T r) (r + 1) d):=by
  obtain ⟨n,rfl,hp⟩:=pos hn; refine Sat.has (X:=fun q=>s_compared_st (fns n) q (loopN (s_compared_st (fns n) q) n) (.e (bS T d (.ok i)))) ?_ fun o ho=>rawN_eq enc0_inj ho; simp only [s_compared_st]
  refine Sat.call (s_sum_ hT hN ih hd (by omega) hk hm) fun x m hm hx=>?_
  simp only [hx,an_true,flEx hx]
  show Sat T k (bS T d) okE _ m (tryC T ((recs isW T r).sum d) x (cmp2F T (recs isW T r) d x) opsCmp)
  have inner:∀ (l:List (List UInt8)) (t n':Nat),opsCmp.drop t = l → t + l.length = opsCmp.length → l.length + 1 ≤ n' →
      Sat T k (bS T d) okE (fun q=>loopN (s_compared_st (fns n) q) n' (.l0 (Int.ofNat t) (bS T d m) x)) m (tryC T ((recs isW T r).sum d) x (cmp2F T (recs isW T r) d x) l):=by
    intro l
    induction l with
    | nil =>
      intro t n' hdr hl hn'
      obtain ⟨n',rfl⟩:∃ z,n' = z + 1:=⟨n' - 1,by omega⟩
      have h6:opsCmp.length = 6:=rfl
      have e:decide (Int.ofNat t < 6) = false:=by simp at hl ⊢; omega
      simp only [loopN_s,s_compared_st,e,cnd_false]
      show Sat T k (bS T d) okE _ m (cmp2F T (recs isW T r) d x)
      unfold cmp2F
      refine Sat.word hT.ends (by decide) hm (s_word_ hT (by omega) hm) (fun i j hj hm=>?_) ?_ <;> simp only [cnd_true,cnd_false,Bool.not_true,Bool.not_false]
      · unfold isF
        refine Sat.word hT.ends (by decide) hm (s_word_ hT (by omega) hm) (fun i j hj hm=>?_) ?_ <;> simp only [cnd_true,cnd_false,Bool.not_true,Bool.not_false]
        · refine Sat.callU (s_must_ hT (by omega) (hm.mono (Nat.le_succ _))) fun m hm=>?_
          simp only [G_ok hx]
          exact Sat.ret hm (mkE rfl) rfl rfl
        · refine Sat.callU (s_must_ hT (by omega) (hm.mono (Nat.le_succ _))) fun m hm=>?_
          simp only [G_ok hx]
          exact Sat.ret hm (mkE rfl) rfl rfl
      refine Sat.word hT.ends (by decide) hm (s_word_ hT (by omega) hm) (fun i j hj hm=>?_) ?_ <;> simp only [cnd_true,cnd_false,Bool.not_true,Bool.not_false]
      · refine Sat.callU (s_must_ hT (by omega) (hm.mono (Nat.le_succ _))) fun m hm=>?_
        refine Sat.call (s_bracketed_ hT hN ih hd (by omega) (by omega) hm) fun y m hm hy=>?_
        simp only [hy,an_true,G_ok hy,G_ok hx]
        exact Sat.ret hm (mkE rfl) rfl rfl
      refine Sat.word hT.ends (by decide) hm (s_word_ hT (by omega) hm) (fun i j hj hm=>?_) ?_ <;> simp only [cnd_true,cnd_false,Bool.not_true,Bool.not_false]
      · refine Sat.call (s_bracketed_ hT hN ih hd (by omega) (by omega) hm) fun y m hm hy=>?_
        simp only [hy,an_true,G_ok hy,G_ok hx]
        exact Sat.ret hm (mkE rfl) rfl rfl
      · simp only [flEx hx,G_ok hx]
        exact Sat.ret hm hx rfl rfl
    | cons u l ih2 =>
      intro t n' hdr hl hn'
      obtain ⟨n',rfl⟩:∃ z,n' = z + 1:=⟨n' - 1,by omega⟩
      have h6:opsCmp.length = 6:=rfl
      have ht:t < opsCmp.length:=by simp at hl; omega
      have e:decide (Int.ofNat t < 6) = true:=by simp; omega
      have e2:(decide (0 ≤ Int.ofNat t) && decide (Int.ofNat t < Int.ofNat 6)) = true:=by simp; omega
      have hdc:=List.drop_eq_getElem_cons ht
      rw [hdr] at hdc
      have hu:opsCmp[t] = u:=(List.cons.inj hdc).1.symm
      have hdl:opsCmp.drop (t + 1) = l:=(List.cons.inj hdc).2.symm
      have ea:([.str [61],.str [60,62],.str [60],.str [60,61],.str [62],.str [62,61]]:List D)[(Int.ofNat t).toNat * 1]? = some (.str u):=by
        rw [Nat.mul_one]
        show (opsCmp.map D.str)[t]? = _
        rw [List.getElem?_map,List.getElem?_eq_getElem ht,hu]; rfl
      have ew:IntKind.i64.wrap (Int.ofNat t + 1) = Int.ofNat (t + 1):=by rw [i64_small (by simp; omega) (by simp; omega)]; rfl
      simp only [loopN_s,s_compared_st,e,cnd_true,e2,an_true,ea,bn_some,asS,ew]
      rw [tryC_cons]
      refine Sat.word hT.ends (by decide) hm (s_mark_ hT (by omega) hm) (fun i j hj hm=>?_) ?_ <;> simp only [cnd_true,cnd_false,Bool.not_true,Bool.not_false]
      · refine Sat.call (ih.sum _ (by omega) _ hd _ (by omega) _ hm) fun y m hm hy=>?_
        simp only [hy,an_true,G_ok hy,G_ok hx,hx,s_bin_ (show 1 ≤ n by omega) hx hy,bn_some,show okG 38 (binX u x y) = true from okBin,flEx (show okG 38 (binX u x y) = true from okBin),G_ok (show okG 38 (binX u x y) = true from okBin)]
        exact Sat.ret hm okBin rfl rfl
      · exact ih2 (t + 1) n' hdl (by simp at hl; omega) (by simp at hn'; omega)
  exact inner opsCmp 0 n rfl rfl (by have h6 : opsCmp.length = 6 := rfl
                                     omega)
theorem s_not_ (hn:N + 9 ≤ n) (hk:k ≤ r + 1) {i:Nat} (hm:(Mix.ok i).In T k):Has T k (bS T d) okE ((fns n).s_not (bS T d (.ok i))) (.ok i) (notF isW T (recs isW T r) (r + 1) d):=by
  obtain ⟨n,rfl,hp⟩:=pos hn; refine Sat.has (X:=fun q=>s_not_st (fns n) q (loopN (s_not_st (fns n) q) n) (.e (bS T d (.ok i)))) ?_ fun o ho=>rawN_eq enc0_inj ho; simp only [s_not_st]
  refine Sat.word hT.ends (by decide) hm (s_word_ hT (by omega) hm) (fun i j hj hm=>?_) ?_ <;> simp only [cnd_true,cnd_false,Bool.not_true,Bool.not_false]
  · rename_i i j
    have h1:Has T j (bS T d) okE ((fns n).s_inner_not (bS T d (.ok i)) 8) (.ok i) (seqO (pDeep T d) fun _=>seqO ((recs isW T r).nots (d + 1)) fun x=>retO (ex 8 0 [] [] (one1 x) .nils)):=by
      have hn:=hp
      obtain ⟨n,rfl,hp⟩:=pos hn; refine Sat.has (X:=fun q=>s_inner_not_st (fns n) q (loopN (s_inner_not_st (fns n) q) n) (.e (bS T d (.ok i)) 8)) ?_ fun o ho=>rawN_eq enc13_inj ho; simp only [s_inner_not_st]
      refine s_enter_ hT (by omega) hd hm (show okE (ex 0 0 [] [] .nils .nils) from mkE rfl) (fun q s=>rfl) fun i hi hd1=>?_
      simp only [Bool.not_true,cnd_false]
      refine Sat.call (ih.nots _ (by omega) _ hd1 _ (by omega) _ hi) fun x m hm hx=>?_
      simp only [hx,an_true,G_ok hx]
      exact Sat.leave hT (by omega) hd hm (mkE rfl) rfl fun _ _=>rfl
    refine Sat.last h1 fun x m hx q=>?_
    simp only [hx,an_true,flEx hx,G_ok hx]
  · refine Sat.last (s_compared_ hT hN ih hd (by omega) hk hm) fun x m hx q=>?_
    simp only [hx,an_true,flEx hx,G_ok hx]
theorem s_ands_ (hn:N + 11 ≤ n) (hk:k ≤ r + 1) {i:Nat} (hm:(Mix.ok i).In T k):Has T k (bS T d) okE ((fns n).s_expr1 (bS T d (.ok i))) (.ok i) (andF isW T (recs isW T r) (r + 1) d):=by
  have h1:∀ n,N + 10 ≤ n → Has T k (bS T d) okE ((fns n).s_left_and (bS T d (.ok i)) (.slice ([w_and].map .str))) (.ok i) (andF isW T (recs isW T r) (r + 1) d):=fun n hn=>by
    obtain ⟨n,rfl,hp⟩:=pos hn; refine Sat.has (X:=fun q=>s_left_and_st (fns n) q (loopN (s_left_and_st (fns n) q) n) (.e (bS T d (.ok i)) (.slice ([w_and].map .str)))) ?_ fun o ho=>rawN_eq enc12_inj ho; simp only [s_left_and_st]
    refine Sat.call (s_not_ hT hN ih hd (by omega) hk hm) fun x m hm hx=>?_
    simp only [hx,an_true,flEx hx]
    refine Sat.eq ?_ fun q=>convAnd (w:=.l0 _ _ _ _)
    exact left_sat hT.ends (by decide) (fun k m w hm=>s_word_ hT (by omega) hm) (fun j hj i hi=>ih.nots n (by omega) d hd j hj i hi) (fun w x y hx hy=>s_bin_ (by omega) hx hy) (by decide) k hk (r + 1) hk n (by omega) m x 6 hm hx
  obtain ⟨n,rfl,hp⟩:=pos hn; refine Sat.has (X:=fun q=>s_expr1_st (fns n) q (loopN (s_expr1_st (fns n) q) n) (.e (bS T d (.ok i)))) ?_ fun o ho=>rawN_eq enc14_inj ho; simp only [s_expr1_st]
  refine Sat.last (h1 n (by omega)) fun x m hx q=>?_
  simp only [hx,an_true,flEx hx,G_ok hx]
theorem s_expr_ (hn:N + 13 ≤ n) (hk:k ≤ r + 1) (hm:m.In T k):Has T k (bS T d) okE ((fns n).s_expr (bS T d m)) m (exprF isW T (recs isW T r) (r + 1) d):=by
  obtain ⟨n,rfl,hp⟩:=pos hn; refine Sat.has (X:=fun q=>s_expr_st (fns n) q (loopN (s_expr_st (fns n) q) n) (.e (bS T d m))) ?_ fun o ho=>rawN_eq enc0_inj ho; simp only [s_expr_st]
  refine s_enter_ hT (by omega) hd hm (show okE (ex 0 0 [] [] .nils .nils) from mkE rfl) (fun q s=>rfl) fun i hm hd1=>?_
  simp only [Bool.not_true,cnd_false]
  have h1:Has T k (bS T (d + 1)) okE ((fns n).s_left_or (bS T (d + 1) (.ok i)) (.slice ([w_or].map .str))) (.ok i) (orF isW T (recs isW T r) (r + 1) (d + 1)):=by
    have hn:=hp
    obtain ⟨n,rfl,hp⟩:=pos hn; refine Sat.has (X:=fun q=>s_left_or_st (fns n) q (loopN (s_left_or_st (fns n) q) n) (.e (bS T (d + 1) (.ok i)) (.slice ([w_or].map .str)))) ?_ fun o ho=>rawN_eq enc11_inj ho; simp only [s_left_or_st]
    refine Sat.call (s_ands_ hT hN ih hd1 (by omega) hk hm) fun x m hm hx=>?_
    simp only [hx,an_true,flEx hx]
    refine Sat.eq ?_ fun q=>convOr (w:=.l0 _ _ _ _)
    exact left_sat hT.ends (by decide) (fun k m w hm=>s_word_ hT (by omega) hm) (fun j hj i hi=>ih.ands n (by omega) (d + 1) hd1 j hj i hi) (fun w x y hx hy=>s_bin_ (by omega) hx hy) (by decide) k hk (r + 1) hk n (by omega) m x 6 hm hx
  have h2:Sat T k (bS T d) okE (fun q=>bn ((fns n).s_left_or (bS T (d + 1) (.ok i)) (.slice ([w_or].map .str))) fun x4=>an (okG 38 x4.1) (fl x4.1 [4,5] (bn ((fns n).s_leave x4.2) fun x5=>fl x4.1 [4,5] (q ((G 38 x4.1),x5))))) (.ok i) (seqO (orF isW T (recs isW T r) (r + 1) (d + 1)) retO):=by
    refine Sat.call h1 fun x m hm hx=>?_
    simp only [hx,an_true,flEx hx,G_ok hx]
    exact Sat.leave hT (by omega) hd hm hx rfl fun _ _=>rfl
  refine Sat.spec h2 fun j hj=>?_
  unfold seqO retO
  cases orF isW T (recs isW T r) (r + 1) (d + 1) j <;> rfl
end
end Go.Proofs.Ytfdcjngclelnhaa
