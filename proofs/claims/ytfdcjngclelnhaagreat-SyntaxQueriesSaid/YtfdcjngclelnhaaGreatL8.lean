/- Part of a proof. -/
import Derived.Test.YtfdcjngclelnhaaGreatL6
set_option linter.unusedSectionVars false
set_option linter.unusedSimpArgs false
set_option linter.unusedVariables false
namespace Go.Proofs.YtfdcjngclelnhaaGreat
open Go
def tryC (T:List Tok) (rest:Nat → Out D) (x:D) (f:Nat → Out D) (l:List (List UInt8)):Nat → Out D:=fun i =>
  match opIn T 4 l i with
  | some w=>(rest (i + 1)).bind fun y=>retO (binX w x y)
  | none=>f i
theorem tryC_cons {T:List Tok} {rest:Nat → Out D} {x:D} {f:Nat → Out D} {w:List UInt8} {l:List (List UInt8)}:tryC T rest x f (w :: l) = ifO T 4 w (seqO rest fun y=>retO (binX w x y)) (tryC T rest x f l):=by
  funext i
  unfold tryC ifO seqO
  rw [opIn]
  cases pSees T 4 w i <;> rfl
section
variable {T:List Tok} (hT:TOk T) {N r:Nat} (hN:40 + 8 * (r + 3) ≤ N ∧ r ≤ 200000) (ih:SOk T N r) {n d k:Nat} (hd:d ≤ 40) {m:Mix}
include hT hN ih hd
theorem s_compared_ (hn:N + 8 ≤ n) (hk:k ≤ r + 1) {i:Nat} (hm:(Mix.ok i).In T k):Has T k (bS T d) okE ((fns n).s_compared (bS T d (.ok i))) (.ok i) (cmpF isW T (recs isW T r) (r + 1) d):=by
  obtain ⟨n,rfl,hp⟩:=pos hn; refine Sat.has (X:=fun q=>s_compared_st (fns n) q (loopN (s_compared_st (fns n) q) n) (.e (bS T d (.ok i)))) ?_ fun o ho=>rawN_eq enc0_inj ho; simp only [s_compared_st]
  refine Sat.call (s_sum_ hT hN ih hd (by omega) hk hm) fun x m hm hx=>?_
  simp only [hx,an_true,flEx hx]
  show Sat T k (bS T d) okE _ m (tryC T ((recs isW T r).sum d) x (cmp2F T (recs isW T r) d x) opsCmp)
  have inner:∀ (l:List (List UInt8)) (t n':Nat),opsCmp.drop t = l → t + l.length = opsCmp.length → l.length + 1 ≤ n' →
      Sat T k (bS T d) okE (fun q=>loopN (s_compared_st (fns n) q) n' (.l0 (Int.ofNat t) (bS T d m) x)) m (tryC T ((recs isW T r).sum d) x (cmp2F T (recs isW T r) d x) l):=by
    intro l
    induction l with
    | nil =>
      intro t n' hdr hl hn'
      obtain ⟨n',rfl⟩:∃ z,n' = z + 1:=⟨n' - 1,by omega⟩
      have h6:opsCmp.length = 6:=rfl
      have e:decide (Int.ofNat t < 6) = false:=by simp at hl ⊢; omega
      simp only [loopN_s,s_compared_st,e,cnd_false]
      show Sat T k (bS T d) okE _ m (cmp2F T (recs isW T r) d x)
      unfold cmp2F
      refine Sat.word hT.ends (by decide) hm (s_word_ hT (by omega) hm) (fun i j hj hm=>?_) ?_ <;> simp only [cnd_true,cnd_false,Bool.not_true,Bool.not_false]
      · unfold isF
        refine Sat.word hT.ends (by decide) hm (s_word_ hT (by omega) hm) (fun i j hj hm=>?_) ?_ <;> simp only [cnd_true,cnd_false,Bool.not_true,Bool.not_false]
        · refine Sat.callU (s_must_ hT (by omega) (hm.mono (Nat.le_succ _))) fun m hm=>?_
          simp only [G_ok hx]
          exact Sat.ret hm (mkE rfl) rfl rfl
        · refine Sat.callU (s_must_ hT (by omega) (hm.mono (Nat.le_succ _))) fun m hm=>?_
          simp only [G_ok hx]
          exact Sat.ret hm (mkE rfl) rfl rfl
      refine Sat.word hT.ends (by decide) hm (s_word_ hT (by omega) hm) (fun i j hj hm=>?_) ?_ <;> simp only [cnd_true,cnd_false,Bool.not_true,Bool.not_false]
      · refine Sat.callU (s_must_ hT (by omega) (hm.mono (Nat.le_succ _))) fun m hm=>?_
        refine Sat.call (s_bracketed_ hT hN ih hd (by omega) (by omega) hm) fun y m hm hy=>?_
        simp only [hy,an_true,G_ok hy,G_ok hx]
        exact Sat.ret hm (mkE rfl) rfl rfl
      refine Sat.word hT.ends (by decide) hm (s_word_ hT (by omega) hm) (fun i j hj hm=>?_) ?_ <;> simp only [cnd_true,cnd_false,Bool.not_true,Bool.not_false]
      · refine Sat.call (s_bracketed_ hT hN ih hd (by omega) (by omega) hm) fun y m hm hy=>?_
        simp only [hy,an_true,G_ok hy,G_ok hx]
        exact Sat.ret hm (mkE rfl) rfl rfl
      · simp only [flEx hx,G_ok hx]
        exact Sat.ret hm hx rfl rfl
    | cons u l ih2 =>
      intro t n' hdr hl hn'
      obtain ⟨n',rfl⟩:∃ z,n' = z + 1:=⟨n' - 1,by omega⟩
      have h6:opsCmp.length = 6:=rfl
      have ht:t < opsCmp.length:=by simp at hl; omega
      have e:decide (Int.ofNat t < 6) = true:=by simp; omega
      have e2:(decide (0 ≤ Int.ofNat t) && decide (Int.ofNat t < Int.ofNat 6)) = true:=by simp; omega
      have hdc:=List.drop_eq_getElem_cons ht
      rw [hdr] at hdc
      have hu:opsCmp[t] = u:=(List.cons.inj hdc).1.symm
      have hdl:opsCmp.drop (t + 1) = l:=(List.cons.inj hdc).2.symm
      have ea:([.str [61],.str [60,62],.str [60],.str [60,61],.str [62],.str [62,61]]:List D)[(Int.ofNat t).toNat * 1]? = some (.str u):=by
        rw [Nat.mul_one]
        show (opsCmp.map D.str)[t]? = _
        rw [List.getElem?_map,List.getElem?_eq_getElem ht,hu]; rfl
      have ew:IntKind.i64.wrap (Int.ofNat t + 1) = Int.ofNat (t + 1):=by rw [i64_small (by simp; omega) (by simp; omega)]; rfl
      simp only [loopN_s,s_compared_st,e,cnd_true,e2,an_true,ea,bn_some,asS,ew]
      rw [tryC_cons]
      refine Sat.word hT.ends (by decide) hm (s_mark_ hT (by omega) hm) (fun i j hj hm=>?_) ?_ <;> simp only [cnd_true,cnd_false,Bool.not_true,Bool.not_false]
      · refine Sat.call (ih.sum _ (by omega) _ hd _ (by omega) _ hm) fun y m hm hy=>?_
        simp only [hy,an_true,G_ok hy,G_ok hx,hx,s_bin_ (show 1 ≤ n by omega) hx hy,bn_some,show okG 26 (binX u x y) = true from okBin,flEx (show okG 26 (binX u x y) = true from okBin),G_ok (show okG 26 (binX u x y) = true from okBin)]
        exact Sat.ret hm okBin rfl rfl
      · exact ih2 (t + 1) n' hdl (by simp at hl; omega) (by simp at hn'; omega)
  exact inner opsCmp 0 n rfl rfl (by have h6 : opsCmp.length = 6 := rfl
                                     omega)
theorem s_not_ (hn:N + 9 ≤ n) (hk:k ≤ r + 1) {i:Nat} (hm:(Mix.ok i).In T k):Has T k (bS T d) okE ((fns n).s_not (bS T d (.ok i))) (.ok i) (notF isW T (recs isW T r) (r + 1) d):=by
  obtain ⟨n,rfl,hp⟩:=pos hn; refine Sat.has (X:=fun q=>s_not_st (fns n) q (loopN (s_not_st (fns n) q) n) (.e (bS T d (.ok i)))) ?_ fun o ho=>rawN_eq enc0_inj ho; simp only [s_not_st]
  refine Sat.word hT.ends (by decide) hm (s_word_ hT (by omega) hm) (fun i j hj hm=>?_) ?_ <;> simp only [cnd_true,cnd_false,Bool.not_true,Bool.not_false]
  · rename_i i j
    have h1:Has T j (bS T d) okE ((fns n).s_inner_not (bS T d (.ok i)) 8) (.ok i) (seqO (pDeep T d) fun _=>seqO ((recs isW T r).nots (d + 1)) fun x=>retO (ex 8 0 [] [] (one1 x) .nils)):=by
      have hn:=hp
      obtain ⟨n,rfl,hp⟩:=pos hn; refine Sat.has (X:=fun q=>s_inner_not_st (fns n) q (loopN (s_inner_not_st (fns n) q) n) (.e (bS T d (.ok i)) 8)) ?_ fun o ho=>rawN_eq enc13_inj ho; simp only [s_inner_not_st]
      refine s_enter_ hT (by omega) hd hm (show okE (ex 0 0 [] [] .nils .nils) from mkE rfl) (fun q s=>rfl) fun i hi hd1=>?_
      simp only [Bool.not_true,cnd_false]
      refine Sat.call (ih.nots _ (by omega) _ hd1 _ (by omega) _ hi) fun x m hm hx=>?_
      simp only [hx,an_true,G_ok hx]
      exact Sat.leave hT (by omega) hd hm (mkE rfl) rfl fun _ _=>rfl
    refine Sat.last h1 fun x m hx q=>?_
    simp only [hx,an_true,flEx hx,G_ok hx]
  · refine Sat.last (s_compared_ hT hN ih hd (by omega) hk hm) fun x m hx q=>?_
    simp only [hx,an_true,flEx hx,G_ok hx]
theorem s_ands_ (hn:N + 11 ≤ n) (hk:k ≤ r + 1) {i:Nat} (hm:(Mix.ok i).In T k):Has T k (bS T d) okE ((fns n).s_expr1 (bS T d (.ok i))) (.ok i) (andF isW T (recs isW T r) (r + 1) d):=by
  have h1:∀ n,N + 10 ≤ n → Has T k (bS T d) okE ((fns n).s_left_and (bS T d (.ok i)) (.slice ([w_and].map .str))) (.ok i) (andF isW T (recs isW T r) (r + 1) d):=fun n hn=>by
    obtain ⟨n,rfl,hp⟩:=pos hn; refine Sat.has (X:=fun q=>s_left_and_st (fns n) q (loopN (s_left_and_st (fns n) q) n) (.e (bS T d (.ok i)) (.slice ([w_and].map .str)))) ?_ fun o ho=>rawN_eq enc12_inj ho; simp only [s_left_and_st]
    refine Sat.call (s_not_ hT hN ih hd (by omega) hk hm) fun x m hm hx=>?_
    simp only [hx,an_true,flEx hx]
    refine Sat.eq ?_ fun q=>convAnd (w:=.l0 _ _ _ _)
    exact left_sat hT.ends (by decide) (fun k m w hm=>s_word_ hT (by omega) hm) (fun j hj i hi=>ih.nots n (by omega) d hd j hj i hi) (fun w x y hx hy=>s_bin_ (by omega) hx hy) (by decide) k hk (r + 1) hk n (by omega) m x 6 hm hx
  obtain ⟨n,rfl,hp⟩:=pos hn; refine Sat.has (X:=fun q=>s_expr1_st (fns n) q (loopN (s_expr1_st (fns n) q) n) (.e (bS T d (.ok i)))) ?_ fun o ho=>rawN_eq enc14_inj ho; simp only [s_expr1_st]
  refine Sat.last (h1 n (by omega)) fun x m hx q=>?_
  simp only [hx,an_true,flEx hx,G_ok hx]
theorem s_expr_ (hn:N + 13 ≤ n) (hk:k ≤ r + 1) (hm:m.In T k):Has T k (bS T d) okE ((fns n).s_expr (bS T d m)) m (exprF isW T (recs isW T r) (r + 1) d):=by
  obtain ⟨n,rfl,hp⟩:=pos hn; refine Sat.has (X:=fun q=>s_expr_st (fns n) q (loopN (s_expr_st (fns n) q) n) (.e (bS T d m))) ?_ fun o ho=>rawN_eq enc0_inj ho; simp only [s_expr_st]
  refine s_enter_ hT (by omega) hd hm (show okE (ex 0 0 [] [] .nils .nils) from mkE rfl) (fun q s=>rfl) fun i hm hd1=>?_
  simp only [Bool.not_true,cnd_false]
  have h1:Has T k (bS T (d + 1)) okE ((fns n).s_left_or (bS T (d + 1) (.ok i)) (.slice ([w_or].map .str))) (.ok i) (orF isW T (recs isW T r) (r + 1) (d + 1)):=by
    have hn:=hp
    obtain ⟨n,rfl,hp⟩:=pos hn; refine Sat.has (X:=fun q=>s_left_or_st (fns n) q (loopN (s_left_or_st (fns n) q) n) (.e (bS T (d + 1) (.ok i)) (.slice ([w_or].map .str)))) ?_ fun o ho=>rawN_eq enc11_inj ho; simp only [s_left_or_st]
    refine Sat.call (s_ands_ hT hN ih hd1 (by omega) hk hm) fun x m hm hx=>?_
    simp only [hx,an_true,flEx hx]
    refine Sat.eq ?_ fun q=>convOr (w:=.l0 _ _ _ _)
    exact left_sat hT.ends (by decide) (fun k m w hm=>s_word_ hT (by omega) hm) (fun j hj i hi=>ih.ands n (by omega) (d + 1) hd1 j hj i hi) (fun w x y hx hy=>s_bin_ (by omega) hx hy) (by decide) k hk (r + 1) hk n (by omega) m x 6 hm hx
  have h2:Sat T k (bS T d) okE (fun q=>bn ((fns n).s_left_or (bS T (d + 1) (.ok i)) (.slice ([w_or].map .str))) fun x4=>an (okG 26 x4.1) (fl x4.1 [4,5] (bn ((fns n).s_leave x4.2) fun x5=>fl x4.1 [4,5] (q ((G 26 x4.1),x5))))) (.ok i) (seqO (orF isW T (recs isW T r) (r + 1) (d + 1)) retO):=by
    refine Sat.call h1 fun x m hm hx=>?_
    simp only [hx,an_true,flEx hx,G_ok hx]
    exact Sat.leave hT (by omega) hd hm hx rfl fun _ _=>rfl
  refine Sat.spec h2 fun j hj=>?_
  unfold seqO retO
  cases orF isW T (recs isW T r) (r + 1) (d + 1) j <;> rfl
end
end Go.Proofs.YtfdcjngclelnhaaGreat
namespace Go.Proofs.YtfdcjngclelnhaaGreat
open Go
def vItem:MV B105 → s_list_item_V
  | .l0 a b=>.l0 a b
  | .l1 a b c=>.l1 a b c
def vKey:MV B105 → s_list_key_V
  | .l0 a b=>.l0 a b
  | .l1 a b c=>.l1 a b c
def vExpr:MV B105 → s_list_expr_V
  | .l0 a b=>.l0 a b
  | .l1 a b c=>.l1 a b c
theorem convItem {S:Fns} {q:D × B105 → Prop} {n:Nat} {w:MV B105}:loopN (s_list_item_st S q) n (vItem w) = loopN (listSt 83 7 112 S.s_item S.s_mark q) n w:=conv_loop (fun l w=>by cases w <;> rfl) n w
theorem convKey {S:Fns} {q:D × B105 → Prop} {n:Nat} {w:MV B105}:loopN (s_list_key_st S q) n (vKey w) = loopN (listSt 85 7 104 S.s_key S.s_mark q) n w:=conv_loop (fun l w=>by cases w <;> rfl) n w
theorem convExpr {S:Fns} {q:D × B105 → Prop} {n:Nat} {w:MV B105}:loopN (s_list_expr_st S q) n (vExpr w) = loopN (listSt 26 6 96 S.s_expr S.s_mark q) n w:=conv_loop (fun l w=>by cases w <;> rfl) n w
theorem okC_len:∀ {l:List CTy} {ds:List D},okC l ds = true → ds.length = l.length
  | [],[],_=>rfl
  | [],_ :: _,h=>nomatch h
  | _ :: _,[],h=>nomatch h
  | c :: l,d :: ds,h=>by
    simp only [okC,Bool.and_eq_true] at h
    simp [okC_len h.2]
theorem cells_len {t:TypeId} {d:D} (h:okG t d = true):d.cells.length = (ctys Tryz.prog 8 t).length:=by
  cases d with
  | agg ds=>exact okC_len h
  | _=>exact nomatch h
theorem live_eq {T:List Tok} {d r:Nat} {m:Mix} (hm:m.In T r):((bS T d m).c4 == 0) = m.live:=by
  cases m with
  | ok i=>rfl
  | er i d' a e=>exact beqE hm.2
section
variable {T:List Tok} (hT:TOk T) {N r:Nat} (hN:40 + 8 * (r + 3) ≤ N ∧ r ≤ 200000) (ih:SOk T N r) {n d k:Nat} (hd:d ≤ 40) {m:Mix}
include hT hN ih hd
theorem s_item_ (hn:N + 1 ≤ n) (hk:k ≤ r) (hm:m.In T k):Has T k (bS T d) okI ((fns n).s_item (bS T d m)) m (itemF isW T (recs isW T r) d):=by
  obtain ⟨n,rfl,hp⟩:=pos hn; refine Sat.has (X:=fun q=>s_item_st (fns n) q (loopN (s_item_st (fns n) q) n) (.e (bS T d m))) ?_ fun o ho=>rawN_eq enc0_inj ho; simp only [s_item_st]
  refine Sat.call (ih.expr _ (by omega) _ hd _ hk _ hm) fun x m hm hx=>?_
  simp only [hx,an_true,flEx hx]
  refine Sat.callU (s_must_ hT (by omega) (hm.mono (Nat.le_succ _))) fun m hm=>?_
  refine Sat.call (s_name_ hT (by omega) (hm.mono (Nat.le_succ _))) fun s m hm _=>?_
  simp only [(okItm hx (s:=s)).2]
  exact Sat.ret hm (okItm hx).1 rfl rfl
theorem s_key_ (hn:N + 1 ≤ n) (hk:k ≤ r) (hm:m.In T k):Has T k (bS T d) okY ((fns n).s_key (bS T d m)) m (keyF T (recs isW T r) d):=by
  obtain ⟨n,rfl,hp⟩:=pos hn; refine Sat.has (X:=fun q=>s_key_st (fns n) q (loopN (s_key_st (fns n) q) n) (.e (bS T d m))) ?_ fun o ho=>rawN_eq enc0_inj ho; simp only [s_key_st]
  refine Sat.call (ih.expr _ (by omega) _ hd _ hk _ hm) fun x m hm hx=>?_
  simp only [hx,an_true,flEx hx]
  refine Sat.word hT.ends (by decide) hm (s_word_ hT (by omega) hm) (fun i j hj hm=>?_) ?_ <;> simp only [cnd_true,cnd_false,Bool.not_true,Bool.not_false]
  · simp only [(okKy hx (s:=true)).2]
    exact Sat.ret hm (okKy hx).1 rfl rfl
  · simp only [(okKy hx (s:=false)).2]
    exact Sat.ret hm (okKy hx).1 rfl rfl
theorem s_single_ (hn:N + 1 ≤ n) (hk:k ≤ r) (hm:m.In T k):Has T k (bS T d) okF ((fns n).s_single (bS T d m)) m (singleF isW T (recs isW T r) d):=by
  obtain ⟨n,rfl,hp⟩:=pos hn; refine Sat.has (X:=fun q=>s_single_st (fns n) q (loopN (s_single_st (fns n) q) n) (.e (bS T d m))) ?_ fun o ho=>rawN_eq enc0_inj ho; simp only [s_single_st]
  refine Sat.word hT.ends (by decide) hm (s_mark_ hT (by omega) hm) (fun i j hj hm=>?_) ?_ <;> simp only [cnd_true,cnd_false,Bool.not_true,Bool.not_false]
  · refine Sat.call (ih.query _ (by omega) _ hd _ (by omega) _ hm) fun x m hm hx=>?_
    simp only [hx,an_true,flQu hx,G_ok hx]
    refine Sat.callU (s_need_ hT (by omega) (hm.mono (Nat.le_succ _))) fun m hm=>?_
    refine Sat.callU (s_must_ hT (by omega) (hm.mono (Nat.le_succ _))) fun m hm=>?_
    refine Sat.call (s_name_ hT (by omega) (hm.mono (Nat.le_succ _))) fun s m hm _=>?_
    exact Sat.ret hm (mkF rfl) rfl rfl
  · refine Sat.call (s_name_ hT (by omega) (hm.mono (Nat.le_succ _))) fun s m hm _=>?_
    have tail:∀ (v:Bool) {j:Nat} {m:Mix},m.In T j → Sat T j (bS T d) okF (fun q=>bn ((fns n).s_word (bS T d m) [97,115]) fun x=>cnd x.1 (bn ((fns n).s_name x.2) fun y=>q ((.agg [.int .i64 1,.str s,.bool v,.str y.1,.nils,.nils,.nils]),y.2)) (q ((.agg [.int .i64 1,.str s,.bool v,.str s,.nils,.nils,.nils]),x.2))) m (ifO T 1 w_as (seqO (pName isW T) fun t=>retO (frm 1 s v t .nils .nils .nils)) (retO (frm 1 s v s .nils .nils .nils))):=by
      intro v j m hm
      refine Sat.word hT.ends (by decide) hm (s_word_ hT (by omega) hm) (fun i j hj hm=>?_) ?_ <;> simp only [cnd_true,cnd_false,Bool.not_true,Bool.not_false]
      · refine Sat.call (s_name_ hT (by omega) (hm.mono (Nat.le_succ _))) fun t m hm _=>?_
        exact Sat.ret hm (mkF rfl) rfl rfl
      · exact Sat.ret hm (mkF rfl) rfl rfl
    simp only [seq_if,seq_ret]
    refine Sat.word hT.ends (by decide) hm (s_word_ hT (by omega) hm) (fun i j hj hm=>?_) ?_ <;> simp only [cnd_true,cnd_false,Bool.not_true,Bool.not_false]
    · exact tail true hm
    · exact tail false hm
theorem src_step (hn:N + 1 ≤ n) (hk:k ≤ r) (hm:m.In T k) {x:D} (hx:okF x) {f:Nat} {Lp:(D × B105 → Prop) → B105 → Int → List D → List D → Prop}
    (hL:∀ j,j + 1 = k → ∀ m kind y e,m.In T j → okF y → okE e → Sat T j (bS T d) okF (fun q=>Lp q (bS T d m) kind [x,y] [e]) m (srcLoop isW T (recs isW T r) d f (frm kind [] false [] .nils (.slice [x,y]) (one1 e)))) :
    Sat T k (bS T d) okF (fun q=>cnd ((bS T d m).c4 == 0) (bn ((fns n).s_word (bS T d m) [108,101,102,116]) fun x29=>cnd x29.1 (bn ((fns n).s_must x29.2 [106,111,105,110]) fun x30=>bn ((fns n).s_single x30) fun x31=>an (okG 65 x31.1) (fl x31.1 [4,5,6] (bn ((fns n).s_must x31.2 [111,110]) fun x32=>bn ((fns n).s_expr x32) fun x33=>an (okG 26 x33.1) (Lp q x33.2 4 [x,G 65 x31.1] [G 26 x33.1])))) (bn ((fns n).s_word x29.2 [106,111,105,110]) fun x34=>cnd x34.1 (bn ((fns n).s_single x34.2) fun x35=>an (okG 65 x35.1) (fl x35.1 [4,5,6] (bn ((fns n).s_must x35.2 [111,110]) fun x36=>bn ((fns n).s_expr x36) fun x37=>an (okG 26 x37.1) (Lp q x37.2 3 [x,G 65 x35.1] [G 26 x37.1])))) (q (x,x34.2)))) (q (x,bS T d m))) m (srcLoop isW T (recs isW T r) d (f + 1) x):=by
  refine Sat.live (live_eq hm) hm hx ⟨m,rfl,hm,fun i d a e h=>⟨_,_,h⟩⟩ ?_
  unfold srcLoop
  dsimp only
  have go:∀ (kind:Int) (j:Nat),j + 1 = k → ∀ m:Mix,m.In T j → Sat T j (bS T d) okF (fun q=>bn ((fns n).s_single (bS T d m)) fun x31=>an (okG 65 x31.1) (fl x31.1 [4,5,6] (bn ((fns n).s_must x31.2 [111,110]) fun x32=>bn ((fns n).s_expr x32) fun x33=>an (okG 26 x33.1) (Lp q x33.2 kind [x,G 65 x31.1] [G 26 x33.1])))) m (seqO (singleF isW T (recs isW T r) d) fun y=>seqO (pMust T 1 w_on) fun _=>seqO ((recs isW T r).expr d) fun e=>srcLoop isW T (recs isW T r) d f (frm kind [] false [] .nils (.slice [x,y]) (one1 e))):=by
    intro kind j hj m hm
    refine Sat.call (s_single_ hT hN ih hd hn (by omega) hm) fun y m hm hy=>?_
    simp only [hy,an_true,flFrm hy,G_ok hy]
    refine Sat.callU (s_must_ hT (by omega) (hm.mono (Nat.le_succ _))) fun m hm=>?_
    refine Sat.call (ih.expr _ (by omega) _ hd _ (by omega) _ hm) fun e m hm he=>?_
    simp only [he,an_true,G_ok he]
    exact hL j hj m kind y e hm hy he
  refine Sat.word hT.ends (by decide) hm (s_word_ hT (by omega) hm) (fun i j hj hm=>?_) ?_ <;> simp only [cnd_true,cnd_false,Bool.not_true,Bool.not_false]
  · refine Sat.callU (s_must_ hT (by omega) (hm.mono (Nat.le_succ _))) fun m hm=>?_
    exact go 4 _ hj m hm
  refine Sat.word hT.ends (by decide) hm (s_word_ hT (by omega) hm) (fun i j hj hm=>?_) ?_ <;> simp only [cnd_true,cnd_false,Bool.not_true,Bool.not_false]
  · exact go 3 _ hj _ hm
  · exact Sat.ret hm hx rfl rfl
theorem src_loop (hn:N + 1 ≤ n):∀ k,k ≤ r → ∀ f,k ≤ f → ∀ n',k + 1 ≤ n' → ∀ (m:Mix) (kind:Int) (a c e:D) (w:Nat),m.In T k → okF a → okF c → okE e →
    Sat T k (bS T d) okF (fun q=>loopN (s_source_st (fns n) q) n' (.l1 (bS T d m) kind [a,c] [e] w)) m (srcLoop isW T (recs isW T r) d f (frm kind [] false [] .nils (.slice [a,c]) (one1 e))):=by
  intro k
  induction k using Nat.strongRecOn with
  | ind k IH =>
    intro hk f hf n' hn' m kind a c e w hm ha hc he
    obtain ⟨n',rfl⟩:∃ z,n' = z + 1:=⟨n' - 1,by omega⟩
    have h1:=src_step hT hN ih hd hn hk hm (x:=frm kind [] false [] .nils (.slice [a,c]) (one1 e)) (mkF rfl) (f:=f - 1) (Lp:=fun q s kind l1 l2=>loopN (s_source_st (fns n) q) n' (.l1 s kind l1 l2 (w + 7))) fun j hj m' kind' y e' hm' hy he' =>
      IH j (by omega) (by omega) (f - 1) (by omega) n' (by omega) m' kind' _ y e' _ hm' (mkF rfl) hy he'
    refine Sat.spec h1 fun i hi=>?_
    subst hi
    obtain ⟨f,rfl⟩:∃ f',f = f' + 1:=⟨f - 1,by have:=hm.2; have:=hm.1; omega⟩
    rfl
theorem s_source_ (hn:N + 2 ≤ n) (hk:k ≤ r) (hm:m.In T k) {f:Nat} (hf:k ≤ f):Has T k (bS T d) okF ((fns n).s_source (bS T d m)) m (sourceF isW T (recs isW T r) f d):=by
  obtain ⟨n,rfl,hp⟩:=pos hn; refine Sat.has (X:=fun q=>s_source_st (fns n) q (loopN (s_source_st (fns n) q) n) (.e (bS T d m))) ?_ fun o ho=>rawN_eq enc0_inj ho; simp only [s_source_st]
  refine Sat.call (s_single_ hT hN ih hd (by omega) hk hm) fun x m hm hx=>?_
  simp only [hx,an_true,flFrm hx]
  obtain ⟨n',rfl⟩:∃ z,n = z + 1:=⟨n - 1,by omega⟩
  have h1:=src_step hT hN ih hd (show N + 1 ≤ n' + 1 by omega) hk hm hx (f:=f - 1) (Lp:=fun q s kind l1 l2=>loopN (s_source_st (fns (n' + 1)) q) n' (.l1 s kind l1 l2 14)) fun j hj m' kind' y e' hm' hy he' =>
    src_loop hT hN ih hd (by omega) j (by omega) (f - 1) (by omega) n' (by omega) m' kind' x y e' _ hm' hx hy he'
  refine Sat.spec (Sat.eq h1 fun q=>?_) fun i hi=>?_
  · simp only [loopN_s,s_source_st,flFrm hx,G_ok hx]
  · subst hi
    obtain ⟨f,rfl⟩:∃ f',f = f' + 1:=⟨f - 1,by have:=hm.2; have:=hm.1; omega⟩
    rfl
theorem s_list_item_ (hn:N + 2 ≤ n) (hk:k ≤ r) (hm:m.In T k) {f:Nat} (hf:k ≤ f):Has T k (bS T d) okL ((fns n).s_list_item (bS T d m)) m (pList T (itemF isW T (recs isW T r) d) f):=by
  obtain ⟨n,rfl,hp⟩:=pos hn; refine Sat.has (X:=fun q=>s_list_item_st (fns n) q (loopN (s_list_item_st (fns n) q) n) (.e (bS T d m))) ?_ fun o ho=>rawN_eq enc15_inj ho; simp only [s_list_item_st]
  refine Sat.call (s_item_ hT hN ih hd (by omega) hk hm) fun x m hm hx=>?_
  simp only [hx,an_true,G_ok hx]
  refine Sat.eq ?_ fun q=>convItem (w:=.l0 _ _)
  exact (list_sat hT.ends (by decide) (fun k m w hm=>s_mark_ hT (by omega) hm) (fun j hj m hm=>s_item_ hT hN ih hd (by omega) hj hm) (fun v A h=>flItm h) (fun v h=>by rw [cells_len h,ctItm]; rfl) k (by omega) f hf n (by omega) m [x] hm (by have:=hT.len; simp; omega)).2 x hx rfl
theorem s_list_key_ (hn:N + 2 ≤ n) (hk:k ≤ r) (hm:m.In T k) {f:Nat} (hf:k ≤ f):Has T k (bS T d) okL ((fns n).s_list_key (bS T d m)) m (pList T (keyF T (recs isW T r) d) f):=by
  obtain ⟨n,rfl,hp⟩:=pos hn; refine Sat.has (X:=fun q=>s_list_key_st (fns n) q (loopN (s_list_key_st (fns n) q) n) (.e (bS T d m))) ?_ fun o ho=>rawN_eq enc15_inj ho; simp only [s_list_key_st]
  refine Sat.call (s_key_ hT hN ih hd (by omega) hk hm) fun x m hm hx=>?_
  simp only [hx,an_true,G_ok hx]
  refine Sat.eq ?_ fun q=>convKey (w:=.l0 _ _)
  exact (list_sat hT.ends (by decide) (fun k m w hm=>s_mark_ hT (by omega) hm) (fun j hj m hm=>s_key_ hT hN ih hd (by omega) hj hm) (fun v A h=>flKy h) (fun v h=>by rw [cells_len h,ctKy]; rfl) k (by omega) f hf n (by omega) m [x] hm (by have:=hT.len; simp; omega)).2 x hx rfl
theorem s_list_expr_ (hn:N + 2 ≤ n) (hk:k ≤ r) (hm:m.In T k) {f:Nat} (hf:k ≤ f):Has T k (bS T d) okL ((fns n).s_list_expr (bS T d m)) m (pList T ((recs isW T r).expr d) f):=by
  obtain ⟨n,rfl,hp⟩:=pos hn; refine Sat.has (X:=fun q=>s_list_expr_st (fns n) q (loopN (s_list_expr_st (fns n) q) n) (.e (bS T d m))) ?_ fun o ho=>rawN_eq enc15_inj ho; simp only [s_list_expr_st]
  refine Sat.call (ih.expr _ (by omega) _ hd _ hk _ hm) fun x m hm hx=>?_
  simp only [hx,an_true,G_ok hx]
  refine Sat.eq ?_ fun q=>convExpr (w:=.l0 _ _)
  exact (list_sat hT.ends (by decide) (fun k m w hm=>s_mark_ hT (by omega) hm) (fun j hj m hm=>ih.expr _ (by omega) _ hd _ hj _ hm) (fun v A h=>flEx h) (fun v h=>by rw [cells_len h,ctEx]; rfl) k (by omega) f hf n (by omega) m [x] hm (by have:=hT.len; simp; omega)).2 x hx rfl
theorem part_l2 (hn:N + 2 ≤ n) (hk:k ≤ r) (hm:m.In T k) {f:Nat} (hf:k ≤ f) {n':Nat} (hn':1 ≤ n') {v:Bool} {items froms wheres group having:D} {w:Nat} (h1:okL items) (h2:okL froms) (h3:okL wheres) (h4:okL group) (h5:okL having) :
    Sat T k (bS T d) okQ (fun q=>loopN (s_part_st (fns n) q) n' (.l2 (bS T d m) v items froms wheres group having w)) m (sel3F T (recs isW T r) f d v items froms wheres group having):=by
  obtain ⟨n',rfl⟩:∃ z,n' = z + 1:=⟨n' - 1,by omega⟩
  unfold okL at h1 h2 h3 h4 h5
  simp only [loopN_s,s_part_st,sel3F,orderF,limitF,seq_if,seq_seq,seq_ret,h1,h2,h3,h4,h5,an_true]
  refine Sat.word hT.ends (by decide) hm (s_word_ hT (by omega) hm) (fun i j hj hm=>?_) ?_ <;> simp only [cnd_true,cnd_false,Bool.not_true,Bool.not_false]
  · refine Sat.callU (s_must_ hT (by omega) (hm.mono (Nat.le_succ _))) fun m hm=>?_
    refine Sat.call (s_list_key_ hT hN ih hd (by omega) (by omega) hm (by omega)) fun o m hm ho=>?_
    unfold okL at ho
    simp only [ho,an_true]
    refine Sat.word hT.ends (by decide) hm (s_word_ hT (by omega) hm) (fun i j hj hm=>?_) ?_ <;> simp only [cnd_true,cnd_false,Bool.not_true,Bool.not_false]
    · refine Sat.call (s_number_ hT (by omega) (hm.mono (Nat.le_succ _))) fun x m hm _=>?_
      exact Sat.ret hm (mkQ (by simp only [h1,h2,h3,h4,h5,ho]; rfl)) rfl rfl
    · exact Sat.ret hm (mkQ (by simp only [h1,h2,h3,h4,h5,ho]; rfl)) rfl rfl
  · refine Sat.word hT.ends (by decide) hm (s_word_ hT (by omega) hm) (fun i j hj hm=>?_) ?_ <;> simp only [cnd_true,cnd_false,Bool.not_true,Bool.not_false]
    · refine Sat.call (s_number_ hT (by omega) (hm.mono (Nat.le_succ _))) fun x m hm _=>?_
      exact Sat.ret hm (mkQ (by simp only [h1,h2,h3,h4,h5]; rfl)) rfl rfl
    · exact Sat.ret hm (mkQ (by simp only [h1,h2,h3,h4,h5]; rfl)) rfl rfl
theorem part_l1 (hn:N + 2 ≤ n) (hk:k ≤ r) (hm:m.In T k) {f:Nat} (hf:k ≤ f) {n':Nat} (hn':2 ≤ n') {v:Bool} {items froms wheres:D} {w:Nat} (h1:okL items) (h2:okL froms) (h3:okL wheres) :
    Sat T k (bS T d) okQ (fun q=>loopN (s_part_st (fns n) q) n' (.l1 (bS T d m) v items froms wheres w)) m (sel2F T (recs isW T r) f d v items froms wheres):=by
  obtain ⟨n',rfl⟩:∃ z,n' = z + 1:=⟨n' - 1,by omega⟩
  simp only [loopN_s,s_part_st,sel2F,groupF,optF,seq_if,seq_seq,seq_ret]
  refine Sat.word hT.ends (by decide) hm (s_word_ hT (by omega) hm) (fun i j hj hm=>?_) ?_ <;> simp only [cnd_true,cnd_false,Bool.not_true,Bool.not_false]
  · refine Sat.callU (s_must_ hT (by omega) (hm.mono (Nat.le_succ _))) fun m hm=>?_
    refine Sat.call (s_list_expr_ hT hN ih hd (by omega) (by omega) hm (by omega)) fun o m hm ho=>?_
    have ho':o.flat = true:=ho
    simp only [ho',an_true]
    refine Sat.word hT.ends (by decide) hm (s_word_ hT (by omega) hm) (fun i j hj hm=>?_) ?_ <;> simp only [cnd_true,cnd_false,Bool.not_true,Bool.not_false]
    · refine Sat.call (ih.expr _ (by omega) _ hd _ (by omega) _ hm) fun x m hm hx=>?_
      simp only [hx,an_true,G_ok hx]
      exact part_l2 hT hN ih hd hn (by omega) hm (by omega) (by omega) h1 h2 h3 ho rfl
    · exact part_l2 hT hN ih hd hn (by omega) hm (by omega) (by omega) h1 h2 h3 ho rfl
  · exact part_l2 hT hN ih hd hn (by omega) hm (by omega) (by omega) h1 h2 h3 rfl rfl
theorem part_l0 (hn:N + 2 ≤ n) (hk:k ≤ r) (hm:m.In T k) {f:Nat} (hf:k ≤ f) {n':Nat} (hn':3 ≤ n') {v:Bool} {items froms:D} {w:Nat} (h1:okL items) (h2:okL froms) :
    Sat T k (bS T d) okQ (fun q=>loopN (s_part_st (fns n) q) n' (.l0 (bS T d m) v items froms w)) m (sel1F T (recs isW T r) f d v items froms):=by
  obtain ⟨n',rfl⟩:∃ z,n' = z + 1:=⟨n' - 1,by omega⟩
  simp only [loopN_s,s_part_st,sel1F,optF,seq_if,seq_seq,seq_ret]
  refine Sat.word hT.ends (by decide) hm (s_word_ hT (by omega) hm) (fun i j hj hm=>?_) ?_ <;> simp only [cnd_true,cnd_false,Bool.not_true,Bool.not_false]
  · refine Sat.call (ih.expr _ (by omega) _ hd _ (by omega) _ hm) fun x m hm hx=>?_
    simp only [hx,an_true,G_ok hx]
    exact part_l1 hT hN ih hd hn (by omega) hm (by omega) (by omega) h1 h2 rfl
  · exact part_l1 hT hN ih hd hn (by omega) hm (by omega) (by omega) h1 h2 rfl
theorem s_part_ (hn:N + 3 ≤ n) (hk:k ≤ r + 1) {i:Nat} (hm:(Mix.ok i).In T k):Has T k (bS T d) okQ ((fns n).s_part (bS T d (.ok i))) (.ok i) (partF isW T (recs isW T r) (r + 1) d):=by
  obtain ⟨n,rfl,hp⟩:=pos hn; refine Sat.has (X:=fun q=>s_part_st (fns n) q (loopN (s_part_st (fns n) q) n) (.e (bS T d (.ok i)))) ?_ fun o ho=>rawN_eq enc0_inj ho; simp only [s_part_st]
  unfold partF
  refine Sat.word hT.ends (by decide) hm (s_mark_ hT (by omega) hm) (fun i j hj hm=>?_) ?_ <;> simp only [cnd_true,cnd_false,Bool.not_true,Bool.not_false]
  · refine Sat.call (ih.query _ (by omega) _ hd _ (by omega) _ hm) fun x m hm hx=>?_
    simp only [hx,an_true,flQu hx,G_ok hx]
    refine Sat.callU (s_need_ hT (by omega) (hm.mono (Nat.le_succ _))) fun m hm=>?_
    exact Sat.ret hm hx rfl rfl
  · obtain ⟨j,rfl⟩:∃ j,k = j + 1:=⟨k - 1,by have:=hm.2; have:=hm.1; omega⟩
    unfold selectF
    refine Sat.more (Sat.callU (s_must_ hT (by omega) hm) fun m hm=>?_) (Nat.le_succ j)
    have h0:∀ (v:Bool) (j:Nat) (m:Mix),j ≤ r → m.In T j → Sat T j (bS T d) okQ (fun q=>bn ((fns n).s_list_item (bS T d m)) fun x27=>an x27.1.flat (an x27.1.flat (bn ((fns n).s_word x27.2 [102,114,111,109]) fun x28=>cnd x28.1 (bn ((fns n).s_source x28.2) fun x29=>an (okG 65 x29.1) (loopN (s_part_st (fns n) q) n (.l0 x29.2 v x27.1 (.slice [G 65 x29.1]) 12))) (loopN (s_part_st (fns n) q) n (.l0 x28.2 v x27.1 .nils 11))))) m (sel0F isW T (recs isW T r) (r + 1) d v):=by
      intro v j m hj hm
      unfold sel0F
      refine Sat.call (s_list_item_ hT hN ih hd (by omega) hj hm (by omega)) fun o m hm ho=>?_
      have ho':o.flat = true:=ho
      simp only [ho',an_true,optF,seq_if,seq_seq,seq_ret]
      refine Sat.word hT.ends (by decide) hm (s_word_ hT (by omega) hm) (fun i j hj hm=>?_) ?_ <;> simp only [cnd_true,cnd_false,Bool.not_true,Bool.not_false]
      · refine Sat.call (s_source_ hT hN ih hd (by omega) (by omega) hm (by omega)) fun x m hm hx=>?_
        simp only [hx,an_true,G_ok hx]
        exact part_l0 hT hN ih hd (by omega) (by omega) hm (by omega) (by omega) ho rfl
      · exact part_l0 hT hN ih hd (by omega) (by omega) hm (by omega) (by omega) ho rfl
    simp only [seq_if,seq_ret]
    refine Sat.word hT.ends (by decide) hm (s_word_ hT (by omega) hm) (fun i j hj hm=>?_) ?_ <;> simp only [cnd_true,cnd_false,Bool.not_true,Bool.not_false]
    · exact h0 true _ _ (by omega) hm
    · exact h0 false _ _ (by omega) hm
theorem qu_step (hd1:d + 1 ≤ 40) (hn:N + 3 ≤ n) (hk:k ≤ r + 1) (hm:m.In T k) {x:D} (hx:okQ x) {f:Nat} {Lp:(D × B105 → Prop) → B105 → Int → List D → Prop}
    (hL:∀ j,j + 1 ≤ k → ∀ m kind y,m.In T j → okQ y → Sat T j (bS T d) okQ (fun q=>Lp q (bS T (d + 1) m) kind [x,y]) m (quLoop T ((recs isW T r).part (d + 1)) f (qu kind false .nils .nils .nils .nils .nils .nils (-1) (.slice [x,y])))) :
    Sat T k (bS T d) okQ (fun q=>cnd ((bS T (d + 1) m).c4 == 0) (bn ((fns n).s_word (bS T (d + 1) m) [117,110,105,111,110]) fun x34=>cnd x34.1 (bn ((fns n).s_word x34.2 [97,108,108]) fun x35=>cnd x35.1 (bn ((fns n).s_part x35.2) fun x36=>an (okG 38 x36.1) (Lp q x36.2 3 [x,G 38 x36.1])) (bn ((fns n).s_part x35.2) fun x37=>an (okG 38 x37.1) (Lp q x37.2 2 [x,G 38 x37.1]))) (bn ((fns n).s_word x34.2 [101,120,99,101,112,116]) fun x38=>cnd x38.1 (bn ((fns n).s_part x38.2) fun x39=>an (okG 38 x39.1) (Lp q x39.2 4 [x,G 38 x39.1])) (bn ((fns n).s_word x38.2 [105,110,116,101,114,115,101,99,116]) fun x40=>cnd x40.1 (bn ((fns n).s_part x40.2) fun x41=>an (okG 38 x41.1) (Lp q x41.2 5 [x,G 38 x41.1])) (bn ((fns n).s_leave x40.2) fun x42=>q (x,x42))))) (bn ((fns n).s_leave (bS T (d + 1) m)) fun x43=>q (x,x43))) m (quLoop T ((recs isW T r).part (d + 1)) (f + 1) x):=by
  have go:∀ (kind:Int) (j:Nat),j + 1 ≤ k → ∀ i,(Mix.ok i).In T j → Sat T j (bS T d) okQ (fun q=>bn ((fns n).s_part (bS T (d + 1) (.ok i))) fun x36=>an (okG 38 x36.1) (Lp q x36.2 kind [x,G 38 x36.1])) (.ok i) (seqO ((recs isW T r).part (d + 1)) fun y=>quLoop T ((recs isW T r).part (d + 1)) f (qu kind false .nils .nils .nils .nils .nils .nils (-1) (.slice [x,y]))):=by
    intro kind j hj i hm
    refine Sat.call (ih.part _ (by omega) _ hd1 _ (by omega) _ hm) fun y m hm hy=>?_
    simp only [hy,an_true,G_ok hy]
    exact hL j hj m kind y hm hy
  have lv:Sat T k (bS T d) okQ (fun q=>bn ((fns n).s_leave (bS T (d + 1) m)) fun x43=>q (x,x43)) m (retO x):=Sat.leave hT (by omega) hd hm hx rfl fun _ _=>rfl
  have main:Sat T k (bS T d) okQ (fun q=>bn ((fns n).s_word (bS T (d + 1) m) [117,110,105,111,110]) fun x34=>cnd x34.1 (bn ((fns n).s_word x34.2 [97,108,108]) fun x35=>cnd x35.1 (bn ((fns n).s_part x35.2) fun x36=>an (okG 38 x36.1) (Lp q x36.2 3 [x,G 38 x36.1])) (bn ((fns n).s_part x35.2) fun x37=>an (okG 38 x37.1) (Lp q x37.2 2 [x,G 38 x37.1]))) (bn ((fns n).s_word x34.2 [101,120,99,101,112,116]) fun x38=>cnd x38.1 (bn ((fns n).s_part x38.2) fun x39=>an (okG 38 x39.1) (Lp q x39.2 4 [x,G 38 x39.1])) (bn ((fns n).s_word x38.2 [105,110,116,101,114,115,101,99,116]) fun x40=>cnd x40.1 (bn ((fns n).s_part x40.2) fun x41=>an (okG 38 x41.1) (Lp q x41.2 5 [x,G 38 x41.1])) (bn ((fns n).s_leave x40.2) fun x42=>q (x,x42))))) m (quLoop T ((recs isW T r).part (d + 1)) (f + 1) x):=by
    unfold quLoop
    dsimp only
    refine Sat.word hT.ends (by decide) hm (s_word_ hT (by omega) hm) (fun i j hj hm=>?_) ?_ <;> simp only [cnd_true,cnd_false,Bool.not_true,Bool.not_false]
    · refine Sat.word hT.ends (by decide) hm (s_word_ hT (by omega) hm) (fun i j hj hm=>?_) ?_ <;> simp only [cnd_true,cnd_false,Bool.not_true,Bool.not_false]
      · exact go 3 _ (by omega) _ hm
      · exact go 2 _ (by omega) _ hm
    refine Sat.word hT.ends (by decide) hm (s_word_ hT (by omega) hm) (fun i j hj hm=>?_) ?_ <;> simp only [cnd_true,cnd_false,Bool.not_true,Bool.not_false]
    · exact go 4 _ (by omega) _ hm
    refine Sat.word hT.ends (by decide) hm (s_word_ hT (by omega) hm) (fun i j hj hm=>?_) ?_ <;> simp only [cnd_true,cnd_false,Bool.not_true,Bool.not_false]
    · exact go 5 _ (by omega) _ hm
    · exact lv
  cases m with
  | ok i=>exact main
  | er i d' a e =>
    have e0:=live_eq (d:=d + 1) hm
    obtain ⟨o,g1,g2⟩:=lv
    exact ⟨o,g1,fun q=>by rw [e0]; exact g2 q⟩
theorem qu_loop (hd1:d + 1 ≤ 40) (hn:N + 3 ≤ n):∀ k,k ≤ r + 1 → ∀ f,k ≤ f → ∀ n',k + 1 ≤ n' → ∀ (m:Mix) (kind:Int) (a c:D) (w:Nat),m.In T k → okQ a → okQ c →
    Sat T k (bS T d) okQ (fun q=>loopN (s_query_st (fns n) q) n' (.l1 (bS T (d + 1) m) kind [a,c] w)) m (quLoop T ((recs isW T r).part (d + 1)) f (qu kind false .nils .nils .nils .nils .nils .nils (-1) (.slice [a,c]))):=by
  intro k
  induction k using Nat.strongRecOn with
  | ind k IH =>
    intro hk f hf n' hn' m kind a c w hm ha hc
    obtain ⟨n',rfl⟩:∃ z,n' = z + 1:=⟨n' - 1,by omega⟩
    have h1:=qu_step hT hN ih hd hd1 hn hk hm (x:=qu kind false .nils .nils .nils .nils .nils .nils (-1) (.slice [a,c])) (mkQ rfl) (f:=f - 1) (Lp:=fun q s kind l1=>loopN (s_query_st (fns n) q) n' (.l1 s kind l1 (w + 10))) fun j hj m' kind' y hm' hy =>
      IH j (by omega) (by omega) (f - 1) (by omega) n' (by omega) m' kind' _ y _ hm' (mkQ rfl) hy
    refine Sat.spec h1 fun i hi=>?_
    subst hi
    obtain ⟨f,rfl⟩:∃ f',f = f' + 1:=⟨f - 1,by have:=hm.2; have:=hm.1; omega⟩
    rfl
theorem s_query_ (hn:N + 4 ≤ n) (hk:k ≤ r + 1) (hm:m.In T k):Has T k (bS T d) okQ ((fns n).s_query (bS T d m)) m (queryF isW T (recs isW T r) (r + 1) d):=by
  obtain ⟨n,rfl,hp⟩:=pos hn; refine Sat.has (X:=fun q=>s_query_st (fns n) q (loopN (s_query_st (fns n) q) n) (.e (bS T d m))) ?_ fun o ho=>rawN_eq enc0_inj ho; simp only [s_query_st]
  refine s_enter_ hT (by omega) hd hm (show okQ (qu 0 false .nils .nils .nils .nils .nils .nils 0 .nils) from mkQ rfl) (fun q s=>rfl) fun i hm hd1=>?_
  simp only [Bool.not_true,cnd_false]
  refine Sat.call (s_part_ hT hN ih hd1 (by omega) hk hm) fun x m hm hx=>?_
  simp only [hx,an_true,flQu hx]
  obtain ⟨n',rfl⟩:∃ z,n = z + 1:=⟨n - 1,by omega⟩
  have h1:=qu_step hT hN ih hd hd1 (show N + 3 ≤ n' + 1 by omega) hk hm hx (f:=r) (Lp:=fun q s kind l1=>loopN (s_query_st (fns (n' + 1)) q) n' (.l1 s kind l1 20)) fun j hj m' kind' y hm' hy =>
    qu_loop hT hN ih hd hd1 (by omega) j (by omega) r (by omega) n' (by omega) m' kind' x y _ hm' hx hy
  refine Sat.eq h1 fun q=>?_
  simp only [loopN_s,s_query_st,flQu hx,G_ok hx]
end
theorem s_base {T:List Tok} (hT:TOk T):SOk T 100 0:=by
  have no:∀ {i k:Nat} {p:Prop},k ≤ 0 → (Mix.ok i).In T k → p:=fun hk hm=>by have:=hm.1; have:=hm.2; omega
  refine ⟨fun n hn d hd k hk m hm=>?_,fun n hn d hd k hk m hm=>?_,fun n hn d hd k hk i hm=>no hk hm,fun n hn d hd k hk i hm=>no hk hm,fun n hn d hd k hk i hm=>no hk hm,fun n hn d hd k hk i hm=>no hk hm,fun n hn d hd k hk i hm=>no hk hm,fun n hn d hd k hk i hm=>no hk hm⟩
  · cases m with
    | ok i=>exact no hk hm
    | er i d' a e =>
      refine Has.spec (f:=seqO (pDeep T d) fun _ _=>.err 0 0) ?_ fun j hj=>nomatch hj
      obtain ⟨n,rfl,hp⟩:=pos hn; refine Sat.has (X:=fun q=>s_expr_st (fns n) q (loopN (s_expr_st (fns n) q) n) (.e (bS T d (.er i d' a e)))) ?_ fun o ho=>rawN_eq enc0_inj ho; simp only [s_expr_st]
      exact s_enter_ hT (by omega) hd hm (show okE (ex 0 0 [] [] .nils .nils) from mkE rfl) (fun q s=>rfl) fun i hm hd1=>no hk hm
  · cases m with
    | ok i=>exact no hk hm
    | er i d' a e =>
      refine Has.spec (f:=seqO (pDeep T d) fun _ _=>.err 0 0) ?_ fun j hj=>nomatch hj
      obtain ⟨n,rfl,hp⟩:=pos hn; refine Sat.has (X:=fun q=>s_query_st (fns n) q (loopN (s_query_st (fns n) q) n) (.e (bS T d (.er i d' a e)))) ?_ fun o ho=>rawN_eq enc0_inj ho; simp only [s_query_st]
      exact s_enter_ hT (by omega) hd hm (show okQ (qu 0 false .nils .nils .nils .nils .nils .nils 0 .nils) from mkQ rfl) (fun q s=>rfl) fun i hm hd1=>no hk hm
theorem s_step {T:List Tok} (hT:TOk T) {N r:Nat} (hN:40 + 8 * (r + 3) ≤ N ∧ r ≤ 200000) (ih:SOk T N r):SOk T (N + 13) (r + 1) :=
  ⟨fun n hn d hd k hk m hm => s_expr_ hT hN ih hd hn hk hm, fun n hn d hd k hk m hm => s_query_ hT hN ih hd (by omega) hk hm,
   fun n hn d hd k hk i hm=>s_ands_ hT hN ih hd (by omega) hk hm,fun n hn d hd k hk i hm=>s_not_ hT hN ih hd (by omega) hk hm,
   fun n hn d hd k hk i hm=>s_sum_ hT hN ih hd (by omega) hk hm,fun n hn d hd k hk i hm=>s_prod_ hT hN ih hd (by omega) hk hm,
   fun n hn d hd k hk i hm=>s_unary_ hT hN ih hd (by omega) hk hm,fun n hn d hd k hk i hm=>s_part_ hT hN ih hd (by omega) hk hm⟩
theorem s_all {T:List Tok} (hT:TOk T):∀ r,r ≤ 200000 → SOk T (100 + 13 * r) r
  | 0,_=>s_base hT
  | r + 1,h=>by
    have h1:=s_step hT (N:=100 + 13 * r) (r:=r) ⟨by omega,by omega⟩ (s_all hT r (by omega))
    rwa [show 100 + 13 * r + 13 = 100 + 13 * (r + 1) by omega] at h1
end Go.Proofs.YtfdcjngclelnhaaGreat
