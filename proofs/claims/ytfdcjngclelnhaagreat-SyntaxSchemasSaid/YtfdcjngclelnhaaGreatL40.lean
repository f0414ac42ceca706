/- Part of a proof. -/
import Derived.Test.YtfdcjngclelnhaaGreatL6
import Derived.Test.YtfdcjngclelnhaaGreatL1
set_option linter.unusedSectionVars false
set_option linter.unusedSimpArgs false
set_option linter.unusedVariables false
namespace Go.Proofs.YtfdcjngclelnhaaGreat
open Go
def QnR (T:List Tok) (rest:Nat → Out D) (x:D) (f:Nat → Out D) (l:List (List UInt8)):Nat → Out D:=fun i =>
 match Yf T 4 l i with
 | some w=>(rest (i + 1)).bind fun y=>Qx (ZO w x y)
 | none=>f i
theorem Qju {T:List Tok} {rest:Nat → Out D} {x:D} {f:Nat → Out D} {w:List UInt8} {l:List (List UInt8)}:QnR T rest x f (w :: l) = JJ T 4 w (Qc rest fun y=>Qx (ZO w x y)) (QnR T rest x f l):=by
 funext i
 unfold QnR JJ Qc
 rw [Yf]
 cases JI T 4 w i <;> rfl
section
variable {T:List Tok} (hT:TOk T) {N r:Nat} (hN:40 + 8 * (r + 3) ≤ N ∧ r ≤ 200000) (ih:SOk T N r) {n d k:Nat} (hd:d ≤ 40) {m:Mix}
include hT hN ih hd
theorem Qef (hn:N + 8 ≤ n) (hk:k ≤ r + 1) {i:Nat} (hm:(Mix.ok i).In T k):Has T k (bS T d) JB ((Q8 n).s_compared (bS T d (.ok i))) (.ok i) (QpS isW T (Qj isW T r) (r + 1) d):=by
 obtain ⟨n,rfl,hp⟩:=QJ hn; refine Sat.has (X:=fun q=>J7 (Q8 n) q (loopN (J7 (Q8 n) q) n) (.e (bS T d (.ok i)))) ?_ fun o ho=>Q6 QP ho; simp only [J7]
 refine Sat.call (QmZ hT hN ih hd (by omega) hk hm) fun x m hm hx=>?_
 simp only [hx,Q5,JA hx]
 show Sat T k (bS T d) JB _ m (QnR T ((Qj isW T r).sum d) x (Q5A T (Qj isW T r) d x) opsCmp)
 have inner:∀ (l:List (List UInt8)) (t n':Nat),opsCmp.drop t = l → t + l.length = opsCmp.length → l.length + 1 ≤ n' →
   Sat T k (bS T d) JB (fun q=>loopN (J7 (Q8 n) q) n' (.l0 (Int.ofNat t) (bS T d m) x)) m (QnR T ((Qj isW T r).sum d) x (Q5A T (Qj isW T r) d x) l):=by
  intro l
  induction l with
  | nil =>
   intro t n' hdr hl hn'
   obtain ⟨n',rfl⟩:∃ z,n' = z + 1:=⟨n' - 1,by omega⟩
   have h6:opsCmp.length = 6:=rfl
   have e:decide (Int.ofNat t < 6) = false:=by simp at hl ⊢; omega
   simp only [Q4,J7,e,Q0]
   show Sat T k (bS T d) JB _ m (Q5A T (Qj isW T r) d x)
   unfold Q5A
   refine Sat.word hT.ends (by decide) hm (QA hT (by omega) hm) (fun i j hj hm=>?_) ?_ <;> simp only [Q1,Q0,Bool.not_true,Bool.not_false]
   ·unfold isF
    refine Sat.word hT.ends (by decide) hm (QA hT (by omega) hm) (fun i j hj hm=>?_) ?_ <;> simp only [Q1,Q0,Bool.not_true,Bool.not_false]
    ·refine Sat.callU (Z3 hT (by omega) (hm.mono (Nat.le_succ _))) fun m hm=>?_
     simp only [Qy hx]
     exact Sat.ret hm (Hg rfl) rfl rfl
    ·refine Sat.callU (Z3 hT (by omega) (hm.mono (Nat.le_succ _))) fun m hm=>?_
     simp only [Qy hx]
     exact Sat.ret hm (Hg rfl) rfl rfl
   refine Sat.word hT.ends (by decide) hm (QA hT (by omega) hm) (fun i j hj hm=>?_) ?_ <;> simp only [Q1,Q0,Bool.not_true,Bool.not_false]
   ·refine Sat.callU (Z3 hT (by omega) (hm.mono (Nat.le_succ _))) fun m hm=>?_
    refine Sat.call (Q0R hT hN ih hd (by omega) (by omega) hm) fun y m hm hy=>?_
    simp only [hy,Q5,Qy hy,Qy hx]
    exact Sat.ret hm (Hg rfl) rfl rfl
   refine Sat.word hT.ends (by decide) hm (QA hT (by omega) hm) (fun i j hj hm=>?_) ?_ <;> simp only [Q1,Q0,Bool.not_true,Bool.not_false]
   ·refine Sat.call (Q0R hT hN ih hd (by omega) (by omega) hm) fun y m hm hy=>?_
    simp only [hy,Q5,Qy hy,Qy hx]
    exact Sat.ret hm (Hg rfl) rfl rfl
   ·simp only [JA hx,Qy hx]
    exact Sat.ret hm hx rfl rfl
  | cons u l ih2 =>
   intro t n' hdr hl hn'
   obtain ⟨n',rfl⟩:∃ z,n' = z + 1:=⟨n' - 1,by omega⟩
   have h6:opsCmp.length = 6:=rfl
   have ht:t < opsCmp.length:=by simp at hl; omega
   have e:decide (Int.ofNat t < 6) = true:=by simp; omega
   have e2:(decide (0 ≤ Int.ofNat t) && decide (Int.ofNat t < Int.ofNat 6)) = true:=by simp; omega
   have hdc:=List.drop_eq_getElem_cons ht
   rw [hdr] at hdc
   have hu:opsCmp[t] = u:=(List.cons.inj hdc).1.symm
   have hdl:opsCmp.drop (t + 1) = l:=(List.cons.inj hdc).2.symm
   have ea:([.str [61],.str [60,62],.str [60],.str [60,61],.str [62],.str [62,61]]:List D)[(Int.ofNat t).toNat * 1]? = some (.str u):=by
    rw [Nat.mul_one]
    show (opsCmp.map D.str)[t]? = _
    rw [List.getElem?_map,List.getElem?_eq_getElem ht,hu]; rfl
   have ew:IntKind.i64.wrap (Int.ofNat t + 1) = Int.ofNat (t + 1):=by rw [QQ (by simp; omega) (by simp; omega)]; rfl
   simp only [Q4,J7,e,Q1,e2,Q5,ea,Q3,asS,ew]
   rw [Qju]
   refine Sat.word hT.ends (by decide) hm (Z1 hT (by omega) hm) (fun i j hj hm=>?_) ?_ <;> simp only [Q1,Q0,Bool.not_true,Bool.not_false]
   ·refine Sat.call (ih.sum _ (by omega) _ hd _ (by omega) _ hm) fun y m hm hy=>?_
    simp only [hy,Q5,Qy hy,Qy hx,hx,Q87 (show 1 ≤ n by omega) hx hy,Q3,show okG 26 (ZO u x y) = true from Yg,JA (show okG 26 (ZO u x y) = true from Yg),Qy (show okG 26 (ZO u x y) = true from Yg)]
    exact Sat.ret hm Yg rfl rfl
   ·exact ih2 (t + 1) n' hdl (by simp at hl; omega) (by simp at hn'; omega)
 exact inner opsCmp 0 n rfl rfl (by have h6 : opsCmp.length = 6 := rfl
                                    omega)
theorem Qoh (hn:N + 9 ≤ n) (hk:k ≤ r + 1) {i:Nat} (hm:(Mix.ok i).In T k):Has T k (bS T d) JB ((Q8 n).s_not (bS T d (.ok i))) (.ok i) (notF isW T (Qj isW T r) (r + 1) d):=by
 obtain ⟨n,rfl,hp⟩:=QJ hn; refine Sat.has (X:=fun q=>Q1Z (Q8 n) q (loopN (Q1Z (Q8 n) q) n) (.e (bS T d (.ok i)))) ?_ fun o ho=>Q6 QP ho; simp only [Q1Z]
 refine Sat.word hT.ends (by decide) hm (QA hT (by omega) hm) (fun i j hj hm=>?_) ?_ <;> simp only [Q1,Q0,Bool.not_true,Bool.not_false]
 ·rename_i i j
  have h1:Has T j (bS T d) JB ((Q8 n).s_inner_not (bS T d (.ok i)) 8) (.ok i) (Qc (YX T d) fun _=>Qc ((Qj isW T r).nots (d + 1)) fun x=>Qx (ex 8 0 [] [] (Z5 x) .nils)):=by
   have hn:=hp
   obtain ⟨n,rfl,hp⟩:=QJ hn; refine Sat.has (X:=fun q=>Zx (Q8 n) q (loopN (Zx (Q8 n) q) n) (.e (bS T d (.ok i)) 8)) ?_ fun o ho=>Q6 QaS ho; simp only [Zx]
   refine Q0u hT (by omega) hd hm (show JB (ex 0 0 [] [] .nils .nils) from Hg rfl) (fun q s=>rfl) fun i hi hd1=>?_
   simp only [Bool.not_true,Q0]
   refine Sat.call (ih.nots _ (by omega) _ hd1 _ (by omega) _ hi) fun x m hm hx=>?_
   simp only [hx,Q5,Qy hx]
   exact Sat.leave hT (by omega) hd hm (Hg rfl) rfl fun _ _=>rfl
  refine Sat.last h1 fun x m hx q=>?_
  simp only [hx,Q5,JA hx,Qy hx]
 ·refine Sat.last (Qef hT hN ih hd (by omega) hk hm) fun x m hx q=>?_
  simp only [hx,Q5,JA hx,Qy hx]
theorem Qiy (hn:N + 11 ≤ n) (hk:k ≤ r + 1) {i:Nat} (hm:(Mix.ok i).In T k):Has T k (bS T d) JB ((Q8 n).s_expr1 (bS T d (.ok i))) (.ok i) (andF isW T (Qj isW T r) (r + 1) d):=by
 have h1:∀ n,N + 10 ≤ n → Has T k (bS T d) JB ((Q8 n).s_left_and (bS T d (.ok i)) (.slice ([Qdz].map .str))) (.ok i) (andF isW T (Qj isW T r) (r + 1) d):=fun n hn=>by
  obtain ⟨n,rfl,hp⟩:=QJ hn; refine Sat.has (X:=fun q=>JM (Q8 n) q (loopN (JM (Q8 n) q) n) (.e (bS T d (.ok i)) (.slice ([Qdz].map .str)))) ?_ fun o ho=>Q6 Q5x ho; simp only [JM]
  refine Sat.call (Qoh hT hN ih hd (by omega) hk hm) fun x m hm hx=>?_
  simp only [hx,Q5,JA hx]
  refine Sat.eq ?_ fun q=>QpE (w:=.l0 _ _ _ _)
  exact Q3y hT.ends (by decide) (fun k m w hm=>QA hT (by omega) hm) (fun j hj i hi=>ih.nots n (by omega) d hd j hj i hi) (fun w x y hx hy=>Q87 (by omega) hx hy) (by decide) k hk (r + 1) hk n (by omega) m x 6 hm hx
 obtain ⟨n,rfl,hp⟩:=QJ hn; refine Sat.has (X:=fun q=>Hm (Q8 n) q (loopN (Hm (Q8 n) q) n) (.e (bS T d (.ok i)))) ?_ fun o ho=>Q6 Qm4 ho; simp only [Hm]
 refine Sat.last (h1 n (by omega)) fun x m hx q=>?_
 simp only [hx,Q5,JA hx,Qy hx]
theorem Qq5 (hn:N + 13 ≤ n) (hk:k ≤ r + 1) (hm:m.In T k):Has T k (bS T d) JB ((Q8 n).s_expr (bS T d m)) m (exprF isW T (Qj isW T r) (r + 1) d):=by
 obtain ⟨n,rfl,hp⟩:=QJ hn; refine Sat.has (X:=fun q=>ZX (Q8 n) q (loopN (ZX (Q8 n) q) n) (.e (bS T d m))) ?_ fun o ho=>Q6 QP ho; simp only [ZX]
 refine Q0u hT (by omega) hd hm (show JB (ex 0 0 [] [] .nils .nils) from Hg rfl) (fun q s=>rfl) fun i hm hd1=>?_
 simp only [Bool.not_true,Q0]
 have h1:Has T k (bS T (d + 1)) JB ((Q8 n).s_left_or (bS T (d + 1) (.ok i)) (.slice ([Qoa].map .str))) (.ok i) (orF isW T (Qj isW T r) (r + 1) (d + 1)):=by
  have hn:=hp
  obtain ⟨n,rfl,hp⟩:=QJ hn; refine Sat.has (X:=fun q=>Z2 (Q8 n) q (loopN (Z2 (Q8 n) q) n) (.e (bS T (d + 1) (.ok i)) (.slice ([Qoa].map .str)))) ?_ fun o ho=>Q6 Qmf ho; simp only [Z2]
  refine Sat.call (Qiy hT hN ih hd1 (by omega) hk hm) fun x m hm hx=>?_
  simp only [hx,Q5,JA hx]
  refine Sat.eq ?_ fun q=>QrD (w:=.l0 _ _ _ _)
  exact Q3y hT.ends (by decide) (fun k m w hm=>QA hT (by omega) hm) (fun j hj i hi=>ih.ands n (by omega) (d + 1) hd1 j hj i hi) (fun w x y hx hy=>Q87 (by omega) hx hy) (by decide) k hk (r + 1) hk n (by omega) m x 6 hm hx
 have h2:Sat T k (bS T d) JB (fun q=>bn ((Q8 n).s_left_or (bS T (d + 1) (.ok i)) (.slice ([Qoa].map .str))) fun x4=>an (okG 26 x4.1) (fl x4.1 [4,5] (bn ((Q8 n).s_leave x4.2) fun x5=>fl x4.1 [4,5] (q ((G 26 x4.1),x5))))) (.ok i) (Qc (orF isW T (Qj isW T r) (r + 1) (d + 1)) Qx):=by
  refine Sat.call h1 fun x m hm hx=>?_
  simp only [hx,Q5,JA hx,Qy hx]
  exact Sat.leave hT (by omega) hd hm hx rfl fun _ _=>rfl
 refine Sat.spec h2 fun j hj=>?_
 unfold Qc Qx
 cases orF isW T (Qj isW T r) (r + 1) (d + 1) j <;> rfl
end
end Go.Proofs.YtfdcjngclelnhaaGreat
namespace Go.Proofs.YtfdcjngclelnhaaGreat
open Go
def Qsa:MV B105 → Yq
 | .l0 a b=>.l0 a b
 | .l1 a b c=>.l1 a b c
def QsF:MV B105 → YY
 | .l0 a b=>.l0 a b
 | .l1 a b c=>.l1 a b c
def Qsd:MV B105 → Yt
 | .l0 a b=>.l0 a b
 | .l1 a b c=>.l1 a b c
theorem QmX {S:Q9} {q:D × B105 → Prop} {n:Nat} {w:MV B105}:loopN (Jz S q) n (Qsa w) = loopN (HT 83 7 112 S.s_item S.s_mark q) n w:=Jd (fun l w=>by cases w <;> rfl) n w
theorem Qq7 {S:Q9} {q:D × B105 → Prop} {n:Nat} {w:MV B105}:loopN (JL S q) n (QsF w) = loopN (HT 85 7 104 S.s_key S.s_mark q) n w:=Jd (fun l w=>by cases w <;> rfl) n w
theorem QnB {S:Q9} {q:D × B105 → Prop} {n:Nat} {w:MV B105}:loopN (Jy S q) n (Qsd w) = loopN (HT 26 6 96 S.s_expr S.s_mark q) n w:=Jd (fun l w=>by cases w <;> rfl) n w
theorem Qjg:∀ {l:List CTy} {ds:List D},okC l ds = true → ds.length = l.length
 | [],[],_=>rfl
 | [],_ :: _,h=>nomatch h
 | _ :: _,[],h=>nomatch h
 | c :: l,d :: ds,h=>by
  simp only [okC,Bool.and_eq_true] at h
  simp [Qjg h.2]
theorem Z7 {t:TypeId} {d:D} (h:okG t d = true):d.cells.length = (ctys Tryz.prog 8 t).length:=by
 cases d with
 | agg ds=>exact Qjg h
 | _=>exact nomatch h
theorem QiA {T:List Tok} {d r:Nat} {m:Mix} (hm:m.In T r):((bS T d m).c4 == 0) = m.live:=by
 cases m with
 | ok i=>rfl
 | er i d' a e=>exact Q1j hm.2
section
variable {T:List Tok} (hT:TOk T) {N r:Nat} (hN:40 + 8 * (r + 3) ≤ N ∧ r ≤ 200000) (ih:SOk T N r) {n d k:Nat} (hd:d ≤ 40) {m:Mix}
include hT hN ih hd
theorem QiI (hn:N + 1 ≤ n) (hk:k ≤ r) (hm:m.In T k):Has T k (bS T d) okI ((Q8 n).s_item (bS T d m)) m (Q84 isW T (Qj isW T r) d):=by
 obtain ⟨n,rfl,hp⟩:=QJ hn; refine Sat.has (X:=fun q=>Q0v (Q8 n) q (loopN (Q0v (Q8 n) q) n) (.e (bS T d m))) ?_ fun o ho=>Q6 QP ho; simp only [Q0v]
 refine Sat.call (ih.expr _ (by omega) _ hd _ hk _ hm) fun x m hm hx=>?_
 simp only [hx,Q5,JA hx]
 refine Sat.callU (Z3 hT (by omega) (hm.mono (Nat.le_succ _))) fun m hm=>?_
 refine Sat.call (JE hT (by omega) (hm.mono (Nat.le_succ _))) fun s m hm _=>?_
 simp only [(QaO hx (s:=s)).2]
 exact Sat.ret hm (QaO hx).1 rfl rfl
theorem QoE (hn:N + 1 ≤ n) (hk:k ≤ r) (hm:m.In T k):Has T k (bS T d) okY ((Q8 n).s_key (bS T d m)) m (Q9Y T (Qj isW T r) d):=by
 obtain ⟨n,rfl,hp⟩:=QJ hn; refine Sat.has (X:=fun q=>Q28 (Q8 n) q (loopN (Q28 (Q8 n) q) n) (.e (bS T d m))) ?_ fun o ho=>Q6 QP ho; simp only [Q28]
 refine Sat.call (ih.expr _ (by omega) _ hd _ hk _ hm) fun x m hm hx=>?_
 simp only [hx,Q5,JA hx]
 refine Sat.word hT.ends (by decide) hm (QA hT (by omega) hm) (fun i j hj hm=>?_) ?_ <;> simp only [Q1,Q0,Bool.not_true,Bool.not_false]
 ·simp only [(Q8H hx (s:=true)).2]
  exact Sat.ret hm (Q8H hx).1 rfl rfl
 ·simp only [(Q8H hx (s:=false)).2]
  exact Sat.ret hm (Q8H hx).1 rfl rfl
theorem Qbp (hn:N + 1 ≤ n) (hk:k ≤ r) (hm:m.In T k):Has T k (bS T d) okF ((Q8 n).s_single (bS T d m)) m (Yb isW T (Qj isW T r) d):=by
 obtain ⟨n,rfl,hp⟩:=QJ hn; refine Sat.has (X:=fun q=>YD (Q8 n) q (loopN (YD (Q8 n) q) n) (.e (bS T d m))) ?_ fun o ho=>Q6 QP ho; simp only [YD]
 refine Sat.word hT.ends (by decide) hm (Z1 hT (by omega) hm) (fun i j hj hm=>?_) ?_ <;> simp only [Q1,Q0,Bool.not_true,Bool.not_false]
 ·refine Sat.call (ih.query _ (by omega) _ hd _ (by omega) _ hm) fun x m hm hx=>?_
  simp only [hx,Q5,Q4w hx,Qy hx]
  refine Sat.callU (Jp hT (by omega) (hm.mono (Nat.le_succ _))) fun m hm=>?_
  refine Sat.callU (Z3 hT (by omega) (hm.mono (Nat.le_succ _))) fun m hm=>?_
  refine Sat.call (JE hT (by omega) (hm.mono (Nat.le_succ _))) fun s m hm _=>?_
  exact Sat.ret hm (mkF rfl) rfl rfl
 ·refine Sat.call (JE hT (by omega) (hm.mono (Nat.le_succ _))) fun s m hm _=>?_
  have tail:∀ (v:Bool) {j:Nat} {m:Mix},m.In T j → Sat T j (bS T d) okF (fun q=>bn ((Q8 n).s_word (bS T d m) [97,115]) fun x=>cnd x.1 (bn ((Q8 n).s_name x.2) fun y=>q ((.agg [.int .i64 1,.str s,.bool v,.str y.1,.nils,.nils,.nils]),y.2)) (q ((.agg [.int .i64 1,.str s,.bool v,.str s,.nils,.nils,.nils]),x.2))) m (JJ T 1 Qg8 (Qc (JX isW T) fun t=>Qx (frm 1 s v t .nils .nils .nils)) (Qx (frm 1 s v s .nils .nils .nils))):=by
   intro v j m hm
   refine Sat.word hT.ends (by decide) hm (QA hT (by omega) hm) (fun i j hj hm=>?_) ?_ <;> simp only [Q1,Q0,Bool.not_true,Bool.not_false]
   ·refine Sat.call (JE hT (by omega) (hm.mono (Nat.le_succ _))) fun t m hm _=>?_
    exact Sat.ret hm (mkF rfl) rfl rfl
   ·exact Sat.ret hm (mkF rfl) rfl rfl
  simp only [Zf,QW]
  refine Sat.word hT.ends (by decide) hm (QA hT (by omega) hm) (fun i j hj hm=>?_) ?_ <;> simp only [Q1,Q0,Bool.not_true,Bool.not_false]
  ·exact tail true hm
  ·exact tail false hm
theorem QdS (hn:N + 1 ≤ n) (hk:k ≤ r) (hm:m.In T k) {x:D} (hx:okF x) {f:Nat} {Lp:(D × B105 → Prop) → B105 → Int → List D → List D → Prop}
  (hL:∀ j,j + 1 = k → ∀ m kind y e,m.In T j → okF y → JB e → Sat T j (bS T d) okF (fun q=>Lp q (bS T d m) kind [x,y] [e]) m (JU isW T (Qj isW T r) d f (frm kind [] false [] .nils (.slice [x,y]) (Z5 e)))) :
  Sat T k (bS T d) okF (fun q=>cnd ((bS T d m).c4 == 0) (bn ((Q8 n).s_word (bS T d m) [108,101,102,116]) fun x29=>cnd x29.1 (bn ((Q8 n).s_must x29.2 [106,111,105,110]) fun x30=>bn ((Q8 n).s_single x30) fun x31=>an (okG 65 x31.1) (fl x31.1 [4,5,6] (bn ((Q8 n).s_must x31.2 [111,110]) fun x32=>bn ((Q8 n).s_expr x32) fun x33=>an (okG 26 x33.1) (Lp q x33.2 4 [x,G 65 x31.1] [G 26 x33.1])))) (bn ((Q8 n).s_word x29.2 [106,111,105,110]) fun x34=>cnd x34.1 (bn ((Q8 n).s_single x34.2) fun x35=>an (okG 65 x35.1) (fl x35.1 [4,5,6] (bn ((Q8 n).s_must x35.2 [111,110]) fun x36=>bn ((Q8 n).s_expr x36) fun x37=>an (okG 26 x37.1) (Lp q x37.2 3 [x,G 65 x35.1] [G 26 x37.1])))) (q (x,x34.2)))) (q (x,bS T d m))) m (JU isW T (Qj isW T r) d (f + 1) x):=by
 refine Sat.live (QiA hm) hm hx ⟨m,rfl,hm,fun i d a e h=>⟨_,_,h⟩⟩ ?_
 unfold JU
 dsimp only
 have go:∀ (kind:Int) (j:Nat),j + 1 = k → ∀ m:Mix,m.In T j → Sat T j (bS T d) okF (fun q=>bn ((Q8 n).s_single (bS T d m)) fun x31=>an (okG 65 x31.1) (fl x31.1 [4,5,6] (bn ((Q8 n).s_must x31.2 [111,110]) fun x32=>bn ((Q8 n).s_expr x32) fun x33=>an (okG 26 x33.1) (Lp q x33.2 kind [x,G 65 x31.1] [G 26 x33.1])))) m (Qc (Yb isW T (Qj isW T r) d) fun y=>Qc (QG T 1 Qjy) fun _=>Qc ((Qj isW T r).expr d) fun e=>JU isW T (Qj isW T r) d f (frm kind [] false [] .nils (.slice [x,y]) (Z5 e))):=by
  intro kind j hj m hm
  refine Sat.call (Qbp hT hN ih hd hn (by omega) hm) fun y m hm hy=>?_
  simp only [hy,Q5,Q8p hy,Qy hy]
  refine Sat.callU (Z3 hT (by omega) (hm.mono (Nat.le_succ _))) fun m hm=>?_
  refine Sat.call (ih.expr _ (by omega) _ hd _ (by omega) _ hm) fun e m hm he=>?_
  simp only [he,Q5,Qy he]
  exact hL j hj m kind y e hm hy he
 refine Sat.word hT.ends (by decide) hm (QA hT (by omega) hm) (fun i j hj hm=>?_) ?_ <;> simp only [Q1,Q0,Bool.not_true,Bool.not_false]
 ·refine Sat.callU (Z3 hT (by omega) (hm.mono (Nat.le_succ _))) fun m hm=>?_
  exact go 4 _ hj m hm
 refine Sat.word hT.ends (by decide) hm (QA hT (by omega) hm) (fun i j hj hm=>?_) ?_ <;> simp only [Q1,Q0,Bool.not_true,Bool.not_false]
 ·exact go 3 _ hj _ hm
 ·exact Sat.ret hm hx rfl rfl
theorem Qn7 (hn:N + 1 ≤ n):∀ k,k ≤ r → ∀ f,k ≤ f → ∀ n',k + 1 ≤ n' → ∀ (m:Mix) (kind:Int) (a c e:D) (w:Nat),m.In T k → okF a → okF c → JB e →
  Sat T k (bS T d) okF (fun q=>loopN (Jx (Q8 n) q) n' (.l1 (bS T d m) kind [a,c] [e] w)) m (JU isW T (Qj isW T r) d f (frm kind [] false [] .nils (.slice [a,c]) (Z5 e))):=by
 intro k
 induction k using Nat.strongRecOn with
 | ind k IH =>
  intro hk f hf n' hn' m kind a c e w hm ha hc he
  obtain ⟨n',rfl⟩:∃ z,n' = z + 1:=⟨n' - 1,by omega⟩
  have h1:=QdS hT hN ih hd hn hk hm (x:=frm kind [] false [] .nils (.slice [a,c]) (Z5 e)) (mkF rfl) (f:=f - 1) (Lp:=fun q s kind l1 l2=>loopN (Jx (Q8 n) q) n' (.l1 s kind l1 l2 (w + 7))) fun j hj m' kind' y e' hm' hy he' =>
   IH j (by omega) (by omega) (f - 1) (by omega) n' (by omega) m' kind' _ y e' _ hm' (mkF rfl) hy he'
  refine Sat.spec h1 fun i hi=>?_
  subst hi
  obtain ⟨f,rfl⟩:∃ f',f = f' + 1:=⟨f - 1,by have:=hm.2; have:=hm.1; omega⟩
  rfl
theorem QjB (hn:N + 2 ≤ n) (hk:k ≤ r) (hm:m.In T k) {f:Nat} (hf:k ≤ f):Has T k (bS T d) okF ((Q8 n).s_source (bS T d m)) m (Q0K isW T (Qj isW T r) f d):=by
 obtain ⟨n,rfl,hp⟩:=QJ hn; refine Sat.has (X:=fun q=>Jx (Q8 n) q (loopN (Jx (Q8 n) q) n) (.e (bS T d m))) ?_ fun o ho=>Q6 QP ho; simp only [Jx]
 refine Sat.call (Qbp hT hN ih hd (by omega) hk hm) fun x m hm hx=>?_
 simp only [hx,Q5,Q8p hx]
 obtain ⟨n',rfl⟩:∃ z,n = z + 1:=⟨n - 1,by omega⟩
 have h1:=QdS hT hN ih hd (show N + 1 ≤ n' + 1 by omega) hk hm hx (f:=f - 1) (Lp:=fun q s kind l1 l2=>loopN (Jx (Q8 (n' + 1)) q) n' (.l1 s kind l1 l2 14)) fun j hj m' kind' y e' hm' hy he' =>
  Qn7 hT hN ih hd (by omega) j (by omega) (f - 1) (by omega) n' (by omega) m' kind' x y e' _ hm' hx hy he'
 refine Sat.spec (Sat.eq h1 fun q=>?_) fun i hi=>?_
 ·simp only [Q4,Jx,Q8p hx,Qy hx]
 ·subst hi
  obtain ⟨f,rfl⟩:∃ f',f = f' + 1:=⟨f - 1,by have:=hm.2; have:=hm.1; omega⟩
  rfl
theorem Qcx (hn:N + 2 ≤ n) (hk:k ≤ r) (hm:m.In T k) {f:Nat} (hf:k ≤ f):Has T k (bS T d) ZZ ((Q8 n).s_list_item (bS T d m)) m (Ye T (Q84 isW T (Qj isW T r) d) f):=by
 obtain ⟨n,rfl,hp⟩:=QJ hn; refine Sat.has (X:=fun q=>Jz (Q8 n) q (loopN (Jz (Q8 n) q) n) (.e (bS T d m))) ?_ fun o ho=>Q6 Q0l ho; simp only [Jz]
 refine Sat.call (QiI hT hN ih hd (by omega) hk hm) fun x m hm hx=>?_
 simp only [hx,Q5,Qy hx]
 refine Sat.eq ?_ fun q=>QmX (w:=.l0 _ _)
 exact (Q71 hT.ends (by decide) (fun k m w hm=>Z1 hT (by omega) hm) (fun j hj m hm=>QiI hT hN ih hd (by omega) hj hm) (fun v A h=>Qs9 h) (fun v h=>by rw [Z7 h,Qj7]; rfl) k (by omega) f hf n (by omega) m [x] hm (by have:=hT.len; simp; omega)).2 x hx rfl
theorem Qei (hn:N + 2 ≤ n) (hk:k ≤ r) (hm:m.In T k) {f:Nat} (hf:k ≤ f):Has T k (bS T d) ZZ ((Q8 n).s_list_key (bS T d m)) m (Ye T (Q9Y T (Qj isW T r) d) f):=by
 obtain ⟨n,rfl,hp⟩:=QJ hn; refine Sat.has (X:=fun q=>JL (Q8 n) q (loopN (JL (Q8 n) q) n) (.e (bS T d m))) ?_ fun o ho=>Q6 Q0l ho; simp only [JL]
 refine Sat.call (QoE hT hN ih hd (by omega) hk hm) fun x m hm hx=>?_
 simp only [hx,Q5,Qy hx]
 refine Sat.eq ?_ fun q=>Qq7 (w:=.l0 _ _)
 exact (Q71 hT.ends (by decide) (fun k m w hm=>Z1 hT (by omega) hm) (fun j hj m hm=>QoE hT hN ih hd (by omega) hj hm) (fun v A h=>Qss h) (fun v h=>by rw [Z7 h,Qqb]; rfl) k (by omega) f hf n (by omega) m [x] hm (by have:=hT.len; simp; omega)).2 x hx rfl
theorem Qdp (hn:N + 2 ≤ n) (hk:k ≤ r) (hm:m.In T k) {f:Nat} (hf:k ≤ f):Has T k (bS T d) ZZ ((Q8 n).s_list_expr (bS T d m)) m (Ye T ((Qj isW T r).expr d) f):=by
 obtain ⟨n,rfl,hp⟩:=QJ hn; refine Sat.has (X:=fun q=>Jy (Q8 n) q (loopN (Jy (Q8 n) q) n) (.e (bS T d m))) ?_ fun o ho=>Q6 Q0l ho; simp only [Jy]
 refine Sat.call (ih.expr _ (by omega) _ hd _ hk _ hm) fun x m hm hx=>?_
 simp only [hx,Q5,Qy hx]
 refine Sat.eq ?_ fun q=>QnB (w:=.l0 _ _)
 exact (Q71 hT.ends (by decide) (fun k m w hm=>Z1 hT (by omega) hm) (fun j hj m hm=>ih.expr _ (by omega) _ hd _ hj _ hm) (fun v A h=>JA h) (fun v h=>by rw [Z7 h,Qgs]; rfl) k (by omega) f hf n (by omega) m [x] hm (by have:=hT.len; simp; omega)).2 x hx rfl
theorem Qcy (hn:N + 2 ≤ n) (hk:k ≤ r) (hm:m.In T k) {f:Nat} (hf:k ≤ f) {n':Nat} (hn':1 ≤ n') {v:Bool} {items froms wheres group having:D} {w:Nat} (h1:ZZ items) (h2:ZZ froms) (h3:ZZ wheres) (h4:ZZ group) (h5:ZZ having) :
  Sat T k (bS T d) YJ (fun q=>loopN (Jl (Q8 n) q) n' (.l2 (bS T d m) v items froms wheres group having w)) m (Qf8 T (Qj isW T r) f d v items froms wheres group having):=by
 obtain ⟨n',rfl⟩:∃ z,n' = z + 1:=⟨n' - 1,by omega⟩
 unfold ZZ at h1 h2 h3 h4 h5
 simp only [Q4,Jl,Qf8,QcM,Q0h,Zf,QY,QW,h1,h2,h3,h4,h5,Q5]
 refine Sat.word hT.ends (by decide) hm (QA hT (by omega) hm) (fun i j hj hm=>?_) ?_ <;> simp only [Q1,Q0,Bool.not_true,Bool.not_false]
 ·refine Sat.callU (Z3 hT (by omega) (hm.mono (Nat.le_succ _))) fun m hm=>?_
  refine Sat.call (Qei hT hN ih hd (by omega) (by omega) hm (by omega)) fun o m hm ho=>?_
  unfold ZZ at ho
  simp only [ho,Q5]
  refine Sat.word hT.ends (by decide) hm (QA hT (by omega) hm) (fun i j hj hm=>?_) ?_ <;> simp only [Q1,Q0,Bool.not_true,Bool.not_false]
  ·refine Sat.call (Q55 hT (by omega) (hm.mono (Nat.le_succ _))) fun x m hm _=>?_
   exact Sat.ret hm (mkQ (by simp only [h1,h2,h3,h4,h5,ho]; rfl)) rfl rfl
  ·exact Sat.ret hm (mkQ (by simp only [h1,h2,h3,h4,h5,ho]; rfl)) rfl rfl
 ·refine Sat.word hT.ends (by decide) hm (QA hT (by omega) hm) (fun i j hj hm=>?_) ?_ <;> simp only [Q1,Q0,Bool.not_true,Bool.not_false]
  ·refine Sat.call (Q55 hT (by omega) (hm.mono (Nat.le_succ _))) fun x m hm _=>?_
   exact Sat.ret hm (mkQ (by simp only [h1,h2,h3,h4,h5]; rfl)) rfl rfl
  ·exact Sat.ret hm (mkQ (by simp only [h1,h2,h3,h4,h5]; rfl)) rfl rfl
theorem QiS (hn:N + 2 ≤ n) (hk:k ≤ r) (hm:m.In T k) {f:Nat} (hf:k ≤ f) {n':Nat} (hn':2 ≤ n') {v:Bool} {items froms wheres:D} {w:Nat} (h1:ZZ items) (h2:ZZ froms) (h3:ZZ wheres) :
  Sat T k (bS T d) YJ (fun q=>loopN (Jl (Q8 n) q) n' (.l1 (bS T d m) v items froms wheres w)) m (Qfr T (Qj isW T r) f d v items froms wheres):=by
 obtain ⟨n',rfl⟩:∃ z,n' = z + 1:=⟨n' - 1,by omega⟩
 simp only [Q4,Jl,Qfr,QcT,Q4v,Zf,QY,QW]
 refine Sat.word hT.ends (by decide) hm (QA hT (by omega) hm) (fun i j hj hm=>?_) ?_ <;> simp only [Q1,Q0,Bool.not_true,Bool.not_false]
 ·refine Sat.callU (Z3 hT (by omega) (hm.mono (Nat.le_succ _))) fun m hm=>?_
  refine Sat.call (Qdp hT hN ih hd (by omega) (by omega) hm (by omega)) fun o m hm ho=>?_
  have ho':o.flat = true:=ho
  simp only [ho',Q5]
  refine Sat.word hT.ends (by decide) hm (QA hT (by omega) hm) (fun i j hj hm=>?_) ?_ <;> simp only [Q1,Q0,Bool.not_true,Bool.not_false]
  ·refine Sat.call (ih.expr _ (by omega) _ hd _ (by omega) _ hm) fun x m hm hx=>?_
   simp only [hx,Q5,Qy hx]
   exact Qcy hT hN ih hd hn (by omega) hm (by omega) (by omega) h1 h2 h3 ho rfl
  ·exact Qcy hT hN ih hd hn (by omega) hm (by omega) (by omega) h1 h2 h3 ho rfl
 ·exact Qcy hT hN ih hd hn (by omega) hm (by omega) (by omega) h1 h2 h3 rfl rfl
theorem Qjj (hn:N + 2 ≤ n) (hk:k ≤ r) (hm:m.In T k) {f:Nat} (hf:k ≤ f) {n':Nat} (hn':3 ≤ n') {v:Bool} {items froms:D} {w:Nat} (h1:ZZ items) (h2:ZZ froms) :
  Sat T k (bS T d) YJ (fun q=>loopN (Jl (Q8 n) q) n' (.l0 (bS T d m) v items froms w)) m (Q61 T (Qj isW T r) f d v items froms):=by
 obtain ⟨n',rfl⟩:∃ z,n' = z + 1:=⟨n' - 1,by omega⟩
 simp only [Q4,Jl,Q61,Q4v,Zf,QY,QW]
 refine Sat.word hT.ends (by decide) hm (QA hT (by omega) hm) (fun i j hj hm=>?_) ?_ <;> simp only [Q1,Q0,Bool.not_true,Bool.not_false]
 ·refine Sat.call (ih.expr _ (by omega) _ hd _ (by omega) _ hm) fun x m hm hx=>?_
  simp only [hx,Q5,Qy hx]
  exact QiS hT hN ih hd hn (by omega) hm (by omega) (by omega) h1 h2 rfl
 ·exact QiS hT hN ih hd hn (by omega) hm (by omega) (by omega) h1 h2 rfl
theorem Qji (hn:N + 3 ≤ n) (hk:k ≤ r + 1) {i:Nat} (hm:(Mix.ok i).In T k):Has T k (bS T d) YJ ((Q8 n).s_part (bS T d (.ok i))) (.ok i) (Q6O isW T (Qj isW T r) (r + 1) d):=by
 obtain ⟨n,rfl,hp⟩:=QJ hn; refine Sat.has (X:=fun q=>Jl (Q8 n) q (loopN (Jl (Q8 n) q) n) (.e (bS T d (.ok i)))) ?_ fun o ho=>Q6 QP ho; simp only [Jl]
 unfold Q6O
 refine Sat.word hT.ends (by decide) hm (Z1 hT (by omega) hm) (fun i j hj hm=>?_) ?_ <;> simp only [Q1,Q0,Bool.not_true,Bool.not_false]
 ·refine Sat.call (ih.query _ (by omega) _ hd _ (by omega) _ hm) fun x m hm hx=>?_
  simp only [hx,Q5,Q4w hx,Qy hx]
  refine Sat.callU (Jp hT (by omega) (hm.mono (Nat.le_succ _))) fun m hm=>?_
  exact Sat.ret hm hx rfl rfl
 ·obtain ⟨j,rfl⟩:∃ j,k = j + 1:=⟨k - 1,by have:=hm.2; have:=hm.1; omega⟩
  unfold Q6G
  refine Sat.more (Sat.callU (Z3 hT (by omega) hm) fun m hm=>?_) (Nat.le_succ j)
  have h0:∀ (v:Bool) (j:Nat) (m:Mix),j ≤ r → m.In T j → Sat T j (bS T d) YJ (fun q=>bn ((Q8 n).s_list_item (bS T d m)) fun x27=>an x27.1.flat (an x27.1.flat (bn ((Q8 n).s_word x27.2 [102,114,111,109]) fun x28=>cnd x28.1 (bn ((Q8 n).s_source x28.2) fun x29=>an (okG 65 x29.1) (loopN (Jl (Q8 n) q) n (.l0 x29.2 v x27.1 (.slice [G 65 x29.1]) 12))) (loopN (Jl (Q8 n) q) n (.l0 x28.2 v x27.1 .nils 11))))) m (QiP isW T (Qj isW T r) (r + 1) d v):=by
   intro v j m hj hm
   unfold QiP
   refine Sat.call (Qcx hT hN ih hd (by omega) hj hm (by omega)) fun o m hm ho=>?_
   have ho':o.flat = true:=ho
   simp only [ho',Q5,Q4v,Zf,QY,QW]
   refine Sat.word hT.ends (by decide) hm (QA hT (by omega) hm) (fun i j hj hm=>?_) ?_ <;> simp only [Q1,Q0,Bool.not_true,Bool.not_false]
   ·refine Sat.call (QjB hT hN ih hd (by omega) (by omega) hm (by omega)) fun x m hm hx=>?_
    simp only [hx,Q5,Qy hx]
    exact Qjj hT hN ih hd (by omega) (by omega) hm (by omega) (by omega) ho rfl
   ·exact Qjj hT hN ih hd (by omega) (by omega) hm (by omega) (by omega) ho rfl
  simp only [Zf,QW]
  refine Sat.word hT.ends (by decide) hm (QA hT (by omega) hm) (fun i j hj hm=>?_) ?_ <;> simp only [Q1,Q0,Bool.not_true,Bool.not_false]
  ·exact h0 true _ _ (by omega) hm
  ·exact h0 false _ _ (by omega) hm
theorem Qiq (hd1:d + 1 ≤ 40) (hn:N + 3 ≤ n) (hk:k ≤ r + 1) (hm:m.In T k) {x:D} (hx:YJ x) {f:Nat} {Lp:(D × B105 → Prop) → B105 → Int → List D → Prop}
  (hL:∀ j,j + 1 ≤ k → ∀ m kind y,m.In T j → YJ y → Sat T j (bS T d) YJ (fun q=>Lp q (bS T (d + 1) m) kind [x,y]) m (JY T ((Qj isW T r).part (d + 1)) f (qu kind false .nils .nils .nils .nils .nils .nils (-1) (.slice [x,y])))) :
  Sat T k (bS T d) YJ (fun q=>cnd ((bS T (d + 1) m).c4 == 0) (bn ((Q8 n).s_word (bS T (d + 1) m) [117,110,105,111,110]) fun x34=>cnd x34.1 (bn ((Q8 n).s_word x34.2 [97,108,108]) fun x35=>cnd x35.1 (bn ((Q8 n).s_part x35.2) fun x36=>an (okG 38 x36.1) (Lp q x36.2 3 [x,G 38 x36.1])) (bn ((Q8 n).s_part x35.2) fun x37=>an (okG 38 x37.1) (Lp q x37.2 2 [x,G 38 x37.1]))) (bn ((Q8 n).s_word x34.2 [101,120,99,101,112,116]) fun x38=>cnd x38.1 (bn ((Q8 n).s_part x38.2) fun x39=>an (okG 38 x39.1) (Lp q x39.2 4 [x,G 38 x39.1])) (bn ((Q8 n).s_word x38.2 [105,110,116,101,114,115,101,99,116]) fun x40=>cnd x40.1 (bn ((Q8 n).s_part x40.2) fun x41=>an (okG 38 x41.1) (Lp q x41.2 5 [x,G 38 x41.1])) (bn ((Q8 n).s_leave x40.2) fun x42=>q (x,x42))))) (bn ((Q8 n).s_leave (bS T (d + 1) m)) fun x43=>q (x,x43))) m (JY T ((Qj isW T r).part (d + 1)) (f + 1) x):=by
 have go:∀ (kind:Int) (j:Nat),j + 1 ≤ k → ∀ i,(Mix.ok i).In T j → Sat T j (bS T d) YJ (fun q=>bn ((Q8 n).s_part (bS T (d + 1) (.ok i))) fun x36=>an (okG 38 x36.1) (Lp q x36.2 kind [x,G 38 x36.1])) (.ok i) (Qc ((Qj isW T r).part (d + 1)) fun y=>JY T ((Qj isW T r).part (d + 1)) f (qu kind false .nils .nils .nils .nils .nils .nils (-1) (.slice [x,y]))):=by
  intro kind j hj i hm
  refine Sat.call (ih.part _ (by omega) _ hd1 _ (by omega) _ hm) fun y m hm hy=>?_
  simp only [hy,Q5,Qy hy]
  exact hL j hj m kind y hm hy
 have lv:Sat T k (bS T d) YJ (fun q=>bn ((Q8 n).s_leave (bS T (d + 1) m)) fun x43=>q (x,x43)) m (Qx x):=Sat.leave hT (by omega) hd hm hx rfl fun _ _=>rfl
 have main:Sat T k (bS T d) YJ (fun q=>bn ((Q8 n).s_word (bS T (d + 1) m) [117,110,105,111,110]) fun x34=>cnd x34.1 (bn ((Q8 n).s_word x34.2 [97,108,108]) fun x35=>cnd x35.1 (bn ((Q8 n).s_part x35.2) fun x36=>an (okG 38 x36.1) (Lp q x36.2 3 [x,G 38 x36.1])) (bn ((Q8 n).s_part x35.2) fun x37=>an (okG 38 x37.1) (Lp q x37.2 2 [x,G 38 x37.1]))) (bn ((Q8 n).s_word x34.2 [101,120,99,101,112,116]) fun x38=>cnd x38.1 (bn ((Q8 n).s_part x38.2) fun x39=>an (okG 38 x39.1) (Lp q x39.2 4 [x,G 38 x39.1])) (bn ((Q8 n).s_word x38.2 [105,110,116,101,114,115,101,99,116]) fun x40=>cnd x40.1 (bn ((Q8 n).s_part x40.2) fun x41=>an (okG 38 x41.1) (Lp q x41.2 5 [x,G 38 x41.1])) (bn ((Q8 n).s_leave x40.2) fun x42=>q (x,x42))))) m (JY T ((Qj isW T r).part (d + 1)) (f + 1) x):=by
  unfold JY
  dsimp only
  refine Sat.word hT.ends (by decide) hm (QA hT (by omega) hm) (fun i j hj hm=>?_) ?_ <;> simp only [Q1,Q0,Bool.not_true,Bool.not_false]
  ·refine Sat.word hT.ends (by decide) hm (QA hT (by omega) hm) (fun i j hj hm=>?_) ?_ <;> simp only [Q1,Q0,Bool.not_true,Bool.not_false]
   ·exact go 3 _ (by omega) _ hm
   ·exact go 2 _ (by omega) _ hm
  refine Sat.word hT.ends (by decide) hm (QA hT (by omega) hm) (fun i j hj hm=>?_) ?_ <;> simp only [Q1,Q0,Bool.not_true,Bool.not_false]
  ·exact go 4 _ (by omega) _ hm
  refine Sat.word hT.ends (by decide) hm (QA hT (by omega) hm) (fun i j hj hm=>?_) ?_ <;> simp only [Q1,Q0,Bool.not_true,Bool.not_false]
  ·exact go 5 _ (by omega) _ hm
  ·exact lv
 cases m with
 | ok i=>exact main
 | er i d' a e =>
  have e0:=QiA (d:=d + 1) hm
  obtain ⟨o,g1,g2⟩:=lv
  exact ⟨o,g1,fun q=>by rw [e0]; exact g2 q⟩
theorem Qq6 (hd1:d + 1 ≤ 40) (hn:N + 3 ≤ n):∀ k,k ≤ r + 1 → ∀ f,k ≤ f → ∀ n',k + 1 ≤ n' → ∀ (m:Mix) (kind:Int) (a c:D) (w:Nat),m.In T k → YJ a → YJ c →
  Sat T k (bS T d) YJ (fun q=>loopN (J8 (Q8 n) q) n' (.l1 (bS T (d + 1) m) kind [a,c] w)) m (JY T ((Qj isW T r).part (d + 1)) f (qu kind false .nils .nils .nils .nils .nils .nils (-1) (.slice [a,c]))):=by
 intro k
 induction k using Nat.strongRecOn with
 | ind k IH =>
  intro hk f hf n' hn' m kind a c w hm ha hc
  obtain ⟨n',rfl⟩:∃ z,n' = z + 1:=⟨n' - 1,by omega⟩
  have h1:=Qiq hT hN ih hd hd1 hn hk hm (x:=qu kind false .nils .nils .nils .nils .nils .nils (-1) (.slice [a,c])) (mkQ rfl) (f:=f - 1) (Lp:=fun q s kind l1=>loopN (J8 (Q8 n) q) n' (.l1 s kind l1 (w + 10))) fun j hj m' kind' y hm' hy =>
   IH j (by omega) (by omega) (f - 1) (by omega) n' (by omega) m' kind' _ y _ hm' (mkQ rfl) hy
  refine Sat.spec h1 fun i hi=>?_
  subst hi
  obtain ⟨f,rfl⟩:∃ f',f = f' + 1:=⟨f - 1,by have:=hm.2; have:=hm.1; omega⟩
  rfl
theorem QmF (hn:N + 4 ≤ n) (hk:k ≤ r + 1) (hm:m.In T k):Has T k (bS T d) YJ ((Q8 n).s_query (bS T d m)) m (queryF isW T (Qj isW T r) (r + 1) d):=by
 obtain ⟨n,rfl,hp⟩:=QJ hn; refine Sat.has (X:=fun q=>J8 (Q8 n) q (loopN (J8 (Q8 n) q) n) (.e (bS T d m))) ?_ fun o ho=>Q6 QP ho; simp only [J8]
 refine Q0u hT (by omega) hd hm (show YJ (qu 0 false .nils .nils .nils .nils .nils .nils 0 .nils) from mkQ rfl) (fun q s=>rfl) fun i hm hd1=>?_
 simp only [Bool.not_true,Q0]
 refine Sat.call (Qji hT hN ih hd1 (by omega) hk hm) fun x m hm hx=>?_
 simp only [hx,Q5,Q4w hx]
 obtain ⟨n',rfl⟩:∃ z,n = z + 1:=⟨n - 1,by omega⟩
 have h1:=Qiq hT hN ih hd hd1 (show N + 3 ≤ n' + 1 by omega) hk hm hx (f:=r) (Lp:=fun q s kind l1=>loopN (J8 (Q8 (n' + 1)) q) n' (.l1 s kind l1 20)) fun j hj m' kind' y hm' hy =>
  Qq6 hT hN ih hd hd1 (by omega) j (by omega) r (by omega) n' (by omega) m' kind' x y _ hm' hx hy
 refine Sat.eq h1 fun q=>?_
 simp only [Q4,J8,Q4w hx,Qy hx]
end
theorem Qrh {T:List Tok} (hT:TOk T):SOk T 100 0:=by
 have no:∀ {i k:Nat} {p:Prop},k ≤ 0 → (Mix.ok i).In T k → p:=fun hk hm=>by have:=hm.1; have:=hm.2; omega
 refine ⟨fun n hn d hd k hk m hm=>?_,fun n hn d hd k hk m hm=>?_,fun n hn d hd k hk i hm=>no hk hm,fun n hn d hd k hk i hm=>no hk hm,fun n hn d hd k hk i hm=>no hk hm,fun n hn d hd k hk i hm=>no hk hm,fun n hn d hd k hk i hm=>no hk hm,fun n hn d hd k hk i hm=>no hk hm⟩
 ·cases m with
  | ok i=>exact no hk hm
  | er i d' a e =>
   refine Has.spec (f:=Qc (YX T d) fun _ _=>.err 0 0) ?_ fun j hj=>nomatch hj
   obtain ⟨n,rfl,hp⟩:=QJ hn; refine Sat.has (X:=fun q=>ZX (Q8 n) q (loopN (ZX (Q8 n) q) n) (.e (bS T d (.er i d' a e)))) ?_ fun o ho=>Q6 QP ho; simp only [ZX]
   exact Q0u hT (by omega) hd hm (show JB (ex 0 0 [] [] .nils .nils) from Hg rfl) (fun q s=>rfl) fun i hm hd1=>no hk hm
 ·cases m with
  | ok i=>exact no hk hm
  | er i d' a e =>
   refine Has.spec (f:=Qc (YX T d) fun _ _=>.err 0 0) ?_ fun j hj=>nomatch hj
   obtain ⟨n,rfl,hp⟩:=QJ hn; refine Sat.has (X:=fun q=>J8 (Q8 n) q (loopN (J8 (Q8 n) q) n) (.e (bS T d (.er i d' a e)))) ?_ fun o ho=>Q6 QP ho; simp only [J8]
   exact Q0u hT (by omega) hd hm (show YJ (qu 0 false .nils .nils .nils .nils .nils .nils 0 .nils) from mkQ rfl) (fun q s=>rfl) fun i hm hd1=>no hk hm
theorem Qrt {T:List Tok} (hT:TOk T) {N r:Nat} (hN:40 + 8 * (r + 3) ≤ N ∧ r ≤ 200000) (ih:SOk T N r):SOk T (N + 13) (r + 1) :=
 ⟨fun n hn d hd k hk m hm => Qq5 hT hN ih hd hn hk hm, fun n hn d hd k hk m hm => QmF hT hN ih hd (by omega) hk hm,
  fun n hn d hd k hk i hm=>Qiy hT hN ih hd (by omega) hk hm,fun n hn d hd k hk i hm=>Qoh hT hN ih hd (by omega) hk hm,
  fun n hn d hd k hk i hm=>QmZ hT hN ih hd (by omega) hk hm,fun n hn d hd k hk i hm=>QiL hT hN ih hd (by omega) hk hm,
  fun n hn d hd k hk i hm=>Qfy hT hN ih hd (by omega) hk hm,fun n hn d hd k hk i hm=>Qji hT hN ih hd (by omega) hk hm⟩
theorem QqV {T:List Tok} (hT:TOk T):∀ r,r ≤ 200000 → SOk T (100 + 13 * r) r
 | 0,_=>Qrh hT
 | r + 1,h=>by
  have h1:=Qrt hT (N:=100 + 13 * r) (r:=r) ⟨by omega,by omega⟩ (QqV hT r (by omega))
  rwa [show 100 + 13 * r + 13 = 100 + 13 * (r + 1) by omega] at h1
end Go.Proofs.YtfdcjngclelnhaaGreat
namespace Go.Proofs.YtfdcjngclelnhaaGreat
open Go
def Qsl:List UInt8:=[105,110,116]
def QrI:List UInt8:=[98,111,111,108]
def QrG:List UInt8:=[116,101,120,116]
def Qpq:List UInt8:=[108,101,118,101,108,115]
def Qqw:List UInt8:=[116,97,98,108,101]
def Qlg:List UInt8:=[99,104,97,110,110,101,108]
def Qfc:List UInt8:=[112,114,105,110,99,105,112,97,108]
def Qrg:List UInt8:=[114,111,119,115]
def Qso:List UInt8:=[107,101,121]
def QrA:List UInt8:=[104,105,100,101]
def pr2 (a b:List UInt8):D:=.agg [.str a,.str b]
def Qfz (a:List UInt8) (t:Int) (nl:Bool) (l:List UInt8):D:=.agg [.str a,.int .i64 t,.bool nl,.str l]
def tbl (name rows:List UInt8) (cols key:D) (hide:List UInt8) (cond:D):D:=.agg [.str name,.str rows,cols,key,.str hide,cond]
def slD:List D → D
 | []=>.nils
 | x :: l=>.slice (x :: l)
structure SC where
 lv:List D
 ed:List D
 ta:List D
 ch:List D
 pr:List D
 lim:Int
def SC.d (x:SC):D:=.agg [slD x.lv,slD x.ed,slD x.ta,slD x.ch,slD x.pr,.int .i64 x.lim]
def QcV:D → List D
 | .slice l=>l
 | _=>[]
section
variable (isW:List UInt8 → Bool) (T:List Tok) (R:Qf9) (r:Nat)
def tyF:Nat → Out Int:=JJ T 1 Qsl (Qx 2) (JJ T 1 QrI (Qx 1) (JJ T 1 QrG (Qx 3) fun i=>Q1l T i 10))
def Q8c:Nat → Out D:=Qc (JX isW T) fun a=>Qc (JX isW T) fun b=>Qx (pr2 a b)
def Q2Q:Nat → Out D:=Qc (JX isW T) fun s=>Qx (.str s)
def Q2x:Nat → Out D:=Qc (JX isW T) fun a=>Qc (tyF T) fun t=>Qc (JJ T 1 Q5l (Qx true) (Qx false)) fun v=>Qc (JX isW T) fun l=>Qx (Qfz a t v l)
def ZE:Nat → List D → List UInt8 → Nat → Out D
 | 0,l,low=>Qx (.slice l)
 | k + 1,l,low=>Qc (QG T 4 [60]) fun _=>Qc (JX isW T) fun h=>Q78 T 4 [60] (ZE k (l ++ [pr2 low h]) h) (Qx (.slice (l ++ [pr2 low h])))
def Q8k:Nat → Out D:=Qc (JX isW T) fun low=>ZE isW T r [] low
def QaN (d:Nat) (name rows:List UInt8) (cols key:D):Nat → Out D :=
 JJ T 1 QrA (Qc (JX isW T) fun h=>Qc (QG T 1 Qpy) fun _=>Qc (R.expr d) fun x=>Qx (tbl name rows cols key h (Z5 x))) (Qx (tbl name rows cols key [] .nils))
def QiZ:Nat → Out D:=JJ T 1 Qso (Qc (QG T 4 [40]) fun _=>Qc (Ye T (Q2Q isW T) r) fun l=>Qc (QG T 4 [41]) fun _=>Qx l) (Qx .nils)
def Qr6 (d:Nat) (name rows:List UInt8):Nat → Out D :=
 Qc (Ye T (Q2x isW T) r) fun cols=>Qc (QG T 4 [41]) fun _=>Qc (QiZ isW T r) fun key=>QaN isW T R d name rows cols key
def Q4M (d:Nat):Nat → Out D :=
 Qc (JX isW T) fun name=>Qc (QG T 1 Qrg) fun _=>Qc (JX isW T) fun rows=>Qc (QG T 4 [40]) fun _=>Qr6 isW T R r d name rows
def Q3a (d:Nat) (x:SC) (fin:SC → Nat → Out D):Nat → Out D :=
 JJ T 1 Qpq (Qc (Ye T (Q2Q isW T) r) fun l=>fin { x with lv:=x.lv ++ QcV l })
 (JJ T 1 Qj1 (Qc (Q8k isW T r) fun l=>fin { x with ed:=x.ed ++ QcV l })
 (JJ T 1 Qqw (Qc (Q4M isW T R r d) fun t=>fin { x with ta:=x.ta ++ [t] })
 (JJ T 1 Qlg (Qc (Q8c isW T) fun p=>fin { x with ch:=x.ch ++ [p] })
 (JJ T 1 Qfc (Qc (Q8c isW T) fun p=>fin { x with pr:=x.pr ++ [p] })
 (JJ T 1 Qis (Qc (HM T) fun n=>fin { x with lim:=n }) fun i=>Q1l T i 10)))))
def JW (d:Nat):Nat → SC → Nat → Out D
 | 0,x=>Qx x.d
 | k + 1,x=>fun i=>if (tk T i).kind == 0 then .ok x.d i else Q3a isW T R r d x (fun y=>Qc (QG T 4 [59]) fun _=>JW d k y) i
def HO (d:Nat):Nat → Out D:=JW isW T R r d r ⟨[],[],[],[],[],0⟩
end
end Go.Proofs.YtfdcjngclelnhaaGreat
