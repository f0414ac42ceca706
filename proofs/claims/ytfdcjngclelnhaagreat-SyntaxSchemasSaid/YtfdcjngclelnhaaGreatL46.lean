/- Part of a proof. -/
import Derived.Test.YtfdcjngclelnhaaGreatL21
import Derived.Test.YtfdcjngclelnhaaGreatL13
import Derived.Test.YtfdcjngclelnhaaGreatL45
set_option linter.unusedSectionVars false
set_option linter.unusedSimpArgs false
set_option linter.unusedVariables false
namespace Go.Proofs.YtfdcjngclelnhaaGreat
open Go
set_option maxRecDepth 100000
set_option maxHeartbeats 2000000
def Qru:D:=.agg [.int .i64 0,.str [],.int .i64 0,.int .i64 0]
def Qlk:TR → D × Int × Int × Int
 | .tok t e=>(t.d,Int.ofNat e,0,0)
 | .bad p=>(Qru,0,Int.ofNat p,10)
def YN (l:List UInt8):List (List UInt8) → Nat
 | []=>0
 | m :: r=>if m.isPrefixOf l then m.length else YN l r
theorem Qfh {α:Type} {f g:Nat → α} (h:(List.range 256).map f = (List.range 256).map g) (n:Nat) (hn:n < 256):f n = g n:=by
 have:=congrArg (fun l=>l[n]?) h
 simpa [List.getElem?_map,List.getElem?_range hn] using this
theorem Ql6 (l:List UInt8):YN l marks = HN l:=by
 cases l with
 | nil=>rfl
 | cons c r =>
  cases r with
  | nil =>
   have h:((List.range 256).map fun (n:Nat)=>YN [n.toUInt8] marks) = (List.range 256).map fun (n:Nat)=>HN [n.toUInt8]:=by kernel_rfl
   have:=Qfh h c.toNat c.toNat_lt
   rwa [Q5q] at this
  | cons d q =>
   have key : ((List.range 256).map fun (n : Nat) => fun (b1 b2 b3 : Bool) =>
         (if n.toUInt8 == 124 && b1 then 2 else if n.toUInt8 == 60 && b2 then 2 else if n.toUInt8 == 60 && b3 then 2 else if n.toUInt8 == 62 && b3 then 2 else YN [n.toUInt8] (marks.drop 4)))
     = (List.range 256).map fun (n:Nat)=>fun (b1 b2 b3:Bool) =>
      (if n.toUInt8 = 124 then (if b1 then 2 else 0) else if n.toUInt8 = 60 then (if b2 then 2 else if b3 then 2 else 1) else if n.toUInt8 = 62 then (if b3 then 2 else 1) else if Qec n.toUInt8 then 1 else 0):=by
    apply List.map_congr_left
    intro n hn
    funext b1 b2 b3
    have hall:((List.range 256).all fun (n:Nat)=>[true,false].all fun b1=>[true,false].all fun b2=>[true,false].all fun b3 =>
      (if n.toUInt8 == 124 && b1 then 2 else if n.toUInt8 == 60 && b2 then 2 else if n.toUInt8 == 60 && b3 then 2 else if n.toUInt8 == 62 && b3 then 2 else YN [n.toUInt8] (marks.drop 4)) ==
      (if n.toUInt8 = 124 then (if b1 then 2 else 0) else if n.toUInt8 = 60 then (if b2 then 2 else if b3 then 2 else 1) else if n.toUInt8 = 62 then (if b3 then 2 else 1) else if Qec n.toUInt8 then 1 else 0)) = true:=by kernel_rfl
    have h1:=List.all_eq_true.1 hall n hn
    have h2:=List.all_eq_true.1 h1 b1 (by cases b1 <;> simp)
    have h3:=List.all_eq_true.1 h2 b2 (by cases b2 <;> simp)
    have h4:=List.all_eq_true.1 h3 b3 (by cases b3 <;> simp)
    exact beq_iff_eq.1 h4
   have h:=congrFun (congrFun (congrFun (Qfh key c.toNat c.toNat_lt) (d == 124)) (d == 62)) (d == 61)
   simp only [Q5q] at h
   have one:∀ (x:UInt8),[x].isPrefixOf (c :: d :: q) = (x == c):=fun x=>by simp [List.isPrefixOf]
   have one':∀ (x:UInt8),[x].isPrefixOf [c] = (x == c):=fun x=>by simp [List.isPrefixOf]
   have two:∀ (x y:UInt8),[x,y].isPrefixOf (c :: d :: q) = (c == x && d == y):=fun x y=>by
    have e1:(x == c) = (c == x):=by rw [Bool.eq_iff_iff,beq_iff_eq,beq_iff_eq]; exact eq_comm
    have e2:(y == d) = (d == y):=by rw [Bool.eq_iff_iff,beq_iff_eq,beq_iff_eq]; exact eq_comm
    simp only [List.isPrefixOf,e1,e2,Bool.and_true]
   have lhs:YN (c :: d :: q) marks = (if c == 124 && d == 124 then 2 else if c == 60 && d == 62 then 2 else if c == 60 && d == 61 then 2 else if c == 62 && d == 61 then 2 else YN [c] (marks.drop 4)):=by
    simp only [marks,YN,two,one,one',List.drop_succ_cons,List.drop_zero,List.length_cons,List.length_nil]
   have rhs:HN (c :: d :: q) = (if c = 124 then (if (d == 124) = true then 2 else 0) else if c = 60 then (if (d == 62) = true then 2 else if (d == 61) = true then 2 else 1) else if c = 62 then (if (d == 61) = true then 2 else 1) else if Qec c then 1 else 0):=by
    simp only [HN,two,List.getElem?_cons_succ,List.getElem?_cons_zero,Option.some.injEq,beq_iff_eq]
    by_cases h1:c = 124
    ·simp [h1]
    ·by_cases h2:c = 60
     ·simp [h2]
     ·simp [h1,h2]
   rw [lhs,rhs]
   exact h
section
variable {s:List UInt8} (hs:s.length ≤ 20000) {n a:Nat}
include hs
theorem QhU {F:Nat → Int → Prop} {fin:Int → Prop} {p:Nat → Bool} (hF:∀ n i c,s[i]? = some c → i < s.length → F (n + 1) (Int.ofNat i) = if p c.toNat then F n (Int.ofNat (i + 1)) else fin (Int.ofNat i))
  (hE:∀ n,F (n + 1) (Int.ofNat s.length) = fin (Int.ofNat s.length)) :
  ∀ k i n,i + k = s.length → k + 1 ≤ n → F n (Int.ofNat i) = fin (Int.ofNat (QD p s k i)):=by
 intro k
 induction k with
 | zero =>
  intro i n hi hn
  obtain ⟨n,rfl,_⟩:=QJ hn
  have:i = s.length:=by omega
  subst this
  exact hE n
 | succ k ih =>
  intro i n hi hn
  obtain ⟨n,rfl,hp⟩:=QJ hn
  have hlt:i < s.length:=by omega
  have hc:s[i]? = some s[i]:=List.getElem?_eq_getElem hlt
  rw [hF n i s[i] hc hlt,QD,hc]
  try dsimp only
  by_cases hpc:p (s[i]).toNat = true
  ·rw [if_pos hpc,if_pos hpc]; exact ih (i + 1) n (by omega) hp
  ·rw [if_neg hpc,if_neg hpc]
theorem QlA {q:D × Int × Int × Int → Prop} {e:Nat} (he:e ≤ s.length) (hae:a ≤ e) (h18:e - a ≤ 18) (hd:∀ c ∈ sl s a e,QN c.toNat = true) :
  ∀ k i n' cnt,i + k = e → a ≤ i → k + 1 ≤ n' → loopN (J1 (Q8 n) q) n' (.l2 s (Int.ofNat e) (Int.ofNat i) (Tok.d ⟨2,sl s a e,Int.ofNat (Hu ((sl s a e).take (i - a))),Int.ofNat a⟩) cnt) = q (Tok.d ⟨2,sl s a e,Int.ofNat (Hu (sl s a e)),Int.ofNat a⟩,Int.ofNat e,0,0):=by
 have hl:=QfQ hae he
 intro k
 induction k with
 | zero =>
  intro i n' cnt hi ha hn
  obtain ⟨n',rfl,_⟩:=QJ hn
  have ee:decide (i < e) = false:=by simp <;> omega
  have et:List.take (i - a) (sl s a e) = sl s a e:=List.take_of_length_le (by omega)
  simp only [Q4,J1,ltN,ee,Q0,Qy JG,et]
 | succ k ih =>
  intro i n' cnt hi ha hn
  obtain ⟨n',rfl,hp⟩:=QJ hn
  have hlt:i < e:=by omega
  have ee:=decide_eq_true hlt
  have hin:i - a < (sl s a e).length:=by omega
  have hg:s[i]? = some (sl s a e)[i - a]:=by
   have h1:=Qnv (s:=s) (a:=a) (e:=e) (i:=i - a) (by omega)
   rw [List.getElem?_eq_getElem hin,show a + (i - a) = i by omega] at h1
   exact h1.symm
  have hc:=hd (sl s a e)[i - a] (List.getElem_mem _)
  simp only [QN,Bool.and_eq_true,decide_eq_true_eq] at hc
  have hb:=Q2r hd (by omega) (show i - a ≤ (sl s a e).length by omega)
  have hb2:=Q2r hd (by omega) (show i - a + 1 ≤ (sl s a e).length by omega)
  have hsucc:=Q4T (sl s a e) (i - a) hin
  rw [hsucc] at hb2
  generalize hc':(sl s a e)[i - a] = c at hg hc hsucc hb2
  have e1:IntKind.i64.wrap (Int.ofNat c.toNat) = Int.ofNat c.toNat:=QQ (by simp <;> omega) (by simp <;> omega)
  have e2:IntKind.i64.wrap (10 * Int.ofNat (Hu ((sl s a e).take (i - a)))) = Int.ofNat (10 * Hu ((sl s a e).take (i - a))):=by rw [QQ (by simp <;> omega) (by simp <;> omega)]; simp
  have e3:IntKind.i64.wrap (Int.ofNat (10 * Hu ((sl s a e).take (i - a))) + Int.ofNat c.toNat) = Int.ofNat (10 * Hu ((sl s a e).take (i - a)) + c.toNat):=by rw [QQ (by simp <;> omega) (by simp <;> omega)]; simp
  have e4:IntKind.i64.wrap (Int.ofNat (10 * Hu ((sl s a e).take (i - a)) + c.toNat) - 48) = Int.ofNat (Hu ((sl s a e).take (i + 1 - a))):=by
   rw [show i + 1 - a = i - a + 1 by omega,hsucc,QQ (by simp <;> omega) (by simp <;> omega)]; simp; omega
  rw [← ih (i + 1) n' (cnt + 1) (by omega) (by omega) hp]
  simp only [Q4,J1,ltN,ee,Q1,Zg,Q0,YV,hg,Q3,ZY,Q2D,Qe4,Qjb,e1,e2,e3,e4,QL (show i ≤ 200000 by omega)]
  rfl
theorem Qhj {q:D × Int × Int × Int → Prop} (ha:a < s.length):∀ (l:List (List UInt8)) t n',marks.drop t = l → t + l.length = marks.length → l.length + 1 ≤ n' →
  loopN (J1 (Q8 n) q) n' (.l1 s (Int.ofNat a) (.slice (marks.map .str)) (Int.ofNat t)) = q (Qlk (if YN (s.drop a) l = 0 then .bad a else .tok ⟨4,sl s a (a + YN (s.drop a) l),0,Int.ofNat a⟩ (a + YN (s.drop a) l))):=by
 intro l
 induction l with
 | nil =>
  intro t n' hdr hl hn'
  obtain ⟨n',rfl,_⟩:=QJ hn'
  have e:decide (t < marks.length) = false:=by simp at hl ⊢; omega
  simp only [Q4,J1,asL,Q3,List.length_map,ltN,e,Q0]
  rfl
 | cons u l ih =>
  intro t n' hdr hl hn'
  obtain ⟨n',rfl,hp⟩:=QJ hn'
  have ht:t < marks.length:=by simp at hl; omega
  have e:=decide_eq_true ht
  have hdc:=List.drop_eq_getElem_cons ht
  rw [hdr] at hdc
  have hu:marks[t] = u:=(List.cons.inj hdc).1.symm
  have hdl:marks.drop (t + 1) = l:=(List.cons.inj hdc).2.symm
  have hmem:u ∈ marks:=by rw [← hu]; exact List.getElem_mem _
  have hul:1 ≤ u.length ∧ u.length ≤ 2:=(by decide:∀ w ∈ marks,1 ≤ w.length ∧ w.length ≤ 2) u hmem
  have hml:marks.length = 20:=rfl
  have ea:atD (marks.map D.str) (Int.ofNat t) = some (.str u):=by
   unfold atD
   rw [if_neg (by simp)]
   show (marks.map D.str)[t]? = _
   rw [List.getElem?_map,List.getElem?_eq_getElem ht,hu]; rfl
  have ew:IntKind.i64.wrap (Int.ofNat t + 1) = Int.ofNat (t + 1):=QL (by omega)
  have e1:IntKind.i64.wrap (Int.ofNat s.length - Int.ofNat a) = Int.ofNat (s.length - a):=by rw [QQ (by simp <;> omega) (by simp <;> omega)]; simp; omega
  have e2:IntKind.i64.wrap (Int.ofNat a + Int.ofNat u.length) = Int.ofNat (a + u.length):=by rw [QQ (by simp <;> omega) (by simp <;> omega)]; simp
  have e2':IntKind.i64.wrap (Int.ofNat a + (↑u.length:Int)) = Int.ofNat (a + u.length):=e2
  have e3:decide (Int.ofNat (s.length - a) ≥ Int.ofNat u.length) = decide (u.length ≤ s.length - a):=leN _ _
  have h0:=ih (t + 1) n' hdl (by simp at hl; omega) (by simp at hn'; omega)
  have hpre:=QaY (x:=s.drop a) (y:=u)
  rw [List.length_drop] at hpre
  simp only [Q4,J1,asL,Q3,List.length_map,ltN,e,Q1,ea,D.flat,Q5,asS,e1,e3,ew,e2,e2',Q2z,leN,YV,Bool.true_and]
  rw [YN,hpre]
  by_cases hle:u.length ≤ s.length - a
  ·have e4:=decide_eq_true hle
   have e5:decide (a + u.length ≤ s.length) = true:=decide_eq_true (by omega)
   have e6:decide (a ≤ a + u.length) = true:=decide_eq_true (by omega)
   simp only [e4,Q1,e5,e6,Q5,Bool.true_and,Nat.add_sub_cancel_left]
   cases hb:List.take u.length (List.drop a s) == u with
   | true =>
    have hz:¬ u.length = 0:=by omega
    simp only [Q1,if_true,if_neg hz]
    have:sl s a (a + u.length) = u:=by rw [QiO]; exact eq_of_beq hb
    rw [this]; rfl
   | false =>
    simp only [Q0,Bool.false_eq_true,if_false]
    exact h0
  ·have e4:=decide_eq_false hle
   simp only [e4,Q0,Bool.false_and,Bool.false_eq_true,if_false]
   exact h0
theorem QrL (hn:40300 ≤ n) (ha:a < s.length):(Q8 n).k_one s (Int.ofNat a) = some (Qlk (Q7C s a)):=by
 obtain ⟨n,rfl,hp⟩:=QJ hn
 have hc:s[a]? = some s[a]:=List.getElem?_eq_getElem ha
 generalize s[a] = c at hc
 have b39:(Int.ofNat c.toNat == 39) = (c.toNat == 39):=Q1k _ 39
 refine Q6 Qlu fun q=>?_
 unfold Q7C
 rw [hc]
 try dsimp only
 have kl:=fun m=>Qkh (n:=n) (m:=m) (by omega)
 have kd:=fun m=>QoJ (n:=n) (m:=m) (by omega)
 have e00:((0:Int) != 0) = false:=rfl
 have e10:((10:Int) != 0) = true:=rfl
 have fits:∀ e,a ≤ e → e ≤ s.length → decide (e ≤ s.length) = true ∧ decide (a ≤ e) = true ∧ IntKind.i64.wrap (Int.ofNat e - Int.ofNat a) = Int.ofNat (e - a):=fun e h1 h2 =>
  ⟨decide_eq_true h2,decide_eq_true h1,by rw [QQ (by simp <;> omega) (by simp <;> omega)]; simp; omega⟩
 cases h1:Y9 c.toNat with
 | true =>
  simp only [if_true]
  simp only [Q4 (n:=n),J1,Zg,Q0,YV,hc,Q3,kl,h1,Q1]
  have hge:=JH (p:=ZL) (s:=s) (s.length - a) a
  have hle:=Z4 (p:=ZL) (s:=s) (s.length - a) a (by omega)
  have hloop:=QhU hs (F:=fun n' i=>loopN (J1 (Q8 n) q) n' (.l0 s (Int.ofNat a) i true)) (p:=ZL) (fin:=fun y2=>an (decide (0 ≤ y2) && decide (y2 ≤ Int.ofNat s.length)) (an (decide (0 ≤ Int.ofNat a) && decide (Int.ofNat a ≤ Int.ofNat y2.toNat)) (cnd true (cnd (decide (IntKind.i64.wrap (y2 - Int.ofNat a) > 30)) (q ((.agg [.int .i64 0,.str [],.int .i64 0,.int .i64 0]),0,Int.ofNat a,10)) (q ((.agg [.int .i64 1,.str (List.take (y2.toNat - (Int.ofNat a).toNat) (List.drop (Int.ofNat a).toNat s)),.int .i64 0,.int .i64 (Int.ofNat a)]),y2,0,0))) False))) (fun n' i c hc hi=>by
    simp only [Q4,J1,ltN,decide_eq_true hi,Q1,Zg,Q0,YV,hc,Q3,kd,kl,QL (show i ≤ 200000 by omega)]
    by_cases hx:ZL c.toNat = true
    ·rw [if_pos hx]
     unfold ZL at hx
     cases h7:QN c.toNat with
     | true=>rfl
     | false=>rw [h7,Bool.or_false] at hx; rw [hx]; rfl
    ·rw [if_neg hx]
     have h8:ZL c.toNat = false:=by simpa using hx
     unfold ZL at h8
     rw [Bool.or_eq_false_iff] at h8
     rw [h8.1,h8.2]; rfl) (fun n'=>by
    simp only [Q4,J1,HC,Q0,Q1]) (s.length - a) a n (by omega) (by omega)
  refine Eq.trans hloop ?_
  unfold Qbm
  try dsimp only
  generalize QD ZL s (s.length - a) a = e at hge hle ⊢
  obtain ⟨f1,f2,f3⟩:=fits e hge hle
  simp only [Q2z,leN,f1,f2,YV,Bool.and_self,Q5,Q1,f3,gtL]
  by_cases h30:e - a > 30
  ·rw [if_pos h30,decide_eq_true h30]; rfl
  ·rw [if_neg h30,decide_eq_false h30]; rfl
 | false =>
  simp only [Bool.false_eq_true,if_false]
  cases h2:QN c.toNat with
  | true =>
   simp only [if_true]
   simp only [Q4 (n:=n),J1,Zg,Q0,YV,hc,Q3,kl,kd,h1,h2,Q1]
   have hge:=JH (p:=QN) (s:=s) (s.length - a) a
   have hle:=Z4 (p:=QN) (s:=s) (s.length - a) a (by omega)
   have hdig:=QbS (s:=s) (a:=a)
   have hloop:∀ k i n',i + k = s.length → a ≤ i → k + 1 + 20000 ≤ n' → ∃ n'',20000 ≤ n'' ∧ loopN (J1 (Q8 n) q) n' (.l0 s (Int.ofNat a) (Int.ofNat i) false) = cnd (decide (18 < QD QN s k i - a)) (q (Qru,0,Int.ofNat a,10)) (loopN (J1 (Q8 n) q) n'' (.l2 s (Int.ofNat (QD QN s k i)) (Int.ofNat a) (.agg [.int .i64 2,.str (sl s a (QD QN s k i)),.int .i64 0,.int .i64 (Int.ofNat a)]) 5)):=by
    intro k
    induction k with
    | zero =>
     intro i n' hi hai hn'
     obtain ⟨n',rfl,hp'⟩:=QJ (show 20000 + 1 ≤ n' by omega)
     have:i = s.length:=by omega
     subst this
     obtain ⟨f1,f2,f3⟩:=fits s.length hai (Nat.le_refl _)
     refine ⟨n',by omega,?_⟩
     simp only [Q4,J1,HC,Q0,Q2z,leN,f1,f2,YV,Bool.and_self,Q5,f3,gtL,QD]
     rfl
    | succ k ih =>
     intro i n' hi hai hn'
     obtain ⟨n',rfl,hp'⟩:=QJ (show k + 1 + 20000 + 1 ≤ n' by omega)
     have hlt:i < s.length:=by omega
     have hci:s[i]? = some s[i]:=List.getElem?_eq_getElem hlt
     obtain ⟨f1,f2,f3⟩:=fits i hai (by omega)
     simp only [Q4,J1,ltN,decide_eq_true hlt,Q1,Zg,Q0,YV,hci,Q3,kd,QL (show i ≤ 200000 by omega),QD]
     cases hd:QN (s[i]).toNat with
     | true =>
      simp only [Q1,if_true]
      exact ih (i + 1) n' (by omega) (by omega) (by omega)
     | false =>
      refine ⟨n',by omega,?_⟩
      simp only [Q0,Bool.false_eq_true,if_false,Q2z,leN,f1,f2,Bool.and_self,Q5,f3,gtL]
      rfl
   obtain ⟨n'',hn'',e1⟩:=hloop (s.length - a) a n (by omega) (Nat.le_refl _) (by omega)
   refine Eq.trans e1 ?_
   unfold Qlv
   try dsimp only
   generalize QD QN s (s.length - a) a = e at hge hle hdig ⊢
   by_cases h18:e - a > 18
   ·rw [if_pos h18,decide_eq_true h18]; rfl
   ·rw [if_neg h18,decide_eq_false h18,Q0]
    have:=QlA hs (n:=n) (q:=q) hle hge (by omega) hdig (e - a) a n'' 5 (by omega) (Nat.le_refl _) (by omega)
    rw [Nat.sub_self,List.take_zero] at this
    exact this
  | false =>
   simp only [Bool.false_eq_true,if_false]
   cases h3:c.toNat == 39 with
   | true =>
    simp only [if_true]
    simp only [Q4 (n:=n),J1,Zg,Q0,YV,hc,Q3,kl,kd,h1,h2,b39,h3,Q1,QqP hs (show 20100 ≤ n by omega) ha]
    have hk:∀ t e,Q5T s a = .tok t e → t = ⟨3,t.text,0,Int.ofNat a⟩:=by
     intro t e
     unfold Q5T
     have go:∀ k i acc,Zl s a k i acc = .tok t e → t = ⟨3,t.text,0,Int.ofNat a⟩:=by
      intro k
      induction k with
      | zero=>intro i acc h; cases h
      | succ k ih =>
       intro i acc h
       unfold Zl at h
       split at h
       ·cases h
       ·split at h
        ·cases h
        ·split at h
         ·exact ih _ _ h
         ·split at h
          ·exact ih _ _ h
          ·split at h
           ·cases h
           ·cases h; rfl
     exact go _ _ _
    cases ho:Q5T s a with
    | bad p=>simp only [Q8R,e10,Q1]; rfl
    | tok t e =>
     simp only [Q8R,e00,Q0]
     rw [hk t e ho]; rfl
   | false =>
    simp only [Bool.false_eq_true,if_false]
    simp only [Q4 (n:=n),J1,Zg,Q0,YV,hc,Q3,kl,kd,h1,h2,b39,h3,QoD (show 1 ≤ n by omega)]
    have hm:marks.length = 20:=rfl
    have:=Qhj hs (n:=n) (q:=q) ha marks 0 n rfl (by omega) (by omega)
    rw [Ql6] at this
    exact this
end
end Go.Proofs.YtfdcjngclelnhaaGreat
namespace Go.Proofs.YtfdcjngclelnhaaGreat
open Go
set_option maxRecDepth 100000
set_option maxHeartbeats 2000000
section
variable {s:List UInt8} (hs:s.length ≤ 20000) {n a:Nat}
def vS (s:List UInt8) (T:List Tok) (i:Nat) (y:D):Q1S:=match T with
 | []=>.l0 s (Int.ofNat i)
 | x :: l=>.l2 s ((x :: l).map Tok.d) (Int.ofNat i) y (x :: l).length
def vC (s:List UInt8) (T:List Tok) (i:Nat) (y:D):Q1S:=match T with
 | []=>.l1 s (Int.ofNat i)
 | x :: l=>.l3 s ((x :: l).map Tok.d) (Int.ofNat i) y (x :: l).length
theorem Qou {c:UInt8} {j:Nat} {X Y:Prop}:cnd (c.toNat == 45) (cnd (decide (Int.ofNat (j + 1) < Int.ofNat s.length)) (cnd (decide (Int.ofNat (j + 1) < 0)) False (bn (s[j + 1]?) fun x=>cnd (x.toNat == 45) X Y)) Y) Y = if (c.toNat == 45 && s[j + 1]? == some 45) = true then X else Y:=by
 cases c.toNat == 45 with
 | false=>rfl
 | true =>
  rw [Q1,Bool.true_and,ltN,Zg,Q0]
  rcases Nat.lt_or_ge (j + 1) s.length with h | h
  ·rw [decide_eq_true h,Q1,List.getElem?_eq_getElem h,Q3,show ((s[j + 1]).toNat == 45) = (s[j + 1] == 45) from (J2 (by decide)).symm]
   by_cases hx:s[j + 1] = 45
   ·rw [hx]; rfl
   ·have e1:(s[j + 1] == 45) = false:=by simpa using hx
    have e2:(some s[j + 1] == some 45) = false:=by simpa using hx
    rw [e1,e2]; rfl
  ·rw [decide_eq_false (by omega),Q0,List.getElem?_eq_none h]; rfl
include hs
theorem Qsy {q:D × Int × Int → Prop} {T:List Tok} {y:D}:∀ k i,i + k = s.length → ∀ n',loopN (QK (Q8 n) q) (n' + (QD (fun n=>n != 10) s k i - i) + 1) (vC s T i y) = loopN (QK (Q8 n) q) n' (vS s T (QD (fun n=>n != 10) s k i) y):=by
 intro k
 induction k with
 | zero =>
  intro i hi n'
  have e:decide (i < s.length) = false:=by simp; omega
  rw [QD,Nat.sub_self,Nat.add_zero]
  cases T <;> simp only [vC,vS,Q4,QK,ltN,e,Q0]
 | succ k ih =>
  intro i hi n'
  have hlt:i < s.length:=by omega
  have hc:s[i]? = some s[i]:=List.getElem?_eq_getElem hlt
  have hge:=JH (p:=fun n=>n != 10) (s:=s) k (i + 1)
  have h0:=ih (i + 1) (by omega) n'
  rw [QD,hc]
  try dsimp only
  cases hp:(s[i]).toNat != 10 with
  | true =>
   simp only [if_true]
   rw [← h0,show QD (fun n=>n != 10) s k (i + 1) - i = (QD (fun n=>n != 10) s k (i + 1) - (i + 1)) + 1 by omega,← Nat.add_assoc]
   cases T <;> simp only [vC,Q4 (n:=n' + (QD (fun n=>n != 10) s k (i + 1) - (i + 1)) + 1),QK,ltN,decide_eq_true hlt,Q1,Zg,Q0,YV,hc,Q3,Q53,hp,QL (show i ≤ 200000 by omega)]
  | false =>
   simp only [Bool.false_eq_true,if_false,Nat.sub_self,Nat.add_zero]
   cases T <;> simp only [vC,vS,Q4,QK,ltN,decide_eq_true hlt,Q1,Zg,Q0,YV,hc,Q3,Q53,hp]
def Qsx (s:List UInt8) (j:Nat):Prop:=∀ c,s[j]? = some c → Q0g c.toNat = false ∧ (c.toNat == 45 && s[j + 1]? == some 45) = false
theorem QrX {q:D × Int × Int → Prop} {T:List Tok} {y:D} (hn:1 ≤ n):∀ m i k,s.length - i ≤ m → s.length - i ≤ k → i ≤ s.length →
  Qsx s (Y4 s k i) ∧ ∃ d,d ≤ 3 * (Y4 s k i - i) ∧ ∀ n',loopN (QK (Q8 n) q) (n' + d) (vS s T i y) = loopN (QK (Q8 n) q) n' (vS s T (Y4 s k i) y):=by
 intro m
 induction m using Nat.strongRecOn with
 | ind m IH =>
  intro i k hm hk hi
  rcases Nat.lt_or_ge i s.length with h | h
  ·obtain ⟨k,rfl⟩:∃ z,k = z + 1:=⟨k - 1,by omega⟩
   have hc:s[i]? = some s[i]:=List.getElem?_eq_getElem h
   have kb:=Qfo (n:=n) (m:=(s[i]).toNat) hn
   have ew:=QL (show i ≤ 200000 by omega)
   rw [Y4,hc]
   try dsimp only
   cases hb:Q0g (s[i]).toNat with
   | true =>
    simp only [if_true]
    obtain ⟨g1,d,g2,g3⟩:=IH (m - 1) (by omega) (i + 1) k (by omega) (by omega) (by omega)
    have hge:=Q0s (s:=s) k (i + 1)
    refine ⟨g1,d + 1,by omega,fun n'=>?_⟩
    rw [← g3 n',← Nat.add_assoc]
    cases T <;> simp only [vS,Q4 (n:=n' + d),QK,ltN,decide_eq_true h,Q1,Zg,Q0,YV,hc,Q3,kb,hb,ew]
   | false =>
    simp only [Bool.false_eq_true,if_false]
    cases h2:((s[i]).toNat == 45 && s[i + 1]? == some 45) with
    | true =>
     simp only [if_true]
     have hge:i + 1 ≤ nlE s i:=by
      unfold nlE
      rw [show s.length - i = (s.length - i - 1) + 1 by omega,QD,hc]
      have:(s[i]).toNat = 45:=eq_of_beq (Bool.and_eq_true_iff.1 h2).1
      simp only [this,bne,show ((45:Nat) == 10) = false from rfl,Bool.not_false,if_true]
      exact JH _ _
     have hle:nlE s i ≤ s.length:=Z4 _ _ hi
     obtain ⟨g1,d,g2,g3⟩:=IH (m - (nlE s i - i)) (by omega) (nlE s i) k (by omega) (by omega) hle
     have hge2:=Q0s (s:=s) k (nlE s i)
     refine ⟨g1,d + (nlE s i - i) + 1 + 1,by omega,fun n'=>?_⟩
     have hcm:=Qsy hs (n:=n) (q:=q) (T:=T) (y:=y) (s.length - i) i (by omega) (n' + d)
     rw [← g3 n']
     refine Eq.trans ?_ hcm
     rw [show n' + (d + (nlE s i - i) + 1 + 1) = (n' + d + (QD (fun n=>n != 10) s (s.length - i) i - i) + 1) + 1 by unfold nlE; omega]
     cases T <;> simp only [vS,vC,Q4 (n:=n' + d + (QD (fun n=>n != 10) s (s.length - i) i - i) + 1),QK,ltN i,decide_eq_true h,Q1,Zg i,Q0,YV,hc,Q3,kb,hb,ew,Q1k,Qou,h2,if_true]
    | false =>
     simp only [Bool.false_eq_true,if_false]
     refine ⟨fun c hc'=>?_,0,by omega,fun n'=>rfl⟩
     rw [hc] at hc'
     cases hc'
     exact ⟨hb,h2⟩
  ·rw [Q2l hs h]
   refine ⟨fun c hc=>?_,0,by omega,fun n'=>rfl⟩
   rw [List.getElem?_eq_none h] at hc
   cases hc
theorem QhC (hn:40400 ≤ n) {q:D × Int × Int → Prop}:∀ f i T y n',s.length + 1 ≤ i + f → i ≤ s.length → T.length ≤ 6000 → 4 * (s.length - i) + 4 ≤ n' →
  loopN (QK (Q8 n) q) n' (vS s T i y) = q (ZN (Q08 s f i T)):=by
 intro f
 induction f with
 | zero=>intro i T y n' h1 h2; omega
 | succ f ih =>
  intro i T y n' h1 h2 hT hn'
  obtain ⟨hstop,d,hd,hl⟩:=QrX hs (n:=n) (q:=q) (T:=T) (y:=y) (by omega) (s.length - i) i (s.length - i) (Nat.le_refl _) (Nat.le_refl _) h2
  have hge:=Q0s (s:=s) (s.length - i) i
  have hle:=Q1Y (s:=s) (s.length - i) i h2
  rw [Q08]
  try dsimp only
  generalize Y4 s (s.length - i) i = j at hstop hd hl hge hle ⊢
  obtain ⟨n1,rfl⟩:∃ n1,n' = n1 + 1 + d:=⟨n' - d - 1,by omega⟩
  rw [hl (n1 + 1)]
  have e10:((10:Int) != 0) = true:=rfl
  have e0:((0:Int) != 0) = false:=rfl
  have ge6:∀ m:Nat,decide (Int.ofNat m ≥ 6000) = decide (6000 ≤ m):=fun m=>geL m 6000
  have hroom:∀ l:List Tok,l.length < 6000 → roomOk (l.length + 1) 40 = true:=fun l hl=>ZK (by omega) (by decide)
  by_cases hj:s.length ≤ j
  ·have hj':j = s.length:=by omega
   subst hj'
   rw [if_pos (Nat.le_refl _)]
   by_cases h6:6000 ≤ T.length
   ·rw [if_pos h6]
    cases T with
    | nil=>simp at h6
    | cons x l=>simp only [vS,Q4,QK,HC,Q0,List.length_map,ge6,decide_eq_true h6,Q1,ZN]
   ·rw [if_neg h6]
    cases T with
    | nil =>
     simp only [vS,Q4,QK,HC,Q0]
     rfl
    | cons x l =>
     have hr:=hroom (x :: l) (by omega)
     simp only [vS,Q4,QK,HC,Q0,List.length_map,ge6,decide_eq_false h6,beq_self_eq_true,Q5,hr]
     simp only [ZN,tD,List.map_append,List.map_cons,List.map_nil,Tok.d]
  ·rw [if_neg hj]
   have hjl:j < s.length:=by omega
   have hc:s[j]? = some s[j]:=List.getElem?_eq_getElem hjl
   obtain ⟨hb,h2'⟩:=hstop _ hc
   have kb:=Qfo (n:=n) (m:=(s[j]).toNat) (by omega)
   have ew:=QL (show j ≤ 200000 by omega)
   have hone:=QrL hs (n:=n) (by omega) hjl
   have h2f:¬ (((s[j]).toNat == 45 && s[j + 1]? == some 45) = true):=by rw [h2']; decide
   have zok:okG 107 Qru = true:=JG (t:=⟨0,[],0,0⟩)
   cases ho:Q7C s j with
   | bad p =>
    rw [ho] at hone
    try dsimp only
    cases T <;> simp only [vS,Q4,QK,ltN j,decide_eq_true hjl,Q1,Zg j,Q0,YV,hc,Q3,kb,hb,ew,Q1k,hone,Qlk,zok,Q5,e10,Qou,if_neg h2f,ZN]
   | tok t e =>
    rw [ho] at hone
    obtain ⟨g1,g2,g3⟩:=Q3s hjl ho
    try dsimp only
    by_cases h6:6000 ≤ T.length
    ·rw [if_pos h6]
     cases T with
     | nil=>simp at h6
     | cons x l=>simp only [vS,Q4,QK,ltN j,decide_eq_true hjl,Q1,Zg j,Q0,YV,hc,Q3,kb,hb,ew,Q1k,hone,Qlk,JG,Q5,e0,List.length_map,ge6,decide_eq_true h6,Qou,if_neg h2f,ZN]
    ·rw [if_neg h6]
     have h0:=fun y'=>ih e (T ++ [t]) y' n1 (by omega) g2 (by simp; omega) (by omega)
     cases T with
     | nil =>
      rw [← h0 t.d]
      simp only [vS,Q4,QK,ltN j,decide_eq_true hjl,Q1,Zg j,Q0,YV,hc,Q3,kb,hb,ew,Q1k,hone,Qlk,JG,Q5,e0,Qou,if_neg h2f,Qy JG]
      rfl
     | cons x l =>
      rw [← h0 y]
      have hr:roomOk (l.length + 1 + 1) 40 = true:=hroom (x :: l) (by omega)
      have h6':decide (6000 ≤ l.length + 1) = false:=decide_eq_false h6
      simp only [vS,Q4,QK,ltN j,decide_eq_true hjl,Q1,Zg j,Q0,YV,hc,Q3,kb,hb,ew,Q1k,hone,Qlk,JG,Q5,e0,List.length_map,ge6,h6',beq_self_eq_true,hr,Qou,if_neg h2f,Qy JG,List.cons_append,List.map_append,List.map_cons,List.map_nil,List.length_cons,List.length_append,List.length_nil]
end
theorem Qqu {n:Nat} (hn:80500 ≤ n) {s:List UInt8}:(Q8 n).k_Scan s = some (ZN (Zk s)):=by
 obtain ⟨n,rfl,hp⟩:=QJ hn
 refine Q6 QbT fun q=>?_
 have eg:decide (Int.ofNat s.length > 20000) = decide (20000 < s.length):=gtL _ 20000
 unfold Zk
 by_cases h:s.length > 20000
 ·rw [if_pos h]
  simp only [Q4,QK,eg,decide_eq_true h,Q1]
  rfl
 ·rw [if_neg h]
  simp only [Q4 (n:=n),QK,eg,decide_eq_false h,Q0]
  exact QhC (by omega) (n:=n) (by omega) (q:=q) (s.length + 1) 0 [] .nils n (by omega) (by omega) (by simp) (by omega)
end Go.Proofs.YtfdcjngclelnhaaGreat
namespace Go.Proofs.YtfdcjngclelnhaaGreat
open Go
set_option maxHeartbeats 1000000
end Go.Proofs.YtfdcjngclelnhaaGreat
namespace Go.Proofs.YtfdcjngclelnhaaGreat
open Go
set_option maxHeartbeats 1000000
def zS:D:=SC.d ⟨[],[],[],[],[],0⟩
def Q4A (T:List Tok):Nat → Out D:=HO isW T (Qj isW T T.length) T.length 1
theorem QoZ {n:Nat} (hn:2500000 ≤ n) {s:List UInt8}:(Q8 n).s_readS s 1 = some (Q2K zS Q4A (Zk s)):=by
 obtain ⟨n,rfl,hp⟩:=QJ (show 2499999 + 1 ≤ n by omega)
 refine Q6 QlQ fun q=>?_
 simp only [Q4,s_readS_st,Qqy (show 40400 ≤ n by omega),Q3]
 cases h:Zk s with
 | bad p e =>
  simp only [ZN,Q2y (Qfm h),Q1]
  rfl
 | ok T =>
  have hT:=Q6X h
  have hl:=hT.len
  have h0:0 < T.length:=hT.ends.1
  obtain ⟨n,rfl,hp⟩:=QJ (show 2499998 + 1 ≤ n by omega)
  obtain ⟨⟨v,st⟩,ho,m,hs,hi,hg,hm⟩:=Qmc hT ⟨by omega,by omega⟩ (QqV hT T.length (by omega)) (n:=n) (d:=1) (by omega) (by omega) ⟨h0,by omega⟩
  dsimp only at hs hg hm
  subst hs
  have h1:(Q8 (n + 1)).s_Schema1 (B105.mk (tD T) 0 1 0 0) = some (v,bS T 1 m):=by
   refine Q6 QP fun q=>?_
   have ho':(Q8 n).s_schema (B105.mk (tD T) 0 1 0 0) = some (v,bS T 1 m):=ho
   simp only [Q4,s_Schema1_st,ho',Q3,show okG 58 v = true from hg,Q5,Qf4 hg,Qy hg]
  have hfl:(tD T).flat = true:=rfl
  simp only [ZN,d00,Q0,hfl,Q5,h1,Q3,show okG 58 v = true from hg,Qf4 hg,Qy hg,Q2K,Q2w,Q4A]
  cases m with
  | ok i =>
   have hnow:=Q0H hT (n:=n + 1) (by omega) hi.1 (d:=Int.ofNat 1) (a:=0) (e:=0)
   have hfail:=Q0J hT (n:=n + 1) (by omega) hi.1 (d:=Int.ofNat 1) (x:=10)
   cases hr:HO isW T (Qj isW T T.length) T.length 1 0 with
   | err a e=>simp only [Mix.sp,hr] at hm; obtain ⟨_,_,hm⟩:=hm; cases hm
   | ok w j =>
    simp only [Mix.sp,hr] at hm
    obtain ⟨hm1,rfl⟩:=hm
    cases hm1
    simp only [bS,hnow,Q3,JG,Q5,ZY,Out.bind]
    by_cases hk:(tk T i).kind = 0
    ·simp only [hk,d00,Qq8,Q0,if_true,QdB]
    ·simp only [Q2y hk,Q1j hk,Q1,hfail,Q3,d10,Bool.false_eq_true,if_false,Q1l,QdB]
     rfl
  | er i d a e =>
   have hnow:=Q0H hT (n:=n + 1) (by omega) hi.1 (d:=d) (a:=a) (e:=e)
   have hfail:=Q2g (n:=n + 1) (by omega) (t:=tD T) (i:=Int.ofNat i) (d:=d) (a:=a) (x:=10) hi.2
   cases hr:HO isW T (Qj isW T T.length) T.length 1 0 with
   | ok w j=>simp only [Mix.sp,hr] at hm; cases hm.1
   | err a' e' =>
    simp only [Mix.sp,hr] at hm
    obtain ⟨_,_,hm1⟩:=hm
    cases hm1
    simp only [bS,hnow,Q3,JG,Q5,ZY,Out.bind,hfail,Q2y hi.2,Q1,Q9m,QdB]
    rfl
theorem Qcg {s:List UInt8}:QaF (Q2K zS Q4A (Zk s)).1:=by
 have hz:QaF zS:=⟨_,rfl,⟨.nil,.nil,.nil,.nil,.nil⟩⟩
 cases h:Zk s with
 | bad p e=>exact hz
 | ok T =>
  have hl:=(Q6X h).len
  show QaF (QdB zS (Q2w T (Q4A T))).1
  cases hr:Q2w T (Q4A T) with
  | err a e=>exact hz
  | ok v i =>
   unfold Q2w at hr
   cases hx:Q4A T 0 with
   | ok w j =>
    rw [hx] at hr
    simp only [Out.bind] at hr
    split at hr
    ·cases hr; exact Qo8 (by omega) 1 _ _ _ hx
    ·cases hr
   | err a b=>rw [hx] at hr; cases hr
theorem Qkd {n:Nat} (hn:2500001 ≤ n) {s:List UInt8}:(Q8 n).S_Schema s = some (Q2K zS Q4A (Zk s)):=by
 obtain ⟨n,rfl,hp⟩:=QJ (show 2500000 + 1 ≤ n by omega)
 refine Q6 Qbv fun q=>?_
 have hg:okG 58 (Q2K zS Q4A (Zk s)).1 = true:=Qn4 Qcg
 simp only [Q4,S_Schema_st,QoZ hp,Q3,hg,Q5,Qf4 hg,Qy hg]
theorem Qqp {n:Nat} (hn:100000 ≤ n) {s:List UInt8}:(Q8 n).r_New s 1 = some ⟨(ZN (Zk s)).1,0,1,(ZN (Zk s)).2.1,(ZN (Zk s)).2.2⟩:=by
 obtain ⟨n,rfl,hp⟩:=QJ (show 99999 + 1 ≤ n by omega)
 refine Q6 QkJ fun q=>?_
 have hfl:(ZN (Zk s)).1.flat = true:=by cases Zk s <;> rfl
 simp only [Q4,Q6K,Qqu (show 80500 ≤ n by omega),Q3,hfl,Q5]
theorem QjI {n:Nat} (hn:2500001 ≤ n) {s:List UInt8}:(Q8 n).r_Schema s = some (Q2K zS Q4A (Zk s)):=by
 obtain ⟨n,rfl,hp⟩:=QJ (show 2500000 + 1 ≤ n by omega)
 refine Q6 Qbv fun q=>?_
 simp only [Q4,r_Schema_st,Qqp (show 100000 ≤ n by omega),Q3]
 cases h:Zk s with
 | bad p e =>
  simp only [ZN,Q2y (Qfm h),Q1]
  rfl
 | ok T =>
  have hT:=Q6X h
  have hl:=hT.len
  have h0:0 < T.length:=hT.ends.1
  obtain ⟨⟨v,st⟩,ho,m,hs,hi,hg,hm⟩:=QkO hT ⟨by omega,by omega⟩ (Qr2 hT T.length (by omega)) (n:=n) (d:=1) (by omega) (by omega) ⟨h0,by omega⟩
  dsimp only at hs hg hm
  subst hs
  have ho':(Q8 n).p_Schema (B74.mk (tD T) 0 1 0 0) = some (v,bP T 1 m):=ho
  simp only [ZN,d00,Q0,ho',Q3,show okG 58 v = true from hg,Q5,Qf4 hg,Qy hg,Q2K,Q2w,Q4A]
  obtain ⟨n,rfl,hp2⟩:=QJ (show 2499999 + 1 ≤ n by omega)
  cases m with
  | ok i =>
   have hbad:=Q1G hT (n:=n) (by omega) hi.1 (d:=Int.ofNat 1) (x:=10)
   cases hr:HO isW T (Qj isW T T.length) T.length 1 0 with
   | err a e=>simp only [Mix.sp,hr] at hm; obtain ⟨_,_,hm⟩:=hm; cases hm
   | ok w j =>
    simp only [Mix.sp,hr] at hm
    obtain ⟨hm1,rfl⟩:=hm
    cases hm1
    by_cases hk:(tk T i).kind = 0
    ·have hend:(Q8 (n + 1)).p_End (bP T 1 (.ok i)) = some (0,0,bP T 1 (.ok i)):=Q6 Q4Z fun q=>by
      simp only [Q4,Q20,bP,Ya,Q3,Yj hi.1,JG,Q5,ZY,hk,d00,Qq8,Q0,Q1]
     simp only [hend,Q3,d00,Qq8,Q0,hk,Out.bind,if_true,QdB]
    ·have hend:(Q8 (n + 1)).p_End (bP T 1 (.ok i)) = some ((tk T i).at_,10,⟨tD T,Int.ofNat i,Int.ofNat 1,(tk T i).at_,10⟩):=Q6 Q4Z fun q=>by
      simp only [Q4,Q20,bP,Ya,Q3,Yj hi.1,JG,Q5,ZY,Q2y hk,d00,Qq8,Q0,Q1,hbad,QsD]
     simp only [hend,Q3,d10,Q1,Q1j hk,Out.bind,Bool.false_eq_true,if_false,Q1l,QdB]
     rfl
  | er i d a e =>
   have hend:(Q8 (n + 1)).p_End (bP T 1 (.er i d a e)) = some (a,e,bP T 1 (.er i d a e)):=Q6 Q4Z fun q=>by
    simp only [Q4,Q20,bP,Q1j hi.2,Q0]
   cases hr:HO isW T (Qj isW T T.length) T.length 1 0 with
   | ok w j=>simp only [Mix.sp,hr] at hm; cases hm.1
   | err a' e' =>
    simp only [Mix.sp,hr] at hm
    obtain ⟨_,_,hm1⟩:=hm
    cases hm1
    simp only [hend,Q3,Q2y hi.2,Q1,Out.bind,QdB]
    rfl
end Go.Proofs.YtfdcjngclelnhaaGreat
