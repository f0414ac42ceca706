/- Part of a proof. -/
import Derived.Test.YtfdcjngclelnhaaGreatL3
import Derived.Test.YtfdcjngclelnhaaGreatL6
set_option linter.unusedSectionVars false
set_option linter.unusedSimpArgs false
set_option linter.unusedVariables false
namespace Go.Proofs.YtfdcjngclelnhaaGreat
open Go
def QN (n:Nat):Bool:=decide (48 ≤ n) && decide (n ≤ 57)
def ZL (n:Nat):Bool:=Y9 n || QN n
def Q0g (n:Nat):Bool:=n == 32 || (n == 9 || (n == 10 || n == 13))
def QD (p:Nat → Bool) (s:List UInt8):Nat → Nat → Nat
 | 0,i=>i
 | k + 1,i=>match s[i]? with
  | some c=>if p c.toNat then QD p s k (i + 1) else i
  | none=>i
def sl (s:List UInt8) (a e:Nat):List UInt8:=List.take (e - a) (List.drop a s)
inductive TR where
 | tok (t:Tok) (e:Nat)
 | bad (p:Nat)
def Qbm (s:List UInt8) (a:Nat):TR :=
 let e:=QD ZL s (s.length - a) a
 if e - a > 30 then .bad a else .tok ⟨1,sl s a e,0,Int.ofNat a⟩ e
def Hu (l:List UInt8):Nat:=l.foldl (fun n c=>10 * n + (c.toNat - 48)) 0
def Qlv (s:List UInt8) (a:Nat):TR :=
 let e:=QD QN s (s.length - a) a
 if e - a > 18 then .bad a else .tok ⟨2,sl s a e,Int.ofNat (Hu (sl s a e)),Int.ofNat a⟩ e
def Zl (s:List UInt8) (a:Nat):Nat → Nat → List UInt8 → TR
 | 0,_,_=>.bad a
 | k + 1,i,acc=>match s[i]? with
  | none=>.bad a
  | some c=>if decide (c.toNat < 32) && c.toNat != 10 then .bad i
   else if c.toNat != 39 then Zl s a k (i + 1) (acc ++ [c])
   else if s[i + 1]? = some 39 then Zl s a k (i + 2) (acc ++ [39])
   else if acc.length > 1000 then .bad a else .tok ⟨3,acc,0,Int.ofNat a⟩ (i + 1)
def Q5T (s:List UInt8) (a:Nat):TR:=Zl s a (s.length - a) (a + 1) []
def Qec (c:UInt8):Bool:=[40,41,44,59,46,42,43,45,47,37,61,123,125,58].contains c
def HN (l:List UInt8):Nat :=
 match l with
 | []=>0
 | c :: _ =>
  if c = 124 then (if [124,124].isPrefixOf l then 2 else 0)
  else if c = 60 then (if [60,62].isPrefixOf l then 2 else if l[1]? = some 61 then 2 else 1)
  else if c = 62 then (if l[1]? = some 61 then 2 else 1)
  else if Qec c then 1 else 0
def Qe9 (s:List UInt8) (a:Nat):TR:=if HN (s.drop a) = 0 then .bad a else .tok ⟨4,sl s a (a + HN (s.drop a)),0,Int.ofNat a⟩ (a + HN (s.drop a))
def Q7C (s:List UInt8) (a:Nat):TR:=match s[a]? with
 | none=>.bad a
 | some c=>if Y9 c.toNat then Qbm s a else if QN c.toNat then Qlv s a else if c.toNat == 39 then Q5T s a else Qe9 s a
def nlE (s:List UInt8) (i:Nat):Nat:=QD (fun n=>n != 10) s (s.length - i) i
def Y4 (s:List UInt8):Nat → Nat → Nat
 | 0,i=>i
 | k + 1,i=>match s[i]? with
  | none=>i
  | some c=>if Q0g c.toNat then Y4 s k (i + 1) else if c.toNat == 45 && s[i + 1]? == some 45 then Y4 s k (nlE s i) else i
inductive SR where
 | ok (T:List Tok)
 | bad (p:Nat) (e:Int)
def Q08 (s:List UInt8):Nat → Nat → List Tok → SR
 | 0,i,_=>.bad i 10
 | k + 1,i,T =>
  let j:=Y4 s (s.length - i) i
  if s.length ≤ j then (if 6000 ≤ T.length then .bad s.length 8 else .ok (T ++ [⟨0,[],0,Int.ofNat s.length⟩]))
  else match Q7C s j with
   | .bad p=>.bad p 10
   | .tok t e=>if 6000 ≤ T.length then .bad j 8 else Q08 s k e (T ++ [t])
def Zk (s:List UInt8):SR:=if s.length > 20000 then .bad 0 8 else Q08 s (s.length + 1) 0 []
theorem JH {p:Nat → Bool} {s:List UInt8}:∀ k i,i ≤ QD p s k i
 | 0,i=>Nat.le_refl _
 | k + 1,i=>by
  unfold QD
  split
  ·split
   ·exact Nat.le_trans (Nat.le_succ i) (JH k (i + 1))
   ·exact Nat.le_refl _
  ·exact Nat.le_refl _
theorem Z4 {p:Nat → Bool} {s:List UInt8}:∀ k i,i ≤ s.length → QD p s k i ≤ s.length
 | 0,i,h=>h
 | k + 1,i,h=>by
  unfold QD
  split
  ·rename_i c hc
   have hi:i < s.length:=by
    rcases Nat.lt_or_ge i s.length with h | h
    ·exact h
    ·rw [List.getElem?_eq_none h] at hc; cases hc
   split
   ·exact Z4 k (i + 1) hi
   ·exact h
  ·exact h
theorem Qb6 {p:Nat → Bool} {s:List UInt8}:∀ k i j,i ≤ j → j < QD p s k i → ∃ c,s[j]? = some c ∧ p c.toNat = true
 | 0,i,j,h1,h2=>by unfold QD at h2; omega
 | k + 1,i,j,h1,h2=>by
  unfold QD at h2
  split at h2
  ·rename_i c hc
   split at h2
   ·rename_i hp
    rcases Nat.eq_or_lt_of_le h1 with rfl | h
    ·exact ⟨c,hc,hp⟩
    ·exact Qb6 k (i + 1) j h h2
   ·omega
  ·omega
theorem QfQ {s:List UInt8} {a e:Nat} (h1:a ≤ e) (h2:e ≤ s.length):(sl s a e).length = e - a:=by
 unfold sl; simp; omega
theorem Qnv {s:List UInt8} {a e i:Nat} (h:i < e - a):(sl s a e)[i]? = s[a + i]?:=by
 unfold sl
 rw [List.getElem?_take_of_lt h,List.getElem?_drop]
theorem Q3s {s:List UInt8} {a:Nat} (ha:a < s.length) {t:Tok} {e:Nat} (h:Q7C s a = .tok t e):a < e ∧ e ≤ s.length ∧ t.at_ = Int.ofNat a:=by
 obtain ⟨c,hc⟩:∃ c,s[a]? = some c:=⟨s[a],List.getElem?_eq_getElem ha⟩
 have hk:s.length - a = (s.length - a - 1) + 1:=by omega
 unfold Q7C at h
 rw [hc] at h
 dsimp only at h
 split at h
 ·rename_i hl
  unfold Qbm at h
  dsimp only at h
  split at h
  ·cases h
  ·cases h
   refine ⟨?_,Z4 _ _ (by omega),rfl⟩
   rw [hk,QD,hc]
   simp only [ZL,hl,Bool.true_or,if_true]
   exact JH _ _
 ·split at h
  ·rename_i hd
   unfold Qlv at h
   dsimp only at h
   split at h
   ·cases h
   ·cases h
    refine ⟨?_,Z4 _ _ (by omega),rfl⟩
    rw [hk,QD,hc]
    simp only [hd,if_true]
    exact JH _ _
  ·split at h
   ·have go:∀ k i acc,i ≥ a + 1 → Zl s a k i acc = .tok t e → a < e ∧ e ≤ s.length ∧ t.at_ = Int.ofNat a:=by
     intro k
     induction k with
     | zero=>intro i acc _ h; cases h
     | succ k ih =>
      intro i acc hi h
      unfold Zl at h
      split at h
      ·cases h
      ·rename_i c' hc'
       have hil:i < s.length:=by
        rcases Nat.lt_or_ge i s.length with h | h
        ·exact h
        ·rw [List.getElem?_eq_none h] at hc'; cases hc'
       split at h
       ·cases h
       ·split at h
        ·exact ih _ _ (by omega) h
        ·split at h
         ·exact ih _ _ (by omega) h
         ·split at h
          ·cases h
          ·cases h; exact ⟨by omega,by omega,rfl⟩
    exact go _ _ _ (Nat.le_refl _) h
   ·unfold Qe9 at h
    split at h
    ·cases h
    ·rename_i hm
     cases h
     have hle:HN (s.drop a) ≤ s.length - a:=by
      have hd:s.drop a = c :: s.drop (a + 1):=by rw [List.drop_eq_getElem_cons ha]; rw [List.getElem?_eq_getElem ha] at hc; cases hc; rfl
      have hlen:(s.drop a).length = s.length - a:=by simp
      have two:∀ {x y:UInt8},[x,y].isPrefixOf (s.drop a) = true → 2 ≤ s.length - a:=fun {x y} hp=>by
       have:=(List.isPrefixOf_iff_prefix.1 hp).length_le
       rw [hlen] at this; simpa using this
      have nx:(s.drop a)[1]? = some 61 → 2 ≤ s.length - a:=fun hx=>by
       rcases Nat.lt_or_ge 1 (s.drop a).length with g | g
       ·rw [hlen] at g; omega
       ·rw [List.getElem?_eq_none g] at hx; cases hx
      rw [hd] at two nx ⊢
      unfold HN
      repeat' split
      all_goals first | exact two (by assumption) | exact nx (by assumption) | omega
     exact ⟨by omega,by omega,rfl⟩
theorem Q0s {s:List UInt8}:∀ k i,i ≤ Y4 s k i
 | 0,i=>Nat.le_refl _
 | k + 1,i=>by
  unfold Y4
  split
  ·exact Nat.le_refl _
  ·split
   ·exact Nat.le_trans (Nat.le_succ i) (Q0s k (i + 1))
   ·split
    ·exact Nat.le_trans (JH _ _) (Q0s k _)
    ·exact Nat.le_refl _
theorem Q1Y {s:List UInt8}:∀ k i,i ≤ s.length → Y4 s k i ≤ s.length
 | 0,i,h=>h
 | k + 1,i,h=>by
  unfold Y4
  split
  ·exact h
  ·rename_i c hc
   have hi:i < s.length:=by
    rcases Nat.lt_or_ge i s.length with h | h
    ·exact h
    ·rw [List.getElem?_eq_none h] at hc; cases hc
   split
   ·exact Q1Y k (i + 1) hi
   ·split
    ·exact Q1Y k _ (Z4 _ _ h)
    ·exact h
end Go.Proofs.YtfdcjngclelnhaaGreat
namespace Go.Proofs.YtfdcjngclelnhaaGreat
open Go
def el:Nat → Option Nat
 | 1=>some 0 | 3=>some 2 | 5=>some 4 | 6=>some 8 | 7=>some 9 | _=>none
inductive W:Nat → D → Prop where
 | ex {a n:Int} {s t:List UInt8} {k q:D}:W 1 k → W 3 q → W 0 (ex a n s t k q)
 | qu {k:Int} {d:Bool} {a b c e f g:D} {l:Int} {h:D}:W 6 a → W 5 b → W 1 c → W 1 e → W 1 f → W 7 g → W 3 h → W 2 (qu k d a b c e f g l h)
 | frm {k:Int} {t:List UInt8} {v:Bool} {a:List UInt8} {q l o:D}:W 3 q → W 5 l → W 1 o → W 4 (frm k t v a q l o)
 | itm {x:D} {s:List UInt8}:W 0 x → W 8 (itm x s)
 | ky {x:D} {s:Bool}:W 0 x → W 9 (ky x s)
 | nils {k e:Nat}:el k = some e → W k .nils
 | sl {k e:Nat} {l:List D}:el k = some e → l.length ≤ 400000 → (∀ x ∈ l,W e x) → W k (.slice l)
def Ev (p:Nat → Prop):Prop:=∃ N,∀ n,N ≤ n → p n
theorem Ev.and {p q:Nat → Prop}:Ev p → Ev q → Ev fun n=>p n ∧ q n
 | ⟨N,h⟩,⟨M,g⟩=>⟨max N M,fun n hn=>⟨h n (by omega),g n (by omega)⟩⟩
theorem Ev.all {p:Nat → D → Prop}:∀ {l:List D},(∀ x ∈ l,Ev fun n=>p n x) → Ev fun n=>∀ x ∈ l,p n x
 | [],_=>⟨0,fun _ _ x hx=>by cases hx⟩
 | y :: l,h=>by
  obtain ⟨N,g⟩:=h y (by simp)
  obtain ⟨M,g2⟩:=Ev.all (l:=l) fun x hx=>h x (by simp [hx])
  refine ⟨max N M,fun n hn x hx=>?_⟩
  rcases List.mem_cons.1 hx with rfl | hx
  ·exact g n (by omega)
  ·exact g2 n (by omega) x hx
theorem Ev.step {p q:Nat → Prop} (h:∀ n,p n → q (n + 1)):Ev p → Ev q
 | ⟨N,g⟩=>⟨N + 1,fun n hn=>by obtain ⟨m,rfl,hm⟩:=QJ hn; exact h m (g m hm)⟩
theorem Ev.big (k:Nat):Ev fun n=>k ≤ n:=⟨k,fun _ h=>h⟩
theorem Hj {F:Nat → Int → Prop} {len:Nat} {p:Prop} (h1:∀ n i,i < len → F (n + 1) (Int.ofNat i) = F n (Int.ofNat (i + 1))) (h2:∀ n,F (n + 1) (Int.ofNat len) = p):∀ k i n,i + k = len → k + 1 ≤ n → F n (Int.ofNat i) = p
 | 0,i,n,hi,hn=>by
  obtain ⟨n,rfl,_⟩:=QJ hn
  have:i = len:=by omega
  subst this
  exact h2 n
 | k + 1,i,n,hi,hn=>by
  obtain ⟨n,rfl,hp⟩:=QJ hn
  rw [h1 n i (by omega)]
  exact Hj h1 h2 k (i + 1) n (by omega) hp
theorem H0 {l:List D} {i:Nat} (h:i < l.length):atD l (Int.ofNat i) = some l[i]:=by
 unfold atD
 rw [if_neg (by simp)]
 show l[i]? = _
 rw [List.getElem?_eq_getElem h]
theorem Q0M {i n:Nat} (h:i < n):decide (Int.ofNat i < Int.ofNat n) = true:=by simpa using h
theorem HC {n:Nat}:decide (Int.ofNat n < Int.ofNat n) = false:=by simp
theorem Q0P {n:Int}:(n != n) = false:=by simp
theorem Y6 {i n:Nat} (h:i < n) (hn:n ≤ 9223372036854775807):IntKind.i64.wrap (Int.ofNat i + 1) = Int.ofNat (i + 1):=by rw [QQ (by simp; omega) (by simp; omega)]; rfl
def Q4t (n:Nat) (x:D):Prop:=(Q8 n).r_SameExpr x x = some true
def YS (n:Nat) (x:D):Prop:=(Q8 n).r_SameExprs x x = some true
def Qpp (n:Nat) (x:D):Prop:=(Q8 n).r_SameQuery x x = some true
def Q1P (n:Nat) (x:D):Prop:=(Q8 n).r_SameQueries x x = some true
def Q32 (n:Nat) (x:D):Prop:=(Q8 n).r_SameFroms x x = some true
theorem QiN {x:D} (h:JB x) {s:List UInt8}:G 26 (itm x s) = x:=by
 obtain ⟨a,n,u,t,k,q,rfl,h1,h2⟩:=Q3u h
 show D.agg (expC (ctys Tryz.prog 8 26) _ 0) = _
 rw [Qgs]; rfl
theorem QoA {x:D} (h:JB x) {s:Bool}:G 26 (ky x s) = x:=by
 obtain ⟨a,n,u,t,k,q,rfl,h1,h2⟩:=Q3u h
 show D.agg (expC (ctys Tryz.prog 8 26) _ 0) = _
 rw [Qgs]; rfl
def Qsk:Nat → D → Prop
 | 0,x=>JB x ∧ Ev fun n=>Q4t n x
 | 1,x=>x.flat = true ∧ Ev fun n=>YS n x
 | 2,x=>YJ x ∧ Ev fun n=>Qpp n x
 | 3,x=>x.flat = true ∧ Ev fun n=>Q1P n x
 | 4,x=>okF x ∧ Ev fun n=>Q1P n (cel x 4) ∧ Q32 n (cel x 5) ∧ YS n (cel x 6)
 | 5,x=>x.flat = true ∧ Ev fun n=>Q32 n x
 | 6,x=>x.flat = true ∧ ∃ l,asL x = some l ∧ l.length ≤ 9223372036854775807 ∧ ∀ y ∈ l,okI y ∧ JB (G 26 y) ∧ Ev fun n=>Q4t n (G 26 y)
 | 7,x=>x.flat = true ∧ ∃ l,asL x = some l ∧ l.length ≤ 9223372036854775807 ∧ ∀ y ∈ l,okY y ∧ JB (G 26 y) ∧ Ev fun n=>Q4t n (G 26 y)
 | 8,y=>okI y ∧ JB (G 26 y) ∧ Ev fun n=>Q4t n (G 26 y)
 | 9,y=>okY y ∧ JB (G 26 y) ∧ Ev fun n=>Q4t n (G 26 y)
 | _,_=>True
theorem QbA {x:D} {l:List D} (hx:asL x = some l) (hl:l.length ≤ 9223372036854775807) (h:∀ y ∈ l,JB y ∧ Ev fun n=>Q4t n y):Ev fun n=>YS n x:=by
 refine Ev.step (fun n hn=>?_) ((Ev.all fun y hy=>(h y hy).2).and (Ev.big (l.length + 1)))
 obtain ⟨hs,hb⟩:=hn
 refine Q6 Q0m fun q=>?_
 simp only [Q4,Jr,hx,Q3,Q0P,Q0]
 refine Hj (F:=fun n i=>loopN (Jr (Q8 _) q) n (.l0 x x i)) (len:=l.length) (fun n' i hi=>?_) (fun n'=>?_) l.length 0 n (by omega) hb
 ·have hy:=h l[i] (List.getElem_mem _)
  have h26:okG 26 l[i] = true:=hy.1
  have hse:(Q8 n).r_SameExpr l[i] l[i] = some true:=hs l[i] (List.getElem_mem _)
  simp only [Q4,Jr,hx,Q3,Q0M hi,Q1,H0 hi,h26,Q5,Qy h26,hse,Bool.not_true,Q0,Y6 hi hl]
 ·simp only [Q4,Jr,hx,Q3,HC,Q0]
theorem Qbj {x:D} {l:List D} (hx:asL x = some l) (hl:l.length ≤ 9223372036854775807) (h:∀ y ∈ l,YJ y ∧ Ev fun n=>Qpp n y):Ev fun n=>Q1P n x:=by
 refine Ev.step (fun n hn=>?_) ((Ev.all fun y hy=>(h y hy).2).and (Ev.big (l.length + 1)))
 obtain ⟨hs,hb⟩:=hn
 refine Q6 Q0m fun q=>?_
 simp only [Q4,J3,hx,Q3,Q0P,Q0]
 refine Hj (F:=fun n i=>loopN (J3 (Q8 _) q) n (.l0 x x i)) (len:=l.length) (fun n' i hi=>?_) (fun n'=>?_) l.length 0 n (by omega) hb
 ·have hy:=h l[i] (List.getElem_mem _)
  have h38:okG 38 l[i] = true:=hy.1
  have hse:(Q8 n).r_SameQuery l[i] l[i] = some true:=hs l[i] (List.getElem_mem _)
  simp only [Q4,J3,hx,Q3,Q0M hi,Q1,H0 hi,h38,Q5,Qy h38,hse,Bool.not_true,Q0,Y6 hi hl]
 ·simp only [Q4,J3,hx,Q3,HC,Q0]
theorem Qbu {x:D} {l:List D} (hx:asL x = some l) (hl:l.length ≤ 9223372036854775807) (h:∀ y ∈ l,okF y ∧ Ev fun n=>Q1P n (cel y 4) ∧ Q32 n (cel y 5) ∧ YS n (cel y 6)):Ev fun n=>Q32 n x:=by
 refine Ev.step (fun n hn=>?_) ((Ev.all fun y hy=>(h y hy).2).and (Ev.big (l.length + 1)))
 obtain ⟨hs,hb⟩:=hn
 refine Q6 Q0m fun q=>?_
 simp only [Q4,Jv,hx,Q3,Q0P,Q0]
 refine Hj (F:=fun n i=>loopN (Jv (Q8 _) q) n (.l0 x x i)) (len:=l.length) (fun n' i hi=>?_) (fun n'=>?_) l.length 0 n (by omega) hb
 ·have hy:=h l[i] (List.getElem_mem _)
  have h65:okG 65 l[i] = true:=hy.1
  obtain ⟨g1,g2,g3⟩:=hs l[i] (List.getElem_mem _)
  unfold Q1P at g1
  unfold Q32 at g2
  unfold YS at g3
  simp only [Q4,Jv,hx,Q3,Q0M hi,Q1,H0 hi,h65,Q5,Q8p h65,Q0P,beq_self_eq_true,g1,g2,g3,Bool.not_true,Q0,Y6 hi hl]
 ·simp only [Q4,Jv,hx,Q3,HC,Q0]
theorem QmA {a n:Int} {s t:List UInt8} {k q:D} (hk:Ev fun n=>YS n k) (hq:Ev fun n=>Q1P n q):Ev fun m=>Q4t m (ex a n s t k q):=by
 refine Ev.step (fun m hm=>?_) (hk.and hq)
 obtain ⟨h1,h2⟩:=hm
 refine Q6 Q4K fun q'=>?_
 have e1:(Q8 m).r_SameExprs (cel (ex a n s t k q) 4) (cel (ex a n s t k q) 4) = some true:=h1
 have e2:(Q8 m).r_SameQueries (cel (ex a n s t k q) 5) (cel (ex a n s t k q) 5) = some true:=h2
 simp only [Q4,HW,beq_self_eq_true,Q1,e1,e2,Q3]
theorem QnN {x items order:D} {li lo:List D} (h2:cel x 2 = items) (h7:cel x 7 = order) (hi:asL items = some li) (ho:asL order = some lo) (hli:li.length ≤ 9223372036854775807) (hlo:lo.length ≤ 9223372036854775807)
  (gi:∀ y ∈ li,okI y ∧ JB (G 26 y) ∧ Ev fun n=>Q4t n (G 26 y)) (go:∀ y ∈ lo,okY y ∧ JB (G 26 y) ∧ Ev fun n=>Q4t n (G 26 y))
  (h3:Ev fun n=>Q32 n (cel x 3)) (h4:Ev fun n=>YS n (cel x 4)) (h5:Ev fun n=>YS n (cel x 5)) (h6:Ev fun n=>YS n (cel x 6)) (h9:Ev fun n=>Q1P n (cel x 9)):Ev fun m=>Qpp m x:=by
 refine Ev.step (fun n hn=>?_) ((Ev.all fun y hy=>(gi y hy).2.2).and ((Ev.all fun y hy=>(go y hy).2.2).and (h3.and (h4.and (h5.and (h6.and (h9.and (Ev.big (li.length + lo.length + 5)))))))))
 obtain ⟨si,so,e3,e4,e5,e6,e9,hb⟩:=hn
 unfold Q32 at e3
 unfold YS at e4 e5 e6
 unfold Q1P at e9
 refine Q6 Q4K fun q=>?_
 simp only [Q4,QO,Q0P,beq_self_eq_true,Bool.not_true,Q0,h2,h7,hi,ho,Q3]
 have two:∀ n',lo.length + 1 ≤ n' → loopN (QO (Q8 n) q) n' (.l1 0 x x) = q true:=fun n' hn'=>by
  refine Hj (F:=fun n' i=>loopN (QO (Q8 n) q) n' (.l1 i x x)) (len:=lo.length) (fun n' i hh=>?_) (fun n'=>?_) lo.length 0 n' (by omega) hn'
  ·have hy:=go lo[i] (List.getElem_mem _)
   have h85:okG 85 lo[i] = true:=hy.1
   have h26:okG 26 (G 26 lo[i]) = true:=hy.2.1
   have hse:(Q8 n).r_SameExpr (G 26 lo[i]) (G 26 lo[i]) = some true:=so lo[i] (List.getElem_mem _)
   simp only [Q4,QO,h7,ho,Q3,Q0M hh,Q1,H0 hh,h85,Q5,beq_self_eq_true,h26,hse,Bool.not_true,Q0,Y6 hh hlo]
  ·simp only [Q4,QO,h7,ho,Q3,HC,Q0,e3,e4,e5,e6,e9,Q1]
 have one:∀ k i n',i + k = li.length → k + 1 + (lo.length + 1) ≤ n' → loopN (QO (Q8 n) q) n' (.l0 (Int.ofNat i) x x) = q true:=by
  intro k
  induction k with
  | zero =>
   intro i n' hik hn'
   obtain ⟨n',rfl⟩:∃ z,n' = z + 1:=⟨n' - 1,by omega⟩
   have:i = li.length:=by omega
   subst this
   simp only [Q4,QO,h2,hi,Q3,HC,Q0]
   exact two n' (by omega)
  | succ k ih =>
   intro i n' hik hn'
   obtain ⟨n',rfl⟩:∃ z,n' = z + 1:=⟨n' - 1,by omega⟩
   have hh:i < li.length:=by omega
   have hy:=gi li[i] (List.getElem_mem _)
   have h83:okG 83 li[i] = true:=hy.1
   have h26:okG 26 (G 26 li[i]) = true:=hy.2.1
   have hse:(Q8 n).r_SameExpr (G 26 li[i]) (G 26 li[i]) = some true:=si li[i] (List.getElem_mem _)
   simp only [Q4,QO,h2,hi,Q3,Q0M hh,Q1,H0 hh,h83,Q5,beq_self_eq_true,h26,hse,Bool.not_true,Q0,Y6 hh hli]
   exact ih (i + 1) n' (by omega) (by omega)
 exact one li.length 0 n (by omega) (by omega)
end Go.Proofs.YtfdcjngclelnhaaGreat
namespace Go.Proofs.YtfdcjngclelnhaaGreat
open Go
theorem geL (m k:Nat):decide (Int.ofNat m ≥ (no_index (OfNat.ofNat k):Int)) = decide (k ≤ m):=decide_eq_decide.2 (by show (Int.ofNat k ≤ Int.ofNat m) ↔ _; simp)
theorem gtL (m k:Nat):decide (Int.ofNat m > (no_index (OfNat.ofNat k):Int)) = decide (k < m):=decide_eq_decide.2 (by show (Int.ofNat k < Int.ofNat m) ↔ _; simp)
theorem leL (m k:Nat):decide (Int.ofNat m ≤ (no_index (OfNat.ofNat k):Int)) = decide (m ≤ k):=decide_eq_decide.2 (by show (Int.ofNat m ≤ Int.ofNat k) ↔ _; simp)
theorem ltL (m k:Nat):decide (Int.ofNat m < (no_index (OfNat.ofNat k):Int)) = decide (m < k):=decide_eq_decide.2 (by show (Int.ofNat m < Int.ofNat k) ↔ _; simp)
theorem Q1k (m k:Nat):(Int.ofNat m == (no_index (OfNat.ofNat k):Int)) = (m == k):=by
 rw [Bool.eq_iff_iff,beq_iff_eq,beq_iff_eq]
 exact ⟨fun h=>Int.ofNat.inj h,fun h=>congrArg Int.ofNat h⟩
theorem Q53 (m k:Nat):(Int.ofNat m != (no_index (OfNat.ofNat k):Int)) = (m != k):=by
 unfold bne; rw [Q1k]
theorem ltN (m k:Nat):decide (Int.ofNat m < Int.ofNat k) = decide (m < k):=decide_eq_decide.2 (by simp)
theorem leN (m k:Nat):decide (Int.ofNat m ≤ Int.ofNat k) = decide (m ≤ k):=decide_eq_decide.2 (by simp)
theorem Qsr (m k:Nat):(Int.ofNat m == Int.ofNat k) = (m == k):=by
 rw [Bool.eq_iff_iff,beq_iff_eq,beq_iff_eq]
 exact ⟨fun h=>Int.ofNat.inj h,fun h=>congrArg Int.ofNat h⟩
theorem Zg (m:Nat):decide (Int.ofNat m < 0) = false:=by simp
theorem ltZ (m:Nat):decide (m < 0) = false:=by simp
theorem Q2z (m:Nat):decide (0 ≤ Int.ofNat m) = true:=by simp
theorem YV (m:Nat):(Int.ofNat m).toNat = m:=rfl
theorem ZI {n m:Nat} (hn:1 ≤ n):(Q8 n).t_letter (Int.ofNat m) = some (Y9 m):=by
 obtain ⟨n,rfl,hp⟩:=QJ hn
 refine Q6 Hb fun q=>?_
 simp only [Q4,Q22,geL,leL,Q1k,Y9]
 cases decide (97 ≤ m) <;> cases decide (m ≤ 122) <;> cases decide (65 ≤ m) <;> cases decide (m ≤ 90) <;> rfl
theorem Y8 {n m:Nat} (hn:1 ≤ n):(Q8 n).t_digit (Int.ofNat m) = some (QN m):=by
 obtain ⟨n,rfl,hp⟩:=QJ hn
 refine Q6 Hb fun q=>?_
 simp only [Q4,Q36,geL,leL,QN]
 cases decide (48 ≤ m) <;> rfl
theorem Qfv {n m:Nat} (hn:2 ≤ n):(Q8 n).t_name1 (Int.ofNat m) = some (ZL m):=by
 obtain ⟨n,rfl,hp⟩:=QJ hn
 refine Q6 Hb fun q=>?_
 simp only [Q4,Q3k,ZI (show 1 ≤ n by omega),Y8 (show 1 ≤ n by omega),Q3,ZL]
 cases Y9 m <;> rfl
def gcT:List Tok → Nat → GC
 | [],_=>.n
 | t :: l,w=>.o ((t :: l).map Tok.d) w
def rd (s:List UInt8) (a:Nat) (T:List Tok) (v w:Nat):B132:=⟨s,Int.ofNat a,gcT T w,v⟩
theorem QiW {T:List Tok} {t:Tok} {w:Nat}:gcT (T ++ [t]) w = .o (T.map Tok.d ++ [t.d]) w:=by
 cases T with
 | nil=>rfl
 | cons x l=>show GC.o ((x :: (l ++ [t])).map Tok.d) w = _; simp
theorem Qmo {n:Nat} (hn:1 ≤ n) {s:List UInt8} {a:Nat} {T:List Tok} {v w:Nat} {t:Tok} (hT:T.length < 6000):(Q8 n).t_put (rd s a T v w) t.d = some (0,rd s a (T ++ [t]) (v + 1) v):=by
 obtain ⟨n,rfl,hp⟩:=QJ hn
 cases T with
 | nil =>
  refine Q6 Q4O fun q=>?_
  simp only [Q4,Q0p,rd,Qy JG]
  rfl
 | cons x l =>
  refine Q6 Q4O fun q=>?_
  have e1:((l.length + 1) == 6000) = false:=by
   rw [List.length_cons] at hT
   cases h:(l.length + 1) == 6000 with
   | false=>rfl
   | true=>have:=eq_of_beq h; omega
  have e2:w.beq w = true:=Nat.beq_refl _
  have e3:∀ m:Nat,m.beq m = true:=Nat.beq_refl
  have e4:=ZK (show (l.length + 1) + 1 ≤ 1000000 by rw [List.length_cons] at hT; omega) (show 40 ≤ 1000 by decide)
  have e5:sized 4 ((x :: l).map Tok.d) = true:=rfl
  have e6:((x :: l).map Tok.d).isEmpty = false:=rfl
  have e7:((x :: l).map Tok.d).length = l.length + 1:=by simp
  have e8:(((x :: l).map Tok.d) ++ [t.d]).length = l.length + 1 + 1:=by simp
  simp only [Q4,Q0p,rd,gcT,e7,Q1k,e1,Q0,e2,e3,Q5,e6,e5,e4,Qy JG,e8]
  show q (0,B132.mk s (Int.ofNat a) (GC.o (List.map Tok.d (x :: l) ++ [t.d]) v) (v + 1)) = q (0,B132.mk s (Int.ofNat a) (gcT ((x :: l) ++ [t]) v) (v + 1))
  rw [QiW]
theorem Qnz {n:Nat} (hn:1 ≤ n) {s:List UInt8} {a p:Nat} {T:List Tok} {v w:Nat} {t:Tok} (hT:T.length = 6000) (ht:t.at_ = Int.ofNat p):(Q8 n).t_put (rd s a T v w) t.d = some (8,rd s p T (v + 1) w):=by
 obtain ⟨n,rfl,hp⟩:=QJ hn
 cases T with
 | nil=>simp at hT
 | cons x l =>
  refine Q6 Q4O fun q=>?_
  have e7:((x :: l).map Tok.d).length = 6000:=by rw [List.length_map]; exact hT
  have e1:(Int.ofNat 6000 == (6000:Int)) = true:=rfl
  simp only [Q4,Q0p,rd,gcT,e7,e1,Q1,Qjb,ht]
theorem Q2s {n:Nat} (hn:1 ≤ n) {s:List UInt8} {a p:Nat} {T:List Tok} {v w:Nat}:(Q8 n).t_form (rd s a T v w) (Int.ofNat p) = some (10,rd s p T (v + 1) w):=by
 obtain ⟨n,rfl,hp⟩:=QJ hn
 cases T with
 | nil=>exact Q6 QbO fun q=>rfl
 | cons x l=>exact Q6 QbO fun q=>rfl
def Hv (a:Nat) (T:List Tok):TR → Int × Nat × List Tok
 | .bad p=>(10,p,T)
 | .tok t e=>if T.length < 6000 then (0,e,T ++ [t]) else (8,a,T)
def Q6j (C:Option (Int × B132)) (s:List UInt8) (a:Nat) (T:List Tok) (o:TR):Prop:=∃ v' w',C = some ((Hv a T o).1,rd s (Hv a T o).2.1 (Hv a T o).2.2 v' w')
theorem Qdu {n:Nat} (hn:1 ≤ n) {s:List UInt8} {a e:Nat} {T:List Tok} {v w:Nat} {t:Tok} (hT:T.length ≤ 6000) (ht:t.at_ = Int.ofNat a):Q6j ((Q8 n).t_put (rd s e T v w) t.d) s a T (.tok t e):=by
 have ho:Hv a T (.tok t e) = if T.length < 6000 then (0,e,T ++ [t]) else (8,a,T):=rfl
 unfold Q6j
 rw [ho]
 by_cases h:T.length < 6000
 ·rw [if_pos h]; exact ⟨_,_,Qmo hn h⟩
 ·rw [if_neg h]; exact ⟨_,_,Qnz hn (by omega) ht⟩
theorem QqG {s:List UInt8} {a:Nat} {T:List Tok} {v w:Nat} {q:Int × B132 → Prop} {c:Int} :
  gcas (rd s a T v w).c2 (q (c,(⟨(rd s a T v w).c0,(rd s a T v w).c1,.n,(rd s a T v w).ver⟩:B132))) False (fun es u=>q (c,(⟨(rd s a T v w).c0,(rd s a T v w).c1,(.o es u),(rd s a T v w).ver⟩:B132))) = q (c,rd s a T v w):=by
 cases T <;> rfl
theorem JC {C:Option (Int × B132)} {s:List UInt8} {a:Nat} {T:List Tok} {o:TR} (h:Q6j C s a T o):∃ v' w',∀ q:Int × B132 → Prop,
  (bn C fun x=>gcas x.2.c2 (q (x.1,(⟨x.2.c0,x.2.c1,.n,x.2.ver⟩:B132))) False fun es u=>q (x.1,(⟨x.2.c0,x.2.c1,(.o es u),x.2.ver⟩:B132))) = q ((Hv a T o).1,rd s (Hv a T o).2.1 (Hv a T o).2.2 v' w'):=by
 obtain ⟨v',w',e⟩:=h
 exact ⟨v',w',fun q=>by rw [e,Q3]; exact QqG⟩
theorem Q41 {F:Nat → Int → Nat → Prop} {fin:Int → Nat → Prop} {is:Int → Option Bool} {p:Nat → Bool} {s:List UInt8} (hs:s.length ≤ 200000) (his:∀ m:Nat,is (Int.ofNat m) = some (p m))
  (hF:∀ n i ver,F (n + 1) i ver = cnd (decide (i < Int.ofNat s.length)) (cnd (decide (i < 0)) False (bn (s[i.toNat]?) fun x=>bn (is (Int.ofNat x.toNat)) fun b=>cnd b (F n (IntKind.i64.wrap (i + 1)) (ver + 1)) (fin i ver))) (fin i ver)) :
  ∀ k i n ver,i + k = s.length → k + 1 ≤ n → F n (Int.ofNat i) ver = fin (Int.ofNat (QD p s k i)) (ver + (QD p s k i - i)):=by
 intro k
 induction k with
 | zero =>
  intro i n ver hi hn
  obtain ⟨n,rfl,_⟩:=QJ hn
  have e:decide (i < s.length) = false:=by simp <;> omega
  rw [hF,ltN,e,Q0]
  simp only [QD,Nat.sub_self,Nat.add_zero]
 | succ k ih =>
  intro i n ver hi hn
  obtain ⟨n,rfl,hp⟩:=QJ hn
  have hlt:i < s.length:=by omega
  have e:decide (i < s.length) = true:=by simpa using hlt
  rw [hF,ltN,e,Q1,Zg,Q0,YV,List.getElem?_eq_getElem hlt,Q3,his,Q3,QL (show i ≤ 200000 by omega)]
  cases hpc:p (s[i]).toNat with
  | true =>
   rw [Q1,ih (i + 1) n (ver + 1) (by omega) hp]
   have e2:QD p s (k + 1) i = QD p s k (i + 1):=by rw [QD,List.getElem?_eq_getElem hlt]; simp only [hpc,if_true]
   have hge:=JH (p:=p) (s:=s) k (i + 1)
   rw [e2,show ver + 1 + (QD p s k (i + 1) - (i + 1)) = ver + (QD p s k (i + 1) - i) by omega]
  | false =>
   have e2:QD p s (k + 1) i = i:=by rw [QD,List.getElem?_eq_getElem hlt]; simp only [hpc,Bool.false_eq_true,if_false]
   rw [Q0,e2,Nat.sub_self,Nat.add_zero]
section
variable {s:List UInt8} (hs:s.length ≤ 20000) {n a:Nat} {T:List Tok} {v w:Nat}
include hs
theorem QeL (hn:20100 ≤ n) (ha:a ≤ s.length):(Q8 n).t_run_name (rd s a T v w) = some (sl s a (QD ZL s (s.length - a) a),rd s (QD ZL s (s.length - a) a) T (v + (QD ZL s (s.length - a) a - a)) w):=by
 obtain ⟨n,rfl,hp⟩:=QJ hn
 have hge:=JH (p:=ZL) (s:=s) (s.length - a) a
 have hle:=Z4 (p:=ZL) (s:=s) (s.length - a) a ha
 have e1:=decide_eq_true hge
 have e2:=decide_eq_true hle
 cases T with
 | nil =>
  refine Q6 Q2p fun q=>?_
  show loopN (Jq (Q8 n) q) n (.l0 (Int.ofNat a) s (Int.ofNat a) v) = _
  rw [Q41 (F:=fun n' i ver=>loopN (Jq (Q8 n) q) n' (.l0 (Int.ofNat a) s i ver)) (p:=ZL) (s:=s) (by omega) (fun m=>Qfv (n:=n) (by omega)) (fun n' i ver=>rfl) (s.length - a) a n v (by omega) (by omega)]
  simp only [Q2z,leN,YV,e1,e2,Bool.and_self,Q5]
  rfl
 | cons x l =>
  refine Q6 Q2p fun q=>?_
  show loopN (Jq (Q8 n) q) n (.l1 (Int.ofNat a) s (Int.ofNat a) w ((x :: l).map Tok.d) v) = _
  rw [Q41 (F:=fun n' i ver=>loopN (Jq (Q8 n) q) n' (.l1 (Int.ofNat a) s i w ((x :: l).map Tok.d) ver)) (p:=ZL) (s:=s) (by omega) (fun m=>Qfv (n:=n) (by omega)) (fun n' i ver=>rfl) (s.length - a) a n v (by omega) (by omega)]
  simp only [Q2z,leN,YV,e1,e2,Bool.and_self,Q5]
  rfl
theorem Qcb (hn:20100 ≤ n) (ha:a ≤ s.length):(Q8 n).t_run_digit (rd s a T v w) = some (sl s a (QD QN s (s.length - a) a),rd s (QD QN s (s.length - a) a) T (v + (QD QN s (s.length - a) a - a)) w):=by
 obtain ⟨n,rfl,hp⟩:=QJ hn
 have hge:=JH (p:=QN) (s:=s) (s.length - a) a
 have hle:=Z4 (p:=QN) (s:=s) (s.length - a) a ha
 have e1:=decide_eq_true hge
 have e2:=decide_eq_true hle
 cases T with
 | nil =>
  refine Q6 Q2p fun q=>?_
  show loopN (Jc (Q8 n) q) n (.l0 (Int.ofNat a) s (Int.ofNat a) v) = _
  rw [Q41 (F:=fun n' i ver=>loopN (Jc (Q8 n) q) n' (.l0 (Int.ofNat a) s i ver)) (p:=QN) (s:=s) (by omega) (fun m=>Y8 (n:=n) (by omega)) (fun n' i ver=>rfl) (s.length - a) a n v (by omega) (by omega)]
  simp only [Q2z,leN,YV,e1,e2,Bool.and_self,Q5]
  rfl
 | cons x l =>
  refine Q6 Q2p fun q=>?_
  show loopN (Jc (Q8 n) q) n (.l1 (Int.ofNat a) s (Int.ofNat a) w ((x :: l).map Tok.d) v) = _
  rw [Q41 (F:=fun n' i ver=>loopN (Jc (Q8 n) q) n' (.l1 (Int.ofNat a) s i w ((x :: l).map Tok.d) ver)) (p:=QN) (s:=s) (by omega) (fun m=>Y8 (n:=n) (by omega)) (fun n' i ver=>rfl) (s.length - a) a n v (by omega) (by omega)]
  simp only [Q2z,leN,YV,e1,e2,Bool.and_self,Q5]
  rfl
theorem QpF (hn:20101 ≤ n) (ha:a ≤ s.length) (hT:T.length ≤ 6000):Q6j ((Q8 n).t_name (rd s a T v w)) s a T (Qbm s a):=by
 obtain ⟨n,rfl,hp⟩:=QJ hn
 have hrun:=QeL hs (n:=n) (T:=T) (v:=v) (w:=w) hp ha
 have hlen:=QfQ (JH (p:=ZL) (s:=s) (s.length - a) a) (Z4 (p:=ZL) (s:=s) (s.length - a) a ha)
 unfold Qbm
 dsimp only
 generalize QD ZL s (s.length - a) a = e at hrun hlen ⊢
 by_cases h30:e - a > 30
 ·rw [if_pos h30]
  have hf:=Q2s (n:=n) (by omega) (s:=s) (a:=e) (p:=a) (T:=T) (v:=v + (e - a)) (w:=w)
  have hd:decide (30 < (sl s a e).length) = true:=by rw [hlen]; exact decide_eq_true h30
  obtain ⟨v',w',hl⟩:=JC (o:=.bad a) (a:=a) (T:=T) ⟨_,_,hf⟩
  refine ⟨v',w',?_⟩
  cases T with
  | nil =>
   refine Q6 QS fun q=>?_
   rw [← hl q]
   show bn ((Q8 n).t_run_name (rd s a [] v w)) _ = _
   rw [hrun,Q3]
   show cnd (decide (Int.ofNat (sl s a e).length > 30)) _ _ = _
   rw [gtL,hd,Q1]
   rfl
  | cons x l =>
   refine Q6 QS fun q=>?_
   rw [← hl q]
   show bn ((Q8 n).t_run_name (rd s a (x :: l) v w)) _ = _
   rw [hrun,Q3]
   show cnd (decide (Int.ofNat (sl s a e).length > 30)) _ _ = _
   rw [gtL,hd,Q1]
   rfl
 ·rw [if_neg h30]
  have hd:decide (30 < (sl s a e).length) = false:=by rw [hlen]; exact decide_eq_false h30
  obtain ⟨v',w',hl⟩:=JC (Qdu (n:=n) (by omega) (s:=s) (a:=a) (e:=e) (v:=v + (e - a)) (w:=w) (t:=⟨1,sl s a e,0,Int.ofNat a⟩) hT rfl)
  refine ⟨v',w',?_⟩
  cases T with
  | nil =>
   refine Q6 QS fun q=>?_
   rw [← hl q]
   show bn ((Q8 n).t_run_name (rd s a [] v w)) _ = _
   rw [hrun,Q3]
   show cnd (decide (Int.ofNat (sl s a e).length > 30)) _ _ = _
   rw [gtL,hd,Q0]
   rfl
  | cons x l =>
   refine Q6 QS fun q=>?_
   rw [← hl q]
   show bn ((Q8 n).t_run_name (rd s a (x :: l) v w)) _ = _
   rw [hrun,Q3]
   show cnd (decide (Int.ofNat (sl s a e).length > 30)) _ _ = _
   rw [gtL,hd,Q0]
   rfl
end
theorem Q4T (l:List UInt8) (i:Nat) (h:i < l.length):Hu (l.take (i + 1)) = 10 * Hu (l.take i) + (l[i].toNat - 48):=by
 unfold Hu
 rw [List.take_add_one,List.getElem?_eq_getElem h,Option.toList_some,List.foldl_append,List.foldl_cons,List.foldl_nil]
theorem Qiu (l:List UInt8) (hd:∀ c ∈ l,QN c.toNat = true):∀ i:Nat,i ≤ l.length → Hu (l.take i) < 10 ^ i
 | 0,_=>by simp [Hu]
 | i + 1,h=>by
  have ih:=Qiu l hd i (by omega)
  have hc:=hd l[i] (List.getElem_mem _)
  simp only [QN,Bool.and_eq_true,decide_eq_true_eq] at hc
  rw [Q4T l i h,Nat.pow_succ]
  omega
theorem Q2r {l:List UInt8} (hd:∀ c ∈ l,QN c.toNat = true) (hl:l.length ≤ 18) {i:Nat} (hi:i ≤ l.length):Hu (l.take i) < 1000000000000000000:=by
 have h1:=Qiu l hd i hi
 have h2:10 ^ i ≤ 10 ^ 18:=Nat.pow_le_pow_right (by decide) (by omega)
 exact Nat.lt_of_lt_of_le h1 h2
theorem Qna {n:Nat} (h:n < 256):IntKind.u8.wrap (Int.ofNat n) = Int.ofNat n:=by
 simp only [IntKind.wrap,IntKind.bits,IntKind.signed]
 simp
 omega
theorem Qen {F:Nat → Int → Int → Prop} {fin:Int → Prop} {t:List UInt8} (hd:∀ c ∈ t,QN c.toNat = true) (hl:t.length ≤ 18)
  (hF:∀ n y i,F (n + 1) y i = cnd (decide (i < Int.ofNat t.length)) (cnd (decide (i < 0)) False (bn (t[i.toNat]?) fun x=>F n (IntKind.i64.wrap (IntKind.i64.wrap (10 * y) + IntKind.i64.wrap (IntKind.u8.wrap (Int.ofNat x.toNat - 48)))) (IntKind.i64.wrap (i + 1)))) (fin y)) :
  ∀ k i n,i + k = t.length → k + 1 ≤ n → F n (Int.ofNat (Hu (t.take i))) (Int.ofNat i) = fin (Int.ofNat (Hu t)):=by
 intro k
 induction k with
 | zero =>
  intro i n hi hn
  obtain ⟨n,rfl,_⟩:=QJ hn
  have e:decide (i < t.length) = false:=by simp <;> omega
  rw [hF,ltN,e,Q0,List.take_of_length_le (by omega)]
 | succ k ih =>
  intro i n hi hn
  obtain ⟨n,rfl,hp⟩:=QJ hn
  have hlt:i < t.length:=by omega
  have e:decide (i < t.length) = true:=by simpa using hlt
  have hc:=hd t[i] (List.getElem_mem _)
  simp only [QN,Bool.and_eq_true,decide_eq_true_eq] at hc
  have hb:=Q2r hd hl (show i ≤ t.length by omega)
  have hb2:=Q2r hd hl (show i + 1 ≤ t.length by omega)
  have hsucc:=Q4T t i hlt
  have e1:IntKind.u8.wrap (Int.ofNat (t[i]).toNat - 48) = Int.ofNat ((t[i]).toNat - 48):=by
   rw [show Int.ofNat (t[i]).toNat - 48 = Int.ofNat ((t[i]).toNat - 48) by simp <;> omega]
   exact Qna (by omega)
  have e2:IntKind.i64.wrap (Int.ofNat ((t[i]).toNat - 48)) = Int.ofNat ((t[i]).toNat - 48):=QQ (by simp <;> omega) (by simp <;> omega)
  have e3:IntKind.i64.wrap (10 * Int.ofNat (Hu (t.take i))) = Int.ofNat (10 * Hu (t.take i)):=by rw [QQ (by simp <;> omega) (by simp <;> omega)]; simp
  have e4:IntKind.i64.wrap (Int.ofNat (10 * Hu (t.take i)) + Int.ofNat ((t[i]).toNat - 48)) = Int.ofNat (Hu (t.take (i + 1))):=by
   rw [QQ (by simp <;> omega) (by simp <;> omega)]; simp <;> omega
  rw [hF,ltN,e,Q1,Zg,Q0,YV,List.getElem?_eq_getElem hlt,Q3,e1,e2,e3,e4,QL (show i ≤ 200000 by omega)]
  exact ih (i + 1) n (by omega) hp
theorem QbS {s:List UInt8} {a:Nat}:∀ c ∈ sl s a (QD QN s (s.length - a) a),QN c.toNat = true:=fun c hc=>by
 obtain ⟨i,hi⟩:=List.getElem?_of_mem hc
 have hlt:i < QD QN s (s.length - a) a - a:=by
  have:=(List.getElem?_eq_some_iff.1 hi).1
  unfold sl at this
  simp at this
  omega
 rw [Qnv hlt] at hi
 obtain ⟨c',h1,h2⟩:=Qb6 (p:=QN) (s:=s) (s.length - a) a (a + i) (by omega) (by omega)
 rw [hi] at h1
 cases h1
 exact h2
theorem Qlc {s:List UInt8} (hs:s.length ≤ 20000) {n a:Nat} {T:List Tok} {v w:Nat} (hn:20101 ≤ n) (ha:a ≤ s.length) (hT:T.length ≤ 6000):Q6j ((Q8 n).t_number (rd s a T v w)) s a T (Qlv s a):=by
 obtain ⟨n,rfl,hp⟩:=QJ hn
 have hrun:=Qcb hs (n:=n) (T:=T) (v:=v) (w:=w) hp ha
 have hlen:=QfQ (JH (p:=QN) (s:=s) (s.length - a) a) (Z4 (p:=QN) (s:=s) (s.length - a) a ha)
 have hdig:=QbS (s:=s) (a:=a)
 unfold Qlv
 dsimp only
 generalize QD QN s (s.length - a) a = e at hrun hlen hdig ⊢
 by_cases h18:e - a > 18
 ·rw [if_pos h18]
  have hf:=Q2s (n:=n) (by omega) (s:=s) (a:=e) (p:=a) (T:=T) (v:=v + (e - a)) (w:=w)
  have hd:decide (18 < (sl s a e).length) = true:=by rw [hlen]; exact decide_eq_true h18
  obtain ⟨v',w',hl⟩:=JC (o:=.bad a) (a:=a) (T:=T) ⟨_,_,hf⟩
  refine ⟨v',w',?_⟩
  cases T with
  | nil =>
   refine Q6 QS fun q=>?_
   rw [← hl q]
   show bn ((Q8 n).t_run_digit (rd s a [] v w)) _ = _
   rw [hrun,Q3]
   show cnd (decide (Int.ofNat (sl s a e).length > 18)) _ _ = _
   rw [gtL,hd,Q1]
   rfl
  | cons x l =>
   refine Q6 QS fun q=>?_
   rw [← hl q]
   show bn ((Q8 n).t_run_digit (rd s a (x :: l) v w)) _ = _
   rw [hrun,Q3]
   show cnd (decide (Int.ofNat (sl s a e).length > 18)) _ _ = _
   rw [gtL,hd,Q1]
   rfl
 ·rw [if_neg h18]
  have hd:decide (18 < (sl s a e).length) = false:=by rw [hlen]; exact decide_eq_false h18
  obtain ⟨v',w',hl⟩:=JC (Qdu (n:=n) (by omega) (s:=s) (a:=a) (e:=e) (v:=v + (e - a)) (w:=w) (t:=⟨2,sl s a e,Int.ofNat (Hu (sl s a e)),Int.ofNat a⟩) hT rfl)
  refine ⟨v',w',?_⟩
  cases T with
  | nil =>
   refine Q6 QS fun q=>?_
   rw [← hl q]
   show bn ((Q8 n).t_run_digit (rd s a [] v w)) _ = _
   rw [hrun,Q3]
   show cnd (decide (Int.ofNat (sl s a e).length > 18)) _ _ = _
   rw [gtL,hd,Q0]
   exact Qen (F:=fun n' y i=>loopN (Zr (Q8 n) q) n' (.l0 (Int.ofNat a) (sl s a e) y (Int.ofNat (sl s a e).length) i s (Int.ofNat e) (v + (e - a)))) (t:=sl s a e) hdig (by omega) (fun n' y i=>rfl) (sl s a e).length 0 n (by omega) (by omega)
  | cons x l =>
   refine Q6 QS fun q=>?_
   rw [← hl q]
   show bn ((Q8 n).t_run_digit (rd s a (x :: l) v w)) _ = _
   rw [hrun,Q3]
   show cnd (decide (Int.ofNat (sl s a e).length > 18)) _ _ = _
   rw [gtL,hd,Q0]
   exact Qen (F:=fun n' y i=>loopN (Zr (Q8 n) q) n' (.l1 (Int.ofNat a) (sl s a e) y (Int.ofNat (sl s a e).length) i s (Int.ofNat e) w ((x :: l).map Tok.d) (v + (e - a)))) (t:=sl s a e) hdig (by omega) (fun n' y i=>rfl) (sl s a e).length 0 n (by omega) (by omega)
end Go.Proofs.YtfdcjngclelnhaaGreat
