/- Part of a proof. -/
import Derived.Test.YtfdcjngclelnhaaGreatL16
set_option linter.unusedSectionVars false
set_option linter.unusedSimpArgs false
set_option linter.unusedVariables false
namespace Go.Proofs.YtfdcjngclelnhaaGreat
open Go
set_option maxRecDepth 100000
theorem QaY {x y:List UInt8}:y.isPrefixOf x = (decide (y.length ≤ x.length) && (x.take y.length == y)):=by
 rw [Bool.eq_iff_iff,List.isPrefixOf_iff_prefix,Bool.and_eq_true,decide_eq_true_eq,beq_iff_eq,List.prefix_iff_eq_take]
 constructor
 ·intro h
  have h2:(x.take y.length) = y:=h.symm
  refine ⟨?_,h2⟩
  have:=congrArg List.length h2
  simp at this
  omega
 ·exact fun h=>h.2.symm
theorem H2 {n:Nat} (hn:2 ≤ n) {x y:List UInt8}:(Q8 n).g_HasPrefix x y = some (y.isPrefixOf x):=by
 obtain ⟨n,rfl,hp⟩:=QJ hn
 obtain ⟨n,rfl,hp2⟩:=QJ hp
 have h1:(Q8 (n + 1)).g_sHasPrefix x y = some (y.isPrefixOf x):=by
  refine Q6 Qbw fun q=>?_
  have e:decide (Int.ofNat x.length ≥ Int.ofNat y.length) = decide (y.length ≤ x.length):=leN _ _
  simp only [Q4,YO,e,Q2z,leN,YV,Nat.sub_zero,List.drop_zero,Bool.true_and,QaY]
  cases decide (y.length ≤ x.length) <;> rfl
 refine Q6 Qbw fun q=>?_
 simp only [Q4,Ht,h1,Q3]
theorem Qcl {n:Nat} (hn:3 ≤ n) {x:List UInt8} {c:Int}:(Q8 n).g_IndexByte x c = some (idxByte c.toNat.toUInt8 x 0):=by
 obtain ⟨n,rfl,hp⟩:=QJ hn
 obtain ⟨n,rfl,hp2⟩:=QJ hp
 obtain ⟨n,rfl,hp3⟩:=QJ hp2
 have h0:(Q8 (n + 1)).g_IBS x c = some (idxByte c.toNat.toUInt8 x 0):=rfl
 have h1:(Q8 (n + 1 + 1)).g_sIndexByte x c = some (idxByte c.toNat.toUInt8 x 0):=by
  refine Q6 QbP fun q=>?_
  simp only [Q4,YM,h0,Q3]
 refine Q6 QbP fun q=>?_
 simp only [Q4,Hr,h1,Q3]
theorem Q5q (c:UInt8):(c.toNat).toUInt8 = c:=UInt8.ofNat_toNat
theorem J2 {c:UInt8} {k:Nat} (hk:k < 256):(c == UInt8.ofNat k) = (c.toNat == k):=by
 rw [Bool.eq_iff_iff,beq_iff_eq,beq_iff_eq]
 constructor
 ·rintro rfl; simp; omega
 ·intro h; rw [← h]; exact UInt8.ofNat_toNat.symm
theorem Q3r {c:UInt8} {k:Nat} (hk:k < 256):(UInt8.ofNat k == c) = (c.toNat == k):=by
 rw [← J2 hk,Bool.eq_iff_iff,beq_iff_eq,beq_iff_eq]; exact eq_comm
theorem QkV {c:UInt8}:decide (idxByte c [32,9,10,13] 0 ≥ 0) = Q0g c.toNat:=by
 have h1:((32:UInt8) == c) = (c.toNat == 32):=Q3r (by decide)
 have h2:((9:UInt8) == c) = (c.toNat == 9):=Q3r (by decide)
 have h3:((10:UInt8) == c) = (c.toNat == 10):=Q3r (by decide)
 have h4:((13:UInt8) == c) = (c.toNat == 13):=Q3r (by decide)
 unfold Q0g
 simp only [idxByte,h1,h2,h3,h4]
 cases c.toNat == 32 <;> cases c.toNat == 9 <;> cases c.toNat == 10 <;> cases c.toNat == 13 <;> rfl
theorem QnA {s:List UInt8}:∀ k i m,i + k = s.length → idxByte 10 (s.drop i) m = if QD (fun n=>n != 10) s k i < s.length then Int.ofNat (m + (QD (fun n=>n != 10) s k i - i)) else -1
 | 0,i,m,h=>by
  rw [List.drop_of_length_le (by omega),QD,if_neg (by omega)]; rfl
 | k + 1,i,m,h=>by
  have hi:i < s.length:=by omega
  have hb:(s[i] == 10) = ((s[i]).toNat == 10):=J2 (by decide)
  rw [List.drop_eq_getElem_cons hi,idxByte,QD,List.getElem?_eq_getElem hi,hb]
  dsimp only
  cases hc:(s[i]).toNat == 10 with
  | true =>
   have:((s[i]).toNat != 10) = false:=by unfold bne; rw [hc]; rfl
   simp only [this,if_true,Bool.false_eq_true,if_false]
   rw [if_pos hi,Nat.sub_self,Nat.add_zero]; rfl
  | false =>
   have:((s[i]).toNat != 10) = true:=by unfold bne; rw [hc]; rfl
   simp only [this,if_true,Bool.false_eq_true,if_false]
   rw [QnA k (i + 1) (m + 1) (by omega)]
   have hge:=JH (p:=fun n=>n != 10) (s:=s) k (i + 1)
   by_cases hlt:QD (fun n=>n != 10) s k (i + 1) < s.length
   ·rw [if_pos hlt,if_pos hlt]
    congr 1
    omega
   ·rw [if_neg hlt,if_neg hlt]
theorem drop_take {s:List UInt8} {a:Nat}:List.take (s.length - a) (List.drop a s) = s.drop a:=List.take_of_length_le (by simp)
theorem Qn8 {s:List UInt8} {i:Nat} {c x y:UInt8} (hc:s[i]? = some c):[x,y].isPrefixOf (s.drop i) = (c == x && s[i + 1]? == some y):=by
 have hi:i < s.length:=by
  rcases Nat.lt_or_ge i s.length with h | h
  ·exact h
  ·rw [List.getElem?_eq_none h] at hc; cases hc
 have hci:s[i] = c:=by rw [List.getElem?_eq_getElem hi] at hc; exact Option.some.inj hc
 rw [List.drop_eq_getElem_cons hi,hci]
 have e1:(x == c) = (c == x):=by rw [Bool.eq_iff_iff,beq_iff_eq,beq_iff_eq]; exact eq_comm
 rcases Nat.lt_or_ge (i + 1) s.length with h | h
 ·have e2:(y == s[i + 1]) = (s[i + 1]? == some y):=by
   rw [List.getElem?_eq_getElem h,Bool.eq_iff_iff,beq_iff_eq,beq_iff_eq]
   exact ⟨fun h=>congrArg some h.symm,fun h=>(Option.some.inj h).symm⟩
  rw [List.drop_eq_getElem_cons h]
  simp only [List.isPrefixOf,e1,e2,Bool.and_true]
 ·rw [List.drop_of_length_le h,List.getElem?_eq_none h]
  simp [List.isPrefixOf]
section
variable {s:List UInt8} (hs:s.length ≤ 20000) {n a:Nat} {T:List Tok} {v w:Nat}
include hs
theorem Q5e {n i k ver:Nat} (hn:3 ≤ n) (hi:i ≤ s.length) (hk:s.length - i ≤ k) {L J:Int → Nat → Prop} {E:Int → Nat → Prop} :
  cnd (decide (Int.ofNat i < Int.ofNat s.length)) (cnd (decide (Int.ofNat i < 0)) False (bn (s[(Int.ofNat i).toNat]?) fun x12=>bn ((Q8 n).g_IndexByte [32,9,10,13] (Int.ofNat x12.toNat)) fun x13=>cnd (decide (x13 ≥ 0)) (L (IntKind.i64.wrap (Int.ofNat i + 1)) (ver + 1)) (an (decide (0 ≤ Int.ofNat i) && decide (Int.ofNat i ≤ Int.ofNat s.length)) (bn ((Q8 n).g_HasPrefix (List.take (s.length - (Int.ofNat i).toNat) (List.drop (Int.ofNat i).toNat s)) [45,45]) fun x14=>cnd (!x14) (E (Int.ofNat i) ver) (an (decide (0 ≤ Int.ofNat i) && decide (Int.ofNat i ≤ Int.ofNat s.length)) (bn ((Q8 n).g_IndexByte (List.take (s.length - (Int.ofNat i).toNat) (List.drop (Int.ofNat i).toNat s)) 10) fun x15=>cnd (decide (x15 ≥ 0)) (J (IntKind.i64.wrap (Int.ofNat i + x15)) (ver + 1)) (E (Int.ofNat s.length) (ver + 1)))))))) (an (decide (0 ≤ Int.ofNat i) && decide (Int.ofNat i ≤ Int.ofNat s.length)) (bn ((Q8 n).g_HasPrefix (List.take (s.length - (Int.ofNat i).toNat) (List.drop (Int.ofNat i).toNat s)) [45,45]) fun x16=>cnd (!x16) (E (Int.ofNat i) ver) (an (decide (0 ≤ Int.ofNat i) && decide (Int.ofNat i ≤ Int.ofNat s.length)) (bn ((Q8 n).g_IndexByte (List.take (s.length - (Int.ofNat i).toNat) (List.drop (Int.ofNat i).toNat s)) 10) fun x17=>cnd (decide (x17 ≥ 0)) (J (IntKind.i64.wrap (Int.ofNat i + x17)) (ver + 1)) (E (Int.ofNat s.length) (ver + 1)))))) =
  match s[i]? with
  | none=>E (Int.ofNat i) ver
  | some c=>if Q0g c.toNat then L (Int.ofNat (i + 1)) (ver + 1) else if c.toNat == 45 && s[i + 1]? == some 45 then (if nlE s i < s.length then J (Int.ofNat (nlE s i)) (ver + 1) else E (Int.ofNat s.length) (ver + 1)) else E (Int.ofNat i) ver:=by
 have hle:=decide_eq_true hi
 simp only [Q2z,leN,hle,Bool.and_self,Q5,YV,drop_take,H2 (show 2 ≤ n by omega),Qcl hn,Q3,ltN,Zg,Q0]
 rcases Nat.lt_or_ge i s.length with h | h
 ·have hc:s[i]? = some s[i]:=List.getElem?_eq_getElem h
  have e10:(10:Int).toNat.toUInt8 = 10:=rfl
  simp only [decide_eq_true h,Q1,hc,Q3,Qn8 hc,YV,Q5q,QkV,e10,QnA (s:=s) (s.length - i) i 0 (by omega),QL (show i ≤ 200000 by omega)]
  have hb:(s[i] == 45) = ((s[i]).toNat == 45):=J2 (by decide)
  rw [hb]
  have hge:=JH (p:=fun n=>n != 10) (s:=s) (s.length - i) i
  have hsl:=Z4 (p:=fun n=>n != 10) (s:=s) (s.length - i) i hi
  cases Q0g (s[i]).toNat with
  | true=>rfl
  | false =>
   simp only [Q0,Bool.false_eq_true,if_false]
   cases ((s[i]).toNat == 45 && s[i + 1]? == some 45) with
   | false=>rfl
   | true =>
    simp only [Bool.not_true,Q0,if_true]
    by_cases hlt:nlE s i < s.length
    ·have hlt':QD (fun n=>n != 10) s (s.length - i) i < s.length:=hlt
     have e1:decide (Int.ofNat (0 + (QD (fun n=>n != 10) s (s.length - i) i - i)) ≥ 0) = true:=Q2z _
     have e2:IntKind.i64.wrap (Int.ofNat i + Int.ofNat (0 + (QD (fun n=>n != 10) s (s.length - i) i - i))) = Int.ofNat (QD (fun n=>n != 10) s (s.length - i) i):=by
      rw [QQ (by simp <;> omega) (by simp <;> omega)]; simp <;> omega
     rw [if_pos hlt,if_pos hlt',e1,Q1,e2]
     rfl
    ·have hlt':¬ QD (fun n=>n != 10) s (s.length - i) i < s.length:=hlt
     have e1:decide ((-1:Int) ≥ 0) = false:=rfl
     rw [if_neg hlt,if_neg hlt',e1,Q0]
 ·have hc:s[i]? = none:=List.getElem?_eq_none h
  have e:decide (i < s.length) = false:=by simpa using h
  have e2:[45,45].isPrefixOf (s.drop i) = false:=by rw [List.drop_of_length_le h]; rfl
  simp only [e,Q0,e2,Bool.not_false,Q1,hc]
theorem Q2l {i:Nat} (h:s.length ≤ i):∀ k,Y4 s k i = i
 | 0=>rfl
 | k + 1=>by rw [Y4,List.getElem?_eq_none h]
theorem QaI {n:Nat} (hn:3 ≤ n) {Q:Type} {L J:Q → Nat → Int → Nat → Prop} {E:Q → Int → Nat → Prop} (hJ:∀ q n' i ver,J q (n' + 1) i ver = L q n' i ver)
  (hL:∀ q n' i ver,L q (n' + 1) i ver = cnd (decide (i < Int.ofNat s.length)) (cnd (decide (i < 0)) False (bn (s[i.toNat]?) fun x12=>bn ((Q8 n).g_IndexByte [32,9,10,13] (Int.ofNat x12.toNat)) fun x13=>cnd (decide (x13 ≥ 0)) (L q n' (IntKind.i64.wrap (i + 1)) (ver + 1)) (an (decide (0 ≤ i) && decide (i ≤ Int.ofNat s.length)) (bn ((Q8 n).g_HasPrefix (List.take (s.length - i.toNat) (List.drop i.toNat s)) [45,45]) fun x14=>cnd (!x14) (E q i ver) (an (decide (0 ≤ i) && decide (i ≤ Int.ofNat s.length)) (bn ((Q8 n).g_IndexByte (List.take (s.length - i.toNat) (List.drop i.toNat s)) 10) fun x15=>cnd (decide (x15 ≥ 0)) (J q n' (IntKind.i64.wrap (i + x15)) (ver + 1)) (E q (Int.ofNat s.length) (ver + 1)))))))) (an (decide (0 ≤ i) && decide (i ≤ Int.ofNat s.length)) (bn ((Q8 n).g_HasPrefix (List.take (s.length - i.toNat) (List.drop i.toNat s)) [45,45]) fun x16=>cnd (!x16) (E q i ver) (an (decide (0 ≤ i) && decide (i ≤ Int.ofNat s.length)) (bn ((Q8 n).g_IndexByte (List.take (s.length - i.toNat) (List.drop i.toNat s)) 10) fun x17=>cnd (decide (x17 ≥ 0)) (J q n' (IntKind.i64.wrap (i + x17)) (ver + 1)) (E q (Int.ofNat s.length) (ver + 1))))))) :
  ∀ m i k n' ver,s.length - i ≤ m → s.length - i ≤ k → i ≤ s.length → 2 * m + 1 ≤ n' → ∃ dv,∀ q,L q n' (Int.ofNat i) ver = E q (Int.ofNat (Y4 s k i)) (ver + dv):=by
 intro m
 induction m with
 | zero =>
  intro i k n' ver hm hk hi hn'
  obtain ⟨n',rfl,_⟩:=QJ (show 0 + 1 ≤ n' by omega)
  have hge:s.length ≤ i:=by omega
  refine ⟨0,fun q=>?_⟩
  rw [hL,Q5e hs hn hi hk,List.getElem?_eq_none hge,Q2l hs hge]
  rfl
 | succ m ih =>
  intro i k n' ver hm hk hi hn'
  obtain ⟨n',rfl,hp⟩:=QJ (show 0 + 1 ≤ n' by omega)
  rcases Nat.lt_or_ge i s.length with h | h
  ·obtain ⟨k,rfl⟩:∃ z,k = z + 1:=⟨k - 1,by omega⟩
   have hc:s[i]? = some s[i]:=List.getElem?_eq_getElem h
   have hstep:∀ q,L q (n' + 1) (Int.ofNat i) ver = _:=fun q=>(hL q n' (Int.ofNat i) ver).trans (Q5e hs hn hi hk)
   simp only [hstep]
   rw [Y4,hc]
   dsimp only
   cases hb:Q0g (s[i]).toNat with
   | true =>
    simp only [if_true]
    obtain ⟨dv,e⟩:=ih (i + 1) k n' (ver + 1) (by omega) (by omega) (by omega) (by omega)
    exact ⟨1 + dv,fun q=>by rw [e,Nat.add_assoc]⟩
   | false =>
    simp only [Bool.false_eq_true,if_false]
    cases h2:((s[i]).toNat == 45 && s[i + 1]? == some 45) with
    | false =>
     simp only [Bool.false_eq_true,if_false]
     exact ⟨0,fun q=>rfl⟩
    | true =>
     simp only [if_true]
     have hge:i + 1 ≤ nlE s i:=by
      unfold nlE
      rw [show s.length - i = (s.length - i - 1) + 1 by omega,QD,hc]
      have:(s[i]).toNat = 45:=eq_of_beq (Bool.and_eq_true_iff.1 h2).1
      simp only [this,bne,show ((45:Nat) == 10) = false from rfl,Bool.not_false,if_true]
      exact JH _ _
     have hle:nlE s i ≤ s.length:=Z4 _ _ hi
     by_cases hlt:nlE s i < s.length
     ·simp only [if_pos hlt]
      obtain ⟨n',rfl,hp⟩:=QJ (show 0 + 1 ≤ n' by omega)
      simp only [hJ]
      obtain ⟨dv,e⟩:=ih (nlE s i) k n' (ver + 1) (by omega) (by omega) hle (by omega)
      exact ⟨1 + dv,fun q=>by rw [e,Nat.add_assoc]⟩
     ·simp only [if_neg hlt]
      have:nlE s i = s.length:=by omega
      rw [this,Q2l hs (Nat.le_refl _)]
      exact ⟨1,fun q=>rfl⟩
  ·refine ⟨0,fun q=>?_⟩
   rw [hL,Q5e hs hn hi hk,List.getElem?_eq_none h,Q2l hs h]
   rfl
end
end Go.Proofs.YtfdcjngclelnhaaGreat
namespace Go.Proofs.YtfdcjngclelnhaaGreat
open Go
set_option maxRecDepth 100000
set_option maxHeartbeats 1000000
def QcJ (m:Nat) (X Y:Prop):List Nat → Prop
 | []=>Y
 | k :: r=>cnd (m == k) X (QcJ m X Y r)
theorem Qb5 {m:Nat} {X Y:Prop}:∀ l,QcJ m X Y l = if l.contains m then X else Y
 | []=>rfl
 | k :: r=>by
  rw [QcJ,Qb5 r,List.contains_cons]
  cases m == k <;> rfl
def setL:List Nat:=[40,41,44,59,46,42,43,45,47,37,61,123,125,58]
theorem Qrp {c:UInt8}:setL.contains c.toNat = Qec c:=by
 unfold Qec setL
 simp only [List.contains_cons,List.contains_nil,show (c == 40) = (c.toNat == 40) from J2 (by decide),show (c == 41) = (c.toNat == 41) from J2 (by decide),show (c == 44) = (c.toNat == 44) from J2 (by decide),show (c == 59) = (c.toNat == 59) from J2 (by decide),show (c == 46) = (c.toNat == 46) from J2 (by decide),show (c == 42) = (c.toNat == 42) from J2 (by decide),show (c == 43) = (c.toNat == 43) from J2 (by decide),show (c == 45) = (c.toNat == 45) from J2 (by decide),show (c == 47) = (c.toNat == 47) from J2 (by decide),show (c == 37) = (c.toNat == 37) from J2 (by decide),show (c == 61) = (c.toNat == 61) from J2 (by decide),show (c == 123) = (c.toNat == 123) from J2 (by decide),show (c == 125) = (c.toNat == 125) from J2 (by decide),show (c == 58) = (c.toNat == 58) from J2 (by decide)]
section
variable {s:List UInt8} (hs:s.length ≤ 20000) {n a:Nat} {T:List Tok} {v w:Nat}
include hs
theorem QqL (hn:40200 ≤ n) (ha:a ≤ s.length):∃ v',(Q8 n).t_pass (rd s a T v w) = some (rd s (Y4 s (s.length - a) a) T v' w):=by
 obtain ⟨n,rfl,hp⟩:=QJ hn
 cases T with
 | nil =>
  obtain ⟨dv,e⟩:=QaI hs (n:=n) (by omega) (Q:=B132 → Prop) (L:=fun q n' i ver=>loopN (ZJ (Q8 n) q) n' (.l2 s i ver)) (J:=fun q n' i ver=>loopN (ZJ (Q8 n) q) n' (.l0 s i ver)) (E:=fun q i ver=>q ⟨s,i,.n,ver⟩) (fun _ _ _ _=>rfl) (fun _ _ _ _=>rfl) (s.length - a) a (s.length - a) (n - 1) v (Nat.le_refl _) (Nat.le_refl _) ha (by omega)
  refine ⟨v + dv,Q6 QbF fun q=>?_⟩
  obtain ⟨n0,rfl,_⟩:=QJ (show 0 + 1 ≤ n by omega)
  exact e q
 | cons x l =>
  obtain ⟨dv,e⟩:=QaI hs (n:=n) (by omega) (Q:=B132 → Prop) (L:=fun q n' i ver=>loopN (ZJ (Q8 n) q) n' (.l3 s i w ((x :: l).map Tok.d) ver)) (J:=fun q n' i ver=>loopN (ZJ (Q8 n) q) n' (.l1 s i w ((x :: l).map Tok.d) ver)) (E:=fun q i ver=>q ⟨s,i,.o ((x :: l).map Tok.d) w,ver⟩) (fun _ _ _ _=>rfl) (fun _ _ _ _=>rfl) (s.length - a) a (s.length - a) (n - 1) v (Nat.le_refl _) (Nat.le_refl _) ha (by omega)
  refine ⟨v + dv,Q6 QbF fun q=>?_⟩
  obtain ⟨n0,rfl,_⟩:=QJ (show 0 + 1 ≤ n by omega)
  exact e q
def YW (s:List UInt8) (a m:Nat) (T:List Tok) (v w:Nat):Q1v:=match T with
 | []=>.l0 (Int.ofNat a) (Int.ofNat m) (s.drop a) s v
 | x :: l=>.l2 (Int.ofNat a) (Int.ofNat m) (s.drop a) s w ((x :: l).map Tok.d) v
omit hs in
theorem QiO {m:Nat}:sl s a (a + m) = List.take m (s.drop a):=by unfold sl; rw [Nat.add_sub_cancel_left]
theorem QmW {m:Nat} (hn:1 ≤ n) (ha:a ≤ s.length) (hm:m ≤ s.length - a) (hT:T.length ≤ 6000):∃ v' w',∀ (q:Int × B132 → Prop) n',loopN (QB (Q8 n) q) (n' + 1) (YW s a m T v w) = q ((Hv a T (if m = 0 then .bad a else .tok ⟨4,sl s a (a + m),0,Int.ofNat a⟩ (a + m))).1,rd s (Hv a T (if m = 0 then .bad a else .tok ⟨4,sl s a (a + m),0,Int.ofNat a⟩ (a + m))).2.1 (Hv a T (if m = 0 then .bad a else .tok ⟨4,sl s a (a + m),0,Int.ofNat a⟩ (a + m))).2.2 v' w'):=by
 have e0:(Int.ofNat m == (0:Int)) = (m == 0):=Q1k m 0
 by_cases h0:m = 0
 ·subst h0
  rw [if_pos rfl]
  have hf:=Q2s (n:=n) hn (s:=s) (a:=a) (p:=a) (T:=T) (v:=v) (w:=w)
  obtain ⟨v',w',hl⟩:=JC (o:=.bad a) (a:=a) (T:=T) ⟨_,_,hf⟩
  refine ⟨v',w',fun q n'=>?_⟩
  rw [← hl q]
  cases T <;> (simp only [YW,Q4,QB,e0,beq_self_eq_true,Q1]; rfl)
 ·rw [if_neg h0]
  obtain ⟨v',w',hl⟩:=JC (Qdu (n:=n) hn (s:=s) (a:=a) (e:=a + m) (v:=v + 1) (w:=w) (t:=⟨4,sl s a (a + m),0,Int.ofNat a⟩) hT rfl)
  refine ⟨v',w',fun q n'=>?_⟩
  rw [← hl q]
  have e1:(m == 0) = false:=by simpa using h0
  have e2:decide (m ≤ (s.drop a).length) = true:=decide_eq_true (by simp; exact hm)
  have e3:IntKind.i64.wrap (Int.ofNat a + Int.ofNat m) = Int.ofNat (a + m):=by rw [QQ (by simp; omega) (by simp; omega)]; simp
  rw [QiO]
  cases T <;> (simp only [YW,Q4,QB,e0,e1,Q0,Q2z,leN,e2,Bool.and_self,Q5,e3,YV,Nat.sub_zero,List.drop_zero]; rfl)
def QgC (s:List UInt8) (a:Nat) (T:List Tok) (v w:Nat):Q1v:=match T with
 | []=>.l1 (Int.ofNat a) (s.drop a) s v
 | x :: l=>.l3 (Int.ofNat a) (s.drop a) s w ((x :: l).map Tok.d) v
theorem QnP {q:Int × B132 → Prop} {n':Nat}:loopN (QB (Q8 n) q) (n' + 1) (QgC s a T v w) = loopN (QB (Q8 n) q) n' (YW s a (if (s.drop a)[1]? = some 61 then 2 else 1) T v w):=by
 have key:∀ {X Y:Prop},cnd (decide (Int.ofNat (s.drop a).length > 1)) (bn ((s.drop a)[1]?) fun x=>cnd (Int.ofNat x.toNat == 61) X Y) Y = if (s.drop a)[1]? = some 61 then X else Y:=by
  intro X Y
  have eg:decide (Int.ofNat (s.drop a).length > 1) = decide (1 < (s.drop a).length):=gtL _ 1
  rw [eg]
  rcases Nat.lt_or_ge 1 (s.drop a).length with h | h
  ·rw [decide_eq_true h,Q1,List.getElem?_eq_getElem h,Q3,Q1k,show ((s.drop a)[1].toNat == 61) = ((s.drop a)[1] == 61) from (J2 (by decide)).symm]
   by_cases hx:(s.drop a)[1] = 61
   ·rw [hx,if_pos rfl]; rfl
   ·rw [if_neg (fun e=>hx (Option.some.inj e)),show ((s.drop a)[1] == 61) = false by simpa using hx]; rfl
  ·rw [decide_eq_false (by omega),Q0,List.getElem?_eq_none h,if_neg (by simp)]
 cases T with
 | nil =>
  show cnd (decide (Int.ofNat (s.drop a).length > 1)) (bn ((s.drop a)[1]?) fun x=>cnd (Int.ofNat x.toNat == 61) (loopN (QB (Q8 n) q) n' (.l0 (Int.ofNat a) (Int.ofNat 2) (s.drop a) s v)) (loopN (QB (Q8 n) q) n' (.l0 (Int.ofNat a) (Int.ofNat 1) (s.drop a) s v))) (loopN (QB (Q8 n) q) n' (.l0 (Int.ofNat a) (Int.ofNat 1) (s.drop a) s v)) = _
  rw [key]
  by_cases h:(s.drop a)[1]? = some 61
  ·simp only [if_pos h,YW]
  ·simp only [if_neg h,YW]
 | cons x l =>
  show cnd (decide (Int.ofNat (s.drop a).length > 1)) (bn ((s.drop a)[1]?) fun y=>cnd (Int.ofNat y.toNat == 61) (loopN (QB (Q8 n) q) n' (.l2 (Int.ofNat a) (Int.ofNat 2) (s.drop a) s w ((x :: l).map Tok.d) v)) (loopN (QB (Q8 n) q) n' (.l2 (Int.ofNat a) (Int.ofNat 1) (s.drop a) s w ((x :: l).map Tok.d) v))) (loopN (QB (Q8 n) q) n' (.l2 (Int.ofNat a) (Int.ofNat 1) (s.drop a) s w ((x :: l).map Tok.d) v)) = _
  rw [key]
  by_cases h:(s.drop a)[1]? = some 61
  ·simp only [if_pos h,YW]
  ·simp only [if_neg h,YW]
omit hs in
theorem Qnx {c:UInt8} (hc:s[a]? = some c):HN (s.drop a) ≤ s.length - a:=by
 have ha:a < s.length:=by
  rcases Nat.lt_or_ge a s.length with h | h
  ·exact h
  ·rw [List.getElem?_eq_none h] at hc; cases hc
 have hd:s.drop a = c :: s.drop (a + 1):=by rw [List.drop_eq_getElem_cons ha]; rw [List.getElem?_eq_getElem ha] at hc; cases hc; rfl
 have hlen:(s.drop a).length = s.length - a:=by simp
 have two:∀ {x y:UInt8},[x,y].isPrefixOf (s.drop a) = true → 2 ≤ s.length - a:=fun {x y} hp=>by
  have:=(List.isPrefixOf_iff_prefix.1 hp).length_le
  rw [hlen] at this; simpa using this
 have nx:(s.drop a)[1]? = some 61 → 2 ≤ s.length - a:=fun hx=>by
  rcases Nat.lt_or_ge 1 (s.drop a).length with g | g
  ·rw [hlen] at g; omega
  ·rw [List.getElem?_eq_none g] at hx; cases hx
 rw [hd] at two nx ⊢
 unfold HN
 repeat' split
 all_goals first | exact two (by assumption) | exact nx (by assumption) | omega
theorem QpU (hn:10 ≤ n) {c:UInt8} (hc:s[a]? = some c) (hT:T.length ≤ 6000):Q6j ((Q8 n).t_mark (rd s a T v w)) s a T (Qe9 s a):=by
 obtain ⟨n,rfl,hp⟩:=QJ hn
 have ha:a < s.length:=by
  rcases Nat.lt_or_ge a s.length with h | h
  ·exact h
  ·rw [List.getElem?_eq_none h] at hc; cases hc
 have hd:s.drop a = c :: s.drop (a + 1):=by rw [List.drop_eq_getElem_cons ha]; rw [List.getElem?_eq_getElem ha] at hc; cases hc; rfl
 have h0:(s.drop a)[0]? = some c:=by rw [hd]; rfl
 obtain ⟨v',w',he⟩:=QmW hs (n:=n) (a:=a) (m:=HN (s.drop a)) (T:=T) (v:=v) (w:=w) (by omega) (by omega) (Qnx hc) hT
 unfold Qe9
 refine ⟨v',w',?_⟩
 have e1:=decide_eq_true (show a ≤ s.length by omega)
 have b124:(c.toNat == 124) = (c == 124):=(J2 (by decide)).symm
 have b60:(c.toNat == 60) = (c == 60):=(J2 (by decide)).symm
 have b62:(c.toNat == 62) = (c == 62):=(J2 (by decide)).symm
 have way:∀ (q:Int × B132 → Prop) (n':Nat),cnd (c.toNat == 124) (cnd ([124,124].isPrefixOf (s.drop a)) (loopN (QB (Q8 n) q) (n' + 2) (YW s a 2 T v w)) (loopN (QB (Q8 n) q) (n' + 2) (YW s a 0 T v w))) (cnd (c.toNat == 60) (cnd ([60,62].isPrefixOf (s.drop a)) (loopN (QB (Q8 n) q) (n' + 2) (YW s a 2 T v w)) (loopN (QB (Q8 n) q) (n' + 2) (QgC s a T v w))) (cnd (c.toNat == 62) (loopN (QB (Q8 n) q) (n' + 2) (QgC s a T v w)) (QcJ c.toNat (loopN (QB (Q8 n) q) (n' + 2) (YW s a 1 T v w)) (loopN (QB (Q8 n) q) (n' + 2) (YW s a 0 T v w)) setL))) = loopN (QB (Q8 n) q) 1 (YW s a (HN (s.drop a)) T v w):=by
  intro q n'
  have irr:∀ k m,loopN (QB (Q8 n) q) (k + 1) (YW s a m T v w) = loopN (QB (Q8 n) q) 1 (YW s a m T v w):=fun k m=>by cases T <;> rfl
  have hm:HN (s.drop a) = if c = 124 then (if [124,124].isPrefixOf (s.drop a) then 2 else 0) else if c = 60 then (if [60,62].isPrefixOf (s.drop a) then 2 else if (s.drop a)[1]? = some 61 then 2 else 1) else if c = 62 then (if (s.drop a)[1]? = some 61 then 2 else 1) else if Qec c then 1 else 0:=by
   rw [hd]; rfl
  rw [Qb5,Qrp,QnP hs,irr (n' + 1) 2,irr (n' + 1) 0,irr (n' + 1) 1,irr n' (if (s.drop a)[1]? = some 61 then 2 else 1),hm,b124,b60,b62]
  by_cases h1:c = 124
  ·rw [show (c == 124) = true by simpa using h1,Q1,if_pos h1]
   cases [124,124].isPrefixOf (s.drop a) <;> rfl
  ·rw [show (c == 124) = false by simpa using h1,Q0,if_neg h1]
   by_cases h2:c = 60
   ·rw [show (c == 60) = true by simpa using h2,Q1,if_pos h2]
    cases [60,62].isPrefixOf (s.drop a) <;> rfl
   ·rw [show (c == 60) = false by simpa using h2,Q0,if_neg h2]
    by_cases h3:c = 62
    ·rw [show (c == 62) = true by simpa using h3,Q1,if_pos h3]
    ·rw [show (c == 62) = false by simpa using h3,Q0,if_neg h3]
     cases Qec c <;> rfl
 obtain ⟨n0,hn0⟩:∃ n0,n = n0 + 2:=⟨n - 2,by omega⟩
 cases T with
 | nil =>
  refine Q6 QS fun q=>?_
  rw [← he q 0,← way q n0]
  simp only [Q4 (n:=n),QB,rd,gcT,Q2z,leN,e1,Bool.and_self,Q5,YV,drop_take,h0,Q3,Q1k,H2 (show 2 ≤ n by omega)]
  rw [hn0]
  rfl
 | cons x l =>
  refine Q6 QS fun q=>?_
  rw [← he q 0,← way q n0]
  simp only [Q4 (n:=n),QB,rd,gcT,Q2z,leN,e1,Bool.and_self,Q5,YV,drop_take,h0,Q3,Q1k,H2 (show 2 ≤ n by omega)]
  rw [hn0]
  rfl
end
end Go.Proofs.YtfdcjngclelnhaaGreat
namespace Go.Proofs.YtfdcjngclelnhaaGreat
open Go
set_option maxRecDepth 100000
set_option maxHeartbeats 2000000
def J0 (l:List UInt8):List D:=l.map fun b=>.int .u8 (Int.ofNat b.toNat)
theorem Q4G:∀ l:List UInt8,bytesOf (J0 l) = some l
 | []=>rfl
 | c :: r=>by
  have ih:=Q4G r
  unfold J0 at ih ⊢
  rw [List.map_cons,bytesOf,ih]
  simp
def bd (acc:List UInt8) (v w:Nat):B167:=⟨match acc with | []=>.n | c :: r=>.o (J0 (c :: r)) w,v⟩
theorem Q3t {n:Nat} (hn:2 ≤ n) {acc:List UInt8} {v w:Nat} {c:UInt8} (hl:acc.length ≤ 100000):∃ v' w',(Q8 n).b_WriteByte (bd acc v w) (Int.ofNat c.toNat) = some ((),bd (acc ++ [c]) v' w'):=by
 obtain ⟨n,rfl,hp⟩:=QJ hn
 obtain ⟨n,rfl,hp2⟩:=QJ hp
 cases acc with
 | nil =>
  have h1:(Q8 (n + 1)).b_copyCheck (B167.mk GC.n v) = some ⟨.m,v + 1⟩:=Q6 QbH fun q=>rfl
  refine ⟨v + 1 + 1,v + 1,Q6 Qc0 fun q=>?_⟩
  simp only [Q4,Z9,bd,h1,Q3,gcas]
  rfl
 | cons b r =>
  have h1:(Q8 (n + 1)).b_copyCheck (B167.mk (GC.o (J0 (b :: r)) w) v) = some ⟨.o (J0 (b :: r)) w,v⟩:=Q6 QbH fun q=>rfl
  refine ⟨v + 1,v,Q6 Qc0 fun q=>?_⟩
  have e1:∀ m:Nat,m.beq m = true:=Nat.beq_refl
  have e2:(J0 (b :: r)).isEmpty = false:=rfl
  have e3:sized 1 (J0 (b :: r)) = true:=rfl
  have e4:(J0 (b :: r)).length = r.length + 1:=by simp [J0]
  have e5:=ZK (show r.length + 1 + 1 ≤ 1000000 by rw [List.length_cons] at hl; omega) (show 1 ≤ 1000 by decide)
  have e6:(J0 (b :: r) ++ [D.int .u8 (Int.ofNat c.toNat)]).length = r.length + 1 + 1:=by simp [J0]
  simp only [Q4,Z9,bd,h1,Q3,gcas,e1,Q5,e2,Q0,e3,e4,e5,e6]
  congr 2
  simp [bd,J0]
theorem Qrj {n:Nat} (hn:1 ≤ n) {acc:List UInt8} {v w:Nat}:(Q8 n).b_Len (bd acc v w) = some (Int.ofNat acc.length,bd acc v w):=by
 obtain ⟨n,rfl,hp⟩:=QJ hn
 cases acc with
 | nil=>exact Q6 Qbx fun q=>rfl
 | cons b r =>
  refine Q6 Qbx fun q=>?_
  have e4:(J0 (b :: r)).length = (b :: r).length:=by simp [J0]
  simp only [Q4,Q1q,bd,e4]
theorem Qm8 {n:Nat} (hn:1 ≤ n) {acc:List UInt8} {v w:Nat} (hl:acc.length ≤ 100000):(Q8 n).b_String (bd acc v w) = some (acc,bd acc v w):=by
 obtain ⟨n,rfl,hp⟩:=QJ hn
 cases acc with
 | nil=>exact Q6 Qbl fun q=>rfl
 | cons b r =>
  refine Q6 Qbl fun q=>?_
  have e1:∀ m:Nat,m.beq m = true:=Nat.beq_refl
  have e2:(J0 (b :: r)).isEmpty = false:=rfl
  have e4:(J0 (b :: r)).length = r.length + 1:=by simp [J0]
  have e5:(Int.ofNat (r.length + 1) == (0:Int)) = false:=by rw [show (Int.ofNat (r.length + 1) == (0:Int)) = (r.length + 1 == 0) from Q1k _ 0]; rfl
  have e6:decide (r.length + 1 ≤ r.length + 1) = true:=decide_eq_true (Nat.le_refl _)
  have e7:decide (Int.ofNat (r.length + 1) ≤ 9223372036854775807) = true:=by rw [leL]; exact decide_eq_true (show r.length + 1 ≤ 9223372036854775807 by rw [List.length_cons] at hl; omega)
  have e8:List.take (r.length + 1) (J0 (b :: r)) = J0 (b :: r):=List.take_of_length_le (by omega)
  simp only [Q4,YE,bd,e4,e1,e2,Q0,e5,YV,e6,e7,Bool.and_true,Q5,e8,Q4G,Q3]
section
variable {s:List UInt8} (hs:s.length ≤ 20000) {n a:Nat} {T:List Tok}
def vT (s:List UInt8) (a i:Nat) (T:List Tok) (rv w:Nat) (acc:List UInt8) (bv bw:Nat):Q1L:=match T,acc with
 | [],[]=>.l0 (Int.ofNat a) s (Int.ofNat i) rv bv
 | [],c :: r=>.l3 (Int.ofNat a) s (Int.ofNat i) rv bw (J0 (c :: r)) bv
 | x :: l,[]=>.l1 (Int.ofNat a) s (Int.ofNat i) w ((x :: l).map Tok.d) rv bv
 | x :: l,c :: r=>.l6 (Int.ofNat a) s (Int.ofNat i) w ((x :: l).map Tok.d) rv bw (J0 (c :: r)) bv
def vE (s:List UInt8) (a i:Nat) (T:List Tok) (rv w:Nat) (acc:List UInt8) (bv bw:Nat):Q1L:=match T,acc with
 | [],[]=>.l4 (Int.ofNat a) s (Int.ofNat i) rv bv
 | [],c :: r=>.l9 (Int.ofNat a) s (Int.ofNat i) rv bw (J0 (c :: r)) bv
 | x :: l,[]=>.l7 (Int.ofNat a) s (Int.ofNat i) w ((x :: l).map Tok.d) rv bv
 | x :: l,c :: r=>.l11 (Int.ofNat a) s (Int.ofNat i) w ((x :: l).map Tok.d) rv bw (J0 (c :: r)) bv
include hs
theorem Qoz {i rv w bv bw:Nat} {acc:List UInt8} (hn:10 ≤ n) (hi:i < s.length) (hT:T.length ≤ 6000) (hl:acc.length ≤ 100000):∃ v' w',∀ (q:Int × B132 → Prop) n',loopN (J4 (Q8 n) q) (n' + 1) (vE s a i T rv w acc bv bw) =
  q ((Hv a T (if acc.length > 1000 then .bad a else .tok ⟨3,acc,0,Int.ofNat a⟩ (i + 1))).1,rd s (Hv a T (if acc.length > 1000 then .bad a else .tok ⟨3,acc,0,Int.ofNat a⟩ (i + 1))).2.1 (Hv a T (if acc.length > 1000 then .bad a else .tok ⟨3,acc,0,Int.ofNat a⟩ (i + 1))).2.2 v' w'):=by
 have hL:=Qrj (n:=n) (by omega) (acc:=acc) (v:=bv) (w:=bw)
 have hS:=Qm8 (n:=n) (by omega) (acc:=acc) (v:=bv) (w:=bw) hl
 have ew:=QL (show i ≤ 200000 by omega)
 by_cases h:acc.length > 1000
 ·rw [if_pos h]
  have hd:=decide_eq_true h
  have hf:=Q2s (n:=n) (by omega) (s:=s) (a:=i + 1) (p:=a) (T:=T) (v:=rv + 1) (w:=w)
  obtain ⟨v',w',hl'⟩:=JC (o:=.bad a) (a:=a) (T:=T) ⟨_,_,hf⟩
  refine ⟨v',w',fun q n'=>?_⟩
  rw [← hl' q]
  cases T <;> cases acc <;> simp only [bd] at hL hS <;> simp only [vE,Q4,J4,hL,Q3,gcas,gtL,hd,Q1,ew] <;> rfl
 ·rw [if_neg h]
  have hd:=decide_eq_false h
  obtain ⟨v',w',hl'⟩:=JC (Qdu (n:=n) (by omega) (s:=s) (a:=a) (e:=i + 1) (v:=rv + 1) (w:=w) (t:=⟨3,acc,0,Int.ofNat a⟩) hT rfl)
  refine ⟨v',w',fun q n'=>?_⟩
  rw [← hl' q]
  cases T <;> cases acc <;> simp only [bd] at hL hS <;> simp only [vE,Q4,J4,hL,Q3,gcas,gtL,hd,Q0,ew,hS] <;> rfl
theorem QlW (hn:10 ≤ n) (hT:T.length ≤ 6000):∀ k i acc rv w bv bw n',s.length ≤ i + k → i ≤ s.length + 1 → acc.length ≤ i → k + 2 ≤ n' → ∃ v' w',∀ q:Int × B132 → Prop,loopN (J4 (Q8 n) q) n' (vT s a i T rv w acc bv bw) =
  q ((Hv a T (Zl s a k i acc)).1,rd s (Hv a T (Zl s a k i acc)).2.1 (Hv a T (Zl s a k i acc)).2.2 v' w'):=by
 intro k
 have ended:∀ i acc rv w bv bw n',s.length ≤ i → i ≤ s.length + 1 → 1 ≤ n' → ∃ v' w',∀ q:Int × B132 → Prop,loopN (J4 (Q8 n) q) n' (vT s a i T rv w acc bv bw) = q ((Hv a T (.bad a)).1,rd s (Hv a T (.bad a)).2.1 (Hv a T (.bad a)).2.2 v' w'):=by
  intro i acc rv w bv bw n' hi hi2 hn'
  obtain ⟨n',rfl,_⟩:=QJ (show 0 + 1 ≤ n' by omega)
  have e:decide (i < s.length) = false:=by simpa using hi
  have hf:=Q2s (n:=n) (by omega) (s:=s) (a:=i) (p:=a) (T:=T) (v:=rv) (w:=w)
  obtain ⟨v',w',hl'⟩:=JC (o:=.bad a) (a:=a) (T:=T) ⟨_,_,hf⟩
  refine ⟨v',w',fun q=>?_⟩
  rw [← hl' q]
  cases T <;> cases acc <;> simp only [vT,Q4,J4,ltN,e,Q0] <;> rfl
 induction k with
 | zero =>
  intro i acc rv w bv bw n' hk hi ha hn'
  exact ended i acc rv w bv bw n' (by omega) hi (by omega)
 | succ k ih =>
  intro i acc rv w bv bw n' hk hi ha hn'
  rcases Nat.lt_or_ge i s.length with h | h
  ·obtain ⟨n',rfl,hp⟩:=QJ (show k + 2 + 1 ≤ n' by omega)
   have hc:s[i]? = some s[i]:=List.getElem?_eq_getElem h
   generalize s[i] = c at hc
   rw [Zl,hc]
   dsimp only
   have e:=decide_eq_true h
   have ele:=decide_eq_true (Nat.le_of_lt h)
   have ew:=QL (show i ≤ 200000 by omega)
   have ew2:=QL (show i + 1 ≤ 200000 by omega)
   have h2:=Qn8 (x:=39) (y:=39) hc
   have b39:(c == 39) = (c.toNat == 39):=J2 (by decide)
   have hpre:=H2 (n:=n) (by omega) (x:=s.drop i) (y:=[39,39])
   cases h1:decide (c.toNat < 32) && c.toNat != 10 with
   | true =>
    simp only [Bool.and_eq_true] at h1
    have hf:=Q2s (n:=n) (by omega) (s:=s) (a:=i) (p:=i) (T:=T) (v:=rv) (w:=w)
    obtain ⟨v',w',hl'⟩:=JC (o:=.bad i) (a:=a) (T:=T) ⟨_,_,hf⟩
    refine ⟨v',w',fun q=>?_⟩
    simp only [if_true]
    rw [← hl' q]
    cases T <;> cases acc <;> simp only [vT,Q4,J4,ltN,e,Q1,Zg,Q0,YV,hc,Q3,ltL,ltZ,h1.1,Q53,h1.2] <;> rfl
   | false =>
    simp only [Bool.false_eq_true,if_false]
    have same:∀ {X Y:Prop},cnd (decide (c.toNat < 32)) (cnd (c.toNat != 10) X Y) Y = Y:=by
     intro X Y
     cases g1:decide (c.toNat < 32) with
     | false=>rfl
     | true=>rw [g1,Bool.true_and] at h1; rw [h1]; rfl
    cases h39:c.toNat != 39 with
    | true =>
     obtain ⟨bv',bw',hw⟩:=Q3t (n:=n) (by omega) (acc:=acc) (v:=bv) (w:=bw) (c:=c) (by omega)
     obtain ⟨v',w',hr⟩:=ih (i + 1) (acc ++ [c]) (rv + 1) w bv' bw' n' (by omega) (by omega) (by simp; omega) (by omega)
     refine ⟨v',w',fun q=>?_⟩
     simp only [if_true]
     rw [← hr q]
     cases T <;> cases acc <;> simp only [bd,List.nil_append,List.cons_append] at hw <;> simp only [vT,Q4,J4,ltN,e,Q1,Zg,Q0,YV,hc,Q3,ltL,ltZ,Q53,same,h39,hw,gcas,ew,List.nil_append,List.cons_append]
    | false =>
     have hc39:(c.toNat == 39) = true:=by
      unfold bne at h39
      cases hh:c.toNat == 39 with
      | true=>rfl
      | false=>rw [hh] at h39; exact nomatch h39
     have hceq:c = 39:=eq_of_beq (b39.trans hc39)
     simp only [Bool.false_eq_true,if_false]
     by_cases hx:s[i + 1]? = some 39
     ·have hpt:[39,39].isPrefixOf (s.drop i) = true:=by rw [h2,b39,hc39,hx]; rfl
      obtain ⟨bv',bw',hw⟩:=Q3t (n:=n) (by omega) (acc:=acc) (v:=bv) (w:=bw) (c:=c) (by omega)
      obtain ⟨v',w',hr⟩:=ih (i + 2) (acc ++ [c]) (rv + 1 + 1) w bv' bw' n' (by omega) (by
       have:i + 1 < s.length:=by
        rcases Nat.lt_or_ge (i + 1) s.length with g | g
        ·exact g
        ·rw [List.getElem?_eq_none g] at hx; cases hx
       omega) (by simp; omega) (by omega)
      refine ⟨v',w',fun q=>?_⟩
      have h39':acc ++ [(39:UInt8)] = acc ++ [c]:=by rw [hceq]
      rw [if_pos hx,h39',← hr q]
      rw [hpt] at hpre
      have ew3:IntKind.i64.wrap (Int.ofNat (i + 1) + 1) = Int.ofNat (i + 2):=ew2
      cases T <;> cases acc <;> simp only [bd,List.nil_append,List.cons_append] at hw <;> simp only [vT,Q4,J4,ltN,e,Q1,Zg,Q0,YV,hc,Q3,ltL,ltZ,Q53,same,h39,hw,gcas,ew,ew3,Q2z,leN,ele,Bool.and_self,Q5,drop_take,hpre,List.nil_append,List.cons_append]
     ·have hpt:[39,39].isPrefixOf (s.drop i) = false:=by
       rw [h2,show (s[i + 1]? == some 39) = false by simpa using hx,Bool.and_false]
      obtain ⟨n',rfl,hp2⟩:=QJ (show k + 1 + 1 ≤ n' by omega)
      obtain ⟨v',w',hr⟩:=Qoz hs (n:=n) (a:=a) (T:=T) (i:=i) (rv:=rv) (w:=w) (bv:=bv) (bw:=bw) (acc:=acc) hn h hT (by omega)
      refine ⟨v',w',fun q=>?_⟩
      rw [if_neg hx,← hr q n']
      rw [hpt] at hpre
      cases T <;> cases acc <;> simp only [vT,vE,Q4 (n:=n' + 1),J4,ltN,e,Q1,Zg,Q0,YV,hc,Q3,ltL,ltZ,Q53,same,h39,Q2z,leN,ele,Bool.and_self,Q5,drop_take,hpre]
  ·rw [Zl,List.getElem?_eq_none h]
   exact ended i acc rv w bv bw n' h hi (by omega)
theorem Qqe {v w:Nat} (hn:20200 ≤ n) (ha:a < s.length) (hT:T.length ≤ 6000):Q6j ((Q8 n).t_text (rd s a T v w)) s a T (Q5T s a):=by
 obtain ⟨n,rfl,hp⟩:=QJ hn
 have ew:=QL (show a ≤ 200000 by omega)
 obtain ⟨v',w',hr⟩:=QlW hs (n:=n) (a:=a) (T:=T) (by omega) hT (s.length - a) (a + 1) [] (v + 1) w 0 0 n (by omega) (by omega) (by simp) (by omega)
 unfold Q5T
 refine ⟨v',w',?_⟩
 cases T with
 | nil =>
  refine Q6 QS fun q=>?_
  rw [← hr q]
  show loopN (J4 (Q8 n) q) n (.l0 (Int.ofNat a) s (IntKind.i64.wrap (Int.ofNat a + 1)) (v + 1) 0) = _
  rw [ew]; rfl
 | cons x l =>
  refine Q6 QS fun q=>?_
  rw [← hr q]
  show loopN (J4 (Q8 n) q) n (.l1 (Int.ofNat a) s (IntKind.i64.wrap (Int.ofNat a + 1)) w ((x :: l).map Tok.d) (v + 1) 0) = _
  rw [ew]; rfl
end
end Go.Proofs.YtfdcjngclelnhaaGreat
