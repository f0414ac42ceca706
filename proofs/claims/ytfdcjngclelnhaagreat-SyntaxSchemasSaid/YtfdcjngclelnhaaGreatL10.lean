/- Part of a proof. -/
import Derived.Test.YtfdcjngclelnhaaGreatL6
set_option linter.unusedSectionVars false
set_option linter.unusedSimpArgs false
set_option linter.unusedVariables false
namespace Go.Proofs.YtfdcjngclelnhaaGreat
open Go
theorem Qnl {n:Nat}:(Q8 (n + 1)).k_Words = some (.slice (wordsL.map .str)):=Q6 QaR fun q=>rfl
theorem Ql3 {a b:Bool} {p:Bool → Prop}:cnd a (p true) (p b) = p (a || b):=by cases a <;> rfl
theorem Q68 {S:Q9} {q:Bool → Prop} {s:List UInt8}:∀ (k i n:Nat),i + k = wordsL.length → k + 1 ≤ n → loopN (Yo S q) n (.l0 s (.slice (wordsL.map .str)) (Int.ofNat i)) = q ((wordsL.drop i).contains s)
 | k,i,0,_,h=>by omega
 | k,i,n + 1,hi,hn=>by
  rw [Q4]
  simp only [Yo,asL,Q3,List.length_map]
  have hw:wordsL.length = 67:=by decide
  cases k with
  | zero =>
   have:i = wordsL.length:=by omega
   subst this
   have e:decide (Int.ofNat wordsL.length < Int.ofNat wordsL.length) = false:=by simp
   rw [e,Q0,List.drop_length]; rfl
  | succ k =>
   have hlt:i < wordsL.length:=by omega
   have e:decide (Int.ofNat i < Int.ofNat wordsL.length) = true:=by simpa using hlt
   have ea:atD (wordsL.map D.str) (Int.ofNat i) = some (.str (wordsL[i])):=by
    unfold atD
    rw [if_neg (by simp)]
    show (wordsL.map D.str)[i]? = _
    rw [List.getElem?_map,List.getElem?_eq_getElem hlt]; rfl
   have ew:IntKind.i64.wrap (Int.ofNat i + 1) = Int.ofNat (i + 1):=by rw [QQ (by simp; omega) (by simp; omega)]; rfl
   rw [e,Q1,ea]
   simp only [Q3,asS,D.flat,Q5,ew]
   rw [Q68 k (i + 1) n (by omega) (by omega)]
   conv=>rhs; rw [List.drop_eq_getElem_cons hlt,List.contains_cons]
   have ec:(wordsL[i] == s) = (s == wordsL[i]):=by rw [Bool.eq_iff_iff,beq_iff_eq,beq_iff_eq]; exact eq_comm
   rw [ec]
   exact Ql3
theorem Qj3 {n:Nat} (hn:100 ≤ n) {s:List UInt8}:(Q8 (n + 1)).k_Word s = some (isW s):=Q6 Q2m fun q=>by
 obtain ⟨m,rfl⟩:∃ m,n = m + 1:=⟨n - 1,by omega⟩
 show bn ((Q8 (m + 1)).k_Words) (fun x=>loopN (Yo (Q8 (m + 1)) q) (m + 1) (.l0 s x (Int.ofNat 0))) = q (isW s)
 rw [Qnl,Q3]
 have hw:wordsL.length = 67:=by decide
 exact Q68 67 0 _ (by omega) (by omega)
def bP (T:List Tok) (d:Nat):Mix → B74
 | .ok i=>⟨tD T,Int.ofNat i,Int.ofNat d,0,0⟩
 | .er i d' a e=>⟨tD T,Int.ofNat i,d',a,e⟩
theorem Sat.shift {B α:Type} {T:List Tok} {r:Nat} {b:Mix → B} {good:α → Prop} {X:(α × B → Prop) → Prop} {m m':Mix} {f g:Nat → Out α} (h:Sat T r b good X m' g) (e:m.sp f = m'.sp g):Sat T r b good X m f:=by
 obtain ⟨o,h1,h2⟩:=h
 exact ⟨o,by rw [e]; exact h1,h2⟩
theorem QlN {T:List Tok} (hT:TOk T) {w:List UInt8} (hw:QT w = true) {i:Nat} (h:(tk T i).kind = 4):((tk T i).text == w) = false:=by
 cases e:(tk T i).text == w with
 | false=>rfl
 | true =>
  have:=hT.marks i h
  rw [eq_of_beq e,hw] at this
  exact nomatch this
theorem Qm5 {T:List Tok} (hT:TOk T) {w:List UInt8} (hw:QT w = false) {i:Nat} (h:(tk T i).kind = 1):((tk T i).text == w) = false:=by
 cases e:(tk T i).text == w with
 | false=>rfl
 | true =>
  have:=hT.names i h
  rw [eq_of_beq e,hw] at this
  exact nomatch this
section
variable {T:List Tok} (hT:TOk T) {n d i:Nat} {r:Nat} {m:Mix}
include hT
theorem Q1G (hn:1 ≤ n) (hi:i < T.length) {d x:Int}:(Q8 n).p_bad ⟨tD T,Int.ofNat i,d,0,0⟩ x = some ⟨tD T,Int.ofNat i,d,(tk T i).at_,x⟩:=by
 obtain ⟨n,rfl,hp⟩:=QJ hn
 refine Q6 QbN fun q=>?_
 simp only [Q4,Q49,Ya,Q3,Yj hi,JG,Q5,Qjb,beq_self_eq_true,Q1]
omit hT in
theorem QcF (hn:1 ≤ n) {t:D} {i d a e x:Int} (he:e ≠ 0):(Q8 n).p_bad ⟨t,i,d,a,e⟩ x = some ⟨t,i,d,a,e⟩:=by
 obtain ⟨n,rfl,hp⟩:=QJ hn
 refine Q6 QbN fun q=>?_
 simp only [Q4,Q49,Q1j he,Q0]
theorem Q3p (hn:1 ≤ n) (hm:m.In T r) {w:List UInt8} (hw:QT w = true):(Q8 n).p_is (bP T d m) w = some (m.sees T 1 w,bP T d m):=by
 obtain ⟨n,rfl,hp⟩:=QJ hn
 refine Q6 Q5p fun q=>?_
 cases m with
 | ok i =>
  simp only [Q4,Q2u,bP,beq_self_eq_true,Q1,Ya,Q3,Yj hm.1,JG,Q5,ZY,Q2D,Mix.sees,JI]
  cases h1:(tk T i).kind == 1 with
  | true=>simp only [Q1,Bool.true_and]
  | false =>
   simp only [Q0,Bool.false_and]
   cases h4:(tk T i).kind == 4 with
   | true=>simp only [Q1,QlN hT hw (eq_of_beq h4)]
   | false=>rfl
 | er i d' a e=>simp only [Q4,Q2u,bP,Q1j hm.2,Q0,Mix.sees]
theorem QqZ (hn:1 ≤ n) (hm:m.In T r) {w:List UInt8} (hw:QT w = false):(Q8 n).p_is (bP T d m) w = some (m.sees T 4 w,bP T d m):=by
 obtain ⟨n,rfl,hp⟩:=QJ hn
 refine Q6 Q5p fun q=>?_
 cases m with
 | ok i =>
  simp only [Q4,Q2u,bP,beq_self_eq_true,Q1,Ya,Q3,Yj hm.1,JG,Q5,ZY,Q2D,Mix.sees,JI]
  cases h1:(tk T i).kind == 1 with
  | true =>
   have h4:((tk T i).kind == 4) = false:=by rw [eq_of_beq h1]; rfl
   simp only [Q1,h4,Bool.false_and,Qm5 hT hw (eq_of_beq h1)]
  | false =>
   simp only [Q0]
   cases h4:(tk T i).kind == 4 with
   | true=>simp only [Q1,Bool.true_and]
   | false=>simp only [Q0,Bool.false_and]
 | er i d' a e=>simp only [Q4,Q2u,bP,Q1j hm.2,Q0,Mix.sees]
theorem Qix (hn:2 ≤ n) (hm:m.In T r) {k:Int} (hk:k ≠ 0) {w:List UInt8} (hc:∀ n,1 ≤ n → (Q8 n).p_is (bP T d m) w = some (m.sees T k w,bP T d m)):(Q8 n).p_take (bP T d m) w = some (m.sees T k w,bP T d (m.takes T k w)):=by
 obtain ⟨n,rfl,hp⟩:=QJ hn
 refine Q6 Q5p fun q=>?_
 simp only [Q4,Q5w,hc n hp,Q3]
 cases m with
 | ok i =>
  cases h:JI T k w i with
  | true =>
   have hl:=hT.len
   have hi:=hT.ends.next hm.1 (by rw [(JN h).1]; exact hk)
   simp only [Mix.sees,Mix.takes,h,Bool.not_true,Q0,if_true,bP,QL (show i ≤ 200000 by omega)]
  | false=>simp only [Mix.sees,Mix.takes,h,Bool.not_false,Q1,Bool.false_eq_true,if_false]
 | er i d' a e=>simp only [Mix.sees,Mix.takes,Bool.not_false,Q1]
theorem Qz (hn:2 ≤ n) (hm:m.In T r) {w:List UInt8} (hw:QT w = true):(Q8 n).p_take (bP T d m) w = some (m.sees T 1 w,bP T d (m.takes T 1 w)):=Qix hT hn hm (by decide) fun n hn=>Q3p hT hn hm hw
theorem JV (hn:2 ≤ n) (hm:m.In T r) {w:List UInt8} (hw:QT w = false):(Q8 n).p_take (bP T d m) w = some (m.sees T 4 w,bP T d (m.takes T 4 w)):=Qix hT hn hm (by decide) fun n hn=>QqZ hT hn hm hw
theorem QiT (hn:3 ≤ n) (hm:m.In T (r + 1)) {k:Int} (hk:k ≠ 0) {w:List UInt8} (hc:∀ n,2 ≤ n → (Q8 n).p_take (bP T d m) w = some (m.sees T k w,bP T d (m.takes T k w))):Qha T r (bP T d) ((Q8 n).p_must (bP T d m) w) m (QG T k w):=by
 obtain ⟨n,rfl,hp⟩:=QJ hn
 have hr:∀ s,(∀ q:B74 → Prop,cnd (!m.sees T k w) (bn ((Q8 n).p_bad (bP T d (m.takes T k w)) 10) q) (q (bP T d (m.takes T k w))) = q s) → (Q8 (n + 1)).p_must (bP T d m) w = some s:=fun s hs=>Q6 Qm1 fun q=>by
  simp only [Q4,Q50,hc n hp,Q3]
  exact hs q
 cases m with
 | ok i =>
  cases h:JI T k w i with
  | true =>
   refine ⟨_,hr (bP T d (.ok (i + 1))) fun q=>by simp only [Mix.sees,Mix.takes,h,Bool.not_true,Q0,if_true],.ok (i + 1),rfl,?_,trivial,?_⟩
   ·have:=hT.ends.next hm.1 (by rw [(JN h).1]; exact hk)
    obtain ⟨_,h2⟩:=hm
    exact ⟨this,by omega⟩
   ·simp only [Mix.sp,QG,h,if_true,and_self]
  | false =>
   refine ⟨_,hr (bP T d (.er i (Int.ofNat d) (tk T i).at_ 10)) fun q=>by simp only [Mix.sees,Mix.takes,h,Bool.not_false,Q1,Bool.false_eq_true,if_false,bP,Q1G hT (show 1 ≤ n by omega) hm.1,Q3],.er _ _ _ _,rfl,Q9a hm.1,trivial,?_⟩
   simp only [Mix.sp,QG,h,Bool.false_eq_true,if_false,Q1l]
   exact ⟨_,_,rfl⟩
 | er i d' a e =>
  exact ⟨_,hr (bP T d (.er i d' a e)) fun q=>by simp only [Mix.sees,Mix.takes,Bool.not_false,Q1,bP,QcF (show 1 ≤ n by omega) hm.2,Q3],.er _ _ _ _,rfl,hm,trivial,_,_,rfl⟩
theorem JD (hn:3 ≤ n) (hm:m.In T (r + 1)) {w:List UInt8} (hw:QT w = true):Qha T r (bP T d) ((Q8 n).p_must (bP T d m) w) m (QG T 1 w):=QiT hT hn hm (by decide) fun n hn=>Qz hT hn hm hw
theorem Jh (hn:3 ≤ n) (hm:m.In T (r + 1)) {w:List UInt8} (hw:QT w = false):Qha T r (bP T d) ((Q8 n).p_must (bP T d m) w) m (QG T 4 w):=QiT hT hn hm (by decide) fun n hn=>JV hT hn hm hw
theorem Q8m {i:Nat} (h:i ≤ 200000):IntKind.i64.wrap (Int.ofNat (i + 1) - 1) = Int.ofNat i:=by
 rw [QQ (by simp <;> omega) (by simp <;> omega)]; simp
theorem Jg (hn:102 ≤ n) (hm:m.In T (r + 1)):Has T r (bP T d) (fun _=>True) ((Q8 n).p_name (bP T d m)) m (JX isW T):=by
 obtain ⟨n,rfl,hp0⟩:=QJ hn
 obtain ⟨n,rfl,hp⟩:=QJ hp0
 cases m with
 | ok i =>
  have hl:=hT.len
  cases h1:(tk T i).kind == 1 with
  | true =>
   cases h2:isW (tk T i).text with
   | true =>
    refine ⟨([],bP T d (.er i (Int.ofNat d) (tk T i).at_ 10)),Q6 Q2n fun q=>?_,.er _ _ _ _,rfl,Q9a hm.1,trivial,?_⟩
    ·simp only [Q4,H9,bP,bne,beq_self_eq_true,Bool.not_true,Q0,Ya,Q3,Yj hm.1,JG,Q5,ZY,Q2D,h1,Qj3 hp,h2,Q1,Q1G hT (show 1 ≤ n + 1 by omega) hm.1]
    ·simp only [Mix.sp,JX,h1,h2,Bool.not_true,Bool.and_false,Bool.false_eq_true,if_false,Q1l]
     exact ⟨_,_,rfl⟩
   | false =>
    have hi:=hT.ends.next hm.1 (show (tk T i).kind ≠ 0 by rw [eq_of_beq h1]; decide)
    refine ⟨((tk T i).text,bP T d (.ok (i + 1))),Q6 Q2n fun q=>?_,.ok (i + 1),rfl,⟨hi,by obtain ⟨_,h2⟩:=hm; omega⟩,trivial,?_⟩
    ·simp only [Q4,H9,bP,bne,beq_self_eq_true,Bool.not_true,Q0,Ya,Q3,Yj hm.1,JG,Q5,ZY,Q2D,h1,Qj3 hp,h2,QL (show i ≤ 200000 by omega),Q8m hT (show i ≤ 200000 by omega)]
    ·simp only [Mix.sp,JX,h1,h2,Bool.not_false,Bool.and_true,if_true,and_self]
  | false =>
   refine ⟨([],bP T d (.er i (Int.ofNat d) (tk T i).at_ 10)),Q6 Q2n fun q=>?_,.er _ _ _ _,rfl,Q9a hm.1,trivial,?_⟩
   ·simp only [Q4,H9,bP,bne,beq_self_eq_true,Bool.not_true,Bool.not_false,Q0,Ya,Q3,Yj hm.1,JG,Q5,ZY,h1,Q1,Q1G hT (show 1 ≤ n + 1 by omega) hm.1]
   ·simp only [Mix.sp,JX,h1,Bool.false_and,Bool.false_eq_true,if_false,Q1l]
    exact ⟨_,_,rfl⟩
 | er i d' a e =>
  refine ⟨([],bP T d (.er i d' a e)),Q6 Q2n fun q=>?_,.er _ _ _ _,rfl,hm,trivial,_,_,rfl⟩
  simp only [Q4,H9,bP,Q2y hm.2,Q1,QcF (show 1 ≤ n + 1 by omega) hm.2,Q3]
theorem QoM (hn:2 ≤ n) (hm:m.In T (r + 1)):Has T r (bP T d) (fun _=>True) ((Q8 n).p_int (bP T d m)) m (HM T):=by
 obtain ⟨n,rfl,hp⟩:=QJ hn
 cases m with
 | ok i =>
  have hl:=hT.len
  cases h:(tk T i).kind == 2 with
  | true =>
   have hi:=hT.ends.next hm.1 (show (tk T i).kind ≠ 0 by rw [eq_of_beq h]; decide)
   refine ⟨((tk T i).n,bP T d (.ok (i + 1))),Q6 Q2o fun q=>?_,.ok (i + 1),rfl,⟨hi,by obtain ⟨_,h2⟩:=hm; omega⟩,trivial,?_⟩
   ·simp only [Q4,Q1w,bP,bne,beq_self_eq_true,Bool.not_true,Q0,Ya,Q3,Yj hm.1,JG,Q5,ZY,Qe4,h,QL (show i ≤ 200000 by omega),Q8m hT (show i ≤ 200000 by omega)]
   ·simp only [Mix.sp,HM,h,if_true,and_self]
  | false =>
   refine ⟨(0,bP T d (.er i (Int.ofNat d) (tk T i).at_ 10)),Q6 Q2o fun q=>?_,.er _ _ _ _,rfl,Q9a hm.1,trivial,?_⟩
   ·simp only [Q4,Q1w,bP,bne,beq_self_eq_true,Bool.not_true,Bool.not_false,Q0,Q1,Ya,Q3,Yj hm.1,JG,Q5,ZY,h,Q1G hT (show 1 ≤ n by omega) hm.1]
   ·simp only [Mix.sp,HM,h,Bool.false_eq_true,if_false,Q1l]
    exact ⟨_,_,rfl⟩
 | er i d' a e =>
  refine ⟨(0,bP T d (.er i d' a e)),Q6 Q2o fun q=>?_,.er _ _ _ _,rfl,hm,trivial,_,_,rfl⟩
  simp only [Q4,Q1w,bP,Q2y hm.2,Q1,QcF (show 1 ≤ n by omega) hm.2,Q3]
theorem Sat.down {α:Type} {good:α → Prop} {K:(α × B74 → Prop) → B74 → Prop} {g:Nat → Out α} (hn:2 ≤ n) (hd:d ≤ 40) (hm:m.In T r)
  (hE:∀ i d' a e,(Mix.er i d' a e).In T r → Sat T r (bP T d) good (fun q=>K q (bP T (d + 1) (.er i d' a e))) (.er i d' a e) g)
  (hO:∀ i,(Mix.ok i).In T r → d + 1 ≤ 40 → Sat T r (bP T d) good (fun q=>K q (bP T (d + 1) (.ok i))) (.ok i) g):Sat T r (bP T d) good (fun q=>bn ((Q8 n).p_down (bP T d m)) (K q)) m (Qc (YX T d) fun _=>g):=by
 obtain ⟨n,rfl,hp⟩:=QJ hn
 have hs:∀ {s s'},(∀ q:B74 → Prop,Yn (Q8 n) q (loopN (Yn (Q8 n) q) n) (.e s) = q s') → (Q8 (n + 1)).p_down s = some s':=fun h=>Q6 QlH h
 cases m with
 | ok i =>
  by_cases h40:40 < d + 1
  ·have h1:decide (Int.ofNat (d + 1) > 40) = true:=by simp; omega
   have e1:(Q8 (n + 1)).p_down (bP T d (.ok i)) = some (bP T (d + 1) (.er i (Int.ofNat (d + 1)) (tk T i).at_ 9)):=hs fun q=>by
    simp only [Yn,bP,beq_self_eq_true,Q1,QL (show d ≤ 200000 by omega),h1,Q1G hT hp hm.1,Q3]
   refine Sat.shift (Sat.eq (hE i (Int.ofNat (d + 1)) (tk T i).at_ 9 (er9 hm.1)) fun q=>by rw [e1,Q3]) ?_
   simp only [Mix.sp,Qc,YX,h40,if_true,Q1l,Out.bind]
  ·have h1:decide (Int.ofNat (d + 1) > 40) = false:=by simp; omega
   have e1:(Q8 (n + 1)).p_down (bP T d (.ok i)) = some (bP T (d + 1) (.ok i)):=hs fun q=>by
    simp only [Yn,bP,beq_self_eq_true,Q1,QL (show d ≤ 200000 by omega),h1,Q0]
   refine Sat.shift (Sat.eq (hO i hm (by omega)) fun q=>by rw [e1,Q3]) ?_
   simp only [Mix.sp,Qc,YX,h40,if_false,Out.bind]
 | er i d' a e =>
  have e1:(Q8 (n + 1)).p_down (bP T d (.er i d' a e)) = some (bP T (d + 1) (.er i (IntKind.i64.wrap (d' + 1)) a e)):=hs fun q=>by
   simp only [Yn,bP,Q1j hm.2,Q0]
  exact Sat.shift (Sat.eq (hE i (IntKind.i64.wrap (d' + 1)) a e hm) fun q=>by rw [e1,Q3]) rfl
omit hT in
theorem Has.er {α:Type} {good:α → Prop} {C:Option (α × B74)} {i:Nat} {d' a e:Int} {f g:Nat → Out α} {d0:Nat} (h:Has T r (bP T d0) good C (.er i d' a e) f):Has T r (bP T d) good C (.er i d' a e) g:=by
 obtain ⟨o,h1,m',h2,h3,h4,h5⟩:=h
 obtain ⟨i',d'',rfl⟩:=h5
 exact ⟨o,h1,.er i' d'' a e,h2,h3,h4,_,_,rfl⟩
theorem Sat.up {α:Type} {good:α → Prop} {v w:α} {s:B74} (hd:d ≤ 40) (hm:m.In T r) (hg:good v) (hv:v = w) (hs:s = bP T (d + 1) m) :
  Sat T r (bP T d) good (fun q=>q (v,B74.mk s.c0 s.c1 (IntKind.i64.wrap (s.c2 - 1)) s.c3 s.c4)) m (Qx w):=by
 subst hv hs
 cases m with
 | ok i =>
  refine ⟨_,⟨.ok i,?_,hm,hg,rfl,rfl⟩,fun q=>rfl⟩
  simp only [bP,Q8m hT (show d ≤ 200000 by omega)]
 | er i d' a e=>exact ⟨_,⟨.er i (IntKind.i64.wrap (d' - 1)) a e,rfl,hm,hg,_,_,rfl⟩,fun q=>rfl⟩
end
theorem Q3E {T:List Tok} {k:Int} {i:Nat}:∀ {l:List (List UInt8)},Yf T k l i = if (tk T i).kind == k && l.contains (tk T i).text then some (tk T i).text else none
 | []=>by simp [Yf]
 | w :: l=>by
  rw [Yf,Q3E (l:=l)]
  unfold JI
  rw [List.contains_cons]
  cases (tk T i).kind == k with
  | false=>simp
  | true =>
   cases h:(tk T i).text == w with
   | true=>simp [eq_of_beq h]
   | false=>simp
def Mix.op (T:List Tok) (ops:List (List UInt8)):Mix → List UInt8
 | .ok i=>(Yf T 4 ops i).getD []
 | .er _ _ _ _=>[]
def Mix.opTakes (T:List Tok) (ops:List (List UInt8)):Mix → Mix
 | .ok i=>match Yf T 4 ops i with
  | some _=>.ok (i + 1)
  | none=>.ok i
 | m=>m
section
variable {T:List Tok} (hT:TOk T) {n d i:Nat} {r:Nat} {m:Mix}
include hT
theorem Q8o {ops:List (List UInt8)} (hops:∀ w ∈ ops,QT w = false) (hlen:ops.length ≤ 6) (hn:10 ≤ n) (hm:m.In T r):(Q8 n).p_oneOf (bP T d m) (.slice (ops.map .str)) = some (m.op T ops,bP T d (m.opTakes T ops)):=by
 obtain ⟨n,rfl,hp⟩:=QJ hn
 refine Q6 Qkp fun q=>?_
 have inner:∀ (l:List (List UInt8)) (t n':Nat),ops.drop t = l → t + l.length = ops.length → l.length + 1 ≤ n' →
   loopN (ZS (Q8 n) q) n' (.l0 (.slice (ops.map .str)) (Int.ofNat t) (bP T d m)) = q (m.op T l,bP T d (m.opTakes T l)):=by
  intro l
  induction l with
  | nil =>
   intro t n' hdr hl hn'
   obtain ⟨n',rfl⟩:∃ z,n' = z + 1:=⟨n' - 1,by omega⟩
   have e:decide (Int.ofNat t < Int.ofNat ops.length) = false:=by simp at hl ⊢; omega
   simp only [Q4,ZS,asL,Q3,List.length_map,e,Q0]
   cases m <;> rfl
  | cons u l ih =>
   intro t n' hdr hl hn'
   obtain ⟨n',rfl⟩:∃ z,n' = z + 1:=⟨n' - 1,by omega⟩
   have ht:t < ops.length:=by simp at hl; omega
   have e:decide (Int.ofNat t < Int.ofNat ops.length) = true:=by simpa using ht
   have hdc:=List.drop_eq_getElem_cons ht
   rw [hdr] at hdc
   have hu:ops[t] = u:=(List.cons.inj hdc).1.symm
   have hdl:ops.drop (t + 1) = l:=(List.cons.inj hdc).2.symm
   have huf:QT u = false:=hops u (by rw [← hu]; exact List.getElem_mem _)
   have ea:atD (ops.map D.str) (Int.ofNat t) = some (.str u):=by
    unfold atD
    rw [if_neg (by simp)]
    show (ops.map D.str)[t]? = _
    rw [List.getElem?_map,List.getElem?_eq_getElem ht,hu]; rfl
   have ew:IntKind.i64.wrap (Int.ofNat t + 1) = Int.ofNat (t + 1):=by rw [QQ (by simp; omega) (by simp; omega)]; rfl
   simp only [Q4,ZS,asL,Q3,List.length_map,e,Q1,ea,D.flat,Q5,asS,JV hT (show 2 ≤ n by omega) hm huf,ew]
   have h0:=ih (t + 1) n' hdl (by simp at hl; omega) (by simp at hn'; omega)
   cases m with
   | ok i =>
    cases hs:JI T 4 u i with
    | true=>simp only [Mix.sees,Mix.takes,hs,Q1,if_true,Mix.op,Mix.opTakes,Yf,Option.getD_some]
    | false =>
     simp only [Mix.sees,Mix.takes,hs,Q0,Bool.false_eq_true,if_false,Mix.op,Mix.opTakes,Yf]
     exact h0
   | er i d' a e=>exact h0
 exact inner ops 0 n rfl (by omega) (by omega)
end
end Go.Proofs.YtfdcjngclelnhaaGreat
namespace Go.Proofs.YtfdcjngclelnhaaGreat
open Go
structure POk (T:List Tok) (N r:Nat):Prop where
 expr:∀ n,N ≤ n → ∀ d,d ≤ 40 → ∀ k,k ≤ r → ∀ m:Mix,m.In T k → Has T k (bP T d) JB ((Q8 n).p_Expr (bP T d m)) m ((Qj isW T r).expr d)
 query:∀ n,N ≤ n → ∀ d,d ≤ 40 → ∀ k,k ≤ r → ∀ m:Mix,m.In T k → Has T k (bP T d) YJ ((Q8 n).p_Query (bP T d m)) m ((Qj isW T r).query d)
 ands:∀ n,N ≤ n → ∀ d,d ≤ 40 → ∀ k,k ≤ r → ∀ m:Mix,m.In T k → Has T k (bP T d) JB ((Q8 n).p_and (bP T d m)) m ((Qj isW T r).ands d)
 nots:∀ n,N ≤ n → ∀ d,d ≤ 40 → ∀ k,k ≤ r → ∀ m:Mix,m.In T k → Has T k (bP T d) JB ((Q8 n).p_not (bP T d m)) m ((Qj isW T r).nots d)
 sum:∀ n,N ≤ n → ∀ d,d ≤ 40 → ∀ k,k ≤ r → ∀ i,(Mix.ok i).In T k → Has T k (bP T d) JB ((Q8 n).p_sum (bP T d (.ok i))) (.ok i) ((Qj isW T r).sum d)
 prod:∀ n,N ≤ n → ∀ d,d ≤ 40 → ∀ k,k ≤ r → ∀ i,(Mix.ok i).In T k → Has T k (bP T d) JB ((Q8 n).p_prod (bP T d (.ok i))) (.ok i) ((Qj isW T r).prod d)
 unary:∀ n,N ≤ n → ∀ d,d ≤ 40 → ∀ k,k ≤ r → ∀ i,(Mix.ok i).In T k → Has T k (bP T d) JB ((Q8 n).p_unary (bP T d (.ok i))) (.ok i) ((Qj isW T r).unary d)
 part:∀ n,N ≤ n → ∀ d,d ≤ 40 → ∀ k,k ≤ r → ∀ i,(Mix.ok i).In T k → Has T k (bP T d) YJ ((Q8 n).p_part (bP T d (.ok i))) (.ok i) ((Qj isW T r).part d)
theorem Q4z {n:Nat} (hn:1 ≤ n) {w:List UInt8} {x y:D} (hx:JB x) (hy:JB y):(Q8 n).r_bin w x y = some (ZO w x y):=by
 obtain ⟨n,rfl,hp⟩:=QJ hn
 refine Q6 Qfu fun q=>?_
 simp only [Q4,Q6W,Qy hx,Qy hy]
 rfl
section
variable {B:Type} {T:List Tok} {b b':Mix → B}
inductive QV (B:Type) where
 | l0 (y0:B) (y1:D) (y2:Nat)
def Q3P (u:List UInt8) (one:B → Option (D × B)) (takes:B → List UInt8 → Option (Bool × B)) (bin:List UInt8 → D → D → Option D) (leaf:D → B → Prop) (l:QV B → Prop):QV B → Prop
 | .l0 y0 y1 y2=>bn (takes y0 u) fun x8=>cnd x8.1 (bn (one x8.2) fun x9=>an (okG 26 x9.1) (an (okG 26 (G 26 y1)) (an (okG 26 (G 26 x9.1)) (bn (bin u (G 26 y1) (G 26 x9.1)) fun x10=>an (okG 26 x10) (fl x10 [4,5] (l (.l0 x9.2 x10 (y2 + 6)))))))) (fl y1 [4,5] (leaf (G 26 y1) x8.2))
theorem Q5s {u:List UInt8} {one:B → Option (D × B)} {takes:B → List UInt8 → Option (Bool × B)} {bin:List UInt8 → D → D → Option D} {leaf:(D × B → Prop) → D → B → Prop} {r:Nat} {kk:Int} {rest:Nat → Out D} (hT:Ends T) (hkk:kk ≠ 0)
  (htk:∀ k m,m.In T k → takes (b' m) u = some (m.sees T kk u,b' (m.takes T kk u)))
  (hone:∀ k,k ≤ r → ∀ i,(Mix.ok i).In T k → Has T k b' JB (one (b' (.ok i))) (.ok i) rest)
  (hbin:∀ w x y,JB x → JB y → bin w x y = some (ZO w x y))
  (hleaf:∀ (k:Nat) (m:Mix) x,m.In T k → JB x → Sat T k b JB (fun q=>leaf q x (b' m)) m (Qx x)) :
  ∀ k,k ≤ r + 1 → ∀ f,k ≤ f → ∀ n,k + 2 ≤ n → ∀ m x w,m.In T k → JB x →
   Sat T k b JB (fun q=>loopN (Q3P u one takes bin (leaf q)) n (.l0 (b' m) x w)) m (YU (Yf T kk [u]) rest f x):=by
 intro k
 induction k using Nat.strongRecOn with
 | ind k IH =>
  intro hk f hf n hn m x w hm hx
  obtain ⟨n,rfl⟩:∃ n',n = n' + 1:=⟨n - 1,by omega⟩
  simp only [Q4,Q3P,JA hx,Qy hx]
  have h0:Sat T k b JB (fun q=>bn (takes (b' m) u) fun x8=>cnd x8.1 (bn (one x8.2) fun x9=>an (okG 26 x9.1) (an (okG 26 x) (an (okG 26 (G 26 x9.1)) (bn (bin u x (G 26 x9.1)) fun x10=>an (okG 26 x10) (fl x10 [4,5] (loopN (Q3P u one takes bin (leaf q)) n (.l0 x9.2 x10 (w + 6)))))))) (leaf q x x8.2)) m (Qp5 T kk (Yf T kk [u]) rest (f - 1) x [u]):=by
   rw [Qb0]
   refine Sat.word hT hkk hm (htk k m hm) (fun i j hj hi=>?_) ?_ <;> simp only [Q1,Q0]
   ·refine Sat.call (hone j (by omega) i hi) fun y m' hm' hy=>?_
    simp only [hy,Q5,Qy hy,hx,hbin u x y hx hy,Q3,show okG 26 (ZO u x y) = true from Yg,JA (show okG 26 (ZO u x y) = true from Yg)]
    exact IH j (by omega) (by omega) (f - 1) (by omega) n (by omega) m' (ZO u x y) (w + 6) hm' Yg
   ·exact hleaf k m x hm hx
  refine Sat.spec h0 fun i hi=>?_
  subst hi
  obtain ⟨f,rfl⟩:∃ f',f = f' + 1:=⟨f - 1,by have:=hm.2; have:=hm.1; omega⟩
  rfl
inductive OV (B:Type) where
 | l0 (y0:List UInt8) (y1:B) (y2:D) (y3:Nat)
def Q2j (ops:List (List UInt8)) (one:B → Option (D × B)) (oneOf:B → D → Option (List UInt8 × B)) (bin:List UInt8 → D → D → Option D) (r:D × B → Prop) (l:OV B → Prop):OV B → Prop
 | .l0 y0 y1 y2 y3=>cnd (!y0 == []) (bn (one y1) fun x10=>an (okG 26 x10.1) (an (okG 26 (G 26 y2)) (an (okG 26 (G 26 x10.1)) (bn (bin y0 (G 26 y2) (G 26 x10.1)) fun x11=>an (okG 26 x11) (fl x11 [4,5] (bn (oneOf x10.2 (.slice (ops.map .str))) fun x12=>l (.l0 x12.1 x12.2 x11 (y3 + 6)))))))) (fl y2 [4,5] (r ((G 26 y2),y1)))
theorem Qbn {ops:List (List UInt8)} {one:B → Option (D × B)} {oneOf:B → D → Option (List UInt8 × B)} {bin:List UInt8 → D → D → Option D} {r:Nat} {rest:Nat → Out D} (hT:Ends T)
  (hof:∀ k m,m.In T k → oneOf (b m) (.slice (ops.map .str)) = some (m.op T ops,b (m.opTakes T ops))) (hne:∀ w ∈ ops,w ≠ [])
  (hone:∀ k,k ≤ r → ∀ i,(Mix.ok i).In T k → Has T k b JB (one (b (.ok i))) (.ok i) rest)
  (hbin:∀ w x y,JB x → JB y → bin w x y = some (ZO w x y)) :
  ∀ k,k ≤ r + 1 → ∀ f,k ≤ f → ∀ n,k + 2 ≤ n → ∀ m x w,m.In T k → JB x →
   Sat T k b JB (fun q=>loopN (Q2j ops one oneOf bin q) n (.l0 (m.op T ops) (b (m.opTakes T ops)) x w)) m (YU (Yf T 4 ops) rest f x):=by
 intro k
 induction k using Nat.strongRecOn with
 | ind k IH =>
  intro hk f hf n hn m x w hm hx
  obtain ⟨n,rfl⟩:∃ n',n = n' + 1:=⟨n - 1,by omega⟩
  have e0:(!(([]:List UInt8) == [])) = false:=rfl
  cases m with
  | ok i =>
   obtain ⟨f,rfl⟩:∃ f',f = f' + 1:=⟨f - 1,by have:=hm.2; have:=hm.1; omega⟩
   cases ho:Yf T 4 ops i with
   | none =>
    simp only [Q4,Q2j,Mix.op,Mix.opTakes,ho,Option.getD_none,e0,Q0,JA hx,Qy hx]
    refine Sat.spec (Sat.ret hm hx rfl rfl) fun j hj=>?_
    cases hj
    simp only [YU,ho]; rfl
   | some u =>
    have hu:=ho
    rw [Q3E] at hu
    split at hu
    ·rename_i hc
     simp only [Bool.and_eq_true] at hc
     cases hu
     have hne':(tk T i).text ≠ []:=hne _ (by simpa using hc.2)
     have e1:(!((tk T i).text == [])) = true:=by simpa using hne'
     have hi:=hT.next hm.1 (show (tk T i).kind ≠ 0 by rw [eq_of_beq hc.1]; decide)
     obtain ⟨j,rfl⟩:∃ j,k = j + 1:=⟨k - 1,by have:=hm.2; omega⟩
     have hm':(Mix.ok (i + 1)).In T j:=⟨hi,by have:=hm.2; omega⟩
     simp only [Q4,Q2j,Mix.op,Mix.opTakes,ho,Option.getD_some,e1,Q1]
     refine Sat.more (r:=j) ?_ (Nat.le_succ j)
     refine Sat.shift (m':=.ok (i + 1)) (g:=Qc rest fun y=>YU (Yf T 4 ops) rest f (ZO (tk T i).text x y)) ?_ (by simp only [Mix.sp,YU,ho]; rfl)
     refine Sat.call (hone j (by omega) (i + 1) hm') fun y m' hm' hy=>?_
     simp only [hy,Q5,Qy hy,hx,Qy hx,hbin _ x y hx hy,Q3,show okG 26 (ZO (tk T i).text x y) = true from Yg,JA (show okG 26 (ZO (tk T i).text x y) = true from Yg),hof j m' hm']
     exact IH j (by omega) (by omega) f (by omega) n (by omega) m' _ (w + 6) hm' Yg
    ·exact nomatch hu
  | er i d a e =>
   simp only [Q4,Q2j,Mix.op,Mix.opTakes,e0,Q0,JA hx,Qy hx]
   exact Sat.spec (Sat.ret hm hx rfl rfl) fun j hj=>nomatch hj
end
def opsCmpP:List (List UInt8):=[[61],[60,62],[60,61],[62,61],[60],[62]]
theorem QbW {T:List Tok} {i:Nat}:Yf T 4 opsCmpP i = Yf T 4 opsCmp i:=by
 rw [Q3E,Q3E]
 have:opsCmpP.contains (tk T i).text = opsCmp.contains (tk T i).text:=by
  simp only [opsCmpP,opsCmp,List.contains_cons,List.contains_nil]
  ac_rfl
 rw [this]
section
variable {T:List Tok} (hT:TOk T) {N r:Nat} (hN:140 + 8 * (r + 3) ≤ N ∧ r ≤ 200000) (ih:POk T N r) {n d k:Nat} (hd:d ≤ 40) {m:Mix}
include hT hN ih hd
theorem QpY (hn:N + 1 ≤ n) (hk:k ≤ r + 1) (hm:m.In T k):Has T k (bP T d) JB ((Q8 n).p_prim (bP T d m)) m (Q1H isW T (Qj isW T r) d):=by
 obtain ⟨n,rfl,hp⟩:=QJ hn; refine Sat.has (X:=fun q=>Q0x (Q8 n) q (loopN (Q0x (Q8 n) q) n) (.e (bP T d m))) ?_ fun o ho=>Q6 QZ ho; simp only [Q0x]
 cases m with
 | er i d' a e =>
  have hc:((bP T d (.er i d' a e)).c4 != 0) = true:=Q2y hm.2
  simp only [hc,Q1]
  exact Sat.spec (Sat.ret hm (show JB (ex 0 0 [] [] .nils .nils) from Hg rfl) rfl rfl) fun j hj=>nomatch hj
 | ok i =>
 have hc4:((bP T d (.ok i)).c4 != 0) = false:=rfl
 have hl:=hT.len
 have h0:(bP T d (.ok i)).c0 = tD T:=rfl
 have h1:(bP T d (.ok i)).c1 = Int.ofNat i:=rfl
 simp only [hc4,Q0,h0,h1,Ya,Q3,Yj hm.1,JG,Q5,ZY,Q2D,Qe4,QL (show i ≤ 200000 by have:=hm.1; omega)]
 have hnx:∀ {z:D},(tk T i).kind ≠ 0 → JB z → Sat T k (bP T d) JB (fun q=>q (z,B74.mk (tD T) (Int.ofNat (i + 1)) (bP T d (.ok i)).c2 (bP T d (.ok i)).c3 (bP T d (.ok i)).c4)) (.ok i) (fun _=>.ok z (i + 1)):=fun hk0 hz=>by
  have hi:=hT.ends.next hm.1 hk0
  exact ⟨_,⟨.ok (i + 1),rfl,⟨hi,by have:=hm.2; omega⟩,hz,rfl,rfl⟩,fun _=>rfl⟩
 cases h2:(tk T i).kind == 2 with
 | true =>
  simp only [Q1]
  refine (hnx (fun e=>by simp [e] at h2) (Hg rfl)).spec fun j hj=>?_
  cases hj
  simp only [Q1H,h2,if_true]
 | false =>
  simp only [Q0]
  cases h3:(tk T i).kind == 3 with
  | true =>
   simp only [Q1]
   refine (hnx (fun e=>by simp [e] at h3) (Hg rfl)).spec fun j hj=>?_
   cases hj
   simp only [Q1H,h2,h3,Bool.false_eq_true,if_true,if_false]
  | false =>
   simp only [Q0]
   refine Sat.spec (f:=JJ T 1 Q5l (Qx (ex 1 0 [] [] .nils .nils)) (JJ T 1 Qg4 (Qx (ex 2 1 [] [] .nils .nils)) (JJ T 1 Qda (Qx (ex 2 0 [] [] .nils .nils))
    (JJ T 4 [58] (Qc (JX isW T) fun s=>Qx (ex 6 0 s [] .nils .nils)) (JJ T 1 QgT (Q5y T (Qj isW T r) d)
    (JJ T 1 Q7G (Qc (JF T (Qj isW T r) d) fun q=>Qx (ex 12 0 [] [] .nils (Z5 q))) (JJ T 4 [40] (Q4S T (Qj isW T r) d) (Q2t isW T (Qj isW T r) d)))))))) ?_ fun j hj=>by
     cases hj
     simp only [Q1H,h2,h3,Bool.false_eq_true,if_false]
   refine Sat.word hT.ends (by decide) hm (Qz hT (by omega) hm (by decide)) (fun i j hj hm=>?_) ?_ <;> simp only [Q1,Q0,Bool.not_true,Bool.not_false]
   ·exact Sat.ret hm (Hg rfl) rfl rfl
   refine Sat.word hT.ends (by decide) hm (Qz hT (by omega) hm (by decide)) (fun i j hj hm=>?_) ?_ <;> simp only [Q1,Q0,Bool.not_true,Bool.not_false]
   ·exact Sat.ret hm (Hg rfl) rfl rfl
   refine Sat.word hT.ends (by decide) hm (Qz hT (by omega) hm (by decide)) (fun i j hj hm=>?_) ?_ <;> simp only [Q1,Q0,Bool.not_true,Bool.not_false]
   ·exact Sat.ret hm (Hg rfl) rfl rfl
   refine Sat.word hT.ends (by decide) hm (JV hT (by omega) hm (by decide)) (fun i j hj hm=>?_) ?_ <;> simp only [Q1,Q0,Bool.not_true,Bool.not_false]
   ·refine Sat.call (Jg hT (by omega) (hm.mono (Nat.le_succ _))) fun s m hm _=>?_
    exact Sat.ret hm (Hg rfl) rfl rfl
   refine Sat.word hT.ends (by decide) hm (Qz hT (by omega) hm (by decide)) (fun i j hj hm=>?_) ?_ <;> simp only [Q1,Q0,Bool.not_true,Bool.not_false]
   ·unfold Q5y
    refine Sat.callU (JD hT (by omega) (hm.mono (Nat.le_succ _)) (by decide)) fun m hm=>?_
    refine Sat.call (ih.expr _ (by omega) _ hd _ (by omega) _ hm) fun x m hm hx=>?_
    simp only [hx,Q5,JA hx,Qy hx]
    refine Sat.callU (JD hT (by omega) (hm.mono (Nat.le_succ _)) (by decide)) fun m hm=>?_
    refine Sat.call (ih.expr _ (by omega) _ hd _ (by omega) _ hm) fun y m hm hy=>?_
    simp only [hy,Q5,JA hy,Qy hy]
    refine Sat.callU (JD hT (by omega) (hm.mono (Nat.le_succ _)) (by decide)) fun m hm=>?_
    refine Sat.call (ih.expr _ (by omega) _ hd _ (by omega) _ hm) fun z m hm hz=>?_
    simp only [hz,Q5,JA hz,Qy hz]
    refine Sat.callU (JD hT (by omega) (hm.mono (Nat.le_succ _)) (by decide)) fun m hm=>?_
    exact Sat.ret hm (Hg rfl) rfl rfl
   refine Sat.word hT.ends (by decide) hm (Qz hT (by omega) hm (by decide)) (fun i j hj hm=>?_) ?_ <;> simp only [Q1,Q0,Bool.not_true,Bool.not_false]
   ·simp only [JF,QY,QW]
    refine Sat.callU (Jh hT (by omega) (hm.mono (Nat.le_succ _)) (by decide)) fun m hm=>?_
    refine Sat.call (ih.query _ (by omega) _ hd _ (by omega) _ hm) fun x m hm hx=>?_
    simp only [hx,Q5,Q4w hx,Qy hx]
    refine Sat.callU (Jh hT (by omega) (hm.mono (Nat.le_succ _)) (by decide)) fun m hm=>?_
    exact Sat.ret hm (Hg rfl) rfl rfl
   refine Sat.word hT.ends (by decide) hm (JV hT (by omega) hm (by decide)) (fun i j hj hm=>?_) ?_ <;> simp only [Q1,Q0,Bool.not_true,Bool.not_false]
   ·unfold Q4S
    refine Sat.see (Q3p hT (by omega) hm (by decide)) ?_ ?_ <;> simp only [Q1,Q0]
    ·refine Sat.call (ih.query _ (by omega) _ hd _ (by omega) _ hm) fun x m hm hx=>?_
     simp only [hx,Q5,Q4w hx,Qy hx]
     refine Sat.callU (Jh hT (by omega) (hm.mono (Nat.le_succ _)) (by decide)) fun m hm=>?_
     exact Sat.ret hm (Hg rfl) rfl rfl
    ·refine Sat.call (ih.expr _ (by omega) _ hd _ (by omega) _ hm) fun x m hm hx=>?_
     simp only [hx,Q5,JA hx,Qy hx]
     refine Sat.callU (Jh hT (by omega) (hm.mono (Nat.le_succ _)) (by decide)) fun m hm=>?_
     exact Sat.ret hm hx rfl rfl
   ·unfold Q2t
    refine Sat.call (Jg hT (by omega) (hm.mono (Nat.le_succ _))) fun s m hm _=>?_
    have dot:∀ {m:Mix},m.In T k → Sat T k (bP T d) JB (fun q=>bn ((Q8 n).p_take (bP T d m) [46]) fun x=>cnd x.1 (bn ((Q8 n).p_name x.2) fun y=>q ((.agg [.int .i64 5,.int .i64 0,.str y.1,.str s,.nils,.nils]),y.2)) (q ((.agg [.int .i64 5,.int .i64 0,.str s,.str [],.nils,.nils]),x.2))) m (Qhp isW T s):=by
     intro m hm
     unfold Qhp
     refine Sat.word hT.ends (by decide) hm (JV hT (by omega) hm (by decide)) (fun i j hj hm=>?_) ?_ <;> simp only [Q1,Q0,Bool.not_true,Bool.not_false]
     ·refine Sat.call (Jg hT (by omega) (hm.mono (Nat.le_succ _))) fun t m hm _=>?_
      exact Sat.ret hm (Hg rfl) rfl rfl
     ·exact Sat.ret hm (Hg rfl) rfl rfl
    have agg:∀ {m:Mix} {j:Nat},j ≤ r → m.In T j → Sat T j (bP T d) JB (fun q=>bn ((Q8 n).p_Expr (bP T d m)) fun x=>an (okG 26 x.1) (bn ((Q8 n).p_must x.2 [41]) fun y=>q ((.agg [.int .i64 15,.int .i64 0,.str s,.str [],D.slice [G 26 x.1],.nils]),y))) m (Qfb T (Qj isW T r) d s):=by
     intro m j hj hm
     refine Sat.call (ih.expr _ (by omega) _ hd _ hj _ hm) fun x m hm hx=>?_
     simp only [hx,Q5,Qy hx]
     refine Sat.callU (Jh hT (by omega) (hm.mono (Nat.le_succ _)) (by decide)) fun m hm=>?_
     exact Sat.ret hm (Hg rfl) rfl rfl
    have col:∀ {m:Mix},m.In T k → Sat T k (bP T d) JB (fun q=>bn ((Q8 n).p_take (bP T d m) [40]) fun x90=>cnd x90.1 (cnd (s == [99,111,117,110,116]) (bn ((Q8 n).p_take x90.2 [42]) fun x91=>cnd x91.1 (bn ((Q8 n).p_must x91.2 [41]) fun x92=>q ((.agg [.int .i64 15,.int .i64 0,.str s,.str [],.nils,.nils]),x92)) (bn ((Q8 n).p_Expr x91.2) fun x93=>an (okG 26 x93.1) (bn ((Q8 n).p_must x93.2 [41]) fun x94=>q ((.agg [.int .i64 15,.int .i64 0,.str s,.str [],D.slice [G 26 x93.1],.nils]),x94)))) (bn ((Q8 n).p_Expr x90.2) fun x95=>an (okG 26 x95.1) (bn ((Q8 n).p_must x95.2 [41]) fun x96=>q ((.agg [.int .i64 15,.int .i64 0,.str s,.str [],D.slice [G 26 x95.1],.nils]),x96)))) (bn ((Q8 n).p_take x90.2 [46]) fun x=>cnd x.1 (bn ((Q8 n).p_name x.2) fun y=>q ((.agg [.int .i64 5,.int .i64 0,.str y.1,.str s,.nils,.nils]),y.2)) (q ((.agg [.int .i64 5,.int .i64 0,.str s,.str [],.nils,.nils]),x.2)))) m (JJ T 4 [40] (QoT T (Qj isW T r) d s) (Qhp isW T s)):=by
     intro m hm
     refine Sat.word hT.ends (by decide) hm (JV hT (by omega) hm (by decide)) (fun i j hj hm=>?_) ?_ <;> simp only [Q1,Q0,Bool.not_true,Bool.not_false]
     ·unfold QoT
      cases hc:s == Q0Q with
      | false =>
       have hc':(s == [99,111,117,110,116]) = false:=hc
       simp only [hc',Q0,Bool.false_eq_true,if_false]
       exact agg (by omega) hm
      | true =>
       have hc':(s == [99,111,117,110,116]) = true:=hc
       simp only [hc',Q1,if_true]
       refine Sat.word hT.ends (by decide) hm (JV hT (by omega) hm (by decide)) (fun i j hj hm=>?_) ?_ <;> simp only [Q1,Q0,Bool.not_true,Bool.not_false]
       ·refine Sat.callU (Jh hT (by omega) (hm.mono (Nat.le_succ _)) (by decide)) fun m hm=>?_
        exact Sat.ret hm (Hg rfl) rfl rfl
       ·exact agg (by omega) hm
     ·exact dot hm
    have gt:∀ {v:Bool},(s == Q0Q) = v ∨ (s == Qja) = v ∨ (s == QiB) = v ∨ (s == Qj5) = v → v = true → Yy s = true:=fun h hv=>by
     subst hv
     rcases h with h | h | h | h <;> simp [Yy,h]
    cases g1:s == Q0Q with
    | true =>
     simp only [show (s == [99,111,117,110,116]) = true from g1,Q1,gt (.inl g1) rfl,if_true]
     have:=col hm
     simp only [show (s == [99,111,117,110,116]) = true from g1,Q1] at this
     exact this
    | false =>
    have g1':(s == [99,111,117,110,116]) = false:=g1
    have col':=col hm
    simp only [g1',Q0] at col' ⊢
    cases g2:s == Qja with
    | true =>
     simp only [show (s == [115,117,109]) = true from g2,Q1,gt (.inr (.inl g2)) rfl,if_true]
     exact col'
    | false =>
    simp only [show (s == [115,117,109]) = false from g2,Q0]
    cases g3:s == QiB with
    | true =>
     simp only [show (s == [109,105,110]) = true from g3,Q1,gt (.inr (.inr (.inl g3))) rfl,if_true]
     exact col'
    | false =>
    simp only [show (s == [109,105,110]) = false from g3,Q0]
    cases g4:s == Qj5 with
    | true =>
     simp only [show (s == [109,97,120]) = true from g4,Q1,gt (.inr (.inr (.inr g4))) rfl,if_true]
     exact col'
    | false =>
    simp only [show (s == [109,97,120]) = false from g4,Q0,show Yy s = false by simp [Yy,g1,g2,g3,g4],Bool.false_eq_true,if_false]
    exact dot hm
theorem Qff (hn:N + 2 ≤ n) (hk:k ≤ r + 1) {i:Nat} (hm:(Mix.ok i).In T k):Has T k (bP T d) JB ((Q8 n).p_unary (bP T d (.ok i))) (.ok i) (unaryF isW T (Qj isW T r) d):=by
 obtain ⟨n,rfl,hp⟩:=QJ hn; refine Sat.has (X:=fun q=>Hi (Q8 n) q (loopN (Hi (Q8 n) q) n) (.e (bP T d (.ok i)))) ?_ fun o ho=>Q6 QZ ho; simp only [Hi]
 unfold unaryF
 refine Sat.word hT.ends (by decide) hm (JV hT (by omega) hm (by decide)) (fun i j hj hm=>?_) ?_ <;> simp only [Q1,Q0,Bool.not_true,Bool.not_false]
 ·refine Sat.down hT (by omega) hd hm (fun i d' a e hm=>?_) fun i hm hd1=>?_
  ·have hc4:((bP T (d + 1) (.er i d' a e)).c4 == 0) = false:=Q1j hm.2
   simp only [hc4,Q0]
   exact Sat.spec (Sat.up hT hd hm (show JB (ex 0 0 [] [] .nils .nils) from Hg rfl) rfl rfl) fun j hj=>nomatch hj
  ·have hc4:((bP T (d + 1) (.ok i)).c4 == 0) = true:=rfl
   simp only [hc4,Q1]
   refine Sat.call (ih.unary _ (by omega) _ hd1 _ (by omega) _ hm) fun x m hm hx=>?_
   simp only [hx,Q5,Qy hx]
   exact Sat.up hT hd hm (Hg rfl) rfl rfl
 ·refine Sat.last (QpY hT hN ih hd (by omega) hk hm) fun x m hx q=>?_
  simp only [hx,Q5,JA hx,Qy hx]
end
end Go.Proofs.YtfdcjngclelnhaaGreat
