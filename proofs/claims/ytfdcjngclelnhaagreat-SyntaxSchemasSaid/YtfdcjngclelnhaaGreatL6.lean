/- Part of a proof. -/
import Derived.Test.YtfdcjngclelnhaaGreatL3
set_option linter.unusedSectionVars false
set_option linter.unusedSimpArgs false
set_option linter.unusedVariables false
namespace Go.Proofs.YtfdcjngclelnhaaGreat
open Go
theorem QJ {n k:Nat} (h:k + 1 ≤ n):∃ m,n = m + 1 ∧ k ≤ m:=⟨n - 1,by omega,by omega⟩
def bS (T:List Tok) (d:Nat):Mix → B105
 | .ok i=>⟨tD T,Int.ofNat i,Int.ofNat d,0,0⟩
 | .er i d' a e=>⟨tD T,Int.ofNat i,d',a,e⟩
theorem Q9m {b:Bool} {p:Prop}:cnd b p p = p:=by cases b <;> rfl
theorem Q9a {T:List Tok} {r i:Nat} {d a:Int} (h:i < T.length):(Mix.er i d a 10).In T r:=⟨h,by decide⟩
theorem er9 {T:List Tok} {r i:Nat} {d a:Int} (h:i < T.length):(Mix.er i d a 9).In T r:=⟨h,by decide⟩
theorem QL {i:Nat} (h:i ≤ 200000):IntKind.i64.wrap (Int.ofNat i + 1) = Int.ofNat (i + 1):=by rw [QQ (by simp; omega) (by simp; omega)]; rfl
theorem Q1j {e:Int} (h:e ≠ 0):(e == 0) = false:=by simpa using h
theorem Q2y {e:Int} (h:e ≠ 0):(e != 0) = true:=by simpa using h
section
variable {T:List Tok} (hT:TOk T) {n d i:Nat} {r:Nat} {m:Mix}
include hT
theorem Q0H (hn:1 ≤ n) (hi:i < T.length) {d a e:Int}:(Q8 n).s_now ⟨tD T,Int.ofNat i,d,a,e⟩ = some ((tk T i).d,⟨tD T,Int.ofNat i,d,a,e⟩):=by
 obtain ⟨n,rfl,hp⟩:=QJ hn
 refine Q6 QP fun q=>?_
 simp only [Q4,Q8z,Ya,Q3,Yj hi,JG,Q5,Qy JG]
theorem Q0J (hn:2 ≤ n) (hi:i < T.length) {d x:Int}:(Q8 n).s_fail ⟨tD T,Int.ofNat i,d,0,0⟩ x = some ⟨tD T,Int.ofNat i,d,(tk T i).at_,x⟩:=by
 obtain ⟨n,rfl,hp⟩:=QJ hn
 refine Q6 QdF fun q=>?_
 simp only [Q4,Q2h,Q0H hT hp hi,Q3,JG,Q5,Qjb,beq_self_eq_true,Q1]
omit hT in
theorem Q2g (hn:1 ≤ n) {t:D} {i d a e x:Int} (he:e ≠ 0):(Q8 n).s_fail ⟨t,i,d,a,e⟩ x = some ⟨t,i,d,a,e⟩:=by
 obtain ⟨n,rfl,hp⟩:=QJ hn
 refine Q6 QdF fun q=>?_
 simp only [Q4,Q2h,Q1j he,Q0]
theorem Q4g (hn:2 ≤ n) (hm:m.In T r) {k:Int} {w:List UInt8}:(Q8 n).s_sees (bS T d m) k w = some (m.sees T k w,bS T d m):=by
 obtain ⟨n,rfl,hp⟩:=QJ hn
 refine Q6 QoG fun q=>?_
 cases m with
 | ok i =>
  simp only [Q4,Q2q,bS,beq_self_eq_true,Q1,Q0H hT hp hm.1,Q3,JG,Q5,ZY,Q2D,Mix.sees,JI]
  cases (tk T i).kind == k <;> simp only [Q1,Q0,Bool.true_and,Bool.false_and]
 | er i d' a e=>simp only [Q4,Q2q,bS,Q1j hm.2,Q0,Mix.sees]
theorem Q6C (hn:1 ≤ n) (hi:i + 1 < T.length):(Q8 n).s_next (bS T d (.ok i)) = some (bS T d (.ok (i + 1))):=by
 obtain ⟨n,rfl,hp⟩:=QJ hn
 refine Q6 Q8n fun q=>?_
 have hl:=hT.len
 have e1:IntKind.i64.wrap (Int.ofNat T.length - 1) = Int.ofNat (T.length - 1):=by rw [QQ (by simp; omega) (by simp; omega)]; simp; omega
 have e2:decide (Int.ofNat i < Int.ofNat (T.length - 1)) = true:=by simp; omega
 simp only [Q4,Q5g,bS,Ya,Q3,List.length_map,e1,e2,Q1,QL (show i ≤ 200000 by omega)]
theorem QmU (hn:1 ≤ n) (hm:m.In T r) {k:Int} (hk:k ≠ 0) {w:List UInt8} {q:Bool × B105 → Prop} :
  cnd (m.sees T k w) (bn ((Q8 n).s_next (bS T d m)) fun x=>q (m.sees T k w,x)) (q (m.sees T k w,bS T d m)) = q (m.sees T k w,bS T d (m.takes T k w)):=by
 cases m with
 | ok i =>
  cases h:JI T k w i with
  | true=>simp only [Mix.sees,Mix.takes,h,Q1,Q6C hT hn (hT.ends.next hm.1 (by rw [(JN h).1]; exact hk)),Q3,if_true]
  | false=>simp only [Mix.sees,Mix.takes,h,Q0,Bool.false_eq_true,if_false]
 | er i d a e=>rfl
theorem QA (hn:3 ≤ n) (hm:m.In T r) {w:List UInt8}:(Q8 n).s_word (bS T d m) w = some (m.sees T 1 w,bS T d (m.takes T 1 w)):=by
 obtain ⟨n,rfl,hp⟩:=QJ hn
 refine Q6 QdJ fun q=>?_
 simp only [Q4,Q5b,Q4g hT hp hm,Q3]
 exact QmU hT (by omega) hm (by decide)
theorem Z1 (hn:3 ≤ n) (hm:m.In T r) {w:List UInt8}:(Q8 n).s_mark (bS T d m) w = some (m.sees T 4 w,bS T d (m.takes T 4 w)):=by
 obtain ⟨n,rfl,hp⟩:=QJ hn
 refine Q6 QdJ fun q=>?_
 simp only [Q4,Q52,Q4g hT hp hm,Q3]
 exact QmU hT (by omega) hm (by decide)
theorem QiF (hn:2 ≤ n) (hm:m.In T (r + 1)) {k:Int} (hk:k ≠ 0) {w:List UInt8} {C:Option B105}
  (hc:∀ s,(∀ q:B105 → Prop,cnd (!m.sees T k w) (bn ((Q8 n).s_fail (bS T d (m.takes T k w)) 10) q) (q (bS T d (m.takes T k w))) = q s) → C = some s):Qha T r (bS T d) C m (QG T k w):=by
 cases m with
 | ok i =>
  cases h:JI T k w i with
  | true =>
   refine ⟨_,hc (bS T d (.ok (i + 1))) fun q=>by simp only [Mix.sees,Mix.takes,h,Bool.not_true,Q0,if_true],.ok (i + 1),rfl,?_,trivial,?_⟩
   ·have:=hT.ends.next hm.1 (by rw [(JN h).1]; exact hk)
    obtain ⟨_,h2⟩:=hm
    exact ⟨this,by omega⟩
   ·simp only [Mix.sp,QG,h,if_true,and_self]
  | false =>
   refine ⟨_,hc (bS T d (.er i (Int.ofNat d) (tk T i).at_ 10)) fun q=>by simp only [Mix.sees,Mix.takes,h,Bool.not_false,Q1,Bool.false_eq_true,if_false,bS,Q0J hT hn hm.1,Q3],.er _ _ _ _,rfl,Q9a hm.1,trivial,?_⟩
   simp only [Mix.sp,QG,h,Bool.false_eq_true,if_false,Q1l]
   exact ⟨_,_,rfl⟩
 | er i d' a e =>
  exact ⟨_,hc (bS T d (.er i d' a e)) fun q=>by simp only [Mix.sees,Mix.takes,Bool.not_false,Q1,bS,Q2g (show 1 ≤ n by omega) hm.2,Q3],.er _ _ _ _,rfl,hm,trivial,_,_,rfl⟩
theorem Z3 (hn:4 ≤ n) (hm:m.In T (r + 1)) {w:List UInt8}:Qha T r (bS T d) ((Q8 n).s_must (bS T d m) w) m (QG T 1 w):=by
 obtain ⟨n,rfl,hp⟩:=QJ hn
 exact QiF hT (show 2 ≤ n by omega) hm (by decide) fun s hs=>Q6 QeZ fun q=>by
  simp only [Q4,Q4P,QA hT hp hm,Q3]
  exact hs q
theorem Jp (hn:4 ≤ n) (hm:m.In T (r + 1)) {w:List UInt8}:Qha T r (bS T d) ((Q8 n).s_need (bS T d m) w) m (QG T 4 w):=by
 obtain ⟨n,rfl,hp⟩:=QJ hn
 exact QiF hT (show 2 ≤ n by omega) hm (by decide) fun s hs=>Q6 QeZ fun q=>by
  simp only [Q4,Q4R,Z1 hT hp hm,Q3]
  exact hs q
def Q5W (T:List Tok):Mix → Bool
 | .ok i=>(tk T i).kind == 1 && !isW (tk T i).text
 | .er _ _ _ _=>false
theorem Q9t (hn:2 ≤ n) (hm:m.In T r):(Q8 n).s_named (bS T d m) = some (Q5W T m,bS T d m):=by
 obtain ⟨n,rfl,hp0⟩:=QJ hn
 obtain ⟨n,rfl,hp⟩:=QJ hp0
 refine Q6 QeE fun q=>?_
 cases m with
 | ok i =>
  simp only [Q4,Q0U,bS,beq_self_eq_true,Q1,Q0H hT (show 1 ≤ n + 1 by omega) hm.1,Q3,JG,Q5,ZY,Q2D,Qqj,Q5W]
  cases (tk T i).kind == 1 <;> simp only [Q1,Q0,Bool.true_and,Bool.false_and]
 | er i d' a e=>simp only [Q4,Q0U,bS,Q1j hm.2,Q0,Q5W]
theorem JE (hn:3 ≤ n) (hm:m.In T (r + 1)):Has T r (bS T d) (fun _=>True) ((Q8 n).s_name (bS T d m)) m (JX isW T):=by
 obtain ⟨n,rfl,hp⟩:=QJ hn
 cases m with
 | ok i =>
  cases h:Q5W T (.ok i) with
  | true =>
   have hk:(tk T i).kind ≠ 0:=fun e=>by simp [Q5W,e] at h
   have hi:=hT.ends.next hm.1 hk
   refine ⟨((tk T i).text,bS T d (.ok (i + 1))),Q6 Q9J fun q=>?_,.ok (i + 1),rfl,⟨hi,by obtain ⟨_,h2⟩:=hm; omega⟩,trivial,?_⟩
   ·have e1:=Q6C hT (d:=d) (show 1 ≤ n by omega) hi
    simp only [Q4,Q0w,Q9t hT hp hm,h,Q3,Bool.not_true,Q0]
    simp only [bS] at e1 ⊢
    simp only [Q0H hT (show 1 ≤ n by omega) hm.1,Q3,JG,Q5,e1,Q2D]
   ·simp only [Q5W] at h
    simp only [Mix.sp,JX,h,if_true,and_self]
  | false =>
   refine ⟨([],bS T d (.er i (Int.ofNat d) (tk T i).at_ 10)),Q6 Q9J fun q=>?_,.er _ _ _ _,rfl,Q9a hm.1,trivial,?_⟩
   ·simp only [Q4,Q0w,Q9t hT hp hm,h,Q3,Bool.not_false,Q1]
    simp only [bS,Q0J hT hp hm.1,Q3]
   ·simp only [Q5W] at h
    simp only [Mix.sp,JX,h,Bool.false_eq_true,if_false,Q1l]
    exact ⟨_,_,rfl⟩
 | er i d' a e =>
  refine ⟨([],bS T d (.er i d' a e)),Q6 Q9J fun q=>?_,.er _ _ _ _,rfl,hm,trivial,_,_,rfl⟩
  simp only [Q4,Q0w,Q9t hT hp hm,Q5W,Q3,Bool.not_false,Q1]
  simp only [bS,Q2g (show 1 ≤ n by omega) hm.2,Q3]
theorem Q55 (hn:3 ≤ n) (hm:m.In T (r + 1)):Has T r (bS T d) (fun _=>True) ((Q8 n).s_number (bS T d m)) m (HM T):=by
 obtain ⟨n,rfl,hp⟩:=QJ hn
 cases m with
 | ok i =>
  have en:=@Q0H T hT n i (by omega) hm.1
  cases h:(tk T i).kind == 2 with
  | true =>
   have hk:(tk T i).kind ≠ 0:=fun e=>by simp [e] at h
   have hi:=hT.ends.next hm.1 hk
   refine ⟨((tk T i).n,bS T d (.ok (i + 1))),Q6 Q4n fun q=>?_,.ok (i + 1),rfl,⟨hi,by obtain ⟨_,h2⟩:=hm; omega⟩,trivial,?_⟩
   ·have e1:=Q6C hT (d:=d) (show 1 ≤ n by omega) hi
    simp only [bS] at e1
    simp only [Q4,YA,bS,bne,beq_self_eq_true,Bool.not_true,Q0,en,Q3,JG,Q5,ZY,h,e1,Qe4]
   ·simp only [Mix.sp,HM,h,if_true,and_self]
  | false =>
   refine ⟨(0,bS T d (.er i (Int.ofNat d) (tk T i).at_ 10)),Q6 Q4n fun q=>?_,.er _ _ _ _,rfl,Q9a hm.1,trivial,?_⟩
   ·simp only [Q4,YA,bS,bne,beq_self_eq_true,Bool.not_true,Bool.not_false,Q0,Q1,en,Q3,JG,Q5,ZY,h,Q0J hT (show 2 ≤ n by omega) hm.1]
   ·simp only [Mix.sp,HM,h,Bool.false_eq_true,if_false,Q1l]
    exact ⟨_,_,rfl⟩
 | er i d' a e =>
  refine ⟨(0,bS T d (.er i d' a e)),Q6 Q4n fun q=>?_,.er _ _ _ _,rfl,hm,trivial,_,_,rfl⟩
  simp only [Q4,YA,bS,Q2y hm.2,Q1,Q2g (show 1 ≤ n by omega) hm.2,Q3]
theorem Q0u {α:Type} {good:α → Prop} {K:(α × B105 → Prop) → Bool × B105 → Prop} {g:Nat → Out α} {z:α} (hn:3 ≤ n) (hd:d ≤ 40) (hm:m.In T r) (hz:good z)
  (hN:∀ q s,K q (false,s) = q (z,s))
  (hY:∀ i,(Mix.ok i).In T r → d + 1 ≤ 40 → Sat T r (bS T d) good (fun q=>K q (true,bS T (d + 1) (.ok i))) (.ok i) g):Sat T r (bS T d) good (fun q=>bn ((Q8 n).s_enter (bS T d m)) (K q)) m (Qc (YX T d) fun _=>g):=by
 obtain ⟨n,rfl,hp⟩:=QJ hn
 have hs:∀ {s s'} {v:Bool},(∀ q:Bool × B105 → Prop,ZR (Q8 n) q (loopN (ZR (Q8 n) q) n) (.e s) = q (v,s')) → (Q8 (n + 1)).s_enter s = some (v,s'):=fun h=>Q6 QeE h
 cases m with
 | ok i =>
  by_cases h40:40 < d + 1
  ·have h1:decide (Int.ofNat (d + 1) > 40) = true:=by simp; omega
   have e1:(Q8 (n + 1)).s_enter (bS T d (.ok i)) = some (false,bS T d (.er i (Int.ofNat (d + 1)) (tk T i).at_ 9)):=hs fun q=>by
    simp only [ZR,bS,QL (show d ≤ 200000 by omega),h1,Q1,Q0J hT (show 2 ≤ n by omega) hm.1,Q3]
    rfl
   refine ⟨(z,bS T d (.er i (Int.ofNat (d + 1)) (tk T i).at_ 9)),⟨.er _ _ _ _,rfl,er9 hm.1,hz,?_⟩,fun q=>by simp only [e1,Q3,hN]⟩
   simp only [Mix.sp,Qc,YX,h40,if_true,Q1l,Out.bind]
   exact ⟨_,_,rfl⟩
  ·have h1:decide (Int.ofNat (d + 1) > 40) = false:=by simp; omega
   have e1:(Q8 (n + 1)).s_enter (bS T d (.ok i)) = some (true,bS T (d + 1) (.ok i)):=hs fun q=>by
    simp only [ZR,bS,QL (show d ≤ 200000 by omega),h1,Q0]
    rfl
   obtain ⟨o,g1,g2⟩:=hY i hm (by omega)
   refine ⟨o,?_,fun q=>by simp only [e1,Q3]; exact g2 q⟩
   simpa only [Mix.sp,Qc,YX,h40,if_false,Out.bind] using g1
 | er i d' a e =>
  have e1:(Q8 (n + 1)).s_enter (bS T d (.er i d' a e)) = some (false,bS T d (.er i (IntKind.i64.wrap (d' + 1)) a e)):=hs fun q=>by
   simp only [ZR,bS,Q2g (show 1 ≤ n by omega) hm.2,Q3,Q1j hm.2]
   exact Q9m
  exact ⟨(z,bS T d (.er i (IntKind.i64.wrap (d' + 1)) a e)),⟨.er _ _ _ _,rfl,hm,hz,_,_,rfl⟩,fun q=>by simp only [e1,Q3,hN]⟩
omit hT in
theorem QoW (hn:1 ≤ n) (hd:d ≤ 40) (m:Mix):∃ m',(Q8 n).s_leave (bS T (d + 1) m) = some (bS T d m') ∧ (∀ i,m = .ok i → m' = .ok i) ∧ (∀ i d a e,m = .er i d a e → ∃ d',m' = .er i d' a e):=by
 obtain ⟨n,rfl,hp⟩:=QJ hn
 cases m with
 | ok i =>
  have e1:IntKind.i64.wrap (Int.ofNat (d + 1) - 1) = Int.ofNat d:=by rw [QQ (by simp <;> omega) (by simp <;> omega)]; simp
  refine ⟨.ok i,Q6 Q8n fun q=>?_,fun _ h=>h,fun _ _ _ _ h=>nomatch h⟩
  simp only [Q4,Q0V,bS,e1]
 | er i d' a e =>
  refine ⟨.er i (IntKind.i64.wrap (d' - 1)) a e,Q6 Q8n fun q=>?_,(fun _ h=>nomatch h),fun _ _ _ _ h=>by cases h; exact ⟨_,rfl⟩⟩
  simp only [Q4,Q0V,bS]
theorem Sat.leave {α:Type} {good:α → Prop} {K:(α × B105 → Prop) → B105 → Prop} {v w:α} (hn:1 ≤ n) (hd:d ≤ 40) (hm:m.In T r) (hg:good v) (hv:v = w) (hK:∀ q s,K q s = q (v,s)) :
  Sat T r (bS T d) good (fun q=>bn ((Q8 n).s_leave (bS T (d + 1) m)) (K q)) m (Qx w):=by
 subst hv
 obtain ⟨m',hs,h1,h2⟩:=QoW (T:=T) hn hd m
 refine ⟨(v,bS T d m'),⟨m',rfl,?_,hg,?_⟩,fun q=>by simp only [hs,Q3,hK]⟩
 ·cases m with
  | ok i=>rw [h1 i rfl]; exact hm
  | er i d a e=>obtain ⟨d',e'⟩:=h2 i d a e rfl; rw [e']; exact hm
 ·cases m with
  | ok i=>exact ⟨h1 i rfl,rfl⟩
  | er i d a e=>obtain ⟨d',e'⟩:=h2 i d a e rfl; exact ⟨_,_,e'⟩
end
end Go.Proofs.YtfdcjngclelnhaaGreat
namespace Go.Proofs.YtfdcjngclelnhaaGreat
open Go
abbrev JB (v:D):Prop:=okG 26 v = true
abbrev YJ (v:D):Prop:=okG 38 v = true
abbrev okF (v:D):Prop:=okG 65 v = true
abbrev okI (v:D):Prop:=okG 83 v = true
abbrev okY (v:D):Prop:=okG 85 v = true
def ZZ (v:D):Prop:=v.flat = true
theorem Hg {a n:Int} {s t:List UInt8} {k q:D} (h:(k.flat && q.flat) = true):JB (ex a n s t k q):=okEx.trans h
theorem mkQ {k:Int} {d:Bool} {a b c e f g:D} {l:Int} {h:D} (hh:(a.flat && (b.flat && (c.flat && (e.flat && (f.flat && (g.flat && h.flat)))))) = true):YJ (qu k d a b c e f g l h):=okQu.trans hh
theorem mkF {k:Int} {t:List UInt8} {v:Bool} {a:List UInt8} {q l o:D} (h:(q.flat && (l.flat && o.flat)) = true):okF (frm k t v a q l o):=okFrm.trans h
theorem Yg {w:List UInt8} {x y:D}:JB (ZO w x y):=by unfold ZO JB; rw [okEx]; rfl
section
variable {B:Type} {T:List Tok} {b:Mix → B}
def Qp5 (T:List Tok) (kk:Int) (op:Nat → Option (List UInt8)) (rest:Nat → Out D) (f:Nat) (x:D) (l:List (List UInt8)):Nat → Out D:=fun i =>
 match Yf T kk l i with
 | some w=>(rest (i + 1)).bind fun y=>YU op rest f (ZO w x y)
 | none=>.ok x i
theorem Qb0 {kk:Int} {op:Nat → Option (List UInt8)} {rest:Nat → Out D} {f:Nat} {x:D} {w:List UInt8} {l:List (List UInt8)}:Qp5 T kk op rest f x (w :: l) = JJ T kk w (Qc rest fun y=>YU op rest f (ZO w x y)) (Qp5 T kk op rest f x l):=by
 funext i
 unfold Qp5 JJ Qc
 rw [Yf]
 cases JI T kk w i <;> rfl
inductive LV (B:Type) where
 | l0 (y0:D) (y1:B) (y2:D) (y3:Nat)
 | l1 (y0:D) (y1:Int) (y2:Int) (y3:B) (y4:D) (y5:Nat)
def Q0I (one:B → Option (D × B)) (takes:B → List UInt8 → Option (Bool × B)) (bin:List UInt8 → D → D → Option D) (r:D × B → Prop) (l:LV B → Prop):LV B → Prop
 | .l0 y0 y1 y2 y3=>bn (asL y0) fun x16=>l (.l1 y0 (Int.ofNat x16.length) 0 y1 y2 y3)
 | .l1 y0 y1 y2 y3 y4 y5=>cnd (decide (y2 < y1)) (bn (asL y0) fun x17=>bn (atD x17 y2) fun x18=>an x18.flat (bn (asS x18) fun x19=>bn (takes y3 x19) fun x20=>cnd x20.1 (bn (one x20.2) fun x21=>an (okG 26 x21.1) (an (okG 26 (G 26 y4)) (an (okG 26 (G 26 x21.1)) (bn (bin x19 (G 26 y4) (G 26 x21.1)) fun x22=>an (okG 26 x22) (fl x22 [4,5] (l (.l0 y0 x21.2 x22 (y5 + 6)))))))) (l (.l1 y0 y1 (IntKind.i64.wrap (y2 + 1)) x20.2 y4 y5)))) (fl y4 [4,5] (r ((G 26 y4),y3)))
theorem Q3y {one:B → Option (D × B)} {takes:B → List UInt8 → Option (Bool × B)} {bin:List UInt8 → D → D → Option D} {r:Nat} {kk:Int} {ops:List (List UInt8)} {rest:Nat → Out D} (hT:Ends T) (hkk:kk ≠ 0)
  (htk:∀ k m w,m.In T k → takes (b m) w = some (m.sees T kk w,b (m.takes T kk w)))
  (hone:∀ k,k ≤ r → ∀ i,(Mix.ok i).In T k → Has T k b JB (one (b (.ok i))) (.ok i) rest)
  (hbin:∀ w x y,JB x → JB y → bin w x y = some (ZO w x y)) (hops:ops.length ≤ 6) :
  ∀ k,k ≤ r + 1 → ∀ f,k ≤ f → ∀ n,(k + 1) * 8 ≤ n → ∀ m x w,m.In T k → JB x →
   Sat T k b JB (fun q=>loopN (Q0I one takes bin q) n (.l0 (.slice (ops.map .str)) (b m) x w)) m (YU (Yf T kk ops) rest f x):=by
 intro k
 induction k using Nat.strongRecOn with
 | ind k IH =>
  intro hk f hf n hn m x w hm hx
  have inner:∀ (l:List (List UInt8)) (t n:Nat),ops.drop t = l → t + l.length = ops.length → l.length + 1 + k * 8 ≤ n → ∀ f',k ≤ f' + 1 → Sat T k b JB (fun q=>loopN (Q0I one takes bin q) n (.l1 (.slice (ops.map .str)) (Int.ofNat ops.length) (Int.ofNat t) (b m) x w)) m (Qp5 T kk (Yf T kk ops) rest f' x l):=by
   intro l
   induction l with
   | nil =>
    intro t n hd hl hn f' hf'
    obtain ⟨n,rfl⟩:∃ n',n = n' + 1:=⟨n - 1,by omega⟩
    have e:decide (Int.ofNat t < Int.ofNat ops.length) = false:=by simp at hl ⊢; omega
    simp only [Q4,Q0I,e,Q0,JA hx,Qy hx]
    exact Sat.ret hm hx rfl rfl
   | cons u l ih =>
    intro t n hd hl hn f' hf'
    obtain ⟨n,rfl⟩:∃ n',n = n' + 1:=⟨n - 1,by omega⟩
    have ht:t < ops.length:=by simp at hl; omega
    have e:decide (Int.ofNat t < Int.ofNat ops.length) = true:=by simpa using ht
    have hu:ops[t] = u:=by
     have:=List.drop_eq_getElem_cons ht
     rw [hd] at this
     exact (List.cons.inj this).1.symm
    have hdl:ops.drop (t + 1) = l:=by
     have:=List.drop_eq_getElem_cons ht
     rw [hd] at this
     exact (List.cons.inj this).2.symm
    have ea:atD (ops.map D.str) (Int.ofNat t) = some (.str u):=by
     unfold atD
     rw [if_neg (by simp)]
     show (ops.map D.str)[t]? = _
     rw [List.getElem?_map,List.getElem?_eq_getElem ht,hu]; rfl
    have ew:IntKind.i64.wrap (Int.ofNat t + 1) = Int.ofNat (t + 1):=by rw [QQ (by simp; omega) (by simp; omega)]; rfl
    simp only [Q4,Q0I,e,Q1,asL,Q3,ea,D.flat,Q5,asS,ew]
    rw [Qb0]
    refine Sat.word hT hkk hm (htk k m u hm) (fun i j hj hi=>?_) ?_ <;> simp only [Q1,Q0]
    ·refine Sat.call (hone j (by omega) i hi) fun y m' hm' hy=>?_
     simp only [hy,Q5,Qy hy,Qy hx,hx,hbin u x y hx hy,Q3,Yg,show okG 26 (ZO u x y) = true from Yg,JA (show okG 26 (ZO u x y) = true from Yg)]
     exact IH j (by omega) (by omega) f' (by omega) n (by omega) m' (ZO u x y) (w + 6) hm' Yg
    ·exact ih (t + 1) n hdl (by simp at hl; omega) (by simp at hn; omega) f' hf'
  obtain ⟨n,rfl⟩:∃ n',n = n' + 1:=⟨n - 1,by omega⟩
  simp only [Q4,Q0I,asL,Q3,List.length_map]
  have h0:=inner ops 0 n rfl (by omega) (by omega) (f - 1) (by omega)
  refine Sat.spec h0 fun i hi=>?_
  subst hi
  obtain ⟨f,rfl⟩:∃ f',f = f' + 1:=⟨f - 1,by have:=hm.2; have:=hm.1; omega⟩
  rfl
inductive MV (B:Type) where
 | l0 (y0:List D) (y1:B)
 | l1 (y0:List D) (y1:B) (y2:Nat)
def HT (t sz bytes:Nat) (one:B → Option (D × B)) (mark:B → List UInt8 → Option (Bool × B)) (r:D × B → Prop) (l:MV B → Prop):MV B → Prop
 | .l0 y0 y1=>bn (mark y1 [44]) fun x6=>cnd x6.1 (bn (one x6.2) fun x7=>an (okG t x7.1) (fl x7.1 [4,5] (an (sized sz y0) (an (roomOk (y0.length + 1) bytes) (l (.l1 (y0 ++ [G t x7.1]) x7.2 (y0.length + 1))))))) (r ((.slice y0),x6.2))
 | .l1 y0 y1 y2=>bn (mark y1 [44]) fun x8=>cnd x8.1 (bn (one x8.2) fun x9=>an (okG t x9.1) (fl x9.1 [4,5] (an (y2 == y0.length) (an (roomOk (y2 + 1) bytes) (l (.l1 (y0 ++ [G t x9.1]) x9.2 (y2 + 1))))))) (r ((.slice y0),x8.2))
theorem ZK {n bytes:Nat} (h:n ≤ 1000000) (hb:bytes ≤ 1000):roomOk n bytes = true:=by
 unfold roomOk
 have:n * bytes ≤ 1000000 * 1000:=Nat.mul_le_mul h hb
 have e:2 * n * bytes = 2 * (n * bytes):=Nat.mul_assoc ..
 exact decide_eq_true ⟨by rw [e]; omega,by omega⟩
theorem QbI {t sz bytes:Nat} {one:B → Option (D × B)} {mark:B → List UInt8 → Option (Bool × B)} {r:Nat} {rest:Nat → Out D} (hT:Ends T) (hby:bytes ≤ 1000)
  (hmk:∀ k m,m.In T k → mark (b m) [44] = some (m.sees T 4 [44],b (m.takes T 4 [44])))
  (hone:∀ k,k ≤ r → ∀ m:Mix,m.In T k → Has T k b (fun v=>okG t v = true) (one (b m)) m rest)
  (hfl:∀ v A,okG t v = true → fl v [4,5] A = A) (hsz:∀ v,okG t v = true → v.cells.length = sz) :
  ∀ k,k ≤ r + 1 → ∀ f,k ≤ f → ∀ n,k + 2 ≤ n → ∀ m l,m.In T k → l.length + k ≤ 500000 →
   Sat T k b ZZ (fun q=>loopN (HT t sz bytes one mark q) n (.l1 l (b m) l.length)) m (Z6 T rest f l) ∧
   ∀ x,okG t x = true → l = [x] → Sat T k b ZZ (fun q=>loopN (HT t sz bytes one mark q) n (.l0 l (b m))) m (Z6 T rest f l):=by
 intro k
 induction k using Nat.strongRecOn with
 | ind k IH =>
  intro hk f hf n hn m l hm hl
  obtain ⟨n,rfl⟩:∃ n',n = n' + 1:=⟨n - 1,by omega⟩
  have hconv:∀ {X:(D × B → Prop) → Prop},Sat T k b ZZ X m (JJ T 4 [44] (Qc rest fun y=>Z6 T rest (f - 1) (l ++ [y])) (Qx (.slice l))) → Sat T k b ZZ X m (Z6 T rest f l):=fun h=>by
   refine Sat.spec h fun i hi=>?_
   subst hi
   obtain ⟨f,rfl⟩:∃ f',f = f' + 1:=⟨f - 1,by have:=hm.2; have:=hm.1; omega⟩
   rfl
  constructor
  ·refine hconv ?_
   simp only [Q4,HT]
   refine Sat.word hT (by decide) hm (hmk k m hm) (fun i j hj hi=>?_) (Sat.ret hm rfl rfl rfl)
   simp only [Q1]
   refine Sat.call (hone j (by omega) (.ok i) hi) fun y m' hm' hy=>?_
   simp only [hy,Q5,hfl y _ hy,Qy hy,beq_self_eq_true,ZK (show l.length + 1 ≤ 1000000 by omega) hby]
   have:=(IH j (by omega) (by omega) (f - 1) (by omega) n (by omega) m' (l ++ [y]) hm' (by simp; omega)).1
   rwa [List.length_append] at this
  ·intro x hx hlx
   refine hconv ?_
   have es:sized sz l = true:=by subst hlx; unfold sized; simp [hsz x hx]
   simp only [Q4,HT]
   refine Sat.word hT (by decide) hm (hmk k m hm) (fun i j hj hi=>?_) (Sat.ret hm rfl rfl rfl)
   simp only [Q1]
   refine Sat.call (hone j (by omega) (.ok i) hi) fun y m' hm' hy=>?_
   simp only [hy,Q5,hfl y _ hy,Qy hy,es,ZK (show l.length + 1 ≤ 1000000 by omega) hby]
   have:=(IH j (by omega) (by omega) (f - 1) (by omega) n (by omega) m' (l ++ [y]) hm' (by simp; omega)).1
   rwa [List.length_append] at this
theorem Q71 {t sz bytes:Nat} {one:B → Option (D × B)} {mark:B → List UInt8 → Option (Bool × B)} {r:Nat} {rest:Nat → Out D} (hT:Ends T) (hby:bytes ≤ 1000)
  (hmk:∀ k m w,m.In T k → mark (b m) w = some (m.sees T 4 w,b (m.takes T 4 w)))
  (hone:∀ k,k ≤ r → ∀ m:Mix,m.In T k → Has T k b (fun v=>okG t v = true) (one (b m)) m rest)
  (hfl:∀ v A,okG t v = true → fl v [4,5] A = A) (hsz:∀ v,okG t v = true → v.cells.length = sz) :
  ∀ k,k ≤ r + 1 → ∀ f,k ≤ f → ∀ n,k + 2 ≤ n → ∀ m l,m.In T k → l.length + k ≤ 500000 →
   Sat T k b ZZ (fun q=>loopN (HT t sz bytes one mark q) n (.l1 l (b m) l.length)) m (Z6 T rest f l) ∧
   ∀ x,okG t x = true → l = [x] → Sat T k b ZZ (fun q=>loopN (HT t sz bytes one mark q) n (.l0 l (b m))) m (Z6 T rest f l):=QbI hT hby (fun k m hm=>hmk k m [44] hm) hone hfl hsz
end
end Go.Proofs.YtfdcjngclelnhaaGreat
namespace Go.Proofs.YtfdcjngclelnhaaGreat
open Go
structure SOk (T:List Tok) (N r:Nat):Prop where
 expr:∀ n,N ≤ n → ∀ d,d ≤ 40 → ∀ k,k ≤ r → ∀ m:Mix,m.In T k → Has T k (bS T d) JB ((Q8 n).s_expr (bS T d m)) m ((Qj isW T r).expr d)
 query:∀ n,N ≤ n → ∀ d,d ≤ 40 → ∀ k,k ≤ r → ∀ m:Mix,m.In T k → Has T k (bS T d) YJ ((Q8 n).s_query (bS T d m)) m ((Qj isW T r).query d)
 ands:∀ n,N ≤ n → ∀ d,d ≤ 40 → ∀ k,k ≤ r → ∀ i,(Mix.ok i).In T k → Has T k (bS T d) JB ((Q8 n).s_expr1 (bS T d (.ok i))) (.ok i) ((Qj isW T r).ands d)
 nots:∀ n,N ≤ n → ∀ d,d ≤ 40 → ∀ k,k ≤ r → ∀ i,(Mix.ok i).In T k → Has T k (bS T d) JB ((Q8 n).s_not (bS T d (.ok i))) (.ok i) ((Qj isW T r).nots d)
 sum:∀ n,N ≤ n → ∀ d,d ≤ 40 → ∀ k,k ≤ r → ∀ i,(Mix.ok i).In T k → Has T k (bS T d) JB ((Q8 n).s_sum (bS T d (.ok i))) (.ok i) ((Qj isW T r).sum d)
 prod:∀ n,N ≤ n → ∀ d,d ≤ 40 → ∀ k,k ≤ r → ∀ i,(Mix.ok i).In T k → Has T k (bS T d) JB ((Q8 n).s_prod (bS T d (.ok i))) (.ok i) ((Qj isW T r).prod d)
 unary:∀ n,N ≤ n → ∀ d,d ≤ 40 → ∀ k,k ≤ r → ∀ i,(Mix.ok i).In T k → Has T k (bS T d) JB ((Q8 n).s_unary (bS T d (.ok i))) (.ok i) ((Qj isW T r).unary d)
 part:∀ n,N ≤ n → ∀ d,d ≤ 40 → ∀ k,k ≤ r → ∀ i,(Mix.ok i).In T k → Has T k (bS T d) YJ ((Q8 n).s_part (bS T d (.ok i))) (.ok i) ((Qj isW T r).part d)
theorem Q87 {n:Nat} (hn:1 ≤ n) {w:List UInt8} {x y:D} (hx:JB x) (hy:JB y):(Q8 n).s_bin w x y = some (ZO w x y):=by
 obtain ⟨n,rfl,hp⟩:=QJ hn
 refine Q6 Qfu fun q=>?_
 simp only [Q4,Q7Q,Qy hx,Qy hy]
 rfl
theorem QfI {n:Nat} (hn:1 ≤ n) {s:List UInt8}:(Q8 n).s_gathers s = some (Yy s):=by
 obtain ⟨n,rfl,hp⟩:=QJ hn
 refine Q6 Q2m fun q=>?_
 show Qjc s q [Q0Q,Qja,QiB,Qj5] = _
 rw [Q82]
 simp only [List.contains_cons,List.contains_nil,Yy,Bool.or_false,Bool.or_assoc]
section
variable {T:List Tok} (hT:TOk T) {N r:Nat} (hN:40 + 8 * (r + 3) ≤ N ∧ r ≤ 200000) (ih:SOk T N r) {n d k:Nat} (hd:d ≤ 40) {m:Mix}
include hT hN ih hd
theorem Q0R (hn:N + 1 ≤ n) (hk:k ≤ r) (hm:m.In T k):Has T k (bS T d) YJ ((Q8 n).s_bracketed (bS T d m)) m (JF T (Qj isW T r) d):=by
 obtain ⟨n,rfl,hp⟩:=QJ hn; refine Sat.has (X:=fun q=>Zp (Q8 n) q (loopN (Zp (Q8 n) q) n) (.e (bS T d m))) ?_ fun o ho=>Q6 QP ho; simp only [Zp]
 refine Sat.callU (Jp hT (by omega) (hm.mono (Nat.le_succ _))) fun m hm=>?_
 refine Sat.call (ih.query _ (by omega) _ hd _ hk _ hm) fun x m hm hx=>?_
 simp only [hx,Q5,Q4w hx,Qy hx]
 refine Sat.callU (Jp hT (by omega) (hm.mono (Nat.le_succ _))) fun m hm=>?_
 exact Sat.ret hm hx rfl rfl
theorem QmL (hn:N + 1 ≤ n) (hk:k ≤ r) (hm:m.In T k):Has T k (bS T d) JB ((Q8 n).s_cases (bS T d m)) m (Q5y T (Qj isW T r) d):=by
 obtain ⟨n,rfl,hp⟩:=QJ hn; refine Sat.has (X:=fun q=>Hk (Q8 n) q (loopN (Hk (Q8 n) q) n) (.e (bS T d m))) ?_ fun o ho=>Q6 QP ho; simp only [Hk]
 refine Sat.callU (Z3 hT (by omega) (hm.mono (Nat.le_succ _))) fun m hm=>?_
 refine Sat.call (ih.expr _ (by omega) _ hd _ hk _ hm) fun x m hm hx=>?_
 simp only [hx,Q5,JA hx,Qy hx]
 refine Sat.callU (Z3 hT (by omega) (hm.mono (Nat.le_succ _))) fun m hm=>?_
 refine Sat.call (ih.expr _ (by omega) _ hd _ hk _ hm) fun y m hm hy=>?_
 simp only [hy,Q5,JA hy,Qy hy]
 refine Sat.callU (Z3 hT (by omega) (hm.mono (Nat.le_succ _))) fun m hm=>?_
 refine Sat.call (ih.expr _ (by omega) _ hd _ hk _ hm) fun z m hm hz=>?_
 simp only [hz,Q5,JA hz,Qy hz]
 refine Sat.callU (Z3 hT (by omega) (hm.mono (Nat.le_succ _))) fun m hm=>?_
 exact Sat.ret hm (Hg rfl) rfl rfl
theorem Qmm (hn:N + 1 ≤ n) (hk:k ≤ r) (hm:m.In T k):Has T k (bS T d) JB ((Q8 n).s_round (bS T d m)) m (Q4S T (Qj isW T r) d):=by
 obtain ⟨n,rfl,hp⟩:=QJ hn; refine Sat.has (X:=fun q=>Hf (Q8 n) q (loopN (Hf (Q8 n) q) n) (.e (bS T d m))) ?_ fun o ho=>Q6 QP ho; simp only [Hf]
 refine Sat.see (Q4g hT (by omega) hm) ?_ ?_ <;> simp only [Q1,Q0]
 ·refine Sat.call (ih.query _ (by omega) _ hd _ hk _ hm) fun x m hm hx=>?_
  simp only [hx,Q5,Q4w hx,Qy hx]
  refine Sat.callU (Jp hT (by omega) (hm.mono (Nat.le_succ _))) fun m hm=>?_
  exact Sat.ret hm (Hg rfl) rfl rfl
 ·refine Sat.call (ih.expr _ (by omega) _ hd _ hk _ hm) fun x m hm hx=>?_
  simp only [hx,Q5,JA hx,Qy hx]
  refine Sat.callU (Jp hT (by omega) (hm.mono (Nat.le_succ _))) fun m hm=>?_
  exact Sat.ret hm hx rfl rfl
theorem Qjt (hn:N + 1 ≤ n) (hk:k ≤ r + 1) (hm:m.In T k):Has T k (bS T d) JB ((Q8 n).s_column (bS T d m)) m (Q2t isW T (Qj isW T r) d):=by
 obtain ⟨n,rfl,hp⟩:=QJ hn; refine Sat.has (X:=fun q=>YG (Q8 n) q (loopN (YG (Q8 n) q) n) (.e (bS T d m))) ?_ fun o ho=>Q6 QP ho; simp only [YG]
 refine Sat.call (JE hT (by omega) (hm.mono (Nat.le_succ _))) fun s m hm _=>?_
 simp only [QfI (show 1 ≤ n by omega),Q3]
 have dot:∀ {m:Mix},m.In T k → Sat T k (bS T d) JB (fun q=>bn ((Q8 n).s_mark (bS T d m) [46]) fun x=>cnd x.1 (bn ((Q8 n).s_name x.2) fun y=>q ((.agg [.int .i64 5,.int .i64 0,.str y.1,.str s,.nils,.nils]),y.2)) (q ((.agg [.int .i64 5,.int .i64 0,.str s,.str [],.nils,.nils]),x.2))) m (Qhp isW T s):=by
  intro m hm
  refine Sat.word hT.ends (by decide) hm (Z1 hT (by omega) hm) (fun i j hj hm=>?_) ?_ <;> simp only [Q1,Q0,Bool.not_true,Bool.not_false]
  ·refine Sat.call (JE hT (by omega) (hm.mono (Nat.le_succ _))) fun t m hm _=>?_
   exact Sat.ret hm (Hg rfl) rfl rfl
  ·exact Sat.ret hm (Hg rfl) rfl rfl
 have agg:∀ {m:Mix} {j:Nat},j ≤ r → m.In T j → Sat T j (bS T d) JB (fun q=>bn ((Q8 n).s_expr (bS T d m)) fun x=>an (okG 26 x.1) (bn ((Q8 n).s_need x.2 [41]) fun y=>q ((.agg [.int .i64 15,.int .i64 0,.str s,.str [],D.slice [G 26 x.1],.nils]),y))) m (Qfb T (Qj isW T r) d s):=by
  intro m j hj hm
  refine Sat.call (ih.expr _ (by omega) _ hd _ hj _ hm) fun x m hm hx=>?_
  simp only [hx,Q5,Qy hx]
  refine Sat.callU (Jp hT (by omega) (hm.mono (Nat.le_succ _))) fun m hm=>?_
  exact Sat.ret hm (Hg rfl) rfl rfl
 cases hg:Yy s with
 | false =>
  simp only [Q0,Bool.false_eq_true,if_false]
  exact dot hm
 | true =>
  simp only [Q1,if_true]
  refine Sat.word hT.ends (by decide) hm (Z1 hT (by omega) hm) (fun i j hj hm=>?_) ?_ <;> simp only [Q1,Q0,Bool.not_true,Bool.not_false]
  ·unfold QoT
   cases hc:s == Q0Q with
   | false =>
    have hc':(s == [99,111,117,110,116]) = false:=hc
    simp only [hc',Bool.not_false,Q1,Bool.false_eq_true,if_false]
    exact agg (by omega) hm
   | true =>
    have hc':(s == [99,111,117,110,116]) = true:=hc
    simp only [hc',Bool.not_true,Q0,if_true]
    refine Sat.word hT.ends (by decide) hm (Z1 hT (by omega) hm) (fun i j hj hm=>?_) ?_ <;> simp only [Q1,Q0,Bool.not_true,Bool.not_false]
    ·refine Sat.callU (Jp hT (by omega) (hm.mono (Nat.le_succ _))) fun m hm=>?_
     exact Sat.ret hm (Hg rfl) rfl rfl
    ·exact agg (by omega) hm
  ·exact dot hm
theorem Qqf (hn:N + 2 ≤ n) (hk:k ≤ r + 1) {i:Nat} (hm:(Mix.ok i).In T k):Has T k (bS T d) JB ((Q8 n).s_prim (bS T d (.ok i))) (.ok i) (Q1H isW T (Qj isW T r) d):=by
 obtain ⟨n,rfl,hp⟩:=QJ hn; refine Sat.has (X:=fun q=>Q0t (Q8 n) q (loopN (Q0t (Q8 n) q) n) (.e (bS T d (.ok i)))) ?_ fun o ho=>Q6 QP ho; simp only [Q0t]
 have en:=@Q0H T hT n i (by omega) hm.1 (Int.ofNat d) 0 0
 have hc4:((bS T d (.ok i)).c4 != 0) = false:=rfl
 simp only [hc4,Q0]
 have en':(Q8 n).s_now (bS T d (.ok i)) = some ((tk T i).d,bS T d (.ok i)):=en
 simp only [en',Q3,JG,Q5,ZY,Q2D,Qe4]
 have hnx:∀ {z:D},(tk T i).kind ≠ 0 → JB z → Sat T k (bS T d) JB (fun q=>bn ((Q8 n).s_next (bS T d (.ok i))) fun x=>q (z,x)) (.ok i) (fun _=>.ok z (i + 1)):=fun hk0 hz=>by
  have hi:=hT.ends.next hm.1 hk0
  simp only [Q6C hT (show 1 ≤ n by omega) hi,Q3]
  exact ⟨_,⟨.ok (i + 1),rfl,⟨hi,by have:=hm.2; omega⟩,hz,rfl,rfl⟩,fun _=>rfl⟩
 cases h2:(tk T i).kind == 2 with
 | true =>
  simp only [Q1]
  refine (hnx (fun e=>by simp [e] at h2) (Hg rfl)).spec fun j hj=>?_
  cases hj
  simp only [Q1H,h2,if_true]
 | false =>
  simp only [Q0]
  cases h3:(tk T i).kind == 3 with
  | true =>
   simp only [Q1]
   refine (hnx (fun e=>by simp [e] at h3) (Hg rfl)).spec fun j hj=>?_
   cases hj
   simp only [Q1H,h2,h3,Bool.false_eq_true,if_true,if_false]
  | false =>
   simp only [Q0]
   refine Sat.spec (f:=JJ T 1 Q5l (Qx (ex 1 0 [] [] .nils .nils)) (JJ T 1 Qg4 (Qx (ex 2 1 [] [] .nils .nils)) (JJ T 1 Qda (Qx (ex 2 0 [] [] .nils .nils))
    (JJ T 4 [58] (Qc (JX isW T) fun s=>Qx (ex 6 0 s [] .nils .nils)) (JJ T 1 QgT (Q5y T (Qj isW T r) d)
    (JJ T 1 Q7G (Qc (JF T (Qj isW T r) d) fun q=>Qx (ex 12 0 [] [] .nils (Z5 q))) (JJ T 4 [40] (Q4S T (Qj isW T r) d) (Q2t isW T (Qj isW T r) d)))))))) ?_ fun j hj=>by
     cases hj
     simp only [Q1H,h2,h3,Bool.false_eq_true,if_false]
   refine Sat.word hT.ends (by decide) hm (QA hT (by omega) hm) (fun i j hj hm=>?_) ?_ <;> simp only [Q1,Q0,Bool.not_true,Bool.not_false]
   ·exact Sat.ret hm (Hg rfl) rfl rfl
   refine Sat.word hT.ends (by decide) hm (QA hT (by omega) hm) (fun i j hj hm=>?_) ?_ <;> simp only [Q1,Q0,Bool.not_true,Bool.not_false]
   ·exact Sat.ret hm (Hg rfl) rfl rfl
   refine Sat.word hT.ends (by decide) hm (QA hT (by omega) hm) (fun i j hj hm=>?_) ?_ <;> simp only [Q1,Q0,Bool.not_true,Bool.not_false]
   ·exact Sat.ret hm (Hg rfl) rfl rfl
   refine Sat.word hT.ends (by decide) hm (Z1 hT (by omega) hm) (fun i j hj hm=>?_) ?_ <;> simp only [Q1,Q0,Bool.not_true,Bool.not_false]
   ·refine Sat.call (JE hT (by omega) (hm.mono (Nat.le_succ _))) fun s m hm _=>?_
    exact Sat.ret hm (Hg rfl) rfl rfl
   refine Sat.word hT.ends (by decide) hm (QA hT (by omega) hm) (fun i j hj hm=>?_) ?_ <;> simp only [Q1,Q0,Bool.not_true,Bool.not_false]
   ·refine Sat.last (QmL hT hN ih hd (by omega) (by omega) hm) fun x m hx q=>?_
    simp only [hx,Q5,JA hx,Qy hx]
   refine Sat.word hT.ends (by decide) hm (QA hT (by omega) hm) (fun i j hj hm=>?_) ?_ <;> simp only [Q1,Q0,Bool.not_true,Bool.not_false]
   ·refine Sat.call (Q0R hT hN ih hd (by omega) (by omega) hm) fun x m hm hx=>?_
    simp only [hx,Q5,Qy hx]
    exact Sat.ret hm (Hg rfl) rfl rfl
   refine Sat.word hT.ends (by decide) hm (Z1 hT (by omega) hm) (fun i j hj hm=>?_) ?_ <;> simp only [Q1,Q0,Bool.not_true,Bool.not_false]
   ·refine Sat.last (Qmm hT hN ih hd (by omega) (by omega) hm) fun x m hx q=>?_
    simp only [hx,Q5,JA hx,Qy hx]
   ·refine Sat.last (Qjt hT hN ih hd (by omega) hk hm) fun x m hx q=>?_
    simp only [hx,Q5,JA hx,Qy hx]
theorem Qfy (hn:N + 3 ≤ n) (hk:k ≤ r + 1) {i:Nat} (hm:(Mix.ok i).In T k):Has T k (bS T d) JB ((Q8 n).s_unary (bS T d (.ok i))) (.ok i) (unaryF isW T (Qj isW T r) d):=by
 obtain ⟨n,rfl,hp⟩:=QJ hn; refine Sat.has (X:=fun q=>Ho (Q8 n) q (loopN (Ho (Q8 n) q) n) (.e (bS T d (.ok i)))) ?_ fun o ho=>Q6 QP ho; simp only [Ho]
 refine Sat.word hT.ends (by decide) hm (Z1 hT (by omega) hm) (fun i j hj hm=>?_) ?_ <;> simp only [Q1,Q0,Bool.not_true,Bool.not_false]
 ·rename_i i j
  have h1:Has T j (bS T d) JB ((Q8 n).s_inner_neg (bS T d (.ok i)) 7) (.ok i) (Qc (YX T d) fun _=>Qc ((Qj isW T r).unary (d + 1)) fun x=>Qx (ex 7 0 [] [] (Z5 x) .nils)):=by
   have hn:=hp
   obtain ⟨n,rfl,hp⟩:=QJ hn; refine Sat.has (X:=fun q=>Zs (Q8 n) q (loopN (Zs (Q8 n) q) n) (.e (bS T d (.ok i)) 7)) ?_ fun o ho=>Q6 QaS ho; simp only [Zs]
   refine Q0u hT (by omega) hd hm (show JB (ex 0 0 [] [] .nils .nils) from Hg rfl) (fun q s=>rfl) fun i hi hd1=>?_
   simp only [Bool.not_true,Q0]
   refine Sat.call (ih.unary _ (by omega) _ hd1 _ (by omega) _ hi) fun x m hm hx=>?_
   simp only [hx,Q5,Qy hx]
   exact Sat.leave hT (by omega) hd hm (Hg rfl) rfl fun _ _=>rfl
  refine Sat.last h1 fun x m hx q=>?_
  simp only [hx,Q5,JA hx,Qy hx]
 ·refine Sat.last (Qqf hT hN ih hd (by omega) hk hm) fun x m hx q=>?_
  simp only [hx,Q5,JA hx,Qy hx]
def Qs2:LV B105 → Yw
 | .l0 a b c e=>.l0 a b c e
 | .l1 a b c e f g=>.l1 a b c e f g
def QsG:LV B105 → H5
 | .l0 a b c e=>.l0 a b c e
 | .l1 a b c e f g=>.l1 a b c e f g
def Qsv:LV B105 → H3
 | .l0 a b c e=>.l0 a b c e
 | .l1 a b c e f g=>.l1 a b c e f g
def vOr:LV B105 → HG
 | .l0 a b c e=>.l0 a b c e
 | .l1 a b c e f g=>.l1 a b c e f g
end
theorem Jd {V W:Type} {st:(V → Prop) → V → Prop} {st':(W → Prop) → W → Prop} {v:W → V} (h:∀ l w,st l (v w) = st' (fun w=>l (v w)) w):∀ n w,loopN st n (v w) = loopN st' n w
 | 0,_=>rfl
 | n + 1,w=>by
  rw [Q4,Q4,h]
  exact congrArg (fun l=>st' l w) (funext fun w=>Jd h n w)
theorem QoO {S:Q9} {q:D × B105 → Prop} {n:Nat} {w:LV B105}:loopN (Jw S q) n (Qs2 w) = loopN (Q0I S.s_unary S.s_mark S.s_bin q) n w:=Jd (fun l w=>by cases w <;> rfl) n w
theorem QqN {S:Q9} {q:D × B105 → Prop} {n:Nat} {w:LV B105}:loopN (JK S q) n (QsG w) = loopN (Q0I S.s_prod S.s_mark S.s_bin q) n w:=Jd (fun l w=>by cases w <;> rfl) n w
theorem QpE {S:Q9} {q:D × B105 → Prop} {n:Nat} {w:LV B105}:loopN (JM S q) n (Qsv w) = loopN (Q0I S.s_not S.s_word S.s_bin q) n w:=Jd (fun l w=>by cases w <;> rfl) n w
theorem QrD {S:Q9} {q:D × B105 → Prop} {n:Nat} {w:LV B105}:loopN (Z2 S q) n (vOr w) = loopN (Q0I S.s_expr1 S.s_word S.s_bin q) n w:=Jd (fun l w=>by cases w <;> rfl) n w
section
variable {T:List Tok} (hT:TOk T) {N r:Nat} (hN:40 + 8 * (r + 3) ≤ N ∧ r ≤ 200000) (ih:SOk T N r) {n d k:Nat} (hd:d ≤ 40) {m:Mix}
include hT hN ih hd
theorem QiL (hn:N + 5 ≤ n) (hk:k ≤ r + 1) {i:Nat} (hm:(Mix.ok i).In T k):Has T k (bS T d) JB ((Q8 n).s_prod (bS T d (.ok i))) (.ok i) (prodF isW T (Qj isW T r) (r + 1) d):=by
 have h1:∀ n,N + 4 ≤ n → Has T k (bS T d) JB ((Q8 n).s_left_prod (bS T d (.ok i)) (.slice (opsProd.map .str))) (.ok i) (prodF isW T (Qj isW T r) (r + 1) d):=fun n hn=>by
  obtain ⟨n,rfl,hp⟩:=QJ hn; refine Sat.has (X:=fun q=>Jw (Q8 n) q (loopN (Jw (Q8 n) q) n) (.e (bS T d (.ok i)) (.slice (opsProd.map .str)))) ?_ fun o ho=>Q6 Q5x ho; simp only [Jw]
  refine Sat.call (Qfy hT hN ih hd (by omega) hk hm) fun x m hm hx=>?_
  simp only [hx,Q5,JA hx]
  refine Sat.eq ?_ fun q=>QoO (w:=.l0 _ _ _ _)
  exact Q3y hT.ends (by decide) (fun k m w hm=>Z1 hT (by omega) hm) (fun j hj i hi=>ih.unary n (by omega) d hd j hj i hi) (fun w x y hx hy=>Q87 (by omega) hx hy) (by decide) k hk (r + 1) hk n (by omega) m x 6 hm hx
 obtain ⟨n,rfl,hp⟩:=QJ hn; refine Sat.has (X:=fun q=>Q0n (Q8 n) q (loopN (Q0n (Q8 n) q) n) (.e (bS T d (.ok i)))) ?_ fun o ho=>Q6 QP ho; simp only [Q0n]
 refine Sat.last (h1 n (by omega)) fun x m hx q=>?_
 simp only [hx,Q5,JA hx,Qy hx]
theorem QmZ (hn:N + 7 ≤ n) (hk:k ≤ r + 1) {i:Nat} (hm:(Mix.ok i).In T k):Has T k (bS T d) JB ((Q8 n).s_sum (bS T d (.ok i))) (.ok i) (sumF isW T (Qj isW T r) (r + 1) d):=by
 have h1:∀ n,N + 6 ≤ n → Has T k (bS T d) JB ((Q8 n).s_left_sum (bS T d (.ok i)) (.slice (opsSum.map .str))) (.ok i) (sumF isW T (Qj isW T r) (r + 1) d):=fun n hn=>by
  obtain ⟨n,rfl,hp⟩:=QJ hn; refine Sat.has (X:=fun q=>JK (Q8 n) q (loopN (JK (Q8 n) q) n) (.e (bS T d (.ok i)) (.slice (opsSum.map .str)))) ?_ fun o ho=>Q6 Q5x ho; simp only [JK]
  refine Sat.call (QiL hT hN ih hd (by omega) hk hm) fun x m hm hx=>?_
  simp only [hx,Q5,JA hx]
  refine Sat.eq ?_ fun q=>QqN (w:=.l0 _ _ _ _)
  exact Q3y hT.ends (by decide) (fun k m w hm=>Z1 hT (by omega) hm) (fun j hj i hi=>ih.prod n (by omega) d hd j hj i hi) (fun w x y hx hy=>Q87 (by omega) hx hy) (by decide) k hk (r + 1) hk n (by omega) m x 6 hm hx
 obtain ⟨n,rfl,hp⟩:=QJ hn; refine Sat.has (X:=fun q=>Q2b (Q8 n) q (loopN (Q2b (Q8 n) q) n) (.e (bS T d (.ok i)))) ?_ fun o ho=>Q6 QP ho; simp only [Q2b]
 refine Sat.last (h1 n (by omega)) fun x m hx q=>?_
 simp only [hx,Q5,JA hx,Qy hx]
end
end Go.Proofs.YtfdcjngclelnhaaGreat
