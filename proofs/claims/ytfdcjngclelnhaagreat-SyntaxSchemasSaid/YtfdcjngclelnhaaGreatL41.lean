/- Part of a proof. -/
import Derived.Test.YtfdcjngclelnhaaGreatL19
import Derived.Test.YtfdcjngclelnhaaGreatL40
set_option linter.unusedSectionVars false
set_option linter.unusedSimpArgs false
set_option linter.unusedVariables false
namespace Go.Proofs.YtfdcjngclelnhaaGreat
open Go
set_option maxRecDepth 100000
def ZN:SR → D × Int × Int
 | .ok T=>(tD T,0,0)
 | .bad p e=>(.nils,Int.ofNat p,e)
section
variable {s:List UInt8} (hs:s.length ≤ 20000) {n a:Nat} {T:List Tok} {v w:Nat}
include hs
theorem Qqm (hn:20300 ≤ n) (ha:a < s.length) (hT:T.length ≤ 6000):Q6j ((Q8 n).t_next (rd s a T v w)) s a T (Q7C s a):=by
 obtain ⟨n,rfl,hp⟩:=QJ hn
 have hc:s[a]? = some s[a]:=List.getElem?_eq_getElem ha
 generalize s[a] = c at hc
 have b39:(Int.ofNat c.toNat == 39) = (c.toNat == 39):=Q1k _ 39
 unfold Q7C
 rw [hc]
 try dsimp only
 cases h1:Y9 c.toNat with
 | true =>
  simp only [if_true]
  obtain ⟨v',w',hl⟩:=JC (QpF hs (n:=n) (a:=a) (T:=T) (v:=v) (w:=w) (by omega) (by omega) hT)
  refine ⟨v',w',?_⟩
  cases T with
  | nil =>
   refine Q6 QS fun q=>?_
   rw [← hl q]
   simp only [Q4,Zb,rd,gcT,Zg,Q0,YV,hc,Q3,ZI (show 1 ≤ n by omega),h1,Q1]
  | cons x l =>
   refine Q6 QS fun q=>?_
   rw [← hl q]
   simp only [Q4,Zb,rd,gcT,Zg,Q0,YV,hc,Q3,ZI (show 1 ≤ n by omega),h1,Q1]
 | false =>
  simp only [Bool.false_eq_true,if_false]
  cases h2:QN c.toNat with
  | true =>
   simp only [if_true]
   obtain ⟨v',w',hl⟩:=JC (Qlc hs (n:=n) (a:=a) (T:=T) (v:=v) (w:=w) (by omega) (by omega) hT)
   refine ⟨v',w',?_⟩
   cases T with
   | nil =>
    refine Q6 QS fun q=>?_
    rw [← hl q]
    simp only [Q4,Zb,rd,gcT,Zg,Q0,YV,hc,Q3,ZI (show 1 ≤ n by omega),Y8 (show 1 ≤ n by omega),h1,h2,Q1]
   | cons x l =>
    refine Q6 QS fun q=>?_
    rw [← hl q]
    simp only [Q4,Zb,rd,gcT,Zg,Q0,YV,hc,Q3,ZI (show 1 ≤ n by omega),Y8 (show 1 ≤ n by omega),h1,h2,Q1]
  | false =>
   simp only [Bool.false_eq_true,if_false]
   cases h3:c.toNat == 39 with
   | true =>
    simp only [if_true]
    obtain ⟨v',w',hl⟩:=JC (Qqe hs (n:=n) (a:=a) (T:=T) (v:=v) (w:=w) (by omega) ha hT)
    refine ⟨v',w',?_⟩
    cases T with
    | nil =>
     refine Q6 QS fun q=>?_
     rw [← hl q]
     simp only [Q4,Zb,rd,gcT,Zg,Q0,YV,hc,Q3,ZI (show 1 ≤ n by omega),Y8 (show 1 ≤ n by omega),h1,h2,b39,h3,Q1]
    | cons x l =>
     refine Q6 QS fun q=>?_
     rw [← hl q]
     simp only [Q4,Zb,rd,gcT,Zg,Q0,YV,hc,Q3,ZI (show 1 ≤ n by omega),Y8 (show 1 ≤ n by omega),h1,h2,b39,h3,Q1]
   | false =>
    simp only [Bool.false_eq_true,if_false]
    obtain ⟨v',w',hl⟩:=JC (QpU hs (n:=n) (a:=a) (T:=T) (v:=v) (w:=w) (by omega) hc hT)
    refine ⟨v',w',?_⟩
    cases T with
    | nil =>
     refine Q6 QS fun q=>?_
     rw [← hl q]
     simp only [Q4,Zb,rd,gcT,Zg,Q0,YV,hc,Q3,ZI (show 1 ≤ n by omega),Y8 (show 1 ≤ n by omega),h1,h2,b39,h3]
    | cons x l =>
     refine Q6 QS fun q=>?_
     rw [← hl q]
     simp only [Q4,Zb,rd,gcT,Zg,Q0,YV,hc,Q3,ZI (show 1 ≤ n by omega),Y8 (show 1 ≤ n by omega),h1,h2,b39,h3]
def Q3I (s:List UInt8) (i:Nat) (T:List Tok) (v w:Nat):Q3V:=match T with
 | []=>.l0 s s (Int.ofNat i) v
 | x :: l=>.l1 s s (Int.ofNat i) w ((x :: l).map Tok.d) v
theorem Qkj (hn:40300 ≤ n) {q:D × Int × Int → Prop}:∀ f i T v w n',s.length + 1 ≤ i + f → i ≤ s.length → T.length ≤ 6000 → f + 1 ≤ n' →
  loopN (Jk (Q8 n) q) n' (Q3I s i T v w) = q (ZN (Q08 s f i T)):=by
 intro f
 induction f with
 | zero=>intro i T v w n' h1 h2; omega
 | succ f ih =>
  intro i T v w n' h1 h2 hT hn'
  obtain ⟨n',rfl,hp⟩:=QJ hn'
  obtain ⟨v1,hpass⟩:=QqL hs (n:=n) (a:=i) (T:=T) (v:=v) (w:=w) (by omega) h2
  have hge:=Q0s (s:=s) (s.length - i) i
  have hle:=Q1Y (s:=s) (s.length - i) i h2
  rw [Q08]
  try dsimp only
  generalize Y4 s (s.length - i) i = j at hpass hge hle ⊢
  have e8:((8:Int) != 0) = true:=rfl
  have e10:((10:Int) != 0) = true:=rfl
  have e0:((0:Int) != 0) = false:=rfl
  by_cases hj:s.length ≤ j
  ·have hj':j = s.length:=by omega
   subst hj'
   rw [if_pos (Nat.le_refl _)]
   have eq1:(Int.ofNat s.length == Int.ofNat s.length) = true:=beq_self_eq_true _
   by_cases h6:6000 ≤ T.length
   ·rw [if_pos h6]
    have hput:=Qnz (n:=n) (by omega) (s:=s) (a:=s.length) (p:=s.length) (T:=T) (v:=v1) (w:=w) (t:=⟨0,[],0,Int.ofNat s.length⟩) (by omega) rfl
    cases T with
    | nil=>simp at h6
    | cons x l =>
     simp only [rd,gcT,Tok.d] at hpass hput
     simp only [Q3I,Q4,Jk,hpass,Q3,gcas,eq1,Q1,hput,e8,ZN]
   ·rw [if_neg h6]
    have hput:=Qmo (n:=n) (by omega) (s:=s) (a:=s.length) (T:=T) (v:=v1) (w:=w) (t:=⟨0,[],0,Int.ofNat s.length⟩) (by omega)
    cases T with
    | nil =>
     simp only [rd,gcT,Tok.d,List.nil_append,List.map_cons,List.map_nil] at hpass hput
     simp only [Q3I,Q4,Jk,hpass,Q3,gcas,eq1,Q1,hput,e0,Q0]
     rfl
    | cons x l =>
     unfold rd at hput
     rw [QiW] at hput
     simp only [rd,gcT] at hpass hput
     have e9:Tok.d ⟨0,[],0,Int.ofNat s.length⟩ = (.agg [.int .i64 0,.str [],.int .i64 0,.int .i64 (Int.ofNat s.length)]):=rfl
     rw [e9] at hput
     simp only [Q3I,Q4,Jk,hpass,Q3,gcas,eq1,Q1,hput,e0,Q0]
     simp only [ZN,tD,List.map_append,List.map_cons,List.map_nil,e9]
  ·rw [if_neg hj]
   have eq1:(Int.ofNat j == Int.ofNat s.length) = false:=by
    rw [Qsr]
    cases h:j == s.length with
    | false=>rfl
    | true=>have:=eq_of_beq h; omega
   obtain ⟨v2,w2,hnext⟩:=Qqm hs (n:=n) (a:=j) (T:=T) (v:=v1) (w:=w) (by omega) (by omega) hT
   cases ho:Q7C s j with
   | bad p =>
    rw [ho] at hnext
    simp only [Hv] at hnext
    try dsimp only
    cases T with
    | nil =>
     simp only [rd,gcT] at hpass hnext
     simp only [Q3I,Q4,Jk,hpass,Q3,gcas,eq1,Q0,hnext,e10,Q1,ZN]
    | cons x l =>
     simp only [rd,gcT] at hpass hnext
     simp only [Q3I,Q4,Jk,hpass,Q3,gcas,eq1,Q0,hnext,e10,Q1,ZN]
   | tok t e =>
    rw [ho] at hnext
    obtain ⟨g1,g2,g3⟩:=Q3s (by omega) ho
    try dsimp only
    by_cases h6:6000 ≤ T.length
    ·rw [if_pos h6]
     simp only [Hv,if_neg (show ¬ T.length < 6000 by omega)] at hnext
     cases T with
     | nil=>simp at h6
     | cons x l =>
      simp only [rd,gcT] at hpass hnext
      simp only [Q3I,Q4,Jk,hpass,Q3,gcas,eq1,Q0,hnext,e8,Q1,ZN]
    ·rw [if_neg h6]
     simp only [Hv,if_pos (show T.length < 6000 by omega)] at hnext
     have h0:=ih e (T ++ [t]) v2 w2 n' (by omega) g2 (by simp; omega) hp
     rw [← h0]
     cases T with
     | nil =>
      simp only [rd,gcT,List.nil_append] at hpass hnext
      simp only [Q3I,Q4,Jk,hpass,Q3,gcas,eq1,Q0,hnext,e0,List.nil_append]
     | cons x l =>
      simp only [rd,gcT,List.cons_append] at hpass hnext
      simp only [Q3I,Q4,Jk,hpass,Q3,gcas,eq1,Q0,hnext,e0,List.cons_append]
end
theorem Qqy {n:Nat} (hn:40400 ≤ n) {s:List UInt8}:(Q8 n).t_Scan s = some (ZN (Zk s)):=by
 obtain ⟨n,rfl,hp⟩:=QJ hn
 refine Q6 QbT fun q=>?_
 have eg:decide (Int.ofNat s.length > 20000) = decide (20000 < s.length):=gtL _ 20000
 unfold Zk
 by_cases h:s.length > 20000
 ·rw [if_pos h]
  simp only [Q4,Jk,eg,decide_eq_true h,Q1]
  rfl
 ·rw [if_neg h]
  simp only [Q4,Jk,eg,decide_eq_false h,Q0]
  exact Qkj (by omega) (n:=n) (by omega) (q:=q) (s.length + 1) 0 [] 0 0 n (by omega) (by omega) (by simp) (by omega)
end Go.Proofs.YtfdcjngclelnhaaGreat
namespace Go.Proofs.YtfdcjngclelnhaaGreat
open Go
variable {s:List UInt8} {a:Nat}
def Qiw (t:Tok):Prop:=(t.kind = 1 → QT t.text = true) ∧ (t.kind = 4 → QT t.text = false)
theorem Qph {s:List UInt8} {a:Nat} (ha:a < s.length) {t:Tok} {e:Nat} (h:Q7C s a = .tok t e):Qiw t:=by
 have hc:s[a]? = some s[a]:=List.getElem?_eq_getElem ha
 have hd:s.drop a = s[a] :: s.drop (a + 1):=List.drop_eq_getElem_cons ha
 have he:=(Q3s ha h).1
 have fst:∀ {e},a < e → QT (sl s a e) = Y9 (s[a]).toNat:=fun {e} he=>by
  unfold sl
  rw [hd,show e - a = (e - a - 1) + 1 by omega,List.take_succ_cons]; rfl
 unfold Q7C at h
 rw [hc] at h
 dsimp only at h
 split at h
 ·rename_i hl
  unfold Qbm at h
  dsimp only at h
  split at h
  ·cases h
  ·cases h
   exact ⟨fun _=>by rw [fst he]; exact hl,fun hk=>absurd (show (1:Int) = 4 from hk) (by decide)⟩
 ·rename_i hl
  split at h
  ·unfold Qlv at h
   dsimp only at h
   split at h
   ·cases h
   ·cases h; exact ⟨fun hk=>absurd (show (2:Int) = 1 from hk) (by decide),fun hk=>absurd (show (2:Int) = 4 from hk) (by decide)⟩
  ·split at h
   ·have go:∀ k i acc,Zl s a k i acc = .tok t e → t.kind = 3:=by
     intro k
     induction k with
     | zero=>intro i acc h; cases h
     | succ k ih =>
      intro i acc h
      unfold Zl at h
      split at h
      ·cases h
      ·split at h
       ·cases h
       ·split at h
        ·exact ih _ _ h
        ·split at h
         ·exact ih _ _ h
         ·split at h
          ·cases h
          ·cases h; rfl
    have:=go _ _ _ h
    exact ⟨fun hk=>absurd (this.symm.trans hk) (by decide),fun hk=>absurd (this.symm.trans hk) (by decide)⟩
   ·unfold Qe9 at h
    split at h
    ·cases h
    ·cases h
     refine ⟨fun hk=>absurd (show (4:Int) = 1 from hk) (by decide),fun _=>?_⟩
     rw [fst he]
     simpa using hl
theorem Qbf {s:List UInt8}:∀ f i T,i ≤ s.length → (∀ t ∈ T,Qiw t) → T.length ≤ 6000 → ∀ T',Q08 s f i T = .ok T' → (∀ t ∈ T',Qiw t) ∧ T'.length ≤ 6001 ∧ ∃ l,T' = l ++ [⟨0,[],0,Int.ofNat s.length⟩]
 | 0,i,T,_,_,_,T',h=>nomatch h
 | f + 1,i,T,hi,hT,hl,T',h=>by
  have hle:=Q1Y (s:=s) (s.length - i) i hi
  rw [Q08] at h
  try dsimp only at h
  generalize Y4 s (s.length - i) i = j at hle h
  split at h
  ·split at h
   ·cases h
   ·cases h
    refine ⟨fun t ht=>?_,by simp; omega,T,rfl⟩
    rcases List.mem_append.1 ht with ht | ht
    ·exact hT t ht
    ·rw [List.mem_singleton.1 ht]
     exact ⟨fun hk=>absurd (show (0:Int) = 1 from hk) (by decide),fun hk=>absurd (show (0:Int) = 4 from hk) (by decide)⟩
  ·split at h
   ·cases h
   ·rename_i t e ho
    split at h
    ·cases h
    ·exact Qbf f e (T ++ [t]) (Q3s (by omega) ho).2.1 (fun t' ht'=>by
      rcases List.mem_append.1 ht' with ht' | ht'
      ·exact hT t' ht'
      ·rw [List.mem_singleton.1 ht']; exact Qph (by omega) ho) (by simp; omega) T' h
theorem Q6X {s:List UInt8} {T:List Tok} (h:Zk s = .ok T):TOk T:=by
 unfold Zk at h
 split at h
 ·cases h
 ·obtain ⟨h1,h2,l,rfl⟩:=Qbf (s.length + 1) 0 [] (by omega) (by simp) (by simp) T h
  have hat:∀ i,Qiw (tk (l ++ [⟨0,[],0,Int.ofNat s.length⟩]) i):=fun i=>by
   unfold tk
   rw [List.getD_eq_getElem?_getD]
   cases hg:(l ++ [(⟨0,[],0,Int.ofNat s.length⟩:Tok)])[i]? with
   | none=>exact ⟨fun hk=>absurd (show (0:Int) = 1 from hk) (by decide),fun hk=>absurd (show (0:Int) = 4 from hk) (by decide)⟩
   | some t=>exact h1 t (List.mem_of_getElem? hg)
  refine ⟨⟨by simp,?_⟩,by omega,fun i=>(hat i).1,fun i=>(hat i).2⟩
  unfold tk
  rw [List.getD_eq_getElem?_getD,show (l ++ [(⟨0,[],0,Int.ofNat s.length⟩:Tok)]).length - 1 = l.length by simp,List.getElem?_append_right (Nat.le_refl _)]
  simp
end Go.Proofs.YtfdcjngclelnhaaGreat
namespace Go.Proofs.YtfdcjngclelnhaaGreat
open Go
def Yi {α:Type} (P:α → Prop) (f:Nat → Out α):Prop:=∀ i v j,f i = .ok v j → P v
section
variable {α β:Type} {P:α → Prop} {Q:β → Prop} {T:List Tok} {kk:Int} {s:List UInt8}
theorem Yi.any {f:Nat → Out α}:Yi (fun _=>True) f:=fun _ _ _ _=>trivial
theorem Yi.ret {v:α} (h:P v):Yi P (Qx v):=fun i w j e=>by cases e; exact h
theorem Yi.seq {f:Nat → Out α} {g:α → Nat → Out β} (hf:Yi P f) (hg:∀ v,P v → Yi Q (g v)):Yi Q (Qc f g):=fun i v j e=>by
 unfold Qc at e
 cases hx:f i with
 | ok w i'=>rw [hx] at e; exact hg w (hf i w i' hx) i' v j e
 | err a b=>rw [hx] at e; cases e
theorem Yi.skip {f:Nat → Out α} {g:α → Nat → Out β} (hg:∀ v,Yi Q (g v)):Yi Q (Qc f g):=Yi.seq Yi.any fun v _=>hg v
theorem Yi.if_ {A Z:Nat → Out α} (h1:Yi P A) (h2:Yi P Z):Yi P (JJ T kk s A Z):=fun i v j e=>by
 unfold JJ at e
 split at e
 ·exact h1 _ _ _ e
 ·exact h2 _ _ _ e
theorem Yi.see {A Z:Nat → Out α} (h1:Yi P A) (h2:Yi P Z):Yi P (Q78 T kk s A Z):=fun i v j e=>by
 unfold Q78 at e
 split at e
 ·exact h1 _ _ _ e
 ·exact h2 _ _ _ e
theorem Yi.ite {c:Prop} [Decidable c] {A Z:Nat → Out α} (h1:Yi P A) (h2:Yi P Z):Yi P (if c then A else Z):=by
 split
 ·exact h1
 ·exact h2
end
theorem W.one {k e:Nat} {x:D} (hk:el k = some e) (h:W e x):W k (Z5 x):=.sl hk (by simp) fun y hy=>by rw [List.mem_singleton.1 hy]; exact h
theorem W.two {k e:Nat} {x y:D} (hk:el k = some e) (h1:W e x) (h2:W e y):W k (.slice [x,y]):=.sl hk (by simp) fun z hz=>by
 rcases List.mem_cons.1 hz with rfl | hz
 ·exact h1
 ·rw [List.mem_singleton.1 hz]; exact h2
theorem W.e0 {a n:Int} {s t:List UInt8}:W 0 (_root_.Go.Proofs.YtfdcjngclelnhaaGreat.ex a n s t .nils .nils):=.ex (.nils rfl) (.nils rfl)
theorem W.e1 {a n:Int} {s t:List UInt8} {x:D} (h:W 0 x):W 0 (_root_.Go.Proofs.YtfdcjngclelnhaaGreat.ex a n s t (Z5 x) .nils):=.ex (.one rfl h) (.nils rfl)
theorem W.eq {a n:Int} {s t:List UInt8} {x:D} (h:W 2 x):W 0 (_root_.Go.Proofs.YtfdcjngclelnhaaGreat.ex a n s t .nils (Z5 x)):=.ex (.nils rfl) (.one rfl h)
theorem W.bin {m:List UInt8} {x y:D} (h1:W 0 x) (h2:W 0 y):W 0 (ZO m x y):=.ex (.two rfl h1 h2) (.nils rfl)
structure YR (R:Qf9):Prop where
 expr:∀ d,Yi (W 0) (R.expr d)
 ands:∀ d,Yi (W 0) (R.ands d)
 nots:∀ d,Yi (W 0) (R.nots d)
 sum:∀ d,Yi (W 0) (R.sum d)
 prod:∀ d,Yi (W 0) (R.prod d)
 unary:∀ d,Yi (W 0) (R.unary d)
 query:∀ d,Yi (W 2) (R.query d)
 part:∀ d,Yi (W 2) (R.part d)
theorem Q7z {op:Nat → Option (List UInt8)} {rest:Nat → Out D} (h:Yi (W 0) rest):∀ r x,W 0 x → Yi (W 0) (YU op rest r x)
 | 0,x,hx=>Yi.ret hx
 | r + 1,x,hx=>fun i v j e=>by
  unfold YU at e
  split at e
  ·rename_i m hm
   cases hy:rest (i + 1) with
   | ok y i'=>rw [hy] at e; exact Q7z h r _ (W.bin hx (h _ _ _ hy)) _ _ _ e
   | err a b=>rw [hy] at e; cases e
  ·cases e; exact hx
theorem QoP {T:List Tok} {rest:Nat → Out D} {k e:Nat} (hk:el k = some e) (h:Yi (W e) rest):∀ r l,l.length + r ≤ 400000 → (∀ x ∈ l,W e x) → Yi (W k) (Z6 T rest r l)
 | 0,l,hb,hl=>Yi.ret (.sl hk (by omega) hl)
 | r + 1,l,hb,hl=>Yi.if_ (Yi.seq h fun y hy=>QoP hk h r _ (by simp; omega) fun z hz=>by
   rcases List.mem_append.1 hz with hz | hz
   ·exact hl z hz
   ·rw [List.mem_singleton.1 hz]; exact hy) (Yi.ret (.sl hk (by omega) hl))
theorem Qgu {T:List Tok} {one:Nat → Out D} {k e:Nat} {r:Nat} (hk:el k = some e) (hr:r ≤ 200000) (h:Yi (W e) one):Yi (W k) (Ye T one r) :=
 Yi.seq h fun x hx=>QoP hk h r [x] (by simp; omega) fun z hz=>by rw [List.mem_singleton.1 hz]; exact hx
section
variable {isW:List UInt8 → Bool} {T:List Tok} {R:Qf9} {r:Nat} (h:YR R) (hr:r ≤ 200000) (d:Nat)
include h
theorem Q1x:Yi (W 2) (JF T R d):=Yi.skip fun _=>Yi.seq (h.query d) fun q hq=>Yi.skip fun _=>Yi.ret hq
theorem QpJ:Yi (W 0) (Q5y T R d):=Yi.skip fun _=>Yi.seq (h.expr d) fun a ha=>Yi.skip fun _=>Yi.seq (h.expr d) fun b hb=>Yi.skip fun _=>Yi.seq (h.expr d) fun c hc=>Yi.skip fun _=>Yi.ret (.ex (.sl rfl (by simp) fun z hz=>by
 rcases List.mem_cons.1 hz with rfl | hz
 ·exact ha
 ·rcases List.mem_cons.1 hz with rfl | hz
  ·exact hb
  ·rw [List.mem_singleton.1 hz]; exact hc) (.nils rfl))
theorem QqJ:Yi (W 0) (Q4S T R d):=Yi.see (Yi.seq (h.query d) fun q hq=>Yi.skip fun _=>Yi.ret (.eq hq)) (Yi.seq (h.expr d) fun x hx=>Yi.skip fun _=>Yi.ret hx)
theorem Qpm {s:List UInt8}:Yi (W 0) (Qfb T R d s):=Yi.seq (h.expr d) fun x hx=>Yi.skip fun _=>Yi.ret (.e1 hx)
theorem Qs5 {s:List UInt8}:Yi (W 0) (QoT T R d s):=Yi.ite (Yi.if_ (Yi.skip fun _=>Yi.ret .e0) (Qpm h d)) (Qpm h d)
omit h in
theorem QqT {s:List UInt8}:Yi (W 0) (Qhp isW T s):=Yi.if_ (Yi.skip fun _=>Yi.ret .e0) (Yi.ret .e0)
theorem Qn6:Yi (W 0) (Q2t isW T R d):=Yi.skip fun s=>Yi.ite (Yi.if_ (Qs5 h d) QqT) QqT
theorem QrQ:Yi (W 0) (Q1H isW T R d):=fun i v j e=>by
 unfold Q1H at e
 split at e
 ·cases e; exact .e0
 ·split at e
  ·cases e; exact .e0
  ·exact (Yi.if_ (Yi.ret .e0) (Yi.if_ (Yi.ret .e0) (Yi.if_ (Yi.ret .e0) (Yi.if_ (Yi.skip fun _=>Yi.ret .e0) (Yi.if_ (QpJ h d) (Yi.if_ (Yi.seq (Q1x h d) fun q hq=>Yi.ret (.eq hq)) (Yi.if_ (QqJ h d) (Qn6 h d)))))))) _ _ _ e
theorem QiK:Yi (W 0) (unaryF isW T R d):=Yi.if_ (Yi.skip fun _=>Yi.seq (h.unary (d + 1)) fun x hx=>Yi.ret (.e1 hx)) (QrQ h d)
theorem Qnu:Yi (W 0) (prodF isW T R r d):=Yi.seq (QiK h d) fun x hx=>Q7z (h.unary d) r x hx
theorem QqS:Yi (W 0) (sumF isW T R r d):=Yi.seq (Qnu h d) fun x hx=>Q7z (h.prod d) r x hx
omit h in
theorem QsC {x:D} (hx:W 0 x):Yi (W 0) (isF T x):=Yi.if_ (Yi.skip fun _=>Yi.ret (.e1 hx)) (Yi.skip fun _=>Yi.ret (.e1 hx))
theorem QrR {x:D} (hx:W 0 x):Yi (W 0) (Q5A T R d x):=Yi.if_ (QsC hx) (Yi.if_ (Yi.skip fun _=>Yi.seq (Q1x h d) fun q hq=>Yi.ret (.ex (.one rfl hx) (.one rfl hq))) (Yi.if_ (Yi.seq (Q1x h d) fun q hq=>Yi.ret (.ex (.one rfl hx) (.one rfl hq))) (Yi.ret hx)))
theorem Qrw {x:D} (hx:W 0 x):Yi (W 0) (QdZ T R d x):=fun i v j e=>by
 unfold QdZ at e
 split at e
 ·rename_i m hm
  cases hy:R.sum d (i + 1) with
  | ok y i'=>rw [hy] at e; cases e; exact .bin hx (h.sum d _ _ _ hy)
  | err a b=>rw [hy] at e; cases e
 ·exact QrR h d hx _ _ _ e
theorem Qs7:Yi (W 0) (QpS isW T R r d):=Yi.seq (QqS h d) fun x hx=>Qrw h d hx
theorem QqU:Yi (W 0) (notF isW T R r d):=Yi.if_ (Yi.skip fun _=>Yi.seq (h.nots (d + 1)) fun x hx=>Yi.ret (.e1 hx)) (Qs7 h d)
theorem Qrd:Yi (W 0) (andF isW T R r d):=Yi.seq (QqU h d) fun x hx=>Q7z (h.nots d) r x hx
theorem QsB:Yi (W 0) (orF isW T R r d):=Yi.seq (Qrd h d) fun x hx=>Q7z (h.ands d) r x hx
theorem Qrs:Yi (W 0) (exprF isW T R r d):=Yi.skip fun _=>QsB h (d + 1)
theorem QrB:Yi (W 8) (Q84 isW T R d):=Yi.seq (h.expr d) fun x hx=>Yi.skip fun _=>Yi.skip fun s=>Yi.ret (.itm hx)
theorem Qs6:Yi (W 9) (Q9Y T R d):=Yi.seq (h.expr d) fun x hx=>Yi.if_ (Yi.ret (.ky hx)) (Yi.ret (.ky hx))
theorem Qf2:Yi (W 4) (Yb isW T R d) :=
 Yi.if_ (Yi.seq (h.query d) fun q hq=>Yi.skip fun _=>Yi.skip fun _=>Yi.skip fun s=>Yi.ret (.frm (.one rfl hq) (.nils rfl) (.nils rfl)))
  (Yi.skip fun s=>Yi.skip fun v=>Yi.if_ (Yi.skip fun t=>Yi.ret (.frm (.nils rfl) (.nils rfl) (.nils rfl))) (Yi.ret (.frm (.nils rfl) (.nils rfl) (.nils rfl))))
theorem Qnr:∀ k x,W 4 x → Yi (W 4) (JU isW T R d k x)
 | 0,x,hx=>Yi.ret hx
 | k + 1,x,hx=>by
  have go:∀ kind:Int,Yi (W 4) (Qc (Yb isW T R d) fun y=>Qc (QG T 1 Qjy) fun _=>Qc (R.expr d) fun e=>JU isW T R d k (frm kind [] false [] .nils (.slice [x,y]) (Z5 e))):=fun kind =>
   Yi.seq (Qf2 h d) fun y hy=>Yi.skip fun _=>Yi.seq (h.expr d) fun e he=>Qnr k _ (.frm (.nils rfl) (.two rfl hx hy) (.one rfl he))
  exact Yi.if_ (Yi.skip fun _=>go 4) (Yi.if_ (go 3) (Yi.ret hx))
theorem QoL:Yi (W 4) (Q0K isW T R r d):=Yi.seq (Qf2 h d) fun x hx=>Qnr h d r x hx
omit h in
theorem Qmz {w:List UInt8} {f:Nat → Out D} {k e:Nat} (hk:el k = some e) (hf:Yi (W e) f):Yi (W k) (Q4v T w f):=Yi.if_ (Yi.seq hf fun x hx=>Yi.ret (.one hk hx)) (Yi.ret (.nils hk))
include hr
theorem Qqg:Yi (fun v:D × D=>W 1 v.1 ∧ W 1 v.2) (QcT T R r d):=Yi.if_ (Yi.skip fun _=>Yi.seq (Qgu rfl hr (h.expr d)) fun g hg=>Yi.seq (Qmz rfl (h.expr d)) fun x hx=>Yi.ret ⟨hg,hx⟩) (Yi.ret ⟨.nils rfl,.nils rfl⟩)
theorem QpV:Yi (W 7) (QcM T R r d):=Yi.if_ (Yi.skip fun _=>Qgu rfl hr (Qs6 h d)) (Yi.ret (.nils rfl))
theorem QoF:Yi (W 2) (Q6G isW T R r d):=Yi.skip fun _=>Yi.skip fun dist=>Yi.seq (Qgu rfl hr (QrB h d)) fun items hi=>Yi.seq (Qmz rfl (QoL h d)) fun froms hf=>Yi.seq (Qmz rfl (h.expr d)) fun wheres hw =>
 Yi.seq (Qqg h hr d) fun gh hg=>Yi.seq (QpV h hr d) fun order ho=>Yi.skip fun limit=>Yi.ret (.qu hi hf hw hg.1 hg.2 ho (.nils rfl))
theorem QoV:Yi (W 2) (Q6O isW T R r d):=Yi.if_ (Yi.seq (h.query d) fun q hq=>Yi.skip fun _=>Yi.ret hq) (QoF h hr d)
omit h hr in
theorem Qr3 {part:Nat → Out D} (hp:Yi (W 2) part):∀ k x,W 2 x → Yi (W 2) (JY T part k x)
 | 0,x,hx=>Yi.ret hx
 | k + 1,x,hx=>by
  have go:∀ kind:Int,Yi (W 2) (Qc part fun y=>JY T part k (qu kind false .nils .nils .nils .nils .nils .nils (-1) (.slice [x,y]))):=fun kind =>
   Yi.seq hp fun y hy=>Qr3 hp k _ (.qu (.nils rfl) (.nils rfl) (.nils rfl) (.nils rfl) (.nils rfl) (.nils rfl) (.two rfl hx hy))
  exact Yi.if_ (Yi.if_ (go 3) (go 2)) (Yi.if_ (go 4) (Yi.if_ (go 5) (Yi.ret hx)))
theorem QqQ:Yi (W 2) (queryF isW T R r d):=Yi.skip fun _=>Yi.seq (QoV h hr (d + 1)) fun x hx=>Qr3 (h.part (d + 1)) r x hx
end
theorem Qre {isW:List UInt8 → Bool} {T:List Tok}:∀ r,r ≤ 200000 → YR (Qj isW T r)
 | 0,_=>by constructor <;> intro d i v j e <;> cases e
 | r + 1,hr=>by
  have h:=Qre (isW:=isW) (T:=T) r (by omega)
  constructor <;> intro d
  ·exact Qrs h d
  ·exact Qrd h d
  ·exact QqU h d
  ·exact QqS h d
  ·exact Qnu h d
  ·exact QiK h d
  ·exact QqQ h hr d
  ·exact QoV h hr d
theorem Qpt {k:Nat} {x:D} (h:W k x):Qsk k x:=by
 induction h with
 | ex _ _ h1 h2=>exact ⟨Hg (by rw [h1.1,h2.1]; rfl),QmA h1.2 h2.2⟩
 | qu _ _ _ _ _ _ _ ha hb hc he hf hg hh =>
  obtain ⟨fa,la,ea,ba,ga⟩:=ha
  obtain ⟨fg,lg,eg,bg,gg⟩:=hg
  exact ⟨mkQ (by rw [fa,hb.1,hc.1,he.1,hf.1,fg,hh.1]; rfl),QnN rfl rfl ea eg ba bg ga gg hb.2 hc.2 he.2 hf.2 hh.2⟩
 | frm _ _ _ h1 h2 h3=>exact ⟨mkF (by rw [h1.1,h2.1,h3.1]; rfl),h1.2.and (h2.2.and h3.2)⟩
 | itm _ h=>exact ⟨(QaO h.1).1,by rw [QiN h.1]; exact h.1,by rw [QiN h.1]; exact h.2⟩
 | ky _ h=>exact ⟨(Q8H h.1).1,by rw [QoA h.1]; exact h.1,by rw [QoA h.1]; exact h.2⟩
 | @nils k e hk =>
  have hz:asL D.nils = some []:=rfl
  match k,hk with
  | 1,_=>exact ⟨rfl,QbA hz (by simp) fun y hy=>by cases hy⟩
  | 3,_=>exact ⟨rfl,Qbj hz (by simp) fun y hy=>by cases hy⟩
  | 5,_=>exact ⟨rfl,Qbu hz (by simp) fun y hy=>by cases hy⟩
  | 6,_=>exact ⟨rfl,[],hz,by simp,fun y hy=>by cases hy⟩
  | 7,_=>exact ⟨rfl,[],hz,by simp,fun y hy=>by cases hy⟩
 | @sl k e l hk hb _ ih =>
  have hz:asL (D.slice l) = some l:=rfl
  match k,e,hk,ih with
  | 1,_,rfl,ih=>exact ⟨rfl,QbA hz (by omega) fun y hy=>ih y hy⟩
  | 3,_,rfl,ih=>exact ⟨rfl,Qbj hz (by omega) fun y hy=>ih y hy⟩
  | 5,_,rfl,ih=>exact ⟨rfl,Qbu hz (by omega) fun y hy=>ih y hy⟩
  | 6,_,rfl,ih=>exact ⟨rfl,l,hz,by omega,fun y hy=>ih y hy⟩
  | 7,_,rfl,ih=>exact ⟨rfl,l,hz,by omega,fun y hy=>ih y hy⟩
end Go.Proofs.YtfdcjngclelnhaaGreat
namespace Go.Proofs.YtfdcjngclelnhaaGreat
open Go
def LiP (P:D → Prop) (N:Nat) (l:List D):Prop:=l.length ≤ N ∧ ∀ x ∈ l,P x
theorem LiP.app {P:D → Prop} {N M:Nat} {l r:List D} (h:LiP P N l) (g:LiP P M r):LiP P (N + M) (l ++ r) :=
 ⟨by have:=h.1; have:=g.1; simp; omega,fun x hx=>(List.mem_append.1 hx).elim (h.2 x) (g.2 x)⟩
theorem LiP.mono {P:D → Prop} {N M:Nat} {l:List D} (h:LiP P N l) (hn:N ≤ M):LiP P M l:=⟨Nat.le_trans h.1 hn,h.2⟩
theorem LiP.one {P:D → Prop} {x:D} (h:P x):LiP P 1 [x]:=⟨by simp,fun y hy=>by rw [List.mem_singleton.1 hy]; exact h⟩
theorem LiP.nil {P:D → Prop} {N:Nat}:LiP P N []:=⟨by simp,fun y hy=>by cases hy⟩
def SlP (P:D → Prop) (d:D):Prop:=∃ l,asL d = some l ∧ d.flat = true ∧ LiP P 400000 l
def Q2P (d:D):Prop:=∃ s,d = .str s
def Q3X (d:D):Prop:=∃ a b,d = pr2 a b
def QdC (d:D):Prop:=∃ a t v l,d = Qfz a t v l
def QoB (d:D):Prop:=∃ name rows cols key hide c,d = tbl name rows cols key hide c ∧ SlP QdC cols ∧ SlP Q2P key ∧ W 1 c
structure ScOk (N:Nat) (x:SC):Prop where
 lv:LiP Q2P N x.lv
 ed:LiP Q3X N x.ed
 ta:LiP QoB N x.ta
 ch:LiP Q3X N x.ch
 pr:LiP Q3X N x.pr
theorem ScOk.mono {N M:Nat} {x:SC} (h:ScOk N x) (hn:N ≤ M):ScOk M x:=⟨h.lv.mono hn,h.ed.mono hn,h.ta.mono hn,h.ch.mono hn,h.pr.mono hn⟩
section
variable {P:D → Prop} {T:List Tok}
theorem Qj4 {rest:Nat → Out D} (h:Yi P rest):∀ r l,(∀ x ∈ l,P x) → Yi (fun v=>∃ l',v = .slice l' ∧ LiP P (l.length + r) l') (Z6 T rest r l)
 | 0,l,hl=>Yi.ret ⟨l,rfl,by simp,hl⟩
 | r + 1,l,hl=>Yi.if_ (Yi.seq h fun y hy=>fun i v j e=>by
   obtain ⟨l',h1,h2⟩:=Qj4 h r (l ++ [y]) (fun z hz=>by
    rcases List.mem_append.1 hz with hz | hz
    ·exact hl z hz
    ·rw [List.mem_singleton.1 hz]; exact hy) i v j e
   exact ⟨l',h1,h2.mono (by simp; omega)⟩) (Yi.ret ⟨l,rfl,by simp,hl⟩)
theorem QiH {one:Nat → Out D} {r:Nat} (h:Yi P one):Yi (fun v=>∃ l',v = .slice l' ∧ LiP P (r + 1) l') (Ye T one r) :=
 Yi.seq h fun x hx=>fun i v j e=>by
  obtain ⟨l',h1,h2⟩:=Qj4 h r [x] (fun z hz=>by rw [List.mem_singleton.1 hz]; exact hx) i v j e
  exact ⟨l',h1,h2.mono (by simp; omega)⟩
theorem Yi.mono {α:Type} {P Q:α → Prop} {f:Nat → Out α} (h:Yi P f) (hq:∀ v,P v → Q v):Yi Q f:=fun i v j e=>hq v (h i v j e)
theorem Qq2:SlP P .nils:=⟨[],rfl,rfl,.nil⟩
end
section
variable {T:List Tok} {R:Qf9} {r:Nat} (h:YR R) (hr:r ≤ 200000) (d:Nat)
theorem Qj0:Yi (fun v=>∃ l',v = .slice l' ∧ LiP Q2P (r + 1) l') (Ye T (Q2Q isW T) r):=QiH (Yi.skip fun s=>Yi.ret ⟨s,rfl⟩)
theorem Qr1:Yi QdC (Q2x isW T):=Yi.skip fun a=>Yi.skip fun t=>Yi.skip fun v=>Yi.skip fun l=>Yi.ret ⟨a,t,v,l,rfl⟩
theorem Qp0:Yi Q3X (Q8c isW T):=Yi.skip fun a=>Yi.skip fun b=>Yi.ret ⟨a,b,rfl⟩
theorem Qo5:∀ k l low,(∀ x ∈ l,Q3X x) → Yi (fun v=>∃ l',v = .slice l' ∧ LiP Q3X (l.length + k) l') (ZE isW T k l low)
 | 0,l,low,hl=>Yi.ret ⟨l,rfl,by simp,hl⟩
 | k + 1,l,low,hl=>Yi.skip fun _=>Yi.skip fun hi=>by
  have hl':∀ x ∈ l ++ [pr2 low hi],Q3X x:=fun z hz=>by
   rcases List.mem_append.1 hz with hz | hz
   ·exact hl z hz
   ·rw [List.mem_singleton.1 hz]; exact ⟨low,hi,rfl⟩
  exact Yi.see (Yi.mono (Qo5 k _ hi hl') fun v ⟨l',h1,h2⟩=>⟨l',h1,h2.mono (by simp; omega)⟩) (Yi.ret ⟨_,rfl,by simp,hl'⟩)
theorem QqO:Yi (fun v=>∃ l',v = .slice l' ∧ LiP Q3X r l') (Q8k isW T r):=Yi.skip fun low=>Yi.mono (Qo5 r [] low (by simp)) fun v ⟨l',h1,h2⟩=>⟨l',h1,h2.mono (by simp)⟩
include h hr
theorem QqK:Yi QoB (Q4M isW T R r d):=Yi.skip fun name=>Yi.skip fun _=>Yi.skip fun rows=>Yi.skip fun _=>Yi.seq (QiH Qr1) fun cols ⟨lc,hc1,hc2⟩=>Yi.skip fun _=>by
 subst hc1
 have hc:SlP QdC (.slice lc):=⟨lc,rfl,rfl,hc2.mono (by omega)⟩
 refine Yi.seq (P:=SlP Q2P) (Yi.if_ (Yi.skip fun _=>Yi.seq Qj0 fun k ⟨lk,hk1,hk2⟩=>Yi.skip fun _=>Yi.ret ?_) (Yi.ret Qq2)) fun key hk=>?_
 ·subst hk1; exact ⟨lk,rfl,rfl,hk2.mono (by omega)⟩
 ·exact Yi.if_ (Yi.skip fun hide=>Yi.skip fun _=>Yi.seq (h.expr d) fun x hx=>Yi.ret ⟨_,_,_,_,_,_,rfl,hc,hk,.one rfl hx⟩) (Yi.ret ⟨_,_,_,_,_,_,rfl,hc,hk,.nils rfl⟩)
theorem Qr8:∀ k N x,ScOk N x → Yi (fun v=>∃ y,v = SC.d y ∧ ScOk (N + k * 200001) y) (JW isW T R r d k x)
 | 0,N,x,hx=>Yi.ret ⟨x,rfl,hx.mono (by omega)⟩
 | k + 1,N,x,hx=>by
  have fin:∀ y,ScOk (N + 200001) y → Yi (fun v=>∃ y,v = SC.d y ∧ ScOk (N + (k + 1) * 200001) y) (Qc (QG T 4 [59]) fun _=>JW isW T R r d k y):=fun y hy =>
   Yi.skip fun _=>Yi.mono (Qr8 k _ y hy) fun v ⟨z,h1,h2⟩=>⟨z,h1,h2.mono (by omega)⟩
  intro i v j e
  unfold JW at e
  split at e
  ·cases e; exact ⟨x,rfl,hx.mono (by omega)⟩
  ·have hm:=hx.mono (show N ≤ N + 200001 by omega)
   suffices hp:Yi (fun v=>∃ y,v = SC.d y ∧ ScOk (N + (k + 1) * 200001) y) (Q3a isW T R r d x fun y=>Qc (QG T 4 [59]) fun _=>JW isW T R r d k y) from hp i v j e
   unfold Q3a
   refine Yi.if_ (Yi.seq Qj0 fun l ⟨l',h1,h2⟩=>fin _ ⟨?_,hm.ed,hm.ta,hm.ch,hm.pr⟩) <| Yi.if_ (Yi.seq QqO fun l ⟨l',h1,h2⟩=>fin _ ⟨hm.lv,?_,hm.ta,hm.ch,hm.pr⟩) <|
    Yi.if_ (Yi.seq (QqK h hr d) fun t ht=>fin _ ⟨hm.lv,hm.ed,?_,hm.ch,hm.pr⟩) <| Yi.if_ (Yi.seq Qp0 fun p hp=>fin _ ⟨hm.lv,hm.ed,hm.ta,?_,hm.pr⟩) <|
    Yi.if_ (Yi.seq Qp0 fun p hp=>fin _ ⟨hm.lv,hm.ed,hm.ta,hm.ch,?_⟩) <| Yi.if_ (Yi.skip fun n=>fin _ ⟨hm.lv,hm.ed,hm.ta,hm.ch,hm.pr⟩) fun i v j e=>by cases e
   ·subst h1; exact (hx.lv.app h2).mono (by omega)
   ·subst h1; exact (hx.ed.app h2).mono (by omega)
   ·exact (hx.ta.app (.one ht)).mono (by omega)
   ·exact (hx.ch.app (.one hp)).mono (by omega)
   ·exact (hx.pr.app (.one hp)).mono (by omega)
end
def QaF (v:D):Prop:=∃ y,v = SC.d y ∧ ScOk 100000000000 y
theorem Qo8 {T:List Tok} {r:Nat} (hr:r ≤ 200000) (d:Nat):Yi QaF (HO isW T (Qj isW T r) r d) :=
 Yi.mono (Qr8 (Qre r hr) hr d r 0 _ ⟨.nil,.nil,.nil,.nil,.nil⟩) fun v ⟨y,h1,h2⟩=>⟨y,h1,h2.mono (by have:=Nat.mul_le_mul_right 200001 hr; omega)⟩
end Go.Proofs.YtfdcjngclelnhaaGreat
