/- Part of a proof. -/
import Derived.Test.YtfdcjngclelnhaaGreatL40
import Derived.Test.YtfdcjngclelnhaaGreatL41
set_option linter.unusedSectionVars false
set_option linter.unusedSimpArgs false
set_option linter.unusedVariables false
namespace Go.Proofs.YtfdcjngclelnhaaGreat
open Go
def QiC (v:D):Prop:=okG 101 v = true
theorem Qr9:ctys Tryz.prog 8 101 = [.s,.i .i64,.b,.s]:=by kernel_rfl
theorem Qrl:ctys Tryz.prog 8 126 = [.s,.s]:=by kernel_rfl
theorem Qjf:ctys Tryz.prog 8 99 = [.s,.s,.o,.o,.s,.o]:=by kernel_rfl
theorem Qde {a:List UInt8} {t:Int} {v:Bool} {l:List UInt8}:QiC (Qfz a t v l):=by unfold QiC Qfz; rw [Y7,Qr9]; rfl
def okP (v:D):Prop:=okG 126 v = true
theorem Qr5 {a b:List UInt8}:okP (pr2 a b):=by unfold okP pr2; rw [Y7,Qrl]; rfl
def Qae (v:D):Prop:=okG 99 v = true
theorem Q8S {a b h:List UInt8} {c k x:D} (hh:(c.flat && (k.flat && x.flat)) = true):Qae (tbl a b c k h x):=by
 unfold Qae tbl; rw [Y7,Qjf]
 simp only [Bool.and_eq_true] at hh
 simp [okC,okD,hh.1,hh.2.1,hh.2.2]
theorem Sat.good {B α:Type} {T:List Tok} {r:Nat} {b:Mix → B} {good good':α → Prop} {m:Mix} {X:(α × B → Prop) → Prop} {f:Nat → Out α} (h:Sat T r b good X m f) (hg:∀ v,good v → good' v):Sat T r b good' X m f:=by
 obtain ⟨o,⟨m',h1,h2,h3,h4⟩,h5⟩:=h
 exact ⟨o,⟨m',h1,h2,hg _ h3,h4⟩,h5⟩
def GL (P:D → Prop) (N:Nat) (v:D):Prop:=∃ l,v = .slice l ∧ LiP P N l
theorem GL.mono {P:D → Prop} {N M:Nat} {v:D} (h:GL P N v) (hn:N ≤ M):GL P M v:=by
 obtain ⟨l,h1,h2⟩:=h
 exact ⟨l,h1,h2.mono hn⟩
theorem GL.flat {P:D → Prop} {N:Nat} {v:D} (h:GL P N v):v.flat = true:=by
 obtain ⟨l,rfl,_⟩:=h; rfl
section
variable {B A:Type} {T:List Tok} {b:Mix → B}
def Q7I (val:A → D) (chk:A → Prop → Prop) (sz bytes:Nat) (one:B → Option (A × B)) (mark:B → List UInt8 → Option (Bool × B)) (r:D × B → Prop) (l:MV B → Prop):MV B → Prop
 | .l0 y0 y1=>bn (mark y1 [44]) fun x6=>cnd x6.1 (bn (one x6.2) fun x7=>chk x7.1 (an (sized sz y0) (an (roomOk (y0.length + 1) bytes) (l (.l1 (y0 ++ [val x7.1]) x7.2 (y0.length + 1)))))) (r ((.slice y0),x6.2))
 | .l1 y0 y1 y2=>bn (mark y1 [44]) fun x8=>cnd x8.1 (bn (one x8.2) fun x9=>chk x9.1 (an (y2 == y0.length) (an (roomOk (y2 + 1) bytes) (l (.l1 (y0 ++ [val x9.1]) x9.2 (y2 + 1)))))) (r ((.slice y0),x8.2))
theorem Q4Q {val:A → D} {chk:A → Prop → Prop} {good:A → Prop} {sz bytes:Nat} {one:B → Option (A × B)} {mark:B → List UInt8 → Option (Bool × B)} {r:Nat} {rest:Nat → Out A} {restD:Nat → Out D} {P:D → Prop} (hP:∀ v,good v → P (val v))
  (hrest:restD = Qc rest fun v=>Qx (val v)) (hT:Ends T) (hby:bytes ≤ 1000)
  (hmk:∀ k m,m.In T k → mark (b m) [44] = some (m.sees T 4 [44],b (m.takes T 4 [44])))
  (hone:∀ k,k ≤ r → ∀ m:Mix,m.In T k → Has T k b good (one (b m)) m rest)
  (hchk:∀ v X,good v → chk v X = X) (hsz:∀ v,good v → (val v).cells.length = sz) :
  ∀ k,k ≤ r + 1 → ∀ f,k ≤ f → ∀ n,k + 2 ≤ n → ∀ m l,m.In T k → l.length + k ≤ 500000 → (∀ x ∈ l,P x) →
   Sat T k b (GL P (l.length + k)) (fun q=>loopN (Q7I val chk sz bytes one mark q) n (.l1 l (b m) l.length)) m (Z6 T restD f l) ∧
   ∀ x,good x → l = [val x] → Sat T k b (GL P (l.length + k)) (fun q=>loopN (Q7I val chk sz bytes one mark q) n (.l0 l (b m))) m (Z6 T restD f l):=by
 subst hrest
 intro k
 induction k using Nat.strongRecOn with
 | ind k IH =>
  intro hk f hf n hn m l hm hl hal
  obtain ⟨n,rfl⟩:∃ n',n = n' + 1:=⟨n - 1,by omega⟩
  have hconv:∀ {X:(D × B → Prop) → Prop},Sat T k b (GL P (l.length + k)) X m (JJ T 4 [44] (Qc rest fun y=>Z6 T (Qc rest fun v=>Qx (val v)) (f - 1) (l ++ [val y])) (Qx (.slice l))) → Sat T k b (GL P (l.length + k)) X m (Z6 T (Qc rest fun v=>Qx (val v)) f l):=fun h=>by
   refine Sat.spec h fun i hi=>?_
   subst hi
   obtain ⟨f,rfl⟩:∃ f',f = f' + 1:=⟨f - 1,by have:=hm.2; have:=hm.1; omega⟩
   show _ = Z6 T (Qc rest fun v=>Qx (val v)) (f + 1) l i
   rw [Z6,QY]; rfl
  constructor
  ·refine hconv ?_
   simp only [Q4,Q7I]
   refine Sat.word hT (by decide) hm (hmk k m hm) (fun i j hj hi=>?_) (Sat.ret hm ⟨l,rfl,by omega,hal⟩ rfl rfl)
   simp only [Q1]
   refine Sat.call (hone j (by omega) (.ok i) hi) fun y m' hm' hy=>?_
   simp only [hchk y _ hy,Q5,beq_self_eq_true,ZK (show l.length + 1 ≤ 1000000 by omega) hby]
   have:=(IH j (by omega) (by omega) (f - 1) (by omega) n (by omega) m' (l ++ [val y]) hm' (by simp; omega) (fun z hz=>(List.mem_append.1 hz).elim (hal z) fun hz=>by rw [List.mem_singleton.1 hz]; exact hP y hy)).1
   rw [List.length_append] at this
   exact Sat.good this fun v hv=>hv.mono (by simp; omega)
  ·intro x hx hlx
   refine hconv ?_
   have es:sized sz l = true:=by subst hlx; unfold sized; simp [hsz x hx]
   simp only [Q4,Q7I]
   refine Sat.word hT (by decide) hm (hmk k m hm) (fun i j hj hi=>?_) (Sat.ret hm ⟨l,rfl,by omega,hal⟩ rfl rfl)
   simp only [Q1]
   refine Sat.call (hone j (by omega) (.ok i) hi) fun y m' hm' hy=>?_
   simp only [hchk y _ hy,Q5,es,ZK (show l.length + 1 ≤ 1000000 by omega) hby]
   have:=(IH j (by omega) (by omega) (f - 1) (by omega) n (by omega) m' (l ++ [val y]) hm' (by simp; omega) (fun z hz=>(List.mem_append.1 hz).elim (hal z) fun hz=>by rw [List.mem_singleton.1 hz]; exact hP y hy)).1
   rw [List.length_append] at this
   exact Sat.good this fun v hv=>hv.mono (by simp; omega)
end
theorem Sat.see2 {B α:Type} {T:List Tok} {r:Nat} {b b':Mix → B} {good:α → Prop} {m:Mix} {C:Option (Bool × B)} {k:Int} {s:List UInt8} {K:(α × B → Prop) → Bool × B → Prop} {A Z:Nat → Out α}
  (hc:C = some (m.sees T k s,b' m))
  (hy:∀ i,m = .ok i → Sat T r b good (fun q=>K q (true,b' m)) m A)
  (hn:Sat T r b good (fun q=>K q (false,b' m)) m Z):Sat T r b good (fun q=>bn C (K q)) m (Q78 T k s A Z):=by
 cases m with
 | ok i=>exact Sat.see hc (hy i rfl) hn
 | er i d a e =>
  subst hc
  obtain ⟨o,g1,g2⟩:=hn
  exact ⟨o,g1,fun q=>g2 q⟩
theorem Qsn {T:List Tok}:Qc (Q2x isW T) (fun v=>Qx (G 101 v)) = Q2x isW T:=by
 funext i
 unfold Qc
 cases h:Q2x isW T i with
 | ok v j=>obtain ⟨a,t,w,l,rfl⟩:=Qr1 i v j h; show Out.ok (G _ _) j = _; rw [Qy Qde]
 | err a e=>rfl
def Qrm:MV B105 → Yr
 | .l0 a b=>.l0 a b
 | .l1 a b c=>.l1 a b c
def Qsg:MV B105 → s_list_col_V
 | .l0 a b=>.l0 a b
 | .l1 a b c=>.l1 a b c
theorem Qkz {S:Q9} {q:D × B105 → Prop} {n:Nat} {w:MV B105}:loopN (Js S q) n (Qrm w) = loopN (Q7I D.str (fun _ X=>X) 1 16 S.s_name S.s_mark q) n w:=Jd (fun l w=>by cases w <;> rfl) n w
theorem Qp6 {S:Q9} {q:D × B105 → Prop} {n:Nat} {w:MV B105}:loopN (s_list_col_st S q) n (Qsg w) = loopN (Q7I (G 101) (fun v X=>an (okG 101 v) X) 4 48 S.s_col S.s_mark q) n w:=Jd (fun l w=>by cases w <;> rfl) n w
section
variable {T:List Tok} (hT:TOk T) {n d k:Nat} {m:Mix}
include hT
theorem Qni (hn:4 ≤ n) (hm:m.In T k):Has T k (bS T d) (fun _=>True) ((Q8 n).s_typed (bS T d m)) m (tyF T):=by
 obtain ⟨n,rfl,hp⟩:=QJ hn; refine Sat.has (X:=fun q=>s_typed_st (Q8 n) q (loopN (s_typed_st (Q8 n) q) n) (.e (bS T d m))) ?_ fun o ho=>Q6 Q4n ho; simp only [s_typed_st]
 unfold tyF
 refine Sat.word hT.ends (by decide) hm (QA hT (by omega) hm) (fun i j hj hm=>?_) ?_ <;> simp only [Q1,Q0,Bool.not_true,Bool.not_false]
 ·exact Sat.ret hm trivial rfl rfl
 refine Sat.word hT.ends (by decide) hm (QA hT (by omega) hm) (fun i j hj hm=>?_) ?_ <;> simp only [Q1,Q0,Bool.not_true,Bool.not_false]
 ·exact Sat.ret hm trivial rfl rfl
 refine Sat.word hT.ends (by decide) hm (QA hT (by omega) hm) (fun i j hj hm=>?_) ?_ <;> simp only [Q1,Q0,Bool.not_true,Bool.not_false]
 ·exact Sat.ret hm trivial rfl rfl
 cases m with
 | ok i=>exact ⟨(0,bS T d (.er i (Int.ofNat d) (tk T i).at_ 10)),⟨_,rfl,Q9a hm.1,trivial,_,_,rfl⟩,fun q=>by simp only [bS,Q0J hT (show 2 ≤ n by omega) hm.1,Q3]⟩
 | er i d' a e=>exact ⟨(0,bS T d (.er i d' a e)),⟨_,rfl,hm,trivial,_,_,rfl⟩,fun q=>by simp only [bS,Q2g (show 1 ≤ n by omega) hm.2,Q3]⟩
theorem Qip (hn:4 ≤ n) (hm:m.In T k):Has T k (bS T d) okP ((Q8 n).s_pair (bS T d m)) m (Q8c isW T):=by
 obtain ⟨n,rfl,hp⟩:=QJ hn; refine Sat.has (X:=fun q=>s_pair_st (Q8 n) q (loopN (s_pair_st (Q8 n) q) n) (.e (bS T d m))) ?_ fun o ho=>Q6 QP ho; simp only [s_pair_st]
 unfold Q8c
 refine Sat.call (JE hT (by omega) (hm.mono (Nat.le_succ _))) fun a m hm _=>?_
 refine Sat.call (JE hT (by omega) (hm.mono (Nat.le_succ _))) fun b m hm _=>?_
 exact Sat.ret hm Qr5 rfl rfl
theorem Qpc (hn:5 ≤ n) (hm:m.In T k):Has T k (bS T d) QiC ((Q8 n).s_col (bS T d m)) m (Q2x isW T):=by
 obtain ⟨n,rfl,hp⟩:=QJ hn; refine Sat.has (X:=fun q=>s_col_st (Q8 n) q (loopN (s_col_st (Q8 n) q) n) (.e (bS T d m))) ?_ fun o ho=>Q6 QP ho; simp only [s_col_st]
 unfold Q2x
 refine Sat.call (JE hT (by omega) (hm.mono (Nat.le_succ _))) fun a m hm _=>?_
 refine Sat.call (Qni hT (by omega) hm) fun t m hm _=>?_
 simp only [Zf,QW]
 refine Sat.word hT.ends (by decide) hm (QA hT (by omega) hm) (fun i j hj hm=>?_) ?_ <;> simp only [Q1,Q0,Bool.not_true,Bool.not_false]
 ·refine Sat.call (JE hT (by omega) (hm.mono (Nat.le_succ _))) fun l m hm _=>?_
  exact Sat.ret hm Qde rfl rfl
 ·refine Sat.call (JE hT (by omega) (hm.mono (Nat.le_succ _))) fun l m hm _=>?_
  exact Sat.ret hm Qde rfl rfl
theorem Q45 (hn:k + 7 ≤ n) (hk:k ≤ 400000) (hm:m.In T k) {f:Nat} (hf:k ≤ f):Has T k (bS T d) (GL Q2P (1 + k)) ((Q8 n).s_list_name (bS T d m)) m (Ye T (Q2Q isW T) f):=by
 obtain ⟨n,rfl,hp⟩:=QJ hn; refine Sat.has (X:=fun q=>Js (Q8 n) q (loopN (Js (Q8 n) q) n) (.e (bS T d m))) ?_ fun o ho=>Q6 Q0l ho; simp only [Js]
 unfold Ye Q2Q
 rw [QY]
 refine Sat.call (JE hT (by omega) (hm.mono (Nat.le_succ _))) fun s m hm _=>?_
 refine Sat.eq ?_ fun q=>Qkz (w:=.l0 _ _)
 exact (Q4Q (good:=fun _=>True) (P:=Q2P) (r:=k) (fun v _=>⟨v,rfl⟩) rfl hT.ends (by decide) (fun k m hm=>Z1 hT (by omega) hm) (fun j hj m hm=>JE hT (by omega) (hm.mono (Nat.le_succ _))) (fun v X _=>rfl) (fun v _=>rfl) k (by omega) f hf n (by omega) m [.str s] hm (by simp; omega) (fun x hx=>by rw [List.mem_singleton.1 hx]; exact ⟨s,rfl⟩)).2 s trivial rfl
theorem Qeb (hn:k + 9 ≤ n) (hk:k ≤ 400000) (hm:m.In T k) {f:Nat} (hf:k ≤ f):Has T k (bS T d) ZZ ((Q8 n).s_list_col (bS T d m)) m (Ye T (Q2x isW T) f):=by
 obtain ⟨n,rfl,hp⟩:=QJ hn; refine Sat.has (X:=fun q=>s_list_col_st (Q8 n) q (loopN (s_list_col_st (Q8 n) q) n) (.e (bS T d m))) ?_ fun o ho=>Q6 Q0l ho; simp only [s_list_col_st]
 refine Sat.call (Qpc hT (by omega) hm) fun x m hm hx=>?_
 simp only [show okG 101 x = true from hx,Q5,Qy hx]
 refine Sat.eq ?_ fun q=>Qp6 (w:=.l0 _ _)
 rw [← Qsn]
 exact Sat.good ((Q4Q (val:=G 101) (chk:=fun v X=>an (okG 101 v) X) (good:=QiC) (P:=fun _=>True) (r:=k) (rest:=Q2x isW T) (b:=bS T d) (sz:=4) (bytes:=48) (one:=(Q8 n).s_col) (mark:=(Q8 n).s_mark) (fun _ _=>trivial) rfl hT.ends (by decide) (fun k m hm=>Z1 hT (by omega) hm) (fun j hj m hm=>Qpc hT (by omega) hm) (fun v X hv=>by rw [show okG 101 v = true from hv,Q5]) (fun v hv=>by rw [Qy hv,Z7 hv,Qr9]; rfl) k (by omega) f hf n (by omega) m [x] hm (by simp; omega) (fun _ _=>trivial)).2 x hx (by rw [Qy hx])) fun v hv=>hv.flat
theorem QpQ (hn:5 ≤ n):∀ k,∀ f,k ≤ f → ∀ n',k + 2 ≤ n' → ∀ (m:Mix) (l:List D) (low:List UInt8),m.In T k → l.length + k ≤ 500000 → (∀ x ∈ l,Q3X x) → l ≠ [] →
  Sat T k (bS T d) (GL Q3X (l.length + k + 1)) (fun q=>loopN (s_edges_st (Q8 n) q) n' (.l1 low l true (bS T d m) l.length)) m (ZE isW T f l low):=by
 intro k
 induction k using Nat.strongRecOn with
 | ind k IH =>
  intro f hf n' hn' m l low hm hl hal hne
  obtain ⟨n',rfl⟩:∃ z,n' = z + 1:=⟨n' - 1,by omega⟩
  have hm1:m.In T (k - 1 + 1):=by
   cases m with
   | ok i=>exact ⟨hm.1,by have:=hm.1; have:=hm.2; omega⟩
   | er i d a e=>exact hm
  refine Sat.spec (f:=ZE isW T (f - 1 + 1) l low) ?_ fun i hi=>?_
  ·simp only [Q4,s_edges_st,Q1,ZE]
   refine Sat.more (Sat.callU (Jp hT (by omega) hm1) fun m hm=>?_) (Nat.sub_le k 1)
   refine Sat.call (JE hT (by omega) (hm.mono (Nat.le_succ _))) fun h m hm _=>?_
   have hal':∀ x ∈ l ++ [pr2 low h],Q3X x:=fun z hz=>(List.mem_append.1 hz).elim (hal z) fun hz=>by rw [List.mem_singleton.1 hz]; exact ⟨low,h,rfl⟩
   simp only [beq_self_eq_true,Q5,ZK (show l.length + 1 ≤ 1000000 by omega) (show 32 ≤ 1000 by omega)]
   refine Sat.see2 (Q4g hT (by omega) hm) (fun i hi=>?_) ?_
   ·subst hi
    have h1:=hm.1
    have h2:=hm.2
    have:=IH (k - 1) (by omega) (f - 1) (by omega) n' (by omega) (.ok i) (l ++ [pr2 low h]) h hm (by simp; omega) hal' (by simp)
    rw [List.length_append] at this
    exact Sat.good this fun v hv=>hv.mono (by simp; omega)
   ·obtain ⟨n',rfl⟩:∃ z,n' = z + 1:=⟨n' - 1,by omega⟩
    simp only [Q4,s_edges_st,Q0]
    exact Sat.ret hm ⟨_,rfl,by rw [List.length_append]; simp,hal'⟩ rfl rfl
  ·subst hi
   have h1:=hm.1
   have h2:=hm.2
   rw [show f - 1 + 1 = f by omega]
theorem QnV (hn:k + 7 ≤ n) (hk:k ≤ 400000) (hm:m.In T k) {f:Nat} (hf:k ≤ f):Has T k (bS T d) (GL Q3X (k + 2)) ((Q8 n).s_edges (bS T d m)) m (Q8k isW T f):=by
 obtain ⟨n,rfl,hp⟩:=QJ hn; refine Sat.has (X:=fun q=>s_edges_st (Q8 n) q (loopN (s_edges_st (Q8 n) q) n) (.e (bS T d m))) ?_ fun o ho=>Q6 QkB ho; simp only [s_edges_st]
 unfold Q8k
 refine Sat.call (JE hT (by omega) (hm.mono (Nat.le_succ _))) fun low m hm _=>?_
 obtain ⟨n,rfl⟩:∃ z,n = z + 1:=⟨n - 1,by omega⟩
 have hm1:m.In T (k - 1 + 1):=by
  cases m with
  | ok i=>exact ⟨hm.1,by have:=hm.1; have:=hm.2; omega⟩
  | er i d a e=>exact hm
 refine Sat.spec (f:=ZE isW T (f - 1 + 1) [] low) ?_ fun i hi=>?_
 ·simp only [Q4,s_edges_st,ZE]
  refine Sat.more (Sat.callU (Jp hT (by omega) hm1) fun m hm=>?_) (Nat.sub_le k 1)
  refine Sat.call (JE hT (by omega) (hm.mono (Nat.le_succ _))) fun h m hm _=>?_
  refine Sat.see2 (Q4g hT (by omega) hm) (fun i hi=>?_) ?_
  ·subst hi
   have h1:=hm.1
   have h2:=hm.2
   exact Sat.good (QpQ hT (n:=n + 1) (by omega) (k - 1) (f - 1) (by omega) n (by omega) (.ok i) [pr2 low h] h hm (by simp; omega) (fun z hz=>by rw [List.mem_singleton.1 hz]; exact ⟨low,h,rfl⟩) (by simp)) fun v hv=>hv.mono (by simp; omega)
  ·obtain ⟨n,rfl⟩:∃ z,n = z + 1:=⟨n - 1,by omega⟩
   simp only [Q4,s_edges_st,Q0]
   exact Sat.ret hm ⟨[pr2 low h],rfl,by simp,fun z hz=>by rw [List.mem_singleton.1 hz]; exact ⟨low,h,rfl⟩⟩ rfl rfl
 ·subst hi
  have h1:=hm.1
  have h2:=hm.2
  rw [show f - 1 + 1 = f by omega]
end
section
variable {T:List Tok} (hT:TOk T) {N r:Nat} (hN:r + 40 ≤ N ∧ r ≤ 200000) (ih:SOk T N r) {n d k:Nat} (hd:d ≤ 40) {m:Mix}
include hT hN ih hd
theorem Qpo (hn:N + 1 ≤ n) (hk:k ≤ r) (hm:m.In T k) {n':Nat} (hn':1 ≤ n') {name rows:List UInt8} {cols key:D} {w:Nat} (h1:ZZ cols) (h2:ZZ key) :
  Sat T k (bS T d) Qae (fun q=>loopN (s_table_st (Q8 n) q) n' (.l0 (bS T d m) name rows cols key w)) m (QaN isW T (Qj isW T r) d name rows cols key):=by
 obtain ⟨n',rfl⟩:∃ z,n' = z + 1:=⟨n' - 1,by omega⟩
 unfold ZZ at h1 h2
 unfold QaN
 simp only [Q4,s_table_st,h1,h2,Q5]
 refine Sat.word hT.ends (by decide) hm (QA hT (by omega) hm) (fun i j hj hm=>?_) ?_ <;> simp only [Q1,Q0,Bool.not_true,Bool.not_false]
 ·refine Sat.call (JE hT (by omega) (hm.mono (Nat.le_succ _))) fun h m hm _=>?_
  refine Sat.callU (Z3 hT (by omega) (hm.mono (Nat.le_succ _))) fun m hm=>?_
  refine Sat.call (ih.expr _ (by omega) _ hd _ (by omega) _ hm) fun x m hm hx=>?_
  simp only [hx,Q5,Qy hx]
  exact Sat.ret hm (Q8S (by simp only [h1,h2]; rfl)) rfl rfl
 ·exact Sat.ret hm (Q8S (by simp only [h1,h2]; rfl)) rfl rfl
theorem QnQ (hn:N + 2 ≤ n) (hk:k ≤ r) (hm:m.In T k) {f:Nat} (hf:k ≤ f):Has T k (bS T d) Qae ((Q8 n).s_table (bS T d m)) m (Q4M isW T (Qj isW T r) f d):=by
 obtain ⟨n,rfl,hp⟩:=QJ hn; refine Sat.has (X:=fun q=>s_table_st (Q8 n) q (loopN (s_table_st (Q8 n) q) n) (.e (bS T d m))) ?_ fun o ho=>Q6 QP ho; simp only [s_table_st]
 unfold Q4M
 refine Sat.call (JE hT (by omega) (hm.mono (Nat.le_succ _))) fun s m hm _=>?_
 refine Sat.callU (Z3 hT (by omega) (hm.mono (Nat.le_succ _))) fun m hm=>?_
 refine Sat.call (JE hT (by omega) (hm.mono (Nat.le_succ _))) fun s m hm _=>?_
 refine Sat.callU (Jp hT (by omega) (hm.mono (Nat.le_succ _))) fun m hm=>?_
 unfold Qr6
 refine Sat.call (Qeb hT (by omega) (by omega) hm hf) fun cols m hm hc=>?_
 have hc':cols.flat = true:=hc
 simp only [hc',Q5]
 refine Sat.callU (Jp hT (by omega) (hm.mono (Nat.le_succ _))) fun m hm=>?_
 unfold QiZ
 simp only [Zf,QW,QY]
 refine Sat.word hT.ends (by decide) hm (QA hT (by omega) hm) (fun i j hj hm=>?_) ?_ <;> simp only [Q1,Q0,Bool.not_true,Bool.not_false]
 ·refine Sat.callU (Jp hT (by omega) (hm.mono (Nat.le_succ _))) fun m hm=>?_
  refine Sat.call (Q45 hT (by omega) (by omega) hm (by omega)) fun key m hm hk'=>?_
  have hk2:key.flat = true:=hk'.flat
  simp only [hk2,Q5]
  refine Sat.callU (Jp hT (by omega) (hm.mono (Nat.le_succ _))) fun m hm=>?_
  exact Qpo hT hN ih hd hp (by omega) hm (by omega) hc hk2
 ·exact Qpo hT hN ih hd hp (by omega) hm (by omega) hc rfl
end
end Go.Proofs.YtfdcjngclelnhaaGreat
namespace Go.Proofs.YtfdcjngclelnhaaGreat
open Go
set_option maxHeartbeats 1000000
def cellOk (sz M:Nat):GN → List D → Prop
 | .n,L=>L = []
 | .o es _,L=>es = L ∧ L ≠ [] ∧ sized sz L = true ∧ L.length ≤ M
theorem cellOk.mono {sz M N:Nat} {g:GN} {L:List D} (h:cellOk sz M g L) (hn:M ≤ N):cellOk sz N g L:=by
 cases g with
 | n=>exact h
 | o es w=>exact ⟨h.1,h.2.1,h.2.2.1,Nat.le_trans h.2.2.2 hn⟩
theorem cellOk.gnD {sz M:Nat} {g:GN} {L:List D} (h:cellOk sz M g L):gnD g = slD L:=by
 cases g with
 | n=>obtain rfl:L = []:=h; rfl
 | o es w =>
  obtain ⟨rfl,h2,_⟩:=h
  cases es with
  | nil=>exact absurd rfl h2
  | cons x l=>rfl
theorem Qpg {n bytes:Nat} (h:n ≤ 100000000000) (hb:bytes ≤ 1000):roomOk n bytes = true:=by
 unfold roomOk
 have:n * bytes ≤ 100000000000 * 1000:=Nat.mul_le_mul h hb
 have e:2 * n * bytes = 2 * (n * bytes):=Nat.mul_assoc ..
 exact decide_eq_true ⟨by rw [e]; omega,by omega⟩
theorem Q3J {n:Nat}:n.beq n = true:=by simp
theorem QcP {sz M N bytes ver:Nat} {agg:Bool} {g:GN} {L l:List D} {P:D → Prop} (hc:cellOk sz M g L) (hl:LiP P N l) (hP:∀ x,P x → fitsD sz x = true) (hb:M + N ≤ 100000000000) (hby:bytes ≤ 1000) :
  ∃ g',cellOk sz (M + N) g' (L ++ l) ∧ ∀ K:GN → Prop,appN g sz agg bytes (.slice l) ver K = K g':=by
 have e0:∀ K:GN → Prop,appN g sz agg bytes (.slice l) ver K = cnd (l.all (fitsD sz)) (cnd l.isEmpty (gnc g (K .n) fun es w=>an (Nat.beq w w && Nat.beq es.length es.length) (K (.o es w)))
  (gnc g (an (roomOk l.length bytes) (an (l.length.beq l.length) (K (.o l ver)))) fun es w=>an (w.beq w) (an (es.length.beq es.length) (cnd es.isEmpty False (an (sized sz es) (an (roomOk (es.length + l.length) bytes) (an ((es.length + l.length).beq (es ++ l).length) (K (.o (es ++ l) ver))))))))) False:=fun K=>rfl
 have e1:l.all (fitsD sz) = true:=List.all_eq_true.2 fun x hx=>hP x (hl.2 x hx)
 have hlen:=hl.1
 cases l with
 | nil =>
  refine ⟨g,by rw [List.append_nil]; exact hc.mono (by omega),fun K=>?_⟩
  rw [e0,e1]
  cases g with
  | n=>rfl
  | o es w=>simp only [Q1,List.isEmpty_nil,gnc,Q3J,Bool.and_self,Q5]
 | cons x r =>
  have hx:(x.cells.length == sz) = true:=by
   have:=hP x (hl.2 x (by simp))
   unfold fitsD at this
   simp only [Bool.and_eq_true] at this
   exact this.1
  cases g with
  | n =>
   obtain rfl:L = []:=hc
   refine ⟨.o (x :: r) ver,⟨rfl,by simp,hx,by show (x :: r).length ≤ _; omega⟩,fun K=>?_⟩
   rw [e0,e1]
   simp only [Q1,Q0,List.isEmpty_cons,gnc,Q3J,Q5,Qpg (show (x :: r).length ≤ 100000000000 by omega) hby]
  | o es w =>
   obtain ⟨rfl,h2,h3,h4⟩:=hc
   refine ⟨.o (es ++ x :: r) ver,⟨rfl,by simp,?_,by rw [List.length_append]; omega⟩,fun K=>?_⟩
   ·cases es with
    | nil=>exact absurd rfl h2
    | cons y t=>exact h3
   ·have e2:es.isEmpty = false:=by cases es with
     | nil=>exact absurd rfl h2
     | cons y t=>rfl
    rw [e0,e1]
    simp only [Q1,Q0,List.isEmpty_cons,gnc,Q3J,Q5,e2,h3,List.length_append,Qpg (show es.length + (x :: r).length ≤ 100000000000 by omega) hby]
theorem Q0F {sz M bytes ver:Nat} {g:GN} {L:List D} {x:D} (hc:cellOk sz M g L) (hx:x.cells.length = sz) (hb:M + 1 ≤ 100000000000) (hby:bytes ≤ 1000) :
  ∃ g',cellOk sz (M + 1) g' (L ++ [x]) ∧ ∀ K:GN → Prop,app1 g sz bytes x ver K = K g':=by
 cases g with
 | n =>
  obtain rfl:L = []:=hc
  exact ⟨.o [x] ver,⟨rfl,by simp,by unfold sized; simp [hx],by simp⟩,fun K=>rfl⟩
 | o es w =>
  obtain ⟨rfl,h2,h3,h4⟩:=hc
  refine ⟨.o (es ++ [x]) ver,⟨rfl,by simp,?_,by rw [List.length_append]; simp; omega⟩,fun K=>?_⟩
  ·cases es with
   | nil=>exact absurd rfl h2
   | cons y t=>exact h3
  ·have e2:es.isEmpty = false:=by cases es with
    | nil=>exact absurd rfl h2
    | cons y t=>rfl
   unfold app1
   simp only [Q1,Q0,gnc,Q3J,Q5,e2,h3,List.length_append,List.length_singleton,Qpg (show es.length + 1 ≤ 100000000000 by omega) hby]
def okS (v:D):Prop:=okG 58 v = true
theorem Qmu:ctys Tryz.prog 8 58 = [.o,.o,.o,.o,.o,.i .i64]:=by kernel_rfl
theorem Qf4 {x:D} (h:okS x) {A:Prop}:fl x [0,1,2,3,4] A = A:=Q63 h (by rw [Qmu]; simp)
theorem QmI {x:D} (h:Qae x) {A:Prop}:fl x [2,3,5] A = A:=Q63 h (by rw [Qjf]; simp)
theorem Qos {g:GN}:(gnD g).flat = true:=by cases g <;> rfl
theorem Q4F {g0 g1 g2 g3 g4:GN} {lim:Int}:okS (schD g0 g1 g2 g3 g4 lim):=by
 unfold okS schD; rw [Y7,Qmu]
 simp [okC,okD,Qos]
theorem Qfi {x:D} (h:Q2P x):fitsD 1 x = true:=by obtain ⟨s,rfl⟩:=h; rfl
theorem Qqv {x:D} (h:Q3X x):fitsD 2 x = true:=by obtain ⟨a,b,rfl⟩:=h; rfl
structure SCells (M:Nat) (g0 g1 g2 g3 g4:GN) (x:SC):Prop where
 lv:cellOk 1 M g0 x.lv
 ed:cellOk 2 M g1 x.ed
 ta:cellOk 6 M g2 x.ta
 ch:cellOk 2 M g3 x.ch
 pr:cellOk 2 M g4 x.pr
theorem SCells.mono {M N:Nat} {g0 g1 g2 g3 g4:GN} {x:SC} (h:SCells M g0 g1 g2 g3 g4 x) (hn:M ≤ N):SCells N g0 g1 g2 g3 g4 x:=⟨h.lv.mono hn,h.ed.mono hn,h.ta.mono hn,h.ch.mono hn,h.pr.mono hn⟩
theorem SCells.d {M:Nat} {g0 g1 g2 g3 g4:GN} {x:SC} (h:SCells M g0 g1 g2 g3 g4 x):schD g0 g1 g2 g3 g4 x.lim = x.d:=by
 unfold schD SC.d
 rw [h.lv.gnD,h.ed.gnD,h.ta.gnD,h.ch.gnD,h.pr.gnD]
section
variable {T:List Tok} (hT:TOk T) {N r:Nat} (hN:r + 40 ≤ N ∧ r ≤ 200000) (ih:SOk T N r) {n d:Nat} (hd:d ≤ 40)
include hT hN ih hd
omit hN ih hd in
theorem Qpl {n' i:Nat} {d' a e:Int} (h:e ≠ 0) {g0 g1 g2 g3 g4:GN} {lim:Int} {ver:Nat} {q:D × B105 → Prop} :
  loopN (s_schema_st (Q8 n) q) (n' + 1) (.l0 (bS T d (.er i d' a e)) g0 g1 g2 g3 g4 lim ver) = q (schD g0 g1 g2 g3 g4 lim,bS T d (.er i d' a e)):=by
 simp only [Q4,s_schema_st,bS,Q1j h,Q0]
theorem Qon (hn:N + 3 ≤ n):∀ k,k ≤ r → ∀ f,k ≤ f → ∀ n',k + 2 ≤ n' → ∀ (m:Mix) (x:SC) (g0 g1 g2 g3 g4:GN) (ver M:Nat),m.In T k → SCells M g0 g1 g2 g3 g4 x → M + k * 200003 ≤ 90000000000 →
  Sat T k (bS T d) okS (fun q=>loopN (s_schema_st (Q8 n) q) n' (.l0 (bS T d m) g0 g1 g2 g3 g4 x.lim ver)) m (JW isW T (Qj isW T r) r d f x):=by
 intro k
 induction k using Nat.strongRecOn with
 | ind k IH =>
  intro hk f hf n' hn' m x g0 g1 g2 g3 g4 ver M hm hc hM
  obtain ⟨n',rfl⟩:∃ z,n' = z + 1:=⟨n' - 1,by omega⟩
  cases m with
  | er i d' a e=>exact ⟨(schD g0 g1 g2 g3 g4 x.lim,bS T d (.er i d' a e)),⟨_,rfl,hm,Q4F,_,_,rfl⟩,fun q=>Qpl hT hm.2⟩
  | ok i =>
   have h1:=hm.1
   have h2:=hm.2
   obtain ⟨f,rfl⟩:∃ z,f = z + 1:=⟨f - 1,by omega⟩
   have e1:(bS T d (.ok i)).c4 = 0:=rfl
   have e2:(Q8 n).s_now (bS T d (.ok i)) = some ((tk T i).d,bS T d (.ok i)):=Q0H hT (by omega) h1
   simp only [Q4,s_schema_st,e1,e2,beq_self_eq_true,Q1,Q3,JG,Q5,ZY]
   by_cases hz:(tk T i).kind = 0
   ·refine ⟨(schD g0 g1 g2 g3 g4 x.lim,bS T d (.ok i)),⟨.ok i,rfl,hm,Q4F,?_⟩,fun q=>by simp only [hz,show ((0:Int) != 0) = false from rfl,Q0]⟩
    have e3:JW isW T (Qj isW T r) r d (f + 1) x i = .ok x.d i:=by rw [JW]; simp only [hz,beq_self_eq_true,if_true]
    simp only [Mix.sp,e3]
    exact ⟨trivial,hc.d⟩
   ·refine Sat.spec (f:=Q3a isW T (Qj isW T r) r d x fun y=>Qc (QG T 4 [59]) fun _=>JW isW T (Qj isW T r) r d f y) ?_ fun j hj=>by cases hj; rw [JW]; simp only [Q1j hz,Bool.false_eq_true,if_false]
    simp only [Q2y hz,Q1]
    unfold Q3a
    refine Sat.word hT.ends (by decide) hm (QA hT (by omega) hm) (fun i j hj hm=>?_) ?_ <;> simp only [Q1,Q0,Bool.not_true,Bool.not_false]
    ·refine Sat.call (Q45 hT (by omega) (by omega) hm (by omega)) fun v m hm hv=>?_
     obtain ⟨l,rfl,hl⟩:=hv
     obtain ⟨g',hg,he⟩:=QcP (N:=1 + j) (agg:=false) (bytes:=16) (ver:=ver) hc.lv hl (fun _=>Qfi) (by omega) (by decide)
     simp only [he]
     refine Sat.callU (Jp hT (by omega) (hm.mono (Nat.le_succ _))) fun m hm=>?_
     have hc':=hc.mono (show M ≤ M + (1 + j) by omega)
     exact IH j (by omega) (by omega) f (by omega) n' (by omega) m { x with lv:=x.lv ++ l } g' g1 g2 g3 g4 (ver + 1) (M + (1 + j)) hm ⟨hg,hc'.ed,hc'.ta,hc'.ch,hc'.pr⟩ (by omega)
    refine Sat.word hT.ends (by decide) hm (QA hT (by omega) hm) (fun i j hj hm=>?_) ?_ <;> simp only [Q1,Q0,Bool.not_true,Bool.not_false]
    ·refine Sat.call (QnV hT (by omega) (by omega) hm (by omega)) fun v m hm hv=>?_
     obtain ⟨l,rfl,hl⟩:=hv
     obtain ⟨g',hg,he⟩:=QcP (N:=j + 2) (agg:=true) (bytes:=32) (ver:=ver) hc.ed hl (fun _=>Qqv) (by omega) (by decide)
     simp only [he]
     refine Sat.callU (Jp hT (by omega) (hm.mono (Nat.le_succ _))) fun m hm=>?_
     have hc':=hc.mono (show M ≤ M + (j + 2) by omega)
     exact IH j (by omega) (by omega) f (by omega) n' (by omega) m { x with ed:=x.ed ++ l } g0 g' g2 g3 g4 (ver + 1) (M + (j + 2)) hm ⟨hc'.lv,hg,hc'.ta,hc'.ch,hc'.pr⟩ (by omega)
    have hc':=hc.mono (show M ≤ M + 1 by omega)
    refine Sat.word hT.ends (by decide) hm (QA hT (by omega) hm) (fun i j hj hm=>?_) ?_ <;> simp only [Q1,Q0,Bool.not_true,Bool.not_false]
    ·refine Sat.call (QnQ hT hN ih hd (by omega) (by omega) hm (by omega)) fun v m hm hv=>?_
     have hv':okG 99 v = true:=hv
     obtain ⟨g',hg,he⟩:=Q0F (bytes:=120) (ver:=ver) hc.ta (show v.cells.length = 6 by rw [Z7 hv',Qjf]; rfl) (by omega) (by decide)
     simp only [hv',Q5,QmI hv,Qy hv',he]
     refine Sat.callU (Jp hT (by omega) (hm.mono (Nat.le_succ _))) fun m hm=>?_
     exact IH j (by omega) (by omega) f (by omega) n' (by omega) m { x with ta:=x.ta ++ [v] } g0 g1 g' g3 g4 (ver + 1) (M + 1) hm ⟨hc'.lv,hc'.ed,hg,hc'.ch,hc'.pr⟩ (by omega)
    refine Sat.word hT.ends (by decide) hm (QA hT (by omega) hm) (fun i j hj hm=>?_) ?_ <;> simp only [Q1,Q0,Bool.not_true,Bool.not_false]
    ·refine Sat.call (Qip hT (by omega) hm) fun v m hm hv=>?_
     have hv':okG 126 v = true:=hv
     obtain ⟨g',hg,he⟩:=Q0F (bytes:=32) (ver:=ver) hc.ch (show v.cells.length = 2 by rw [Z7 hv',Qrl]; rfl) (by omega) (by decide)
     simp only [hv',Q5,Qy hv',he]
     refine Sat.callU (Jp hT (by omega) (hm.mono (Nat.le_succ _))) fun m hm=>?_
     exact IH j (by omega) (by omega) f (by omega) n' (by omega) m { x with ch:=x.ch ++ [v] } g0 g1 g2 g' g4 (ver + 1) (M + 1) hm ⟨hc'.lv,hc'.ed,hc'.ta,hg,hc'.pr⟩ (by omega)
    refine Sat.word hT.ends (by decide) hm (QA hT (by omega) hm) (fun i j hj hm=>?_) ?_ <;> simp only [Q1,Q0,Bool.not_true,Bool.not_false]
    ·refine Sat.call (Qip hT (by omega) hm) fun v m hm hv=>?_
     have hv':okG 126 v = true:=hv
     obtain ⟨g',hg,he⟩:=Q0F (bytes:=32) (ver:=ver) hc.pr (show v.cells.length = 2 by rw [Z7 hv',Qrl]; rfl) (by omega) (by decide)
     simp only [hv',Q5,Qy hv',he]
     refine Sat.callU (Jp hT (by omega) (hm.mono (Nat.le_succ _))) fun m hm=>?_
     exact IH j (by omega) (by omega) f (by omega) n' (by omega) m { x with pr:=x.pr ++ [v] } g0 g1 g2 g3 g' (ver + 1) (M + 1) hm ⟨hc'.lv,hc'.ed,hc'.ta,hc'.ch,hg⟩ (by omega)
    refine Sat.word hT.ends (by decide) hm (QA hT (by omega) hm) (fun i j hj hm=>?_) ?_ <;> simp only [Q1,Q0,Bool.not_true,Bool.not_false]
    ·refine Sat.call (Q55 hT (by omega) (hm.mono (Nat.le_succ _))) fun v m hm _=>?_
     refine Sat.callU (Jp hT (by omega) (hm.mono (Nat.le_succ _))) fun m hm=>?_
     exact IH j (by omega) (by omega) f (by omega) n' (by omega) m { x with lim:=v } g0 g1 g2 g3 g4 (ver + 1) (M + 1) hm ⟨hc'.lv,hc'.ed,hc'.ta,hc'.ch,hc'.pr⟩ (by omega)
    have hf:(Q8 n).s_fail (bS T d (.ok i)) 10 = some (bS T d (.er i (Int.ofNat d) (tk T i).at_ 10)):=Q0J hT (by omega) h1
    obtain ⟨s,hs,m',rfl,hm',_,i',d',rfl⟩:=Jp hT (n:=n) (by omega) (r:=k) (m:=.er i (Int.ofNat d) (tk T i).at_ 10) (d:=d) (Q9a h1) (w:=[59])
    obtain ⟨n',rfl⟩:∃ z,n' = z + 1:=⟨n' - 1,by omega⟩
    exact ⟨(schD g0 g1 g2 g3 g4 x.lim,bS T d (.er i' d' (tk T i).at_ 10)),⟨_,rfl,hm',Q4F,_,_,rfl⟩,fun q=>by simp only [hf,Q3,hs]; exact Qpl hT (by decide)⟩
theorem Qmc (hn:N + 4 ≤ n) (hm:(Mix.ok 0).In T r):Has T r (bS T d) okS ((Q8 n).s_schema (bS T d (.ok 0))) (.ok 0) (HO isW T (Qj isW T r) r d):=by
 obtain ⟨n,rfl,hp⟩:=QJ hn; refine Sat.has (X:=fun q=>s_schema_st (Q8 n) q (loopN (s_schema_st (Q8 n) q) n) (.e (bS T d (.ok 0)))) ?_ fun o ho=>Q6 QP ho; simp only [s_schema_st]
 obtain ⟨n,rfl⟩:∃ z,n = z + 1:=⟨n - 1,by omega⟩
 exact Qon hT hN ih hd (n:=n + 1) (by omega) r (Nat.le_refl _) r (Nat.le_refl _) (n + 1) (by omega) (.ok 0) ⟨[],[],[],[],[],0⟩ .n .n .n .n .n 0 0 hm ⟨rfl,rfl,rfl,rfl,rfl⟩ (by omega)
end
end Go.Proofs.YtfdcjngclelnhaaGreat
namespace Go.Proofs.YtfdcjngclelnhaaGreat
open Go
set_option maxHeartbeats 1000000
set_option maxRecDepth 100000
theorem Qdy {s:List UInt8}:(!s == s) = false:=by simp
theorem Q3o {x:D} {l:List D} (hx:asL x = some l) (hl:l.length ≤ 9223372036854775807) (h:∀ y ∈ l,Q2P y) {n:Nat} (hn:l.length + 2 ≤ n):(Q8 n).r_SameTexts x x = some true:=by
 obtain ⟨n,rfl,hp⟩:=QJ (show l.length + 1 + 1 ≤ n by omega)
 refine Q6 Q0m fun q=>?_
 simp only [Q4,Ju,hx,Q3,Q0P,Q0]
 refine Hj (F:=fun n' i=>loopN (Ju (Q8 n) q) n' (.l0 x x i)) (len:=l.length) (fun n' i hi=>?_) (fun n'=>?_) l.length 0 n (by omega) hp
 ·obtain ⟨s,hs⟩:=h l[i] (List.getElem_mem _)
  have h1:atD l (Int.ofNat i) = some (.str s):=by rw [H0 hi,hs]
  simp only [Q4,Ju,hx,Q3,Q0M hi,Q1,h1,D.flat,asS,Q5,Qdy,Q0,Y6 hi hl]
 ·simp only [Q4,Ju,hx,Q3,HC,Q0]
theorem Q0C {x:D} {l:List D} (hx:asL x = some l) (hl:l.length ≤ 9223372036854775807) (h:∀ y ∈ l,Q3X y) {n:Nat} (hn:l.length + 2 ≤ n):(Q8 n).r_SamePairs x x = some true:=by
 obtain ⟨n,rfl,hp⟩:=QJ (show l.length + 1 + 1 ≤ n by omega)
 refine Q6 Q0m fun q=>?_
 simp only [Q4,r_SamePairs_st,hx,Q3,Q0P,Q0]
 refine Hj (F:=fun n' i=>loopN (r_SamePairs_st (Q8 n) q) n' (.l0 x x i)) (len:=l.length) (fun n' i hi=>?_) (fun n'=>?_) l.length 0 n (by omega) hp
 ·obtain ⟨a,b,hs⟩:=h l[i] (List.getElem_mem _)
  have hok:okG 126 l[i] = true:=by rw [hs]; exact Qr5
  simp only [Q4,r_SamePairs_st,hx,Q3,Q0M hi,Q1,H0 hi,hok,Q5,Qdy,Q0,Y6 hi hl]
 ·simp only [Q4,r_SamePairs_st,hx,Q3,HC,Q0]
theorem QrM {a:List UInt8} {t:Int} {v:Bool} {l:List UInt8}:eqA Tryz.prog 101 (.dat (Qfz a t v l)) (.dat (Qfz a t v l)) = some true:=by
 have e:eqA Tryz.prog 101 (.dat (Qfz a t v l)) (.dat (Qfz a t v l)) = cnd (a == a) (cnd (t == t) (cnd (v == v) (cnd (l == l) (some true) (some false)) (some false)) (some false)) (some false):=by kernel_rfl
 rw [e]; simp only [beq_self_eq_true,Q1]
theorem Qn4 {v:D} (h:QaF v):okS v:=by
 obtain ⟨y,rfl,_⟩:=h
 unfold okS SC.d; rw [Y7,Qmu]
 have:∀ l:List D,(slD l).flat = true:=fun l=>by cases l <;> rfl
 simp [okC,okD,this]
theorem Q3U {l:List D}:asL (slD l) = some l:=by cases l <;> rfl
theorem Qsz {a b h:List UInt8} {c k x:D}:cel (tbl a b c k h x) 2 = c ∧ cel (tbl a b c k h x) 3 = k ∧ cel (tbl a b c k h x) 5 = x:=⟨rfl,rfl,rfl⟩
theorem QrE {a b n' c B:Nat} (h1:b = a + B) (h:b + 1 ≤ n' + c + 1 + 1) (hc:c + 3 ≤ B):a + 1 ≤ n':=by omega
theorem Qsm {k n' c B:Nat} (h:(k + 1) * B + 1 ≤ n' + c + 1 + 1) (hc:c + 3 ≤ B):k * B + 1 ≤ n':=QrE (Nat.succ_mul k B) h hc
theorem QmD {v:D} (h:QaF v):Ev fun n=>(Q8 n).r_SameSchema v v = some true:=by
 obtain ⟨y,rfl,hy⟩:=h
 have hT:∀ t ∈ y.ta,QoB t:=hy.ta.2
 have hE:Ev fun n=>∀ t ∈ y.ta,YS n (cel t 5):=Ev.all fun t ht=>by
  obtain ⟨name,rows,cols,key,hide,c,rfl,_,_,hw⟩:=hT t ht
  exact (Qpt hw).2
 refine Ev.step (fun n hn=>?_) (hE.and (Ev.big 40000300000000005))
 obtain ⟨hse,hb⟩:=hn
 refine Q6 Q4K fun q=>?_
 have c0:cel y.d 0 = slD y.lv:=rfl
 have c1:cel y.d 1 = slD y.ed:=rfl
 have c2:asL (cel y.d 2) = some y.ta:=Q3U
 have c3:cel y.d 3 = slD y.ch:=rfl
 have c4:cel y.d 4 = slD y.pr:=rfl
 have t0:=Q3o (n:=n) (Q3U (l:=y.lv)) (by have:=hy.lv.1; omega) hy.lv.2 (by have:=hy.lv.1; omega)
 have t1:=Q0C (n:=n) (Q3U (l:=y.ed)) (by have:=hy.ed.1; omega) hy.ed.2 (by have:=hy.ed.1; omega)
 have t3:=Q0C (n:=n) (Q3U (l:=y.ch)) (by have:=hy.ch.1; omega) hy.ch.2 (by have:=hy.ch.1; omega)
 have t4:=Q0C (n:=n) (Q3U (l:=y.pr)) (by have:=hy.pr.1; omega) hy.pr.2 (by have:=hy.pr.1; omega)
 have hta:=hy.ta.1
 obtain ⟨n1,rfl⟩:∃ z,n = z + 1:=⟨n - 1,by omega⟩
 rw [Q4]
 simp only [r_SameSchema_st,c0,c1,c2,c3,c4,t0,t1,t3,t4,Q3,Bool.not_true,Q0,Q0P]
 have inner:∀ (t:D) (lc:List D),asL (cel t 2) = some lc → (∀ z ∈ lc,QdC z) → lc.length ≤ 400000 → ∀ (j:Nat),j < y.ta.length → ∀ k i n',i + k = lc.length →
   loopN (r_SameSchema_st (Q8 (n1 + 1)) q) (n' + k + 1) (.l1 (Int.ofNat j) (Int.ofNat i) y.d y.d t t) = loopN (r_SameSchema_st (Q8 (n1 + 1)) q) n' (.l0 (Int.ofNat (j + 1)) y.d y.d):=by
  intro t lc ht hlc hll j hj k
  induction k with
  | zero =>
   intro i n' hi
   have:i = lc.length:=by omega
   subst this
   simp only [Nat.add_zero,Q4,r_SameSchema_st,ht,Q3,HC,Q0,Y6 hj (by omega)]
  | succ k ih =>
   intro i n' hi
   have hil:i < lc.length:=by omega
   obtain ⟨a,u,w,l,hz⟩:=hlc lc[i] (List.getElem_mem _)
   have hok:okG 101 lc[i] = true:=by rw [hz]; exact Qde
   have heq:eqA Tryz.prog 101 (.dat lc[i]) (.dat lc[i]) = some true:=by rw [hz]; exact QrM
   rw [show n' + (k + 1) + 1 = (n' + k + 1) + 1 by omega]
   simp only [Q4 (n:=n' + k + 1),r_SameSchema_st,ht,Q3,Q0M hil,Q1,H0 hil,hok,Q5,Qy hok,heq,Bool.not_true,Q0,Y6 hil (show lc.length ≤ 9223372036854775807 by omega)]
   exact ih (i + 1) n' (by omega)
 have outer:∀ k j n',j + k = y.ta.length → k * 400003 + 1 ≤ n' → loopN (r_SameSchema_st (Q8 (n1 + 1)) q) n' (.l0 (Int.ofNat j) y.d y.d) = q true:=by
  intro k
  induction k with
  | zero =>
   intro j n' hj hn'
   obtain ⟨n',rfl⟩:∃ z,n' = z + 1:=⟨n' - 1,by omega⟩
   have:j = y.ta.length:=by omega
   subst this
   simp only [Q4,r_SameSchema_st,c2,Q3,HC,Q0]
  | succ k ih =>
   intro j n' hj hn'
   have hjl:j < y.ta.length:=by omega
   obtain ⟨name,rows,cols,key,hide,c,hz,⟨lc,hc1,hc2,hc3⟩,⟨lk,hk1,hk2,hk3⟩,hw⟩:=hT y.ta[j] (List.getElem_mem _)
   have hm:y.ta[j] ∈ y.ta:=List.getElem_mem _
   have g:=hse _ hm
   have hat:atD y.ta (Int.ofNat j) = some (tbl name rows cols key hide c):=by rw [H0 hjl,hz]
   rw [hz] at g
   obtain ⟨d2,d3,d5⟩:=Qsz (a:=name) (b:=rows) (h:=hide) (c:=cols) (k:=key) (x:=c)
   unfold YS at g
   rw [d5] at g
   have hok:okG 99 (tbl name rows cols key hide c) = true:=Q8S (by rw [hc2,hk2,(Qpt hw).1]; rfl)
   have hst:=Q3o (n:=n1 + 1) hk1 (by have:=hk3.1; omega) hk3.2 (by have:=hk3.1; omega)
   obtain ⟨n',rfl⟩:∃ z,n' = (z + lc.length + 1) + 1:=⟨n' - lc.length - 2,by have:=hc3.1; omega⟩
   simp only [Q4 (n:=n' + lc.length + 1),r_SameSchema_st,c2,Q3,Q0M hjl,Q1,hat,hok,Q5,QmI hok,Qdy,Q0,d2,d3,d5,hc1,Q0P,hst,g,Bool.not_true]
   have:=inner (tbl name rows cols key hide c) lc (by rw [d2]; exact hc1) hc3.2 hc3.1 j hjl lc.length 0 n' (by omega)
   refine this.trans ?_
   exact ih (j + 1) n' (by rw [← hj]; omega) (Qsm hn' (Nat.le_trans (Nat.add_le_add_right hc3.1 3) (by decide)))
 exact outer y.ta.length 0 (n1 + 1) (by omega) (by omega)
end Go.Proofs.YtfdcjngclelnhaaGreat
