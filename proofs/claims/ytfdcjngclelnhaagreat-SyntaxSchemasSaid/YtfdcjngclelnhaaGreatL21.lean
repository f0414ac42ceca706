/- Part of a proof. -/
import Derived.Test.YtfdcjngclelnhaaGreatL45
import Derived.Test.YtfdcjngclelnhaaGreatL13
import Derived.Test.YtfdcjngclelnhaaGreatL41
import Derived.Test.YtfdcjngclelnhaaGreatL40
set_option linter.unusedSectionVars false
set_option linter.unusedSimpArgs false
set_option linter.unusedVariables false
namespace Go.Proofs.YtfdcjngclelnhaaGreat
open Go
set_option maxHeartbeats 1000000
theorem QpX {α β:Type} {T:List Tok} {k:Int} {s:List UInt8} {A Z:Nat → Out α} {g:α → Nat → Out β}:Qc (Q78 T k s A Z) g = Q78 T k s (Qc A g) (Qc Z g):=by
 funext i; unfold Qc Q78; split <;> rfl
def QrS:MV B74 → Q2c
 | .l0 a b=>.l0 a b
 | .l1 a b c=>.l1 a b c
theorem QjS {S:Q9} {q:D × B74 → Prop} {n:Nat} {w:MV B74}:loopN (Zt S q) n (QrS w) = loopN (Q7I D.str (fun _ X=>X) 1 16 S.p_name S.p_take q) n w:=Jd (fun l w=>by cases w <;> rfl) n w
section
variable {T:List Tok} (hT:TOk T) {n d k:Nat} {m:Mix}
include hT
theorem Qs8 (hn:4 ≤ n) (hm:m.In T k):Has T k (bP T d) (fun _=>True) ((Q8 n).p_ty (bP T d m)) m (tyF T):=by
 obtain ⟨n,rfl,hp⟩:=QJ hn; refine Sat.has (X:=fun q=>Q44 (Q8 n) q (loopN (Q44 (Q8 n) q) n) (.e (bP T d m))) ?_ fun o ho=>Q6 Q2o ho; simp only [Q44]
 unfold tyF
 refine Sat.word hT.ends (by decide) hm (Qz hT (by omega) hm (by decide)) (fun i j hj hm=>?_) ?_ <;> simp only [Q1,Q0,Bool.not_true,Bool.not_false]
 ·exact Sat.ret hm trivial rfl rfl
 refine Sat.word hT.ends (by decide) hm (Qz hT (by omega) hm (by decide)) (fun i j hj hm=>?_) ?_ <;> simp only [Q1,Q0,Bool.not_true,Bool.not_false]
 ·exact Sat.ret hm trivial rfl rfl
 refine Sat.word hT.ends (by decide) hm (Qz hT (by omega) hm (by decide)) (fun i j hj hm=>?_) ?_ <;> simp only [Q1,Q0,Bool.not_true,Bool.not_false]
 ·exact Sat.ret hm trivial rfl rfl
 cases m with
 | ok i=>exact ⟨(0,bP T d (.er i (Int.ofNat d) (tk T i).at_ 10)),⟨_,rfl,Q9a hm.1,trivial,_,_,rfl⟩,fun q=>by simp only [bP,Q1G hT (show 1 ≤ n by omega) hm.1,Q3]⟩
 | er i d' a e=>exact ⟨(0,bP T d (.er i d' a e)),⟨_,rfl,hm,trivial,_,_,rfl⟩,fun q=>by simp only [bP,QcF (show 1 ≤ n by omega) hm.2,Q3]⟩
theorem Qfa (hn:k + 107 ≤ n) (hk:k ≤ 400000) (hm:m.In T k) {f:Nat} (hf:k ≤ f):Has T k (bP T d) (GL Q2P (1 + k)) ((Q8 n).p_names (bP T d m)) m (Ye T (Q2Q isW T) f):=by
 obtain ⟨n,rfl,hp⟩:=QJ hn; refine Sat.has (X:=fun q=>Zt (Q8 n) q (loopN (Zt (Q8 n) q) n) (.e (bP T d m))) ?_ fun o ho=>Q6 Qbi ho; simp only [Zt]
 unfold Ye Q2Q
 rw [QY]
 refine Sat.call (Jg hT (by omega) (hm.mono (Nat.le_succ _))) fun s m hm _=>?_
 refine Sat.eq ?_ fun q=>QjS (w:=.l0 _ _)
 exact (Q4Q (good:=fun _=>True) (P:=Q2P) (r:=k) (fun v _=>⟨v,rfl⟩) rfl hT.ends (by decide) (fun k m hm=>JV hT (by omega) hm (by decide)) (fun j hj m hm=>Jg hT (by omega) (hm.mono (Nat.le_succ _))) (fun v X _=>rfl) (fun v _=>rfl) k (by omega) f hf n (by omega) m [.str s] hm (by simp; omega) (fun x hx=>by rw [List.mem_singleton.1 hx]; exact ⟨s,rfl⟩)).2 s trivial rfl
end
section
variable {T:List Tok} (hT:TOk T) {N r:Nat} (hN:r + 140 ≤ N ∧ r ≤ 200000) (ih:POk T N r) {n d k:Nat} (hd:d ≤ 40) {m:Mix}
include hT hN ih hd
omit hN ih hd in
theorem QaC {α:Type} {good:α → Prop} {K:(α × B74 → Prop) → D → B74 → Prop} {g:D → Nat → Out α} (hn:104 ≤ n) (hm:m.In T k)
  (hk:∀ j,j ≤ k → ∀ v m',m'.In T j → QdC v → Sat T j (bP T d) good (fun q=>K q v (bP T d m')) m' (g v)) :
  Sat T k (bP T d) good (fun q=>bn ((Q8 n).p_name (bP T d m)) fun x42=>bn ((Q8 n).p_ty x42.2) fun x43=>bn ((Q8 n).p_take x43.2 [110,117,108,108]) fun x44=>bn ((Q8 n).p_name x44.2) fun x45=>K q (.agg [.str x42.1,.int .i64 x43.1,.bool x44.1,.str x45.1]) x45.2) m (Qc (Q2x isW T) g):=by
 unfold Q2x
 simp only [QY,Zf,QW]
 refine Sat.call (Jg hT (by omega) (hm.mono (Nat.le_succ _))) fun a m hm _=>?_
 refine Sat.call (Qs8 hT (by omega) hm) fun t m hm _=>?_
 refine Sat.word hT.ends (by decide) hm (Qz hT (by omega) hm (by decide)) (fun i j hj hm=>?_) ?_ <;> simp only [Q1,Q0,Bool.not_true,Bool.not_false]
 ·refine Sat.call (Jg hT (by omega) (hm.mono (Nat.le_succ _))) fun l m hm _=>?_
  exact hk _ (by omega) _ m hm ⟨a,t,true,l,rfl⟩
 ·refine Sat.call (Jg hT (by omega) (hm.mono (Nat.le_succ _))) fun l m hm _=>?_
  exact hk _ (Nat.le_refl _) _ m hm ⟨a,t,false,l,rfl⟩
theorem QiY (hn:N + 1 ≤ n) (hk:k ≤ r) (hm:m.In T k) {n':Nat} (hn':1 ≤ n') {name rows:List UInt8} {cols key:D} {w:Nat} (h1:ZZ cols) (h2:ZZ key) :
  Sat T k (bP T d) Qae (fun q=>loopN (p_table_st (Q8 n) q) n' (.l2 (bP T d m) name rows cols key w)) m (QaN isW T (Qj isW T r) d name rows cols key):=by
 obtain ⟨n',rfl⟩:∃ z,n' = z + 1:=⟨n' - 1,by omega⟩
 unfold ZZ at h1 h2
 unfold QaN
 simp only [Q4,p_table_st,h1,h2,Q5]
 refine Sat.word hT.ends (by decide) hm (Qz hT (by omega) hm (by decide)) (fun i j hj hm=>?_) ?_ <;> simp only [Q1,Q0,Bool.not_true,Bool.not_false]
 ·refine Sat.call (Jg hT (by omega) (hm.mono (Nat.le_succ _))) fun h m hm _=>?_
  refine Sat.callU (JD hT (by omega) (hm.mono (Nat.le_succ _)) (by decide)) fun m hm=>?_
  refine Sat.call (ih.expr _ (by omega) _ hd _ (by omega) _ hm) fun x m hm hx=>?_
  simp only [hx,Q5,Qy hx]
  exact Sat.ret hm (Q8S (by simp only [h1,h2]; rfl)) rfl rfl
 ·exact Sat.ret hm (Q8S (by simp only [h1,h2]; rfl)) rfl rfl
def Qel (isW:List UInt8 → Bool) (T:List Tok) (R:Qf9) (r d:Nat) (name rows:List UInt8) (cols:D):Nat → Out D :=
 Qc (QG T 4 [41]) fun _=>Qc (QiZ isW T r) fun key=>QaN isW T R d name rows cols key
theorem QqX (hn:N + 1 ≤ n) (hk:k ≤ r) (hm:m.In T k) {f:Nat} (hf:k ≤ f) {n':Nat} (hn':1 ≤ n') {name rows:List UInt8} {l:List D} {w w2:Nat} :
  Sat T k (bP T d) Qae (fun q=>bn ((Q8 n).p_must (bP T d m) [41]) fun x47=>bn ((Q8 n).p_take x47 [107,101,121]) fun x48=>cnd x48.1 (bn ((Q8 n).p_must x48.2 [40]) fun x49=>bn ((Q8 n).p_names x49) fun x50=>an x50.1.flat (an x50.1.flat (bn ((Q8 n).p_must x50.2 [41]) fun x51=>loopN (p_table_st (Q8 n) q) n' (.l2 x51 name rows (.slice l) x50.1 w)))) (loopN (p_table_st (Q8 n) q) n' (.l2 x48.2 name rows (.slice l) .nils w2))) m (Qel isW T (Qj isW T r) f d name rows (.slice l)):=by
 unfold Qel QiZ
 refine Sat.callU (Jh hT (by omega) (hm.mono (Nat.le_succ _)) (by decide)) fun m hm=>?_
 simp only [Zf,QW,QY]
 refine Sat.word hT.ends (by decide) hm (Qz hT (by omega) hm (by decide)) (fun i j hj hm=>?_) ?_ <;> simp only [Q1,Q0,Bool.not_true,Bool.not_false]
 ·refine Sat.callU (Jh hT (by omega) (hm.mono (Nat.le_succ _)) (by decide)) fun m hm=>?_
  refine Sat.call (Qfa hT (by omega) (by omega) hm (by omega)) fun key m hm hk'=>?_
  have hk2:key.flat = true:=hk'.flat
  simp only [hk2,Q5]
  refine Sat.callU (Jh hT (by omega) (hm.mono (Nat.le_succ _)) (by decide)) fun m hm=>?_
  exact QiY hT hN ih hd hn (by omega) hm hn' rfl hk2
 ·exact QiY hT hN ih hd hn (by omega) hm hn' rfl rfl
theorem QqM (hn:N + 1 ≤ n) {f:Nat} {name rows:List UInt8}:∀ k,k ≤ r → k ≤ f → ∀ g,k ≤ g → ∀ n',k + 2 ≤ n' → ∀ (m:Mix) (w w':Nat) (l:List D),m.In T k → l ≠ [] → sized 4 l = true → l.length + k ≤ 500000 →
  Sat T k (bP T d) Qae (fun q=>loopN (p_table_st (Q8 n) q) n' (.l1 (m.sees T 4 [44]) (bP T d (m.takes T 4 [44])) name rows w l w')) m (Qc (Z6 T (Q2x isW T) g l) fun cols=>Qel isW T (Qj isW T r) f d name rows cols):=by
 intro k
 induction k using Nat.strongRecOn with
 | ind k IH =>
  intro hk hf g hg n' hn' m w w' l hm hl hs hlen
  obtain ⟨n',rfl⟩:∃ z,n' = z + 1:=⟨n' - 1,by omega⟩
  have he:l.isEmpty = false:=by cases l with | nil=>exact absurd rfl hl | cons _ _=>rfl
  have hap:∀ z:D,(l.length + 1).beq (l ++ [z]).length = true:=fun z=>by rw [List.length_append]; exact Nat.beq_refl _
  have hrm:=ZK (show l.length + 1 ≤ 1000000 by omega) (show 48 ≤ 1000 by decide)
  simp only [Q4,p_table_st,Q5,Q3J,he,hs,hrm,hap,Q0]
  cases m with
  | er i d' a e =>
   simp only [Mix.sees,Mix.takes,Q0]
   exact Sat.spec (QqX hT hN ih hd hn hk hm hf (by omega)) fun j hj=>nomatch hj
  | ok i =>
   obtain ⟨j,rfl⟩:∃ j,k = j + 1:=⟨k - 1,by have:=hm.2; have:=hm.1; omega⟩
   obtain ⟨g,rfl⟩:∃ z,g = z + 1:=⟨g - 1,by omega⟩
   cases hs1:JI T 4 [44] i with
   | false =>
    simp only [Mix.sees,Mix.takes,hs1,Q0,Bool.false_eq_true,if_false]
    refine Sat.spec (QqX hT hN ih hd hn hk hm hf (by omega)) fun i' hi'=>?_
    cases hi'
    show _ = (Out.bind (JJ T 4 [44] _ _ i) _)
    simp only [JJ,hs1,Bool.false_eq_true,if_false,Qx,Out.bind]
   | true =>
    have hi:=hT.ends.next hm.1 (show (tk T i).kind ≠ 0 by rw [(JN hs1).1]; decide)
    have hm':(Mix.ok (i + 1)).In T j:=⟨hi,by have:=hm.2; omega⟩
    simp only [Mix.sees,Mix.takes,hs1,Q1,if_true]
    refine Sat.more (r:=j) (Sat.shift (m':=.ok (i + 1)) (g:=Qc (Qc (Q2x isW T) fun y=>Z6 T (Q2x isW T) g (l ++ [y])) fun cols=>Qel isW T (Qj isW T r) f d name rows cols) ?_ (by
     show (Out.bind (JJ T 4 [44] _ _ i) _) = _
     simp only [JJ,hs1,if_true]; rfl)) (Nat.le_succ j)
    rw [QY]
    refine QaC hT (K:=fun q v s=>bn ((Q8 n).p_take s [44]) fun x46=>loopN (p_table_st (Q8 n) q) n' (.l1 x46.1 x46.2 name rows w' (l ++ [v]) (w' + 1))) (by omega) hm' fun j' hj v m hm hv=>?_
    have t1:=JV hT (n:=n) (d:=d) (by omega) hm (show QT [44] = false from rfl)
    simp only [t1,Q3]
    exact IH j' (by omega) (by omega) (by omega) g (by omega) n' (by omega) m w' (w' + 1) (l ++ [v]) hm (by simp) (by cases l with | nil=>exact absurd rfl hl | cons _ _=>exact hs) (by simp; omega)
theorem QmS (hn:N + 2 ≤ n) (hk:k ≤ r) (hm:m.In T k) {f:Nat} (hf:k ≤ f):Has T k (bP T d) Qae ((Q8 n).p_table (bP T d m)) m (Q4M isW T (Qj isW T r) f d):=by
 obtain ⟨n,rfl,hp⟩:=QJ hn; refine Sat.has (X:=fun q=>p_table_st (Q8 n) q (loopN (p_table_st (Q8 n) q) n) (.e (bP T d m))) ?_ fun o ho=>Q6 QZ ho; simp only [p_table_st]
 unfold Q4M
 refine Sat.call (Jg hT (by omega) (hm.mono (Nat.le_succ _))) fun s m hm _=>?_
 rename_i name
 refine Sat.callU (JD hT (by omega) (hm.mono (Nat.le_succ _)) (by decide)) fun m hm=>?_
 refine Sat.call (Jg hT (by omega) (hm.mono (Nat.le_succ _))) fun s m hm _=>?_
 rename_i rows
 refine Sat.callU (Jh hT (by omega) (hm.mono (Nat.le_succ _)) (by decide)) fun m hm=>?_
 obtain ⟨n,rfl⟩:∃ z,n = z + 1:=⟨n - 1,by omega⟩
 simp only [Q4,p_table_st]
 show Sat T k (bP T d) Qae _ m (Qc (Qc (Q2x isW T) fun x=>Z6 T (Q2x isW T) f [x]) fun cols=>Qel isW T (Qj isW T r) f d _ _ cols)
 rw [QY]
 refine QaC hT (K:=fun q v s=>bn ((Q8 (n + 1)).p_take s [44]) fun x41=>loopN (p_table_st (Q8 (n + 1)) q) n (.l1 x41.1 x41.2 _ _ 7 [v] 8)) (by omega) hm fun j hj v m hm hv=>?_
 have t1:=JV hT (n:=n + 1) (d:=d) (by omega) hm (show QT [44] = false from rfl)
 simp only [t1,Q3]
 exact QqM hT hN ih hd (n:=n + 1) (by omega) j (by omega) (by omega) f (by omega) n (by omega) m 7 8 [v] hm (by simp) (by obtain ⟨a,t,b,l,rfl⟩:=hv; rfl) (by simp; omega)
omit hN ih hd in
theorem Qjn {n' i:Nat} {d' a e:Int} (h:e ≠ 0) {g0 g1 g2 g3 g4:GN} {lim:Int} {ver:Nat} {q:D × B74 → Prop} :
  loopN (p_Schema_st (Q8 n) q) (n' + 1) (.l0 (bP T d (.er i d' a e)) g0 g1 g2 g3 g4 lim ver) = q (schD g0 g1 g2 g3 g4 lim,bP T d (.er i d' a e)):=by
 simp only [Q4,p_Schema_st,bP,Q1j h,Q0]
def PL (T:List Tok) (r n d j F:Nat):Prop:=∀ n',3 * j + 4 ≤ n' → ∀ (m:Mix) (x:SC) (g0 g1 g2 g3 g4:GN) (ver M:Nat),m.In T j → SCells M g0 g1 g2 g3 g4 x → M + j * 200003 ≤ 90000000000 →
  Sat T j (bP T d) okS (fun q=>loopN (p_Schema_st (Q8 n) q) n' (.l0 (bP T d m) g0 g1 g2 g3 g4 x.lim ver)) m (JW isW T (Qj isW T r) r d F x)
theorem QrZ (hn:N + 3 ≤ n) {K F:Nat} (HF:∀ j,j < K → PL T r n d j F):∀ k,k < K → ∀ f,k ≤ f → ∀ n',3 * k + 6 ≤ n' → ∀ (m:Mix) (x:SC) (l:List D) (low:List UInt8) (g0 g1 g2 g3 g4:GN) (ver M:Nat),m.In T k →
  SCells M g0 g1 g2 g3 g4 { x with ed:=x.ed ++ l } → M + k * 200003 + 200000 ≤ 90000000000 →
  Sat T k (bP T d) okS (fun q=>loopN (p_Schema_st (Q8 n) q) n' (.l1 low true (bP T d m) g0 g1 g2 g3 g4 x.lim ver)) m (Qc (ZE isW T f l low) fun v=>Qc (QG T 4 [59]) fun _=>JW isW T (Qj isW T r) r d F { x with ed:=x.ed ++ QcV v }):=by
 intro k
 induction k using Nat.strongRecOn with
 | ind k IH =>
  intro hK f hf n' hn' m x l low g0 g1 g2 g3 g4 ver M hm hc hM
  obtain ⟨n',rfl⟩:∃ z,n' = z + 1:=⟨n' - 1,by omega⟩
  have hm1:m.In T (k - 1 + 1):=by
   cases m with
   | ok i=>exact ⟨hm.1,by have:=hm.1; have:=hm.2; omega⟩
   | er i d a e=>exact hm
  refine Sat.spec (f:=Qc (ZE isW T (f - 1 + 1) l low) fun v=>Qc (QG T 4 [59]) fun _=>JW isW T (Qj isW T r) r d F { x with ed:=x.ed ++ QcV v }) ?_ fun i hi=>?_
  ·simp only [Q4,p_Schema_st,Q1,ZE,QY,QpX,QW]
   refine Sat.more (Sat.callU (Jh hT (by omega) hm1 (by decide)) fun m hm=>?_) (Nat.sub_le k 1)
   refine Sat.call (Jg hT (by omega) (hm.mono (Nat.le_succ _))) fun h m hm _=>?_
   obtain ⟨g',hg,he⟩:=Q0F (x:=pr2 low h) (bytes:=32) (ver:=ver) hc.ed rfl (by omega) (by decide)
   have he':∀ K:GN → Prop,app1 g1 2 32 (.agg [.str low,.str h]) ver K = K g':=he
   simp only [he']
   have hc':=hc.mono (show M ≤ M + 1 by omega)
   have hc2:SCells (M + 1) g0 g' g2 g3 g4 { x with ed:=x.ed ++ (l ++ [pr2 low h]) }:=⟨hc'.lv,by rw [← List.append_assoc]; exact hg,hc'.ta,hc'.ch,hc'.pr⟩
   refine Sat.see2 (QqZ hT (by omega) hm (by decide)) (fun i hi=>?_) ?_
   ·subst hi
    have h1:=hm.1
    have h2:=hm.2
    exact IH (k - 1) (by omega) (by omega) (f - 1) (by omega) n' (by omega) (.ok i) x (l ++ [pr2 low h]) h g0 g' g2 g3 g4 (ver + 1) (M + 1) hm hc2 (by omega)
   ·obtain ⟨n',rfl⟩:∃ z,n' = z + 1:=⟨n' - 1,by omega⟩
    simp only [Q4,p_Schema_st,Q0]
    refine Sat.callU (Jh hT (by omega) (hm.mono (Nat.le_succ _)) (by decide)) fun m hm=>?_
    exact HF (k - 1) (by omega) n' (by omega) m _ g0 g' g2 g3 g4 (ver + 1) (M + 1) hm hc2 (by omega)
  ·subst hi
   have h1:=hm.1
   have h2:=hm.2
   rw [show f - 1 + 1 = f by omega]
theorem QkA (hn:N + 3 ≤ n):∀ k,k ≤ r → ∀ f,k ≤ f → PL T r n d k f:=by
 intro k
 induction k using Nat.strongRecOn with
 | ind k IH =>
  intro hk f hf n' hn' m x g0 g1 g2 g3 g4 ver M hm hc hM
  obtain ⟨n',rfl⟩:∃ z,n' = z + 1:=⟨n' - 1,by omega⟩
  cases m with
  | er i d' a e=>exact ⟨(schD g0 g1 g2 g3 g4 x.lim,bP T d (.er i d' a e)),⟨_,rfl,hm,Q4F,_,_,rfl⟩,fun q=>Qjn hT hm.2⟩
  | ok i =>
   have h1:=hm.1
   have h2:=hm.2
   obtain ⟨f,rfl⟩:∃ z,f = z + 1:=⟨f - 1,by omega⟩
   have e1:(bP T d (.ok i)).c4 = 0:=rfl
   have e2:asL (bP T d (.ok i)).c0 = some (T.map Tok.d):=Ya
   have e4:atD (T.map Tok.d) (bP T d (.ok i)).c1 = some (tk T i).d:=Yj h1
   simp only [Q4,p_Schema_st,e1,e2,e4,beq_self_eq_true,Q1,Q3,JG,Q5,ZY]
   by_cases hz:(tk T i).kind = 0
   ·refine ⟨(schD g0 g1 g2 g3 g4 x.lim,bP T d (.ok i)),⟨.ok i,rfl,hm,Q4F,?_⟩,fun q=>by simp only [hz,show ((0:Int) != 0) = false from rfl,Q0]⟩
    have e3:JW isW T (Qj isW T r) r d (f + 1) x i = .ok x.d i:=by rw [JW]; simp only [hz,beq_self_eq_true,if_true]
    simp only [Mix.sp,e3]
    exact ⟨trivial,hc.d⟩
   ·refine Sat.spec (f:=Q3a isW T (Qj isW T r) r d x fun y=>Qc (QG T 4 [59]) fun _=>JW isW T (Qj isW T r) r d f y) ?_ fun j hj=>by cases hj; rw [JW]; simp only [Q1j hz,Bool.false_eq_true,if_false]
    simp only [Q2y hz,Q1]
    unfold Q3a
    refine Sat.word hT.ends (by decide) hm (Qz hT (by omega) hm (by decide)) (fun i j hj hm=>?_) ?_ <;> simp only [Q1,Q0,Bool.not_true,Bool.not_false]
    ·refine Sat.call (Qfa hT (by omega) (by omega) hm (by omega)) fun v m hm hv=>?_
     obtain ⟨l,rfl,hl⟩:=hv
     obtain ⟨g',hg,he⟩:=QcP (N:=1 + j) (agg:=false) (bytes:=16) (ver:=ver) hc.lv hl (fun _=>Qfi) (by omega) (by decide)
     simp only [he]
     refine Sat.callU (Jh hT (by omega) (hm.mono (Nat.le_succ _)) (by decide)) fun m hm=>?_
     have hc':=hc.mono (show M ≤ M + (1 + j) by omega)
     exact IH j (by omega) (by omega) f (by omega) n' (by omega) m { x with lv:=x.lv ++ l } g' g1 g2 g3 g4 (ver + 1) (M + (1 + j)) hm ⟨hg,hc'.ed,hc'.ta,hc'.ch,hc'.pr⟩ (by omega)
    refine Sat.word hT.ends (by decide) hm (Qz hT (by omega) hm (by decide)) (fun i j hj hm=>?_) ?_ <;> simp only [Q1,Q0,Bool.not_true,Bool.not_false]
    ·unfold Q8k
     rw [QY]
     refine Sat.call (Jg hT (by omega) (hm.mono (Nat.le_succ _))) fun low m hm _=>?_
     exact QrZ hT hN ih hd hn (K:=k) (F:=f) (fun j' hj'=>IH j' hj' (by omega) f (by omega)) j (by omega) r (by omega) n' (by omega) m x [] low g0 g1 g2 g3 g4 ver M hm (by rw [List.append_nil]; exact hc) (by omega)
    have hc':=hc.mono (show M ≤ M + 1 by omega)
    refine Sat.word hT.ends (by decide) hm (Qz hT (by omega) hm (by decide)) (fun i j hj hm=>?_) ?_ <;> simp only [Q1,Q0,Bool.not_true,Bool.not_false]
    ·refine Sat.call (QmS hT hN ih hd (by omega) (by omega) hm (by omega)) fun v m hm hv=>?_
     have hv':okG 99 v = true:=hv
     obtain ⟨g',hg,he⟩:=Q0F (bytes:=120) (ver:=ver) hc.ta (show v.cells.length = 6 by rw [Z7 hv',Qjf]; rfl) (by omega) (by decide)
     simp only [hv',Q5,QmI hv,Qy hv',he]
     refine Sat.callU (Jh hT (by omega) (hm.mono (Nat.le_succ _)) (by decide)) fun m hm=>?_
     exact IH j (by omega) (by omega) f (by omega) n' (by omega) m { x with ta:=x.ta ++ [v] } g0 g1 g' g3 g4 (ver + 1) (M + 1) hm ⟨hc'.lv,hc'.ed,hg,hc'.ch,hc'.pr⟩ (by omega)
    refine Sat.word hT.ends (by decide) hm (Qz hT (by omega) hm (by decide)) (fun i j hj hm=>?_) ?_ <;> simp only [Q1,Q0,Bool.not_true,Bool.not_false]
    ·unfold Q8c
     simp only [QY,QW]
     refine Sat.call (Jg hT (by omega) (hm.mono (Nat.le_succ _))) fun a m hm _=>?_
     refine Sat.call (Jg hT (by omega) (hm.mono (Nat.le_succ _))) fun b m hm _=>?_
     obtain ⟨g',hg,he⟩:=Q0F (x:=pr2 a b) (bytes:=32) (ver:=ver) hc.ch rfl (by omega) (by decide)
     have he':∀ K:GN → Prop,app1 g3 2 32 (.agg [.str a,.str b]) ver K = K g':=he
     simp only [he']
     refine Sat.callU (Jh hT (by omega) (hm.mono (Nat.le_succ _)) (by decide)) fun m hm=>?_
     exact IH j (by omega) (by omega) f (by omega) n' (by omega) m { x with ch:=x.ch ++ [pr2 a b] } g0 g1 g2 g' g4 (ver + 1) (M + 1) hm ⟨hc'.lv,hc'.ed,hc'.ta,hg,hc'.pr⟩ (by omega)
    refine Sat.word hT.ends (by decide) hm (Qz hT (by omega) hm (by decide)) (fun i j hj hm=>?_) ?_ <;> simp only [Q1,Q0,Bool.not_true,Bool.not_false]
    ·unfold Q8c
     simp only [QY,QW]
     refine Sat.call (Jg hT (by omega) (hm.mono (Nat.le_succ _))) fun a m hm _=>?_
     refine Sat.call (Jg hT (by omega) (hm.mono (Nat.le_succ _))) fun b m hm _=>?_
     obtain ⟨g',hg,he⟩:=Q0F (x:=pr2 a b) (bytes:=32) (ver:=ver) hc.pr rfl (by omega) (by decide)
     have he':∀ K:GN → Prop,app1 g4 2 32 (.agg [.str a,.str b]) ver K = K g':=he
     simp only [he']
     refine Sat.callU (Jh hT (by omega) (hm.mono (Nat.le_succ _)) (by decide)) fun m hm=>?_
     exact IH j (by omega) (by omega) f (by omega) n' (by omega) m { x with pr:=x.pr ++ [pr2 a b] } g0 g1 g2 g3 g' (ver + 1) (M + 1) hm ⟨hc'.lv,hc'.ed,hc'.ta,hc'.ch,hg⟩ (by omega)
    refine Sat.word hT.ends (by decide) hm (Qz hT (by omega) hm (by decide)) (fun i j hj hm=>?_) ?_ <;> simp only [Q1,Q0,Bool.not_true,Bool.not_false]
    ·refine Sat.call (QoM hT (by omega) (hm.mono (Nat.le_succ _))) fun v m hm _=>?_
     refine Sat.callU (Jh hT (by omega) (hm.mono (Nat.le_succ _)) (by decide)) fun m hm=>?_
     exact IH j (by omega) (by omega) f (by omega) n' (by omega) m { x with lim:=v } g0 g1 g2 g3 g4 (ver + 1) (M + 1) hm ⟨hc'.lv,hc'.ed,hc'.ta,hc'.ch,hc'.pr⟩ (by omega)
    have hf:(Q8 n).p_bad (bP T d (.ok i)) 10 = some (bP T d (.er i (Int.ofNat d) (tk T i).at_ 10)):=Q1G hT (by omega) h1
    obtain ⟨s,hs,m',rfl,hm',_,i',d',rfl⟩:=Jh hT (n:=n) (by omega) (r:=k) (m:=.er i (Int.ofNat d) (tk T i).at_ 10) (d:=d) (Q9a h1) (w:=[59]) (by decide)
    obtain ⟨n',rfl⟩:∃ z,n' = z + 1:=⟨n' - 1,by omega⟩
    exact ⟨(schD g0 g1 g2 g3 g4 x.lim,bP T d (.er i' d' (tk T i).at_ 10)),⟨_,rfl,hm',Q4F,_,_,rfl⟩,fun q=>by simp only [hf,Q3,hs]; exact Qjn hT (by decide)⟩
theorem QkO (hn:N + 2 * r + 8 ≤ n) (hm:(Mix.ok 0).In T r):Has T r (bP T d) okS ((Q8 n).p_Schema (bP T d (.ok 0))) (.ok 0) (HO isW T (Qj isW T r) r d):=by
 obtain ⟨n,rfl,hp⟩:=QJ hn; refine Sat.has (X:=fun q=>p_Schema_st (Q8 n) q (loopN (p_Schema_st (Q8 n) q) n) (.e (bP T d (.ok 0)))) ?_ fun o ho=>Q6 QZ ho; simp only [p_Schema_st]
 obtain ⟨n,rfl⟩:∃ z,n = z + 1:=⟨n - 1,by omega⟩
 exact QkA hT hN ih hd (n:=n + 1) (by omega) r (Nat.le_refl _) r (Nat.le_refl _) (n + 1) (by omega) (.ok 0) ⟨[],[],[],[],[],0⟩ .n .n .n .n .n 6 0 hm ⟨rfl,rfl,rfl,rfl,rfl⟩ (by omega)
end
end Go.Proofs.YtfdcjngclelnhaaGreat
namespace Go.Proofs.YtfdcjngclelnhaaGreat
open Go
set_option maxHeartbeats 1000000
theorem Q7j {s:List UInt8} {p:Nat} {e:Int}:∀ f i T,Q08 s f i T = .bad p e → e ≠ 0
 | 0,i,T,h=>by cases h; decide
 | f + 1,i,T,h=>by
  rw [Q08] at h
  try dsimp only at h
  split at h
  ·split at h
   ·cases h; decide
   ·cases h
  ·split at h
   ·cases h; decide
   ·split at h
    ·cases h; decide
    ·exact Q7j f _ _ h
theorem Qfm {s:List UInt8} {p:Nat} {e:Int} (h:Zk s = .bad p e):e ≠ 0:=by
 unfold Zk at h
 split at h
 ·cases h; decide
 ·exact Q7j _ _ _ h
def QdB (z:D):Out D → D × Int × Int
 | .ok v _=>(v,0,0)
 | .err a e=>(z,a,e)
def Q2K (z:D) (f:List Tok → Nat → Out D):SR → D × Int × Int
 | .ok T=>QdB z (Q2w T (f T))
 | .bad p e=>(z,Int.ofNat p,e)
theorem d00:((0:Int) != 0) = false:=rfl
theorem Qq8:((0:Int) == 0) = true:=rfl
theorem d10:((10:Int) != 0) = true:=rfl
theorem QsD:((10:Int) == 0) = false:=rfl
end Go.Proofs.YtfdcjngclelnhaaGreat
namespace Go.Proofs.YtfdcjngclelnhaaGreat
open Go
set_option maxRecDepth 100000
set_option maxHeartbeats 2000000
theorem Qkh {n m:Nat} (hn:1 ≤ n):(Q8 n).k_letter (Int.ofNat m) = some (Y9 m):=by
 obtain ⟨n,rfl,hp⟩:=QJ hn
 refine Q6 Hb fun q=>?_
 simp only [Q4,Q23,geL,leL,Q1k,Y9]
 cases decide (97 ≤ m) <;> cases decide (m ≤ 122) <;> cases decide (65 ≤ m) <;> cases decide (m ≤ 90) <;> rfl
theorem QoJ {n m:Nat} (hn:1 ≤ n):(Q8 n).k_digit (Int.ofNat m) = some (QN m):=by
 obtain ⟨n,rfl,hp⟩:=QJ hn
 refine Q6 Hb fun q=>?_
 simp only [Q4,Q3c,geL,leL,QN]
 cases decide (48 ≤ m) <;> rfl
theorem Qfo {n m:Nat} (hn:1 ≤ n):(Q8 n).k_blank (Int.ofNat m) = some (Q0g m):=by
 obtain ⟨n,rfl,hp⟩:=QJ hn
 refine Q6 Hb fun q=>?_
 simp only [Q4,Q31,Q1k,Q0g]
 cases m == 32 <;> cases m == 9 <;> cases m == 10 <;> rfl
def marks:List (List UInt8):=[[124,124],[60,62],[60,61],[62,61],[40],[41],[44],[59],[46],[42],[43],[45],[47],[37],[61],[60],[62],[123],[125],[58]]
theorem QoD {n:Nat} (hn:1 ≤ n):(Q8 n).k_Marks = some (.slice (marks.map .str)):=by
 obtain ⟨n,rfl,hp⟩:=QJ hn
 exact Q6 QaR fun q=>rfl
def Q8R:TR → Int × List UInt8 × Int × Int
 | .tok t e=>(Int.ofNat e,t.text,0,0)
 | .bad p=>(0,[],Int.ofNat p,10)
section
variable {s:List UInt8} (hs:s.length ≤ 20000) {n a:Nat}
def vK (s:List UInt8) (a i:Nat) (acc:List UInt8):Q4e:=match acc with
 | []=>.l0 s (Int.ofNat a) (Int.ofNat i)
 | c :: r=>.l1 s (Int.ofNat a) (J0 (c :: r)) (Int.ofNat i) (r.length + 1)
theorem Qdo {i:Nat} {X Y:Prop}:cnd (decide (Int.ofNat (i + 1) < Int.ofNat s.length)) (bn (s[i + 1]?) fun x=>cnd (Int.ofNat x.toNat == 39) X Y) Y = if s[i + 1]? = some 39 then X else Y:=by
 rw [ltN]
 rcases Nat.lt_or_ge (i + 1) s.length with h | h
 ·rw [decide_eq_true h,Q1,List.getElem?_eq_getElem h,Q3,Q1k,show ((s[i + 1]).toNat == 39) = (s[i + 1] == 39) from (J2 (by decide)).symm]
  by_cases hx:s[i + 1] = 39
  ·rw [hx,if_pos rfl]; rfl
  ·rw [if_neg (fun e=>hx (Option.some.inj e)),show (s[i + 1] == 39) = false by simpa using hx]; rfl
 ·rw [decide_eq_false (by omega),Q0,List.getElem?_eq_none h,if_neg (by simp)]
include hs
theorem Qhf {q:Int × List UInt8 × Int × Int → Prop}:∀ k i acc n',s.length ≤ i + k → i ≤ s.length + 1 → acc.length ≤ i → k + 1 ≤ n' →
  loopN (Jm (Q8 n) q) n' (vK s a i acc) = q (Q8R (Zl s a k i acc)):=by
 intro k
 have ended:∀ i acc n',s.length ≤ i → 1 ≤ n' → loopN (Jm (Q8 n) q) n' (vK s a i acc) = q (Q8R (.bad a)):=by
  intro i acc n' hi hn'
  obtain ⟨n',rfl,_⟩:=QJ (show 0 + 1 ≤ n' by omega)
  have e:decide (i < s.length) = false:=by simpa using hi
  cases acc <;> simp only [vK,Q4,Jm,ltN,e,Q0,Q8R]
 induction k with
 | zero =>
  intro i acc n' hk hi ha hn'
  exact ended i acc n' (by omega) (by omega)
 | succ k ih =>
  intro i acc n' hk hi ha hn'
  rcases Nat.lt_or_ge i s.length with h | h
  ·obtain ⟨n',rfl,hp⟩:=QJ hn'
   have hc:s[i]? = some s[i]:=List.getElem?_eq_getElem h
   generalize s[i] = c at hc
   rw [Zl,hc]
   try dsimp only
   have e:=decide_eq_true h
   have ew:=QL (show i ≤ 200000 by omega)
   have ew2:IntKind.i64.wrap (Int.ofNat (i + 1) + 1) = Int.ofNat (i + 2):=QL (show i + 1 ≤ 200000 by omega)
   cases h1:decide (c.toNat < 32) && c.toNat != 10 with
   | true =>
    simp only [Bool.and_eq_true] at h1
    simp only [if_true]
    cases acc <;> simp only [vK,Q4,Jm,ltN,e,Q1,Zg,Q0,YV,hc,Q3,ltL,ltZ,h1.1,Q53,h1.2,Q8R]
   | false =>
    simp only [Bool.false_eq_true,if_false]
    have same:∀ {X Y:Prop},cnd (decide (c.toNat < 32)) (cnd (c.toNat != 10) X Y) Y = Y:=by
     intro X Y
     cases g1:decide (c.toNat < 32) with
     | false=>rfl
     | true=>rw [g1,Bool.true_and] at h1; rw [h1]; rfl
    cases h39:c.toNat != 39 with
    | true =>
     simp only [if_true]
     rw [← ih (i + 1) (acc ++ [c]) n' (by omega) (by omega) (by simp; omega) (by omega)]
     cases acc with
     | nil=>simp only [vK,Q4,Jm,ltN,e,Q1,Zg,Q0,YV,hc,Q3,ltL,ltZ,Q53,same,h39,ew]; rfl
     | cons b r =>
      have e4:(r.length + 1 == (J0 (b :: r)).length) = true:=by simp [J0]
      have e5:=ZK (show r.length + 1 + 1 ≤ 1000000 by rw [List.length_cons] at ha; omega) (show 1 ≤ 1000 by decide)
      simp only [vK,Q4,Jm,ltN,e,Q1,Zg,Q0,YV,hc,Q3,ltL,ltZ,Q53,same,h39,ew,e4,e5,Q5,List.cons_append,List.length_append,List.length_cons,List.length_nil]
      congr 2
      simp [J0]
    | false =>
     have hc39:(c.toNat == 39) = true:=by
      unfold bne at h39
      cases hh:c.toNat == 39 with
      | true=>rfl
      | false=>rw [hh] at h39; exact nomatch h39
     have hceq:c = 39:=eq_of_beq ((J2 (by decide):(c == 39) = (c.toNat == 39)).trans hc39)
     simp only [Bool.false_eq_true,if_false]
     by_cases hx:s[i + 1]? = some 39
     ·have hi1:i + 1 < s.length:=by
       rcases Nat.lt_or_ge (i + 1) s.length with g | g
       ·exact g
       ·rw [List.getElem?_eq_none g] at hx; cases hx
      rw [if_pos hx,← ih (i + 2) (acc ++ [39]) n' (by omega) (by omega) (by simp; omega) (by omega)]
      cases acc with
      | nil=>simp only [vK,Q4,Jm,ltN s.length,ltN i,e,Q1,Zg i,Q0,YV,hc,Q3,ltL,ltZ,Q53,same,h39,ew,Qdo,if_pos hx,ew2]; rfl
      | cons b r =>
       have e4:(r.length + 1 == (J0 (b :: r)).length) = true:=by simp [J0]
       have e5:=ZK (show r.length + 1 + 1 ≤ 1000000 by rw [List.length_cons] at ha; omega) (show 1 ≤ 1000 by decide)
       simp only [vK,Q4,Jm,ltN i,e,Q1,Zg i,Q0,YV,hc,Q3,ltL,ltZ,Q53,same,h39,ew,Qdo,if_pos hx,ew2,e4,e5,Q5,List.cons_append,List.length_append,List.length_cons,List.length_nil]
       congr 2
       simp [J0]
     ·rw [if_neg hx]
      cases acc with
      | nil =>
       simp only [vK,Q4,Jm,ltN i,e,Q1,Zg i,Q0,YV,hc,Q3,ltL,ltZ,Q53,same,h39,ew,Qdo,if_neg hx]
       rfl
      | cons b r =>
       have e4:(J0 (b :: r)).length = (b :: r).length:=by simp [J0]
       simp only [vK,Q4,Jm,ltN i,e,Q1,Zg i,Q0,YV,hc,Q3,ltL,ltZ,Q53,same,h39,ew,Qdo,if_neg hx,e4,gtL,Q4G]
       by_cases h1000:(b :: r).length > 1000
       ·rw [if_pos h1000,decide_eq_true h1000]; rfl
       ·rw [if_neg h1000,decide_eq_false h1000]; rfl
  ·rw [Zl,List.getElem?_eq_none h]
   exact ended i acc n' h (by omega)
theorem QqP (hn:20100 ≤ n) (ha:a < s.length):(Q8 n).k_text s (Int.ofNat a) = some (Q8R (Q5T s a)):=by
 obtain ⟨n,rfl,hp⟩:=QJ hn
 have ew:=QL (show a ≤ 200000 by omega)
 refine Q6 Qkf fun q=>?_
 unfold Q5T
 rw [← Qhf hs (n:=n) (q:=q) (s.length - a) (a + 1) [] n (by omega) (by omega) (by simp) (by omega)]
 show loopN (Jm (Q8 n) q) n (.l0 s (Int.ofNat a) (IntKind.i64.wrap (Int.ofNat a + 1))) = _
 rw [ew]; rfl
end
end Go.Proofs.YtfdcjngclelnhaaGreat
