/- Part of a proof. -/
import Derived.Test.YtfdcjngclelnhaaL15
set_option linter.unusedSectionVars false
set_option linter.unusedSimpArgs false
set_option linter.unusedVariables false
namespace Go.Proofs.Ytfdcjngclelnhaa
open Go
abbrev okE (v:D):Prop:=okG 38 v = true
abbrev okQ (v:D):Prop:=okG 54 v = true
abbrev okF (v:D):Prop:=okG 65 v = true
abbrev okI (v:D):Prop:=okG 107 v = true
abbrev okY (v:D):Prop:=okG 109 v = true
def okL (v:D):Prop:=v.flat = true
theorem mkE {a n:Int} {s t:List UInt8} {k q:D} (h:(k.flat && q.flat) = true):okE (ex a n s t k q):=okEx.trans h
theorem mkQ {k:Int} {d:Bool} {a b c e f g:D} {l:Int} {h:D} (hh:(a.flat && (b.flat && (c.flat && (e.flat && (f.flat && (g.flat && h.flat)))))) = true):okQ (qu k d a b c e f g l h):=okQu.trans hh
theorem mkF {k:Int} {t:List UInt8} {v:Bool} {a:List UInt8} {q l o:D} (h:(q.flat && (l.flat && o.flat)) = true):okF (frm k t v a q l o):=okFrm.trans h
theorem okBin {w:List UInt8} {x y:D}:okE (binX w x y):=by unfold binX okE; rw [okEx]; rfl
section
variable {B:Type} {T:List Tok} {b:Mix → B}
def tryF (T:List Tok) (kk:Int) (op:Nat → Option (List UInt8)) (rest:Nat → Out D) (f:Nat) (x:D) (l:List (List UInt8)):Nat → Out D:=fun i =>
  match opIn T kk l i with
  | some w=>(rest (i + 1)).bind fun y=>pLoop op rest f (binX w x y)
  | none=>.ok x i
theorem tryF_cons {kk:Int} {op:Nat → Option (List UInt8)} {rest:Nat → Out D} {f:Nat} {x:D} {w:List UInt8} {l:List (List UInt8)}:tryF T kk op rest f x (w :: l) = ifO T kk w (seqO rest fun y=>pLoop op rest f (binX w x y)) (tryF T kk op rest f x l):=by
  funext i
  unfold tryF ifO seqO
  rw [opIn]
  cases pSees T kk w i <;> rfl
inductive LV (B:Type) where
  | l0 (y0:D) (y1:B) (y2:D) (y3:Nat)
  | l1 (y0:D) (y1:Int) (y2:Int) (y3:B) (y4:D) (y5:Nat)
def leftSt (one:B → Option (D × B)) (takes:B → List UInt8 → Option (Bool × B)) (bin:List UInt8 → D → D → Option D) (r:D × B → Prop) (l:LV B → Prop):LV B → Prop
  | .l0 y0 y1 y2 y3=>bn (asL y0) fun x16=>l (.l1 y0 (Int.ofNat x16.length) 0 y1 y2 y3)
  | .l1 y0 y1 y2 y3 y4 y5=>cnd (decide (y2 < y1)) (bn (asL y0) fun x17=>bn (atD x17 y2) fun x18=>an x18.flat (bn (asS x18) fun x19=>bn (takes y3 x19) fun x20=>cnd x20.1 (bn (one x20.2) fun x21=>an (okG 38 x21.1) (an (okG 38 (G 38 y4)) (an (okG 38 (G 38 x21.1)) (bn (bin x19 (G 38 y4) (G 38 x21.1)) fun x22=>an (okG 38 x22) (fl x22 [4,5] (l (.l0 y0 x21.2 x22 (y5 + 6)))))))) (l (.l1 y0 y1 (IntKind.i64.wrap (y2 + 1)) x20.2 y4 y5)))) (fl y4 [4,5] (r ((G 38 y4),y3)))
theorem left_sat {one:B → Option (D × B)} {takes:B → List UInt8 → Option (Bool × B)} {bin:List UInt8 → D → D → Option D} {r:Nat} {kk:Int} {ops:List (List UInt8)} {rest:Nat → Out D} (hT:Ends T) (hkk:kk ≠ 0)
    (htk:∀ k m w,m.In T k → takes (b m) w = some (m.sees T kk w,b (m.takes T kk w)))
    (hone:∀ k,k ≤ r → ∀ i,(Mix.ok i).In T k → Has T k b okE (one (b (.ok i))) (.ok i) rest)
    (hbin:∀ w x y,okE x → okE y → bin w x y = some (binX w x y)) (hops:ops.length ≤ 6) :
    ∀ k,k ≤ r + 1 → ∀ f,k ≤ f → ∀ n,(k + 1) * 8 ≤ n → ∀ m x w,m.In T k → okE x →
      Sat T k b okE (fun q=>loopN (leftSt one takes bin q) n (.l0 (.slice (ops.map .str)) (b m) x w)) m (pLoop (opIn T kk ops) rest f x):=by
  intro k
  induction k using Nat.strongRecOn with
  | ind k IH =>
    intro hk f hf n hn m x w hm hx
    have inner:∀ (l:List (List UInt8)) (t n:Nat),ops.drop t = l → t + l.length = ops.length → l.length + 1 + k * 8 ≤ n → ∀ f',k ≤ f' + 1 → Sat T k b okE (fun q=>loopN (leftSt one takes bin q) n (.l1 (.slice (ops.map .str)) (Int.ofNat ops.length) (Int.ofNat t) (b m) x w)) m (tryF T kk (opIn T kk ops) rest f' x l):=by
      intro l
      induction l with
      | nil =>
        intro t n hd hl hn f' hf'
        obtain ⟨n,rfl⟩:∃ n',n = n' + 1:=⟨n - 1,by omega⟩
        have e:decide (Int.ofNat t < Int.ofNat ops.length) = false:=by simp at hl ⊢; omega
        simp only [loopN_s,leftSt,e,cnd_false,flEx hx,G_ok hx]
        exact Sat.ret hm hx rfl rfl
      | cons u l ih =>
        intro t n hd hl hn f' hf'
        obtain ⟨n,rfl⟩:∃ n',n = n' + 1:=⟨n - 1,by omega⟩
        have ht:t < ops.length:=by simp at hl; omega
        have e:decide (Int.ofNat t < Int.ofNat ops.length) = true:=by simpa using ht
        have hu:ops[t] = u:=by
          have:=List.drop_eq_getElem_cons ht
          rw [hd] at this
          exact (List.cons.inj this).1.symm
        have hdl:ops.drop (t + 1) = l:=by
          have:=List.drop_eq_getElem_cons ht
          rw [hd] at this
          exact (List.cons.inj this).2.symm
        have ea:atD (ops.map D.str) (Int.ofNat t) = some (.str u):=by
          unfold atD
          rw [if_neg (by simp)]
          show (ops.map D.str)[t]? = _
          rw [List.getElem?_map,List.getElem?_eq_getElem ht,hu]; rfl
        have ew:IntKind.i64.wrap (Int.ofNat t + 1) = Int.ofNat (t + 1):=by rw [i64_small (by simp; omega) (by simp; omega)]; rfl
        simp only [loopN_s,leftSt,e,cnd_true,asL,bn_some,ea,D.flat,an_true,asS,ew]
        rw [tryF_cons]
        refine Sat.word hT hkk hm (htk k m u hm) (fun i j hj hi=>?_) ?_ <;> simp only [cnd_true,cnd_false]
        · refine Sat.call (hone j (by omega) i hi) fun y m' hm' hy=>?_
          simp only [hy,an_true,G_ok hy,G_ok hx,hx,hbin u x y hx hy,bn_some,okBin,show okG 38 (binX u x y) = true from okBin,flEx (show okG 38 (binX u x y) = true from okBin)]
          exact IH j (by omega) (by omega) f' (by omega) n (by omega) m' (binX u x y) (w + 6) hm' okBin
        · exact ih (t + 1) n hdl (by simp at hl; omega) (by simp at hn; omega) f' hf'
    obtain ⟨n,rfl⟩:∃ n',n = n' + 1:=⟨n - 1,by omega⟩
    simp only [loopN_s,leftSt,asL,bn_some,List.length_map]
    have h0:=inner ops 0 n rfl (by omega) (by omega) (f - 1) (by omega)
    refine Sat.spec h0 fun i hi=>?_
    subst hi
    obtain ⟨f,rfl⟩:∃ f',f = f' + 1:=⟨f - 1,by have:=hm.2; have:=hm.1; omega⟩
    rfl
inductive MV (B:Type) where
  | l0 (y0:List D) (y1:B)
  | l1 (y0:List D) (y1:B) (y2:Nat)
def listSt (t sz bytes:Nat) (one:B → Option (D × B)) (mark:B → List UInt8 → Option (Bool × B)) (r:D × B → Prop) (l:MV B → Prop):MV B → Prop
  | .l0 y0 y1=>bn (mark y1 [44]) fun x6=>cnd x6.1 (bn (one x6.2) fun x7=>an (okG t x7.1) (fl x7.1 [4,5] (an (sized sz y0) (an (roomOk (y0.length + 1) bytes) (l (.l1 (y0 ++ [G t x7.1]) x7.2 (y0.length + 1))))))) (r ((.slice y0),x6.2))
  | .l1 y0 y1 y2=>bn (mark y1 [44]) fun x8=>cnd x8.1 (bn (one x8.2) fun x9=>an (okG t x9.1) (fl x9.1 [4,5] (an (y2 == y0.length) (an (roomOk (y2 + 1) bytes) (l (.l1 (y0 ++ [G t x9.1]) x9.2 (y2 + 1))))))) (r ((.slice y0),x8.2))
theorem room_ok {n bytes:Nat} (h:n ≤ 1000000) (hb:bytes ≤ 1000):roomOk n bytes = true:=by
  unfold roomOk
  have:n * bytes ≤ 1000000 * 1000:=Nat.mul_le_mul h hb
  have e:2 * n * bytes = 2 * (n * bytes):=Nat.mul_assoc ..
  exact decide_eq_true ⟨by rw [e]; omega,by omega⟩
theorem list_sat1 {t sz bytes:Nat} {one:B → Option (D × B)} {mark:B → List UInt8 → Option (Bool × B)} {r:Nat} {rest:Nat → Out D} (hT:Ends T) (hby:bytes ≤ 1000)
    (hmk:∀ k m,m.In T k → mark (b m) [44] = some (m.sees T 4 [44],b (m.takes T 4 [44])))
    (hone:∀ k,k ≤ r → ∀ m:Mix,m.In T k → Has T k b (fun v=>okG t v = true) (one (b m)) m rest)
    (hfl:∀ v A,okG t v = true → fl v [4,5] A = A) (hsz:∀ v,okG t v = true → v.cells.length = sz) :
    ∀ k,k ≤ r + 1 → ∀ f,k ≤ f → ∀ n,k + 2 ≤ n → ∀ m l,m.In T k → l.length + k ≤ 500000 →
      Sat T k b okL (fun q=>loopN (listSt t sz bytes one mark q) n (.l1 l (b m) l.length)) m (pMore T rest f l) ∧
      ∀ x,okG t x = true → l = [x] → Sat T k b okL (fun q=>loopN (listSt t sz bytes one mark q) n (.l0 l (b m))) m (pMore T rest f l):=by
  intro k
  induction k using Nat.strongRecOn with
  | ind k IH =>
    intro hk f hf n hn m l hm hl
    obtain ⟨n,rfl⟩:∃ n',n = n' + 1:=⟨n - 1,by omega⟩
    have hconv:∀ {X:(D × B → Prop) → Prop},Sat T k b okL X m (ifO T 4 [44] (seqO rest fun y=>pMore T rest (f - 1) (l ++ [y])) (retO (.slice l))) → Sat T k b okL X m (pMore T rest f l):=fun h=>by
      refine Sat.spec h fun i hi=>?_
      subst hi
      obtain ⟨f,rfl⟩:∃ f',f = f' + 1:=⟨f - 1,by have:=hm.2; have:=hm.1; omega⟩
      rfl
    constructor
    · refine hconv ?_
      simp only [loopN_s,listSt]
      refine Sat.word hT (by decide) hm (hmk k m hm) (fun i j hj hi=>?_) (Sat.ret hm rfl rfl rfl)
      simp only [cnd_true]
      refine Sat.call (hone j (by omega) (.ok i) hi) fun y m' hm' hy=>?_
      simp only [hy,an_true,hfl y _ hy,G_ok hy,beq_self_eq_true,room_ok (show l.length + 1 ≤ 1000000 by omega) hby]
      have:=(IH j (by omega) (by omega) (f - 1) (by omega) n (by omega) m' (l ++ [y]) hm' (by simp; omega)).1
      rwa [List.length_append] at this
    · intro x hx hlx
      refine hconv ?_
      have es:sized sz l = true:=by subst hlx; unfold sized; simp [hsz x hx]
      simp only [loopN_s,listSt]
      refine Sat.word hT (by decide) hm (hmk k m hm) (fun i j hj hi=>?_) (Sat.ret hm rfl rfl rfl)
      simp only [cnd_true]
      refine Sat.call (hone j (by omega) (.ok i) hi) fun y m' hm' hy=>?_
      simp only [hy,an_true,hfl y _ hy,G_ok hy,es,room_ok (show l.length + 1 ≤ 1000000 by omega) hby]
      have:=(IH j (by omega) (by omega) (f - 1) (by omega) n (by omega) m' (l ++ [y]) hm' (by simp; omega)).1
      rwa [List.length_append] at this
theorem list_sat {t sz bytes:Nat} {one:B → Option (D × B)} {mark:B → List UInt8 → Option (Bool × B)} {r:Nat} {rest:Nat → Out D} (hT:Ends T) (hby:bytes ≤ 1000)
    (hmk:∀ k m w,m.In T k → mark (b m) w = some (m.sees T 4 w,b (m.takes T 4 w)))
    (hone:∀ k,k ≤ r → ∀ m:Mix,m.In T k → Has T k b (fun v=>okG t v = true) (one (b m)) m rest)
    (hfl:∀ v A,okG t v = true → fl v [4,5] A = A) (hsz:∀ v,okG t v = true → v.cells.length = sz) :
    ∀ k,k ≤ r + 1 → ∀ f,k ≤ f → ∀ n,k + 2 ≤ n → ∀ m l,m.In T k → l.length + k ≤ 500000 →
      Sat T k b okL (fun q=>loopN (listSt t sz bytes one mark q) n (.l1 l (b m) l.length)) m (pMore T rest f l) ∧
      ∀ x,okG t x = true → l = [x] → Sat T k b okL (fun q=>loopN (listSt t sz bytes one mark q) n (.l0 l (b m))) m (pMore T rest f l):=list_sat1 hT hby (fun k m hm=>hmk k m [44] hm) hone hfl hsz
end
end Go.Proofs.Ytfdcjngclelnhaa
namespace Go.Proofs.Ytfdcjngclelnhaa
open Go
theorem pos {n k:Nat} (h:k + 1 ≤ n):∃ m,n = m + 1 ∧ k ≤ m:=⟨n - 1,by omega,by omega⟩
def bS (T:List Tok) (d:Nat):Mix → B82
  | .ok i=>⟨tD T,Int.ofNat i,Int.ofNat d,0,0⟩
  | .er i d' a e=>⟨tD T,Int.ofNat i,d',a,e⟩
theorem cnd_same {b:Bool} {p:Prop}:cnd b p p = p:=by cases b <;> rfl
theorem er10 {T:List Tok} {r i:Nat} {d a:Int} (h:i < T.length):(Mix.er i d a 10).In T r:=⟨h,by decide⟩
theorem er9 {T:List Tok} {r i:Nat} {d a:Int} (h:i < T.length):(Mix.er i d a 9).In T r:=⟨h,by decide⟩
theorem one_more {i:Nat} (h:i ≤ 200000):IntKind.i64.wrap (Int.ofNat i + 1) = Int.ofNat (i + 1):=by rw [i64_small (by simp; omega) (by simp; omega)]; rfl
theorem beqE {e:Int} (h:e ≠ 0):(e == 0) = false:=by simpa using h
theorem bneE {e:Int} (h:e ≠ 0):(e != 0) = true:=by simpa using h
section
variable {T:List Tok} (hT:TOk T) {n d i:Nat} {r:Nat} {m:Mix}
include hT
theorem s_now_ (hn:1 ≤ n) (hi:i < T.length) {d a e:Int}:(fns n).s_now ⟨tD T,Int.ofNat i,d,a,e⟩ = some ((tk T i).d,⟨tD T,Int.ofNat i,d,a,e⟩):=by
  obtain ⟨n,rfl,hp⟩:=pos hn
  refine rawN_eq enc0_inj fun q=>?_
  simp only [loopN_s,s_now_st,asL_tD,bn_some,atD_tD hi,okTok,an_true,G_ok okTok]
theorem s_failO (hn:2 ≤ n) (hi:i < T.length) {d x:Int}:(fns n).s_fail ⟨tD T,Int.ofNat i,d,0,0⟩ x = some ⟨tD T,Int.ofNat i,d,(tk T i).at_,x⟩:=by
  obtain ⟨n,rfl,hp⟩:=pos hn
  refine rawN_eq enc1_inj fun q=>?_
  simp only [loopN_s,s_fail_st,s_now_ hT hp hi,bn_some,okTok,an_true,cTok3,beq_self_eq_true,cnd_true]
omit hT in
theorem s_failE (hn:1 ≤ n) {t:D} {i d a e x:Int} (he:e ≠ 0):(fns n).s_fail ⟨t,i,d,a,e⟩ x = some ⟨t,i,d,a,e⟩:=by
  obtain ⟨n,rfl,hp⟩:=pos hn
  refine rawN_eq enc1_inj fun q=>?_
  simp only [loopN_s,s_fail_st,beqE he,cnd_false]
theorem s_sees_ (hn:2 ≤ n) (hm:m.In T r) {k:Int} {w:List UInt8}:(fns n).s_sees (bS T d m) k w = some (m.sees T k w,bS T d m):=by
  obtain ⟨n,rfl,hp⟩:=pos hn
  refine rawN_eq enc2_inj fun q=>?_
  cases m with
  | ok i =>
    simp only [loopN_s,s_sees_st,bS,beq_self_eq_true,cnd_true,s_now_ hT hp hm.1,bn_some,okTok,an_true,cTok0,cTok1,Mix.sees,pSees]
    cases (tk T i).kind == k <;> simp only [cnd_true,cnd_false,Bool.true_and,Bool.false_and]
  | er i d' a e=>simp only [loopN_s,s_sees_st,bS,beqE hm.2,cnd_false,Mix.sees]
theorem s_next_ (hn:1 ≤ n) (hi:i + 1 < T.length):(fns n).s_next (bS T d (.ok i)) = some (bS T d (.ok (i + 1))):=by
  obtain ⟨n,rfl,hp⟩:=pos hn
  refine rawN_eq enc3_inj fun q=>?_
  have hl:=hT.len
  have e1:IntKind.i64.wrap (Int.ofNat T.length - 1) = Int.ofNat (T.length - 1):=by rw [i64_small (by simp; omega) (by simp; omega)]; simp; omega
  have e2:decide (Int.ofNat i < Int.ofNat (T.length - 1)) = true:=by simp; omega
  simp only [loopN_s,s_next_st,bS,asL_tD,bn_some,List.length_map,e1,e2,cnd_true,one_more (show i ≤ 200000 by omega)]
theorem s_take (hn:1 ≤ n) (hm:m.In T r) {k:Int} (hk:k ≠ 0) {w:List UInt8} {q:Bool × B82 → Prop} :
    cnd (m.sees T k w) (bn ((fns n).s_next (bS T d m)) fun x=>q (m.sees T k w,x)) (q (m.sees T k w,bS T d m)) = q (m.sees T k w,bS T d (m.takes T k w)):=by
  cases m with
  | ok i =>
    cases h:pSees T k w i with
    | true=>simp only [Mix.sees,Mix.takes,h,cnd_true,s_next_ hT hn (hT.ends.next hm.1 (by rw [(sees_kind h).1]; exact hk)),bn_some,if_true]
    | false=>simp only [Mix.sees,Mix.takes,h,cnd_false,Bool.false_eq_true,if_false]
  | er i d a e=>rfl
theorem s_word_ (hn:3 ≤ n) (hm:m.In T r) {w:List UInt8}:(fns n).s_word (bS T d m) w = some (m.sees T 1 w,bS T d (m.takes T 1 w)):=by
  obtain ⟨n,rfl,hp⟩:=pos hn
  refine rawN_eq enc4_inj fun q=>?_
  simp only [loopN_s,s_word_st,s_sees_ hT hp hm,bn_some]
  exact s_take hT (by omega) hm (by decide)
theorem s_mark_ (hn:3 ≤ n) (hm:m.In T r) {w:List UInt8}:(fns n).s_mark (bS T d m) w = some (m.sees T 4 w,bS T d (m.takes T 4 w)):=by
  obtain ⟨n,rfl,hp⟩:=pos hn
  refine rawN_eq enc4_inj fun q=>?_
  simp only [loopN_s,s_mark_st,s_sees_ hT hp hm,bn_some]
  exact s_take hT (by omega) hm (by decide)
theorem s_mustU (hn:2 ≤ n) (hm:m.In T (r + 1)) {k:Int} (hk:k ≠ 0) {w:List UInt8} {C:Option B82}
    (hc:∀ s,(∀ q:B82 → Prop,cnd (!m.sees T k w) (bn ((fns n).s_fail (bS T d (m.takes T k w)) 10) q) (q (bS T d (m.takes T k w))) = q s) → C = some s):HasU T r (bS T d) C m (pMust T k w):=by
  cases m with
  | ok i =>
    cases h:pSees T k w i with
    | true =>
      refine ⟨_,hc (bS T d (.ok (i + 1))) fun q=>by simp only [Mix.sees,Mix.takes,h,Bool.not_true,cnd_false,if_true],.ok (i + 1),rfl,?_,trivial,?_⟩
      · have:=hT.ends.next hm.1 (by rw [(sees_kind h).1]; exact hk)
        obtain ⟨_,h2⟩:=hm
        exact ⟨this,by omega⟩
      · simp only [Mix.sp,pMust,h,if_true,and_self]
    | false =>
      refine ⟨_,hc (bS T d (.er i (Int.ofNat d) (tk T i).at_ 10)) fun q=>by simp only [Mix.sees,Mix.takes,h,Bool.not_false,cnd_true,Bool.false_eq_true,if_false,bS,s_failO hT hn hm.1,bn_some],.er _ _ _ _,rfl,er10 hm.1,trivial,?_⟩
      simp only [Mix.sp,pMust,h,Bool.false_eq_true,if_false,noGo]
      exact ⟨_,_,rfl⟩
  | er i d' a e =>
    exact ⟨_,hc (bS T d (.er i d' a e)) fun q=>by simp only [Mix.sees,Mix.takes,Bool.not_false,cnd_true,bS,s_failE (show 1 ≤ n by omega) hm.2,bn_some],.er _ _ _ _,rfl,hm,trivial,_,_,rfl⟩
theorem s_must_ (hn:4 ≤ n) (hm:m.In T (r + 1)) {w:List UInt8}:HasU T r (bS T d) ((fns n).s_must (bS T d m) w) m (pMust T 1 w):=by
  obtain ⟨n,rfl,hp⟩:=pos hn
  exact s_mustU hT (show 2 ≤ n by omega) hm (by decide) fun s hs=>rawN_eq enc5_inj fun q=>by
    simp only [loopN_s,s_must_st,s_word_ hT hp hm,bn_some]
    exact hs q
theorem s_need_ (hn:4 ≤ n) (hm:m.In T (r + 1)) {w:List UInt8}:HasU T r (bS T d) ((fns n).s_need (bS T d m) w) m (pMust T 4 w):=by
  obtain ⟨n,rfl,hp⟩:=pos hn
  exact s_mustU hT (show 2 ≤ n by omega) hm (by decide) fun s hs=>rawN_eq enc5_inj fun q=>by
    simp only [loopN_s,s_need_st,s_mark_ hT hp hm,bn_some]
    exact hs q
def nameB (T:List Tok):Mix → Bool
  | .ok i=>(tk T i).kind == 1 && !isW (tk T i).text
  | .er _ _ _ _=>false
theorem s_named_ (hn:2 ≤ n) (hm:m.In T r):(fns n).s_named (bS T d m) = some (nameB T m,bS T d m):=by
  obtain ⟨n,rfl,hp0⟩:=pos hn
  obtain ⟨n,rfl,hp⟩:=pos hp0
  refine rawN_eq enc6_inj fun q=>?_
  cases m with
  | ok i =>
    simp only [loopN_s,s_named_st,bS,beq_self_eq_true,cnd_true,s_now_ hT (show 1 ≤ n + 1 by omega) hm.1,bn_some,okTok,an_true,cTok0,cTok1,t_Word_,nameB]
    cases (tk T i).kind == 1 <;> simp only [cnd_true,cnd_false,Bool.true_and,Bool.false_and]
  | er i d' a e=>simp only [loopN_s,s_named_st,bS,beqE hm.2,cnd_false,nameB]
theorem s_name_ (hn:3 ≤ n) (hm:m.In T (r + 1)):Has T r (bS T d) (fun _=>True) ((fns n).s_name (bS T d m)) m (pName isW T):=by
  obtain ⟨n,rfl,hp⟩:=pos hn
  cases m with
  | ok i =>
    cases h:nameB T (.ok i) with
    | true =>
      have hk:(tk T i).kind ≠ 0:=fun e=>by simp [nameB,e] at h
      have hi:=hT.ends.next hm.1 hk
      refine ⟨((tk T i).text,bS T d (.ok (i + 1))),rawN_eq enc7_inj fun q=>?_,.ok (i + 1),rfl,⟨hi,by obtain ⟨_,h2⟩:=hm; omega⟩,trivial,?_⟩
      · have e1:=s_next_ hT (d:=d) (show 1 ≤ n by omega) hi
        simp only [loopN_s,s_name_st,s_named_ hT hp hm,h,bn_some,Bool.not_true,cnd_false]
        simp only [bS] at e1 ⊢
        simp only [s_now_ hT (show 1 ≤ n by omega) hm.1,bn_some,okTok,an_true,e1,cTok1]
      · simp only [nameB] at h
        simp only [Mix.sp,pName,h,if_true,and_self]
    | false =>
      refine ⟨([],bS T d (.er i (Int.ofNat d) (tk T i).at_ 10)),rawN_eq enc7_inj fun q=>?_,.er _ _ _ _,rfl,er10 hm.1,trivial,?_⟩
      · simp only [loopN_s,s_name_st,s_named_ hT hp hm,h,bn_some,Bool.not_false,cnd_true]
        simp only [bS,s_failO hT hp hm.1,bn_some]
      · simp only [nameB] at h
        simp only [Mix.sp,pName,h,Bool.false_eq_true,if_false,noGo]
        exact ⟨_,_,rfl⟩
  | er i d' a e =>
    refine ⟨([],bS T d (.er i d' a e)),rawN_eq enc7_inj fun q=>?_,.er _ _ _ _,rfl,hm,trivial,_,_,rfl⟩
    simp only [loopN_s,s_name_st,s_named_ hT hp hm,nameB,bn_some,Bool.not_false,cnd_true]
    simp only [bS,s_failE (show 1 ≤ n by omega) hm.2,bn_some]
theorem s_number_ (hn:3 ≤ n) (hm:m.In T (r + 1)):Has T r (bS T d) (fun _=>True) ((fns n).s_number (bS T d m)) m (pNumber T):=by
  obtain ⟨n,rfl,hp⟩:=pos hn
  cases m with
  | ok i =>
    have en:=@s_now_ T hT n i (by omega) hm.1
    cases h:(tk T i).kind == 2 with
    | true =>
      have hk:(tk T i).kind ≠ 0:=fun e=>by simp [e] at h
      have hi:=hT.ends.next hm.1 hk
      refine ⟨((tk T i).n,bS T d (.ok (i + 1))),rawN_eq enc8_inj fun q=>?_,.ok (i + 1),rfl,⟨hi,by obtain ⟨_,h2⟩:=hm; omega⟩,trivial,?_⟩
      · have e1:=s_next_ hT (d:=d) (show 1 ≤ n by omega) hi
        simp only [bS] at e1
        simp only [loopN_s,s_number_st,bS,bne,beq_self_eq_true,Bool.not_true,cnd_false,en,bn_some,okTok,an_true,cTok0,h,e1,cTok2]
      · simp only [Mix.sp,pNumber,h,if_true,and_self]
    | false =>
      refine ⟨(0,bS T d (.er i (Int.ofNat d) (tk T i).at_ 10)),rawN_eq enc8_inj fun q=>?_,.er _ _ _ _,rfl,er10 hm.1,trivial,?_⟩
      · simp only [loopN_s,s_number_st,bS,bne,beq_self_eq_true,Bool.not_true,Bool.not_false,cnd_false,cnd_true,en,bn_some,okTok,an_true,cTok0,h,s_failO hT (show 2 ≤ n by omega) hm.1]
      · simp only [Mix.sp,pNumber,h,Bool.false_eq_true,if_false,noGo]
        exact ⟨_,_,rfl⟩
  | er i d' a e =>
    refine ⟨(0,bS T d (.er i d' a e)),rawN_eq enc8_inj fun q=>?_,.er _ _ _ _,rfl,hm,trivial,_,_,rfl⟩
    simp only [loopN_s,s_number_st,bS,bneE hm.2,cnd_true,s_failE (show 1 ≤ n by omega) hm.2,bn_some]
theorem s_enter_ {α:Type} {good:α → Prop} {K:(α × B82 → Prop) → Bool × B82 → Prop} {g:Nat → Out α} {z:α} (hn:3 ≤ n) (hd:d ≤ 40) (hm:m.In T r) (hz:good z)
    (hN:∀ q s,K q (false,s) = q (z,s))
    (hY:∀ i,(Mix.ok i).In T r → d + 1 ≤ 40 → Sat T r (bS T d) good (fun q=>K q (true,bS T (d + 1) (.ok i))) (.ok i) g):Sat T r (bS T d) good (fun q=>bn ((fns n).s_enter (bS T d m)) (K q)) m (seqO (pDeep T d) fun _=>g):=by
  obtain ⟨n,rfl,hp⟩:=pos hn
  have hs:∀ {s s'} {v:Bool},(∀ q:Bool × B82 → Prop,s_enter_st (fns n) q (loopN (s_enter_st (fns n) q) n) (.e s) = q (v,s')) → (fns (n + 1)).s_enter s = some (v,s'):=fun h=>rawN_eq enc6_inj h
  cases m with
  | ok i =>
    by_cases h40:40 < d + 1
    · have h1:decide (Int.ofNat (d + 1) > 40) = true:=by simp; omega
      have e1:(fns (n + 1)).s_enter (bS T d (.ok i)) = some (false,bS T d (.er i (Int.ofNat (d + 1)) (tk T i).at_ 9)):=hs fun q=>by
        simp only [s_enter_st,bS,one_more (show d ≤ 200000 by omega),h1,cnd_true,s_failO hT (show 2 ≤ n by omega) hm.1,bn_some]
        rfl
      refine ⟨(z,bS T d (.er i (Int.ofNat (d + 1)) (tk T i).at_ 9)),⟨.er _ _ _ _,rfl,er9 hm.1,hz,?_⟩,fun q=>by simp only [e1,bn_some,hN]⟩
      simp only [Mix.sp,seqO,pDeep,h40,if_true,noGo,Out.bind]
      exact ⟨_,_,rfl⟩
    · have h1:decide (Int.ofNat (d + 1) > 40) = false:=by simp; omega
      have e1:(fns (n + 1)).s_enter (bS T d (.ok i)) = some (true,bS T (d + 1) (.ok i)):=hs fun q=>by
        simp only [s_enter_st,bS,one_more (show d ≤ 200000 by omega),h1,cnd_false]
        rfl
      obtain ⟨o,g1,g2⟩:=hY i hm (by omega)
      refine ⟨o,?_,fun q=>by simp only [e1,bn_some]; exact g2 q⟩
      simpa only [Mix.sp,seqO,pDeep,h40,if_false,Out.bind] using g1
  | er i d' a e =>
    have e1:(fns (n + 1)).s_enter (bS T d (.er i d' a e)) = some (false,bS T d (.er i (IntKind.i64.wrap (d' + 1)) a e)):=hs fun q=>by
      simp only [s_enter_st,bS,s_failE (show 1 ≤ n by omega) hm.2,bn_some,beqE hm.2]
      exact cnd_same
    exact ⟨(z,bS T d (.er i (IntKind.i64.wrap (d' + 1)) a e)),⟨.er _ _ _ _,rfl,hm,hz,_,_,rfl⟩,fun q=>by simp only [e1,bn_some,hN]⟩
omit hT in
theorem s_leave_ (hn:1 ≤ n) (hd:d ≤ 40) (m:Mix):∃ m',(fns n).s_leave (bS T (d + 1) m) = some (bS T d m') ∧ (∀ i,m = .ok i → m' = .ok i) ∧ (∀ i d a e,m = .er i d a e → ∃ d',m' = .er i d' a e):=by
  obtain ⟨n,rfl,hp⟩:=pos hn
  cases m with
  | ok i =>
    have e1:IntKind.i64.wrap (Int.ofNat (d + 1) - 1) = Int.ofNat d:=by rw [i64_small (by simp <;> omega) (by simp <;> omega)]; simp
    refine ⟨.ok i,rawN_eq enc3_inj fun q=>?_,fun _ h=>h,fun _ _ _ _ h=>nomatch h⟩
    simp only [loopN_s,s_leave_st,bS,e1]
  | er i d' a e =>
    refine ⟨.er i (IntKind.i64.wrap (d' - 1)) a e,rawN_eq enc3_inj fun q=>?_,(fun _ h=>nomatch h),fun _ _ _ _ h=>by cases h; exact ⟨_,rfl⟩⟩
    simp only [loopN_s,s_leave_st,bS]
theorem Sat.leave {α:Type} {good:α → Prop} {K:(α × B82 → Prop) → B82 → Prop} {v w:α} (hn:1 ≤ n) (hd:d ≤ 40) (hm:m.In T r) (hg:good v) (hv:v = w) (hK:∀ q s,K q s = q (v,s)) :
    Sat T r (bS T d) good (fun q=>bn ((fns n).s_leave (bS T (d + 1) m)) (K q)) m (retO w):=by
  subst hv
  obtain ⟨m',hs,h1,h2⟩:=s_leave_ (T:=T) hn hd m
  refine ⟨(v,bS T d m'),⟨m',rfl,?_,hg,?_⟩,fun q=>by simp only [hs,bn_some,hK]⟩
  · cases m with
    | ok i=>rw [h1 i rfl]; exact hm
    | er i d a e=>obtain ⟨d',e'⟩:=h2 i d a e rfl; rw [e']; exact hm
  · cases m with
    | ok i=>exact ⟨h1 i rfl,rfl⟩
    | er i d a e=>obtain ⟨d',e'⟩:=h2 i d a e rfl; exact ⟨_,_,e'⟩
end
end Go.Proofs.Ytfdcjngclelnhaa
namespace Go.Proofs.Ytfdcjngclelnhaa
open Go
def el:Nat → Option Nat
  | 1=>some 0 | 3=>some 2 | 5=>some 4 | 6=>some 8 | 7=>some 9 | _=>none
inductive W:Nat → D → Prop where
  | ex {a n:Int} {s t:List UInt8} {k q:D}:W 1 k → W 3 q → W 0 (ex a n s t k q)
  | qu {k:Int} {d:Bool} {a b c e f g:D} {l:Int} {h:D}:W 6 a → W 5 b → W 1 c → W 1 e → W 1 f → W 7 g → W 3 h → W 2 (qu k d a b c e f g l h)
  | frm {k:Int} {t:List UInt8} {v:Bool} {a:List UInt8} {q l o:D}:W 3 q → W 5 l → W 1 o → W 4 (frm k t v a q l o)
  | itm {x:D} {s:List UInt8}:W 0 x → W 8 (itm x s)
  | ky {x:D} {s:Bool}:W 0 x → W 9 (ky x s)
  | nils {k e:Nat}:el k = some e → W k .nils
  | sl {k e:Nat} {l:List D}:el k = some e → l.length ≤ 400000 → (∀ x ∈ l,W e x) → W k (.slice l)
def Ev (p:Nat → Prop):Prop:=∃ N,∀ n,N ≤ n → p n
theorem Ev.and {p q:Nat → Prop}:Ev p → Ev q → Ev fun n=>p n ∧ q n
  | ⟨N,h⟩,⟨M,g⟩=>⟨max N M,fun n hn=>⟨h n (by omega),g n (by omega)⟩⟩
theorem Ev.all {p:Nat → D → Prop}:∀ {l:List D},(∀ x ∈ l,Ev fun n=>p n x) → Ev fun n=>∀ x ∈ l,p n x
  | [],_=>⟨0,fun _ _ x hx=>by cases hx⟩
  | y :: l,h=>by
    obtain ⟨N,g⟩:=h y (by simp)
    obtain ⟨M,g2⟩:=Ev.all (l:=l) fun x hx=>h x (by simp [hx])
    refine ⟨max N M,fun n hn x hx=>?_⟩
    rcases List.mem_cons.1 hx with rfl | hx
    · exact g n (by omega)
    · exact g2 n (by omega) x hx
theorem Ev.step {p q:Nat → Prop} (h:∀ n,p n → q (n + 1)):Ev p → Ev q
  | ⟨N,g⟩=>⟨N + 1,fun n hn=>by obtain ⟨m,rfl,hm⟩:=pos hn; exact h m (g m hm)⟩
theorem Ev.big (k:Nat):Ev fun n=>k ≤ n:=⟨k,fun _ h=>h⟩
theorem idx_loop {F:Nat → Int → Prop} {len:Nat} {p:Prop} (h1:∀ n i,i < len → F (n + 1) (Int.ofNat i) = F n (Int.ofNat (i + 1))) (h2:∀ n,F (n + 1) (Int.ofNat len) = p):∀ k i n,i + k = len → k + 1 ≤ n → F n (Int.ofNat i) = p
  | 0,i,n,hi,hn=>by
    obtain ⟨n,rfl,_⟩:=pos hn
    have:i = len:=by omega
    subst this
    exact h2 n
  | k + 1,i,n,hi,hn=>by
    obtain ⟨n,rfl,hp⟩:=pos hn
    rw [h1 n i (by omega)]
    exact idx_loop h1 h2 k (i + 1) n (by omega) hp
theorem atD_get {l:List D} {i:Nat} (h:i < l.length):atD l (Int.ofNat i) = some l[i]:=by
  unfold atD
  rw [if_neg (by simp)]
  show l[i]? = _
  rw [List.getElem?_eq_getElem h]
theorem lt_yes {i n:Nat} (h:i < n):decide (Int.ofNat i < Int.ofNat n) = true:=by simpa using h
theorem lt_no {n:Nat}:decide (Int.ofNat n < Int.ofNat n) = false:=by simp
theorem bne_no {n:Int}:(n != n) = false:=by simp
theorem one_step {i n:Nat} (h:i < n) (hn:n ≤ 9223372036854775807):IntKind.i64.wrap (Int.ofNat i + 1) = Int.ofNat (i + 1):=by rw [i64_small (by simp; omega) (by simp; omega)]; rfl
def sameE (n:Nat) (x:D):Prop:=(fns n).r_SameExpr x x = some true
def sameEs (n:Nat) (x:D):Prop:=(fns n).r_SameExprs x x = some true
def sameQ (n:Nat) (x:D):Prop:=(fns n).r_SameQuery x x = some true
def sameQs (n:Nat) (x:D):Prop:=(fns n).r_SameQueries x x = some true
def sameFs (n:Nat) (x:D):Prop:=(fns n).r_SameFroms x x = some true
theorem g26_itm {x:D} (h:okE x) {s:List UInt8}:G 38 (itm x s) = x:=by
  obtain ⟨a,n,u,t,k,q,rfl,h1,h2⟩:=ex_cells h
  show D.agg (expC (ctys Try.prog 8 38) _ 0) = _
  rw [ctEx]; rfl
theorem g26_ky {x:D} (h:okE x) {s:Bool}:G 38 (ky x s) = x:=by
  obtain ⟨a,n,u,t,k,q,rfl,h1,h2⟩:=ex_cells h
  show D.agg (expC (ctys Try.prog 8 38) _ 0) = _
  rw [ctEx]; rfl
def SameP:Nat → D → Prop
  | 0,x=>okE x ∧ Ev fun n=>sameE n x
  | 1,x=>x.flat = true ∧ Ev fun n=>sameEs n x
  | 2,x=>okQ x ∧ Ev fun n=>sameQ n x
  | 3,x=>x.flat = true ∧ Ev fun n=>sameQs n x
  | 4,x=>okF x ∧ Ev fun n=>sameQs n (cel x 4) ∧ sameFs n (cel x 5) ∧ sameEs n (cel x 6)
  | 5,x=>x.flat = true ∧ Ev fun n=>sameFs n x
  | 6,x=>x.flat = true ∧ ∃ l,asL x = some l ∧ l.length ≤ 9223372036854775807 ∧ ∀ y ∈ l,okI y ∧ okE (G 38 y) ∧ Ev fun n=>sameE n (G 38 y)
  | 7,x=>x.flat = true ∧ ∃ l,asL x = some l ∧ l.length ≤ 9223372036854775807 ∧ ∀ y ∈ l,okY y ∧ okE (G 38 y) ∧ Ev fun n=>sameE n (G 38 y)
  | 8,y=>okI y ∧ okE (G 38 y) ∧ Ev fun n=>sameE n (G 38 y)
  | 9,y=>okY y ∧ okE (G 38 y) ∧ Ev fun n=>sameE n (G 38 y)
  | _,_=>True
theorem sameEs_of {x:D} {l:List D} (hx:asL x = some l) (hl:l.length ≤ 9223372036854775807) (h:∀ y ∈ l,okE y ∧ Ev fun n=>sameE n y):Ev fun n=>sameEs n x:=by
  refine Ev.step (fun n hn=>?_) ((Ev.all fun y hy=>(h y hy).2).and (Ev.big (l.length + 1)))
  obtain ⟨hs,hb⟩:=hn
  refine rawN_eq enc19_inj fun q=>?_
  simp only [loopN_s,r_SameExprs_st,hx,bn_some,bne_no,cnd_false]
  refine idx_loop (F:=fun n i=>loopN (r_SameExprs_st (fns _) q) n (.l0 x x i)) (len:=l.length) (fun n' i hi=>?_) (fun n'=>?_) l.length 0 n (by omega) hb
  · have hy:=h l[i] (List.getElem_mem _)
    have h26:okG 38 l[i] = true:=hy.1
    have hse:(fns n).r_SameExpr l[i] l[i] = some true:=hs l[i] (List.getElem_mem _)
    simp only [loopN_s,r_SameExprs_st,hx,bn_some,lt_yes hi,cnd_true,atD_get hi,h26,an_true,G_ok h26,hse,Bool.not_true,cnd_false,one_step hi hl]
  · simp only [loopN_s,r_SameExprs_st,hx,bn_some,lt_no,cnd_false]
theorem sameQs_of {x:D} {l:List D} (hx:asL x = some l) (hl:l.length ≤ 9223372036854775807) (h:∀ y ∈ l,okQ y ∧ Ev fun n=>sameQ n y):Ev fun n=>sameQs n x:=by
  refine Ev.step (fun n hn=>?_) ((Ev.all fun y hy=>(h y hy).2).and (Ev.big (l.length + 1)))
  obtain ⟨hs,hb⟩:=hn
  refine rawN_eq enc19_inj fun q=>?_
  simp only [loopN_s,r_SameQueries_st,hx,bn_some,bne_no,cnd_false]
  refine idx_loop (F:=fun n i=>loopN (r_SameQueries_st (fns _) q) n (.l0 x x i)) (len:=l.length) (fun n' i hi=>?_) (fun n'=>?_) l.length 0 n (by omega) hb
  · have hy:=h l[i] (List.getElem_mem _)
    have h38:okG 54 l[i] = true:=hy.1
    have hse:(fns n).r_SameQuery l[i] l[i] = some true:=hs l[i] (List.getElem_mem _)
    simp only [loopN_s,r_SameQueries_st,hx,bn_some,lt_yes hi,cnd_true,atD_get hi,h38,an_true,G_ok h38,hse,Bool.not_true,cnd_false,one_step hi hl]
  · simp only [loopN_s,r_SameQueries_st,hx,bn_some,lt_no,cnd_false]
theorem sameFs_of {x:D} {l:List D} (hx:asL x = some l) (hl:l.length ≤ 9223372036854775807) (h:∀ y ∈ l,okF y ∧ Ev fun n=>sameQs n (cel y 4) ∧ sameFs n (cel y 5) ∧ sameEs n (cel y 6)):Ev fun n=>sameFs n x:=by
  refine Ev.step (fun n hn=>?_) ((Ev.all fun y hy=>(h y hy).2).and (Ev.big (l.length + 1)))
  obtain ⟨hs,hb⟩:=hn
  refine rawN_eq enc19_inj fun q=>?_
  simp only [loopN_s,r_SameFroms_st,hx,bn_some,bne_no,cnd_false]
  refine idx_loop (F:=fun n i=>loopN (r_SameFroms_st (fns _) q) n (.l0 x x i)) (len:=l.length) (fun n' i hi=>?_) (fun n'=>?_) l.length 0 n (by omega) hb
  · have hy:=h l[i] (List.getElem_mem _)
    have h65:okG 65 l[i] = true:=hy.1
    obtain ⟨g1,g2,g3⟩:=hs l[i] (List.getElem_mem _)
    unfold sameQs at g1
    unfold sameFs at g2
    unfold sameEs at g3
    simp only [loopN_s,r_SameFroms_st,hx,bn_some,lt_yes hi,cnd_true,atD_get hi,h65,an_true,flFrm h65,bne_no,beq_self_eq_true,g1,g2,g3,Bool.not_true,cnd_false,one_step hi hl]
  · simp only [loopN_s,r_SameFroms_st,hx,bn_some,lt_no,cnd_false]
theorem sameE_of {a n:Int} {s t:List UInt8} {k q:D} (hk:Ev fun n=>sameEs n k) (hq:Ev fun n=>sameQs n q):Ev fun m=>sameE m (ex a n s t k q):=by
  refine Ev.step (fun m hm=>?_) (hk.and hq)
  obtain ⟨h1,h2⟩:=hm
  refine rawN_eq enc18_inj fun q'=>?_
  have e1:(fns m).r_SameExprs (cel (ex a n s t k q) 4) (cel (ex a n s t k q) 4) = some true:=h1
  have e2:(fns m).r_SameQueries (cel (ex a n s t k q) 5) (cel (ex a n s t k q) 5) = some true:=h2
  simp only [loopN_s,r_SameExpr_st,beq_self_eq_true,cnd_true,e1,e2,bn_some]
theorem sameQ_of {x items order:D} {li lo:List D} (h2:cel x 2 = items) (h7:cel x 7 = order) (hi:asL items = some li) (ho:asL order = some lo) (hli:li.length ≤ 9223372036854775807) (hlo:lo.length ≤ 9223372036854775807)
    (gi:∀ y ∈ li,okI y ∧ okE (G 38 y) ∧ Ev fun n=>sameE n (G 38 y)) (go:∀ y ∈ lo,okY y ∧ okE (G 38 y) ∧ Ev fun n=>sameE n (G 38 y))
    (h3:Ev fun n=>sameFs n (cel x 3)) (h4:Ev fun n=>sameEs n (cel x 4)) (h5:Ev fun n=>sameEs n (cel x 5)) (h6:Ev fun n=>sameEs n (cel x 6)) (h9:Ev fun n=>sameQs n (cel x 9)):Ev fun m=>sameQ m x:=by
  refine Ev.step (fun n hn=>?_) ((Ev.all fun y hy=>(gi y hy).2.2).and ((Ev.all fun y hy=>(go y hy).2.2).and (h3.and (h4.and (h5.and (h6.and (h9.and (Ev.big (li.length + lo.length + 5)))))))))
  obtain ⟨si,so,e3,e4,e5,e6,e9,hb⟩:=hn
  unfold sameFs at e3
  unfold sameEs at e4 e5 e6
  unfold sameQs at e9
  refine rawN_eq enc18_inj fun q=>?_
  simp only [loopN_s,r_SameQuery_st,bne_no,beq_self_eq_true,Bool.not_true,cnd_false,h2,h7,hi,ho,bn_some]
  have two:∀ n',lo.length + 1 ≤ n' → loopN (r_SameQuery_st (fns n) q) n' (.l1 0 x x) = q true:=fun n' hn'=>by
    refine idx_loop (F:=fun n' i=>loopN (r_SameQuery_st (fns n) q) n' (.l1 i x x)) (len:=lo.length) (fun n' i hh=>?_) (fun n'=>?_) lo.length 0 n' (by omega) hn'
    · have hy:=go lo[i] (List.getElem_mem _)
      have h85:okG 109 lo[i] = true:=hy.1
      have h26:okG 38 (G 38 lo[i]) = true:=hy.2.1
      have hse:(fns n).r_SameExpr (G 38 lo[i]) (G 38 lo[i]) = some true:=so lo[i] (List.getElem_mem _)
      simp only [loopN_s,r_SameQuery_st,h7,ho,bn_some,lt_yes hh,cnd_true,atD_get hh,h85,an_true,beq_self_eq_true,h26,hse,Bool.not_true,cnd_false,one_step hh hlo]
    · simp only [loopN_s,r_SameQuery_st,h7,ho,bn_some,lt_no,cnd_false,e3,e4,e5,e6,e9,cnd_true]
  have one:∀ k i n',i + k = li.length → k + 1 + (lo.length + 1) ≤ n' → loopN (r_SameQuery_st (fns n) q) n' (.l0 (Int.ofNat i) x x) = q true:=by
    intro k
    induction k with
    | zero =>
      intro i n' hik hn'
      obtain ⟨n',rfl⟩:∃ z,n' = z + 1:=⟨n' - 1,by omega⟩
      have:i = li.length:=by omega
      subst this
      simp only [loopN_s,r_SameQuery_st,h2,hi,bn_some,lt_no,cnd_false]
      exact two n' (by omega)
    | succ k ih =>
      intro i n' hik hn'
      obtain ⟨n',rfl⟩:∃ z,n' = z + 1:=⟨n' - 1,by omega⟩
      have hh:i < li.length:=by omega
      have hy:=gi li[i] (List.getElem_mem _)
      have h83:okG 107 li[i] = true:=hy.1
      have h26:okG 38 (G 38 li[i]) = true:=hy.2.1
      have hse:(fns n).r_SameExpr (G 38 li[i]) (G 38 li[i]) = some true:=si li[i] (List.getElem_mem _)
      simp only [loopN_s,r_SameQuery_st,h2,hi,bn_some,lt_yes hh,cnd_true,atD_get hh,h83,an_true,beq_self_eq_true,h26,hse,Bool.not_true,cnd_false,one_step hh hli]
      exact ih (i + 1) n' (by omega) (by omega)
  exact one li.length 0 n (by omega) (by omega)
end Go.Proofs.Ytfdcjngclelnhaa
