/- Part of a proof. -/
import Derived.Test.YtfdcjngclelnhaaGreatL14
set_option linter.unusedSectionVars false
set_option linter.unusedSimpArgs false
set_option linter.unusedVariables false
namespace Go.Proofs.YtfdcjngclelnhaaGreat
open Go
def bP (T:List Tok) (d:Nat):Mix → B74
  | .ok i=>⟨tD T,Int.ofNat i,Int.ofNat d,0,0⟩
  | .er i d' a e=>⟨tD T,Int.ofNat i,d',a,e⟩
theorem Sat.shift {B α:Type} {T:List Tok} {r:Nat} {b:Mix → B} {good:α → Prop} {X:(α × B → Prop) → Prop} {m m':Mix} {f g:Nat → Out α} (h:Sat T r b good X m' g) (e:m.sp f = m'.sp g):Sat T r b good X m f:=by
  obtain ⟨o,h1,h2⟩:=h
  exact ⟨o,by rw [e]; exact h1,h2⟩
theorem word_kind {T:List Tok} (hT:TOk T) {w:List UInt8} (hw:firstL w = true) {i:Nat} (h:(tk T i).kind = 4):((tk T i).text == w) = false:=by
  cases e:(tk T i).text == w with
  | false=>rfl
  | true =>
    have:=hT.marks i h
    rw [eq_of_beq e,hw] at this
    exact nomatch this
theorem mark_kind {T:List Tok} (hT:TOk T) {w:List UInt8} (hw:firstL w = false) {i:Nat} (h:(tk T i).kind = 1):((tk T i).text == w) = false:=by
  cases e:(tk T i).text == w with
  | false=>rfl
  | true =>
    have:=hT.names i h
    rw [eq_of_beq e,hw] at this
    exact nomatch this
section
variable {T:List Tok} (hT:TOk T) {n d i:Nat} {r:Nat} {m:Mix}
include hT
theorem p_badO (hn:1 ≤ n) (hi:i < T.length) {d x:Int}:(fns n).p_bad ⟨tD T,Int.ofNat i,d,0,0⟩ x = some ⟨tD T,Int.ofNat i,d,(tk T i).at_,x⟩:=by
  obtain ⟨n,rfl,hp⟩:=pos hn
  refine rawN_eq enc18_inj fun q=>?_
  simp only [loopN_s,p_bad_st,asL_tD,bn_some,atD_tD hi,okTok,an_true,cTok3,beq_self_eq_true,cnd_true]
omit hT in
theorem p_badE (hn:1 ≤ n) {t:D} {i d a e x:Int} (he:e ≠ 0):(fns n).p_bad ⟨t,i,d,a,e⟩ x = some ⟨t,i,d,a,e⟩:=by
  obtain ⟨n,rfl,hp⟩:=pos hn
  refine rawN_eq enc18_inj fun q=>?_
  simp only [loopN_s,p_bad_st,beqE he,cnd_false]
theorem p_isW (hn:1 ≤ n) (hm:m.In T r) {w:List UInt8} (hw:firstL w = true):(fns n).p_is (bP T d m) w = some (m.sees T 1 w,bP T d m):=by
  obtain ⟨n,rfl,hp⟩:=pos hn
  refine rawN_eq enc19_inj fun q=>?_
  cases m with
  | ok i =>
    simp only [loopN_s,p_is_st,bP,beq_self_eq_true,cnd_true,asL_tD,bn_some,atD_tD hm.1,okTok,an_true,cTok0,cTok1,Mix.sees,pSees]
    cases h1:(tk T i).kind == 1 with
    | true=>simp only [cnd_true,Bool.true_and]
    | false =>
      simp only [cnd_false,Bool.false_and]
      cases h4:(tk T i).kind == 4 with
      | true=>simp only [cnd_true,word_kind hT hw (eq_of_beq h4)]
      | false=>rfl
  | er i d' a e=>simp only [loopN_s,p_is_st,bP,beqE hm.2,cnd_false,Mix.sees]
theorem p_isM (hn:1 ≤ n) (hm:m.In T r) {w:List UInt8} (hw:firstL w = false):(fns n).p_is (bP T d m) w = some (m.sees T 4 w,bP T d m):=by
  obtain ⟨n,rfl,hp⟩:=pos hn
  refine rawN_eq enc19_inj fun q=>?_
  cases m with
  | ok i =>
    simp only [loopN_s,p_is_st,bP,beq_self_eq_true,cnd_true,asL_tD,bn_some,atD_tD hm.1,okTok,an_true,cTok0,cTok1,Mix.sees,pSees]
    cases h1:(tk T i).kind == 1 with
    | true =>
      have h4:((tk T i).kind == 4) = false:=by rw [eq_of_beq h1]; rfl
      simp only [cnd_true,h4,Bool.false_and,mark_kind hT hw (eq_of_beq h1)]
    | false =>
      simp only [cnd_false]
      cases h4:(tk T i).kind == 4 with
      | true=>simp only [cnd_true,Bool.true_and]
      | false=>simp only [cnd_false,Bool.false_and]
  | er i d' a e=>simp only [loopN_s,p_is_st,bP,beqE hm.2,cnd_false,Mix.sees]
theorem p_take1 (hn:2 ≤ n) (hm:m.In T r) {k:Int} (hk:k ≠ 0) {w:List UInt8} (hc:∀ n,1 ≤ n → (fns n).p_is (bP T d m) w = some (m.sees T k w,bP T d m)):(fns n).p_take (bP T d m) w = some (m.sees T k w,bP T d (m.takes T k w)):=by
  obtain ⟨n,rfl,hp⟩:=pos hn
  refine rawN_eq enc19_inj fun q=>?_
  simp only [loopN_s,p_take_st,hc n hp,bn_some]
  cases m with
  | ok i =>
    cases h:pSees T k w i with
    | true =>
      have hl:=hT.len
      have hi:=hT.ends.next hm.1 (by rw [(sees_kind h).1]; exact hk)
      simp only [Mix.sees,Mix.takes,h,Bool.not_true,cnd_false,if_true,bP,one_more (show i ≤ 200000 by omega)]
    | false=>simp only [Mix.sees,Mix.takes,h,Bool.not_false,cnd_true,Bool.false_eq_true,if_false]
  | er i d' a e=>simp only [Mix.sees,Mix.takes,Bool.not_false,cnd_true]
theorem p_takeW (hn:2 ≤ n) (hm:m.In T r) {w:List UInt8} (hw:firstL w = true):(fns n).p_take (bP T d m) w = some (m.sees T 1 w,bP T d (m.takes T 1 w)):=p_take1 hT hn hm (by decide) fun n hn=>p_isW hT hn hm hw
theorem p_takeM (hn:2 ≤ n) (hm:m.In T r) {w:List UInt8} (hw:firstL w = false):(fns n).p_take (bP T d m) w = some (m.sees T 4 w,bP T d (m.takes T 4 w)):=p_take1 hT hn hm (by decide) fun n hn=>p_isM hT hn hm hw
theorem p_must1 (hn:3 ≤ n) (hm:m.In T (r + 1)) {k:Int} (hk:k ≠ 0) {w:List UInt8} (hc:∀ n,2 ≤ n → (fns n).p_take (bP T d m) w = some (m.sees T k w,bP T d (m.takes T k w))):HasU T r (bP T d) ((fns n).p_must (bP T d m) w) m (pMust T k w):=by
  obtain ⟨n,rfl,hp⟩:=pos hn
  have hr:∀ s,(∀ q:B74 → Prop,cnd (!m.sees T k w) (bn ((fns n).p_bad (bP T d (m.takes T k w)) 10) q) (q (bP T d (m.takes T k w))) = q s) → (fns (n + 1)).p_must (bP T d m) w = some s:=fun s hs=>rawN_eq enc20_inj fun q=>by
    simp only [loopN_s,p_must_st,hc n hp,bn_some]
    exact hs q
  cases m with
  | ok i =>
    cases h:pSees T k w i with
    | true =>
      refine ⟨_,hr (bP T d (.ok (i + 1))) fun q=>by simp only [Mix.sees,Mix.takes,h,Bool.not_true,cnd_false,if_true],.ok (i + 1),rfl,?_,trivial,?_⟩
      · have:=hT.ends.next hm.1 (by rw [(sees_kind h).1]; exact hk)
        obtain ⟨_,h2⟩:=hm
        exact ⟨this,by omega⟩
      · simp only [Mix.sp,pMust,h,if_true,and_self]
    | false =>
      refine ⟨_,hr (bP T d (.er i (Int.ofNat d) (tk T i).at_ 10)) fun q=>by simp only [Mix.sees,Mix.takes,h,Bool.not_false,cnd_true,Bool.false_eq_true,if_false,bP,p_badO hT (show 1 ≤ n by omega) hm.1,bn_some],.er _ _ _ _,rfl,er10 hm.1,trivial,?_⟩
      simp only [Mix.sp,pMust,h,Bool.false_eq_true,if_false,noGo]
      exact ⟨_,_,rfl⟩
  | er i d' a e =>
    exact ⟨_,hr (bP T d (.er i d' a e)) fun q=>by simp only [Mix.sees,Mix.takes,Bool.not_false,cnd_true,bP,p_badE (show 1 ≤ n by omega) hm.2,bn_some],.er _ _ _ _,rfl,hm,trivial,_,_,rfl⟩
theorem p_mustW (hn:3 ≤ n) (hm:m.In T (r + 1)) {w:List UInt8} (hw:firstL w = true):HasU T r (bP T d) ((fns n).p_must (bP T d m) w) m (pMust T 1 w):=p_must1 hT hn hm (by decide) fun n hn=>p_takeW hT hn hm hw
theorem p_mustM (hn:3 ≤ n) (hm:m.In T (r + 1)) {w:List UInt8} (hw:firstL w = false):HasU T r (bP T d) ((fns n).p_must (bP T d m) w) m (pMust T 4 w):=p_must1 hT hn hm (by decide) fun n hn=>p_takeM hT hn hm hw
theorem back_one {i:Nat} (h:i ≤ 200000):IntKind.i64.wrap (Int.ofNat (i + 1) - 1) = Int.ofNat i:=by
  rw [i64_small (by simp <;> omega) (by simp <;> omega)]; simp
theorem p_name_ (hn:102 ≤ n) (hm:m.In T (r + 1)):Has T r (bP T d) (fun _=>True) ((fns n).p_name (bP T d m)) m (pName isW T):=by
  obtain ⟨n,rfl,hp0⟩:=pos hn
  obtain ⟨n,rfl,hp⟩:=pos hp0
  cases m with
  | ok i =>
    have hl:=hT.len
    cases h1:(tk T i).kind == 1 with
    | true =>
      cases h2:isW (tk T i).text with
      | true =>
        refine ⟨([],bP T d (.er i (Int.ofNat d) (tk T i).at_ 10)),rawN_eq enc22_inj fun q=>?_,.er _ _ _ _,rfl,er10 hm.1,trivial,?_⟩
        · simp only [loopN_s,p_name_st,bP,bne,beq_self_eq_true,Bool.not_true,cnd_false,asL_tD,bn_some,atD_tD hm.1,okTok,an_true,cTok0,cTok1,h1,k_Word_ hp,h2,cnd_true,p_badO hT (show 1 ≤ n + 1 by omega) hm.1]
        · simp only [Mix.sp,pName,h1,h2,Bool.not_true,Bool.and_false,Bool.false_eq_true,if_false,noGo]
          exact ⟨_,_,rfl⟩
      | false =>
        have hi:=hT.ends.next hm.1 (show (tk T i).kind ≠ 0 by rw [eq_of_beq h1]; decide)
        refine ⟨((tk T i).text,bP T d (.ok (i + 1))),rawN_eq enc22_inj fun q=>?_,.ok (i + 1),rfl,⟨hi,by obtain ⟨_,h2⟩:=hm; omega⟩,trivial,?_⟩
        · simp only [loopN_s,p_name_st,bP,bne,beq_self_eq_true,Bool.not_true,cnd_false,asL_tD,bn_some,atD_tD hm.1,okTok,an_true,cTok0,cTok1,h1,k_Word_ hp,h2,one_more (show i ≤ 200000 by omega),back_one hT (show i ≤ 200000 by omega)]
        · simp only [Mix.sp,pName,h1,h2,Bool.not_false,Bool.and_true,if_true,and_self]
    | false =>
      refine ⟨([],bP T d (.er i (Int.ofNat d) (tk T i).at_ 10)),rawN_eq enc22_inj fun q=>?_,.er _ _ _ _,rfl,er10 hm.1,trivial,?_⟩
      · simp only [loopN_s,p_name_st,bP,bne,beq_self_eq_true,Bool.not_true,Bool.not_false,cnd_false,asL_tD,bn_some,atD_tD hm.1,okTok,an_true,cTok0,h1,cnd_true,p_badO hT (show 1 ≤ n + 1 by omega) hm.1]
      · simp only [Mix.sp,pName,h1,Bool.false_and,Bool.false_eq_true,if_false,noGo]
        exact ⟨_,_,rfl⟩
  | er i d' a e =>
    refine ⟨([],bP T d (.er i d' a e)),rawN_eq enc22_inj fun q=>?_,.er _ _ _ _,rfl,hm,trivial,_,_,rfl⟩
    simp only [loopN_s,p_name_st,bP,bneE hm.2,cnd_true,p_badE (show 1 ≤ n + 1 by omega) hm.2,bn_some]
theorem p_int_ (hn:2 ≤ n) (hm:m.In T (r + 1)):Has T r (bP T d) (fun _=>True) ((fns n).p_int (bP T d m)) m (pNumber T):=by
  obtain ⟨n,rfl,hp⟩:=pos hn
  cases m with
  | ok i =>
    have hl:=hT.len
    cases h:(tk T i).kind == 2 with
    | true =>
      have hi:=hT.ends.next hm.1 (show (tk T i).kind ≠ 0 by rw [eq_of_beq h]; decide)
      refine ⟨((tk T i).n,bP T d (.ok (i + 1))),rawN_eq enc23_inj fun q=>?_,.ok (i + 1),rfl,⟨hi,by obtain ⟨_,h2⟩:=hm; omega⟩,trivial,?_⟩
      · simp only [loopN_s,p_int_st,bP,bne,beq_self_eq_true,Bool.not_true,cnd_false,asL_tD,bn_some,atD_tD hm.1,okTok,an_true,cTok0,cTok2,h,one_more (show i ≤ 200000 by omega),back_one hT (show i ≤ 200000 by omega)]
      · simp only [Mix.sp,pNumber,h,if_true,and_self]
    | false =>
      refine ⟨(0,bP T d (.er i (Int.ofNat d) (tk T i).at_ 10)),rawN_eq enc23_inj fun q=>?_,.er _ _ _ _,rfl,er10 hm.1,trivial,?_⟩
      · simp only [loopN_s,p_int_st,bP,bne,beq_self_eq_true,Bool.not_true,Bool.not_false,cnd_false,cnd_true,asL_tD,bn_some,atD_tD hm.1,okTok,an_true,cTok0,h,p_badO hT (show 1 ≤ n by omega) hm.1]
      · simp only [Mix.sp,pNumber,h,Bool.false_eq_true,if_false,noGo]
        exact ⟨_,_,rfl⟩
  | er i d' a e =>
    refine ⟨(0,bP T d (.er i d' a e)),rawN_eq enc23_inj fun q=>?_,.er _ _ _ _,rfl,hm,trivial,_,_,rfl⟩
    simp only [loopN_s,p_int_st,bP,bneE hm.2,cnd_true,p_badE (show 1 ≤ n by omega) hm.2,bn_some]
theorem Sat.down {α:Type} {good:α → Prop} {K:(α × B74 → Prop) → B74 → Prop} {g:Nat → Out α} (hn:2 ≤ n) (hd:d ≤ 40) (hm:m.In T r)
    (hE:∀ i d' a e,(Mix.er i d' a e).In T r → Sat T r (bP T d) good (fun q=>K q (bP T (d + 1) (.er i d' a e))) (.er i d' a e) g)
    (hO:∀ i,(Mix.ok i).In T r → d + 1 ≤ 40 → Sat T r (bP T d) good (fun q=>K q (bP T (d + 1) (.ok i))) (.ok i) g):Sat T r (bP T d) good (fun q=>bn ((fns n).p_down (bP T d m)) (K q)) m (seqO (pDeep T d) fun _=>g):=by
  obtain ⟨n,rfl,hp⟩:=pos hn
  have hs:∀ {s s'},(∀ q:B74 → Prop,p_down_st (fns n) q (loopN (p_down_st (fns n) q) n) (.e s) = q s') → (fns (n + 1)).p_down s = some s':=fun h=>rawN_eq enc21_inj h
  cases m with
  | ok i =>
    by_cases h40:40 < d + 1
    · have h1:decide (Int.ofNat (d + 1) > 40) = true:=by simp; omega
      have e1:(fns (n + 1)).p_down (bP T d (.ok i)) = some (bP T (d + 1) (.er i (Int.ofNat (d + 1)) (tk T i).at_ 9)):=hs fun q=>by
        simp only [p_down_st,bP,beq_self_eq_true,cnd_true,one_more (show d ≤ 200000 by omega),h1,p_badO hT hp hm.1,bn_some]
      refine Sat.shift (Sat.eq (hE i (Int.ofNat (d + 1)) (tk T i).at_ 9 (er9 hm.1)) fun q=>by rw [e1,bn_some]) ?_
      simp only [Mix.sp,seqO,pDeep,h40,if_true,noGo,Out.bind]
    · have h1:decide (Int.ofNat (d + 1) > 40) = false:=by simp; omega
      have e1:(fns (n + 1)).p_down (bP T d (.ok i)) = some (bP T (d + 1) (.ok i)):=hs fun q=>by
        simp only [p_down_st,bP,beq_self_eq_true,cnd_true,one_more (show d ≤ 200000 by omega),h1,cnd_false]
      refine Sat.shift (Sat.eq (hO i hm (by omega)) fun q=>by rw [e1,bn_some]) ?_
      simp only [Mix.sp,seqO,pDeep,h40,if_false,Out.bind]
  | er i d' a e =>
    have e1:(fns (n + 1)).p_down (bP T d (.er i d' a e)) = some (bP T (d + 1) (.er i (IntKind.i64.wrap (d' + 1)) a e)):=hs fun q=>by
      simp only [p_down_st,bP,beqE hm.2,cnd_false]
    exact Sat.shift (Sat.eq (hE i (IntKind.i64.wrap (d' + 1)) a e hm) fun q=>by rw [e1,bn_some]) rfl
omit hT in
theorem Has.er {α:Type} {good:α → Prop} {C:Option (α × B74)} {i:Nat} {d' a e:Int} {f g:Nat → Out α} {d0:Nat} (h:Has T r (bP T d0) good C (.er i d' a e) f):Has T r (bP T d) good C (.er i d' a e) g:=by
  obtain ⟨o,h1,m',h2,h3,h4,h5⟩:=h
  obtain ⟨i',d'',rfl⟩:=h5
  exact ⟨o,h1,.er i' d'' a e,h2,h3,h4,_,_,rfl⟩
theorem Sat.up {α:Type} {good:α → Prop} {v w:α} {s:B74} (hd:d ≤ 40) (hm:m.In T r) (hg:good v) (hv:v = w) (hs:s = bP T (d + 1) m) :
    Sat T r (bP T d) good (fun q=>q (v,B74.mk s.c0 s.c1 (IntKind.i64.wrap (s.c2 - 1)) s.c3 s.c4)) m (retO w):=by
  subst hv hs
  cases m with
  | ok i =>
    refine ⟨_,⟨.ok i,?_,hm,hg,rfl,rfl⟩,fun q=>rfl⟩
    simp only [bP,back_one hT (show d ≤ 200000 by omega)]
  | er i d' a e=>exact ⟨_,⟨.er i (IntKind.i64.wrap (d' - 1)) a e,rfl,hm,hg,_,_,rfl⟩,fun q=>rfl⟩
end
theorem opIn_eq {T:List Tok} {k:Int} {i:Nat}:∀ {l:List (List UInt8)},opIn T k l i = if (tk T i).kind == k && l.contains (tk T i).text then some (tk T i).text else none
  | []=>by simp [opIn]
  | w :: l=>by
    rw [opIn,opIn_eq (l:=l)]
    unfold pSees
    rw [List.contains_cons]
    cases (tk T i).kind == k with
    | false=>simp
    | true =>
      cases h:(tk T i).text == w with
      | true=>simp [eq_of_beq h]
      | false=>simp
def Mix.op (T:List Tok) (ops:List (List UInt8)):Mix → List UInt8
  | .ok i=>(opIn T 4 ops i).getD []
  | .er _ _ _ _=>[]
def Mix.opTakes (T:List Tok) (ops:List (List UInt8)):Mix → Mix
  | .ok i=>match opIn T 4 ops i with
    | some _=>.ok (i + 1)
    | none=>.ok i
  | m=>m
section
variable {T:List Tok} (hT:TOk T) {n d i:Nat} {r:Nat} {m:Mix}
include hT
theorem p_oneOf_ {ops:List (List UInt8)} (hops:∀ w ∈ ops,firstL w = false) (hlen:ops.length ≤ 6) (hn:10 ≤ n) (hm:m.In T r):(fns n).p_oneOf (bP T d m) (.slice (ops.map .str)) = some (m.op T ops,bP T d (m.opTakes T ops)):=by
  obtain ⟨n,rfl,hp⟩:=pos hn
  refine rawN_eq enc26_inj fun q=>?_
  have inner:∀ (l:List (List UInt8)) (t n':Nat),ops.drop t = l → t + l.length = ops.length → l.length + 1 ≤ n' →
      loopN (p_oneOf_st (fns n) q) n' (.l0 (.slice (ops.map .str)) (Int.ofNat t) (bP T d m)) = q (m.op T l,bP T d (m.opTakes T l)):=by
    intro l
    induction l with
    | nil =>
      intro t n' hdr hl hn'
      obtain ⟨n',rfl⟩:∃ z,n' = z + 1:=⟨n' - 1,by omega⟩
      have e:decide (Int.ofNat t < Int.ofNat ops.length) = false:=by simp at hl ⊢; omega
      simp only [loopN_s,p_oneOf_st,asL,bn_some,List.length_map,e,cnd_false]
      cases m <;> rfl
    | cons u l ih =>
      intro t n' hdr hl hn'
      obtain ⟨n',rfl⟩:∃ z,n' = z + 1:=⟨n' - 1,by omega⟩
      have ht:t < ops.length:=by simp at hl; omega
      have e:decide (Int.ofNat t < Int.ofNat ops.length) = true:=by simpa using ht
      have hdc:=List.drop_eq_getElem_cons ht
      rw [hdr] at hdc
      have hu:ops[t] = u:=(List.cons.inj hdc).1.symm
      have hdl:ops.drop (t + 1) = l:=(List.cons.inj hdc).2.symm
      have huf:firstL u = false:=hops u (by rw [← hu]; exact List.getElem_mem _)
      have ea:atD (ops.map D.str) (Int.ofNat t) = some (.str u):=by
        unfold atD
        rw [if_neg (by simp)]
        show (ops.map D.str)[t]? = _
        rw [List.getElem?_map,List.getElem?_eq_getElem ht,hu]; rfl
      have ew:IntKind.i64.wrap (Int.ofNat t + 1) = Int.ofNat (t + 1):=by rw [i64_small (by simp; omega) (by simp; omega)]; rfl
      simp only [loopN_s,p_oneOf_st,asL,bn_some,List.length_map,e,cnd_true,ea,D.flat,an_true,asS,p_takeM hT (show 2 ≤ n by omega) hm huf,ew]
      have h0:=ih (t + 1) n' hdl (by simp at hl; omega) (by simp at hn'; omega)
      cases m with
      | ok i =>
        cases hs:pSees T 4 u i with
        | true=>simp only [Mix.sees,Mix.takes,hs,cnd_true,if_true,Mix.op,Mix.opTakes,opIn,Option.getD_some]
        | false =>
          simp only [Mix.sees,Mix.takes,hs,cnd_false,Bool.false_eq_true,if_false,Mix.op,Mix.opTakes,opIn]
          exact h0
      | er i d' a e=>exact h0
  exact inner ops 0 n rfl (by omega) (by omega)
end
end Go.Proofs.YtfdcjngclelnhaaGreat
namespace Go.Proofs.YtfdcjngclelnhaaGreat
open Go
structure POk (T:List Tok) (N r:Nat):Prop where
  expr:∀ n,N ≤ n → ∀ d,d ≤ 40 → ∀ k,k ≤ r → ∀ m:Mix,m.In T k → Has T k (bP T d) okE ((fns n).p_Expr (bP T d m)) m ((recs isW T r).expr d)
  query:∀ n,N ≤ n → ∀ d,d ≤ 40 → ∀ k,k ≤ r → ∀ m:Mix,m.In T k → Has T k (bP T d) okQ ((fns n).p_Query (bP T d m)) m ((recs isW T r).query d)
  ands:∀ n,N ≤ n → ∀ d,d ≤ 40 → ∀ k,k ≤ r → ∀ m:Mix,m.In T k → Has T k (bP T d) okE ((fns n).p_and (bP T d m)) m ((recs isW T r).ands d)
  nots:∀ n,N ≤ n → ∀ d,d ≤ 40 → ∀ k,k ≤ r → ∀ m:Mix,m.In T k → Has T k (bP T d) okE ((fns n).p_not (bP T d m)) m ((recs isW T r).nots d)
  sum:∀ n,N ≤ n → ∀ d,d ≤ 40 → ∀ k,k ≤ r → ∀ i,(Mix.ok i).In T k → Has T k (bP T d) okE ((fns n).p_sum (bP T d (.ok i))) (.ok i) ((recs isW T r).sum d)
  prod:∀ n,N ≤ n → ∀ d,d ≤ 40 → ∀ k,k ≤ r → ∀ i,(Mix.ok i).In T k → Has T k (bP T d) okE ((fns n).p_prod (bP T d (.ok i))) (.ok i) ((recs isW T r).prod d)
  unary:∀ n,N ≤ n → ∀ d,d ≤ 40 → ∀ k,k ≤ r → ∀ i,(Mix.ok i).In T k → Has T k (bP T d) okE ((fns n).p_unary (bP T d (.ok i))) (.ok i) ((recs isW T r).unary d)
  part:∀ n,N ≤ n → ∀ d,d ≤ 40 → ∀ k,k ≤ r → ∀ i,(Mix.ok i).In T k → Has T k (bP T d) okQ ((fns n).p_part (bP T d (.ok i))) (.ok i) ((recs isW T r).part d)
theorem r_bin_ {n:Nat} (hn:1 ≤ n) {w:List UInt8} {x y:D} (hx:okE x) (hy:okE y):(fns n).r_bin w x y = some (binX w x y):=by
  obtain ⟨n,rfl,hp⟩:=pos hn
  refine rawN_eq enc9_inj fun q=>?_
  simp only [loopN_s,r_bin_st,G_ok hx,G_ok hy]
  rfl
section
variable {B:Type} {T:List Tok} {b b':Mix → B}
inductive QV (B:Type) where
  | l0 (y0:B) (y1:D) (y2:Nat)
def loop1St (u:List UInt8) (one:B → Option (D × B)) (takes:B → List UInt8 → Option (Bool × B)) (bin:List UInt8 → D → D → Option D) (leaf:D → B → Prop) (l:QV B → Prop):QV B → Prop
  | .l0 y0 y1 y2=>bn (takes y0 u) fun x8=>cnd x8.1 (bn (one x8.2) fun x9=>an (okG 26 x9.1) (an (okG 26 (G 26 y1)) (an (okG 26 (G 26 x9.1)) (bn (bin u (G 26 y1) (G 26 x9.1)) fun x10=>an (okG 26 x10) (fl x10 [4,5] (l (.l0 x9.2 x10 (y2 + 6)))))))) (fl y1 [4,5] (leaf (G 26 y1) x8.2))
theorem loop1_sat {u:List UInt8} {one:B → Option (D × B)} {takes:B → List UInt8 → Option (Bool × B)} {bin:List UInt8 → D → D → Option D} {leaf:(D × B → Prop) → D → B → Prop} {r:Nat} {kk:Int} {rest:Nat → Out D} (hT:Ends T) (hkk:kk ≠ 0)
    (htk:∀ k m,m.In T k → takes (b' m) u = some (m.sees T kk u,b' (m.takes T kk u)))
    (hone:∀ k,k ≤ r → ∀ i,(Mix.ok i).In T k → Has T k b' okE (one (b' (.ok i))) (.ok i) rest)
    (hbin:∀ w x y,okE x → okE y → bin w x y = some (binX w x y))
    (hleaf:∀ (k:Nat) (m:Mix) x,m.In T k → okE x → Sat T k b okE (fun q=>leaf q x (b' m)) m (retO x)) :
    ∀ k,k ≤ r + 1 → ∀ f,k ≤ f → ∀ n,k + 2 ≤ n → ∀ m x w,m.In T k → okE x →
      Sat T k b okE (fun q=>loopN (loop1St u one takes bin (leaf q)) n (.l0 (b' m) x w)) m (pLoop (opIn T kk [u]) rest f x):=by
  intro k
  induction k using Nat.strongRecOn with
  | ind k IH =>
    intro hk f hf n hn m x w hm hx
    obtain ⟨n,rfl⟩:∃ n',n = n' + 1:=⟨n - 1,by omega⟩
    simp only [loopN_s,loop1St,flEx hx,G_ok hx]
    have h0:Sat T k b okE (fun q=>bn (takes (b' m) u) fun x8=>cnd x8.1 (bn (one x8.2) fun x9=>an (okG 26 x9.1) (an (okG 26 x) (an (okG 26 (G 26 x9.1)) (bn (bin u x (G 26 x9.1)) fun x10=>an (okG 26 x10) (fl x10 [4,5] (loopN (loop1St u one takes bin (leaf q)) n (.l0 x9.2 x10 (w + 6)))))))) (leaf q x x8.2)) m (tryF T kk (opIn T kk [u]) rest (f - 1) x [u]):=by
      rw [tryF_cons]
      refine Sat.word hT hkk hm (htk k m hm) (fun i j hj hi=>?_) ?_ <;> simp only [cnd_true,cnd_false]
      · refine Sat.call (hone j (by omega) i hi) fun y m' hm' hy=>?_
        simp only [hy,an_true,G_ok hy,hx,hbin u x y hx hy,bn_some,show okG 26 (binX u x y) = true from okBin,flEx (show okG 26 (binX u x y) = true from okBin)]
        exact IH j (by omega) (by omega) (f - 1) (by omega) n (by omega) m' (binX u x y) (w + 6) hm' okBin
      · exact hleaf k m x hm hx
    refine Sat.spec h0 fun i hi=>?_
    subst hi
    obtain ⟨f,rfl⟩:∃ f',f = f' + 1:=⟨f - 1,by have:=hm.2; have:=hm.1; omega⟩
    rfl
inductive OV (B:Type) where
  | l0 (y0:List UInt8) (y1:B) (y2:D) (y3:Nat)
def loop2St (ops:List (List UInt8)) (one:B → Option (D × B)) (oneOf:B → D → Option (List UInt8 × B)) (bin:List UInt8 → D → D → Option D) (r:D × B → Prop) (l:OV B → Prop):OV B → Prop
  | .l0 y0 y1 y2 y3=>cnd (!y0 == []) (bn (one y1) fun x10=>an (okG 26 x10.1) (an (okG 26 (G 26 y2)) (an (okG 26 (G 26 x10.1)) (bn (bin y0 (G 26 y2) (G 26 x10.1)) fun x11=>an (okG 26 x11) (fl x11 [4,5] (bn (oneOf x10.2 (.slice (ops.map .str))) fun x12=>l (.l0 x12.1 x12.2 x11 (y3 + 6)))))))) (fl y2 [4,5] (r ((G 26 y2),y1)))
theorem loop2_sat {ops:List (List UInt8)} {one:B → Option (D × B)} {oneOf:B → D → Option (List UInt8 × B)} {bin:List UInt8 → D → D → Option D} {r:Nat} {rest:Nat → Out D} (hT:Ends T)
    (hof:∀ k m,m.In T k → oneOf (b m) (.slice (ops.map .str)) = some (m.op T ops,b (m.opTakes T ops))) (hne:∀ w ∈ ops,w ≠ [])
    (hone:∀ k,k ≤ r → ∀ i,(Mix.ok i).In T k → Has T k b okE (one (b (.ok i))) (.ok i) rest)
    (hbin:∀ w x y,okE x → okE y → bin w x y = some (binX w x y)) :
    ∀ k,k ≤ r + 1 → ∀ f,k ≤ f → ∀ n,k + 2 ≤ n → ∀ m x w,m.In T k → okE x →
      Sat T k b okE (fun q=>loopN (loop2St ops one oneOf bin q) n (.l0 (m.op T ops) (b (m.opTakes T ops)) x w)) m (pLoop (opIn T 4 ops) rest f x):=by
  intro k
  induction k using Nat.strongRecOn with
  | ind k IH =>
    intro hk f hf n hn m x w hm hx
    obtain ⟨n,rfl⟩:∃ n',n = n' + 1:=⟨n - 1,by omega⟩
    have e0:(!(([]:List UInt8) == [])) = false:=rfl
    cases m with
    | ok i =>
      obtain ⟨f,rfl⟩:∃ f',f = f' + 1:=⟨f - 1,by have:=hm.2; have:=hm.1; omega⟩
      cases ho:opIn T 4 ops i with
      | none =>
        simp only [loopN_s,loop2St,Mix.op,Mix.opTakes,ho,Option.getD_none,e0,cnd_false,flEx hx,G_ok hx]
        refine Sat.spec (Sat.ret hm hx rfl rfl) fun j hj=>?_
        cases hj
        simp only [pLoop,ho]; rfl
      | some u =>
        have hu:=ho
        rw [opIn_eq] at hu
        split at hu
        · rename_i hc
          simp only [Bool.and_eq_true] at hc
          cases hu
          have hne':(tk T i).text ≠ []:=hne _ (by simpa using hc.2)
          have e1:(!((tk T i).text == [])) = true:=by simpa using hne'
          have hi:=hT.next hm.1 (show (tk T i).kind ≠ 0 by rw [eq_of_beq hc.1]; decide)
          obtain ⟨j,rfl⟩:∃ j,k = j + 1:=⟨k - 1,by have:=hm.2; omega⟩
          have hm':(Mix.ok (i + 1)).In T j:=⟨hi,by have:=hm.2; omega⟩
          simp only [loopN_s,loop2St,Mix.op,Mix.opTakes,ho,Option.getD_some,e1,cnd_true]
          refine Sat.more (r:=j) ?_ (Nat.le_succ j)
          refine Sat.shift (m':=.ok (i + 1)) (g:=seqO rest fun y=>pLoop (opIn T 4 ops) rest f (binX (tk T i).text x y)) ?_ (by simp only [Mix.sp,pLoop,ho]; rfl)
          refine Sat.call (hone j (by omega) (i + 1) hm') fun y m' hm' hy=>?_
          simp only [hy,an_true,G_ok hy,hx,G_ok hx,hbin _ x y hx hy,bn_some,show okG 26 (binX (tk T i).text x y) = true from okBin,flEx (show okG 26 (binX (tk T i).text x y) = true from okBin),hof j m' hm']
          exact IH j (by omega) (by omega) f (by omega) n (by omega) m' _ (w + 6) hm' okBin
        · exact nomatch hu
    | er i d a e =>
      simp only [loopN_s,loop2St,Mix.op,Mix.opTakes,e0,cnd_false,flEx hx,G_ok hx]
      exact Sat.spec (Sat.ret hm hx rfl rfl) fun j hj=>nomatch hj
end
def opsCmpP:List (List UInt8):=[[61],[60,62],[60,61],[62,61],[60],[62]]
theorem opsCmp_eq {T:List Tok} {i:Nat}:opIn T 4 opsCmpP i = opIn T 4 opsCmp i:=by
  rw [opIn_eq,opIn_eq]
  have:opsCmpP.contains (tk T i).text = opsCmp.contains (tk T i).text:=by
    simp only [opsCmpP,opsCmp,List.contains_cons,List.contains_nil]
    ac_rfl
  rw [this]
section
variable {T:List Tok} (hT:TOk T) {N r:Nat} (hN:140 + 8 * (r + 3) ≤ N ∧ r ≤ 200000) (ih:POk T N r) {n d k:Nat} (hd:d ≤ 40) {m:Mix}
include hT hN ih hd
theorem p_prim_ (hn:N + 1 ≤ n) (hk:k ≤ r + 1) (hm:m.In T k):Has T k (bP T d) okE ((fns n).p_prim (bP T d m)) m (primF isW T (recs isW T r) d):=by
  obtain ⟨n,rfl,hp⟩:=pos hn; refine Sat.has (X:=fun q=>p_prim_st (fns n) q (loopN (p_prim_st (fns n) q) n) (.e (bP T d m))) ?_ fun o ho=>rawN_eq enc25_inj ho; simp only [p_prim_st]
  cases m with
  | er i d' a e =>
    have hc:((bP T d (.er i d' a e)).c4 != 0) = true:=bneE hm.2
    simp only [hc,cnd_true]
    exact Sat.spec (Sat.ret hm (show okE (ex 0 0 [] [] .nils .nils) from mkE rfl) rfl rfl) fun j hj=>nomatch hj
  | ok i =>
  have hc4:((bP T d (.ok i)).c4 != 0) = false:=rfl
  have hl:=hT.len
  have h0:(bP T d (.ok i)).c0 = tD T:=rfl
  have h1:(bP T d (.ok i)).c1 = Int.ofNat i:=rfl
  simp only [hc4,cnd_false,h0,h1,asL_tD,bn_some,atD_tD hm.1,okTok,an_true,cTok0,cTok1,cTok2,one_more (show i ≤ 200000 by have:=hm.1; omega)]
  have hnx:∀ {z:D},(tk T i).kind ≠ 0 → okE z → Sat T k (bP T d) okE (fun q=>q (z,B74.mk (tD T) (Int.ofNat (i + 1)) (bP T d (.ok i)).c2 (bP T d (.ok i)).c3 (bP T d (.ok i)).c4)) (.ok i) (fun _=>.ok z (i + 1)):=fun hk0 hz=>by
    have hi:=hT.ends.next hm.1 hk0
    exact ⟨_,⟨.ok (i + 1),rfl,⟨hi,by have:=hm.2; omega⟩,hz,rfl,rfl⟩,fun _=>rfl⟩
  cases h2:(tk T i).kind == 2 with
  | true =>
    simp only [cnd_true]
    refine (hnx (fun e=>by simp [e] at h2) (mkE rfl)).spec fun j hj=>?_
    cases hj
    simp only [primF,h2,if_true]
  | false =>
    simp only [cnd_false]
    cases h3:(tk T i).kind == 3 with
    | true =>
      simp only [cnd_true]
      refine (hnx (fun e=>by simp [e] at h3) (mkE rfl)).spec fun j hj=>?_
      cases hj
      simp only [primF,h2,h3,Bool.false_eq_true,if_true,if_false]
    | false =>
      simp only [cnd_false]
      refine Sat.spec (f:=ifO T 1 w_null (retO (ex 1 0 [] [] .nils .nils)) (ifO T 1 w_true (retO (ex 2 1 [] [] .nils .nils)) (ifO T 1 w_false (retO (ex 2 0 [] [] .nils .nils))
        (ifO T 4 [58] (seqO (pName isW T) fun s=>retO (ex 6 0 s [] .nils .nils)) (ifO T 1 w_case (casesF T (recs isW T r) d)
        (ifO T 1 w_exists (seqO (bracketedF T (recs isW T r) d) fun q=>retO (ex 12 0 [] [] .nils (one1 q))) (ifO T 4 [40] (roundF T (recs isW T r) d) (columnF isW T (recs isW T r) d)))))))) ?_ fun j hj=>by
          cases hj
          simp only [primF,h2,h3,Bool.false_eq_true,if_false]
      refine Sat.word hT.ends (by decide) hm (p_takeW hT (by omega) hm (by decide)) (fun i j hj hm=>?_) ?_ <;> simp only [cnd_true,cnd_false,Bool.not_true,Bool.not_false]
      · exact Sat.ret hm (mkE rfl) rfl rfl
      refine Sat.word hT.ends (by decide) hm (p_takeW hT (by omega) hm (by decide)) (fun i j hj hm=>?_) ?_ <;> simp only [cnd_true,cnd_false,Bool.not_true,Bool.not_false]
      · exact Sat.ret hm (mkE rfl) rfl rfl
      refine Sat.word hT.ends (by decide) hm (p_takeW hT (by omega) hm (by decide)) (fun i j hj hm=>?_) ?_ <;> simp only [cnd_true,cnd_false,Bool.not_true,Bool.not_false]
      · exact Sat.ret hm (mkE rfl) rfl rfl
      refine Sat.word hT.ends (by decide) hm (p_takeM hT (by omega) hm (by decide)) (fun i j hj hm=>?_) ?_ <;> simp only [cnd_true,cnd_false,Bool.not_true,Bool.not_false]
      · refine Sat.call (p_name_ hT (by omega) (hm.mono (Nat.le_succ _))) fun s m hm _=>?_
        exact Sat.ret hm (mkE rfl) rfl rfl
      refine Sat.word hT.ends (by decide) hm (p_takeW hT (by omega) hm (by decide)) (fun i j hj hm=>?_) ?_ <;> simp only [cnd_true,cnd_false,Bool.not_true,Bool.not_false]
      · unfold casesF
        refine Sat.callU (p_mustW hT (by omega) (hm.mono (Nat.le_succ _)) (by decide)) fun m hm=>?_
        refine Sat.call (ih.expr _ (by omega) _ hd _ (by omega) _ hm) fun x m hm hx=>?_
        simp only [hx,an_true,flEx hx,G_ok hx]
        refine Sat.callU (p_mustW hT (by omega) (hm.mono (Nat.le_succ _)) (by decide)) fun m hm=>?_
        refine Sat.call (ih.expr _ (by omega) _ hd _ (by omega) _ hm) fun y m hm hy=>?_
        simp only [hy,an_true,flEx hy,G_ok hy]
        refine Sat.callU (p_mustW hT (by omega) (hm.mono (Nat.le_succ _)) (by decide)) fun m hm=>?_
        refine Sat.call (ih.expr _ (by omega) _ hd _ (by omega) _ hm) fun z m hm hz=>?_
        simp only [hz,an_true,flEx hz,G_ok hz]
        refine Sat.callU (p_mustW hT (by omega) (hm.mono (Nat.le_succ _)) (by decide)) fun m hm=>?_
        exact Sat.ret hm (mkE rfl) rfl rfl
      refine Sat.word hT.ends (by decide) hm (p_takeW hT (by omega) hm (by decide)) (fun i j hj hm=>?_) ?_ <;> simp only [cnd_true,cnd_false,Bool.not_true,Bool.not_false]
      · simp only [bracketedF,seq_seq,seq_ret]
        refine Sat.callU (p_mustM hT (by omega) (hm.mono (Nat.le_succ _)) (by decide)) fun m hm=>?_
        refine Sat.call (ih.query _ (by omega) _ hd _ (by omega) _ hm) fun x m hm hx=>?_
        simp only [hx,an_true,flQu hx,G_ok hx]
        refine Sat.callU (p_mustM hT (by omega) (hm.mono (Nat.le_succ _)) (by decide)) fun m hm=>?_
        exact Sat.ret hm (mkE rfl) rfl rfl
      refine Sat.word hT.ends (by decide) hm (p_takeM hT (by omega) hm (by decide)) (fun i j hj hm=>?_) ?_ <;> simp only [cnd_true,cnd_false,Bool.not_true,Bool.not_false]
      · unfold roundF
        refine Sat.see (p_isW hT (by omega) hm (by decide)) ?_ ?_ <;> simp only [cnd_true,cnd_false]
        · refine Sat.call (ih.query _ (by omega) _ hd _ (by omega) _ hm) fun x m hm hx=>?_
          simp only [hx,an_true,flQu hx,G_ok hx]
          refine Sat.callU (p_mustM hT (by omega) (hm.mono (Nat.le_succ _)) (by decide)) fun m hm=>?_
          exact Sat.ret hm (mkE rfl) rfl rfl
        · refine Sat.call (ih.expr _ (by omega) _ hd _ (by omega) _ hm) fun x m hm hx=>?_
          simp only [hx,an_true,flEx hx,G_ok hx]
          refine Sat.callU (p_mustM hT (by omega) (hm.mono (Nat.le_succ _)) (by decide)) fun m hm=>?_
          exact Sat.ret hm hx rfl rfl
      · unfold columnF
        refine Sat.call (p_name_ hT (by omega) (hm.mono (Nat.le_succ _))) fun s m hm _=>?_
        have dot:∀ {m:Mix},m.In T k → Sat T k (bP T d) okE (fun q=>bn ((fns n).p_take (bP T d m) [46]) fun x=>cnd x.1 (bn ((fns n).p_name x.2) fun y=>q ((.agg [.int .i64 5,.int .i64 0,.str y.1,.str s,.nils,.nils]),y.2)) (q ((.agg [.int .i64 5,.int .i64 0,.str s,.str [],.nils,.nils]),x.2))) m (dotF isW T s):=by
          intro m hm
          unfold dotF
          refine Sat.word hT.ends (by decide) hm (p_takeM hT (by omega) hm (by decide)) (fun i j hj hm=>?_) ?_ <;> simp only [cnd_true,cnd_false,Bool.not_true,Bool.not_false]
          · refine Sat.call (p_name_ hT (by omega) (hm.mono (Nat.le_succ _))) fun t m hm _=>?_
            exact Sat.ret hm (mkE rfl) rfl rfl
          · exact Sat.ret hm (mkE rfl) rfl rfl
        have agg:∀ {m:Mix} {j:Nat},j ≤ r → m.In T j → Sat T j (bP T d) okE (fun q=>bn ((fns n).p_Expr (bP T d m)) fun x=>an (okG 26 x.1) (bn ((fns n).p_must x.2 [41]) fun y=>q ((.agg [.int .i64 15,.int .i64 0,.str s,.str [],D.slice [G 26 x.1],.nils]),y))) m (agg1F T (recs isW T r) d s):=by
          intro m j hj hm
          refine Sat.call (ih.expr _ (by omega) _ hd _ hj _ hm) fun x m hm hx=>?_
          simp only [hx,an_true,G_ok hx]
          refine Sat.callU (p_mustM hT (by omega) (hm.mono (Nat.le_succ _)) (by decide)) fun m hm=>?_
          exact Sat.ret hm (mkE rfl) rfl rfl
        have col:∀ {m:Mix},m.In T k → Sat T k (bP T d) okE (fun q=>bn ((fns n).p_take (bP T d m) [40]) fun x90=>cnd x90.1 (cnd (s == [99,111,117,110,116]) (bn ((fns n).p_take x90.2 [42]) fun x91=>cnd x91.1 (bn ((fns n).p_must x91.2 [41]) fun x92=>q ((.agg [.int .i64 15,.int .i64 0,.str s,.str [],.nils,.nils]),x92)) (bn ((fns n).p_Expr x91.2) fun x93=>an (okG 26 x93.1) (bn ((fns n).p_must x93.2 [41]) fun x94=>q ((.agg [.int .i64 15,.int .i64 0,.str s,.str [],D.slice [G 26 x93.1],.nils]),x94)))) (bn ((fns n).p_Expr x90.2) fun x95=>an (okG 26 x95.1) (bn ((fns n).p_must x95.2 [41]) fun x96=>q ((.agg [.int .i64 15,.int .i64 0,.str s,.str [],D.slice [G 26 x95.1],.nils]),x96)))) (bn ((fns n).p_take x90.2 [46]) fun x=>cnd x.1 (bn ((fns n).p_name x.2) fun y=>q ((.agg [.int .i64 5,.int .i64 0,.str y.1,.str s,.nils,.nils]),y.2)) (q ((.agg [.int .i64 5,.int .i64 0,.str s,.str [],.nils,.nils]),x.2)))) m (ifO T 4 [40] (aggF T (recs isW T r) d s) (dotF isW T s)):=by
          intro m hm
          refine Sat.word hT.ends (by decide) hm (p_takeM hT (by omega) hm (by decide)) (fun i j hj hm=>?_) ?_ <;> simp only [cnd_true,cnd_false,Bool.not_true,Bool.not_false]
          · unfold aggF
            cases hc:s == w_count with
            | false =>
              have hc':(s == [99,111,117,110,116]) = false:=hc
              simp only [hc',cnd_false,Bool.false_eq_true,if_false]
              exact agg (by omega) hm
            | true =>
              have hc':(s == [99,111,117,110,116]) = true:=hc
              simp only [hc',cnd_true,if_true]
              refine Sat.word hT.ends (by decide) hm (p_takeM hT (by omega) hm (by decide)) (fun i j hj hm=>?_) ?_ <;> simp only [cnd_true,cnd_false,Bool.not_true,Bool.not_false]
              · refine Sat.callU (p_mustM hT (by omega) (hm.mono (Nat.le_succ _)) (by decide)) fun m hm=>?_
                exact Sat.ret hm (mkE rfl) rfl rfl
              · exact agg (by omega) hm
          · exact dot hm
        have gt:∀ {v:Bool},(s == w_count) = v ∨ (s == w_sum) = v ∨ (s == w_min) = v ∨ (s == w_max) = v → v = true → gathersB s = true:=fun h hv=>by
          subst hv
          rcases h with h | h | h | h <;> simp [gathersB,h]
        cases g1:s == w_count with
        | true =>
          simp only [show (s == [99,111,117,110,116]) = true from g1,cnd_true,gt (.inl g1) rfl,if_true]
          have:=col hm
          simp only [show (s == [99,111,117,110,116]) = true from g1,cnd_true] at this
          exact this
        | false =>
        have g1':(s == [99,111,117,110,116]) = false:=g1
        have col':=col hm
        simp only [g1',cnd_false] at col' ⊢
        cases g2:s == w_sum with
        | true =>
          simp only [show (s == [115,117,109]) = true from g2,cnd_true,gt (.inr (.inl g2)) rfl,if_true]
          exact col'
        | false =>
        simp only [show (s == [115,117,109]) = false from g2,cnd_false]
        cases g3:s == w_min with
        | true =>
          simp only [show (s == [109,105,110]) = true from g3,cnd_true,gt (.inr (.inr (.inl g3))) rfl,if_true]
          exact col'
        | false =>
        simp only [show (s == [109,105,110]) = false from g3,cnd_false]
        cases g4:s == w_max with
        | true =>
          simp only [show (s == [109,97,120]) = true from g4,cnd_true,gt (.inr (.inr (.inr g4))) rfl,if_true]
          exact col'
        | false =>
        simp only [show (s == [109,97,120]) = false from g4,cnd_false,show gathersB s = false by simp [gathersB,g1,g2,g3,g4],Bool.false_eq_true,if_false]
        exact dot hm
theorem p_unary_ (hn:N + 2 ≤ n) (hk:k ≤ r + 1) {i:Nat} (hm:(Mix.ok i).In T k):Has T k (bP T d) okE ((fns n).p_unary (bP T d (.ok i))) (.ok i) (unaryF isW T (recs isW T r) d):=by
  obtain ⟨n,rfl,hp⟩:=pos hn; refine Sat.has (X:=fun q=>p_unary_st (fns n) q (loopN (p_unary_st (fns n) q) n) (.e (bP T d (.ok i)))) ?_ fun o ho=>rawN_eq enc25_inj ho; simp only [p_unary_st]
  unfold unaryF
  refine Sat.word hT.ends (by decide) hm (p_takeM hT (by omega) hm (by decide)) (fun i j hj hm=>?_) ?_ <;> simp only [cnd_true,cnd_false,Bool.not_true,Bool.not_false]
  · refine Sat.down hT (by omega) hd hm (fun i d' a e hm=>?_) fun i hm hd1=>?_
    · have hc4:((bP T (d + 1) (.er i d' a e)).c4 == 0) = false:=beqE hm.2
      simp only [hc4,cnd_false]
      exact Sat.spec (Sat.up hT hd hm (show okE (ex 0 0 [] [] .nils .nils) from mkE rfl) rfl rfl) fun j hj=>nomatch hj
    · have hc4:((bP T (d + 1) (.ok i)).c4 == 0) = true:=rfl
      simp only [hc4,cnd_true]
      refine Sat.call (ih.unary _ (by omega) _ hd1 _ (by omega) _ hm) fun x m hm hx=>?_
      simp only [hx,an_true,G_ok hx]
      exact Sat.up hT hd hm (mkE rfl) rfl rfl
  · refine Sat.last (p_prim_ hT hN ih hd (by omega) hk hm) fun x m hx q=>?_
    simp only [hx,an_true,flEx hx,G_ok hx]
end
end Go.Proofs.YtfdcjngclelnhaaGreat
