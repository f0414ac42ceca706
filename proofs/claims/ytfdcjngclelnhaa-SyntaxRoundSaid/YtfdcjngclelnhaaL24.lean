/- Part of a proof. -/
import Derived.Test.YtfdcjngclelnhaaL18
set_option linter.unusedSectionVars false
set_option linter.unusedSimpArgs false
set_option linter.unusedVariables false
namespace Go.Proofs.Ytfdcjngclelnhaa
open Go
set_option maxRecDepth 100000
set_option maxHeartbeats 2000000
def bytesD (l:List UInt8):List D:=l.map fun b=>.int .u8 (Int.ofNat b.toNat)
theorem bytesOf_D:∀ l:List UInt8,bytesOf (bytesD l) = some l
  | []=>rfl
  | c :: r=>by
    have ih:=bytesOf_D r
    unfold bytesD at ih ⊢
    rw [List.map_cons,bytesOf,ih]
    simp
def bd (acc:List UInt8) (v w:Nat):B92:=⟨match acc with | []=>.n | c :: r=>.o (bytesD (c :: r)) w,v⟩
theorem b_WriteByte_ {n:Nat} (hn:2 ≤ n) {acc:List UInt8} {v w:Nat} {c:UInt8} (hl:acc.length ≤ 100000):∃ v' w',(fns n).b_WriteByte (bd acc v w) (Int.ofNat c.toNat) = some ((),bd (acc ++ [c]) v' w'):=by
  obtain ⟨n,rfl,hp⟩:=pos hn
  obtain ⟨n,rfl,hp2⟩:=pos hp
  cases acc with
  | nil =>
    have h1:(fns (n + 1)).b_copyCheck (B92.mk GC.n v) = some ⟨.m,v + 1⟩:=rawN_eq enc29_inj fun q=>rfl
    refine ⟨v + 1 + 1,v + 1,rawN_eq enc30_inj fun q=>?_⟩
    simp only [loopN_s,b_WriteByte_st,bd,h1,bn_some,gcas]
    rfl
  | cons b r =>
    have h1:(fns (n + 1)).b_copyCheck (B92.mk (GC.o (bytesD (b :: r)) w) v) = some ⟨.o (bytesD (b :: r)) w,v⟩:=rawN_eq enc29_inj fun q=>rfl
    refine ⟨v + 1,v,rawN_eq enc30_inj fun q=>?_⟩
    have e1:∀ m:Nat,m.beq m = true:=Nat.beq_refl
    have e2:(bytesD (b :: r)).isEmpty = false:=rfl
    have e3:sized 1 (bytesD (b :: r)) = true:=rfl
    have e4:(bytesD (b :: r)).length = r.length + 1:=by simp [bytesD]
    have e5:=room_ok (show r.length + 1 + 1 ≤ 1000000 by rw [List.length_cons] at hl; omega) (show 1 ≤ 1000 by decide)
    have e6:(bytesD (b :: r) ++ [D.int .u8 (Int.ofNat c.toNat)]).length = r.length + 1 + 1:=by simp [bytesD]
    simp only [loopN_s,b_WriteByte_st,bd,h1,bn_some,gcas,e1,an_true,e2,cnd_false,e3,e4,e5,e6]
    congr 2
    simp [bd,bytesD]
theorem b_Len_ {n:Nat} (hn:1 ≤ n) {acc:List UInt8} {v w:Nat}:(fns n).b_Len (bd acc v w) = some (Int.ofNat acc.length,bd acc v w):=by
  obtain ⟨n,rfl,hp⟩:=pos hn
  cases acc with
  | nil=>exact rawN_eq enc31_inj fun q=>rfl
  | cons b r =>
    refine rawN_eq enc31_inj fun q=>?_
    have e4:(bytesD (b :: r)).length = (b :: r).length:=by simp [bytesD]
    simp only [loopN_s,b_Len_st,bd,e4]
theorem b_String_ {n:Nat} (hn:1 ≤ n) {acc:List UInt8} {v w:Nat} (hl:acc.length ≤ 100000):(fns n).b_String (bd acc v w) = some (acc,bd acc v w):=by
  obtain ⟨n,rfl,hp⟩:=pos hn
  cases acc with
  | nil=>exact rawN_eq enc32_inj fun q=>rfl
  | cons b r =>
    refine rawN_eq enc32_inj fun q=>?_
    have e1:∀ m:Nat,m.beq m = true:=Nat.beq_refl
    have e2:(bytesD (b :: r)).isEmpty = false:=rfl
    have e4:(bytesD (b :: r)).length = r.length + 1:=by simp [bytesD]
    have e5:(Int.ofNat (r.length + 1) == (0:Int)) = false:=by rw [show (Int.ofNat (r.length + 1) == (0:Int)) = (r.length + 1 == 0) from beqL _ 0]; rfl
    have e6:decide (r.length + 1 ≤ r.length + 1) = true:=decide_eq_true (Nat.le_refl _)
    have e7:decide (Int.ofNat (r.length + 1) ≤ 9223372036854775807) = true:=by rw [leL]; exact decide_eq_true (show r.length + 1 ≤ 9223372036854775807 by rw [List.length_cons] at hl; omega)
    have e8:List.take (r.length + 1) (bytesD (b :: r)) = bytesD (b :: r):=List.take_of_length_le (by omega)
    simp only [loopN_s,b_String_st,bd,e4,e1,e2,cnd_false,e5,toN,e6,e7,Bool.and_true,an_true,e8,bytesOf_D,bn_some]
section
variable {s:List UInt8} (hs:s.length ≤ 20000) {n a:Nat} {T:List Tok}
def vT (s:List UInt8) (a i:Nat) (T:List Tok) (rv w:Nat) (acc:List UInt8) (bv bw:Nat):t_text_V:=match T,acc with
  | [],[]=>.l0 (Int.ofNat a) s (Int.ofNat i) rv bv
  | [],c :: r=>.l3 (Int.ofNat a) s (Int.ofNat i) rv bw (bytesD (c :: r)) bv
  | x :: l,[]=>.l1 (Int.ofNat a) s (Int.ofNat i) w ((x :: l).map Tok.d) rv bv
  | x :: l,c :: r=>.l6 (Int.ofNat a) s (Int.ofNat i) w ((x :: l).map Tok.d) rv bw (bytesD (c :: r)) bv
def vE (s:List UInt8) (a i:Nat) (T:List Tok) (rv w:Nat) (acc:List UInt8) (bv bw:Nat):t_text_V:=match T,acc with
  | [],[]=>.l4 (Int.ofNat a) s (Int.ofNat i) rv bv
  | [],c :: r=>.l9 (Int.ofNat a) s (Int.ofNat i) rv bw (bytesD (c :: r)) bv
  | x :: l,[]=>.l7 (Int.ofNat a) s (Int.ofNat i) w ((x :: l).map Tok.d) rv bv
  | x :: l,c :: r=>.l11 (Int.ofNat a) s (Int.ofNat i) w ((x :: l).map Tok.d) rv bw (bytesD (c :: r)) bv
include hs
theorem text_end {i rv w bv bw:Nat} {acc:List UInt8} (hn:10 ≤ n) (hi:i < s.length) (hT:T.length ≤ 6000) (hl:acc.length ≤ 100000):∃ v' w',∀ (q:Int × B47 → Prop) n',loopN (t_text_st (fns n) q) (n' + 1) (vE s a i T rv w acc bv bw) =
    q ((outR a T (if acc.length > 1000 then .bad a else .tok ⟨3,acc,0,Int.ofNat a⟩ (i + 1))).1,rd s (outR a T (if acc.length > 1000 then .bad a else .tok ⟨3,acc,0,Int.ofNat a⟩ (i + 1))).2.1 (outR a T (if acc.length > 1000 then .bad a else .tok ⟨3,acc,0,Int.ofNat a⟩ (i + 1))).2.2 v' w'):=by
  have hL:=b_Len_ (n:=n) (by omega) (acc:=acc) (v:=bv) (w:=bw)
  have hS:=b_String_ (n:=n) (by omega) (acc:=acc) (v:=bv) (w:=bw) hl
  have ew:=one_more (show i ≤ 200000 by omega)
  by_cases h:acc.length > 1000
  · rw [if_pos h]
    have hd:=decide_eq_true h
    have hf:=t_form_ (n:=n) (by omega) (s:=s) (a:=i + 1) (p:=a) (T:=T) (v:=rv + 1) (w:=w)
    obtain ⟨v',w',hl'⟩:=told_last (o:=.bad a) (a:=a) (T:=T) ⟨_,_,hf⟩
    refine ⟨v',w',fun q n'=>?_⟩
    rw [← hl' q]
    cases T <;> cases acc <;> simp only [bd] at hL hS <;> simp only [vE,loopN_s,t_text_st,hL,bn_some,gcas,gtL,hd,cnd_true,ew] <;> rfl
  · rw [if_neg h]
    have hd:=decide_eq_false h
    obtain ⟨v',w',hl'⟩:=told_last (t_putR (n:=n) (by omega) (s:=s) (a:=a) (e:=i + 1) (v:=rv + 1) (w:=w) (t:=⟨3,acc,0,Int.ofNat a⟩) hT rfl)
    refine ⟨v',w',fun q n'=>?_⟩
    rw [← hl' q]
    cases T <;> cases acc <;> simp only [bd] at hL hS <;> simp only [vE,loopN_s,t_text_st,hL,bn_some,gcas,gtL,hd,cnd_false,ew,hS] <;> rfl
theorem text_loop (hn:10 ≤ n) (hT:T.length ≤ 6000):∀ k i acc rv w bv bw n',s.length ≤ i + k → i ≤ s.length + 1 → acc.length ≤ i → k + 2 ≤ n' → ∃ v' w',∀ q:Int × B47 → Prop,loopN (t_text_st (fns n) q) n' (vT s a i T rv w acc bv bw) =
    q ((outR a T (textGo s a k i acc)).1,rd s (outR a T (textGo s a k i acc)).2.1 (outR a T (textGo s a k i acc)).2.2 v' w'):=by
  intro k
  have ended:∀ i acc rv w bv bw n',s.length ≤ i → i ≤ s.length + 1 → 1 ≤ n' → ∃ v' w',∀ q:Int × B47 → Prop,loopN (t_text_st (fns n) q) n' (vT s a i T rv w acc bv bw) = q ((outR a T (.bad a)).1,rd s (outR a T (.bad a)).2.1 (outR a T (.bad a)).2.2 v' w'):=by
    intro i acc rv w bv bw n' hi hi2 hn'
    obtain ⟨n',rfl,_⟩:=pos (show 0 + 1 ≤ n' by omega)
    have e:decide (i < s.length) = false:=by simpa using hi
    have hf:=t_form_ (n:=n) (by omega) (s:=s) (a:=i) (p:=a) (T:=T) (v:=rv) (w:=w)
    obtain ⟨v',w',hl'⟩:=told_last (o:=.bad a) (a:=a) (T:=T) ⟨_,_,hf⟩
    refine ⟨v',w',fun q=>?_⟩
    rw [← hl' q]
    cases T <;> cases acc <;> simp only [vT,loopN_s,t_text_st,ltN,e,cnd_false] <;> rfl
  induction k with
  | zero =>
    intro i acc rv w bv bw n' hk hi ha hn'
    exact ended i acc rv w bv bw n' (by omega) hi (by omega)
  | succ k ih =>
    intro i acc rv w bv bw n' hk hi ha hn'
    rcases Nat.lt_or_ge i s.length with h | h
    · obtain ⟨n',rfl,hp⟩:=pos (show k + 2 + 1 ≤ n' by omega)
      have hc:s[i]? = some s[i]:=List.getElem?_eq_getElem h
      generalize s[i] = c at hc
      rw [textGo,hc]
      dsimp only
      have e:=decide_eq_true h
      have ele:=decide_eq_true (Nat.le_of_lt h)
      have ew:=one_more (show i ≤ 200000 by omega)
      have ew2:=one_more (show i + 1 ≤ 200000 by omega)
      have h2:=two_at (x:=39) (y:=39) hc
      have b39:(c == 39) = (c.toNat == 39):=byte_eq (by decide)
      have hpre:=g_HasPrefix_ (n:=n) (by omega) (x:=s.drop i) (y:=[39,39])
      cases h1:decide (c.toNat < 32) && c.toNat != 10 with
      | true =>
        simp only [Bool.and_eq_true] at h1
        have hf:=t_form_ (n:=n) (by omega) (s:=s) (a:=i) (p:=i) (T:=T) (v:=rv) (w:=w)
        obtain ⟨v',w',hl'⟩:=told_last (o:=.bad i) (a:=a) (T:=T) ⟨_,_,hf⟩
        refine ⟨v',w',fun q=>?_⟩
        simp only [if_true]
        rw [← hl' q]
        cases T <;> cases acc <;> simp only [vT,loopN_s,t_text_st,ltN,e,cnd_true,negN,cnd_false,toN,hc,bn_some,ltL,ltZ,h1.1,bneL,h1.2] <;> rfl
      | false =>
        simp only [Bool.false_eq_true,if_false]
        have same:∀ {X Y:Prop},cnd (decide (c.toNat < 32)) (cnd (c.toNat != 10) X Y) Y = Y:=by
          intro X Y
          cases g1:decide (c.toNat < 32) with
          | false=>rfl
          | true=>rw [g1,Bool.true_and] at h1; rw [h1]; rfl
        cases h39:c.toNat != 39 with
        | true =>
          obtain ⟨bv',bw',hw⟩:=b_WriteByte_ (n:=n) (by omega) (acc:=acc) (v:=bv) (w:=bw) (c:=c) (by omega)
          obtain ⟨v',w',hr⟩:=ih (i + 1) (acc ++ [c]) (rv + 1) w bv' bw' n' (by omega) (by omega) (by simp; omega) (by omega)
          refine ⟨v',w',fun q=>?_⟩
          simp only [if_true]
          rw [← hr q]
          cases T <;> cases acc <;> simp only [bd,List.nil_append,List.cons_append] at hw <;> simp only [vT,loopN_s,t_text_st,ltN,e,cnd_true,negN,cnd_false,toN,hc,bn_some,ltL,ltZ,bneL,same,h39,hw,gcas,ew,List.nil_append,List.cons_append]
        | false =>
          have hc39:(c.toNat == 39) = true:=by
            unfold bne at h39
            cases hh:c.toNat == 39 with
            | true=>rfl
            | false=>rw [hh] at h39; exact nomatch h39
          have hceq:c = 39:=eq_of_beq (b39.trans hc39)
          simp only [Bool.false_eq_true,if_false]
          by_cases hx:s[i + 1]? = some 39
          · have hpt:[39,39].isPrefixOf (s.drop i) = true:=by rw [h2,b39,hc39,hx]; rfl
            obtain ⟨bv',bw',hw⟩:=b_WriteByte_ (n:=n) (by omega) (acc:=acc) (v:=bv) (w:=bw) (c:=c) (by omega)
            obtain ⟨v',w',hr⟩:=ih (i + 2) (acc ++ [c]) (rv + 1 + 1) w bv' bw' n' (by omega) (by
              have:i + 1 < s.length:=by
                rcases Nat.lt_or_ge (i + 1) s.length with g | g
                · exact g
                · rw [List.getElem?_eq_none g] at hx; cases hx
              omega) (by simp; omega) (by omega)
            refine ⟨v',w',fun q=>?_⟩
            have h39':acc ++ [(39:UInt8)] = acc ++ [c]:=by rw [hceq]
            rw [if_pos hx,h39',← hr q]
            rw [hpt] at hpre
            have ew3:IntKind.i64.wrap (Int.ofNat (i + 1) + 1) = Int.ofNat (i + 2):=ew2
            cases T <;> cases acc <;> simp only [bd,List.nil_append,List.cons_append] at hw <;> simp only [vT,loopN_s,t_text_st,ltN,e,cnd_true,negN,cnd_false,toN,hc,bn_some,ltL,ltZ,bneL,same,h39,hw,gcas,ew,ew3,zleN,leN,ele,Bool.and_self,an_true,drop_take,hpre,List.nil_append,List.cons_append]
          · have hpt:[39,39].isPrefixOf (s.drop i) = false:=by
              rw [h2,show (s[i + 1]? == some 39) = false by simpa using hx,Bool.and_false]
            obtain ⟨n',rfl,hp2⟩:=pos (show k + 1 + 1 ≤ n' by omega)
            obtain ⟨v',w',hr⟩:=text_end hs (n:=n) (a:=a) (T:=T) (i:=i) (rv:=rv) (w:=w) (bv:=bv) (bw:=bw) (acc:=acc) hn h hT (by omega)
            refine ⟨v',w',fun q=>?_⟩
            rw [if_neg hx,← hr q n']
            rw [hpt] at hpre
            cases T <;> cases acc <;> simp only [vT,vE,loopN_s (n:=n' + 1),t_text_st,ltN,e,cnd_true,negN,cnd_false,toN,hc,bn_some,ltL,ltZ,bneL,same,h39,zleN,leN,ele,Bool.and_self,an_true,drop_take,hpre]
    · rw [textGo,List.getElem?_eq_none h]
      exact ended i acc rv w bv bw n' h hi (by omega)
theorem t_text_ {v w:Nat} (hn:20200 ≤ n) (ha:a < s.length) (hT:T.length ≤ 6000):ToldR ((fns n).t_text (rd s a T v w)) s a T (textR s a):=by
  obtain ⟨n,rfl,hp⟩:=pos hn
  have ew:=one_more (show a ≤ 200000 by omega)
  obtain ⟨v',w',hr⟩:=text_loop hs (n:=n) (a:=a) (T:=T) (by omega) hT (s.length - a) (a + 1) [] (v + 1) w 0 0 n (by omega) (by omega) (by simp) (by omega)
  unfold textR
  refine ⟨v',w',?_⟩
  cases T with
  | nil =>
    refine rawN_eq enc22_inj fun q=>?_
    rw [← hr q]
    show loopN (t_text_st (fns n) q) n (.l0 (Int.ofNat a) s (IntKind.i64.wrap (Int.ofNat a + 1)) (v + 1) 0) = _
    rw [ew]; rfl
  | cons x l =>
    refine rawN_eq enc22_inj fun q=>?_
    rw [← hr q]
    show loopN (t_text_st (fns n) q) n (.l1 (Int.ofNat a) s (IntKind.i64.wrap (Int.ofNat a + 1)) w ((x :: l).map Tok.d) (v + 1) 0) = _
    rw [ew]; rfl
end
end Go.Proofs.Ytfdcjngclelnhaa
namespace Go.Proofs.Ytfdcjngclelnhaa
open Go
set_option maxRecDepth 100000
def scanD:SR → D × Int × Int
  | .ok T=>(tD T,0,0)
  | .bad p e=>(.nils,Int.ofNat p,e)
section
variable {s:List UInt8} (hs:s.length ≤ 20000) {n a:Nat} {T:List Tok} {v w:Nat}
include hs
theorem t_next_ (hn:20300 ≤ n) (ha:a < s.length) (hT:T.length ≤ 6000):ToldR ((fns n).t_next (rd s a T v w)) s a T (oneR s a):=by
  obtain ⟨n,rfl,hp⟩:=pos hn
  have hc:s[a]? = some s[a]:=List.getElem?_eq_getElem ha
  generalize s[a] = c at hc
  have b39:(Int.ofNat c.toNat == 39) = (c.toNat == 39):=beqL _ 39
  unfold oneR
  rw [hc]
  try dsimp only
  cases h1:letterN c.toNat with
  | true =>
    simp only [if_true]
    obtain ⟨v',w',hl⟩:=told_last (t_name_ hs (n:=n) (a:=a) (T:=T) (v:=v) (w:=w) (by omega) (by omega) hT)
    refine ⟨v',w',?_⟩
    cases T with
    | nil =>
      refine rawN_eq enc22_inj fun q=>?_
      rw [← hl q]
      simp only [loopN_s,t_next_st,rd,gcT,negN,cnd_false,toN,hc,bn_some,t_letter_ (show 1 ≤ n by omega),h1,cnd_true]
    | cons x l =>
      refine rawN_eq enc22_inj fun q=>?_
      rw [← hl q]
      simp only [loopN_s,t_next_st,rd,gcT,negN,cnd_false,toN,hc,bn_some,t_letter_ (show 1 ≤ n by omega),h1,cnd_true]
  | false =>
    simp only [Bool.false_eq_true,if_false]
    cases h2:digitN c.toNat with
    | true =>
      simp only [if_true]
      obtain ⟨v',w',hl⟩:=told_last (t_number_ hs (n:=n) (a:=a) (T:=T) (v:=v) (w:=w) (by omega) (by omega) hT)
      refine ⟨v',w',?_⟩
      cases T with
      | nil =>
        refine rawN_eq enc22_inj fun q=>?_
        rw [← hl q]
        simp only [loopN_s,t_next_st,rd,gcT,negN,cnd_false,toN,hc,bn_some,t_letter_ (show 1 ≤ n by omega),t_digit_ (show 1 ≤ n by omega),h1,h2,cnd_true]
      | cons x l =>
        refine rawN_eq enc22_inj fun q=>?_
        rw [← hl q]
        simp only [loopN_s,t_next_st,rd,gcT,negN,cnd_false,toN,hc,bn_some,t_letter_ (show 1 ≤ n by omega),t_digit_ (show 1 ≤ n by omega),h1,h2,cnd_true]
    | false =>
      simp only [Bool.false_eq_true,if_false]
      cases h3:c.toNat == 39 with
      | true =>
        simp only [if_true]
        obtain ⟨v',w',hl⟩:=told_last (t_text_ hs (n:=n) (a:=a) (T:=T) (v:=v) (w:=w) (by omega) ha hT)
        refine ⟨v',w',?_⟩
        cases T with
        | nil =>
          refine rawN_eq enc22_inj fun q=>?_
          rw [← hl q]
          simp only [loopN_s,t_next_st,rd,gcT,negN,cnd_false,toN,hc,bn_some,t_letter_ (show 1 ≤ n by omega),t_digit_ (show 1 ≤ n by omega),h1,h2,b39,h3,cnd_true]
        | cons x l =>
          refine rawN_eq enc22_inj fun q=>?_
          rw [← hl q]
          simp only [loopN_s,t_next_st,rd,gcT,negN,cnd_false,toN,hc,bn_some,t_letter_ (show 1 ≤ n by omega),t_digit_ (show 1 ≤ n by omega),h1,h2,b39,h3,cnd_true]
      | false =>
        simp only [Bool.false_eq_true,if_false]
        obtain ⟨v',w',hl⟩:=told_last (t_mark_ hs (n:=n) (a:=a) (T:=T) (v:=v) (w:=w) (by omega) hc hT)
        refine ⟨v',w',?_⟩
        cases T with
        | nil =>
          refine rawN_eq enc22_inj fun q=>?_
          rw [← hl q]
          simp only [loopN_s,t_next_st,rd,gcT,negN,cnd_false,toN,hc,bn_some,t_letter_ (show 1 ≤ n by omega),t_digit_ (show 1 ≤ n by omega),h1,h2,b39,h3]
        | cons x l =>
          refine rawN_eq enc22_inj fun q=>?_
          rw [← hl q]
          simp only [loopN_s,t_next_st,rd,gcT,negN,cnd_false,toN,hc,bn_some,t_letter_ (show 1 ≤ n by omega),t_digit_ (show 1 ≤ n by omega),h1,h2,b39,h3]
def vScan (s:List UInt8) (i:Nat) (T:List Tok) (v w:Nat):t_Scan_V:=match T with
  | []=>.l0 s s (Int.ofNat i) v
  | x :: l=>.l1 s s (Int.ofNat i) w ((x :: l).map Tok.d) v
theorem scan_loop (hn:40300 ≤ n) {q:D × Int × Int → Prop}:∀ f i T v w n',s.length + 1 ≤ i + f → i ≤ s.length → T.length ≤ 6000 → f + 1 ≤ n' →
    loopN (t_Scan_st (fns n) q) n' (vScan s i T v w) = q (scanD (scanGo s f i T)):=by
  intro f
  induction f with
  | zero=>intro i T v w n' h1 h2; omega
  | succ f ih =>
    intro i T v w n' h1 h2 hT hn'
    obtain ⟨n',rfl,hp⟩:=pos hn'
    obtain ⟨v1,hpass⟩:=t_pass_ hs (n:=n) (a:=i) (T:=T) (v:=v) (w:=w) (by omega) h2
    have hge:=passE_ge (s:=s) (s.length - i) i
    have hle:=passE_le (s:=s) (s.length - i) i h2
    rw [scanGo]
    try dsimp only
    generalize passE s (s.length - i) i = j at hpass hge hle ⊢
    have e8:((8:Int) != 0) = true:=rfl
    have e10:((10:Int) != 0) = true:=rfl
    have e0:((0:Int) != 0) = false:=rfl
    by_cases hj:s.length ≤ j
    · have hj':j = s.length:=by omega
      subst hj'
      rw [if_pos (Nat.le_refl _)]
      have eq1:(Int.ofNat s.length == Int.ofNat s.length) = true:=beq_self_eq_true _
      by_cases h6:6000 ≤ T.length
      · rw [if_pos h6]
        have hput:=t_putF (n:=n) (by omega) (s:=s) (a:=s.length) (p:=s.length) (T:=T) (v:=v1) (w:=w) (t:=⟨0,[],0,Int.ofNat s.length⟩) (by omega) rfl
        cases T with
        | nil=>simp at h6
        | cons x l =>
          simp only [rd,gcT,Tok.d] at hpass hput
          simp only [vScan,loopN_s,t_Scan_st,hpass,bn_some,gcas,eq1,cnd_true,hput,e8,scanD]
      · rw [if_neg h6]
        have hput:=t_put_ (n:=n) (by omega) (s:=s) (a:=s.length) (T:=T) (v:=v1) (w:=w) (t:=⟨0,[],0,Int.ofNat s.length⟩) (by omega)
        cases T with
        | nil =>
          simp only [rd,gcT,Tok.d,List.nil_append,List.map_cons,List.map_nil] at hpass hput
          simp only [vScan,loopN_s,t_Scan_st,hpass,bn_some,gcas,eq1,cnd_true,hput,e0,cnd_false]
          rfl
        | cons x l =>
          unfold rd at hput
          rw [gcT_app] at hput
          simp only [rd,gcT] at hpass hput
          have e9:Tok.d ⟨0,[],0,Int.ofNat s.length⟩ = (.agg [.int .i64 0,.str [],.int .i64 0,.int .i64 (Int.ofNat s.length)]):=rfl
          rw [e9] at hput
          simp only [vScan,loopN_s,t_Scan_st,hpass,bn_some,gcas,eq1,cnd_true,hput,e0,cnd_false]
          simp only [scanD,tD,List.map_append,List.map_cons,List.map_nil,e9]
    · rw [if_neg hj]
      have eq1:(Int.ofNat j == Int.ofNat s.length) = false:=by
        rw [beqN]
        cases h:j == s.length with
        | false=>rfl
        | true=>have:=eq_of_beq h; omega
      obtain ⟨v2,w2,hnext⟩:=t_next_ hs (n:=n) (a:=j) (T:=T) (v:=v1) (w:=w) (by omega) (by omega) hT
      cases ho:oneR s j with
      | bad p =>
        rw [ho] at hnext
        simp only [outR] at hnext
        try dsimp only
        cases T with
        | nil =>
          simp only [rd,gcT] at hpass hnext
          simp only [vScan,loopN_s,t_Scan_st,hpass,bn_some,gcas,eq1,cnd_false,hnext,e10,cnd_true,scanD]
        | cons x l =>
          simp only [rd,gcT] at hpass hnext
          simp only [vScan,loopN_s,t_Scan_st,hpass,bn_some,gcas,eq1,cnd_false,hnext,e10,cnd_true,scanD]
      | tok t e =>
        rw [ho] at hnext
        obtain ⟨g1,g2,g3⟩:=oneR_end (by omega) ho
        try dsimp only
        by_cases h6:6000 ≤ T.length
        · rw [if_pos h6]
          simp only [outR,if_neg (show ¬ T.length < 6000 by omega)] at hnext
          cases T with
          | nil=>simp at h6
          | cons x l =>
            simp only [rd,gcT] at hpass hnext
            simp only [vScan,loopN_s,t_Scan_st,hpass,bn_some,gcas,eq1,cnd_false,hnext,e8,cnd_true,scanD]
        · rw [if_neg h6]
          simp only [outR,if_pos (show T.length < 6000 by omega)] at hnext
          have h0:=ih e (T ++ [t]) v2 w2 n' (by omega) g2 (by simp; omega) hp
          rw [← h0]
          cases T with
          | nil =>
            simp only [rd,gcT,List.nil_append] at hpass hnext
            simp only [vScan,loopN_s,t_Scan_st,hpass,bn_some,gcas,eq1,cnd_false,hnext,e0,List.nil_append]
          | cons x l =>
            simp only [rd,gcT,List.cons_append] at hpass hnext
            simp only [vScan,loopN_s,t_Scan_st,hpass,bn_some,gcas,eq1,cnd_false,hnext,e0,List.cons_append]
end
theorem t_Scan_ {n:Nat} (hn:40400 ≤ n) {s:List UInt8}:(fns n).t_Scan s = some (scanD (scanR s)):=by
  obtain ⟨n,rfl,hp⟩:=pos hn
  refine rawN_eq enc26_inj fun q=>?_
  have eg:decide (Int.ofNat s.length > 20000) = decide (20000 < s.length):=gtL _ 20000
  unfold scanR
  by_cases h:s.length > 20000
  · rw [if_pos h]
    simp only [loopN_s,t_Scan_st,eg,decide_eq_true h,cnd_true]
    rfl
  · rw [if_neg h]
    simp only [loopN_s,t_Scan_st,eg,decide_eq_false h,cnd_false]
    exact scan_loop (by omega) (n:=n) (by omega) (q:=q) (s.length + 1) 0 [] 0 0 n (by omega) (by omega) (by simp) (by omega)
end Go.Proofs.Ytfdcjngclelnhaa
namespace Go.Proofs.Ytfdcjngclelnhaa
open Go
variable {s:List UInt8} {a:Nat}
def tokOk (t:Tok):Prop:=(t.kind = 1 → firstL t.text = true) ∧ (t.kind = 4 → firstL t.text = false)
theorem oneR_tok {s:List UInt8} {a:Nat} (ha:a < s.length) {t:Tok} {e:Nat} (h:oneR s a = .tok t e):tokOk t:=by
  have hc:s[a]? = some s[a]:=List.getElem?_eq_getElem ha
  have hd:s.drop a = s[a] :: s.drop (a + 1):=List.drop_eq_getElem_cons ha
  have he:=(oneR_end ha h).1
  have fst:∀ {e},a < e → firstL (sl s a e) = letterN (s[a]).toNat:=fun {e} he=>by
    unfold sl
    rw [hd,show e - a = (e - a - 1) + 1 by omega,List.take_succ_cons]; rfl
  unfold oneR at h
  rw [hc] at h
  dsimp only at h
  split at h
  · rename_i hl
    unfold nameR at h
    dsimp only at h
    split at h
    · cases h
    · cases h
      exact ⟨fun _=>by rw [fst he]; exact hl,fun hk=>absurd (show (1:Int) = 4 from hk) (by decide)⟩
  · rename_i hl
    split at h
    · unfold numR at h
      dsimp only at h
      split at h
      · cases h
      · cases h; exact ⟨fun hk=>absurd (show (2:Int) = 1 from hk) (by decide),fun hk=>absurd (show (2:Int) = 4 from hk) (by decide)⟩
    · split at h
      · have go:∀ k i acc,textGo s a k i acc = .tok t e → t.kind = 3:=by
          intro k
          induction k with
          | zero=>intro i acc h; cases h
          | succ k ih =>
            intro i acc h
            unfold textGo at h
            split at h
            · cases h
            · split at h
              · cases h
              · split at h
                · exact ih _ _ h
                · split at h
                  · exact ih _ _ h
                  · split at h
                    · cases h
                    · cases h; rfl
        have:=go _ _ _ h
        exact ⟨fun hk=>absurd (this.symm.trans hk) (by decide),fun hk=>absurd (this.symm.trans hk) (by decide)⟩
      · unfold markR at h
        split at h
        · cases h
        · cases h
          refine ⟨fun hk=>absurd (show (4:Int) = 1 from hk) (by decide),fun _=>?_⟩
          rw [fst he]
          simpa using hl
theorem scanGo_ok {s:List UInt8}:∀ f i T,i ≤ s.length → (∀ t ∈ T,tokOk t) → T.length ≤ 6000 → ∀ T',scanGo s f i T = .ok T' → (∀ t ∈ T',tokOk t) ∧ T'.length ≤ 6001 ∧ ∃ l,T' = l ++ [⟨0,[],0,Int.ofNat s.length⟩]
  | 0,i,T,_,_,_,T',h=>nomatch h
  | f + 1,i,T,hi,hT,hl,T',h=>by
    have hle:=passE_le (s:=s) (s.length - i) i hi
    rw [scanGo] at h
    try dsimp only at h
    generalize passE s (s.length - i) i = j at hle h
    split at h
    · split at h
      · cases h
      · cases h
        refine ⟨fun t ht=>?_,by simp; omega,T,rfl⟩
        rcases List.mem_append.1 ht with ht | ht
        · exact hT t ht
        · rw [List.mem_singleton.1 ht]
          exact ⟨fun hk=>absurd (show (0:Int) = 1 from hk) (by decide),fun hk=>absurd (show (0:Int) = 4 from hk) (by decide)⟩
    · split at h
      · cases h
      · rename_i t e ho
        split at h
        · cases h
        · exact scanGo_ok f e (T ++ [t]) (oneR_end (by omega) ho).2.1 (fun t' ht'=>by
            rcases List.mem_append.1 ht' with ht' | ht'
            · exact hT t' ht'
            · rw [List.mem_singleton.1 ht']; exact oneR_tok (by omega) ho) (by simp; omega) T' h
theorem scan_tok {s:List UInt8} {T:List Tok} (h:scanR s = .ok T):TOk T:=by
  unfold scanR at h
  split at h
  · cases h
  · obtain ⟨h1,h2,l,rfl⟩:=scanGo_ok (s.length + 1) 0 [] (by omega) (by simp) (by simp) T h
    have hat:∀ i,tokOk (tk (l ++ [⟨0,[],0,Int.ofNat s.length⟩]) i):=fun i=>by
      unfold tk
      rw [List.getD_eq_getElem?_getD]
      cases hg:(l ++ [(⟨0,[],0,Int.ofNat s.length⟩:Tok)])[i]? with
      | none=>exact ⟨fun hk=>absurd (show (0:Int) = 1 from hk) (by decide),fun hk=>absurd (show (0:Int) = 4 from hk) (by decide)⟩
      | some t=>exact h1 t (List.mem_of_getElem? hg)
    refine ⟨⟨by simp,?_⟩,by omega,fun i=>(hat i).1,fun i=>(hat i).2⟩
    unfold tk
    rw [List.getD_eq_getElem?_getD,show (l ++ [(⟨0,[],0,Int.ofNat s.length⟩:Tok)]).length - 1 = l.length by simp,List.getElem?_append_right (Nat.le_refl _)]
    simp
end Go.Proofs.Ytfdcjngclelnhaa
namespace Go.Proofs.Ytfdcjngclelnhaa
open Go
def Yi {α:Type} (P:α → Prop) (f:Nat → Out α):Prop:=∀ i v j,f i = .ok v j → P v
section
variable {α β:Type} {P:α → Prop} {Q:β → Prop} {T:List Tok} {kk:Int} {s:List UInt8}
theorem Yi.any {f:Nat → Out α}:Yi (fun _=>True) f:=fun _ _ _ _=>trivial
theorem Yi.ret {v:α} (h:P v):Yi P (retO v):=fun i w j e=>by cases e; exact h
theorem Yi.seq {f:Nat → Out α} {g:α → Nat → Out β} (hf:Yi P f) (hg:∀ v,P v → Yi Q (g v)):Yi Q (seqO f g):=fun i v j e=>by
  unfold seqO at e
  cases hx:f i with
  | ok w i'=>rw [hx] at e; exact hg w (hf i w i' hx) i' v j e
  | err a b=>rw [hx] at e; cases e
theorem Yi.skip {f:Nat → Out α} {g:α → Nat → Out β} (hg:∀ v,Yi Q (g v)):Yi Q (seqO f g):=Yi.seq Yi.any fun v _=>hg v
theorem Yi.if_ {A Z:Nat → Out α} (h1:Yi P A) (h2:Yi P Z):Yi P (ifO T kk s A Z):=fun i v j e=>by
  unfold ifO at e
  split at e
  · exact h1 _ _ _ e
  · exact h2 _ _ _ e
theorem Yi.see {A Z:Nat → Out α} (h1:Yi P A) (h2:Yi P Z):Yi P (seeO T kk s A Z):=fun i v j e=>by
  unfold seeO at e
  split at e
  · exact h1 _ _ _ e
  · exact h2 _ _ _ e
theorem Yi.ite {c:Prop} [Decidable c] {A Z:Nat → Out α} (h1:Yi P A) (h2:Yi P Z):Yi P (if c then A else Z):=by
  split
  · exact h1
  · exact h2
end
theorem W.one {k e:Nat} {x:D} (hk:el k = some e) (h:W e x):W k (one1 x):=.sl hk (by simp) fun y hy=>by rw [List.mem_singleton.1 hy]; exact h
theorem W.two {k e:Nat} {x y:D} (hk:el k = some e) (h1:W e x) (h2:W e y):W k (.slice [x,y]):=.sl hk (by simp) fun z hz=>by
  rcases List.mem_cons.1 hz with rfl | hz
  · exact h1
  · rw [List.mem_singleton.1 hz]; exact h2
theorem W.e0 {a n:Int} {s t:List UInt8}:W 0 (_root_.Go.Proofs.Ytfdcjngclelnhaa.ex a n s t .nils .nils):=.ex (.nils rfl) (.nils rfl)
theorem W.e1 {a n:Int} {s t:List UInt8} {x:D} (h:W 0 x):W 0 (_root_.Go.Proofs.Ytfdcjngclelnhaa.ex a n s t (one1 x) .nils):=.ex (.one rfl h) (.nils rfl)
theorem W.eq {a n:Int} {s t:List UInt8} {x:D} (h:W 2 x):W 0 (_root_.Go.Proofs.Ytfdcjngclelnhaa.ex a n s t .nils (one1 x)):=.ex (.nils rfl) (.one rfl h)
theorem W.bin {m:List UInt8} {x y:D} (h1:W 0 x) (h2:W 0 y):W 0 (binX m x y):=.ex (.two rfl h1 h2) (.nils rfl)
structure YR (R:Recs):Prop where
  expr:∀ d,Yi (W 0) (R.expr d)
  ands:∀ d,Yi (W 0) (R.ands d)
  nots:∀ d,Yi (W 0) (R.nots d)
  sum:∀ d,Yi (W 0) (R.sum d)
  prod:∀ d,Yi (W 0) (R.prod d)
  unary:∀ d,Yi (W 0) (R.unary d)
  query:∀ d,Yi (W 2) (R.query d)
  part:∀ d,Yi (W 2) (R.part d)
theorem y_loop {op:Nat → Option (List UInt8)} {rest:Nat → Out D} (h:Yi (W 0) rest):∀ r x,W 0 x → Yi (W 0) (pLoop op rest r x)
  | 0,x,hx=>Yi.ret hx
  | r + 1,x,hx=>fun i v j e=>by
    unfold pLoop at e
    split at e
    · rename_i m hm
      cases hy:rest (i + 1) with
      | ok y i'=>rw [hy] at e; exact y_loop h r _ (W.bin hx (h _ _ _ hy)) _ _ _ e
      | err a b=>rw [hy] at e; cases e
    · cases e; exact hx
theorem y_more {T:List Tok} {rest:Nat → Out D} {k e:Nat} (hk:el k = some e) (h:Yi (W e) rest):∀ r l,l.length + r ≤ 400000 → (∀ x ∈ l,W e x) → Yi (W k) (pMore T rest r l)
  | 0,l,hb,hl=>Yi.ret (.sl hk (by omega) hl)
  | r + 1,l,hb,hl=>Yi.if_ (Yi.seq h fun y hy=>y_more hk h r _ (by simp; omega) fun z hz=>by
      rcases List.mem_append.1 hz with hz | hz
      · exact hl z hz
      · rw [List.mem_singleton.1 hz]; exact hy) (Yi.ret (.sl hk (by omega) hl))
theorem y_list {T:List Tok} {one:Nat → Out D} {k e:Nat} {r:Nat} (hk:el k = some e) (hr:r ≤ 200000) (h:Yi (W e) one):Yi (W k) (pList T one r) :=
  Yi.seq h fun x hx=>y_more hk h r [x] (by simp; omega) fun z hz=>by rw [List.mem_singleton.1 hz]; exact hx
section
variable {isW:List UInt8 → Bool} {T:List Tok} {R:Recs} {r:Nat} (h:YR R) (hr:r ≤ 200000) (d:Nat)
include h
theorem y_bracketed:Yi (W 2) (bracketedF T R d):=Yi.skip fun _=>Yi.seq (h.query d) fun q hq=>Yi.skip fun _=>Yi.ret hq
theorem y_cases:Yi (W 0) (casesF T R d):=Yi.skip fun _=>Yi.seq (h.expr d) fun a ha=>Yi.skip fun _=>Yi.seq (h.expr d) fun b hb=>Yi.skip fun _=>Yi.seq (h.expr d) fun c hc=>Yi.skip fun _=>Yi.ret (.ex (.sl rfl (by simp) fun z hz=>by
  rcases List.mem_cons.1 hz with rfl | hz
  · exact ha
  · rcases List.mem_cons.1 hz with rfl | hz
    · exact hb
    · rw [List.mem_singleton.1 hz]; exact hc) (.nils rfl))
theorem y_round:Yi (W 0) (roundF T R d):=Yi.see (Yi.seq (h.query d) fun q hq=>Yi.skip fun _=>Yi.ret (.eq hq)) (Yi.seq (h.expr d) fun x hx=>Yi.skip fun _=>Yi.ret hx)
theorem y_agg1 {s:List UInt8}:Yi (W 0) (agg1F T R d s):=Yi.seq (h.expr d) fun x hx=>Yi.skip fun _=>Yi.ret (.e1 hx)
theorem y_agg {s:List UInt8}:Yi (W 0) (aggF T R d s):=Yi.ite (Yi.if_ (Yi.skip fun _=>Yi.ret .e0) (y_agg1 h d)) (y_agg1 h d)
omit h in
theorem y_dot {s:List UInt8}:Yi (W 0) (dotF isW T s):=Yi.if_ (Yi.skip fun _=>Yi.ret .e0) (Yi.ret .e0)
theorem y_column:Yi (W 0) (columnF isW T R d):=Yi.skip fun s=>Yi.ite (Yi.if_ (y_agg h d) y_dot) y_dot
theorem y_prim:Yi (W 0) (primF isW T R d):=fun i v j e=>by
  unfold primF at e
  split at e
  · cases e; exact .e0
  · split at e
    · cases e; exact .e0
    · exact (Yi.if_ (Yi.ret .e0) (Yi.if_ (Yi.ret .e0) (Yi.if_ (Yi.ret .e0) (Yi.if_ (Yi.skip fun _=>Yi.ret .e0) (Yi.if_ (y_cases h d) (Yi.if_ (Yi.seq (y_bracketed h d) fun q hq=>Yi.ret (.eq hq)) (Yi.if_ (y_round h d) (y_column h d)))))))) _ _ _ e
theorem y_unary:Yi (W 0) (unaryF isW T R d):=Yi.if_ (Yi.skip fun _=>Yi.seq (h.unary (d + 1)) fun x hx=>Yi.ret (.e1 hx)) (y_prim h d)
theorem y_prod:Yi (W 0) (prodF isW T R r d):=Yi.seq (y_unary h d) fun x hx=>y_loop (h.unary d) r x hx
theorem y_sum:Yi (W 0) (sumF isW T R r d):=Yi.seq (y_prod h d) fun x hx=>y_loop (h.prod d) r x hx
omit h in
theorem y_is {x:D} (hx:W 0 x):Yi (W 0) (isF T x):=Yi.if_ (Yi.skip fun _=>Yi.ret (.e1 hx)) (Yi.skip fun _=>Yi.ret (.e1 hx))
theorem y_cmp2 {x:D} (hx:W 0 x):Yi (W 0) (cmp2F T R d x):=Yi.if_ (y_is hx) (Yi.if_ (Yi.skip fun _=>Yi.seq (y_bracketed h d) fun q hq=>Yi.ret (.ex (.one rfl hx) (.one rfl hq))) (Yi.if_ (Yi.seq (y_bracketed h d) fun q hq=>Yi.ret (.ex (.one rfl hx) (.one rfl hq))) (Yi.ret hx)))
theorem y_cmp1 {x:D} (hx:W 0 x):Yi (W 0) (cmp1F T R d x):=fun i v j e=>by
  unfold cmp1F at e
  split at e
  · rename_i m hm
    cases hy:R.sum d (i + 1) with
    | ok y i'=>rw [hy] at e; cases e; exact .bin hx (h.sum d _ _ _ hy)
    | err a b=>rw [hy] at e; cases e
  · exact y_cmp2 h d hx _ _ _ e
theorem y_cmp:Yi (W 0) (cmpF isW T R r d):=Yi.seq (y_sum h d) fun x hx=>y_cmp1 h d hx
theorem y_not:Yi (W 0) (notF isW T R r d):=Yi.if_ (Yi.skip fun _=>Yi.seq (h.nots (d + 1)) fun x hx=>Yi.ret (.e1 hx)) (y_cmp h d)
theorem y_and:Yi (W 0) (andF isW T R r d):=Yi.seq (y_not h d) fun x hx=>y_loop (h.nots d) r x hx
theorem y_or:Yi (W 0) (orF isW T R r d):=Yi.seq (y_and h d) fun x hx=>y_loop (h.ands d) r x hx
theorem y_expr:Yi (W 0) (exprF isW T R r d):=Yi.skip fun _=>y_or h (d + 1)
theorem y_item:Yi (W 8) (itemF isW T R d):=Yi.seq (h.expr d) fun x hx=>Yi.skip fun _=>Yi.skip fun s=>Yi.ret (.itm hx)
theorem y_key:Yi (W 9) (keyF T R d):=Yi.seq (h.expr d) fun x hx=>Yi.if_ (Yi.ret (.ky hx)) (Yi.ret (.ky hx))
theorem y_single:Yi (W 4) (singleF isW T R d) :=
  Yi.if_ (Yi.seq (h.query d) fun q hq=>Yi.skip fun _=>Yi.skip fun _=>Yi.skip fun s=>Yi.ret (.frm (.one rfl hq) (.nils rfl) (.nils rfl)))
    (Yi.skip fun s=>Yi.skip fun v=>Yi.if_ (Yi.skip fun t=>Yi.ret (.frm (.nils rfl) (.nils rfl) (.nils rfl))) (Yi.ret (.frm (.nils rfl) (.nils rfl) (.nils rfl))))
theorem y_srcs:∀ k x,W 4 x → Yi (W 4) (srcLoop isW T R d k x)
  | 0,x,hx=>Yi.ret hx
  | k + 1,x,hx=>by
    have go:∀ kind:Int,Yi (W 4) (seqO (singleF isW T R d) fun y=>seqO (pMust T 1 w_on) fun _=>seqO (R.expr d) fun e=>srcLoop isW T R d k (frm kind [] false [] .nils (.slice [x,y]) (one1 e))):=fun kind =>
      Yi.seq (y_single h d) fun y hy=>Yi.skip fun _=>Yi.seq (h.expr d) fun e he=>y_srcs k _ (.frm (.nils rfl) (.two rfl hx hy) (.one rfl he))
    exact Yi.if_ (Yi.skip fun _=>go 4) (Yi.if_ (go 3) (Yi.ret hx))
theorem y_source:Yi (W 4) (sourceF isW T R r d):=Yi.seq (y_single h d) fun x hx=>y_srcs h d r x hx
omit h in
theorem y_opt {w:List UInt8} {f:Nat → Out D} {k e:Nat} (hk:el k = some e) (hf:Yi (W e) f):Yi (W k) (optF T w f):=Yi.if_ (Yi.seq hf fun x hx=>Yi.ret (.one hk hx)) (Yi.ret (.nils hk))
include hr
theorem y_group:Yi (fun v:D × D=>W 1 v.1 ∧ W 1 v.2) (groupF T R r d):=Yi.if_ (Yi.skip fun _=>Yi.seq (y_list rfl hr (h.expr d)) fun g hg=>Yi.seq (y_opt rfl (h.expr d)) fun x hx=>Yi.ret ⟨hg,hx⟩) (Yi.ret ⟨.nils rfl,.nils rfl⟩)
theorem y_order:Yi (W 7) (orderF T R r d):=Yi.if_ (Yi.skip fun _=>y_list rfl hr (y_key h d)) (Yi.ret (.nils rfl))
theorem y_select:Yi (W 2) (selectF isW T R r d):=Yi.skip fun _=>Yi.skip fun dist=>Yi.seq (y_list rfl hr (y_item h d)) fun items hi=>Yi.seq (y_opt rfl (y_source h d)) fun froms hf=>Yi.seq (y_opt rfl (h.expr d)) fun wheres hw =>
  Yi.seq (y_group h hr d) fun gh hg=>Yi.seq (y_order h hr d) fun order ho=>Yi.skip fun limit=>Yi.ret (.qu hi hf hw hg.1 hg.2 ho (.nils rfl))
theorem y_part:Yi (W 2) (partF isW T R r d):=Yi.if_ (Yi.seq (h.query d) fun q hq=>Yi.skip fun _=>Yi.ret hq) (y_select h hr d)
omit h hr in
theorem y_qus {part:Nat → Out D} (hp:Yi (W 2) part):∀ k x,W 2 x → Yi (W 2) (quLoop T part k x)
  | 0,x,hx=>Yi.ret hx
  | k + 1,x,hx=>by
    have go:∀ kind:Int,Yi (W 2) (seqO part fun y=>quLoop T part k (qu kind false .nils .nils .nils .nils .nils .nils (-1) (.slice [x,y]))):=fun kind =>
      Yi.seq hp fun y hy=>y_qus hp k _ (.qu (.nils rfl) (.nils rfl) (.nils rfl) (.nils rfl) (.nils rfl) (.nils rfl) (.two rfl hx hy))
    exact Yi.if_ (Yi.if_ (go 3) (go 2)) (Yi.if_ (go 4) (Yi.if_ (go 5) (Yi.ret hx)))
theorem y_query:Yi (W 2) (queryF isW T R r d):=Yi.skip fun _=>Yi.seq (y_part h hr (d + 1)) fun x hx=>y_qus (h.part (d + 1)) r x hx
end
theorem y_all {isW:List UInt8 → Bool} {T:List Tok}:∀ r,r ≤ 200000 → YR (recs isW T r)
  | 0,_=>by constructor <;> intro d i v j e <;> cases e
  | r + 1,hr=>by
    have h:=y_all (isW:=isW) (T:=T) r (by omega)
    constructor <;> intro d
    · exact y_expr h d
    · exact y_and h d
    · exact y_not h d
    · exact y_sum h d
    · exact y_prod h d
    · exact y_unary h d
    · exact y_query h hr d
    · exact y_part h hr d
theorem readAll_W {T:List Tok} {f:Nat → Out D} {k:Nat} (h:Yi (W k) f) {v:D} {i:Nat} (e:readAll T f = .ok v i):W k v:=by
  unfold readAll at e
  cases hx:f 0 with
  | ok w j =>
    rw [hx] at e
    simp only [Out.bind] at e
    split at e
    · cases e; exact h _ _ _ hx
    · cases e
  | err a b=>rw [hx] at e; cases e
theorem w_same {k:Nat} {x:D} (h:W k x):SameP k x:=by
  induction h with
  | ex _ _ h1 h2=>exact ⟨mkE (by rw [h1.1,h2.1]; rfl),sameE_of h1.2 h2.2⟩
  | qu _ _ _ _ _ _ _ ha hb hc he hf hg hh =>
    obtain ⟨fa,la,ea,ba,ga⟩:=ha
    obtain ⟨fg,lg,eg,bg,gg⟩:=hg
    exact ⟨mkQ (by rw [fa,hb.1,hc.1,he.1,hf.1,fg,hh.1]; rfl),sameQ_of rfl rfl ea eg ba bg ga gg hb.2 hc.2 he.2 hf.2 hh.2⟩
  | frm _ _ _ h1 h2 h3=>exact ⟨mkF (by rw [h1.1,h2.1,h3.1]; rfl),h1.2.and (h2.2.and h3.2)⟩
  | itm _ h=>exact ⟨(okItm h.1).1,by rw [g26_itm h.1]; exact h.1,by rw [g26_itm h.1]; exact h.2⟩
  | ky _ h=>exact ⟨(okKy h.1).1,by rw [g26_ky h.1]; exact h.1,by rw [g26_ky h.1]; exact h.2⟩
  | @nils k e hk =>
    have hz:asL D.nils = some []:=rfl
    match k,hk with
    | 1,_=>exact ⟨rfl,sameEs_of hz (by simp) fun y hy=>by cases hy⟩
    | 3,_=>exact ⟨rfl,sameQs_of hz (by simp) fun y hy=>by cases hy⟩
    | 5,_=>exact ⟨rfl,sameFs_of hz (by simp) fun y hy=>by cases hy⟩
    | 6,_=>exact ⟨rfl,[],hz,by simp,fun y hy=>by cases hy⟩
    | 7,_=>exact ⟨rfl,[],hz,by simp,fun y hy=>by cases hy⟩
  | @sl k e l hk hb _ ih =>
    have hz:asL (D.slice l) = some l:=rfl
    match k,e,hk,ih with
    | 1,_,rfl,ih=>exact ⟨rfl,sameEs_of hz (by omega) fun y hy=>ih y hy⟩
    | 3,_,rfl,ih=>exact ⟨rfl,sameQs_of hz (by omega) fun y hy=>ih y hy⟩
    | 5,_,rfl,ih=>exact ⟨rfl,sameFs_of hz (by omega) fun y hy=>ih y hy⟩
    | 6,_,rfl,ih=>exact ⟨rfl,l,hz,by omega,fun y hy=>ih y hy⟩
    | 7,_,rfl,ih=>exact ⟨rfl,l,hz,by omega,fun y hy=>ih y hy⟩
end Go.Proofs.Ytfdcjngclelnhaa
