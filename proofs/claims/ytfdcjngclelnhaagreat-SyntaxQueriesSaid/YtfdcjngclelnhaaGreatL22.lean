/- Part of a proof. -/
import Derived.Test.YtfdcjngclelnhaaGreatL18
set_option linter.unusedSectionVars false
set_option linter.unusedSimpArgs false
set_option linter.unusedVariables false
namespace Go.Proofs.YtfdcjngclelnhaaGreat
open Go
set_option maxRecDepth 100000
set_option maxHeartbeats 2000000
def bytesD (l:List UInt8):List D:=l.map fun b=>.int .u8 (Int.ofNat b.toNat)
theorem bytesOf_D:∀ l:List UInt8,bytesOf (bytesD l) = some l
  | []=>rfl
  | c :: r=>by
    have ih:=bytesOf_D r
    unfold bytesD at ih ⊢
    rw [List.map_cons,bytesOf,ih]
    simp
def bd (acc:List UInt8) (v w:Nat):B167:=⟨match acc with | []=>.n | c :: r=>.o (bytesD (c :: r)) w,v⟩
theorem b_WriteByte_ {n:Nat} (hn:2 ≤ n) {acc:List UInt8} {v w:Nat} {c:UInt8} (hl:acc.length ≤ 100000):∃ v' w',(fns n).b_WriteByte (bd acc v w) (Int.ofNat c.toNat) = some ((),bd (acc ++ [c]) v' w'):=by
  obtain ⟨n,rfl,hp⟩:=pos hn
  obtain ⟨n,rfl,hp2⟩:=pos hp
  cases acc with
  | nil =>
    have h1:(fns (n + 1)).b_copyCheck (B167.mk GC.n v) = some ⟨.m,v + 1⟩:=rawN_eq enc43_inj fun q=>rfl
    refine ⟨v + 1 + 1,v + 1,rawN_eq enc44_inj fun q=>?_⟩
    simp only [loopN_s,b_WriteByte_st,bd,h1,bn_some,gcas]
    rfl
  | cons b r =>
    have h1:(fns (n + 1)).b_copyCheck (B167.mk (GC.o (bytesD (b :: r)) w) v) = some ⟨.o (bytesD (b :: r)) w,v⟩:=rawN_eq enc43_inj fun q=>rfl
    refine ⟨v + 1,v,rawN_eq enc44_inj fun q=>?_⟩
    have e1:∀ m:Nat,m.beq m = true:=Nat.beq_refl
    have e2:(bytesD (b :: r)).isEmpty = false:=rfl
    have e3:sized 1 (bytesD (b :: r)) = true:=rfl
    have e4:(bytesD (b :: r)).length = r.length + 1:=by simp [bytesD]
    have e5:=room_ok (show r.length + 1 + 1 ≤ 1000000 by rw [List.length_cons] at hl; omega) (show 1 ≤ 1000 by decide)
    have e6:(bytesD (b :: r) ++ [D.int .u8 (Int.ofNat c.toNat)]).length = r.length + 1 + 1:=by simp [bytesD]
    simp only [loopN_s,b_WriteByte_st,bd,h1,bn_some,gcas,e1,an_true,e2,cnd_false,e3,e4,e5,e6]
    congr 2
    simp [bd,bytesD]
theorem b_Len_ {n:Nat} (hn:1 ≤ n) {acc:List UInt8} {v w:Nat}:(fns n).b_Len (bd acc v w) = some (Int.ofNat acc.length,bd acc v w):=by
  obtain ⟨n,rfl,hp⟩:=pos hn
  cases acc with
  | nil=>exact rawN_eq enc45_inj fun q=>rfl
  | cons b r =>
    refine rawN_eq enc45_inj fun q=>?_
    have e4:(bytesD (b :: r)).length = (b :: r).length:=by simp [bytesD]
    simp only [loopN_s,b_Len_st,bd,e4]
theorem b_String_ {n:Nat} (hn:1 ≤ n) {acc:List UInt8} {v w:Nat} (hl:acc.length ≤ 100000):(fns n).b_String (bd acc v w) = some (acc,bd acc v w):=by
  obtain ⟨n,rfl,hp⟩:=pos hn
  cases acc with
  | nil=>exact rawN_eq enc46_inj fun q=>rfl
  | cons b r =>
    refine rawN_eq enc46_inj fun q=>?_
    have e1:∀ m:Nat,m.beq m = true:=Nat.beq_refl
    have e2:(bytesD (b :: r)).isEmpty = false:=rfl
    have e4:(bytesD (b :: r)).length = r.length + 1:=by simp [bytesD]
    have e5:(Int.ofNat (r.length + 1) == (0:Int)) = false:=by rw [show (Int.ofNat (r.length + 1) == (0:Int)) = (r.length + 1 == 0) from beqL _ 0]; rfl
    have e6:decide (r.length + 1 ≤ r.length + 1) = true:=decide_eq_true (Nat.le_refl _)
    have e7:decide (Int.ofNat (r.length + 1) ≤ 9223372036854775807) = true:=by rw [leL]; exact decide_eq_true (show r.length + 1 ≤ 9223372036854775807 by rw [List.length_cons] at hl; omega)
    have e8:List.take (r.length + 1) (bytesD (b :: r)) = bytesD (b :: r):=List.take_of_length_le (by omega)
    simp only [loopN_s,b_String_st,bd,e4,e1,e2,cnd_false,e5,toN,e6,e7,Bool.and_true,an_true,e8,bytesOf_D,bn_some]
section
variable {s:List UInt8} (hs:s.length ≤ 20000) {n a:Nat} {T:List Tok}
def vT (s:List UInt8) (a i:Nat) (T:List Tok) (rv w:Nat) (acc:List UInt8) (bv bw:Nat):t_text_V:=match T,acc with
  | [],[]=>.l0 (Int.ofNat a) s (Int.ofNat i) rv bv
  | [],c :: r=>.l3 (Int.ofNat a) s (Int.ofNat i) rv bw (bytesD (c :: r)) bv
  | x :: l,[]=>.l1 (Int.ofNat a) s (Int.ofNat i) w ((x :: l).map Tok.d) rv bv
  | x :: l,c :: r=>.l6 (Int.ofNat a) s (Int.ofNat i) w ((x :: l).map Tok.d) rv bw (bytesD (c :: r)) bv
def vE (s:List UInt8) (a i:Nat) (T:List Tok) (rv w:Nat) (acc:List UInt8) (bv bw:Nat):t_text_V:=match T,acc with
  | [],[]=>.l4 (Int.ofNat a) s (Int.ofNat i) rv bv
  | [],c :: r=>.l9 (Int.ofNat a) s (Int.ofNat i) rv bw (bytesD (c :: r)) bv
  | x :: l,[]=>.l7 (Int.ofNat a) s (Int.ofNat i) w ((x :: l).map Tok.d) rv bv
  | x :: l,c :: r=>.l11 (Int.ofNat a) s (Int.ofNat i) w ((x :: l).map Tok.d) rv bw (bytesD (c :: r)) bv
include hs
theorem text_end {i rv w bv bw:Nat} {acc:List UInt8} (hn:10 ≤ n) (hi:i < s.length) (hT:T.length ≤ 6000) (hl:acc.length ≤ 100000):∃ v' w',∀ (q:Int × B132 → Prop) n',loopN (t_text_st (fns n) q) (n' + 1) (vE s a i T rv w acc bv bw) =
    q ((outR a T (if acc.length > 1000 then .bad a else .tok ⟨3,acc,0,Int.ofNat a⟩ (i + 1))).1,rd s (outR a T (if acc.length > 1000 then .bad a else .tok ⟨3,acc,0,Int.ofNat a⟩ (i + 1))).2.1 (outR a T (if acc.length > 1000 then .bad a else .tok ⟨3,acc,0,Int.ofNat a⟩ (i + 1))).2.2 v' w'):=by
  have hL:=b_Len_ (n:=n) (by omega) (acc:=acc) (v:=bv) (w:=bw)
  have hS:=b_String_ (n:=n) (by omega) (acc:=acc) (v:=bv) (w:=bw) hl
  have ew:=one_more (show i ≤ 200000 by omega)
  by_cases h:acc.length > 1000
  · rw [if_pos h]
    have hd:=decide_eq_true h
    have hf:=t_form_ (n:=n) (by omega) (s:=s) (a:=i + 1) (p:=a) (T:=T) (v:=rv + 1) (w:=w)
    obtain ⟨v',w',hl'⟩:=told_last (o:=.bad a) (a:=a) (T:=T) ⟨_,_,hf⟩
    refine ⟨v',w',fun q n'=>?_⟩
    rw [← hl' q]
    cases T <;> cases acc <;> simp only [bd] at hL hS <;> simp only [vE,loopN_s,t_text_st,hL,bn_some,gcas,gtL,hd,cnd_true,ew] <;> rfl
  · rw [if_neg h]
    have hd:=decide_eq_false h
    obtain ⟨v',w',hl'⟩:=told_last (t_putR (n:=n) (by omega) (s:=s) (a:=a) (e:=i + 1) (v:=rv + 1) (w:=w) (t:=⟨3,acc,0,Int.ofNat a⟩) hT rfl)
    refine ⟨v',w',fun q n'=>?_⟩
    rw [← hl' q]
    cases T <;> cases acc <;> simp only [bd] at hL hS <;> simp only [vE,loopN_s,t_text_st,hL,bn_some,gcas,gtL,hd,cnd_false,ew,hS] <;> rfl
theorem text_loop (hn:10 ≤ n) (hT:T.length ≤ 6000):∀ k i acc rv w bv bw n',s.length ≤ i + k → i ≤ s.length + 1 → acc.length ≤ i → k + 2 ≤ n' → ∃ v' w',∀ q:Int × B132 → Prop,loopN (t_text_st (fns n) q) n' (vT s a i T rv w acc bv bw) =
    q ((outR a T (textGo s a k i acc)).1,rd s (outR a T (textGo s a k i acc)).2.1 (outR a T (textGo s a k i acc)).2.2 v' w'):=by
  intro k
  have ended:∀ i acc rv w bv bw n',s.length ≤ i → i ≤ s.length + 1 → 1 ≤ n' → ∃ v' w',∀ q:Int × B132 → Prop,loopN (t_text_st (fns n) q) n' (vT s a i T rv w acc bv bw) = q ((outR a T (.bad a)).1,rd s (outR a T (.bad a)).2.1 (outR a T (.bad a)).2.2 v' w'):=by
    intro i acc rv w bv bw n' hi hi2 hn'
    obtain ⟨n',rfl,_⟩:=pos (show 0 + 1 ≤ n' by omega)
    have e:decide (i < s.length) = false:=by simpa using hi
    have hf:=t_form_ (n:=n) (by omega) (s:=s) (a:=i) (p:=a) (T:=T) (v:=rv) (w:=w)
    obtain ⟨v',w',hl'⟩:=told_last (o:=.bad a) (a:=a) (T:=T) ⟨_,_,hf⟩
    refine ⟨v',w',fun q=>?_⟩
    rw [← hl' q]
    cases T <;> cases acc <;> simp only [vT,loopN_s,t_text_st,ltN,e,cnd_false] <;> rfl
  induction k with
  | zero =>
    intro i acc rv w bv bw n' hk hi ha hn'
    exact ended i acc rv w bv bw n' (by omega) hi (by omega)
  | succ k ih =>
    intro i acc rv w bv bw n' hk hi ha hn'
    rcases Nat.lt_or_ge i s.length with h | h
    · obtain ⟨n',rfl,hp⟩:=pos (show k + 2 + 1 ≤ n' by omega)
      have hc:s[i]? = some s[i]:=List.getElem?_eq_getElem h
      generalize s[i] = c at hc
      rw [textGo,hc]
      dsimp only
      have e:=decide_eq_true h
      have ele:=decide_eq_true (Nat.le_of_lt h)
      have ew:=one_more (show i ≤ 200000 by omega)
      have ew2:=one_more (show i + 1 ≤ 200000 by omega)
      have h2:=two_at (x:=39) (y:=39) hc
      have b39:(c == 39) = (c.toNat == 39):=byte_eq (by decide)
      have hpre:=g_HasPrefix_ (n:=n) (by omega) (x:=s.drop i) (y:=[39,39])
      cases h1:decide (c.toNat < 32) && c.toNat != 10 with
      | true =>
        simp only [Bool.and_eq_true] at h1
        have hf:=t_form_ (n:=n) (by omega) (s:=s) (a:=i) (p:=i) (T:=T) (v:=rv) (w:=w)
        obtain ⟨v',w',hl'⟩:=told_last (o:=.bad i) (a:=a) (T:=T) ⟨_,_,hf⟩
        refine ⟨v',w',fun q=>?_⟩
        simp only [if_true]
        rw [← hl' q]
        cases T <;> cases acc <;> simp only [vT,loopN_s,t_text_st,ltN,e,cnd_true,negN,cnd_false,toN,hc,bn_some,ltL,ltZ,h1.1,bneL,h1.2] <;> rfl
      | false =>
        simp only [Bool.false_eq_true,if_false]
        have same:∀ {X Y:Prop},cnd (decide (c.toNat < 32)) (cnd (c.toNat != 10) X Y) Y = Y:=by
          intro X Y
          cases g1:decide (c.toNat < 32) with
          | false=>rfl
          | true=>rw [g1,Bool.true_and] at h1; rw [h1]; rfl
        cases h39:c.toNat != 39 with
        | true =>
          obtain ⟨bv',bw',hw⟩:=b_WriteByte_ (n:=n) (by omega) (acc:=acc) (v:=bv) (w:=bw) (c:=c) (by omega)
          obtain ⟨v',w',hr⟩:=ih (i + 1) (acc ++ [c]) (rv + 1) w bv' bw' n' (by omega) (by omega) (by simp; omega) (by omega)
          refine ⟨v',w',fun q=>?_⟩
          simp only [if_true]
          rw [← hr q]
          cases T <;> cases acc <;> simp only [bd,List.nil_append,List.cons_append] at hw <;> simp only [vT,loopN_s,t_text_st,ltN,e,cnd_true,negN,cnd_false,toN,hc,bn_some,ltL,ltZ,bneL,same,h39,hw,gcas,ew,List.nil_append,List.cons_append]
        | false =>
          have hc39:(c.toNat == 39) = true:=by
            unfold bne at h39
            cases hh:c.toNat == 39 with
            | true=>rfl
            | false=>rw [hh] at h39; exact nomatch h39
          have hceq:c = 39:=eq_of_beq (b39.trans hc39)
          simp only [Bool.false_eq_true,if_false]
          by_cases hx:s[i + 1]? = some 39
          · have hpt:[39,39].isPrefixOf (s.drop i) = true:=by rw [h2,b39,hc39,hx]; rfl
            obtain ⟨bv',bw',hw⟩:=b_WriteByte_ (n:=n) (by omega) (acc:=acc) (v:=bv) (w:=bw) (c:=c) (by omega)
            obtain ⟨v',w',hr⟩:=ih (i + 2) (acc ++ [c]) (rv + 1 + 1) w bv' bw' n' (by omega) (by
              have:i + 1 < s.length:=by
                rcases Nat.lt_or_ge (i + 1) s.length with g | g
                · exact g
                · rw [List.getElem?_eq_none g] at hx; cases hx
              omega) (by simp; omega) (by omega)
            refine ⟨v',w',fun q=>?_⟩
            have h39':acc ++ [(39:UInt8)] = acc ++ [c]:=by rw [hceq]
            rw [if_pos hx,h39',← hr q]
            rw [hpt] at hpre
            have ew3:IntKind.i64.wrap (Int.ofNat (i + 1) + 1) = Int.ofNat (i + 2):=ew2
            cases T <;> cases acc <;> simp only [bd,List.nil_append,List.cons_append] at hw <;> simp only [vT,loopN_s,t_text_st,ltN,e,cnd_true,negN,cnd_false,toN,hc,bn_some,ltL,ltZ,bneL,same,h39,hw,gcas,ew,ew3,zleN,leN,ele,Bool.and_self,an_true,drop_take,hpre,List.nil_append,List.cons_append]
          · have hpt:[39,39].isPrefixOf (s.drop i) = false:=by
              rw [h2,show (s[i + 1]? == some 39) = false by simpa using hx,Bool.and_false]
            obtain ⟨n',rfl,hp2⟩:=pos (show k + 1 + 1 ≤ n' by omega)
            obtain ⟨v',w',hr⟩:=text_end hs (n:=n) (a:=a) (T:=T) (i:=i) (rv:=rv) (w:=w) (bv:=bv) (bw:=bw) (acc:=acc) hn h hT (by omega)
            refine ⟨v',w',fun q=>?_⟩
            rw [if_neg hx,← hr q n']
            rw [hpt] at hpre
            cases T <;> cases acc <;> simp only [vT,vE,loopN_s (n:=n' + 1),t_text_st,ltN,e,cnd_true,negN,cnd_false,toN,hc,bn_some,ltL,ltZ,bneL,same,h39,zleN,leN,ele,Bool.and_self,an_true,drop_take,hpre]
    · rw [textGo,List.getElem?_eq_none h]
      exact ended i acc rv w bv bw n' h hi (by omega)
theorem t_text_ {v w:Nat} (hn:20200 ≤ n) (ha:a < s.length) (hT:T.length ≤ 6000):ToldR ((fns n).t_text (rd s a T v w)) s a T (textR s a):=by
  obtain ⟨n,rfl,hp⟩:=pos hn
  have ew:=one_more (show a ≤ 200000 by omega)
  obtain ⟨v',w',hr⟩:=text_loop hs (n:=n) (a:=a) (T:=T) (by omega) hT (s.length - a) (a + 1) [] (v + 1) w 0 0 n (by omega) (by omega) (by simp) (by omega)
  unfold textR
  refine ⟨v',w',?_⟩
  cases T with
  | nil =>
    refine rawN_eq enc37_inj fun q=>?_
    rw [← hr q]
    show loopN (t_text_st (fns n) q) n (.l0 (Int.ofNat a) s (IntKind.i64.wrap (Int.ofNat a + 1)) (v + 1) 0) = _
    rw [ew]; rfl
  | cons x l =>
    refine rawN_eq enc37_inj fun q=>?_
    rw [← hr q]
    show loopN (t_text_st (fns n) q) n (.l1 (Int.ofNat a) s (IntKind.i64.wrap (Int.ofNat a + 1)) w ((x :: l).map Tok.d) (v + 1) 0) = _
    rw [ew]; rfl
end
end Go.Proofs.YtfdcjngclelnhaaGreat
namespace Go.Proofs.YtfdcjngclelnhaaGreat
open Go
set_option maxRecDepth 100000
def scanD:SR → D × Int × Int
  | .ok T=>(tD T,0,0)
  | .bad p e=>(.nils,Int.ofNat p,e)
section
variable {s:List UInt8} (hs:s.length ≤ 20000) {n a:Nat} {T:List Tok} {v w:Nat}
include hs
theorem t_next_ (hn:20300 ≤ n) (ha:a < s.length) (hT:T.length ≤ 6000):ToldR ((fns n).t_next (rd s a T v w)) s a T (oneR s a):=by
  obtain ⟨n,rfl,hp⟩:=pos hn
  have hc:s[a]? = some s[a]:=List.getElem?_eq_getElem ha
  generalize s[a] = c at hc
  have b39:(Int.ofNat c.toNat == 39) = (c.toNat == 39):=beqL _ 39
  unfold oneR
  rw [hc]
  try dsimp only
  cases h1:letterN c.toNat with
  | true =>
    simp only [if_true]
    obtain ⟨v',w',hl⟩:=told_last (t_name_ hs (n:=n) (a:=a) (T:=T) (v:=v) (w:=w) (by omega) (by omega) hT)
    refine ⟨v',w',?_⟩
    cases T with
    | nil =>
      refine rawN_eq enc37_inj fun q=>?_
      rw [← hl q]
      simp only [loopN_s,t_next_st,rd,gcT,negN,cnd_false,toN,hc,bn_some,t_letter_ (show 1 ≤ n by omega),h1,cnd_true]
    | cons x l =>
      refine rawN_eq enc37_inj fun q=>?_
      rw [← hl q]
      simp only [loopN_s,t_next_st,rd,gcT,negN,cnd_false,toN,hc,bn_some,t_letter_ (show 1 ≤ n by omega),h1,cnd_true]
  | false =>
    simp only [Bool.false_eq_true,if_false]
    cases h2:digitN c.toNat with
    | true =>
      simp only [if_true]
      obtain ⟨v',w',hl⟩:=told_last (t_number_ hs (n:=n) (a:=a) (T:=T) (v:=v) (w:=w) (by omega) (by omega) hT)
      refine ⟨v',w',?_⟩
      cases T with
      | nil =>
        refine rawN_eq enc37_inj fun q=>?_
        rw [← hl q]
        simp only [loopN_s,t_next_st,rd,gcT,negN,cnd_false,toN,hc,bn_some,t_letter_ (show 1 ≤ n by omega),t_digit_ (show 1 ≤ n by omega),h1,h2,cnd_true]
      | cons x l =>
        refine rawN_eq enc37_inj fun q=>?_
        rw [← hl q]
        simp only [loopN_s,t_next_st,rd,gcT,negN,cnd_false,toN,hc,bn_some,t_letter_ (show 1 ≤ n by omega),t_digit_ (show 1 ≤ n by omega),h1,h2,cnd_true]
    | false =>
      simp only [Bool.false_eq_true,if_false]
      cases h3:c.toNat == 39 with
      | true =>
        simp only [if_true]
        obtain ⟨v',w',hl⟩:=told_last (t_text_ hs (n:=n) (a:=a) (T:=T) (v:=v) (w:=w) (by omega) ha hT)
        refine ⟨v',w',?_⟩
        cases T with
        | nil =>
          refine rawN_eq enc37_inj fun q=>?_
          rw [← hl q]
          simp only [loopN_s,t_next_st,rd,gcT,negN,cnd_false,toN,hc,bn_some,t_letter_ (show 1 ≤ n by omega),t_digit_ (show 1 ≤ n by omega),h1,h2,b39,h3,cnd_true]
        | cons x l =>
          refine rawN_eq enc37_inj fun q=>?_
          rw [← hl q]
          simp only [loopN_s,t_next_st,rd,gcT,negN,cnd_false,toN,hc,bn_some,t_letter_ (show 1 ≤ n by omega),t_digit_ (show 1 ≤ n by omega),h1,h2,b39,h3,cnd_true]
      | false =>
        simp only [Bool.false_eq_true,if_false]
        obtain ⟨v',w',hl⟩:=told_last (t_mark_ hs (n:=n) (a:=a) (T:=T) (v:=v) (w:=w) (by omega) hc hT)
        refine ⟨v',w',?_⟩
        cases T with
        | nil =>
          refine rawN_eq enc37_inj fun q=>?_
          rw [← hl q]
          simp only [loopN_s,t_next_st,rd,gcT,negN,cnd_false,toN,hc,bn_some,t_letter_ (show 1 ≤ n by omega),t_digit_ (show 1 ≤ n by omega),h1,h2,b39,h3]
        | cons x l =>
          refine rawN_eq enc37_inj fun q=>?_
          rw [← hl q]
          simp only [loopN_s,t_next_st,rd,gcT,negN,cnd_false,toN,hc,bn_some,t_letter_ (show 1 ≤ n by omega),t_digit_ (show 1 ≤ n by omega),h1,h2,b39,h3]
def vScan (s:List UInt8) (i:Nat) (T:List Tok) (v w:Nat):t_Scan_V:=match T with
  | []=>.l0 s s (Int.ofNat i) v
  | x :: l=>.l1 s s (Int.ofNat i) w ((x :: l).map Tok.d) v
theorem scan_loop (hn:40300 ≤ n) {q:D × Int × Int → Prop}:∀ f i T v w n',s.length + 1 ≤ i + f → i ≤ s.length → T.length ≤ 6000 → f + 1 ≤ n' →
    loopN (t_Scan_st (fns n) q) n' (vScan s i T v w) = q (scanD (scanGo s f i T)):=by
  intro f
  induction f with
  | zero=>intro i T v w n' h1 h2; omega
  | succ f ih =>
    intro i T v w n' h1 h2 hT hn'
    obtain ⟨n',rfl,hp⟩:=pos hn'
    obtain ⟨v1,hpass⟩:=t_pass_ hs (n:=n) (a:=i) (T:=T) (v:=v) (w:=w) (by omega) h2
    have hge:=passE_ge (s:=s) (s.length - i) i
    have hle:=passE_le (s:=s) (s.length - i) i h2
    rw [scanGo]
    try dsimp only
    generalize passE s (s.length - i) i = j at hpass hge hle ⊢
    have e8:((8:Int) != 0) = true:=rfl
    have e10:((10:Int) != 0) = true:=rfl
    have e0:((0:Int) != 0) = false:=rfl
    by_cases hj:s.length ≤ j
    · have hj':j = s.length:=by omega
      subst hj'
      rw [if_pos (Nat.le_refl _)]
      have eq1:(Int.ofNat s.length == Int.ofNat s.length) = true:=beq_self_eq_true _
      by_cases h6:6000 ≤ T.length
      · rw [if_pos h6]
        have hput:=t_putF (n:=n) (by omega) (s:=s) (a:=s.length) (p:=s.length) (T:=T) (v:=v1) (w:=w) (t:=⟨0,[],0,Int.ofNat s.length⟩) (by omega) rfl
        cases T with
        | nil=>simp at h6
        | cons x l =>
          simp only [rd,gcT,Tok.d] at hpass hput
          simp only [vScan,loopN_s,t_Scan_st,hpass,bn_some,gcas,eq1,cnd_true,hput,e8,scanD]
      · rw [if_neg h6]
        have hput:=t_put_ (n:=n) (by omega) (s:=s) (a:=s.length) (T:=T) (v:=v1) (w:=w) (t:=⟨0,[],0,Int.ofNat s.length⟩) (by omega)
        cases T with
        | nil =>
          simp only [rd,gcT,Tok.d,List.nil_append,List.map_cons,List.map_nil] at hpass hput
          simp only [vScan,loopN_s,t_Scan_st,hpass,bn_some,gcas,eq1,cnd_true,hput,e0,cnd_false]
          rfl
        | cons x l =>
          unfold rd at hput
          rw [gcT_app] at hput
          simp only [rd,gcT] at hpass hput
          have e9:Tok.d ⟨0,[],0,Int.ofNat s.length⟩ = (.agg [.int .i64 0,.str [],.int .i64 0,.int .i64 (Int.ofNat s.length)]):=rfl
          rw [e9] at hput
          simp only [vScan,loopN_s,t_Scan_st,hpass,bn_some,gcas,eq1,cnd_true,hput,e0,cnd_false]
          simp only [scanD,tD,List.map_append,List.map_cons,List.map_nil,e9]
    · rw [if_neg hj]
      have eq1:(Int.ofNat j == Int.ofNat s.length) = false:=by
        rw [beqN]
        cases h:j == s.length with
        | false=>rfl
        | true=>have:=eq_of_beq h; omega
      obtain ⟨v2,w2,hnext⟩:=t_next_ hs (n:=n) (a:=j) (T:=T) (v:=v1) (w:=w) (by omega) (by omega) hT
      cases ho:oneR s j with
      | bad p =>
        rw [ho] at hnext
        simp only [outR] at hnext
        try dsimp only
        cases T with
        | nil =>
          simp only [rd,gcT] at hpass hnext
          simp only [vScan,loopN_s,t_Scan_st,hpass,bn_some,gcas,eq1,cnd_false,hnext,e10,cnd_true,scanD]
        | cons x l =>
          simp only [rd,gcT] at hpass hnext
          simp only [vScan,loopN_s,t_Scan_st,hpass,bn_some,gcas,eq1,cnd_false,hnext,e10,cnd_true,scanD]
      | tok t e =>
        rw [ho] at hnext
        obtain ⟨g1,g2,g3⟩:=oneR_end (by omega) ho
        try dsimp only
        by_cases h6:6000 ≤ T.length
        · rw [if_pos h6]
          simp only [outR,if_neg (show ¬ T.length < 6000 by omega)] at hnext
          cases T with
          | nil=>simp at h6
          | cons x l =>
            simp only [rd,gcT] at hpass hnext
            simp only [vScan,loopN_s,t_Scan_st,hpass,bn_some,gcas,eq1,cnd_false,hnext,e8,cnd_true,scanD]
        · rw [if_neg h6]
          simp only [outR,if_pos (show T.length < 6000 by omega)] at hnext
          have h0:=ih e (T ++ [t]) v2 w2 n' (by omega) g2 (by simp; omega) hp
          rw [← h0]
          cases T with
          | nil =>
            simp only [rd,gcT,List.nil_append] at hpass hnext
            simp only [vScan,loopN_s,t_Scan_st,hpass,bn_some,gcas,eq1,cnd_false,hnext,e0,List.nil_append]
          | cons x l =>
            simp only [rd,gcT,List.cons_append] at hpass hnext
            simp only [vScan,loopN_s,t_Scan_st,hpass,bn_some,gcas,eq1,cnd_false,hnext,e0,List.cons_append]
end
theorem t_Scan_ {n:Nat} (hn:40400 ≤ n) {s:List UInt8}:(fns n).t_Scan s = some (scanD (scanR s)):=by
  obtain ⟨n,rfl,hp⟩:=pos hn
  refine rawN_eq enc35_inj fun q=>?_
  have eg:decide (Int.ofNat s.length > 20000) = decide (20000 < s.length):=gtL _ 20000
  unfold scanR
  by_cases h:s.length > 20000
  · rw [if_pos h]
    simp only [loopN_s,t_Scan_st,eg,decide_eq_true h,cnd_true]
    rfl
  · rw [if_neg h]
    simp only [loopN_s,t_Scan_st,eg,decide_eq_false h,cnd_false]
    exact scan_loop (by omega) (n:=n) (by omega) (q:=q) (s.length + 1) 0 [] 0 0 n (by omega) (by omega) (by simp) (by omega)
end Go.Proofs.YtfdcjngclelnhaaGreat
namespace Go.Proofs.YtfdcjngclelnhaaGreat
open Go
set_option maxRecDepth 100000
set_option maxHeartbeats 2000000
theorem k_letter_ {n m:Nat} (hn:1 ≤ n):(fns n).k_letter (Int.ofNat m) = some (letterN m):=by
  obtain ⟨n,rfl,hp⟩:=pos hn
  refine rawN_eq enc32_inj fun q=>?_
  simp only [loopN_s,k_letter_st,geL,leL,beqL,letterN]
  cases decide (97 ≤ m) <;> cases decide (m ≤ 122) <;> cases decide (65 ≤ m) <;> cases decide (m ≤ 90) <;> rfl
theorem k_digit_ {n m:Nat} (hn:1 ≤ n):(fns n).k_digit (Int.ofNat m) = some (digitN m):=by
  obtain ⟨n,rfl,hp⟩:=pos hn
  refine rawN_eq enc32_inj fun q=>?_
  simp only [loopN_s,k_digit_st,geL,leL,digitN]
  cases decide (48 ≤ m) <;> rfl
theorem k_blank_ {n m:Nat} (hn:1 ≤ n):(fns n).k_blank (Int.ofNat m) = some (blankN m):=by
  obtain ⟨n,rfl,hp⟩:=pos hn
  refine rawN_eq enc32_inj fun q=>?_
  simp only [loopN_s,k_blank_st,beqL,blankN]
  cases m == 32 <;> cases m == 9 <;> cases m == 10 <;> rfl
def marks:List (List UInt8):=[[124,124],[60,62],[60,61],[62,61],[40],[41],[44],[59],[46],[42],[43],[45],[47],[37],[61],[60],[62],[123],[125],[58]]
theorem k_Marks_ {n:Nat} (hn:1 ≤ n):(fns n).k_Marks = some (.slice (marks.map .str)):=by
  obtain ⟨n,rfl,hp⟩:=pos hn
  exact rawN_eq enc31_inj fun q=>rfl
def textK:TR → Int × List UInt8 × Int × Int
  | .tok t e=>(Int.ofNat e,t.text,0,0)
  | .bad p=>(0,[],Int.ofNat p,10)
section
variable {s:List UInt8} (hs:s.length ≤ 20000) {n a:Nat}
def vK (s:List UInt8) (a i:Nat) (acc:List UInt8):k_text_V:=match acc with
  | []=>.l0 s (Int.ofNat a) (Int.ofNat i)
  | c :: r=>.l1 s (Int.ofNat a) (bytesD (c :: r)) (Int.ofNat i) (r.length + 1)
theorem next39 {i:Nat} {X Y:Prop}:cnd (decide (Int.ofNat (i + 1) < Int.ofNat s.length)) (bn (s[i + 1]?) fun x=>cnd (Int.ofNat x.toNat == 39) X Y) Y = if s[i + 1]? = some 39 then X else Y:=by
  rw [ltN]
  rcases Nat.lt_or_ge (i + 1) s.length with h | h
  · rw [decide_eq_true h,cnd_true,List.getElem?_eq_getElem h,bn_some,beqL,show ((s[i + 1]).toNat == 39) = (s[i + 1] == 39) from (byte_eq (by decide)).symm]
    by_cases hx:s[i + 1] = 39
    · rw [hx,if_pos rfl]; rfl
    · rw [if_neg (fun e=>hx (Option.some.inj e)),show (s[i + 1] == 39) = false by simpa using hx]; rfl
  · rw [decide_eq_false (by omega),cnd_false,List.getElem?_eq_none h,if_neg (by simp)]
include hs
theorem ktext_loop {q:Int × List UInt8 × Int × Int → Prop}:∀ k i acc n',s.length ≤ i + k → i ≤ s.length + 1 → acc.length ≤ i → k + 1 ≤ n' →
    loopN (k_text_st (fns n) q) n' (vK s a i acc) = q (textK (textGo s a k i acc)):=by
  intro k
  have ended:∀ i acc n',s.length ≤ i → 1 ≤ n' → loopN (k_text_st (fns n) q) n' (vK s a i acc) = q (textK (.bad a)):=by
    intro i acc n' hi hn'
    obtain ⟨n',rfl,_⟩:=pos (show 0 + 1 ≤ n' by omega)
    have e:decide (i < s.length) = false:=by simpa using hi
    cases acc <;> simp only [vK,loopN_s,k_text_st,ltN,e,cnd_false,textK]
  induction k with
  | zero =>
    intro i acc n' hk hi ha hn'
    exact ended i acc n' (by omega) (by omega)
  | succ k ih =>
    intro i acc n' hk hi ha hn'
    rcases Nat.lt_or_ge i s.length with h | h
    · obtain ⟨n',rfl,hp⟩:=pos hn'
      have hc:s[i]? = some s[i]:=List.getElem?_eq_getElem h
      generalize s[i] = c at hc
      rw [textGo,hc]
      try dsimp only
      have e:=decide_eq_true h
      have ew:=one_more (show i ≤ 200000 by omega)
      have ew2:IntKind.i64.wrap (Int.ofNat (i + 1) + 1) = Int.ofNat (i + 2):=one_more (show i + 1 ≤ 200000 by omega)
      cases h1:decide (c.toNat < 32) && c.toNat != 10 with
      | true =>
        simp only [Bool.and_eq_true] at h1
        simp only [if_true]
        cases acc <;> simp only [vK,loopN_s,k_text_st,ltN,e,cnd_true,negN,cnd_false,toN,hc,bn_some,ltL,ltZ,h1.1,bneL,h1.2,textK]
      | false =>
        simp only [Bool.false_eq_true,if_false]
        have same:∀ {X Y:Prop},cnd (decide (c.toNat < 32)) (cnd (c.toNat != 10) X Y) Y = Y:=by
          intro X Y
          cases g1:decide (c.toNat < 32) with
          | false=>rfl
          | true=>rw [g1,Bool.true_and] at h1; rw [h1]; rfl
        cases h39:c.toNat != 39 with
        | true =>
          simp only [if_true]
          rw [← ih (i + 1) (acc ++ [c]) n' (by omega) (by omega) (by simp; omega) (by omega)]
          cases acc with
          | nil=>simp only [vK,loopN_s,k_text_st,ltN,e,cnd_true,negN,cnd_false,toN,hc,bn_some,ltL,ltZ,bneL,same,h39,ew]; rfl
          | cons b r =>
            have e4:(r.length + 1 == (bytesD (b :: r)).length) = true:=by simp [bytesD]
            have e5:=room_ok (show r.length + 1 + 1 ≤ 1000000 by rw [List.length_cons] at ha; omega) (show 1 ≤ 1000 by decide)
            simp only [vK,loopN_s,k_text_st,ltN,e,cnd_true,negN,cnd_false,toN,hc,bn_some,ltL,ltZ,bneL,same,h39,ew,e4,e5,an_true,List.cons_append,List.length_append,List.length_cons,List.length_nil]
            congr 2
            simp [bytesD]
        | false =>
          have hc39:(c.toNat == 39) = true:=by
            unfold bne at h39
            cases hh:c.toNat == 39 with
            | true=>rfl
            | false=>rw [hh] at h39; exact nomatch h39
          have hceq:c = 39:=eq_of_beq ((byte_eq (by decide):(c == 39) = (c.toNat == 39)).trans hc39)
          simp only [Bool.false_eq_true,if_false]
          by_cases hx:s[i + 1]? = some 39
          · have hi1:i + 1 < s.length:=by
              rcases Nat.lt_or_ge (i + 1) s.length with g | g
              · exact g
              · rw [List.getElem?_eq_none g] at hx; cases hx
            rw [if_pos hx,← ih (i + 2) (acc ++ [39]) n' (by omega) (by omega) (by simp; omega) (by omega)]
            cases acc with
            | nil=>simp only [vK,loopN_s,k_text_st,ltN s.length,ltN i,e,cnd_true,negN i,cnd_false,toN,hc,bn_some,ltL,ltZ,bneL,same,h39,ew,next39,if_pos hx,ew2]; rfl
            | cons b r =>
              have e4:(r.length + 1 == (bytesD (b :: r)).length) = true:=by simp [bytesD]
              have e5:=room_ok (show r.length + 1 + 1 ≤ 1000000 by rw [List.length_cons] at ha; omega) (show 1 ≤ 1000 by decide)
              simp only [vK,loopN_s,k_text_st,ltN i,e,cnd_true,negN i,cnd_false,toN,hc,bn_some,ltL,ltZ,bneL,same,h39,ew,next39,if_pos hx,ew2,e4,e5,an_true,List.cons_append,List.length_append,List.length_cons,List.length_nil]
              congr 2
              simp [bytesD]
          · rw [if_neg hx]
            cases acc with
            | nil =>
              simp only [vK,loopN_s,k_text_st,ltN i,e,cnd_true,negN i,cnd_false,toN,hc,bn_some,ltL,ltZ,bneL,same,h39,ew,next39,if_neg hx]
              rfl
            | cons b r =>
              have e4:(bytesD (b :: r)).length = (b :: r).length:=by simp [bytesD]
              simp only [vK,loopN_s,k_text_st,ltN i,e,cnd_true,negN i,cnd_false,toN,hc,bn_some,ltL,ltZ,bneL,same,h39,ew,next39,if_neg hx,e4,gtL,bytesOf_D]
              by_cases h1000:(b :: r).length > 1000
              · rw [if_pos h1000,decide_eq_true h1000]; rfl
              · rw [if_neg h1000,decide_eq_false h1000]; rfl
    · rw [textGo,List.getElem?_eq_none h]
      exact ended i acc n' h (by omega)
theorem k_text_ (hn:20100 ≤ n) (ha:a < s.length):(fns n).k_text s (Int.ofNat a) = some (textK (textR s a)):=by
  obtain ⟨n,rfl,hp⟩:=pos hn
  have ew:=one_more (show a ≤ 200000 by omega)
  refine rawN_eq enc33_inj fun q=>?_
  unfold textR
  rw [← ktext_loop hs (n:=n) (q:=q) (s.length - a) (a + 1) [] n (by omega) (by omega) (by simp) (by omega)]
  show loopN (k_text_st (fns n) q) n (.l0 s (Int.ofNat a) (IntKind.i64.wrap (Int.ofNat a + 1))) = _
  rw [ew]; rfl
end
end Go.Proofs.YtfdcjngclelnhaaGreat
namespace Go.Proofs.YtfdcjngclelnhaaGreat
open Go
set_option maxRecDepth 100000
set_option maxHeartbeats 2000000
def zTok:D:=.agg [.int .i64 0,.str [],.int .i64 0,.int .i64 0]
def oneK:TR → D × Int × Int × Int
  | .tok t e=>(t.d,Int.ofNat e,0,0)
  | .bad p=>(zTok,0,Int.ofNat p,10)
def markAt (l:List UInt8):List (List UInt8) → Nat
  | []=>0
  | m :: r=>if m.isPrefixOf l then m.length else markAt l r
theorem of_range {α:Type} {f g:Nat → α} (h:(List.range 256).map f = (List.range 256).map g) (n:Nat) (hn:n < 256):f n = g n:=by
  have:=congrArg (fun l=>l[n]?) h
  simpa [List.getElem?_map,List.getElem?_range hn] using this
theorem markAt_eq (l:List UInt8):markAt l marks = markN l:=by
  cases l with
  | nil=>rfl
  | cons c r =>
    cases r with
    | nil =>
      have h:((List.range 256).map fun (n:Nat)=>markAt [n.toUInt8] marks) = (List.range 256).map fun (n:Nat)=>markN [n.toUInt8]:=by kernel_rfl
      have:=of_range h c.toNat c.toNat_lt
      rwa [byte_back] at this
    | cons d q =>
      have key : ((List.range 256).map fun (n : Nat) => fun (b1 b2 b3 : Bool) =>
            (if n.toUInt8 == 124 && b1 then 2 else if n.toUInt8 == 60 && b2 then 2 else if n.toUInt8 == 60 && b3 then 2 else if n.toUInt8 == 62 && b3 then 2 else markAt [n.toUInt8] (marks.drop 4)))
          = (List.range 256).map fun (n:Nat)=>fun (b1 b2 b3:Bool) =>
            (if n.toUInt8 = 124 then (if b1 then 2 else 0) else if n.toUInt8 = 60 then (if b2 then 2 else if b3 then 2 else 1) else if n.toUInt8 = 62 then (if b3 then 2 else 1) else if setB n.toUInt8 then 1 else 0):=by
        apply List.map_congr_left
        intro n hn
        funext b1 b2 b3
        have hall:((List.range 256).all fun (n:Nat)=>[true,false].all fun b1=>[true,false].all fun b2=>[true,false].all fun b3 =>
            (if n.toUInt8 == 124 && b1 then 2 else if n.toUInt8 == 60 && b2 then 2 else if n.toUInt8 == 60 && b3 then 2 else if n.toUInt8 == 62 && b3 then 2 else markAt [n.toUInt8] (marks.drop 4)) ==
            (if n.toUInt8 = 124 then (if b1 then 2 else 0) else if n.toUInt8 = 60 then (if b2 then 2 else if b3 then 2 else 1) else if n.toUInt8 = 62 then (if b3 then 2 else 1) else if setB n.toUInt8 then 1 else 0)) = true:=by kernel_rfl
        have h1:=List.all_eq_true.1 hall n hn
        have h2:=List.all_eq_true.1 h1 b1 (by cases b1 <;> simp)
        have h3:=List.all_eq_true.1 h2 b2 (by cases b2 <;> simp)
        have h4:=List.all_eq_true.1 h3 b3 (by cases b3 <;> simp)
        exact beq_iff_eq.1 h4
      have h:=congrFun (congrFun (congrFun (of_range key c.toNat c.toNat_lt) (d == 124)) (d == 62)) (d == 61)
      simp only [byte_back] at h
      have one:∀ (x:UInt8),[x].isPrefixOf (c :: d :: q) = (x == c):=fun x=>by simp [List.isPrefixOf]
      have one':∀ (x:UInt8),[x].isPrefixOf [c] = (x == c):=fun x=>by simp [List.isPrefixOf]
      have two:∀ (x y:UInt8),[x,y].isPrefixOf (c :: d :: q) = (c == x && d == y):=fun x y=>by
        have e1:(x == c) = (c == x):=by rw [Bool.eq_iff_iff,beq_iff_eq,beq_iff_eq]; exact eq_comm
        have e2:(y == d) = (d == y):=by rw [Bool.eq_iff_iff,beq_iff_eq,beq_iff_eq]; exact eq_comm
        simp only [List.isPrefixOf,e1,e2,Bool.and_true]
      have lhs:markAt (c :: d :: q) marks = (if c == 124 && d == 124 then 2 else if c == 60 && d == 62 then 2 else if c == 60 && d == 61 then 2 else if c == 62 && d == 61 then 2 else markAt [c] (marks.drop 4)):=by
        simp only [marks,markAt,two,one,one',List.drop_succ_cons,List.drop_zero,List.length_cons,List.length_nil]
      have rhs:markN (c :: d :: q) = (if c = 124 then (if (d == 124) = true then 2 else 0) else if c = 60 then (if (d == 62) = true then 2 else if (d == 61) = true then 2 else 1) else if c = 62 then (if (d == 61) = true then 2 else 1) else if setB c then 1 else 0):=by
        simp only [markN,two,List.getElem?_cons_succ,List.getElem?_cons_zero,Option.some.injEq,beq_iff_eq]
        by_cases h1:c = 124
        · simp [h1]
        · by_cases h2:c = 60
          · simp [h2]
          · simp [h1,h2]
      rw [lhs,rhs]
      exact h
section
variable {s:List UInt8} (hs:s.length ≤ 20000) {n a:Nat}
include hs
theorem kspan_loop {F:Nat → Int → Prop} {fin:Int → Prop} {p:Nat → Bool} (hF:∀ n i c,s[i]? = some c → i < s.length → F (n + 1) (Int.ofNat i) = if p c.toNat then F n (Int.ofNat (i + 1)) else fin (Int.ofNat i))
    (hE:∀ n,F (n + 1) (Int.ofNat s.length) = fin (Int.ofNat s.length)) :
    ∀ k i n,i + k = s.length → k + 1 ≤ n → F n (Int.ofNat i) = fin (Int.ofNat (spanE p s k i)):=by
  intro k
  induction k with
  | zero =>
    intro i n hi hn
    obtain ⟨n,rfl,_⟩:=pos hn
    have:i = s.length:=by omega
    subst this
    exact hE n
  | succ k ih =>
    intro i n hi hn
    obtain ⟨n,rfl,hp⟩:=pos hn
    have hlt:i < s.length:=by omega
    have hc:s[i]? = some s[i]:=List.getElem?_eq_getElem hlt
    rw [hF n i s[i] hc hlt,spanE,hc]
    try dsimp only
    by_cases hpc:p (s[i]).toNat = true
    · rw [if_pos hpc,if_pos hpc]; exact ih (i + 1) n (by omega) hp
    · rw [if_neg hpc,if_neg hpc]
theorem knum_loop {q:D × Int × Int × Int → Prop} {e:Nat} (he:e ≤ s.length) (hae:a ≤ e) (h18:e - a ≤ 18) (hd:∀ c ∈ sl s a e,digitN c.toNat = true) :
    ∀ k i n' cnt,i + k = e → a ≤ i → k + 1 ≤ n' → loopN (k_one_st (fns n) q) n' (.l2 s (Int.ofNat e) (Int.ofNat i) (Tok.d ⟨2,sl s a e,Int.ofNat (decN ((sl s a e).take (i - a))),Int.ofNat a⟩) cnt) = q (Tok.d ⟨2,sl s a e,Int.ofNat (decN (sl s a e)),Int.ofNat a⟩,Int.ofNat e,0,0):=by
  have hl:=sl_len hae he
  intro k
  induction k with
  | zero =>
    intro i n' cnt hi ha hn
    obtain ⟨n',rfl,_⟩:=pos hn
    have ee:decide (i < e) = false:=by simp <;> omega
    have et:List.take (i - a) (sl s a e) = sl s a e:=List.take_of_length_le (by omega)
    simp only [loopN_s,k_one_st,ltN,ee,cnd_false,G_ok okTok,et]
  | succ k ih =>
    intro i n' cnt hi ha hn
    obtain ⟨n',rfl,hp⟩:=pos hn
    have hlt:i < e:=by omega
    have ee:=decide_eq_true hlt
    have hin:i - a < (sl s a e).length:=by omega
    have hg:s[i]? = some (sl s a e)[i - a]:=by
      have h1:=sl_get (s:=s) (a:=a) (e:=e) (i:=i - a) (by omega)
      rw [List.getElem?_eq_getElem hin,show a + (i - a) = i by omega] at h1
      exact h1.symm
    have hc:=hd (sl s a e)[i - a] (List.getElem_mem _)
    simp only [digitN,Bool.and_eq_true,decide_eq_true_eq] at hc
    have hb:=dec_small hd (by omega) (show i - a ≤ (sl s a e).length by omega)
    have hb2:=dec_small hd (by omega) (show i - a + 1 ≤ (sl s a e).length by omega)
    have hsucc:=decN_succ (sl s a e) (i - a) hin
    rw [hsucc] at hb2
    generalize hc':(sl s a e)[i - a] = c at hg hc hsucc hb2
    have e1:IntKind.i64.wrap (Int.ofNat c.toNat) = Int.ofNat c.toNat:=i64_small (by simp <;> omega) (by simp <;> omega)
    have e2:IntKind.i64.wrap (10 * Int.ofNat (decN ((sl s a e).take (i - a)))) = Int.ofNat (10 * decN ((sl s a e).take (i - a))):=by rw [i64_small (by simp <;> omega) (by simp <;> omega)]; simp
    have e3:IntKind.i64.wrap (Int.ofNat (10 * decN ((sl s a e).take (i - a))) + Int.ofNat c.toNat) = Int.ofNat (10 * decN ((sl s a e).take (i - a)) + c.toNat):=by rw [i64_small (by simp <;> omega) (by simp <;> omega)]; simp
    have e4:IntKind.i64.wrap (Int.ofNat (10 * decN ((sl s a e).take (i - a)) + c.toNat) - 48) = Int.ofNat (decN ((sl s a e).take (i + 1 - a))):=by
      rw [show i + 1 - a = i - a + 1 by omega,hsucc,i64_small (by simp <;> omega) (by simp <;> omega)]; simp; omega
    rw [← ih (i + 1) n' (cnt + 1) (by omega) (by omega) hp]
    simp only [loopN_s,k_one_st,ltN,ee,cnd_true,negN,cnd_false,toN,hg,bn_some,cTok0,cTok1,cTok2,cTok3,e1,e2,e3,e4,one_more (show i ≤ 200000 by omega)]
    rfl
theorem kmark_loop {q:D × Int × Int × Int → Prop} (ha:a < s.length):∀ (l:List (List UInt8)) t n',marks.drop t = l → t + l.length = marks.length → l.length + 1 ≤ n' →
    loopN (k_one_st (fns n) q) n' (.l1 s (Int.ofNat a) (.slice (marks.map .str)) (Int.ofNat t)) = q (oneK (if markAt (s.drop a) l = 0 then .bad a else .tok ⟨4,sl s a (a + markAt (s.drop a) l),0,Int.ofNat a⟩ (a + markAt (s.drop a) l))):=by
  intro l
  induction l with
  | nil =>
    intro t n' hdr hl hn'
    obtain ⟨n',rfl,_⟩:=pos hn'
    have e:decide (t < marks.length) = false:=by simp at hl ⊢; omega
    simp only [loopN_s,k_one_st,asL,bn_some,List.length_map,ltN,e,cnd_false]
    rfl
  | cons u l ih =>
    intro t n' hdr hl hn'
    obtain ⟨n',rfl,hp⟩:=pos hn'
    have ht:t < marks.length:=by simp at hl; omega
    have e:=decide_eq_true ht
    have hdc:=List.drop_eq_getElem_cons ht
    rw [hdr] at hdc
    have hu:marks[t] = u:=(List.cons.inj hdc).1.symm
    have hdl:marks.drop (t + 1) = l:=(List.cons.inj hdc).2.symm
    have hmem:u ∈ marks:=by rw [← hu]; exact List.getElem_mem _
    have hul:1 ≤ u.length ∧ u.length ≤ 2:=(by decide:∀ w ∈ marks,1 ≤ w.length ∧ w.length ≤ 2) u hmem
    have hml:marks.length = 20:=rfl
    have ea:atD (marks.map D.str) (Int.ofNat t) = some (.str u):=by
      unfold atD
      rw [if_neg (by simp)]
      show (marks.map D.str)[t]? = _
      rw [List.getElem?_map,List.getElem?_eq_getElem ht,hu]; rfl
    have ew:IntKind.i64.wrap (Int.ofNat t + 1) = Int.ofNat (t + 1):=one_more (by omega)
    have e1:IntKind.i64.wrap (Int.ofNat s.length - Int.ofNat a) = Int.ofNat (s.length - a):=by rw [i64_small (by simp <;> omega) (by simp <;> omega)]; simp; omega
    have e2:IntKind.i64.wrap (Int.ofNat a + Int.ofNat u.length) = Int.ofNat (a + u.length):=by rw [i64_small (by simp <;> omega) (by simp <;> omega)]; simp
    have e2':IntKind.i64.wrap (Int.ofNat a + (↑u.length:Int)) = Int.ofNat (a + u.length):=e2
    have e3:decide (Int.ofNat (s.length - a) ≥ Int.ofNat u.length) = decide (u.length ≤ s.length - a):=leN _ _
    have h0:=ih (t + 1) n' hdl (by simp at hl; omega) (by simp at hn'; omega)
    have hpre:=prefix_eq (x:=s.drop a) (y:=u)
    rw [List.length_drop] at hpre
    simp only [loopN_s,k_one_st,asL,bn_some,List.length_map,ltN,e,cnd_true,ea,D.flat,an_true,asS,e1,e3,ew,e2,e2',zleN,leN,toN,Bool.true_and]
    rw [markAt,hpre]
    by_cases hle:u.length ≤ s.length - a
    · have e4:=decide_eq_true hle
      have e5:decide (a + u.length ≤ s.length) = true:=decide_eq_true (by omega)
      have e6:decide (a ≤ a + u.length) = true:=decide_eq_true (by omega)
      simp only [e4,cnd_true,e5,e6,an_true,Bool.true_and,Nat.add_sub_cancel_left]
      cases hb:List.take u.length (List.drop a s) == u with
      | true =>
        have hz:¬ u.length = 0:=by omega
        simp only [cnd_true,if_true,if_neg hz]
        have:sl s a (a + u.length) = u:=by rw [sl_drop]; exact eq_of_beq hb
        rw [this]; rfl
      | false =>
        simp only [cnd_false,Bool.false_eq_true,if_false]
        exact h0
    · have e4:=decide_eq_false hle
      simp only [e4,cnd_false,Bool.false_and,Bool.false_eq_true,if_false]
      exact h0
theorem k_one_ (hn:40300 ≤ n) (ha:a < s.length):(fns n).k_one s (Int.ofNat a) = some (oneK (oneR s a)):=by
  obtain ⟨n,rfl,hp⟩:=pos hn
  have hc:s[a]? = some s[a]:=List.getElem?_eq_getElem ha
  generalize s[a] = c at hc
  have b39:(Int.ofNat c.toNat == 39) = (c.toNat == 39):=beqL _ 39
  refine rawN_eq enc34_inj fun q=>?_
  unfold oneR
  rw [hc]
  try dsimp only
  have kl:=fun m=>k_letter_ (n:=n) (m:=m) (by omega)
  have kd:=fun m=>k_digit_ (n:=n) (m:=m) (by omega)
  have e00:((0:Int) != 0) = false:=rfl
  have e10:((10:Int) != 0) = true:=rfl
  have fits:∀ e,a ≤ e → e ≤ s.length → decide (e ≤ s.length) = true ∧ decide (a ≤ e) = true ∧ IntKind.i64.wrap (Int.ofNat e - Int.ofNat a) = Int.ofNat (e - a):=fun e h1 h2 =>
    ⟨decide_eq_true h2,decide_eq_true h1,by rw [i64_small (by simp <;> omega) (by simp <;> omega)]; simp; omega⟩
  cases h1:letterN c.toNat with
  | true =>
    simp only [if_true]
    simp only [loopN_s (n:=n),k_one_st,negN,cnd_false,toN,hc,bn_some,kl,h1,cnd_true]
    have hge:=spanE_ge (p:=nameN) (s:=s) (s.length - a) a
    have hle:=spanE_le (p:=nameN) (s:=s) (s.length - a) a (by omega)
    have hloop:=kspan_loop hs (F:=fun n' i=>loopN (k_one_st (fns n) q) n' (.l0 s (Int.ofNat a) i true)) (p:=nameN) (fin:=fun y2=>an (decide (0 ≤ y2) && decide (y2 ≤ Int.ofNat s.length)) (an (decide (0 ≤ Int.ofNat a) && decide (Int.ofNat a ≤ Int.ofNat y2.toNat)) (cnd true (cnd (decide (IntKind.i64.wrap (y2 - Int.ofNat a) > 30)) (q ((.agg [.int .i64 0,.str [],.int .i64 0,.int .i64 0]),0,Int.ofNat a,10)) (q ((.agg [.int .i64 1,.str (List.take (y2.toNat - (Int.ofNat a).toNat) (List.drop (Int.ofNat a).toNat s)),.int .i64 0,.int .i64 (Int.ofNat a)]),y2,0,0))) False))) (fun n' i c hc hi=>by
        simp only [loopN_s,k_one_st,ltN,decide_eq_true hi,cnd_true,negN,cnd_false,toN,hc,bn_some,kd,kl,one_more (show i ≤ 200000 by omega)]
        by_cases hx:nameN c.toNat = true
        · rw [if_pos hx]
          unfold nameN at hx
          cases h7:digitN c.toNat with
          | true=>rfl
          | false=>rw [h7,Bool.or_false] at hx; rw [hx]; rfl
        · rw [if_neg hx]
          have h8:nameN c.toNat = false:=by simpa using hx
          unfold nameN at h8
          rw [Bool.or_eq_false_iff] at h8
          rw [h8.1,h8.2]; rfl) (fun n'=>by
        simp only [loopN_s,k_one_st,lt_no,cnd_false,cnd_true]) (s.length - a) a n (by omega) (by omega)
    refine Eq.trans hloop ?_
    unfold nameR
    try dsimp only
    generalize spanE nameN s (s.length - a) a = e at hge hle ⊢
    obtain ⟨f1,f2,f3⟩:=fits e hge hle
    simp only [zleN,leN,f1,f2,toN,Bool.and_self,an_true,cnd_true,f3,gtL]
    by_cases h30:e - a > 30
    · rw [if_pos h30,decide_eq_true h30]; rfl
    · rw [if_neg h30,decide_eq_false h30]; rfl
  | false =>
    simp only [Bool.false_eq_true,if_false]
    cases h2:digitN c.toNat with
    | true =>
      simp only [if_true]
      simp only [loopN_s (n:=n),k_one_st,negN,cnd_false,toN,hc,bn_some,kl,kd,h1,h2,cnd_true]
      have hge:=spanE_ge (p:=digitN) (s:=s) (s.length - a) a
      have hle:=spanE_le (p:=digitN) (s:=s) (s.length - a) a (by omega)
      have hdig:=sl_digits (s:=s) (a:=a)
      have hloop:∀ k i n',i + k = s.length → a ≤ i → k + 1 + 20000 ≤ n' → ∃ n'',20000 ≤ n'' ∧ loopN (k_one_st (fns n) q) n' (.l0 s (Int.ofNat a) (Int.ofNat i) false) = cnd (decide (18 < spanE digitN s k i - a)) (q (zTok,0,Int.ofNat a,10)) (loopN (k_one_st (fns n) q) n'' (.l2 s (Int.ofNat (spanE digitN s k i)) (Int.ofNat a) (.agg [.int .i64 2,.str (sl s a (spanE digitN s k i)),.int .i64 0,.int .i64 (Int.ofNat a)]) 5)):=by
        intro k
        induction k with
        | zero =>
          intro i n' hi hai hn'
          obtain ⟨n',rfl,hp'⟩:=pos (show 20000 + 1 ≤ n' by omega)
          have:i = s.length:=by omega
          subst this
          obtain ⟨f1,f2,f3⟩:=fits s.length hai (Nat.le_refl _)
          refine ⟨n',by omega,?_⟩
          simp only [loopN_s,k_one_st,lt_no,cnd_false,zleN,leN,f1,f2,toN,Bool.and_self,an_true,f3,gtL,spanE]
          rfl
        | succ k ih =>
          intro i n' hi hai hn'
          obtain ⟨n',rfl,hp'⟩:=pos (show k + 1 + 20000 + 1 ≤ n' by omega)
          have hlt:i < s.length:=by omega
          have hci:s[i]? = some s[i]:=List.getElem?_eq_getElem hlt
          obtain ⟨f1,f2,f3⟩:=fits i hai (by omega)
          simp only [loopN_s,k_one_st,ltN,decide_eq_true hlt,cnd_true,negN,cnd_false,toN,hci,bn_some,kd,one_more (show i ≤ 200000 by omega),spanE]
          cases hd:digitN (s[i]).toNat with
          | true =>
            simp only [cnd_true,if_true]
            exact ih (i + 1) n' (by omega) (by omega) (by omega)
          | false =>
            refine ⟨n',by omega,?_⟩
            simp only [cnd_false,Bool.false_eq_true,if_false,zleN,leN,f1,f2,Bool.and_self,an_true,f3,gtL]
            rfl
      obtain ⟨n'',hn'',e1⟩:=hloop (s.length - a) a n (by omega) (Nat.le_refl _) (by omega)
      refine Eq.trans e1 ?_
      unfold numR
      try dsimp only
      generalize spanE digitN s (s.length - a) a = e at hge hle hdig ⊢
      by_cases h18:e - a > 18
      · rw [if_pos h18,decide_eq_true h18]; rfl
      · rw [if_neg h18,decide_eq_false h18,cnd_false]
        have:=knum_loop hs (n:=n) (q:=q) hle hge (by omega) hdig (e - a) a n'' 5 (by omega) (Nat.le_refl _) (by omega)
        rw [Nat.sub_self,List.take_zero] at this
        exact this
    | false =>
      simp only [Bool.false_eq_true,if_false]
      cases h3:c.toNat == 39 with
      | true =>
        simp only [if_true]
        simp only [loopN_s (n:=n),k_one_st,negN,cnd_false,toN,hc,bn_some,kl,kd,h1,h2,b39,h3,cnd_true,k_text_ hs (show 20100 ≤ n by omega) ha]
        have hk:∀ t e,textR s a = .tok t e → t = ⟨3,t.text,0,Int.ofNat a⟩:=by
          intro t e
          unfold textR
          have go:∀ k i acc,textGo s a k i acc = .tok t e → t = ⟨3,t.text,0,Int.ofNat a⟩:=by
            intro k
            induction k with
            | zero=>intro i acc h; cases h
            | succ k ih =>
              intro i acc h
              unfold textGo at h
              split at h
              · cases h
              · split at h
                · cases h
                · split at h
                  · exact ih _ _ h
                  · split at h
                    · exact ih _ _ h
                    · split at h
                      · cases h
                      · cases h; rfl
          exact go _ _ _
        cases ho:textR s a with
        | bad p=>simp only [textK,e10,cnd_true]; rfl
        | tok t e =>
          simp only [textK,e00,cnd_false]
          rw [hk t e ho]; rfl
      | false =>
        simp only [Bool.false_eq_true,if_false]
        simp only [loopN_s (n:=n),k_one_st,negN,cnd_false,toN,hc,bn_some,kl,kd,h1,h2,b39,h3,k_Marks_ (show 1 ≤ n by omega)]
        have hm:marks.length = 20:=rfl
        have:=kmark_loop hs (n:=n) (q:=q) ha marks 0 n rfl (by omega) (by omega)
        rw [markAt_eq] at this
        exact this
end
end Go.Proofs.YtfdcjngclelnhaaGreat
