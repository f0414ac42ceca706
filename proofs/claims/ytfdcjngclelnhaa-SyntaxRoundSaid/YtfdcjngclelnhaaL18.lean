/- Part of a proof. -/
import Derived.Test.YtfdcjngclelnhaaL15
import Derived.Test.YtfdcjngclelnhaaL14
set_option linter.unusedSectionVars false
set_option linter.unusedSimpArgs false
set_option linter.unusedVariables false
namespace Go.Proofs.Ytfdcjngclelnhaa
open Go
theorem geL (m k:Nat):decide (Int.ofNat m ≥ (no_index (OfNat.ofNat k):Int)) = decide (k ≤ m):=decide_eq_decide.2 (by show (Int.ofNat k ≤ Int.ofNat m) ↔ _; simp)
theorem gtL (m k:Nat):decide (Int.ofNat m > (no_index (OfNat.ofNat k):Int)) = decide (k < m):=decide_eq_decide.2 (by show (Int.ofNat k < Int.ofNat m) ↔ _; simp)
theorem leL (m k:Nat):decide (Int.ofNat m ≤ (no_index (OfNat.ofNat k):Int)) = decide (m ≤ k):=decide_eq_decide.2 (by show (Int.ofNat m ≤ Int.ofNat k) ↔ _; simp)
theorem ltL (m k:Nat):decide (Int.ofNat m < (no_index (OfNat.ofNat k):Int)) = decide (m < k):=decide_eq_decide.2 (by show (Int.ofNat m < Int.ofNat k) ↔ _; simp)
theorem beqL (m k:Nat):(Int.ofNat m == (no_index (OfNat.ofNat k):Int)) = (m == k):=by
  rw [Bool.eq_iff_iff,beq_iff_eq,beq_iff_eq]
  exact ⟨fun h=>Int.ofNat.inj h,fun h=>congrArg Int.ofNat h⟩
theorem bneL (m k:Nat):(Int.ofNat m != (no_index (OfNat.ofNat k):Int)) = (m != k):=by
  unfold bne; rw [beqL]
theorem ltN (m k:Nat):decide (Int.ofNat m < Int.ofNat k) = decide (m < k):=decide_eq_decide.2 (by simp)
theorem leN (m k:Nat):decide (Int.ofNat m ≤ Int.ofNat k) = decide (m ≤ k):=decide_eq_decide.2 (by simp)
theorem beqN (m k:Nat):(Int.ofNat m == Int.ofNat k) = (m == k):=by
  rw [Bool.eq_iff_iff,beq_iff_eq,beq_iff_eq]
  exact ⟨fun h=>Int.ofNat.inj h,fun h=>congrArg Int.ofNat h⟩
theorem negN (m:Nat):decide (Int.ofNat m < 0) = false:=by simp
theorem ltZ (m:Nat):decide (m < 0) = false:=by simp
theorem zleN (m:Nat):decide (0 ≤ Int.ofNat m) = true:=by simp
theorem toN (m:Nat):(Int.ofNat m).toNat = m:=rfl
theorem t_letter_ {n m:Nat} (hn:1 ≤ n):(fns n).t_letter (Int.ofNat m) = some (letterN m):=by
  obtain ⟨n,rfl,hp⟩:=pos hn
  refine rawN_eq enc20_inj fun q=>?_
  simp only [loopN_s,t_letter_st,geL,leL,beqL,letterN]
  cases decide (97 ≤ m) <;> cases decide (m ≤ 122) <;> cases decide (65 ≤ m) <;> cases decide (m ≤ 90) <;> rfl
theorem t_digit_ {n m:Nat} (hn:1 ≤ n):(fns n).t_digit (Int.ofNat m) = some (digitN m):=by
  obtain ⟨n,rfl,hp⟩:=pos hn
  refine rawN_eq enc20_inj fun q=>?_
  simp only [loopN_s,t_digit_st,geL,leL,digitN]
  cases decide (48 ≤ m) <;> rfl
theorem t_name1_ {n m:Nat} (hn:2 ≤ n):(fns n).t_name1 (Int.ofNat m) = some (nameN m):=by
  obtain ⟨n,rfl,hp⟩:=pos hn
  refine rawN_eq enc20_inj fun q=>?_
  simp only [loopN_s,t_name1_st,t_letter_ (show 1 ≤ n by omega),t_digit_ (show 1 ≤ n by omega),bn_some,nameN]
  cases letterN m <;> rfl
def gcT:List Tok → Nat → GC
  | [],_=>.n
  | t :: l,w=>.o ((t :: l).map Tok.d) w
def rd (s:List UInt8) (a:Nat) (T:List Tok) (v w:Nat):B47:=⟨s,Int.ofNat a,gcT T w,v⟩
theorem gcT_app {T:List Tok} {t:Tok} {w:Nat}:gcT (T ++ [t]) w = .o (T.map Tok.d ++ [t.d]) w:=by
  cases T with
  | nil=>rfl
  | cons x l=>show GC.o ((x :: (l ++ [t])).map Tok.d) w = _; simp
theorem t_put_ {n:Nat} (hn:1 ≤ n) {s:List UInt8} {a:Nat} {T:List Tok} {v w:Nat} {t:Tok} (hT:T.length < 6000):(fns n).t_put (rd s a T v w) t.d = some (0,rd s a (T ++ [t]) (v + 1) v):=by
  obtain ⟨n,rfl,hp⟩:=pos hn
  cases T with
  | nil =>
    refine rawN_eq enc23_inj fun q=>?_
    simp only [loopN_s,t_put_st,rd,G_ok okTok]
    rfl
  | cons x l =>
    refine rawN_eq enc23_inj fun q=>?_
    have e1:((l.length + 1) == 6000) = false:=by
      rw [List.length_cons] at hT
      cases h:(l.length + 1) == 6000 with
      | false=>rfl
      | true=>have:=eq_of_beq h; omega
    have e2:w.beq w = true:=Nat.beq_refl _
    have e3:∀ m:Nat,m.beq m = true:=Nat.beq_refl
    have e4:=room_ok (show (l.length + 1) + 1 ≤ 1000000 by rw [List.length_cons] at hT; omega) (show 40 ≤ 1000 by decide)
    have e5:sized 4 ((x :: l).map Tok.d) = true:=rfl
    have e6:((x :: l).map Tok.d).isEmpty = false:=rfl
    have e7:((x :: l).map Tok.d).length = l.length + 1:=by simp
    have e8:(((x :: l).map Tok.d) ++ [t.d]).length = l.length + 1 + 1:=by simp
    simp only [loopN_s,t_put_st,rd,gcT,e7,beqL,e1,cnd_false,e2,e3,an_true,e6,e5,e4,G_ok okTok,e8]
    show q (0,B47.mk s (Int.ofNat a) (GC.o (List.map Tok.d (x :: l) ++ [t.d]) v) (v + 1)) = q (0,B47.mk s (Int.ofNat a) (gcT ((x :: l) ++ [t]) v) (v + 1))
    rw [gcT_app]
theorem t_putF {n:Nat} (hn:1 ≤ n) {s:List UInt8} {a p:Nat} {T:List Tok} {v w:Nat} {t:Tok} (hT:T.length = 6000) (ht:t.at_ = Int.ofNat p):(fns n).t_put (rd s a T v w) t.d = some (8,rd s p T (v + 1) w):=by
  obtain ⟨n,rfl,hp⟩:=pos hn
  cases T with
  | nil=>simp at hT
  | cons x l =>
    refine rawN_eq enc23_inj fun q=>?_
    have e7:((x :: l).map Tok.d).length = 6000:=by rw [List.length_map]; exact hT
    have e1:(Int.ofNat 6000 == (6000:Int)) = true:=rfl
    simp only [loopN_s,t_put_st,rd,gcT,e7,e1,cnd_true,cTok3,ht]
theorem t_form_ {n:Nat} (hn:1 ≤ n) {s:List UInt8} {a p:Nat} {T:List Tok} {v w:Nat}:(fns n).t_form (rd s a T v w) (Int.ofNat p) = some (10,rd s p T (v + 1) w):=by
  obtain ⟨n,rfl,hp⟩:=pos hn
  cases T with
  | nil=>exact rawN_eq enc24_inj fun q=>rfl
  | cons x l=>exact rawN_eq enc24_inj fun q=>rfl
def outR (a:Nat) (T:List Tok):TR → Int × Nat × List Tok
  | .bad p=>(10,p,T)
  | .tok t e=>if T.length < 6000 then (0,e,T ++ [t]) else (8,a,T)
def ToldR (C:Option (Int × B47)) (s:List UInt8) (a:Nat) (T:List Tok) (o:TR):Prop:=∃ v' w',C = some ((outR a T o).1,rd s (outR a T o).2.1 (outR a T o).2.2 v' w')
theorem t_putR {n:Nat} (hn:1 ≤ n) {s:List UInt8} {a e:Nat} {T:List Tok} {v w:Nat} {t:Tok} (hT:T.length ≤ 6000) (ht:t.at_ = Int.ofNat a):ToldR ((fns n).t_put (rd s e T v w) t.d) s a T (.tok t e):=by
  have ho:outR a T (.tok t e) = if T.length < 6000 then (0,e,T ++ [t]) else (8,a,T):=rfl
  unfold ToldR
  rw [ho]
  by_cases h:T.length < 6000
  · rw [if_pos h]; exact ⟨_,_,t_put_ hn h⟩
  · rw [if_neg h]; exact ⟨_,_,t_putF hn (by omega) ht⟩
theorem rd_back {s:List UInt8} {a:Nat} {T:List Tok} {v w:Nat} {q:Int × B47 → Prop} {c:Int} :
    gcas (rd s a T v w).c2 (q (c,(⟨(rd s a T v w).c0,(rd s a T v w).c1,.n,(rd s a T v w).ver⟩:B47))) False (fun es u=>q (c,(⟨(rd s a T v w).c0,(rd s a T v w).c1,(.o es u),(rd s a T v w).ver⟩:B47))) = q (c,rd s a T v w):=by
  cases T <;> rfl
theorem told_last {C:Option (Int × B47)} {s:List UInt8} {a:Nat} {T:List Tok} {o:TR} (h:ToldR C s a T o):∃ v' w',∀ q:Int × B47 → Prop,
    (bn C fun x=>gcas x.2.c2 (q (x.1,(⟨x.2.c0,x.2.c1,.n,x.2.ver⟩:B47))) False fun es u=>q (x.1,(⟨x.2.c0,x.2.c1,(.o es u),x.2.ver⟩:B47))) = q ((outR a T o).1,rd s (outR a T o).2.1 (outR a T o).2.2 v' w'):=by
  obtain ⟨v',w',e⟩:=h
  exact ⟨v',w',fun q=>by rw [e,bn_some]; exact rd_back⟩
theorem run_loop {F:Nat → Int → Nat → Prop} {fin:Int → Nat → Prop} {is:Int → Option Bool} {p:Nat → Bool} {s:List UInt8} (hs:s.length ≤ 200000) (his:∀ m:Nat,is (Int.ofNat m) = some (p m))
    (hF:∀ n i ver,F (n + 1) i ver = cnd (decide (i < Int.ofNat s.length)) (cnd (decide (i < 0)) False (bn (s[i.toNat]?) fun x=>bn (is (Int.ofNat x.toNat)) fun b=>cnd b (F n (IntKind.i64.wrap (i + 1)) (ver + 1)) (fin i ver))) (fin i ver)) :
    ∀ k i n ver,i + k = s.length → k + 1 ≤ n → F n (Int.ofNat i) ver = fin (Int.ofNat (spanE p s k i)) (ver + (spanE p s k i - i)):=by
  intro k
  induction k with
  | zero =>
    intro i n ver hi hn
    obtain ⟨n,rfl,_⟩:=pos hn
    have e:decide (i < s.length) = false:=by simp <;> omega
    rw [hF,ltN,e,cnd_false]
    simp only [spanE,Nat.sub_self,Nat.add_zero]
  | succ k ih =>
    intro i n ver hi hn
    obtain ⟨n,rfl,hp⟩:=pos hn
    have hlt:i < s.length:=by omega
    have e:decide (i < s.length) = true:=by simpa using hlt
    rw [hF,ltN,e,cnd_true,negN,cnd_false,toN,List.getElem?_eq_getElem hlt,bn_some,his,bn_some,one_more (show i ≤ 200000 by omega)]
    cases hpc:p (s[i]).toNat with
    | true =>
      rw [cnd_true,ih (i + 1) n (ver + 1) (by omega) hp]
      have e2:spanE p s (k + 1) i = spanE p s k (i + 1):=by rw [spanE,List.getElem?_eq_getElem hlt]; simp only [hpc,if_true]
      have hge:=spanE_ge (p:=p) (s:=s) k (i + 1)
      rw [e2,show ver + 1 + (spanE p s k (i + 1) - (i + 1)) = ver + (spanE p s k (i + 1) - i) by omega]
    | false =>
      have e2:spanE p s (k + 1) i = i:=by rw [spanE,List.getElem?_eq_getElem hlt]; simp only [hpc,Bool.false_eq_true,if_false]
      rw [cnd_false,e2,Nat.sub_self,Nat.add_zero]
section
variable {s:List UInt8} (hs:s.length ≤ 20000) {n a:Nat} {T:List Tok} {v w:Nat}
include hs
theorem t_run_name_ (hn:20100 ≤ n) (ha:a ≤ s.length):(fns n).t_run_name (rd s a T v w) = some (sl s a (spanE nameN s (s.length - a) a),rd s (spanE nameN s (s.length - a) a) T (v + (spanE nameN s (s.length - a) a - a)) w):=by
  obtain ⟨n,rfl,hp⟩:=pos hn
  have hge:=spanE_ge (p:=nameN) (s:=s) (s.length - a) a
  have hle:=spanE_le (p:=nameN) (s:=s) (s.length - a) a ha
  have e1:=decide_eq_true hge
  have e2:=decide_eq_true hle
  cases T with
  | nil =>
    refine rawN_eq enc25_inj fun q=>?_
    show loopN (t_run_name_st (fns n) q) n (.l0 (Int.ofNat a) s (Int.ofNat a) v) = _
    rw [run_loop (F:=fun n' i ver=>loopN (t_run_name_st (fns n) q) n' (.l0 (Int.ofNat a) s i ver)) (p:=nameN) (s:=s) (by omega) (fun m=>t_name1_ (n:=n) (by omega)) (fun n' i ver=>rfl) (s.length - a) a n v (by omega) (by omega)]
    simp only [zleN,leN,toN,e1,e2,Bool.and_self,an_true]
    rfl
  | cons x l =>
    refine rawN_eq enc25_inj fun q=>?_
    show loopN (t_run_name_st (fns n) q) n (.l1 (Int.ofNat a) s (Int.ofNat a) w ((x :: l).map Tok.d) v) = _
    rw [run_loop (F:=fun n' i ver=>loopN (t_run_name_st (fns n) q) n' (.l1 (Int.ofNat a) s i w ((x :: l).map Tok.d) ver)) (p:=nameN) (s:=s) (by omega) (fun m=>t_name1_ (n:=n) (by omega)) (fun n' i ver=>rfl) (s.length - a) a n v (by omega) (by omega)]
    simp only [zleN,leN,toN,e1,e2,Bool.and_self,an_true]
    rfl
theorem t_run_digit_ (hn:20100 ≤ n) (ha:a ≤ s.length):(fns n).t_run_digit (rd s a T v w) = some (sl s a (spanE digitN s (s.length - a) a),rd s (spanE digitN s (s.length - a) a) T (v + (spanE digitN s (s.length - a) a - a)) w):=by
  obtain ⟨n,rfl,hp⟩:=pos hn
  have hge:=spanE_ge (p:=digitN) (s:=s) (s.length - a) a
  have hle:=spanE_le (p:=digitN) (s:=s) (s.length - a) a ha
  have e1:=decide_eq_true hge
  have e2:=decide_eq_true hle
  cases T with
  | nil =>
    refine rawN_eq enc25_inj fun q=>?_
    show loopN (t_run_digit_st (fns n) q) n (.l0 (Int.ofNat a) s (Int.ofNat a) v) = _
    rw [run_loop (F:=fun n' i ver=>loopN (t_run_digit_st (fns n) q) n' (.l0 (Int.ofNat a) s i ver)) (p:=digitN) (s:=s) (by omega) (fun m=>t_digit_ (n:=n) (by omega)) (fun n' i ver=>rfl) (s.length - a) a n v (by omega) (by omega)]
    simp only [zleN,leN,toN,e1,e2,Bool.and_self,an_true]
    rfl
  | cons x l =>
    refine rawN_eq enc25_inj fun q=>?_
    show loopN (t_run_digit_st (fns n) q) n (.l1 (Int.ofNat a) s (Int.ofNat a) w ((x :: l).map Tok.d) v) = _
    rw [run_loop (F:=fun n' i ver=>loopN (t_run_digit_st (fns n) q) n' (.l1 (Int.ofNat a) s i w ((x :: l).map Tok.d) ver)) (p:=digitN) (s:=s) (by omega) (fun m=>t_digit_ (n:=n) (by omega)) (fun n' i ver=>rfl) (s.length - a) a n v (by omega) (by omega)]
    simp only [zleN,leN,toN,e1,e2,Bool.and_self,an_true]
    rfl
theorem t_name_ (hn:20101 ≤ n) (ha:a ≤ s.length) (hT:T.length ≤ 6000):ToldR ((fns n).t_name (rd s a T v w)) s a T (nameR s a):=by
  obtain ⟨n,rfl,hp⟩:=pos hn
  have hrun:=t_run_name_ hs (n:=n) (T:=T) (v:=v) (w:=w) hp ha
  have hlen:=sl_len (spanE_ge (p:=nameN) (s:=s) (s.length - a) a) (spanE_le (p:=nameN) (s:=s) (s.length - a) a ha)
  unfold nameR
  dsimp only
  generalize spanE nameN s (s.length - a) a = e at hrun hlen ⊢
  by_cases h30:e - a > 30
  · rw [if_pos h30]
    have hf:=t_form_ (n:=n) (by omega) (s:=s) (a:=e) (p:=a) (T:=T) (v:=v + (e - a)) (w:=w)
    have hd:decide (30 < (sl s a e).length) = true:=by rw [hlen]; exact decide_eq_true h30
    obtain ⟨v',w',hl⟩:=told_last (o:=.bad a) (a:=a) (T:=T) ⟨_,_,hf⟩
    refine ⟨v',w',?_⟩
    cases T with
    | nil =>
      refine rawN_eq enc22_inj fun q=>?_
      rw [← hl q]
      show bn ((fns n).t_run_name (rd s a [] v w)) _ = _
      rw [hrun,bn_some]
      show cnd (decide (Int.ofNat (sl s a e).length > 30)) _ _ = _
      rw [gtL,hd,cnd_true]
      rfl
    | cons x l =>
      refine rawN_eq enc22_inj fun q=>?_
      rw [← hl q]
      show bn ((fns n).t_run_name (rd s a (x :: l) v w)) _ = _
      rw [hrun,bn_some]
      show cnd (decide (Int.ofNat (sl s a e).length > 30)) _ _ = _
      rw [gtL,hd,cnd_true]
      rfl
  · rw [if_neg h30]
    have hd:decide (30 < (sl s a e).length) = false:=by rw [hlen]; exact decide_eq_false h30
    obtain ⟨v',w',hl⟩:=told_last (t_putR (n:=n) (by omega) (s:=s) (a:=a) (e:=e) (v:=v + (e - a)) (w:=w) (t:=⟨1,sl s a e,0,Int.ofNat a⟩) hT rfl)
    refine ⟨v',w',?_⟩
    cases T with
    | nil =>
      refine rawN_eq enc22_inj fun q=>?_
      rw [← hl q]
      show bn ((fns n).t_run_name (rd s a [] v w)) _ = _
      rw [hrun,bn_some]
      show cnd (decide (Int.ofNat (sl s a e).length > 30)) _ _ = _
      rw [gtL,hd,cnd_false]
      rfl
    | cons x l =>
      refine rawN_eq enc22_inj fun q=>?_
      rw [← hl q]
      show bn ((fns n).t_run_name (rd s a (x :: l) v w)) _ = _
      rw [hrun,bn_some]
      show cnd (decide (Int.ofNat (sl s a e).length > 30)) _ _ = _
      rw [gtL,hd,cnd_false]
      rfl
end
theorem decN_succ (l:List UInt8) (i:Nat) (h:i < l.length):decN (l.take (i + 1)) = 10 * decN (l.take i) + (l[i].toNat - 48):=by
  unfold decN
  rw [List.take_add_one,List.getElem?_eq_getElem h,Option.toList_some,List.foldl_append,List.foldl_cons,List.foldl_nil]
theorem decN_lt (l:List UInt8) (hd:∀ c ∈ l,digitN c.toNat = true):∀ i:Nat,i ≤ l.length → decN (l.take i) < 10 ^ i
  | 0,_=>by simp [decN]
  | i + 1,h=>by
    have ih:=decN_lt l hd i (by omega)
    have hc:=hd l[i] (List.getElem_mem _)
    simp only [digitN,Bool.and_eq_true,decide_eq_true_eq] at hc
    rw [decN_succ l i h,Nat.pow_succ]
    omega
theorem dec_small {l:List UInt8} (hd:∀ c ∈ l,digitN c.toNat = true) (hl:l.length ≤ 18) {i:Nat} (hi:i ≤ l.length):decN (l.take i) < 1000000000000000000:=by
  have h1:=decN_lt l hd i hi
  have h2:10 ^ i ≤ 10 ^ 18:=Nat.pow_le_pow_right (by decide) (by omega)
  exact Nat.lt_of_lt_of_le h1 h2
theorem u8_small {n:Nat} (h:n < 256):IntKind.u8.wrap (Int.ofNat n) = Int.ofNat n:=by
  simp only [IntKind.wrap,IntKind.bits,IntKind.signed]
  simp
  omega
theorem num_loop {F:Nat → Int → Int → Prop} {fin:Int → Prop} {t:List UInt8} (hd:∀ c ∈ t,digitN c.toNat = true) (hl:t.length ≤ 18)
    (hF:∀ n y i,F (n + 1) y i = cnd (decide (i < Int.ofNat t.length)) (cnd (decide (i < 0)) False (bn (t[i.toNat]?) fun x=>F n (IntKind.i64.wrap (IntKind.i64.wrap (10 * y) + IntKind.i64.wrap (IntKind.u8.wrap (Int.ofNat x.toNat - 48)))) (IntKind.i64.wrap (i + 1)))) (fin y)) :
    ∀ k i n,i + k = t.length → k + 1 ≤ n → F n (Int.ofNat (decN (t.take i))) (Int.ofNat i) = fin (Int.ofNat (decN t)):=by
  intro k
  induction k with
  | zero =>
    intro i n hi hn
    obtain ⟨n,rfl,_⟩:=pos hn
    have e:decide (i < t.length) = false:=by simp <;> omega
    rw [hF,ltN,e,cnd_false,List.take_of_length_le (by omega)]
  | succ k ih =>
    intro i n hi hn
    obtain ⟨n,rfl,hp⟩:=pos hn
    have hlt:i < t.length:=by omega
    have e:decide (i < t.length) = true:=by simpa using hlt
    have hc:=hd t[i] (List.getElem_mem _)
    simp only [digitN,Bool.and_eq_true,decide_eq_true_eq] at hc
    have hb:=dec_small hd hl (show i ≤ t.length by omega)
    have hb2:=dec_small hd hl (show i + 1 ≤ t.length by omega)
    have hsucc:=decN_succ t i hlt
    have e1:IntKind.u8.wrap (Int.ofNat (t[i]).toNat - 48) = Int.ofNat ((t[i]).toNat - 48):=by
      rw [show Int.ofNat (t[i]).toNat - 48 = Int.ofNat ((t[i]).toNat - 48) by simp <;> omega]
      exact u8_small (by omega)
    have e2:IntKind.i64.wrap (Int.ofNat ((t[i]).toNat - 48)) = Int.ofNat ((t[i]).toNat - 48):=i64_small (by simp <;> omega) (by simp <;> omega)
    have e3:IntKind.i64.wrap (10 * Int.ofNat (decN (t.take i))) = Int.ofNat (10 * decN (t.take i)):=by rw [i64_small (by simp <;> omega) (by simp <;> omega)]; simp
    have e4:IntKind.i64.wrap (Int.ofNat (10 * decN (t.take i)) + Int.ofNat ((t[i]).toNat - 48)) = Int.ofNat (decN (t.take (i + 1))):=by
      rw [i64_small (by simp <;> omega) (by simp <;> omega)]; simp <;> omega
    rw [hF,ltN,e,cnd_true,negN,cnd_false,toN,List.getElem?_eq_getElem hlt,bn_some,e1,e2,e3,e4,one_more (show i ≤ 200000 by omega)]
    exact ih (i + 1) n (by omega) hp
theorem sl_digits {s:List UInt8} {a:Nat}:∀ c ∈ sl s a (spanE digitN s (s.length - a) a),digitN c.toNat = true:=fun c hc=>by
  obtain ⟨i,hi⟩:=List.getElem?_of_mem hc
  have hlt:i < spanE digitN s (s.length - a) a - a:=by
    have:=(List.getElem?_eq_some_iff.1 hi).1
    unfold sl at this
    simp at this
    omega
  rw [sl_get hlt] at hi
  obtain ⟨c',h1,h2⟩:=spanE_all (p:=digitN) (s:=s) (s.length - a) a (a + i) (by omega) (by omega)
  rw [hi] at h1
  cases h1
  exact h2
theorem t_number_ {s:List UInt8} (hs:s.length ≤ 20000) {n a:Nat} {T:List Tok} {v w:Nat} (hn:20101 ≤ n) (ha:a ≤ s.length) (hT:T.length ≤ 6000):ToldR ((fns n).t_number (rd s a T v w)) s a T (numR s a):=by
  obtain ⟨n,rfl,hp⟩:=pos hn
  have hrun:=t_run_digit_ hs (n:=n) (T:=T) (v:=v) (w:=w) hp ha
  have hlen:=sl_len (spanE_ge (p:=digitN) (s:=s) (s.length - a) a) (spanE_le (p:=digitN) (s:=s) (s.length - a) a ha)
  have hdig:=sl_digits (s:=s) (a:=a)
  unfold numR
  dsimp only
  generalize spanE digitN s (s.length - a) a = e at hrun hlen hdig ⊢
  by_cases h18:e - a > 18
  · rw [if_pos h18]
    have hf:=t_form_ (n:=n) (by omega) (s:=s) (a:=e) (p:=a) (T:=T) (v:=v + (e - a)) (w:=w)
    have hd:decide (18 < (sl s a e).length) = true:=by rw [hlen]; exact decide_eq_true h18
    obtain ⟨v',w',hl⟩:=told_last (o:=.bad a) (a:=a) (T:=T) ⟨_,_,hf⟩
    refine ⟨v',w',?_⟩
    cases T with
    | nil =>
      refine rawN_eq enc22_inj fun q=>?_
      rw [← hl q]
      show bn ((fns n).t_run_digit (rd s a [] v w)) _ = _
      rw [hrun,bn_some]
      show cnd (decide (Int.ofNat (sl s a e).length > 18)) _ _ = _
      rw [gtL,hd,cnd_true]
      rfl
    | cons x l =>
      refine rawN_eq enc22_inj fun q=>?_
      rw [← hl q]
      show bn ((fns n).t_run_digit (rd s a (x :: l) v w)) _ = _
      rw [hrun,bn_some]
      show cnd (decide (Int.ofNat (sl s a e).length > 18)) _ _ = _
      rw [gtL,hd,cnd_true]
      rfl
  · rw [if_neg h18]
    have hd:decide (18 < (sl s a e).length) = false:=by rw [hlen]; exact decide_eq_false h18
    obtain ⟨v',w',hl⟩:=told_last (t_putR (n:=n) (by omega) (s:=s) (a:=a) (e:=e) (v:=v + (e - a)) (w:=w) (t:=⟨2,sl s a e,Int.ofNat (decN (sl s a e)),Int.ofNat a⟩) hT rfl)
    refine ⟨v',w',?_⟩
    cases T with
    | nil =>
      refine rawN_eq enc22_inj fun q=>?_
      rw [← hl q]
      show bn ((fns n).t_run_digit (rd s a [] v w)) _ = _
      rw [hrun,bn_some]
      show cnd (decide (Int.ofNat (sl s a e).length > 18)) _ _ = _
      rw [gtL,hd,cnd_false]
      exact num_loop (F:=fun n' y i=>loopN (t_number_st (fns n) q) n' (.l0 (Int.ofNat a) (sl s a e) y (Int.ofNat (sl s a e).length) i s (Int.ofNat e) (v + (e - a)))) (t:=sl s a e) hdig (by omega) (fun n' y i=>rfl) (sl s a e).length 0 n (by omega) (by omega)
    | cons x l =>
      refine rawN_eq enc22_inj fun q=>?_
      rw [← hl q]
      show bn ((fns n).t_run_digit (rd s a (x :: l) v w)) _ = _
      rw [hrun,bn_some]
      show cnd (decide (Int.ofNat (sl s a e).length > 18)) _ _ = _
      rw [gtL,hd,cnd_false]
      exact num_loop (F:=fun n' y i=>loopN (t_number_st (fns n) q) n' (.l1 (Int.ofNat a) (sl s a e) y (Int.ofNat (sl s a e).length) i s (Int.ofNat e) w ((x :: l).map Tok.d) (v + (e - a)))) (t:=sl s a e) hdig (by omega) (fun n' y i=>rfl) (sl s a e).length 0 n (by omega) (by omega)
end Go.Proofs.Ytfdcjngclelnhaa
namespace Go.Proofs.Ytfdcjngclelnhaa
open Go
set_option maxRecDepth 100000
theorem prefix_eq {x y:List UInt8}:y.isPrefixOf x = (decide (y.length ≤ x.length) && (x.take y.length == y)):=by
  rw [Bool.eq_iff_iff,List.isPrefixOf_iff_prefix,Bool.and_eq_true,decide_eq_true_eq,beq_iff_eq,List.prefix_iff_eq_take]
  constructor
  · intro h
    have h2:(x.take y.length) = y:=h.symm
    refine ⟨?_,h2⟩
    have:=congrArg List.length h2
    simp at this
    omega
  · exact fun h=>h.2.symm
theorem g_HasPrefix_ {n:Nat} (hn:2 ≤ n) {x y:List UInt8}:(fns n).g_HasPrefix x y = some (y.isPrefixOf x):=by
  obtain ⟨n,rfl,hp⟩:=pos hn
  obtain ⟨n,rfl,hp2⟩:=pos hp
  have h1:(fns (n + 1)).g_sHasPrefix x y = some (y.isPrefixOf x):=by
    refine rawN_eq enc27_inj fun q=>?_
    have e:decide (Int.ofNat x.length ≥ Int.ofNat y.length) = decide (y.length ≤ x.length):=leN _ _
    simp only [loopN_s,g_sHasPrefix_st,e,zleN,leN,toN,Nat.sub_zero,List.drop_zero,Bool.true_and,prefix_eq]
    cases decide (y.length ≤ x.length) <;> rfl
  refine rawN_eq enc27_inj fun q=>?_
  simp only [loopN_s,g_HasPrefix_st,h1,bn_some]
theorem g_IndexByte_ {n:Nat} (hn:3 ≤ n) {x:List UInt8} {c:Int}:(fns n).g_IndexByte x c = some (idxByte c.toNat.toUInt8 x 0):=by
  obtain ⟨n,rfl,hp⟩:=pos hn
  obtain ⟨n,rfl,hp2⟩:=pos hp
  obtain ⟨n,rfl,hp3⟩:=pos hp2
  have h0:(fns (n + 1)).g_IBS x c = some (idxByte c.toNat.toUInt8 x 0):=rfl
  have h1:(fns (n + 1 + 1)).g_sIndexByte x c = some (idxByte c.toNat.toUInt8 x 0):=by
    refine rawN_eq enc28_inj fun q=>?_
    simp only [loopN_s,g_sIndexByte_st,h0,bn_some]
  refine rawN_eq enc28_inj fun q=>?_
  simp only [loopN_s,g_IndexByte_st,h1,bn_some]
theorem byte_back (c:UInt8):(c.toNat).toUInt8 = c:=UInt8.ofNat_toNat
theorem byte_eq {c:UInt8} {k:Nat} (hk:k < 256):(c == UInt8.ofNat k) = (c.toNat == k):=by
  rw [Bool.eq_iff_iff,beq_iff_eq,beq_iff_eq]
  constructor
  · rintro rfl; simp; omega
  · intro h; rw [← h]; exact UInt8.ofNat_toNat.symm
theorem byte_eq' {c:UInt8} {k:Nat} (hk:k < 256):(UInt8.ofNat k == c) = (c.toNat == k):=by
  rw [← byte_eq hk,Bool.eq_iff_iff,beq_iff_eq,beq_iff_eq]; exact eq_comm
theorem blank_idx {c:UInt8}:decide (idxByte c [32,9,10,13] 0 ≥ 0) = blankN c.toNat:=by
  have h1:((32:UInt8) == c) = (c.toNat == 32):=byte_eq' (by decide)
  have h2:((9:UInt8) == c) = (c.toNat == 9):=byte_eq' (by decide)
  have h3:((10:UInt8) == c) = (c.toNat == 10):=byte_eq' (by decide)
  have h4:((13:UInt8) == c) = (c.toNat == 13):=byte_eq' (by decide)
  unfold blankN
  simp only [idxByte,h1,h2,h3,h4]
  cases c.toNat == 32 <;> cases c.toNat == 9 <;> cases c.toNat == 10 <;> cases c.toNat == 13 <;> rfl
theorem nl_idx {s:List UInt8}:∀ k i m,i + k = s.length → idxByte 10 (s.drop i) m = if spanE (fun n=>n != 10) s k i < s.length then Int.ofNat (m + (spanE (fun n=>n != 10) s k i - i)) else -1
  | 0,i,m,h=>by
    rw [List.drop_of_length_le (by omega),spanE,if_neg (by omega)]; rfl
  | k + 1,i,m,h=>by
    have hi:i < s.length:=by omega
    have hb:(s[i] == 10) = ((s[i]).toNat == 10):=byte_eq (by decide)
    rw [List.drop_eq_getElem_cons hi,idxByte,spanE,List.getElem?_eq_getElem hi,hb]
    dsimp only
    cases hc:(s[i]).toNat == 10 with
    | true =>
      have:((s[i]).toNat != 10) = false:=by unfold bne; rw [hc]; rfl
      simp only [this,if_true,Bool.false_eq_true,if_false]
      rw [if_pos hi,Nat.sub_self,Nat.add_zero]; rfl
    | false =>
      have:((s[i]).toNat != 10) = true:=by unfold bne; rw [hc]; rfl
      simp only [this,if_true,Bool.false_eq_true,if_false]
      rw [nl_idx k (i + 1) (m + 1) (by omega)]
      have hge:=spanE_ge (p:=fun n=>n != 10) (s:=s) k (i + 1)
      by_cases hlt:spanE (fun n=>n != 10) s k (i + 1) < s.length
      · rw [if_pos hlt,if_pos hlt]
        congr 1
        omega
      · rw [if_neg hlt,if_neg hlt]
theorem drop_take {s:List UInt8} {a:Nat}:List.take (s.length - a) (List.drop a s) = s.drop a:=List.take_of_length_le (by simp)
theorem two_at {s:List UInt8} {i:Nat} {c x y:UInt8} (hc:s[i]? = some c):[x,y].isPrefixOf (s.drop i) = (c == x && s[i + 1]? == some y):=by
  have hi:i < s.length:=by
    rcases Nat.lt_or_ge i s.length with h | h
    · exact h
    · rw [List.getElem?_eq_none h] at hc; cases hc
  have hci:s[i] = c:=by rw [List.getElem?_eq_getElem hi] at hc; exact Option.some.inj hc
  rw [List.drop_eq_getElem_cons hi,hci]
  have e1:(x == c) = (c == x):=by rw [Bool.eq_iff_iff,beq_iff_eq,beq_iff_eq]; exact eq_comm
  rcases Nat.lt_or_ge (i + 1) s.length with h | h
  · have e2:(y == s[i + 1]) = (s[i + 1]? == some y):=by
      rw [List.getElem?_eq_getElem h,Bool.eq_iff_iff,beq_iff_eq,beq_iff_eq]
      exact ⟨fun h=>congrArg some h.symm,fun h=>(Option.some.inj h).symm⟩
    rw [List.drop_eq_getElem_cons h]
    simp only [List.isPrefixOf,e1,e2,Bool.and_true]
  · rw [List.drop_of_length_le h,List.getElem?_eq_none h]
    simp [List.isPrefixOf]
section
variable {s:List UInt8} (hs:s.length ≤ 20000) {n a:Nat} {T:List Tok} {v w:Nat}
include hs
theorem pass_step {n i k ver:Nat} (hn:3 ≤ n) (hi:i ≤ s.length) (hk:s.length - i ≤ k) {L J:Int → Nat → Prop} {E:Int → Nat → Prop} :
    cnd (decide (Int.ofNat i < Int.ofNat s.length)) (cnd (decide (Int.ofNat i < 0)) False (bn (s[(Int.ofNat i).toNat]?) fun x12=>bn ((fns n).g_IndexByte [32,9,10,13] (Int.ofNat x12.toNat)) fun x13=>cnd (decide (x13 ≥ 0)) (L (IntKind.i64.wrap (Int.ofNat i + 1)) (ver + 1)) (an (decide (0 ≤ Int.ofNat i) && decide (Int.ofNat i ≤ Int.ofNat s.length)) (bn ((fns n).g_HasPrefix (List.take (s.length - (Int.ofNat i).toNat) (List.drop (Int.ofNat i).toNat s)) [45,45]) fun x14=>cnd (!x14) (E (Int.ofNat i) ver) (an (decide (0 ≤ Int.ofNat i) && decide (Int.ofNat i ≤ Int.ofNat s.length)) (bn ((fns n).g_IndexByte (List.take (s.length - (Int.ofNat i).toNat) (List.drop (Int.ofNat i).toNat s)) 10) fun x15=>cnd (decide (x15 ≥ 0)) (J (IntKind.i64.wrap (Int.ofNat i + x15)) (ver + 1)) (E (Int.ofNat s.length) (ver + 1)))))))) (an (decide (0 ≤ Int.ofNat i) && decide (Int.ofNat i ≤ Int.ofNat s.length)) (bn ((fns n).g_HasPrefix (List.take (s.length - (Int.ofNat i).toNat) (List.drop (Int.ofNat i).toNat s)) [45,45]) fun x16=>cnd (!x16) (E (Int.ofNat i) ver) (an (decide (0 ≤ Int.ofNat i) && decide (Int.ofNat i ≤ Int.ofNat s.length)) (bn ((fns n).g_IndexByte (List.take (s.length - (Int.ofNat i).toNat) (List.drop (Int.ofNat i).toNat s)) 10) fun x17=>cnd (decide (x17 ≥ 0)) (J (IntKind.i64.wrap (Int.ofNat i + x17)) (ver + 1)) (E (Int.ofNat s.length) (ver + 1)))))) =
    match s[i]? with
    | none=>E (Int.ofNat i) ver
    | some c=>if blankN c.toNat then L (Int.ofNat (i + 1)) (ver + 1) else if c.toNat == 45 && s[i + 1]? == some 45 then (if nlE s i < s.length then J (Int.ofNat (nlE s i)) (ver + 1) else E (Int.ofNat s.length) (ver + 1)) else E (Int.ofNat i) ver:=by
  have hle:=decide_eq_true hi
  simp only [zleN,leN,hle,Bool.and_self,an_true,toN,drop_take,g_HasPrefix_ (show 2 ≤ n by omega),g_IndexByte_ hn,bn_some,ltN,negN,cnd_false]
  rcases Nat.lt_or_ge i s.length with h | h
  · have hc:s[i]? = some s[i]:=List.getElem?_eq_getElem h
    have e10:(10:Int).toNat.toUInt8 = 10:=rfl
    simp only [decide_eq_true h,cnd_true,hc,bn_some,two_at hc,toN,byte_back,blank_idx,e10,nl_idx (s:=s) (s.length - i) i 0 (by omega),one_more (show i ≤ 200000 by omega)]
    have hb:(s[i] == 45) = ((s[i]).toNat == 45):=byte_eq (by decide)
    rw [hb]
    have hge:=spanE_ge (p:=fun n=>n != 10) (s:=s) (s.length - i) i
    have hsl:=spanE_le (p:=fun n=>n != 10) (s:=s) (s.length - i) i hi
    cases blankN (s[i]).toNat with
    | true=>rfl
    | false =>
      simp only [cnd_false,Bool.false_eq_true,if_false]
      cases ((s[i]).toNat == 45 && s[i + 1]? == some 45) with
      | false=>rfl
      | true =>
        simp only [Bool.not_true,cnd_false,if_true]
        by_cases hlt:nlE s i < s.length
        · have hlt':spanE (fun n=>n != 10) s (s.length - i) i < s.length:=hlt
          have e1:decide (Int.ofNat (0 + (spanE (fun n=>n != 10) s (s.length - i) i - i)) ≥ 0) = true:=zleN _
          have e2:IntKind.i64.wrap (Int.ofNat i + Int.ofNat (0 + (spanE (fun n=>n != 10) s (s.length - i) i - i))) = Int.ofNat (spanE (fun n=>n != 10) s (s.length - i) i):=by
            rw [i64_small (by simp <;> omega) (by simp <;> omega)]; simp <;> omega
          rw [if_pos hlt,if_pos hlt',e1,cnd_true,e2]
          rfl
        · have hlt':¬ spanE (fun n=>n != 10) s (s.length - i) i < s.length:=hlt
          have e1:decide ((-1:Int) ≥ 0) = false:=rfl
          rw [if_neg hlt,if_neg hlt',e1,cnd_false]
  · have hc:s[i]? = none:=List.getElem?_eq_none h
    have e:decide (i < s.length) = false:=by simpa using h
    have e2:[45,45].isPrefixOf (s.drop i) = false:=by rw [List.drop_of_length_le h]; rfl
    simp only [e,cnd_false,e2,Bool.not_false,cnd_true,hc]
theorem passE_end {i:Nat} (h:s.length ≤ i):∀ k,passE s k i = i
  | 0=>rfl
  | k + 1=>by rw [passE,List.getElem?_eq_none h]
theorem pass_loop {n:Nat} (hn:3 ≤ n) {Q:Type} {L J:Q → Nat → Int → Nat → Prop} {E:Q → Int → Nat → Prop} (hJ:∀ q n' i ver,J q (n' + 1) i ver = L q n' i ver)
    (hL:∀ q n' i ver,L q (n' + 1) i ver = cnd (decide (i < Int.ofNat s.length)) (cnd (decide (i < 0)) False (bn (s[i.toNat]?) fun x12=>bn ((fns n).g_IndexByte [32,9,10,13] (Int.ofNat x12.toNat)) fun x13=>cnd (decide (x13 ≥ 0)) (L q n' (IntKind.i64.wrap (i + 1)) (ver + 1)) (an (decide (0 ≤ i) && decide (i ≤ Int.ofNat s.length)) (bn ((fns n).g_HasPrefix (List.take (s.length - i.toNat) (List.drop i.toNat s)) [45,45]) fun x14=>cnd (!x14) (E q i ver) (an (decide (0 ≤ i) && decide (i ≤ Int.ofNat s.length)) (bn ((fns n).g_IndexByte (List.take (s.length - i.toNat) (List.drop i.toNat s)) 10) fun x15=>cnd (decide (x15 ≥ 0)) (J q n' (IntKind.i64.wrap (i + x15)) (ver + 1)) (E q (Int.ofNat s.length) (ver + 1)))))))) (an (decide (0 ≤ i) && decide (i ≤ Int.ofNat s.length)) (bn ((fns n).g_HasPrefix (List.take (s.length - i.toNat) (List.drop i.toNat s)) [45,45]) fun x16=>cnd (!x16) (E q i ver) (an (decide (0 ≤ i) && decide (i ≤ Int.ofNat s.length)) (bn ((fns n).g_IndexByte (List.take (s.length - i.toNat) (List.drop i.toNat s)) 10) fun x17=>cnd (decide (x17 ≥ 0)) (J q n' (IntKind.i64.wrap (i + x17)) (ver + 1)) (E q (Int.ofNat s.length) (ver + 1))))))) :
    ∀ m i k n' ver,s.length - i ≤ m → s.length - i ≤ k → i ≤ s.length → 2 * m + 1 ≤ n' → ∃ dv,∀ q,L q n' (Int.ofNat i) ver = E q (Int.ofNat (passE s k i)) (ver + dv):=by
  intro m
  induction m with
  | zero =>
    intro i k n' ver hm hk hi hn'
    obtain ⟨n',rfl,_⟩:=pos (show 0 + 1 ≤ n' by omega)
    have hge:s.length ≤ i:=by omega
    refine ⟨0,fun q=>?_⟩
    rw [hL,pass_step hs hn hi hk,List.getElem?_eq_none hge,passE_end hs hge]
    rfl
  | succ m ih =>
    intro i k n' ver hm hk hi hn'
    obtain ⟨n',rfl,hp⟩:=pos (show 0 + 1 ≤ n' by omega)
    rcases Nat.lt_or_ge i s.length with h | h
    · obtain ⟨k,rfl⟩:∃ z,k = z + 1:=⟨k - 1,by omega⟩
      have hc:s[i]? = some s[i]:=List.getElem?_eq_getElem h
      have hstep:∀ q,L q (n' + 1) (Int.ofNat i) ver = _:=fun q=>(hL q n' (Int.ofNat i) ver).trans (pass_step hs hn hi hk)
      simp only [hstep]
      rw [passE,hc]
      dsimp only
      cases hb:blankN (s[i]).toNat with
      | true =>
        simp only [if_true]
        obtain ⟨dv,e⟩:=ih (i + 1) k n' (ver + 1) (by omega) (by omega) (by omega) (by omega)
        exact ⟨1 + dv,fun q=>by rw [e,Nat.add_assoc]⟩
      | false =>
        simp only [Bool.false_eq_true,if_false]
        cases h2:((s[i]).toNat == 45 && s[i + 1]? == some 45) with
        | false =>
          simp only [Bool.false_eq_true,if_false]
          exact ⟨0,fun q=>rfl⟩
        | true =>
          simp only [if_true]
          have hge:i + 1 ≤ nlE s i:=by
            unfold nlE
            rw [show s.length - i = (s.length - i - 1) + 1 by omega,spanE,hc]
            have:(s[i]).toNat = 45:=eq_of_beq (Bool.and_eq_true_iff.1 h2).1
            simp only [this,bne,show ((45:Nat) == 10) = false from rfl,Bool.not_false,if_true]
            exact spanE_ge _ _
          have hle:nlE s i ≤ s.length:=spanE_le _ _ hi
          by_cases hlt:nlE s i < s.length
          · simp only [if_pos hlt]
            obtain ⟨n',rfl,hp⟩:=pos (show 0 + 1 ≤ n' by omega)
            simp only [hJ]
            obtain ⟨dv,e⟩:=ih (nlE s i) k n' (ver + 1) (by omega) (by omega) hle (by omega)
            exact ⟨1 + dv,fun q=>by rw [e,Nat.add_assoc]⟩
          · simp only [if_neg hlt]
            have:nlE s i = s.length:=by omega
            rw [this,passE_end hs (Nat.le_refl _)]
            exact ⟨1,fun q=>rfl⟩
    · refine ⟨0,fun q=>?_⟩
      rw [hL,pass_step hs hn hi hk,List.getElem?_eq_none h,passE_end hs h]
      rfl
end
end Go.Proofs.Ytfdcjngclelnhaa
namespace Go.Proofs.Ytfdcjngclelnhaa
open Go
set_option maxRecDepth 100000
set_option maxHeartbeats 1000000
def chainC (m:Nat) (X Y:Prop):List Nat → Prop
  | []=>Y
  | k :: r=>cnd (m == k) X (chainC m X Y r)
theorem chainC_eq {m:Nat} {X Y:Prop}:∀ l,chainC m X Y l = if l.contains m then X else Y
  | []=>rfl
  | k :: r=>by
    rw [chainC,chainC_eq r,List.contains_cons]
    cases m == k <;> rfl
def setL:List Nat:=[40,41,44,59,46,42,43,45,47,37,61,123,125,58]
theorem set_eq {c:UInt8}:setL.contains c.toNat = setB c:=by
  unfold setB setL
  simp only [List.contains_cons,List.contains_nil,show (c == 40) = (c.toNat == 40) from byte_eq (by decide),show (c == 41) = (c.toNat == 41) from byte_eq (by decide),show (c == 44) = (c.toNat == 44) from byte_eq (by decide),show (c == 59) = (c.toNat == 59) from byte_eq (by decide),show (c == 46) = (c.toNat == 46) from byte_eq (by decide),show (c == 42) = (c.toNat == 42) from byte_eq (by decide),show (c == 43) = (c.toNat == 43) from byte_eq (by decide),show (c == 45) = (c.toNat == 45) from byte_eq (by decide),show (c == 47) = (c.toNat == 47) from byte_eq (by decide),show (c == 37) = (c.toNat == 37) from byte_eq (by decide),show (c == 61) = (c.toNat == 61) from byte_eq (by decide),show (c == 123) = (c.toNat == 123) from byte_eq (by decide),show (c == 125) = (c.toNat == 125) from byte_eq (by decide),show (c == 58) = (c.toNat == 58) from byte_eq (by decide)]
section
variable {s:List UInt8} (hs:s.length ≤ 20000) {n a:Nat} {T:List Tok} {v w:Nat}
include hs
theorem t_pass_ (hn:40200 ≤ n) (ha:a ≤ s.length):∃ v',(fns n).t_pass (rd s a T v w) = some (rd s (passE s (s.length - a) a) T v' w):=by
  obtain ⟨n,rfl,hp⟩:=pos hn
  cases T with
  | nil =>
    obtain ⟨dv,e⟩:=pass_loop hs (n:=n) (by omega) (Q:=B47 → Prop) (L:=fun q n' i ver=>loopN (t_pass_st (fns n) q) n' (.l2 s i ver)) (J:=fun q n' i ver=>loopN (t_pass_st (fns n) q) n' (.l0 s i ver)) (E:=fun q i ver=>q ⟨s,i,.n,ver⟩) (fun _ _ _ _=>rfl) (fun _ _ _ _=>rfl) (s.length - a) a (s.length - a) (n - 1) v (Nat.le_refl _) (Nat.le_refl _) ha (by omega)
    refine ⟨v + dv,rawN_eq enc21_inj fun q=>?_⟩
    obtain ⟨n0,rfl,_⟩:=pos (show 0 + 1 ≤ n by omega)
    exact e q
  | cons x l =>
    obtain ⟨dv,e⟩:=pass_loop hs (n:=n) (by omega) (Q:=B47 → Prop) (L:=fun q n' i ver=>loopN (t_pass_st (fns n) q) n' (.l3 s i w ((x :: l).map Tok.d) ver)) (J:=fun q n' i ver=>loopN (t_pass_st (fns n) q) n' (.l1 s i w ((x :: l).map Tok.d) ver)) (E:=fun q i ver=>q ⟨s,i,.o ((x :: l).map Tok.d) w,ver⟩) (fun _ _ _ _=>rfl) (fun _ _ _ _=>rfl) (s.length - a) a (s.length - a) (n - 1) v (Nat.le_refl _) (Nat.le_refl _) ha (by omega)
    refine ⟨v + dv,rawN_eq enc21_inj fun q=>?_⟩
    obtain ⟨n0,rfl,_⟩:=pos (show 0 + 1 ≤ n by omega)
    exact e q
def vMark (s:List UInt8) (a m:Nat) (T:List Tok) (v w:Nat):t_mark_V:=match T with
  | []=>.l0 (Int.ofNat a) (Int.ofNat m) (s.drop a) s v
  | x :: l=>.l2 (Int.ofNat a) (Int.ofNat m) (s.drop a) s w ((x :: l).map Tok.d) v
omit hs in
theorem sl_drop {m:Nat}:sl s a (a + m) = List.take m (s.drop a):=by unfold sl; rw [Nat.add_sub_cancel_left]
theorem mark_end {m:Nat} (hn:1 ≤ n) (ha:a ≤ s.length) (hm:m ≤ s.length - a) (hT:T.length ≤ 6000):∃ v' w',∀ (q:Int × B47 → Prop) n',loopN (t_mark_st (fns n) q) (n' + 1) (vMark s a m T v w) = q ((outR a T (if m = 0 then .bad a else .tok ⟨4,sl s a (a + m),0,Int.ofNat a⟩ (a + m))).1,rd s (outR a T (if m = 0 then .bad a else .tok ⟨4,sl s a (a + m),0,Int.ofNat a⟩ (a + m))).2.1 (outR a T (if m = 0 then .bad a else .tok ⟨4,sl s a (a + m),0,Int.ofNat a⟩ (a + m))).2.2 v' w'):=by
  have e0:(Int.ofNat m == (0:Int)) = (m == 0):=beqL m 0
  by_cases h0:m = 0
  · subst h0
    rw [if_pos rfl]
    have hf:=t_form_ (n:=n) hn (s:=s) (a:=a) (p:=a) (T:=T) (v:=v) (w:=w)
    obtain ⟨v',w',hl⟩:=told_last (o:=.bad a) (a:=a) (T:=T) ⟨_,_,hf⟩
    refine ⟨v',w',fun q n'=>?_⟩
    rw [← hl q]
    cases T <;> (simp only [vMark,loopN_s,t_mark_st,e0,beq_self_eq_true,cnd_true]; rfl)
  · rw [if_neg h0]
    obtain ⟨v',w',hl⟩:=told_last (t_putR (n:=n) hn (s:=s) (a:=a) (e:=a + m) (v:=v + 1) (w:=w) (t:=⟨4,sl s a (a + m),0,Int.ofNat a⟩) hT rfl)
    refine ⟨v',w',fun q n'=>?_⟩
    rw [← hl q]
    have e1:(m == 0) = false:=by simpa using h0
    have e2:decide (m ≤ (s.drop a).length) = true:=decide_eq_true (by simp; exact hm)
    have e3:IntKind.i64.wrap (Int.ofNat a + Int.ofNat m) = Int.ofNat (a + m):=by rw [i64_small (by simp; omega) (by simp; omega)]; simp
    rw [sl_drop]
    cases T <;> (simp only [vMark,loopN_s,t_mark_st,e0,e1,cnd_false,zleN,leN,e2,Bool.and_self,an_true,e3,toN,Nat.sub_zero,List.drop_zero]; rfl)
def vMark1 (s:List UInt8) (a:Nat) (T:List Tok) (v w:Nat):t_mark_V:=match T with
  | []=>.l1 (Int.ofNat a) (s.drop a) s v
  | x :: l=>.l3 (Int.ofNat a) (s.drop a) s w ((x :: l).map Tok.d) v
theorem mark_eq1 {q:Int × B47 → Prop} {n':Nat}:loopN (t_mark_st (fns n) q) (n' + 1) (vMark1 s a T v w) = loopN (t_mark_st (fns n) q) n' (vMark s a (if (s.drop a)[1]? = some 61 then 2 else 1) T v w):=by
  have key:∀ {X Y:Prop},cnd (decide (Int.ofNat (s.drop a).length > 1)) (bn ((s.drop a)[1]?) fun x=>cnd (Int.ofNat x.toNat == 61) X Y) Y = if (s.drop a)[1]? = some 61 then X else Y:=by
    intro X Y
    have eg:decide (Int.ofNat (s.drop a).length > 1) = decide (1 < (s.drop a).length):=gtL _ 1
    rw [eg]
    rcases Nat.lt_or_ge 1 (s.drop a).length with h | h
    · rw [decide_eq_true h,cnd_true,List.getElem?_eq_getElem h,bn_some,beqL,show ((s.drop a)[1].toNat == 61) = ((s.drop a)[1] == 61) from (byte_eq (by decide)).symm]
      by_cases hx:(s.drop a)[1] = 61
      · rw [hx,if_pos rfl]; rfl
      · rw [if_neg (fun e=>hx (Option.some.inj e)),show ((s.drop a)[1] == 61) = false by simpa using hx]; rfl
    · rw [decide_eq_false (by omega),cnd_false,List.getElem?_eq_none h,if_neg (by simp)]
  cases T with
  | nil =>
    show cnd (decide (Int.ofNat (s.drop a).length > 1)) (bn ((s.drop a)[1]?) fun x=>cnd (Int.ofNat x.toNat == 61) (loopN (t_mark_st (fns n) q) n' (.l0 (Int.ofNat a) (Int.ofNat 2) (s.drop a) s v)) (loopN (t_mark_st (fns n) q) n' (.l0 (Int.ofNat a) (Int.ofNat 1) (s.drop a) s v))) (loopN (t_mark_st (fns n) q) n' (.l0 (Int.ofNat a) (Int.ofNat 1) (s.drop a) s v)) = _
    rw [key]
    by_cases h:(s.drop a)[1]? = some 61
    · simp only [if_pos h,vMark]
    · simp only [if_neg h,vMark]
  | cons x l =>
    show cnd (decide (Int.ofNat (s.drop a).length > 1)) (bn ((s.drop a)[1]?) fun y=>cnd (Int.ofNat y.toNat == 61) (loopN (t_mark_st (fns n) q) n' (.l2 (Int.ofNat a) (Int.ofNat 2) (s.drop a) s w ((x :: l).map Tok.d) v)) (loopN (t_mark_st (fns n) q) n' (.l2 (Int.ofNat a) (Int.ofNat 1) (s.drop a) s w ((x :: l).map Tok.d) v))) (loopN (t_mark_st (fns n) q) n' (.l2 (Int.ofNat a) (Int.ofNat 1) (s.drop a) s w ((x :: l).map Tok.d) v)) = _
    rw [key]
    by_cases h:(s.drop a)[1]? = some 61
    · simp only [if_pos h,vMark]
    · simp only [if_neg h,vMark]
omit hs in
theorem markN_le {c:UInt8} (hc:s[a]? = some c):markN (s.drop a) ≤ s.length - a:=by
  have ha:a < s.length:=by
    rcases Nat.lt_or_ge a s.length with h | h
    · exact h
    · rw [List.getElem?_eq_none h] at hc; cases hc
  have hd:s.drop a = c :: s.drop (a + 1):=by rw [List.drop_eq_getElem_cons ha]; rw [List.getElem?_eq_getElem ha] at hc; cases hc; rfl
  have hlen:(s.drop a).length = s.length - a:=by simp
  have two:∀ {x y:UInt8},[x,y].isPrefixOf (s.drop a) = true → 2 ≤ s.length - a:=fun {x y} hp=>by
    have:=(List.isPrefixOf_iff_prefix.1 hp).length_le
    rw [hlen] at this; simpa using this
  have nx:(s.drop a)[1]? = some 61 → 2 ≤ s.length - a:=fun hx=>by
    rcases Nat.lt_or_ge 1 (s.drop a).length with g | g
    · rw [hlen] at g; omega
    · rw [List.getElem?_eq_none g] at hx; cases hx
  rw [hd] at two nx ⊢
  unfold markN
  repeat' split
  all_goals first | exact two (by assumption) | exact nx (by assumption) | omega
theorem t_mark_ (hn:10 ≤ n) {c:UInt8} (hc:s[a]? = some c) (hT:T.length ≤ 6000):ToldR ((fns n).t_mark (rd s a T v w)) s a T (markR s a):=by
  obtain ⟨n,rfl,hp⟩:=pos hn
  have ha:a < s.length:=by
    rcases Nat.lt_or_ge a s.length with h | h
    · exact h
    · rw [List.getElem?_eq_none h] at hc; cases hc
  have hd:s.drop a = c :: s.drop (a + 1):=by rw [List.drop_eq_getElem_cons ha]; rw [List.getElem?_eq_getElem ha] at hc; cases hc; rfl
  have h0:(s.drop a)[0]? = some c:=by rw [hd]; rfl
  obtain ⟨v',w',he⟩:=mark_end hs (n:=n) (a:=a) (m:=markN (s.drop a)) (T:=T) (v:=v) (w:=w) (by omega) (by omega) (markN_le hc) hT
  unfold markR
  refine ⟨v',w',?_⟩
  have e1:=decide_eq_true (show a ≤ s.length by omega)
  have b124:(c.toNat == 124) = (c == 124):=(byte_eq (by decide)).symm
  have b60:(c.toNat == 60) = (c == 60):=(byte_eq (by decide)).symm
  have b62:(c.toNat == 62) = (c == 62):=(byte_eq (by decide)).symm
  have way:∀ (q:Int × B47 → Prop) (n':Nat),cnd (c.toNat == 124) (cnd ([124,124].isPrefixOf (s.drop a)) (loopN (t_mark_st (fns n) q) (n' + 2) (vMark s a 2 T v w)) (loopN (t_mark_st (fns n) q) (n' + 2) (vMark s a 0 T v w))) (cnd (c.toNat == 60) (cnd ([60,62].isPrefixOf (s.drop a)) (loopN (t_mark_st (fns n) q) (n' + 2) (vMark s a 2 T v w)) (loopN (t_mark_st (fns n) q) (n' + 2) (vMark1 s a T v w))) (cnd (c.toNat == 62) (loopN (t_mark_st (fns n) q) (n' + 2) (vMark1 s a T v w)) (chainC c.toNat (loopN (t_mark_st (fns n) q) (n' + 2) (vMark s a 1 T v w)) (loopN (t_mark_st (fns n) q) (n' + 2) (vMark s a 0 T v w)) setL))) = loopN (t_mark_st (fns n) q) 1 (vMark s a (markN (s.drop a)) T v w):=by
    intro q n'
    have irr:∀ k m,loopN (t_mark_st (fns n) q) (k + 1) (vMark s a m T v w) = loopN (t_mark_st (fns n) q) 1 (vMark s a m T v w):=fun k m=>by cases T <;> rfl
    have hm:markN (s.drop a) = if c = 124 then (if [124,124].isPrefixOf (s.drop a) then 2 else 0) else if c = 60 then (if [60,62].isPrefixOf (s.drop a) then 2 else if (s.drop a)[1]? = some 61 then 2 else 1) else if c = 62 then (if (s.drop a)[1]? = some 61 then 2 else 1) else if setB c then 1 else 0:=by
      rw [hd]; rfl
    rw [chainC_eq,set_eq,mark_eq1 hs,irr (n' + 1) 2,irr (n' + 1) 0,irr (n' + 1) 1,irr n' (if (s.drop a)[1]? = some 61 then 2 else 1),hm,b124,b60,b62]
    by_cases h1:c = 124
    · rw [show (c == 124) = true by simpa using h1,cnd_true,if_pos h1]
      cases [124,124].isPrefixOf (s.drop a) <;> rfl
    · rw [show (c == 124) = false by simpa using h1,cnd_false,if_neg h1]
      by_cases h2:c = 60
      · rw [show (c == 60) = true by simpa using h2,cnd_true,if_pos h2]
        cases [60,62].isPrefixOf (s.drop a) <;> rfl
      · rw [show (c == 60) = false by simpa using h2,cnd_false,if_neg h2]
        by_cases h3:c = 62
        · rw [show (c == 62) = true by simpa using h3,cnd_true,if_pos h3]
        · rw [show (c == 62) = false by simpa using h3,cnd_false,if_neg h3]
          cases setB c <;> rfl
  obtain ⟨n0,hn0⟩:∃ n0,n = n0 + 2:=⟨n - 2,by omega⟩
  cases T with
  | nil =>
    refine rawN_eq enc22_inj fun q=>?_
    rw [← he q 0,← way q n0]
    simp only [loopN_s (n:=n),t_mark_st,rd,gcT,zleN,leN,e1,Bool.and_self,an_true,toN,drop_take,h0,bn_some,beqL,g_HasPrefix_ (show 2 ≤ n by omega)]
    rw [hn0]
    rfl
  | cons x l =>
    refine rawN_eq enc22_inj fun q=>?_
    rw [← he q 0,← way q n0]
    simp only [loopN_s (n:=n),t_mark_st,rd,gcT,zleN,leN,e1,Bool.and_self,an_true,toN,drop_take,h0,bn_some,beqL,g_HasPrefix_ (show 2 ≤ n by omega)]
    rw [hn0]
    rfl
end
end Go.Proofs.Ytfdcjngclelnhaa
