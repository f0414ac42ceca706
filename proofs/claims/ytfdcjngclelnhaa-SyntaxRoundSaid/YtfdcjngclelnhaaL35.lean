/- Part of a proof. -/
import Derived.Test.YtfdcjngclelnhaaL26
import Derived.Test.YtfdcjngclelnhaaL15
import Derived.Test.YtfdcjngclelnhaaL24
set_option linter.unusedSectionVars false
set_option linter.unusedSimpArgs false
set_option linter.unusedVariables false
namespace Go.Proofs.Ytfdcjngclelnhaa
open Go
def brk (s:List UInt8):List UInt8:=40 :: (s ++ [10,41])
section
variable {s:List UInt8}
theorem brk_len:(brk s).length = s.length + 3:=by simp [brk]
theorem brk_get {i:Nat} (h:i < s.length):(brk s)[i + 1]? = s[i]?:=by
  unfold brk
  rw [List.getElem?_cons_succ,List.getElem?_append_left h]
theorem brk_nl:(brk s)[s.length + 1]? = some 10:=by
  unfold brk
  rw [List.getElem?_cons_succ,List.getElem?_append_right (Nat.le_refl _),Nat.sub_self]; rfl
theorem brk_cl:(brk s)[s.length + 2]? = some 41:=by
  unfold brk
  rw [List.getElem?_cons_succ,List.getElem?_append_right (Nat.le_succ _),show s.length.succ - s.length = 1 by omega]; rfl
theorem brk_span {p:Nat → Bool} (hp:p 10 = false):∀ k k' i,i + k = s.length → k + 1 ≤ k' → spanE p (brk s) k' (i + 1) = spanE p s k i + 1
  | 0,k',i,hi,hk=>by
    obtain ⟨k',rfl⟩:∃ z,k' = z + 1:=⟨k' - 1,by omega⟩
    have:i = s.length:=by omega
    subst this
    unfold spanE
    rw [brk_nl]
    simp only [show ((10:UInt8).toNat) = 10 from rfl,hp,Bool.false_eq_true,if_false]
  | k + 1,k',i,hi,hk=>by
    obtain ⟨k',rfl⟩:∃ z,k' = z + 1:=⟨k' - 1,by omega⟩
    rw [spanE,spanE,brk_get (by omega),List.getElem?_eq_getElem (show i < s.length by omega)]
    dsimp only
    split
    · exact brk_span hp k k' (i + 1) (by omega) (by omega)
    · rfl
theorem brk_sl {a e:Nat} (h1:a ≤ e) (h2:e ≤ s.length):sl (brk s) (a + 1) (e + 1) = sl s a e:=by
  unfold sl brk
  rw [List.drop_succ_cons,show e + 1 - (a + 1) = e - a by omega,List.drop_append_of_le_length (by omega),List.take_append_of_le_length (by simp; omega)]
def up (a:Nat) (t:Tok):Tok:=⟨t.kind,t.text,t.n,Int.ofNat (a + 1)⟩
theorem brk_name {a:Nat} (ha:a ≤ s.length) {t:Tok} {e:Nat} (h:nameR s a = .tok t e):nameR (brk s) (a + 1) = .tok (up a t) (e + 1):=by
  have hs:=brk_span (s:=s) (p:=nameN) (by decide) (s.length - a) ((brk s).length - (a + 1)) a (by omega) (by rw [brk_len]; omega)
  have hge:=spanE_ge (p:=nameN) (s:=s) (s.length - a) a
  have hle:=spanE_le (p:=nameN) (s:=s) (s.length - a) a ha
  unfold nameR at h ⊢
  dsimp only at h ⊢
  rw [hs]
  generalize spanE nameN s (s.length - a) a = x at *
  rw [show x + 1 - (a + 1) = x - a by omega,brk_sl hge hle]
  split at h
  · cases h
  · rename_i hx; cases h; rw [if_neg hx]; rfl
theorem brk_num {a:Nat} (ha:a ≤ s.length) {t:Tok} {e:Nat} (h:numR s a = .tok t e):numR (brk s) (a + 1) = .tok (up a t) (e + 1):=by
  have hs:=brk_span (s:=s) (p:=digitN) (by decide) (s.length - a) ((brk s).length - (a + 1)) a (by omega) (by rw [brk_len]; omega)
  have hge:=spanE_ge (p:=digitN) (s:=s) (s.length - a) a
  have hle:=spanE_le (p:=digitN) (s:=s) (s.length - a) a ha
  unfold numR at h ⊢
  dsimp only at h ⊢
  rw [hs]
  generalize spanE digitN s (s.length - a) a = x at *
  rw [show x + 1 - (a + 1) = x - a by omega,brk_sl hge hle]
  split at h
  · cases h
  · rename_i hx; cases h; rw [if_neg hx]; rfl
theorem brk_text {a:Nat} {t:Tok} {e:Nat}:∀ k k' i acc,k ≤ k' → textGo s a k i acc = .tok t e → textGo (brk s) (a + 1) k' (i + 1) acc = .tok (up a t) (e + 1)
  | 0,_,_,_,_,h=>nomatch h
  | k + 1,0,_,_,hk,_=>by omega
  | k + 1,k' + 1,i,acc,hk,h=>by
    unfold textGo at h ⊢
    cases hc:s[i]? with
    | none=>rw [hc] at h; cases h
    | some c =>
      have hi:i < s.length:=by
        rcases Nat.lt_or_ge i s.length with g | g
        · exact g
        · rw [List.getElem?_eq_none g] at hc; cases hc
      rw [hc] at h
      rw [brk_get hi,hc]
      dsimp only at h ⊢
      split at h
      · cases h
      · rename_i h1
        rw [if_neg h1]
        split at h
        · rename_i h2
          rw [if_pos h2]
          exact brk_text k k' (i + 1) _ (by omega) h
        · rename_i h2
          rw [if_neg h2]
          have hx:((brk s)[i + 1 + 1]? = some 39) ↔ (s[i + 1]? = some 39):=by
            rcases Nat.lt_or_ge (i + 1) s.length with g | g
            · rw [brk_get g]
            · have:i + 1 = s.length:=by omega
              rw [this,brk_nl,List.getElem?_eq_none (Nat.le_refl _)]
              exact ⟨fun e=>absurd (Option.some.inj e) (by decide),fun e=>nomatch e⟩
          split at h
          · rename_i h3
            rw [if_pos (hx.2 h3)]
            exact brk_text k k' (i + 2) _ (by omega) h
          · rename_i h3
            rw [if_neg (fun q=>h3 (hx.1 q))]
            split at h
            · cases h
            · rename_i h4; cases h; rw [if_neg h4]; rfl
theorem brk_drop {a:Nat} (ha:a ≤ s.length):(brk s).drop (a + 1) = s.drop a ++ [10,41]:=by
  unfold brk
  rw [List.drop_succ_cons,List.drop_append_of_le_length ha]
theorem brk_markN (c:UInt8) (r:List UInt8):markN (c :: r ++ [10,41]) = markN (c :: r):=by
  have e:∀ {x y:UInt8},y ≠ 10 → [x,y].isPrefixOf (c :: r ++ [10,41]) = [x,y].isPrefixOf (c :: r):=fun {x y} hy=>by
    cases r with
    | nil=>simp [List.isPrefixOf,hy]
    | cons d q=>simp [List.isPrefixOf]
  have e2:((c :: r ++ [10,41])[1]? = some (61:UInt8)) ↔ ((c :: r)[1]? = some 61):=by
    cases r with
    | nil=>simp
    | cons d q=>simp
  show (if c = 124 then (if [124,124].isPrefixOf (c :: r ++ [10,41]) then 2 else 0) else if c = 60 then (if [60,62].isPrefixOf (c :: r ++ [10,41]) then 2 else if (c :: r ++ [10,41])[1]? = some 61 then 2 else 1) else if c = 62 then (if (c :: r ++ [10,41])[1]? = some 61 then 2 else 1) else if setB c then 1 else 0) = _
  rw [e (by decide),e (by decide)]
  simp only [e2]
  rfl
theorem brk_mark {a:Nat} (ha:a < s.length) {t:Tok} {e:Nat} (h:markR s a = .tok t e):markR (brk s) (a + 1) = .tok (up a t) (e + 1):=by
  have hend:markN (s.drop a) ≠ 0 → a + markN (s.drop a) ≤ s.length:=fun hm=>by
    have h1:oneR s a = .tok t e ∨ True:=Or.inr trivial
    have hd:s.drop a = s[a] :: s.drop (a + 1):=List.drop_eq_getElem_cons ha
    have hlen:(s.drop a).length = s.length - a:=by simp
    have two:∀ {x y:UInt8},[x,y].isPrefixOf (s.drop a) = true → 2 ≤ s.length - a:=fun {x y} hp=>by
      have:=(List.isPrefixOf_iff_prefix.1 hp).length_le
      rw [hlen] at this; simpa using this
    have nx:(s.drop a)[1]? = some 61 → 2 ≤ s.length - a:=fun hx=>by
      rcases Nat.lt_or_ge 1 (s.drop a).length with g | g
      · rw [hlen] at g; omega
      · rw [List.getElem?_eq_none g] at hx; cases hx
    have:markN (s.drop a) ≤ s.length - a:=by
      rw [hd] at two nx ⊢
      unfold markN
      repeat' split
      all_goals first | exact two (by assumption) | exact nx (by assumption) | omega
    omega
  have hm:markN ((brk s).drop (a + 1)) = markN (s.drop a):=by
    rw [brk_drop (by omega),show s.drop a = s[a] :: s.drop (a + 1) from List.drop_eq_getElem_cons ha]
    exact brk_markN _ _
  unfold markR at h ⊢
  rw [hm]
  split at h
  · cases h
  · rename_i hz
    cases h
    rw [if_neg hz,show a + 1 + markN (s.drop a) = a + markN (s.drop a) + 1 by omega,brk_sl (by omega) (hend hz)]
    rfl
theorem brk_one {a:Nat} (ha:a < s.length) {t:Tok} {e:Nat} (h:oneR s a = .tok t e):oneR (brk s) (a + 1) = .tok (up a t) (e + 1):=by
  unfold oneR at h ⊢
  rw [brk_get ha]
  rw [List.getElem?_eq_getElem ha] at h ⊢
  dsimp only at h ⊢
  split at h
  · rename_i h1; rw [if_pos h1]; exact brk_name (by omega) h
  · rename_i h1
    rw [if_neg h1]
    split at h
    · rename_i h2; rw [if_pos h2]; exact brk_num (by omega) h
    · rename_i h2
      rw [if_neg h2]
      split at h
      · rename_i h3; rw [if_pos h3]; exact brk_text _ _ _ _ (by rw [brk_len]; omega) h
      · rename_i h3; rw [if_neg h3]; exact brk_mark ha h
theorem brk_tail {k:Nat} (hk:2 ≤ k):passE (brk s) k (s.length + 1) = s.length + 2:=by
  obtain ⟨k,rfl⟩:∃ z,k = z + 2:=⟨k - 2,by omega⟩
  rw [passE,brk_nl]
  show passE (brk s) (k + 1) (s.length + 2) = _
  rw [passE,brk_cl]; rfl
theorem brk_pass:∀ k k' i,s.length ≤ i + k → i ≤ s.length → s.length + 2 ≤ i + k' → passE (brk s) k' (i + 1) = if passE s k i < s.length then passE s k i + 1 else s.length + 2
  | 0,k',i,h1,h2,h3=>by
    have:i = s.length:=by omega
    subst this
    rw [passE,if_neg (Nat.lt_irrefl _)]
    exact brk_tail (by omega)
  | k + 1,k',i,h1,h2,h3=>by
    rcases Nat.lt_or_ge i s.length with hi | hi
    · obtain ⟨k',rfl⟩:∃ z,k' = z + 1:=⟨k' - 1,by omega⟩
      rw [passE,passE,brk_get hi]
      have hc:s[i]? = some s[i]:=List.getElem?_eq_getElem hi
      rw [hc]
      dsimp only
      split
      · exact brk_pass k k' (i + 1) (by omega) (by omega) (by omega)
      · have hx:((brk s)[i + 1 + 1]? == some 45) = (s[i + 1]? == some 45):=by
          rcases Nat.lt_or_ge (i + 1) s.length with g | g
          · rw [brk_get g]
          · have:i + 1 = s.length:=by omega
            rw [this,brk_nl,List.getElem?_eq_none (Nat.le_refl _)]; rfl
        rw [hx]
        split
        · rename_i h2'
          have h45:(s[i]).toNat = 45:=eq_of_beq (Bool.and_eq_true_iff.1 h2').1
          have hge:i + 1 ≤ nlE s i:=by
            unfold nlE
            rw [show s.length - i = (s.length - i - 1) + 1 by omega,spanE,hc]
            simp only [h45,bne,show ((45:Nat) == 10) = false from rfl,Bool.not_false,if_true]
            exact spanE_ge _ _
          have hle:nlE s i ≤ s.length:=spanE_le _ _ h2
          have hn:nlE (brk s) (i + 1) = nlE s i + 1:=brk_span (by decide) (s.length - i) ((brk s).length - (i + 1)) i (by omega) (by rw [brk_len]; omega)
          rw [hn]
          exact brk_pass k k' (nlE s i) (by omega) hle (by omega)
        · first | rfl | rw [if_pos hi]
    · have:i = s.length:=by omega
      subst this
      rw [passE,List.getElem?_eq_none (Nat.le_refl _)]
      simp only [Nat.lt_irrefl,if_false]
      exact brk_tail (by omega)
end
end Go.Proofs.Ytfdcjngclelnhaa
namespace Go.Proofs.Ytfdcjngclelnhaa
open Go
def sh (t:Tok):Tok:=⟨t.kind,t.text,t.n,t.at_ + 1⟩
theorem up_sh {a:Nat} {t:Tok} (h:t.at_ = Int.ofNat a):up a t = sh t:=by
  unfold up sh; rw [h]; rfl
section
variable {s:List UInt8}
def clT (s:List UInt8):Tok:=⟨4,[41],0,Int.ofNat (s.length + 2)⟩
def enT (s:List UInt8):Tok:=⟨0,[],0,Int.ofNat (s.length + 3)⟩
theorem brk_close:oneR (brk s) (s.length + 2) = .tok (clT s) (s.length + 3):=by
  have hd:(brk s).drop (s.length + 2) = [41]:=by
    unfold brk
    rw [List.drop_succ_cons,List.drop_append,List.drop_of_length_le (by omega),show s.length + 1 - s.length = 1 by omega]; rfl
  unfold oneR
  rw [brk_cl]
  show markR (brk s) (s.length + 2) = _
  unfold markR sl
  rw [hd,show markN [41] = 1 from rfl,if_neg (by decide),show s.length + 2 + 1 - (s.length + 2) = 1 by omega]
  rfl
theorem brk_scan (x:Tok):∀ f f' i T Tf,s.length + 1 ≤ i + f → i ≤ s.length → s.length + 3 ≤ i + f' → scanGo s f i T = .ok Tf → ∃ L,Tf = L ++ [⟨0,[],0,Int.ofNat s.length⟩] ∧
    (scanGo (brk s) f' (i + 1) (x :: T.map sh) = .ok (x :: L.map sh ++ [clT s,enT s]) ∨ ∃ p,scanGo (brk s) f' (i + 1) (x :: T.map sh) = .bad p 8)
  | 0,f',i,T,Tf,h1,h2,_,_=>by omega
  | f + 1,f',i,T,Tf,h1,h2,h3,h=>by
    obtain ⟨f',rfl⟩:∃ z,f' = z + 2:=⟨f' - 2,by omega⟩
    have hp:=brk_pass (s:=s) (s.length - i) ((brk s).length - (i + 1)) i (by omega) h2 (by rw [brk_len]; omega)
    have hge:=passE_ge (s:=s) (s.length - i) i
    rw [scanGo] at h ⊢
    try dsimp only at h ⊢
    rw [hp]
    generalize passE s (s.length - i) i = j at h hge ⊢
    split at h
    · rename_i hj
      rw [if_neg (show ¬ j < s.length by omega)]
      split at h
      · cases h
      · rename_i h6
        cases h
        refine ⟨T,rfl,?_⟩
        rw [if_neg (show ¬ (brk s).length ≤ s.length + 2 by rw [brk_len]; omega),brk_close]
        dsimp only
        by_cases q1:6000 ≤ (x :: T.map sh).length
        · rw [if_pos q1]; exact Or.inr ⟨_,rfl⟩
        · rw [if_neg q1,scanGo]
          try dsimp only
          have he:passE (brk s) ((brk s).length - (s.length + 3)) (s.length + 3) = s.length + 3:=by rw [brk_len,Nat.sub_self]; rfl
          rw [he,if_pos (show (brk s).length ≤ s.length + 3 by rw [brk_len]; omega)]
          by_cases q2:6000 ≤ (x :: T.map sh ++ [clT s]).length
          · rw [if_pos q2]; exact Or.inr ⟨_,rfl⟩
          · rw [if_neg q2]
            refine Or.inl ?_
            rw [brk_len,List.append_assoc]; rfl
    · rename_i hj
      rw [if_pos (show j < s.length by omega),if_neg (show ¬ (brk s).length ≤ j + 1 by rw [brk_len]; omega)]
      split at h
      · cases h
      · rename_i t e ho
        rw [brk_one (by omega) ho]
        dsimp only
        obtain ⟨g1,g2,g3⟩:=oneR_end (by omega) ho
        rw [up_sh g3]
        split at h
        · cases h
        · by_cases q1:6000 ≤ (x :: T.map sh).length
          · obtain ⟨L,hL,_⟩:=brk_scan x f (f' + 1) e (T ++ [t]) Tf (by omega) g2 (by omega) h
            rw [if_pos q1]; exact ⟨L,hL,Or.inr ⟨_,rfl⟩⟩
          · rw [if_neg q1]
            have:=brk_scan x f (f' + 1) e (T ++ [t]) Tf (by omega) g2 (by omega) h
            rwa [List.map_append] at this
end
end Go.Proofs.Ytfdcjngclelnhaa
namespace Go.Proofs.Ytfdcjngclelnhaa
open Go
section
variable {α β:Type} {T T':List Tok} {k:Nat} (h:Wr T T')
include h
theorem Brk.if2 {kk:Int} {w:List UInt8} (hk:kk ≠ 0) (hw:w ≠ [41]) {A A' Z Z':Nat → Out α} (h1:Brk T k A A') (h2:Brk T k Z Z'):Brk T k (ifO T kk w A Z) (ifO T' kk w A' Z'):=by
  cases k with
  | zero=>exact fun i v j hi hl e=>by omega
  | succ k=>exact Brk.if_ h hk hw (h1.mono (by omega)) h2
theorem opIn_b {kk:Int} (hk:kk ≠ 0) {i:Nat} (hi:i < T.length):∀ l:List (List UInt8),(∀ w ∈ l,w ≠ [41]) → opIn T' kk l (i + 1) = opIn T kk l i
  | [],_=>rfl
  | w :: l,hl=>by
    unfold opIn
    rw [h.sees hk (hl w (by simp)) hi,opIn_b hk hi l fun u hu=>hl u (by simp [hu])]
omit h in
theorem opIn_kind {kk:Int} {i:Nat} {m:List UInt8}:∀ l:List (List UInt8),opIn T kk l i = some m → (tk T i).kind = kk
  | [],e=>nomatch e
  | w :: l,e=>by
    unfold opIn at e
    split at e
    · rename_i hs
      unfold pSees at hs
      simp only [Bool.and_eq_true,beq_iff_eq] at hs
      exact hs.1
    · exact opIn_kind l e
theorem loop_b {kk:Int} (hk:kk ≠ 0) {l:List (List UInt8)} (hl:∀ w ∈ l,w ≠ [41]) {rest rest':Nat → Out D} (hr:Brk T k rest rest'):∀ r r' x,r ≤ r' → r ≤ k + 1 → Brk T r (pLoop (opIn T kk l) rest r x) (pLoop (opIn T' kk l) rest' r' x)
  | 0,r',x,_,_=>fun i v j hi hl e=>by omega
  | r + 1,0,x,h1,_=>by omega
  | r + 1,r' + 1,x,h1,h2=>fun i v j hi hle e=>by
    unfold pLoop at e ⊢
    rw [opIn_b h hk hi l hl]
    cases hm:opIn T kk l i with
    | some m =>
      simp only [hm] at e ⊢
      have hn:=h.ends.next hi (by rw [opIn_kind l hm]; exact hk)
      cases hy:rest (i + 1) with
      | err a b=>rw [hy] at e; cases e
      | ok y i' =>
        rw [hy] at e
        obtain ⟨q1,q2,q3⟩:=hr (i + 1) y i' hn (by omega) hy
        obtain ⟨g1,g2,g3⟩:=loop_b hk hl hr r r' (binX m x y) (by omega) (by omega) i' v j q2 (by omega) e
        refine ⟨by omega,g2,?_⟩
        rcases q3 with q3 | ⟨a,q3⟩
        · rw [q3]; exact g3
        · rw [q3]; exact Or.inr ⟨a,rfl⟩
    | none =>
      simp only [hm] at e ⊢
      cases e
      exact ⟨Nat.le_refl _,hi,Or.inl rfl⟩
theorem more_b {rest rest':Nat → Out D} (hr:Brk T k rest rest'):∀ r r' l,r ≤ r' → r ≤ k + 1 → Brk T r (pMore T rest r l) (pMore T' rest' r' l)
  | 0,r',l,_,_=>fun i v j hi hl e=>by omega
  | r + 1,0,l,h1,_=>by omega
  | r + 1,r' + 1,l,h1,h2=>Brk.if_ h (by decide) (by decide) (Brk.seq (hr.mono (by omega)) fun y=>more_b hr r r' _ (by omega) (by omega)) Brk.ret
theorem list_b {one one':Nat → Out D} {r r':Nat} (hr:r ≤ r') (hk:k + 1 = r) (ho:Brk T k one one'):Brk T k (pList T one r) (pList T' one' r') :=
  Brk.seq ho fun x=>(more_b h ho r r' [x] hr (by omega)).mono (by omega)
theorem number_b:Brk T (k + 1) (pNumber T) (pNumber T'):=fun i v j hi hl e=>by
  unfold pNumber at e ⊢
  split at e
  · rename_i hs
    have hk:(tk T i).kind = 2:=eq_of_beq hs
    have h1:=h.ends.next hi (by rw [hk]; decide)
    obtain ⟨e1,e2,e3⟩:=h.same i h1
    rw [e1,e3,if_pos hs]
    cases e
    exact ⟨by omega,h1,Or.inl rfl⟩
  · cases e
end
structure BR (T:List Tok) (r:Nat) (R R':Recs):Prop where
  expr:∀ d,Brk T r (R.expr d) (R'.expr (d + 1))
  ands:∀ d,Brk T r (R.ands d) (R'.ands (d + 1))
  nots:∀ d,Brk T r (R.nots d) (R'.nots (d + 1))
  sum:∀ d,Brk T r (R.sum d) (R'.sum (d + 1))
  prod:∀ d,Brk T r (R.prod d) (R'.prod (d + 1))
  unary:∀ d,Brk T r (R.unary d) (R'.unary (d + 1))
  query:∀ d,Brk T r (R.query d) (R'.query (d + 1))
  part:∀ d,Brk T r (R.part d) (R'.part (d + 1))
section
variable {isW:List UInt8 → Bool} {T T':List Tok} {R R':Recs} {r r':Nat} (h:Wr T T') (b:BR T r R R') (hr:r ≤ r') (d:Nat)
include h b
theorem b_bracketed:Brk T (r + 1) (bracketedF T R d) (bracketedF T' R' (d + 1)):=Brk.must h (by decide) fun _=>Brk.seq (b.query d) fun q=>(Brk.must h (by decide) fun _=>Brk.ret).mono (Nat.le_succ r)
theorem b_cases:Brk T r (casesF T R d) (casesF T' R' (d + 1)):=(Brk.must h (by decide) fun _=>Brk.seq (b.expr d) fun x=>(Brk.must h (by decide) fun _=>Brk.seq (b.expr d) fun y=>(Brk.must h (by decide) fun _=>Brk.seq (b.expr d) fun z=>(Brk.must h (by decide) fun _=>Brk.ret).mono (Nat.le_succ r)).mono (Nat.le_succ r)).mono (Nat.le_succ r)).mono (Nat.le_succ r)
theorem b_round:Brk T r (roundF T R d) (roundF T' R' (d + 1)):=Brk.see h (by decide) (by decide) (Brk.seq (b.query d) fun q=>(Brk.must h (by decide) fun _=>Brk.ret).mono (Nat.le_succ r)) (Brk.seq (b.expr d) fun q=>(Brk.must h (by decide) fun _=>Brk.ret).mono (Nat.le_succ r))
theorem b_agg1 {s:List UInt8}:Brk T r (agg1F T R d s) (agg1F T' R' (d + 1) s):=Brk.seq (b.expr d) fun q=>(Brk.must h (by decide) fun _=>Brk.ret).mono (Nat.le_succ r)
theorem b_agg {s:List UInt8}:Brk T r (aggF T R d s) (aggF T' R' (d + 1) s):=by
  unfold aggF
  split
  · exact Brk.if2 h (by decide) (by decide) ((Brk.must h (by decide) fun _=>Brk.ret).mono (Nat.le_succ r)) (b_agg1 h b d)
  · exact b_agg1 h b d
omit b in
theorem b_dot {s:List UInt8}:Brk T r (dotF isW T s) (dotF isW T' s):=Brk.if2 h (by decide) (by decide) ((Brk.name h fun _=>Brk.ret).mono (Nat.le_succ r)) Brk.ret
theorem b_column:Brk T (r + 1) (columnF isW T R d) (columnF isW T' R' (d + 1)):=Brk.name h fun s=>by
  split
  · exact Brk.if2 h (by decide) (by decide) (b_agg h b d) (b_dot h)
  · exact b_dot h
theorem b_prim:Brk T (r + 1) (primF isW T R d) (primF isW T' R' (d + 1)):=fun i v j hi hl e=>by
  have rest:Brk T (r + 1) _ _:=Brk.if_ h (kk:=1) (w:=w_null) (by decide) (by decide) (Brk.ret (v:=ex 1 0 [] [] .nils .nils)) (Brk.if_ h (kk:=1) (w:=w_true) (by decide) (by decide) (Brk.ret (v:=ex 2 1 [] [] .nils .nils)) (Brk.if_ h (kk:=1) (w:=w_false) (by decide) (by decide) (Brk.ret (v:=ex 2 0 [] [] .nils .nils))
    (Brk.if_ h (kk:=4) (w:=[58]) (by decide) (by decide) ((Brk.name h (isW:=isW) fun s=>Brk.ret (v:=ex 6 0 s [] .nils .nils)).mono (Nat.le_succ r)) (Brk.if_ h (kk:=1) (w:=w_case) (by decide) (by decide) (b_cases h b d)
    (Brk.if_ h (kk:=1) (w:=w_exists) (by decide) (by decide) (Brk.seq ((b_bracketed h b d).mono (Nat.le_succ r)) fun q=>Brk.ret (v:=ex 12 0 [] [] .nils (one1 q))) (Brk.if_ h (kk:=4) (w:=[40]) (by decide) (by decide) (b_round h b d) (b_column (isW:=isW) h b d)))))))
  have hlast:i + 1 < T.length ∨ (tk T i).kind = 0 ∧ (tk T' (i + 1)).kind = 4:=by
    rcases Nat.lt_or_ge (i + 1) T.length with g | g
    · exact Or.inl g
    · have e1:i = T.length - 1:=by omega
      have e2:i + 1 = T.length:=by omega
      exact Or.inr ⟨by rw [e1]; exact h.ends.2,by rw [e2]; exact h.close.1⟩
  have k2:((tk T' (i + 1)).kind == 2) = ((tk T i).kind == 2) ∧ ((tk T' (i + 1)).kind == 3) = ((tk T i).kind == 3):=by
    rcases hlast with g | ⟨g1,g2⟩
    · rw [(h.same i g).1]; exact ⟨rfl,rfl⟩
    · rw [g1,g2]; exact ⟨rfl,rfl⟩
  unfold primF at e ⊢
  rw [k2.1,k2.2]
  by_cases c2:((tk T i).kind == 2) = true
  · rw [if_pos c2] at e ⊢
    have g:i + 1 < T.length:=h.ends.next hi (by rw [eq_of_beq c2]; decide)
    rw [(h.same i g).2.2]
    cases e
    exact ⟨by omega,g,Or.inl rfl⟩
  · rw [if_neg c2] at e ⊢
    by_cases c3:((tk T i).kind == 3) = true
    · rw [if_pos c3] at e ⊢
      have g:i + 1 < T.length:=h.ends.next hi (by rw [eq_of_beq c3]; decide)
      rw [(h.same i g).2.1]
      cases e
      exact ⟨by omega,g,Or.inl rfl⟩
    · rw [if_neg c3] at e ⊢
      exact rest i v j hi hl e
theorem b_unary:Brk T (r + 1) (unaryF isW T R d) (unaryF isW T' R' (d + 1)):=Brk.if_ h (by decide) (by decide) (Brk.deep h fun _=>Brk.seq (b.unary (d + 1)) fun x=>Brk.ret) (b_prim h b d)
omit b in
theorem b_is {x:D}:Brk T r (isF T x) (isF T' x):=Brk.if2 h (by decide) (by decide) ((Brk.must h (by decide) fun _=>Brk.ret).mono (Nat.le_succ r)) ((Brk.must h (by decide) fun _=>Brk.ret).mono (Nat.le_succ r))
theorem b_cmp2 {x:D}:Brk T (r + 1) (cmp2F T R d x) (cmp2F T' R' (d + 1) x):=Brk.if_ h (by decide) (by decide) (b_is h) (Brk.if_ h (by decide) (by decide) ((Brk.must h (by decide) fun _=>Brk.seq ((b_bracketed h b d).mono (Nat.le_succ r)) fun q=>Brk.ret).mono (Nat.le_succ r)) (Brk.if_ h (by decide) (by decide) (Brk.seq ((b_bracketed h b d).mono (Nat.le_succ r)) fun q=>Brk.ret) Brk.ret))
theorem b_cmp1 {x:D}:Brk T (r + 1) (cmp1F T R d x) (cmp1F T' R' (d + 1) x):=fun i v j hi hl e=>by
  unfold cmp1F at e ⊢
  rw [opIn_b h (by decide) hi opsCmp (by decide)]
  cases hm:opIn T 4 opsCmp i with
  | none=>simp only [hm] at e ⊢; exact b_cmp2 h b d i v j hi hl e
  | some m =>
    simp only [hm] at e ⊢
    have hn:=h.ends.next hi (by rw [opIn_kind _ hm]; decide)
    obtain ⟨g1,g2,g3⟩:=(Brk.seq (b.sum d) fun y=>Brk.ret (v:=binX m x y)) (i + 1) v j hn (by omega) e
    exact ⟨by omega,g2,g3⟩
theorem b_not1 (hs:Brk T (r + 1) (sumF isW T R (r + 1) d) (sumF isW T' R' (r' + 1) (d + 1))):Brk T (r + 1) (notF isW T R (r + 1) d) (notF isW T' R' (r' + 1) (d + 1)):=Brk.if_ h (by decide) (by decide) (Brk.deep h fun _=>Brk.seq (b.nots (d + 1)) fun x=>Brk.ret) (Brk.seq hs fun x=>b_cmp1 h b d)
include hr
theorem b_prod:Brk T (r + 1) (prodF isW T R (r + 1) d) (prodF isW T' R' (r' + 1) (d + 1)):=Brk.seq (b_unary h b d) fun x=>loop_b h (by decide) (by decide) (b.unary d) (r + 1) (r' + 1) x (by omega) (by omega)
theorem b_sum:Brk T (r + 1) (sumF isW T R (r + 1) d) (sumF isW T' R' (r' + 1) (d + 1)):=Brk.seq (b_prod h b hr d) fun x=>loop_b h (by decide) (by decide) (b.prod d) (r + 1) (r' + 1) x (by omega) (by omega)
theorem b_not:Brk T (r + 1) (notF isW T R (r + 1) d) (notF isW T' R' (r' + 1) (d + 1)):=b_not1 h b d (b_sum h b hr d)
theorem b_and:Brk T (r + 1) (andF isW T R (r + 1) d) (andF isW T' R' (r' + 1) (d + 1)):=Brk.seq (b_not h b hr d) fun x=>loop_b h (by decide) (by decide) (b.nots d) (r + 1) (r' + 1) x (by omega) (by omega)
theorem b_or:Brk T (r + 1) (orF isW T R (r + 1) d) (orF isW T' R' (r' + 1) (d + 1)):=Brk.seq (b_and h b hr d) fun x=>loop_b h (by decide) (by decide) (b.ands d) (r + 1) (r' + 1) x (by omega) (by omega)
theorem b_expr:Brk T (r + 1) (exprF isW T R (r + 1) d) (exprF isW T' R' (r' + 1) (d + 1)):=Brk.deep h fun _=>b_or h b hr (d + 1)
omit hr in
theorem b_item:Brk T r (itemF isW T R d) (itemF isW T' R' (d + 1)):=Brk.seq (b.expr d) fun x=>(Brk.must h (by decide) fun _=>(Brk.name h fun _=>Brk.ret).mono (Nat.le_succ r)).mono (Nat.le_succ r)
omit hr in
theorem b_key:Brk T r (keyF T R d) (keyF T' R' (d + 1)):=Brk.seq (b.expr d) fun x=>Brk.if2 h (by decide) (by decide) Brk.ret Brk.ret
omit hr in
theorem b_single:Brk T r (singleF isW T R d) (singleF isW T' R' (d + 1)):=Brk.if2 h (by decide) (by decide)
  (Brk.seq (b.query d) fun q=>(Brk.must h (by decide) fun _=>(Brk.must h (by decide) fun _=>(Brk.name h fun s=>Brk.ret).mono (Nat.le_succ r)).mono (Nat.le_succ r)).mono (Nat.le_succ r))
  ((Brk.name h fun s=>Brk.seq (Brk.if2 h (by decide) (by decide) Brk.ret Brk.ret) fun v=>Brk.if2 h (by decide) (by decide) ((Brk.name h fun t=>Brk.ret).mono (Nat.le_succ r)) Brk.ret).mono (Nat.le_succ r))
omit hr in
theorem b_srcs:∀ k k' x,k ≤ k' → k ≤ r + 1 → Brk T k (srcLoop isW T R d k x) (srcLoop isW T' R' (d + 1) k' x)
  | 0,k',x,_,_=>fun i v j hi hl e=>by omega
  | k + 1,0,x,h1,_=>by omega
  | k + 1,k' + 1,x,h1,h2=>by
    have go:∀ kind:Int,Brk T k (seqO (singleF isW T R d) fun y=>seqO (pMust T 1 w_on) fun _=>seqO (R.expr d) fun e=>srcLoop isW T R d k (frm kind [] false [] .nils (.slice [x,y]) (one1 e))) (seqO (singleF isW T' R' (d + 1)) fun y=>seqO (pMust T' 1 w_on) fun _=>seqO (R'.expr (d + 1)) fun e=>srcLoop isW T' R' (d + 1) k' (frm kind [] false [] .nils (.slice [x,y]) (one1 e))):=fun kind =>
      Brk.seq ((b_single h b d).mono (by omega)) fun y=>(Brk.must h (by decide) fun _=>Brk.seq ((b.expr d).mono (by omega)) fun e=>b_srcs k k' _ (by omega) (by omega)).mono (Nat.le_succ k)
    exact Brk.if_ h (by decide) (by decide) ((Brk.must h (by decide) fun _=>go 4).mono (Nat.le_succ k)) (Brk.if_ h (by decide) (by decide) (go 3) Brk.ret)
theorem b_source:Brk T r (sourceF isW T R (r + 1) d) (sourceF isW T' R' (r' + 1) (d + 1)):=Brk.seq (b_single h b d) fun x=>(b_srcs h b d (r + 1) (r' + 1) x (by omega) (by omega)).mono (Nat.le_succ r)
omit b hr in
theorem b_opt {w:List UInt8} (hw:w ≠ [41]) {f f':Nat → Out D} (hf:Brk T r f f'):Brk T r (optF T w f) (optF T' w f'):=Brk.if2 h (by decide) hw (Brk.seq hf fun x=>Brk.ret) Brk.ret
theorem b_group:Brk T r (groupF T R (r + 1) d) (groupF T' R' (r' + 1) (d + 1)):=Brk.if2 h (by decide) (by decide) ((Brk.must h (by decide) fun _=>Brk.seq (list_b h (by omega) rfl (b.expr d)) fun g=>Brk.seq (b_opt h (by decide) (b.expr d)) fun x=>Brk.ret).mono (Nat.le_succ r)) Brk.ret
theorem b_order:Brk T r (orderF T R (r + 1) d) (orderF T' R' (r' + 1) (d + 1)):=Brk.if2 h (by decide) (by decide) ((Brk.must h (by decide) fun _=>list_b h (by omega) rfl (b_key h b d)).mono (Nat.le_succ r)) Brk.ret
theorem b_select:Brk T (r + 1) (selectF isW T R (r + 1) d) (selectF isW T' R' (r' + 1) (d + 1)):=Brk.must h (by decide) fun _=>Brk.seq (Brk.if2 h (by decide) (by decide) Brk.ret Brk.ret) fun dist=>Brk.seq (list_b h (by omega) rfl (b_item h b d)) fun items=>Brk.seq (b_opt h (by decide) (b_source h b hr d)) fun froms=>Brk.seq (b_opt h (by decide) (b.expr d)) fun wheres =>
  Brk.seq (b_group h b hr d) fun gh=>Brk.seq (b_order h b hr d) fun order=>Brk.seq (Brk.if2 h (by decide) (by decide) ((number_b h).mono (Nat.le_succ r)) Brk.ret) fun limit=>Brk.ret
theorem b_part:Brk T (r + 1) (partF isW T R (r + 1) d) (partF isW T' R' (r' + 1) (d + 1)):=Brk.if_ h (by decide) (by decide) (Brk.seq (b.query d) fun q=>(Brk.must h (by decide) fun _=>Brk.ret).mono (Nat.le_succ r)) (b_select h b hr d)
omit hr b in
theorem b_qus {part part':Nat → Out D} (hp:Brk T r part part'):∀ k k' x,k ≤ k' → k ≤ r + 1 → Brk T k (quLoop T part k x) (quLoop T' part' k' x)
  | 0,k',x,_,_=>fun i v j hi hl e=>by omega
  | k + 1,0,x,h1,_=>by omega
  | k + 1,k' + 1,x,h1,h2=>by
    have go:∀ kind:Int,Brk T k (seqO part fun y=>quLoop T part k (qu kind false .nils .nils .nils .nils .nils .nils (-1) (.slice [x,y]))) (seqO part' fun y=>quLoop T' part' k' (qu kind false .nils .nils .nils .nils .nils .nils (-1) (.slice [x,y]))):=fun kind =>
      Brk.seq (hp.mono (by omega)) fun y=>b_qus hp k k' _ (by omega) (by omega)
    exact Brk.if_ h (by decide) (by decide) (Brk.if2 h (by decide) (by decide) (go 3) (go 2)) (Brk.if_ h (by decide) (by decide) (go 4) (Brk.if_ h (by decide) (by decide) (go 5) Brk.ret))
theorem b_query:Brk T (r + 1) (queryF isW T R (r + 1) d) (queryF isW T' R' (r' + 1) (d + 1)):=Brk.deep h fun _=>Brk.seq (b_part h b hr (d + 1)) fun x=>b_qus h (b.part (d + 1)) (r + 1) (r' + 1) x (by omega) (by omega)
end
theorem b_all {isW:List UInt8 → Bool} {T T':List Tok} (h:Wr T T'):∀ r r',r ≤ r' → BR T r (recs isW T r) (recs isW T' r')
  | 0,_,_=>by constructor <;> intro d i v j hi hl e <;> cases e
  | r + 1,0,hr=>by omega
  | r + 1,r' + 1,hr=>by
    have b:=b_all (isW:=isW) h r r' (by omega)
    have hr:r ≤ r':=by omega
    constructor <;> intro d
    · exact b_expr h b hr d
    · exact b_and h b hr d
    · exact b_not h b hr d
    · exact b_sum h b hr d
    · exact b_prod h b hr d
    · exact b_unary h b d
    · exact b_query h b hr d
    · exact b_part h b hr d
end Go.Proofs.Ytfdcjngclelnhaa
namespace Go.Proofs.Ytfdcjngclelnhaa
open Go
def opT:Tok:=⟨4,[40],0,0⟩
def brT (s:List UInt8) (L:List Tok):List Tok:=opT :: L.map sh ++ [clT s,enT s]
theorem scan_brk {s:List UInt8} (hl:s.length ≤ 9000) {T:List Tok} (h:scanR s = .ok T):∃ L,T = L ++ [⟨0,[],0,Int.ofNat s.length⟩] ∧ (scanR (brk s) = .ok (brT s L) ∨ ∃ p,scanR (brk s) = .bad p 8):=by
  have h':scanGo s (s.length + 1) 0 [] = .ok T:=by
    unfold scanR at h
    rwa [if_neg (by omega)] at h
  obtain ⟨L,hL,hb⟩:=brk_scan (s:=s) opT (s.length + 1) ((brk s).length) 0 [] T (by omega) (by omega) (by rw [brk_len]; omega) h'
  refine ⟨L,hL,?_⟩
  have e1:scanR (brk s) = scanGo (brk s) ((brk s).length) 1 [opT]:=by
    unfold scanR
    rw [if_neg (by rw [brk_len]; omega),scanGo]
    try dsimp only
    have hp:passE (brk s) ((brk s).length - 0) 0 = 0:=by
      rw [brk_len,show s.length + 3 - 0 = (s.length + 2) + 1 by omega,passE]
      show (match (brk s)[0]? with | none=>0 | some c=>_) = 0
      rfl
    have ho:oneR (brk s) 0 = .tok opT 1:=rfl
    rw [hp,if_neg (by rw [brk_len]; omega),ho]
    rfl
  rw [e1]
  exact hb
theorem brT_wr {s:List UInt8} {L:List Tok} (h:Ends (L ++ [⟨0,[],0,Int.ofNat s.length⟩])):Wr (L ++ [⟨0,[],0,Int.ofNat s.length⟩]) (brT s L) where
  ends:=h
  same:=fun i hi=>by
    have hi':i < L.length:=by simpa using hi
    have e1:tk (L ++ [⟨0,[],0,Int.ofNat s.length⟩]) i = L[i]:=by
      unfold tk
      rw [List.getD_eq_getElem?_getD,List.getElem?_append_left hi',List.getElem?_eq_getElem hi']; rfl
    have e2:tk (brT s L) (i + 1) = sh L[i]:=by
      unfold tk brT
      rw [List.getD_eq_getElem?_getD,List.cons_append,List.getElem?_cons_succ,List.getElem?_append_left (by simpa using hi'),List.getElem?_map,List.getElem?_eq_getElem hi']; rfl
    rw [e1,e2]
    exact ⟨rfl,rfl,rfl⟩
  close:=by
    have e2:tk (brT s L) (L ++ [(⟨0,[],0,Int.ofNat s.length⟩:Tok)]).length = clT s:=by
      unfold tk brT
      rw [List.getD_eq_getElem?_getD,List.cons_append,List.length_append,List.length_singleton,List.getElem?_cons_succ,List.getElem?_append_right (by simp)]
      simp
    rw [e2]
    exact ⟨rfl,rfl⟩
end Go.Proofs.Ytfdcjngclelnhaa
namespace Go.Proofs.Ytfdcjngclelnhaa
open Go
theorem oneR_kind {s:List UInt8} {a:Nat} {t:Tok} {e:Nat} (h:oneR s a = .tok t e):t.kind ≠ 0:=by
  unfold oneR at h
  split at h
  · cases h
  · split at h
    · unfold nameR at h
      dsimp only at h
      split at h
      · cases h
      · cases h; exact (by decide:(1:Int) ≠ 0)
    · split at h
      · unfold numR at h
        dsimp only at h
        split at h
        · cases h
        · cases h; exact (by decide:(2:Int) ≠ 0)
      · split at h
        · have go:∀ k i acc,textGo s a k i acc = .tok t e → t.kind = 3:=by
            intro k
            induction k with
            | zero=>intro i acc h; cases h
            | succ k ih =>
              intro i acc h
              unfold textGo at h
              split at h
              · cases h
              · split at h
                · cases h
                · split at h
                  · exact ih _ _ h
                  · split at h
                    · exact ih _ _ h
                    · split at h
                      · cases h
                      · cases h; rfl
          rw [go _ _ _ h]; decide
        · unfold markR at h
          split at h
          · cases h
          · cases h; show (4:Int) ≠ 0; decide
theorem scanGo_kinds {s:List UInt8}:∀ f i T L,scanGo s f i T = .ok (L ++ [⟨0,[],0,Int.ofNat s.length⟩]) → (∀ t ∈ T,t.kind ≠ 0) → ∀ t ∈ L,t.kind ≠ 0
  | 0,i,T,L,h,_=>nomatch h
  | f + 1,i,T,L,h,hT=>by
    rw [scanGo] at h
    try dsimp only at h
    split at h
    · split at h
      · cases h
      · have h:=SR.ok.inj h
        rw [(List.append_inj' h rfl).1] at hT
        exact hT
    · split at h
      · cases h
      · rename_i t e ho
        split at h
        · cases h
        · exact scanGo_kinds f e (T ++ [t]) L h fun u hu=>by
            rcases List.mem_append.1 hu with hu | hu
            · exact hT u hu
            · rw [List.mem_singleton.1 hu]; exact oneR_kind ho
theorem scan_kinds {s:List UInt8} {L:List Tok} (h:scanR s = .ok (L ++ [⟨0,[],0,Int.ofNat s.length⟩])):∀ t ∈ L,t.kind ≠ 0:=by
  unfold scanR at h
  split at h
  · cases h
  · exact scanGo_kinds _ _ _ _ h (by simp)
end Go.Proofs.Ytfdcjngclelnhaa
namespace Go.Proofs.Ytfdcjngclelnhaa
open Go
theorem isW_select:isW w_select = true:=by kernel_rfl
theorem sel_first {T:List Tok} {R:Recs} {r d:Nat} (h:pSees T 1 w_select 0 = true):∃ a e,exprF isW T R r d 0 = .err a e:=by
  unfold pSees at h
  simp only [Bool.and_eq_true,beq_iff_eq] at h
  obtain ⟨h1,h2⟩:=h
  have no4:∀ w,pSees T 4 w 0 = false:=fun w=>by unfold pSees; rw [h1]; rfl
  have no1:∀ w,(w_select == w) = false → pSees T 1 w 0 = false:=fun w hw=>by unfold pSees; rw [h2,hw,Bool.and_false]
  have hn:pName isW T 0 = noGo T 0 10:=by unfold pName; rw [h1,h2,isW_select]; rfl
  have hcol:columnF isW T R (d + 1) 0 = .err (tk T 0).at_ 10:=by unfold columnF seqO; rw [hn]; rfl
  have hprim:primF isW T R (d + 1) 0 = .err (tk T 0).at_ 10:=by
    unfold primF ifO
    rw [h1,no1 w_null (by decide),no1 w_true (by decide),no1 w_false (by decide),no4,no1 w_case (by decide),no1 w_exists (by decide),no4]
    exact hcol
  have hun:unaryF isW T R (d + 1) 0 = .err (tk T 0).at_ 10:=by unfold unaryF ifO; rw [no4]; exact hprim
  have hpr:prodF isW T R r (d + 1) 0 = .err (tk T 0).at_ 10:=by unfold prodF seqO; rw [hun]; rfl
  have hsu:sumF isW T R r (d + 1) 0 = .err (tk T 0).at_ 10:=by unfold sumF seqO; rw [hpr]; rfl
  have hcm:cmpF isW T R r (d + 1) 0 = .err (tk T 0).at_ 10:=by unfold cmpF seqO; rw [hsu]; rfl
  have hno:notF isW T R r (d + 1) 0 = .err (tk T 0).at_ 10:=by unfold notF ifO; rw [no1 w_not (by decide)]; exact hcm
  have han:andF isW T R r (d + 1) 0 = .err (tk T 0).at_ 10:=by unfold andF seqO; rw [hno]; rfl
  have hor:orF isW T R r (d + 1) 0 = .err (tk T 0).at_ 10:=by unfold orF seqO; rw [han]; rfl
  unfold exprF seqO pDeep
  split
  · exact ⟨_,_,rfl⟩
  · exact ⟨_,_,hor⟩
end Go.Proofs.Ytfdcjngclelnhaa
namespace Go.Proofs.Ytfdcjngclelnhaa
open Go
theorem loop_end {T:List Tok} {kk:Int} (hk:kk ≠ 0) {l:List (List UInt8)} {rest:Nat → Out D} {i:Nat} (h:(tk T i).kind = 0):∀ r x,pLoop (opIn T kk l) rest r x i = .ok x i
  | 0,x=>rfl
  | r + 1,x=>by
    have e:opIn T kk l i = none:=by
      cases hm:opIn T kk l i with
      | none=>rfl
      | some m=>exact absurd ((opIn_kind l hm).symm.trans h) hk
    unfold pLoop
    rw [e]
theorem sees_end {T:List Tok} {kk:Int} (hk:kk ≠ 0) {w:List UInt8} {i:Nat} (h:(tk T i).kind = 0):pSees T kk w i = false:=by
  unfold pSees
  rw [h,show ((0:Int) == kk) = false by simpa using fun e=>hk e.symm,Bool.false_and]
theorem expr_prim {T:List Tok} {R:Recs} {r:Nat} {d:Nat} (hd:d + 1 ≤ 40) (n1:pSees T 1 w_not 0 = false) (n2:pSees T 4 [45] 0 = false) {o:Out D} (h:primF isW T R (d + 1) 0 = o) (hend:∀ v i,o = .ok v i → (tk T i).kind = 0):exprF isW T R r d 0 = o:=by
  have hun:unaryF isW T R (d + 1) 0 = o:=by unfold unaryF ifO; rw [n2]; exact h
  cases o with
  | err a e =>
    have hpr:prodF isW T R r (d + 1) 0 = .err a e:=by unfold prodF seqO; rw [hun]; rfl
    have hsu:sumF isW T R r (d + 1) 0 = .err a e:=by unfold sumF seqO; rw [hpr]; rfl
    have hcm:cmpF isW T R r (d + 1) 0 = .err a e:=by unfold cmpF seqO; rw [hsu]; rfl
    have hno:notF isW T R r (d + 1) 0 = .err a e:=by unfold notF ifO; rw [n1]; exact hcm
    have han:andF isW T R r (d + 1) 0 = .err a e:=by unfold andF seqO; rw [hno]; rfl
    have hor:orF isW T R r (d + 1) 0 = .err a e:=by unfold orF seqO; rw [han]; rfl
    unfold exprF seqO pDeep
    rw [if_neg (by omega)]; exact hor
  | ok v i =>
    have he:=hend v i rfl
    have hpr:prodF isW T R r (d + 1) 0 = .ok v i:=by unfold prodF seqO; rw [hun]; exact loop_end (by decide) he _ _
    have hsu:sumF isW T R r (d + 1) 0 = .ok v i:=by unfold sumF seqO; rw [hpr]; exact loop_end (by decide) he _ _
    have hcm:cmpF isW T R r (d + 1) 0 = .ok v i:=by
      unfold cmpF seqO
      rw [hsu]
      show cmp1F T R (d + 1) v i = _
      have e:opIn T 4 opsCmp i = none:=by
        cases hm:opIn T 4 opsCmp i with
        | none=>rfl
        | some m=>exact absurd ((opIn_kind _ hm).symm.trans he) (by decide)
      unfold cmp1F
      rw [e]
      show cmp2F T R (d + 1) v i = _
      unfold cmp2F ifO
      rw [sees_end (by decide) he,sees_end (by decide) he,sees_end (by decide) he]
      rfl
    have hno:notF isW T R r (d + 1) 0 = .ok v i:=by unfold notF ifO; rw [n1]; exact hcm
    have han:andF isW T R r (d + 1) 0 = .ok v i:=by unfold andF seqO; rw [hno]; exact loop_end (by decide) he _ _
    have hor:orF isW T R r (d + 1) 0 = .ok v i:=by unfold orF seqO; rw [han]; exact loop_end (by decide) he _ _
    unfold exprF seqO pDeep
    rw [if_neg (by omega)]; exact hor
end Go.Proofs.Ytfdcjngclelnhaa
namespace Go.Proofs.Ytfdcjngclelnhaa
open Go
theorem round_read {s:List UInt8} {L T:List Tok} (hT:T = L ++ [⟨0,[],0,Int.ofNat s.length⟩]) (hE:Ends T) (hk:∀ t ∈ L,t.kind ≠ 0) {v:D} {i:Nat} (h:readAll T ((recs isW T T.length).expr 0) = .ok v i) :
    (∃ j,readAll (brT s L) ((recs isW (brT s L) (brT s L).length).expr 0) = .ok v j) ∨ ∃ a,readAll (brT s L) ((recs isW (brT s L) (brT s L).length).expr 0) = .err a 9:=by
  have hw:Wr T (brT s L):=by subst hT; exact brT_wr hE
  have hlen:(brT s L).length = T.length + 1 + 1:=by subst hT; simp [brT]
  have hTl:T.length = L.length + 1:=by subst hT; simp
  cases hx:(recs isW T T.length).expr 0 0 with
  | err a e=>unfold readAll at h; rw [hx] at h; cases h
  | ok w j =>
    have hj:(tk T j).kind = 0 ∧ w = v:=by
      unfold readAll at h
      rw [hx] at h
      simp only [Out.bind] at h
      split at h
      · rename_i hz; cases h; exact ⟨eq_of_beq hz,rfl⟩
      · cases h
    obtain ⟨hj0,rfl⟩:=hj
    obtain ⟨_,g2,g3⟩:=(b_all (isW:=isW) hw T.length (T.length + 1) (by omega)).expr 0 0 w j (by omega) (by omega) hx
    have hjl:j = L.length:=by
      rcases Nat.lt_or_ge j L.length with q | q
      · have e1:tk T j = L[j]:=by
          subst hT
          unfold tk
          rw [List.getD_eq_getElem?_getD,List.getElem?_append_left q,List.getElem?_eq_getElem q]; rfl
        rw [e1] at hj0
        exact absurd hj0 (hk _ (List.getElem_mem _))
      · omega
    have t0:tk (brT s L) 0 = opT:=rfl
    have te:tk (brT s L) (T.length + 1) = enT s:=by
      unfold tk brT
      rw [hTl,List.getD_eq_getElem?_getD,List.cons_append,List.getElem?_cons_succ,List.getElem?_append_right (by simp)]
      simp
    have no1:∀ w,pSees (brT s L) 1 w 0 = false:=fun w=>by unfold pSees; rw [t0]; rfl
    have no4:∀ w,([40] == w) = false → pSees (brT s L) 4 w 0 = false:=fun w hw=>by unfold pSees; rw [t0]; exact hw
    have op:pSees (brT s L) 4 [40] 0 = true:=by unfold pSees; rw [t0]; rfl
    have nosel:pSees (brT s L) 1 w_select 1 = false:=by
      rw [hw.sees (i:=0) (by decide) (by decide) (by omega)]
      cases hs:pSees T 1 w_select 0 with
      | false=>rfl
      | true =>
        obtain ⟨r,hr⟩:∃ r,T.length = r + 1:=⟨L.length,hTl⟩
        rw [hr] at hx
        obtain ⟨a,e,q⟩:=sel_first (R:=recs isW T r) (r:=r + 1) (d:=0) hs
        exact absurd (hx.symm.trans q) (by intro c; cases c)
    have cl:pSees (brT s L) 4 [41] (j + 1) = true:=by
      have:=hw.close
      unfold pSees
      rw [hjl,← hTl,this.1,this.2]; rfl
    have hprim:primF isW (brT s L) (recs isW (brT s L) (T.length + 1)) 1 0 = ((recs isW (brT s L) (T.length + 1)).expr 1 1).bind fun x=>seqO (pMust (brT s L) 4 [41]) fun _=>retO x:=by
      unfold primF ifO
      rw [t0,no1,no1,no1,no4 _ (by decide),no1,no1,op]
      show roundF (brT s L) (recs isW (brT s L) (T.length + 1)) 1 1 = _
      unfold roundF seeO
      rw [nosel]; rfl
    have key:∀ o,((recs isW (brT s L) (T.length + 1)).expr 1 1).bind (fun x=>seqO (pMust (brT s L) 4 [41]) fun _=>retO x) = o → (∀ u q,o = .ok u q → (tk (brT s L) q).kind = 0) → (recs isW (brT s L) (brT s L).length).expr 0 0 = o:=fun o ho hend=>by
      rw [hlen]
      exact expr_prim (by decide) (no1 _) (no4 _ (by decide)) (hprim.trans ho) hend
    rcases g3 with g3 | ⟨a,g3⟩
    · refine Or.inl ⟨T.length + 1,?_⟩
      have:=key (.ok w (T.length + 1)) (by rw [g3]; show (if pSees (brT s L) 4 [41] (j + 1) = true then Out.ok () (j + 1 + 1) else noGo (brT s L) (j + 1) 10).bind (fun _=>retO w) = _; rw [if_pos cl,hjl,← hTl]; rfl) (fun u q e=>by cases e; rw [te]; rfl)
      unfold readAll
      rw [this]
      show (if (tk (brT s L) (T.length + 1)).kind == 0 then _ else _) = _
      rw [te]; rfl
    · refine Or.inr ⟨a,?_⟩
      have:=key (.err a 9) (by rw [g3]; rfl) (fun u q e=>by cases e)
      unfold readAll
      rw [this]; rfl
end Go.Proofs.Ytfdcjngclelnhaa
namespace Go.Proofs.Ytfdcjngclelnhaa
open Go
theorem expr_err {T:List Tok} (hT:TOk T) {a e:Int} (h:readAll T (exprR T) = .err a e):e ≠ 0:=by
  have hl:=hT.len
  have h0:0 < T.length:=hT.ends.1
  obtain ⟨⟨v,st⟩,ho,m,hs,hi,hg,hm⟩:=(s_all hT T.length (by omega)).expr 1500000 (by omega) 0 (by omega) T.length (Nat.le_refl _) (.ok 0) ⟨h0,by omega⟩
  dsimp only at hs hg hm
  unfold readAll exprR at h
  cases hr:(recs isW T T.length).expr 0 0 with
  | ok w j =>
    simp only [hr,Out.bind] at h
    split at h
    · cases h
    · cases h; decide
  | err a' e' =>
    simp only [hr,Out.bind] at h
    cases h
    simp only [Mix.sp,hr] at hm
    obtain ⟨_,_,rfl⟩:=hm
    exact hi.2
theorem round_cases {s:List UInt8} (hs:s.length ≤ 9000) :
    (readR zE exprR (scanR s)).2.2 ≠ 0 ∨ (readR zE exprR (scanR (brk s))).2.2 = 8 ∨ (readR zE exprR (scanR (brk s))).2.2 = 9 ∨
    ((readR zE exprR (scanR s)).2.2 = 0 ∧ (readR zE exprR (scanR (brk s))).2.2 = 0 ∧ (readR zE exprR (scanR (brk s))).1 = (readR zE exprR (scanR s)).1):=by
  cases h:scanR s with
  | bad p e=>exact Or.inl (scan_bad h)
  | ok T =>
    cases hr:readAll T (exprR T) with
    | err a e=>exact Or.inl (by show (resD zE (readAll T (exprR T))).2.2 ≠ 0; rw [hr]; exact expr_err (scan_tok h) hr)
    | ok v i =>
      refine Or.inr ?_
      obtain ⟨L,hL,hb⟩:=scan_brk hs h
      rcases hb with hb | ⟨p,hb⟩
      · have hk:∀ t ∈ L,t.kind ≠ 0:=scan_kinds (by rw [← hL]; exact h)
        have e1:readR zE exprR (scanR (brk s)) = resD zE (readAll (brT s L) (exprR (brT s L))):=by rw [hb]; rfl
        have e2:readR zE exprR (.ok T) = resD zE (readAll T (exprR T)):=rfl
        rw [e1,e2,hr]
        rcases round_read hL (scan_tok h).ends hk hr with ⟨j,q⟩ | ⟨a,q⟩
        · refine Or.inr (Or.inr ⟨rfl,?_,?_⟩) <;> · rw [show readAll (brT s L) (exprR (brT s L)) = .ok v j from q]; rfl
        · exact Or.inr (Or.inl (by rw [show readAll (brT s L) (exprR (brT s L)) = .err a 9 from q]; rfl))
      · exact Or.inl (by rw [hb]; rfl)
end Go.Proofs.Ytfdcjngclelnhaa
