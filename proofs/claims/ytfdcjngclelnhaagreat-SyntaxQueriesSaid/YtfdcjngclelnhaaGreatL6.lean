/- Part of a proof. -/
import Derived.Test.YtfdcjngclelnhaaGreatL22
import Derived.Test.YtfdcjngclelnhaaGreatL14
set_option linter.unusedSectionVars false
set_option linter.unusedSimpArgs false
set_option linter.unusedVariables false
namespace Go.Proofs.YtfdcjngclelnhaaGreat
open Go
set_option maxRecDepth 100000
set_option maxHeartbeats 2000000
section
variable {s:List UInt8} (hs:s.length ≤ 20000) {n a:Nat}
def vS (s:List UInt8) (T:List Tok) (i:Nat) (y:D):k_Scan_V:=match T with
  | []=>.l0 s (Int.ofNat i)
  | x :: l=>.l2 s ((x :: l).map Tok.d) (Int.ofNat i) y (x :: l).length
def vC (s:List UInt8) (T:List Tok) (i:Nat) (y:D):k_Scan_V:=match T with
  | []=>.l1 s (Int.ofNat i)
  | x :: l=>.l3 s ((x :: l).map Tok.d) (Int.ofNat i) y (x :: l).length
theorem dash {c:UInt8} {j:Nat} {X Y:Prop}:cnd (c.toNat == 45) (cnd (decide (Int.ofNat (j + 1) < Int.ofNat s.length)) (cnd (decide (Int.ofNat (j + 1) < 0)) False (bn (s[j + 1]?) fun x=>cnd (x.toNat == 45) X Y)) Y) Y = if (c.toNat == 45 && s[j + 1]? == some 45) = true then X else Y:=by
  cases c.toNat == 45 with
  | false=>rfl
  | true =>
    rw [cnd_true,Bool.true_and,ltN,negN,cnd_false]
    rcases Nat.lt_or_ge (j + 1) s.length with h | h
    · rw [decide_eq_true h,cnd_true,List.getElem?_eq_getElem h,bn_some,show ((s[j + 1]).toNat == 45) = (s[j + 1] == 45) from (byte_eq (by decide)).symm]
      by_cases hx:s[j + 1] = 45
      · rw [hx]; rfl
      · have e1:(s[j + 1] == 45) = false:=by simpa using hx
        have e2:(some s[j + 1] == some 45) = false:=by simpa using hx
        rw [e1,e2]; rfl
    · rw [decide_eq_false (by omega),cnd_false,List.getElem?_eq_none h]; rfl
include hs
theorem kcom {q:D × Int × Int → Prop} {T:List Tok} {y:D}:∀ k i,i + k = s.length → ∀ n',loopN (k_Scan_st (fns n) q) (n' + (spanE (fun n=>n != 10) s k i - i) + 1) (vC s T i y) = loopN (k_Scan_st (fns n) q) n' (vS s T (spanE (fun n=>n != 10) s k i) y):=by
  intro k
  induction k with
  | zero =>
    intro i hi n'
    have e:decide (i < s.length) = false:=by simp; omega
    rw [spanE,Nat.sub_self,Nat.add_zero]
    cases T <;> simp only [vC,vS,loopN_s,k_Scan_st,ltN,e,cnd_false]
  | succ k ih =>
    intro i hi n'
    have hlt:i < s.length:=by omega
    have hc:s[i]? = some s[i]:=List.getElem?_eq_getElem hlt
    have hge:=spanE_ge (p:=fun n=>n != 10) (s:=s) k (i + 1)
    have h0:=ih (i + 1) (by omega) n'
    rw [spanE,hc]
    try dsimp only
    cases hp:(s[i]).toNat != 10 with
    | true =>
      simp only [if_true]
      rw [← h0,show spanE (fun n=>n != 10) s k (i + 1) - i = (spanE (fun n=>n != 10) s k (i + 1) - (i + 1)) + 1 by omega,← Nat.add_assoc]
      cases T <;> simp only [vC,loopN_s (n:=n' + (spanE (fun n=>n != 10) s k (i + 1) - (i + 1)) + 1),k_Scan_st,ltN,decide_eq_true hlt,cnd_true,negN,cnd_false,toN,hc,bn_some,bneL,hp,one_more (show i ≤ 200000 by omega)]
    | false =>
      simp only [Bool.false_eq_true,if_false,Nat.sub_self,Nat.add_zero]
      cases T <;> simp only [vC,vS,loopN_s,k_Scan_st,ltN,decide_eq_true hlt,cnd_true,negN,cnd_false,toN,hc,bn_some,bneL,hp]
def Stop (s:List UInt8) (j:Nat):Prop:=∀ c,s[j]? = some c → blankN c.toNat = false ∧ (c.toNat == 45 && s[j + 1]? == some 45) = false
theorem kpass {q:D × Int × Int → Prop} {T:List Tok} {y:D} (hn:1 ≤ n):∀ m i k,s.length - i ≤ m → s.length - i ≤ k → i ≤ s.length →
    Stop s (passE s k i) ∧ ∃ d,d ≤ 3 * (passE s k i - i) ∧ ∀ n',loopN (k_Scan_st (fns n) q) (n' + d) (vS s T i y) = loopN (k_Scan_st (fns n) q) n' (vS s T (passE s k i) y):=by
  intro m
  induction m using Nat.strongRecOn with
  | ind m IH =>
    intro i k hm hk hi
    rcases Nat.lt_or_ge i s.length with h | h
    · obtain ⟨k,rfl⟩:∃ z,k = z + 1:=⟨k - 1,by omega⟩
      have hc:s[i]? = some s[i]:=List.getElem?_eq_getElem h
      have kb:=k_blank_ (n:=n) (m:=(s[i]).toNat) hn
      have ew:=one_more (show i ≤ 200000 by omega)
      rw [passE,hc]
      try dsimp only
      cases hb:blankN (s[i]).toNat with
      | true =>
        simp only [if_true]
        obtain ⟨g1,d,g2,g3⟩:=IH (m - 1) (by omega) (i + 1) k (by omega) (by omega) (by omega)
        have hge:=passE_ge (s:=s) k (i + 1)
        refine ⟨g1,d + 1,by omega,fun n'=>?_⟩
        rw [← g3 n',← Nat.add_assoc]
        cases T <;> simp only [vS,loopN_s (n:=n' + d),k_Scan_st,ltN,decide_eq_true h,cnd_true,negN,cnd_false,toN,hc,bn_some,kb,hb,ew]
      | false =>
        simp only [Bool.false_eq_true,if_false]
        cases h2:((s[i]).toNat == 45 && s[i + 1]? == some 45) with
        | true =>
          simp only [if_true]
          have hge:i + 1 ≤ nlE s i:=by
            unfold nlE
            rw [show s.length - i = (s.length - i - 1) + 1 by omega,spanE,hc]
            have:(s[i]).toNat = 45:=eq_of_beq (Bool.and_eq_true_iff.1 h2).1
            simp only [this,bne,show ((45:Nat) == 10) = false from rfl,Bool.not_false,if_true]
            exact spanE_ge _ _
          have hle:nlE s i ≤ s.length:=spanE_le _ _ hi
          obtain ⟨g1,d,g2,g3⟩:=IH (m - (nlE s i - i)) (by omega) (nlE s i) k (by omega) (by omega) hle
          have hge2:=passE_ge (s:=s) k (nlE s i)
          refine ⟨g1,d + (nlE s i - i) + 1 + 1,by omega,fun n'=>?_⟩
          have hcm:=kcom hs (n:=n) (q:=q) (T:=T) (y:=y) (s.length - i) i (by omega) (n' + d)
          rw [← g3 n']
          refine Eq.trans ?_ hcm
          rw [show n' + (d + (nlE s i - i) + 1 + 1) = (n' + d + (spanE (fun n=>n != 10) s (s.length - i) i - i) + 1) + 1 by unfold nlE; omega]
          cases T <;> simp only [vS,vC,loopN_s (n:=n' + d + (spanE (fun n=>n != 10) s (s.length - i) i - i) + 1),k_Scan_st,ltN i,decide_eq_true h,cnd_true,negN i,cnd_false,toN,hc,bn_some,kb,hb,ew,beqL,dash,h2,if_true]
        | false =>
          simp only [Bool.false_eq_true,if_false]
          refine ⟨fun c hc'=>?_,0,by omega,fun n'=>rfl⟩
          rw [hc] at hc'
          cases hc'
          exact ⟨hb,h2⟩
    · rw [passE_end hs h]
      refine ⟨fun c hc=>?_,0,by omega,fun n'=>rfl⟩
      rw [List.getElem?_eq_none h] at hc
      cases hc
theorem kscan_loop (hn:40400 ≤ n) {q:D × Int × Int → Prop}:∀ f i T y n',s.length + 1 ≤ i + f → i ≤ s.length → T.length ≤ 6000 → 4 * (s.length - i) + 4 ≤ n' →
    loopN (k_Scan_st (fns n) q) n' (vS s T i y) = q (scanD (scanGo s f i T)):=by
  intro f
  induction f with
  | zero=>intro i T y n' h1 h2; omega
  | succ f ih =>
    intro i T y n' h1 h2 hT hn'
    obtain ⟨hstop,d,hd,hl⟩:=kpass hs (n:=n) (q:=q) (T:=T) (y:=y) (by omega) (s.length - i) i (s.length - i) (Nat.le_refl _) (Nat.le_refl _) h2
    have hge:=passE_ge (s:=s) (s.length - i) i
    have hle:=passE_le (s:=s) (s.length - i) i h2
    rw [scanGo]
    try dsimp only
    generalize passE s (s.length - i) i = j at hstop hd hl hge hle ⊢
    obtain ⟨n1,rfl⟩:∃ n1,n' = n1 + 1 + d:=⟨n' - d - 1,by omega⟩
    rw [hl (n1 + 1)]
    have e10:((10:Int) != 0) = true:=rfl
    have e0:((0:Int) != 0) = false:=rfl
    have ge6:∀ m:Nat,decide (Int.ofNat m ≥ 6000) = decide (6000 ≤ m):=fun m=>geL m 6000
    have hroom:∀ l:List Tok,l.length < 6000 → roomOk (l.length + 1) 40 = true:=fun l hl=>room_ok (by omega) (by decide)
    by_cases hj:s.length ≤ j
    · have hj':j = s.length:=by omega
      subst hj'
      rw [if_pos (Nat.le_refl _)]
      by_cases h6:6000 ≤ T.length
      · rw [if_pos h6]
        cases T with
        | nil=>simp at h6
        | cons x l=>simp only [vS,loopN_s,k_Scan_st,lt_no,cnd_false,List.length_map,ge6,decide_eq_true h6,cnd_true,scanD]
      · rw [if_neg h6]
        cases T with
        | nil =>
          simp only [vS,loopN_s,k_Scan_st,lt_no,cnd_false]
          rfl
        | cons x l =>
          have hr:=hroom (x :: l) (by omega)
          simp only [vS,loopN_s,k_Scan_st,lt_no,cnd_false,List.length_map,ge6,decide_eq_false h6,beq_self_eq_true,an_true,hr]
          simp only [scanD,tD,List.map_append,List.map_cons,List.map_nil,Tok.d]
    · rw [if_neg hj]
      have hjl:j < s.length:=by omega
      have hc:s[j]? = some s[j]:=List.getElem?_eq_getElem hjl
      obtain ⟨hb,h2'⟩:=hstop _ hc
      have kb:=k_blank_ (n:=n) (m:=(s[j]).toNat) (by omega)
      have ew:=one_more (show j ≤ 200000 by omega)
      have hone:=k_one_ hs (n:=n) (by omega) hjl
      have h2f:¬ (((s[j]).toNat == 45 && s[j + 1]? == some 45) = true):=by rw [h2']; decide
      have zok:okG 107 zTok = true:=okTok (t:=⟨0,[],0,0⟩)
      cases ho:oneR s j with
      | bad p =>
        rw [ho] at hone
        try dsimp only
        cases T <;> simp only [vS,loopN_s,k_Scan_st,ltN j,decide_eq_true hjl,cnd_true,negN j,cnd_false,toN,hc,bn_some,kb,hb,ew,beqL,hone,oneK,zok,an_true,e10,dash,if_neg h2f,scanD]
      | tok t e =>
        rw [ho] at hone
        obtain ⟨g1,g2,g3⟩:=oneR_end hjl ho
        try dsimp only
        by_cases h6:6000 ≤ T.length
        · rw [if_pos h6]
          cases T with
          | nil=>simp at h6
          | cons x l=>simp only [vS,loopN_s,k_Scan_st,ltN j,decide_eq_true hjl,cnd_true,negN j,cnd_false,toN,hc,bn_some,kb,hb,ew,beqL,hone,oneK,okTok,an_true,e0,List.length_map,ge6,decide_eq_true h6,dash,if_neg h2f,scanD]
        · rw [if_neg h6]
          have h0:=fun y'=>ih e (T ++ [t]) y' n1 (by omega) g2 (by simp; omega) (by omega)
          cases T with
          | nil =>
            rw [← h0 t.d]
            simp only [vS,loopN_s,k_Scan_st,ltN j,decide_eq_true hjl,cnd_true,negN j,cnd_false,toN,hc,bn_some,kb,hb,ew,beqL,hone,oneK,okTok,an_true,e0,dash,if_neg h2f,G_ok okTok]
            rfl
          | cons x l =>
            rw [← h0 y]
            have hr:roomOk (l.length + 1 + 1) 40 = true:=hroom (x :: l) (by omega)
            have h6':decide (6000 ≤ l.length + 1) = false:=decide_eq_false h6
            simp only [vS,loopN_s,k_Scan_st,ltN j,decide_eq_true hjl,cnd_true,negN j,cnd_false,toN,hc,bn_some,kb,hb,ew,beqL,hone,oneK,okTok,an_true,e0,List.length_map,ge6,h6',beq_self_eq_true,hr,dash,if_neg h2f,G_ok okTok,List.cons_append,List.map_append,List.map_cons,List.map_nil,List.length_cons,List.length_append,List.length_nil]
end
theorem k_Scan_ {n:Nat} (hn:80500 ≤ n) {s:List UInt8}:(fns n).k_Scan s = some (scanD (scanR s)):=by
  obtain ⟨n,rfl,hp⟩:=pos hn
  refine rawN_eq enc35_inj fun q=>?_
  have eg:decide (Int.ofNat s.length > 20000) = decide (20000 < s.length):=gtL _ 20000
  unfold scanR
  by_cases h:s.length > 20000
  · rw [if_pos h]
    simp only [loopN_s,k_Scan_st,eg,decide_eq_true h,cnd_true]
    rfl
  · rw [if_neg h]
    simp only [loopN_s (n:=n),k_Scan_st,eg,decide_eq_false h,cnd_false]
    exact kscan_loop (by omega) (n:=n) (by omega) (q:=q) (s.length + 1) 0 [] .nils n (by omega) (by omega) (by simp) (by omega)
def tokOk (t:Tok):Prop:=(t.kind = 1 → firstL t.text = true) ∧ (t.kind = 4 → firstL t.text = false)
theorem oneR_tok {s:List UInt8} {a:Nat} (ha:a < s.length) {t:Tok} {e:Nat} (h:oneR s a = .tok t e):tokOk t:=by
  have hc:s[a]? = some s[a]:=List.getElem?_eq_getElem ha
  have hd:s.drop a = s[a] :: s.drop (a + 1):=List.drop_eq_getElem_cons ha
  have he:=(oneR_end ha h).1
  have fst:∀ {e},a < e → firstL (sl s a e) = letterN (s[a]).toNat:=fun {e} he=>by
    unfold sl
    rw [hd,show e - a = (e - a - 1) + 1 by omega,List.take_succ_cons]; rfl
  unfold oneR at h
  rw [hc] at h
  dsimp only at h
  split at h
  · rename_i hl
    unfold nameR at h
    dsimp only at h
    split at h
    · cases h
    · cases h
      exact ⟨fun _=>by rw [fst he]; exact hl,fun hk=>absurd (show (1:Int) = 4 from hk) (by decide)⟩
  · rename_i hl
    split at h
    · unfold numR at h
      dsimp only at h
      split at h
      · cases h
      · cases h; exact ⟨fun hk=>absurd (show (2:Int) = 1 from hk) (by decide),fun hk=>absurd (show (2:Int) = 4 from hk) (by decide)⟩
    · split at h
      · have go:∀ k i acc,textGo s a k i acc = .tok t e → t.kind = 3:=by
          intro k
          induction k with
          | zero=>intro i acc h; cases h
          | succ k ih =>
            intro i acc h
            unfold textGo at h
            split at h
            · cases h
            · split at h
              · cases h
              · split at h
                · exact ih _ _ h
                · split at h
                  · exact ih _ _ h
                  · split at h
                    · cases h
                    · cases h; rfl
        have:=go _ _ _ h
        exact ⟨fun hk=>absurd (this.symm.trans hk) (by decide),fun hk=>absurd (this.symm.trans hk) (by decide)⟩
      · unfold markR at h
        split at h
        · cases h
        · cases h
          refine ⟨fun hk=>absurd (show (4:Int) = 1 from hk) (by decide),fun _=>?_⟩
          rw [fst he]
          simpa using hl
theorem scanGo_ok {s:List UInt8}:∀ f i T,i ≤ s.length → (∀ t ∈ T,tokOk t) → T.length ≤ 6000 → ∀ T',scanGo s f i T = .ok T' → (∀ t ∈ T',tokOk t) ∧ T'.length ≤ 6001 ∧ ∃ l,T' = l ++ [⟨0,[],0,Int.ofNat s.length⟩]
  | 0,i,T,_,_,_,T',h=>nomatch h
  | f + 1,i,T,hi,hT,hl,T',h=>by
    have hle:=passE_le (s:=s) (s.length - i) i hi
    rw [scanGo] at h
    try dsimp only at h
    generalize passE s (s.length - i) i = j at hle h
    split at h
    · split at h
      · cases h
      · cases h
        refine ⟨fun t ht=>?_,by simp; omega,T,rfl⟩
        rcases List.mem_append.1 ht with ht | ht
        · exact hT t ht
        · rw [List.mem_singleton.1 ht]
          exact ⟨fun hk=>absurd (show (0:Int) = 1 from hk) (by decide),fun hk=>absurd (show (0:Int) = 4 from hk) (by decide)⟩
    · split at h
      · cases h
      · rename_i t e ho
        split at h
        · cases h
        · exact scanGo_ok f e (T ++ [t]) (oneR_end (by omega) ho).2.1 (fun t' ht'=>by
            rcases List.mem_append.1 ht' with ht' | ht'
            · exact hT t' ht'
            · rw [List.mem_singleton.1 ht']; exact oneR_tok (by omega) ho) (by simp; omega) T' h
theorem scan_tok {s:List UInt8} {T:List Tok} (h:scanR s = .ok T):TOk T:=by
  unfold scanR at h
  split at h
  · cases h
  · obtain ⟨h1,h2,l,rfl⟩:=scanGo_ok (s.length + 1) 0 [] (by omega) (by simp) (by simp) T h
    have hat:∀ i,tokOk (tk (l ++ [⟨0,[],0,Int.ofNat s.length⟩]) i):=fun i=>by
      unfold tk
      rw [List.getD_eq_getElem?_getD]
      cases hg:(l ++ [(⟨0,[],0,Int.ofNat s.length⟩:Tok)])[i]? with
      | none=>exact ⟨fun hk=>absurd (show (0:Int) = 1 from hk) (by decide),fun hk=>absurd (show (0:Int) = 4 from hk) (by decide)⟩
      | some t=>exact h1 t (List.mem_of_getElem? hg)
    refine ⟨⟨by simp,?_⟩,by omega,fun i=>(hat i).1,fun i=>(hat i).2⟩
    unfold tk
    rw [List.getD_eq_getElem?_getD,show (l ++ [(⟨0,[],0,Int.ofNat s.length⟩:Tok)]).length - 1 = l.length by simp,List.getElem?_append_right (Nat.le_refl _)]
    simp
end Go.Proofs.YtfdcjngclelnhaaGreat
namespace Go.Proofs.YtfdcjngclelnhaaGreat
open Go
def Yi {α:Type} (P:α → Prop) (f:Nat → Out α):Prop:=∀ i v j,f i = .ok v j → P v
section
variable {α β:Type} {P:α → Prop} {Q:β → Prop} {T:List Tok} {kk:Int} {s:List UInt8}
theorem Yi.any {f:Nat → Out α}:Yi (fun _=>True) f:=fun _ _ _ _=>trivial
theorem Yi.ret {v:α} (h:P v):Yi P (retO v):=fun i w j e=>by cases e; exact h
theorem Yi.seq {f:Nat → Out α} {g:α → Nat → Out β} (hf:Yi P f) (hg:∀ v,P v → Yi Q (g v)):Yi Q (seqO f g):=fun i v j e=>by
  unfold seqO at e
  cases hx:f i with
  | ok w i'=>rw [hx] at e; exact hg w (hf i w i' hx) i' v j e
  | err a b=>rw [hx] at e; cases e
theorem Yi.skip {f:Nat → Out α} {g:α → Nat → Out β} (hg:∀ v,Yi Q (g v)):Yi Q (seqO f g):=Yi.seq Yi.any fun v _=>hg v
theorem Yi.if_ {A Z:Nat → Out α} (h1:Yi P A) (h2:Yi P Z):Yi P (ifO T kk s A Z):=fun i v j e=>by
  unfold ifO at e
  split at e
  · exact h1 _ _ _ e
  · exact h2 _ _ _ e
theorem Yi.see {A Z:Nat → Out α} (h1:Yi P A) (h2:Yi P Z):Yi P (seeO T kk s A Z):=fun i v j e=>by
  unfold seeO at e
  split at e
  · exact h1 _ _ _ e
  · exact h2 _ _ _ e
theorem Yi.ite {c:Prop} [Decidable c] {A Z:Nat → Out α} (h1:Yi P A) (h2:Yi P Z):Yi P (if c then A else Z):=by
  split
  · exact h1
  · exact h2
end
theorem W.one {k e:Nat} {x:D} (hk:el k = some e) (h:W e x):W k (one1 x):=.sl hk (by simp) fun y hy=>by rw [List.mem_singleton.1 hy]; exact h
theorem W.two {k e:Nat} {x y:D} (hk:el k = some e) (h1:W e x) (h2:W e y):W k (.slice [x,y]):=.sl hk (by simp) fun z hz=>by
  rcases List.mem_cons.1 hz with rfl | hz
  · exact h1
  · rw [List.mem_singleton.1 hz]; exact h2
theorem W.e0 {a n:Int} {s t:List UInt8}:W 0 (_root_.Go.Proofs.YtfdcjngclelnhaaGreat.ex a n s t .nils .nils):=.ex (.nils rfl) (.nils rfl)
theorem W.e1 {a n:Int} {s t:List UInt8} {x:D} (h:W 0 x):W 0 (_root_.Go.Proofs.YtfdcjngclelnhaaGreat.ex a n s t (one1 x) .nils):=.ex (.one rfl h) (.nils rfl)
theorem W.eq {a n:Int} {s t:List UInt8} {x:D} (h:W 2 x):W 0 (_root_.Go.Proofs.YtfdcjngclelnhaaGreat.ex a n s t .nils (one1 x)):=.ex (.nils rfl) (.one rfl h)
theorem W.bin {m:List UInt8} {x y:D} (h1:W 0 x) (h2:W 0 y):W 0 (binX m x y):=.ex (.two rfl h1 h2) (.nils rfl)
structure YR (R:Recs):Prop where
  expr:∀ d,Yi (W 0) (R.expr d)
  ands:∀ d,Yi (W 0) (R.ands d)
  nots:∀ d,Yi (W 0) (R.nots d)
  sum:∀ d,Yi (W 0) (R.sum d)
  prod:∀ d,Yi (W 0) (R.prod d)
  unary:∀ d,Yi (W 0) (R.unary d)
  query:∀ d,Yi (W 2) (R.query d)
  part:∀ d,Yi (W 2) (R.part d)
theorem y_loop {op:Nat → Option (List UInt8)} {rest:Nat → Out D} (h:Yi (W 0) rest):∀ r x,W 0 x → Yi (W 0) (pLoop op rest r x)
  | 0,x,hx=>Yi.ret hx
  | r + 1,x,hx=>fun i v j e=>by
    unfold pLoop at e
    split at e
    · rename_i m hm
      cases hy:rest (i + 1) with
      | ok y i'=>rw [hy] at e; exact y_loop h r _ (W.bin hx (h _ _ _ hy)) _ _ _ e
      | err a b=>rw [hy] at e; cases e
    · cases e; exact hx
theorem y_more {T:List Tok} {rest:Nat → Out D} {k e:Nat} (hk:el k = some e) (h:Yi (W e) rest):∀ r l,l.length + r ≤ 400000 → (∀ x ∈ l,W e x) → Yi (W k) (pMore T rest r l)
  | 0,l,hb,hl=>Yi.ret (.sl hk (by omega) hl)
  | r + 1,l,hb,hl=>Yi.if_ (Yi.seq h fun y hy=>y_more hk h r _ (by simp; omega) fun z hz=>by
      rcases List.mem_append.1 hz with hz | hz
      · exact hl z hz
      · rw [List.mem_singleton.1 hz]; exact hy) (Yi.ret (.sl hk (by omega) hl))
theorem y_list {T:List Tok} {one:Nat → Out D} {k e:Nat} {r:Nat} (hk:el k = some e) (hr:r ≤ 200000) (h:Yi (W e) one):Yi (W k) (pList T one r) :=
  Yi.seq h fun x hx=>y_more hk h r [x] (by simp; omega) fun z hz=>by rw [List.mem_singleton.1 hz]; exact hx
section
variable {isW:List UInt8 → Bool} {T:List Tok} {R:Recs} {r:Nat} (h:YR R) (hr:r ≤ 200000) (d:Nat)
include h
theorem y_bracketed:Yi (W 2) (bracketedF T R d):=Yi.skip fun _=>Yi.seq (h.query d) fun q hq=>Yi.skip fun _=>Yi.ret hq
theorem y_cases:Yi (W 0) (casesF T R d):=Yi.skip fun _=>Yi.seq (h.expr d) fun a ha=>Yi.skip fun _=>Yi.seq (h.expr d) fun b hb=>Yi.skip fun _=>Yi.seq (h.expr d) fun c hc=>Yi.skip fun _=>Yi.ret (.ex (.sl rfl (by simp) fun z hz=>by
  rcases List.mem_cons.1 hz with rfl | hz
  · exact ha
  · rcases List.mem_cons.1 hz with rfl | hz
    · exact hb
    · rw [List.mem_singleton.1 hz]; exact hc) (.nils rfl))
theorem y_round:Yi (W 0) (roundF T R d):=Yi.see (Yi.seq (h.query d) fun q hq=>Yi.skip fun _=>Yi.ret (.eq hq)) (Yi.seq (h.expr d) fun x hx=>Yi.skip fun _=>Yi.ret hx)
theorem y_agg1 {s:List UInt8}:Yi (W 0) (agg1F T R d s):=Yi.seq (h.expr d) fun x hx=>Yi.skip fun _=>Yi.ret (.e1 hx)
theorem y_agg {s:List UInt8}:Yi (W 0) (aggF T R d s):=Yi.ite (Yi.if_ (Yi.skip fun _=>Yi.ret .e0) (y_agg1 h d)) (y_agg1 h d)
omit h in
theorem y_dot {s:List UInt8}:Yi (W 0) (dotF isW T s):=Yi.if_ (Yi.skip fun _=>Yi.ret .e0) (Yi.ret .e0)
theorem y_column:Yi (W 0) (columnF isW T R d):=Yi.skip fun s=>Yi.ite (Yi.if_ (y_agg h d) y_dot) y_dot
theorem y_prim:Yi (W 0) (primF isW T R d):=fun i v j e=>by
  unfold primF at e
  split at e
  · cases e; exact .e0
  · split at e
    · cases e; exact .e0
    · exact (Yi.if_ (Yi.ret .e0) (Yi.if_ (Yi.ret .e0) (Yi.if_ (Yi.ret .e0) (Yi.if_ (Yi.skip fun _=>Yi.ret .e0) (Yi.if_ (y_cases h d) (Yi.if_ (Yi.seq (y_bracketed h d) fun q hq=>Yi.ret (.eq hq)) (Yi.if_ (y_round h d) (y_column h d)))))))) _ _ _ e
theorem y_unary:Yi (W 0) (unaryF isW T R d):=Yi.if_ (Yi.skip fun _=>Yi.seq (h.unary (d + 1)) fun x hx=>Yi.ret (.e1 hx)) (y_prim h d)
theorem y_prod:Yi (W 0) (prodF isW T R r d):=Yi.seq (y_unary h d) fun x hx=>y_loop (h.unary d) r x hx
theorem y_sum:Yi (W 0) (sumF isW T R r d):=Yi.seq (y_prod h d) fun x hx=>y_loop (h.prod d) r x hx
omit h in
theorem y_is {x:D} (hx:W 0 x):Yi (W 0) (isF T x):=Yi.if_ (Yi.skip fun _=>Yi.ret (.e1 hx)) (Yi.skip fun _=>Yi.ret (.e1 hx))
theorem y_cmp2 {x:D} (hx:W 0 x):Yi (W 0) (cmp2F T R d x):=Yi.if_ (y_is hx) (Yi.if_ (Yi.skip fun _=>Yi.seq (y_bracketed h d) fun q hq=>Yi.ret (.ex (.one rfl hx) (.one rfl hq))) (Yi.if_ (Yi.seq (y_bracketed h d) fun q hq=>Yi.ret (.ex (.one rfl hx) (.one rfl hq))) (Yi.ret hx)))
theorem y_cmp1 {x:D} (hx:W 0 x):Yi (W 0) (cmp1F T R d x):=fun i v j e=>by
  unfold cmp1F at e
  split at e
  · rename_i m hm
    cases hy:R.sum d (i + 1) with
    | ok y i'=>rw [hy] at e; cases e; exact .bin hx (h.sum d _ _ _ hy)
    | err a b=>rw [hy] at e; cases e
  · exact y_cmp2 h d hx _ _ _ e
theorem y_cmp:Yi (W 0) (cmpF isW T R r d):=Yi.seq (y_sum h d) fun x hx=>y_cmp1 h d hx
theorem y_not:Yi (W 0) (notF isW T R r d):=Yi.if_ (Yi.skip fun _=>Yi.seq (h.nots (d + 1)) fun x hx=>Yi.ret (.e1 hx)) (y_cmp h d)
theorem y_and:Yi (W 0) (andF isW T R r d):=Yi.seq (y_not h d) fun x hx=>y_loop (h.nots d) r x hx
theorem y_or:Yi (W 0) (orF isW T R r d):=Yi.seq (y_and h d) fun x hx=>y_loop (h.ands d) r x hx
theorem y_expr:Yi (W 0) (exprF isW T R r d):=Yi.skip fun _=>y_or h (d + 1)
theorem y_item:Yi (W 8) (itemF isW T R d):=Yi.seq (h.expr d) fun x hx=>Yi.skip fun _=>Yi.skip fun s=>Yi.ret (.itm hx)
theorem y_key:Yi (W 9) (keyF T R d):=Yi.seq (h.expr d) fun x hx=>Yi.if_ (Yi.ret (.ky hx)) (Yi.ret (.ky hx))
theorem y_single:Yi (W 4) (singleF isW T R d) :=
  Yi.if_ (Yi.seq (h.query d) fun q hq=>Yi.skip fun _=>Yi.skip fun _=>Yi.skip fun s=>Yi.ret (.frm (.one rfl hq) (.nils rfl) (.nils rfl)))
    (Yi.skip fun s=>Yi.skip fun v=>Yi.if_ (Yi.skip fun t=>Yi.ret (.frm (.nils rfl) (.nils rfl) (.nils rfl))) (Yi.ret (.frm (.nils rfl) (.nils rfl) (.nils rfl))))
theorem y_srcs:∀ k x,W 4 x → Yi (W 4) (srcLoop isW T R d k x)
  | 0,x,hx=>Yi.ret hx
  | k + 1,x,hx=>by
    have go:∀ kind:Int,Yi (W 4) (seqO (singleF isW T R d) fun y=>seqO (pMust T 1 w_on) fun _=>seqO (R.expr d) fun e=>srcLoop isW T R d k (frm kind [] false [] .nils (.slice [x,y]) (one1 e))):=fun kind =>
      Yi.seq (y_single h d) fun y hy=>Yi.skip fun _=>Yi.seq (h.expr d) fun e he=>y_srcs k _ (.frm (.nils rfl) (.two rfl hx hy) (.one rfl he))
    exact Yi.if_ (Yi.skip fun _=>go 4) (Yi.if_ (go 3) (Yi.ret hx))
theorem y_source:Yi (W 4) (sourceF isW T R r d):=Yi.seq (y_single h d) fun x hx=>y_srcs h d r x hx
omit h in
theorem y_opt {w:List UInt8} {f:Nat → Out D} {k e:Nat} (hk:el k = some e) (hf:Yi (W e) f):Yi (W k) (optF T w f):=Yi.if_ (Yi.seq hf fun x hx=>Yi.ret (.one hk hx)) (Yi.ret (.nils hk))
include hr
theorem y_group:Yi (fun v:D × D=>W 1 v.1 ∧ W 1 v.2) (groupF T R r d):=Yi.if_ (Yi.skip fun _=>Yi.seq (y_list rfl hr (h.expr d)) fun g hg=>Yi.seq (y_opt rfl (h.expr d)) fun x hx=>Yi.ret ⟨hg,hx⟩) (Yi.ret ⟨.nils rfl,.nils rfl⟩)
theorem y_order:Yi (W 7) (orderF T R r d):=Yi.if_ (Yi.skip fun _=>y_list rfl hr (y_key h d)) (Yi.ret (.nils rfl))
theorem y_select:Yi (W 2) (selectF isW T R r d):=Yi.skip fun _=>Yi.skip fun dist=>Yi.seq (y_list rfl hr (y_item h d)) fun items hi=>Yi.seq (y_opt rfl (y_source h d)) fun froms hf=>Yi.seq (y_opt rfl (h.expr d)) fun wheres hw =>
  Yi.seq (y_group h hr d) fun gh hg=>Yi.seq (y_order h hr d) fun order ho=>Yi.skip fun limit=>Yi.ret (.qu hi hf hw hg.1 hg.2 ho (.nils rfl))
theorem y_part:Yi (W 2) (partF isW T R r d):=Yi.if_ (Yi.seq (h.query d) fun q hq=>Yi.skip fun _=>Yi.ret hq) (y_select h hr d)
omit h hr in
theorem y_qus {part:Nat → Out D} (hp:Yi (W 2) part):∀ k x,W 2 x → Yi (W 2) (quLoop T part k x)
  | 0,x,hx=>Yi.ret hx
  | k + 1,x,hx=>by
    have go:∀ kind:Int,Yi (W 2) (seqO part fun y=>quLoop T part k (qu kind false .nils .nils .nils .nils .nils .nils (-1) (.slice [x,y]))):=fun kind =>
      Yi.seq hp fun y hy=>y_qus hp k _ (.qu (.nils rfl) (.nils rfl) (.nils rfl) (.nils rfl) (.nils rfl) (.nils rfl) (.two rfl hx hy))
    exact Yi.if_ (Yi.if_ (go 3) (go 2)) (Yi.if_ (go 4) (Yi.if_ (go 5) (Yi.ret hx)))
theorem y_query:Yi (W 2) (queryF isW T R r d):=Yi.skip fun _=>Yi.seq (y_part h hr (d + 1)) fun x hx=>y_qus (h.part (d + 1)) r x hx
end
theorem y_all {isW:List UInt8 → Bool} {T:List Tok}:∀ r,r ≤ 200000 → YR (recs isW T r)
  | 0,_=>by constructor <;> intro d i v j e <;> cases e
  | r + 1,hr=>by
    have h:=y_all (isW:=isW) (T:=T) r (by omega)
    constructor <;> intro d
    · exact y_expr h d
    · exact y_and h d
    · exact y_not h d
    · exact y_sum h d
    · exact y_prod h d
    · exact y_unary h d
    · exact y_query h hr d
    · exact y_part h hr d
theorem readAll_W {T:List Tok} {f:Nat → Out D} {k:Nat} (h:Yi (W k) f) {v:D} {i:Nat} (e:readAll T f = .ok v i):W k v:=by
  unfold readAll at e
  cases hx:f 0 with
  | ok w j =>
    rw [hx] at e
    simp only [Out.bind] at e
    split at e
    · cases e; exact h _ _ _ hx
    · cases e
  | err a b=>rw [hx] at e; cases e
theorem w_same {k:Nat} {x:D} (h:W k x):SameP k x:=by
  induction h with
  | ex _ _ h1 h2=>exact ⟨mkE (by rw [h1.1,h2.1]; rfl),sameE_of h1.2 h2.2⟩
  | qu _ _ _ _ _ _ _ ha hb hc he hf hg hh =>
    obtain ⟨fa,la,ea,ba,ga⟩:=ha
    obtain ⟨fg,lg,eg,bg,gg⟩:=hg
    exact ⟨mkQ (by rw [fa,hb.1,hc.1,he.1,hf.1,fg,hh.1]; rfl),sameQ_of rfl rfl ea eg ba bg ga gg hb.2 hc.2 he.2 hf.2 hh.2⟩
  | frm _ _ _ h1 h2 h3=>exact ⟨mkF (by rw [h1.1,h2.1,h3.1]; rfl),h1.2.and (h2.2.and h3.2)⟩
  | itm _ h=>exact ⟨(okItm h.1).1,by rw [g26_itm h.1]; exact h.1,by rw [g26_itm h.1]; exact h.2⟩
  | ky _ h=>exact ⟨(okKy h.1).1,by rw [g26_ky h.1]; exact h.1,by rw [g26_ky h.1]; exact h.2⟩
  | @nils k e hk =>
    have hz:asL D.nils = some []:=rfl
    match k,hk with
    | 1,_=>exact ⟨rfl,sameEs_of hz (by simp) fun y hy=>by cases hy⟩
    | 3,_=>exact ⟨rfl,sameQs_of hz (by simp) fun y hy=>by cases hy⟩
    | 5,_=>exact ⟨rfl,sameFs_of hz (by simp) fun y hy=>by cases hy⟩
    | 6,_=>exact ⟨rfl,[],hz,by simp,fun y hy=>by cases hy⟩
    | 7,_=>exact ⟨rfl,[],hz,by simp,fun y hy=>by cases hy⟩
  | @sl k e l hk hb _ ih =>
    have hz:asL (D.slice l) = some l:=rfl
    match k,e,hk,ih with
    | 1,_,rfl,ih=>exact ⟨rfl,sameEs_of hz (by omega) fun y hy=>ih y hy⟩
    | 3,_,rfl,ih=>exact ⟨rfl,sameQs_of hz (by omega) fun y hy=>ih y hy⟩
    | 5,_,rfl,ih=>exact ⟨rfl,sameFs_of hz (by omega) fun y hy=>ih y hy⟩
    | 6,_,rfl,ih=>exact ⟨rfl,l,hz,by omega,fun y hy=>ih y hy⟩
    | 7,_,rfl,ih=>exact ⟨rfl,l,hz,by omega,fun y hy=>ih y hy⟩
end Go.Proofs.YtfdcjngclelnhaaGreat
namespace Go.Proofs.YtfdcjngclelnhaaGreat
open Go
structure SOk (T:List Tok) (N r:Nat):Prop where
  expr:∀ n,N ≤ n → ∀ d,d ≤ 40 → ∀ k,k ≤ r → ∀ m:Mix,m.In T k → Has T k (bS T d) okE ((fns n).s_expr (bS T d m)) m ((recs isW T r).expr d)
  query:∀ n,N ≤ n → ∀ d,d ≤ 40 → ∀ k,k ≤ r → ∀ m:Mix,m.In T k → Has T k (bS T d) okQ ((fns n).s_query (bS T d m)) m ((recs isW T r).query d)
  ands:∀ n,N ≤ n → ∀ d,d ≤ 40 → ∀ k,k ≤ r → ∀ i,(Mix.ok i).In T k → Has T k (bS T d) okE ((fns n).s_expr1 (bS T d (.ok i))) (.ok i) ((recs isW T r).ands d)
  nots:∀ n,N ≤ n → ∀ d,d ≤ 40 → ∀ k,k ≤ r → ∀ i,(Mix.ok i).In T k → Has T k (bS T d) okE ((fns n).s_not (bS T d (.ok i))) (.ok i) ((recs isW T r).nots d)
  sum:∀ n,N ≤ n → ∀ d,d ≤ 40 → ∀ k,k ≤ r → ∀ i,(Mix.ok i).In T k → Has T k (bS T d) okE ((fns n).s_sum (bS T d (.ok i))) (.ok i) ((recs isW T r).sum d)
  prod:∀ n,N ≤ n → ∀ d,d ≤ 40 → ∀ k,k ≤ r → ∀ i,(Mix.ok i).In T k → Has T k (bS T d) okE ((fns n).s_prod (bS T d (.ok i))) (.ok i) ((recs isW T r).prod d)
  unary:∀ n,N ≤ n → ∀ d,d ≤ 40 → ∀ k,k ≤ r → ∀ i,(Mix.ok i).In T k → Has T k (bS T d) okE ((fns n).s_unary (bS T d (.ok i))) (.ok i) ((recs isW T r).unary d)
  part:∀ n,N ≤ n → ∀ d,d ≤ 40 → ∀ k,k ≤ r → ∀ i,(Mix.ok i).In T k → Has T k (bS T d) okQ ((fns n).s_part (bS T d (.ok i))) (.ok i) ((recs isW T r).part d)
theorem s_bin_ {n:Nat} (hn:1 ≤ n) {w:List UInt8} {x y:D} (hx:okE x) (hy:okE y):(fns n).s_bin w x y = some (binX w x y):=by
  obtain ⟨n,rfl,hp⟩:=pos hn
  refine rawN_eq enc9_inj fun q=>?_
  simp only [loopN_s,s_bin_st,G_ok hx,G_ok hy]
  rfl
theorem s_gathers_ {n:Nat} (hn:1 ≤ n) {s:List UInt8}:(fns n).s_gathers s = some (gathersB s):=by
  obtain ⟨n,rfl,hp⟩:=pos hn
  refine rawN_eq enc10_inj fun q=>?_
  show caseL s q [w_count,w_sum,w_min,w_max] = _
  rw [caseL_eq]
  simp only [List.contains_cons,List.contains_nil,gathersB,Bool.or_false,Bool.or_assoc]
section
variable {T:List Tok} (hT:TOk T) {N r:Nat} (hN:40 + 8 * (r + 3) ≤ N ∧ r ≤ 200000) (ih:SOk T N r) {n d k:Nat} (hd:d ≤ 40) {m:Mix}
include hT hN ih hd
theorem s_bracketed_ (hn:N + 1 ≤ n) (hk:k ≤ r) (hm:m.In T k):Has T k (bS T d) okQ ((fns n).s_bracketed (bS T d m)) m (bracketedF T (recs isW T r) d):=by
  obtain ⟨n,rfl,hp⟩:=pos hn; refine Sat.has (X:=fun q=>s_bracketed_st (fns n) q (loopN (s_bracketed_st (fns n) q) n) (.e (bS T d m))) ?_ fun o ho=>rawN_eq enc0_inj ho; simp only [s_bracketed_st]
  refine Sat.callU (s_need_ hT (by omega) (hm.mono (Nat.le_succ _))) fun m hm=>?_
  refine Sat.call (ih.query _ (by omega) _ hd _ hk _ hm) fun x m hm hx=>?_
  simp only [hx,an_true,flQu hx,G_ok hx]
  refine Sat.callU (s_need_ hT (by omega) (hm.mono (Nat.le_succ _))) fun m hm=>?_
  exact Sat.ret hm hx rfl rfl
theorem s_cases_ (hn:N + 1 ≤ n) (hk:k ≤ r) (hm:m.In T k):Has T k (bS T d) okE ((fns n).s_cases (bS T d m)) m (casesF T (recs isW T r) d):=by
  obtain ⟨n,rfl,hp⟩:=pos hn; refine Sat.has (X:=fun q=>s_cases_st (fns n) q (loopN (s_cases_st (fns n) q) n) (.e (bS T d m))) ?_ fun o ho=>rawN_eq enc0_inj ho; simp only [s_cases_st]
  refine Sat.callU (s_must_ hT (by omega) (hm.mono (Nat.le_succ _))) fun m hm=>?_
  refine Sat.call (ih.expr _ (by omega) _ hd _ hk _ hm) fun x m hm hx=>?_
  simp only [hx,an_true,flEx hx,G_ok hx]
  refine Sat.callU (s_must_ hT (by omega) (hm.mono (Nat.le_succ _))) fun m hm=>?_
  refine Sat.call (ih.expr _ (by omega) _ hd _ hk _ hm) fun y m hm hy=>?_
  simp only [hy,an_true,flEx hy,G_ok hy]
  refine Sat.callU (s_must_ hT (by omega) (hm.mono (Nat.le_succ _))) fun m hm=>?_
  refine Sat.call (ih.expr _ (by omega) _ hd _ hk _ hm) fun z m hm hz=>?_
  simp only [hz,an_true,flEx hz,G_ok hz]
  refine Sat.callU (s_must_ hT (by omega) (hm.mono (Nat.le_succ _))) fun m hm=>?_
  exact Sat.ret hm (mkE rfl) rfl rfl
theorem s_round_ (hn:N + 1 ≤ n) (hk:k ≤ r) (hm:m.In T k):Has T k (bS T d) okE ((fns n).s_round (bS T d m)) m (roundF T (recs isW T r) d):=by
  obtain ⟨n,rfl,hp⟩:=pos hn; refine Sat.has (X:=fun q=>s_round_st (fns n) q (loopN (s_round_st (fns n) q) n) (.e (bS T d m))) ?_ fun o ho=>rawN_eq enc0_inj ho; simp only [s_round_st]
  refine Sat.see (s_sees_ hT (by omega) hm) ?_ ?_ <;> simp only [cnd_true,cnd_false]
  · refine Sat.call (ih.query _ (by omega) _ hd _ hk _ hm) fun x m hm hx=>?_
    simp only [hx,an_true,flQu hx,G_ok hx]
    refine Sat.callU (s_need_ hT (by omega) (hm.mono (Nat.le_succ _))) fun m hm=>?_
    exact Sat.ret hm (mkE rfl) rfl rfl
  · refine Sat.call (ih.expr _ (by omega) _ hd _ hk _ hm) fun x m hm hx=>?_
    simp only [hx,an_true,flEx hx,G_ok hx]
    refine Sat.callU (s_need_ hT (by omega) (hm.mono (Nat.le_succ _))) fun m hm=>?_
    exact Sat.ret hm hx rfl rfl
theorem s_column_ (hn:N + 1 ≤ n) (hk:k ≤ r + 1) (hm:m.In T k):Has T k (bS T d) okE ((fns n).s_column (bS T d m)) m (columnF isW T (recs isW T r) d):=by
  obtain ⟨n,rfl,hp⟩:=pos hn; refine Sat.has (X:=fun q=>s_column_st (fns n) q (loopN (s_column_st (fns n) q) n) (.e (bS T d m))) ?_ fun o ho=>rawN_eq enc0_inj ho; simp only [s_column_st]
  refine Sat.call (s_name_ hT (by omega) (hm.mono (Nat.le_succ _))) fun s m hm _=>?_
  simp only [s_gathers_ (show 1 ≤ n by omega),bn_some]
  have dot:∀ {m:Mix},m.In T k → Sat T k (bS T d) okE (fun q=>bn ((fns n).s_mark (bS T d m) [46]) fun x=>cnd x.1 (bn ((fns n).s_name x.2) fun y=>q ((.agg [.int .i64 5,.int .i64 0,.str y.1,.str s,.nils,.nils]),y.2)) (q ((.agg [.int .i64 5,.int .i64 0,.str s,.str [],.nils,.nils]),x.2))) m (dotF isW T s):=by
    intro m hm
    refine Sat.word hT.ends (by decide) hm (s_mark_ hT (by omega) hm) (fun i j hj hm=>?_) ?_ <;> simp only [cnd_true,cnd_false,Bool.not_true,Bool.not_false]
    · refine Sat.call (s_name_ hT (by omega) (hm.mono (Nat.le_succ _))) fun t m hm _=>?_
      exact Sat.ret hm (mkE rfl) rfl rfl
    · exact Sat.ret hm (mkE rfl) rfl rfl
  have agg:∀ {m:Mix} {j:Nat},j ≤ r → m.In T j → Sat T j (bS T d) okE (fun q=>bn ((fns n).s_expr (bS T d m)) fun x=>an (okG 26 x.1) (bn ((fns n).s_need x.2 [41]) fun y=>q ((.agg [.int .i64 15,.int .i64 0,.str s,.str [],D.slice [G 26 x.1],.nils]),y))) m (agg1F T (recs isW T r) d s):=by
    intro m j hj hm
    refine Sat.call (ih.expr _ (by omega) _ hd _ hj _ hm) fun x m hm hx=>?_
    simp only [hx,an_true,G_ok hx]
    refine Sat.callU (s_need_ hT (by omega) (hm.mono (Nat.le_succ _))) fun m hm=>?_
    exact Sat.ret hm (mkE rfl) rfl rfl
  cases hg:gathersB s with
  | false =>
    simp only [cnd_false,Bool.false_eq_true,if_false]
    exact dot hm
  | true =>
    simp only [cnd_true,if_true]
    refine Sat.word hT.ends (by decide) hm (s_mark_ hT (by omega) hm) (fun i j hj hm=>?_) ?_ <;> simp only [cnd_true,cnd_false,Bool.not_true,Bool.not_false]
    · unfold aggF
      cases hc:s == w_count with
      | false =>
        have hc':(s == [99,111,117,110,116]) = false:=hc
        simp only [hc',Bool.not_false,cnd_true,Bool.false_eq_true,if_false]
        exact agg (by omega) hm
      | true =>
        have hc':(s == [99,111,117,110,116]) = true:=hc
        simp only [hc',Bool.not_true,cnd_false,if_true]
        refine Sat.word hT.ends (by decide) hm (s_mark_ hT (by omega) hm) (fun i j hj hm=>?_) ?_ <;> simp only [cnd_true,cnd_false,Bool.not_true,Bool.not_false]
        · refine Sat.callU (s_need_ hT (by omega) (hm.mono (Nat.le_succ _))) fun m hm=>?_
          exact Sat.ret hm (mkE rfl) rfl rfl
        · exact agg (by omega) hm
    · exact dot hm
theorem s_prim_ (hn:N + 2 ≤ n) (hk:k ≤ r + 1) {i:Nat} (hm:(Mix.ok i).In T k):Has T k (bS T d) okE ((fns n).s_prim (bS T d (.ok i))) (.ok i) (primF isW T (recs isW T r) d):=by
  obtain ⟨n,rfl,hp⟩:=pos hn; refine Sat.has (X:=fun q=>s_prim_st (fns n) q (loopN (s_prim_st (fns n) q) n) (.e (bS T d (.ok i)))) ?_ fun o ho=>rawN_eq enc0_inj ho; simp only [s_prim_st]
  have en:=@s_now_ T hT n i (by omega) hm.1 (Int.ofNat d) 0 0
  have hc4:((bS T d (.ok i)).c4 != 0) = false:=rfl
  simp only [hc4,cnd_false]
  have en':(fns n).s_now (bS T d (.ok i)) = some ((tk T i).d,bS T d (.ok i)):=en
  simp only [en',bn_some,okTok,an_true,cTok0,cTok1,cTok2]
  have hnx:∀ {z:D},(tk T i).kind ≠ 0 → okE z → Sat T k (bS T d) okE (fun q=>bn ((fns n).s_next (bS T d (.ok i))) fun x=>q (z,x)) (.ok i) (fun _=>.ok z (i + 1)):=fun hk0 hz=>by
    have hi:=hT.ends.next hm.1 hk0
    simp only [s_next_ hT (show 1 ≤ n by omega) hi,bn_some]
    exact ⟨_,⟨.ok (i + 1),rfl,⟨hi,by have:=hm.2; omega⟩,hz,rfl,rfl⟩,fun _=>rfl⟩
  cases h2:(tk T i).kind == 2 with
  | true =>
    simp only [cnd_true]
    refine (hnx (fun e=>by simp [e] at h2) (mkE rfl)).spec fun j hj=>?_
    cases hj
    simp only [primF,h2,if_true]
  | false =>
    simp only [cnd_false]
    cases h3:(tk T i).kind == 3 with
    | true =>
      simp only [cnd_true]
      refine (hnx (fun e=>by simp [e] at h3) (mkE rfl)).spec fun j hj=>?_
      cases hj
      simp only [primF,h2,h3,Bool.false_eq_true,if_true,if_false]
    | false =>
      simp only [cnd_false]
      refine Sat.spec (f:=ifO T 1 w_null (retO (ex 1 0 [] [] .nils .nils)) (ifO T 1 w_true (retO (ex 2 1 [] [] .nils .nils)) (ifO T 1 w_false (retO (ex 2 0 [] [] .nils .nils))
        (ifO T 4 [58] (seqO (pName isW T) fun s=>retO (ex 6 0 s [] .nils .nils)) (ifO T 1 w_case (casesF T (recs isW T r) d)
        (ifO T 1 w_exists (seqO (bracketedF T (recs isW T r) d) fun q=>retO (ex 12 0 [] [] .nils (one1 q))) (ifO T 4 [40] (roundF T (recs isW T r) d) (columnF isW T (recs isW T r) d)))))))) ?_ fun j hj=>by
          cases hj
          simp only [primF,h2,h3,Bool.false_eq_true,if_false]
      refine Sat.word hT.ends (by decide) hm (s_word_ hT (by omega) hm) (fun i j hj hm=>?_) ?_ <;> simp only [cnd_true,cnd_false,Bool.not_true,Bool.not_false]
      · exact Sat.ret hm (mkE rfl) rfl rfl
      refine Sat.word hT.ends (by decide) hm (s_word_ hT (by omega) hm) (fun i j hj hm=>?_) ?_ <;> simp only [cnd_true,cnd_false,Bool.not_true,Bool.not_false]
      · exact Sat.ret hm (mkE rfl) rfl rfl
      refine Sat.word hT.ends (by decide) hm (s_word_ hT (by omega) hm) (fun i j hj hm=>?_) ?_ <;> simp only [cnd_true,cnd_false,Bool.not_true,Bool.not_false]
      · exact Sat.ret hm (mkE rfl) rfl rfl
      refine Sat.word hT.ends (by decide) hm (s_mark_ hT (by omega) hm) (fun i j hj hm=>?_) ?_ <;> simp only [cnd_true,cnd_false,Bool.not_true,Bool.not_false]
      · refine Sat.call (s_name_ hT (by omega) (hm.mono (Nat.le_succ _))) fun s m hm _=>?_
        exact Sat.ret hm (mkE rfl) rfl rfl
      refine Sat.word hT.ends (by decide) hm (s_word_ hT (by omega) hm) (fun i j hj hm=>?_) ?_ <;> simp only [cnd_true,cnd_false,Bool.not_true,Bool.not_false]
      · refine Sat.last (s_cases_ hT hN ih hd (by omega) (by omega) hm) fun x m hx q=>?_
        simp only [hx,an_true,flEx hx,G_ok hx]
      refine Sat.word hT.ends (by decide) hm (s_word_ hT (by omega) hm) (fun i j hj hm=>?_) ?_ <;> simp only [cnd_true,cnd_false,Bool.not_true,Bool.not_false]
      · refine Sat.call (s_bracketed_ hT hN ih hd (by omega) (by omega) hm) fun x m hm hx=>?_
        simp only [hx,an_true,G_ok hx]
        exact Sat.ret hm (mkE rfl) rfl rfl
      refine Sat.word hT.ends (by decide) hm (s_mark_ hT (by omega) hm) (fun i j hj hm=>?_) ?_ <;> simp only [cnd_true,cnd_false,Bool.not_true,Bool.not_false]
      · refine Sat.last (s_round_ hT hN ih hd (by omega) (by omega) hm) fun x m hx q=>?_
        simp only [hx,an_true,flEx hx,G_ok hx]
      · refine Sat.last (s_column_ hT hN ih hd (by omega) hk hm) fun x m hx q=>?_
        simp only [hx,an_true,flEx hx,G_ok hx]
theorem s_unary_ (hn:N + 3 ≤ n) (hk:k ≤ r + 1) {i:Nat} (hm:(Mix.ok i).In T k):Has T k (bS T d) okE ((fns n).s_unary (bS T d (.ok i))) (.ok i) (unaryF isW T (recs isW T r) d):=by
  obtain ⟨n,rfl,hp⟩:=pos hn; refine Sat.has (X:=fun q=>s_unary_st (fns n) q (loopN (s_unary_st (fns n) q) n) (.e (bS T d (.ok i)))) ?_ fun o ho=>rawN_eq enc0_inj ho; simp only [s_unary_st]
  refine Sat.word hT.ends (by decide) hm (s_mark_ hT (by omega) hm) (fun i j hj hm=>?_) ?_ <;> simp only [cnd_true,cnd_false,Bool.not_true,Bool.not_false]
  · rename_i i j
    have h1:Has T j (bS T d) okE ((fns n).s_inner_neg (bS T d (.ok i)) 7) (.ok i) (seqO (pDeep T d) fun _=>seqO ((recs isW T r).unary (d + 1)) fun x=>retO (ex 7 0 [] [] (one1 x) .nils)):=by
      have hn:=hp
      obtain ⟨n,rfl,hp⟩:=pos hn; refine Sat.has (X:=fun q=>s_inner_neg_st (fns n) q (loopN (s_inner_neg_st (fns n) q) n) (.e (bS T d (.ok i)) 7)) ?_ fun o ho=>rawN_eq enc13_inj ho; simp only [s_inner_neg_st]
      refine s_enter_ hT (by omega) hd hm (show okE (ex 0 0 [] [] .nils .nils) from mkE rfl) (fun q s=>rfl) fun i hi hd1=>?_
      simp only [Bool.not_true,cnd_false]
      refine Sat.call (ih.unary _ (by omega) _ hd1 _ (by omega) _ hi) fun x m hm hx=>?_
      simp only [hx,an_true,G_ok hx]
      exact Sat.leave hT (by omega) hd hm (mkE rfl) rfl fun _ _=>rfl
    refine Sat.last h1 fun x m hx q=>?_
    simp only [hx,an_true,flEx hx,G_ok hx]
  · refine Sat.last (s_prim_ hT hN ih hd (by omega) hk hm) fun x m hx q=>?_
    simp only [hx,an_true,flEx hx,G_ok hx]
def vProd:LV B105 → s_left_prod_V
  | .l0 a b c e=>.l0 a b c e
  | .l1 a b c e f g=>.l1 a b c e f g
def vSum:LV B105 → s_left_sum_V
  | .l0 a b c e=>.l0 a b c e
  | .l1 a b c e f g=>.l1 a b c e f g
def vAnd:LV B105 → s_left_and_V
  | .l0 a b c e=>.l0 a b c e
  | .l1 a b c e f g=>.l1 a b c e f g
def vOr:LV B105 → s_left_or_V
  | .l0 a b c e=>.l0 a b c e
  | .l1 a b c e f g=>.l1 a b c e f g
end
theorem conv_loop {V W:Type} {st:(V → Prop) → V → Prop} {st':(W → Prop) → W → Prop} {v:W → V} (h:∀ l w,st l (v w) = st' (fun w=>l (v w)) w):∀ n w,loopN st n (v w) = loopN st' n w
  | 0,_=>rfl
  | n + 1,w=>by
    rw [loopN_s,loopN_s,h]
    exact congrArg (fun l=>st' l w) (funext fun w=>conv_loop h n w)
theorem convProd {S:Fns} {q:D × B105 → Prop} {n:Nat} {w:LV B105}:loopN (s_left_prod_st S q) n (vProd w) = loopN (leftSt S.s_unary S.s_mark S.s_bin q) n w:=conv_loop (fun l w=>by cases w <;> rfl) n w
theorem convSum {S:Fns} {q:D × B105 → Prop} {n:Nat} {w:LV B105}:loopN (s_left_sum_st S q) n (vSum w) = loopN (leftSt S.s_prod S.s_mark S.s_bin q) n w:=conv_loop (fun l w=>by cases w <;> rfl) n w
theorem convAnd {S:Fns} {q:D × B105 → Prop} {n:Nat} {w:LV B105}:loopN (s_left_and_st S q) n (vAnd w) = loopN (leftSt S.s_not S.s_word S.s_bin q) n w:=conv_loop (fun l w=>by cases w <;> rfl) n w
theorem convOr {S:Fns} {q:D × B105 → Prop} {n:Nat} {w:LV B105}:loopN (s_left_or_st S q) n (vOr w) = loopN (leftSt S.s_expr1 S.s_word S.s_bin q) n w:=conv_loop (fun l w=>by cases w <;> rfl) n w
section
variable {T:List Tok} (hT:TOk T) {N r:Nat} (hN:40 + 8 * (r + 3) ≤ N ∧ r ≤ 200000) (ih:SOk T N r) {n d k:Nat} (hd:d ≤ 40) {m:Mix}
include hT hN ih hd
theorem s_prod_ (hn:N + 5 ≤ n) (hk:k ≤ r + 1) {i:Nat} (hm:(Mix.ok i).In T k):Has T k (bS T d) okE ((fns n).s_prod (bS T d (.ok i))) (.ok i) (prodF isW T (recs isW T r) (r + 1) d):=by
  have h1:∀ n,N + 4 ≤ n → Has T k (bS T d) okE ((fns n).s_left_prod (bS T d (.ok i)) (.slice (opsProd.map .str))) (.ok i) (prodF isW T (recs isW T r) (r + 1) d):=fun n hn=>by
    obtain ⟨n,rfl,hp⟩:=pos hn; refine Sat.has (X:=fun q=>s_left_prod_st (fns n) q (loopN (s_left_prod_st (fns n) q) n) (.e (bS T d (.ok i)) (.slice (opsProd.map .str)))) ?_ fun o ho=>rawN_eq enc12_inj ho; simp only [s_left_prod_st]
    refine Sat.call (s_unary_ hT hN ih hd (by omega) hk hm) fun x m hm hx=>?_
    simp only [hx,an_true,flEx hx]
    refine Sat.eq ?_ fun q=>convProd (w:=.l0 _ _ _ _)
    exact left_sat hT.ends (by decide) (fun k m w hm=>s_mark_ hT (by omega) hm) (fun j hj i hi=>ih.unary n (by omega) d hd j hj i hi) (fun w x y hx hy=>s_bin_ (by omega) hx hy) (by decide) k hk (r + 1) hk n (by omega) m x 6 hm hx
  obtain ⟨n,rfl,hp⟩:=pos hn; refine Sat.has (X:=fun q=>s_prod_st (fns n) q (loopN (s_prod_st (fns n) q) n) (.e (bS T d (.ok i)))) ?_ fun o ho=>rawN_eq enc0_inj ho; simp only [s_prod_st]
  refine Sat.last (h1 n (by omega)) fun x m hx q=>?_
  simp only [hx,an_true,flEx hx,G_ok hx]
theorem s_sum_ (hn:N + 7 ≤ n) (hk:k ≤ r + 1) {i:Nat} (hm:(Mix.ok i).In T k):Has T k (bS T d) okE ((fns n).s_sum (bS T d (.ok i))) (.ok i) (sumF isW T (recs isW T r) (r + 1) d):=by
  have h1:∀ n,N + 6 ≤ n → Has T k (bS T d) okE ((fns n).s_left_sum (bS T d (.ok i)) (.slice (opsSum.map .str))) (.ok i) (sumF isW T (recs isW T r) (r + 1) d):=fun n hn=>by
    obtain ⟨n,rfl,hp⟩:=pos hn; refine Sat.has (X:=fun q=>s_left_sum_st (fns n) q (loopN (s_left_sum_st (fns n) q) n) (.e (bS T d (.ok i)) (.slice (opsSum.map .str)))) ?_ fun o ho=>rawN_eq enc12_inj ho; simp only [s_left_sum_st]
    refine Sat.call (s_prod_ hT hN ih hd (by omega) hk hm) fun x m hm hx=>?_
    simp only [hx,an_true,flEx hx]
    refine Sat.eq ?_ fun q=>convSum (w:=.l0 _ _ _ _)
    exact left_sat hT.ends (by decide) (fun k m w hm=>s_mark_ hT (by omega) hm) (fun j hj i hi=>ih.prod n (by omega) d hd j hj i hi) (fun w x y hx hy=>s_bin_ (by omega) hx hy) (by decide) k hk (r + 1) hk n (by omega) m x 6 hm hx
  obtain ⟨n,rfl,hp⟩:=pos hn; refine Sat.has (X:=fun q=>s_sum_st (fns n) q (loopN (s_sum_st (fns n) q) n) (.e (bS T d (.ok i)))) ?_ fun o ho=>rawN_eq enc0_inj ho; simp only [s_sum_st]
  refine Sat.last (h1 n (by omega)) fun x m hx q=>?_
  simp only [hx,an_true,flEx hx,G_ok hx]
end
end Go.Proofs.YtfdcjngclelnhaaGreat
