/- Part of a proof. -/
import Derived.Test.YtfdcjngclelnhaaL7
import Derived.Test.YtfdcjngclelnhaaL24
import Derived.Test.YtfdcjngclelnhaaL15
set_option linter.unusedSectionVars false
set_option linter.unusedSimpArgs false
set_option linter.unusedVariables false
namespace Go.Proofs.Ytfdcjngclelnhaa
open Go
def vItem:MV B82 → s_list_item_V
  | .l0 a b=>.l0 a b
  | .l1 a b c=>.l1 a b c
def vKey:MV B82 → s_list_key_V
  | .l0 a b=>.l0 a b
  | .l1 a b c=>.l1 a b c
def vExpr:MV B82 → s_list_expr_V
  | .l0 a b=>.l0 a b
  | .l1 a b c=>.l1 a b c
theorem convItem {S:Fns} {q:D × B82 → Prop} {n:Nat} {w:MV B82}:loopN (s_list_item_st S q) n (vItem w) = loopN (listSt 107 7 112 S.s_item S.s_mark q) n w:=conv_loop (fun l w=>by cases w <;> rfl) n w
theorem convKey {S:Fns} {q:D × B82 → Prop} {n:Nat} {w:MV B82}:loopN (s_list_key_st S q) n (vKey w) = loopN (listSt 109 7 104 S.s_key S.s_mark q) n w:=conv_loop (fun l w=>by cases w <;> rfl) n w
theorem convExpr {S:Fns} {q:D × B82 → Prop} {n:Nat} {w:MV B82}:loopN (s_list_expr_st S q) n (vExpr w) = loopN (listSt 38 6 96 S.s_expr S.s_mark q) n w:=conv_loop (fun l w=>by cases w <;> rfl) n w
theorem okC_len:∀ {l:List CTy} {ds:List D},okC l ds = true → ds.length = l.length
  | [],[],_=>rfl
  | [],_ :: _,h=>nomatch h
  | _ :: _,[],h=>nomatch h
  | c :: l,d :: ds,h=>by
    simp only [okC,Bool.and_eq_true] at h
    simp [okC_len h.2]
theorem cells_len {t:TypeId} {d:D} (h:okG t d = true):d.cells.length = (ctys Try.prog 8 t).length:=by
  cases d with
  | agg ds=>exact okC_len h
  | _=>exact nomatch h
theorem live_eq {T:List Tok} {d r:Nat} {m:Mix} (hm:m.In T r):((bS T d m).c4 == 0) = m.live:=by
  cases m with
  | ok i=>rfl
  | er i d' a e=>exact beqE hm.2
section
variable {T:List Tok} (hT:TOk T) {N r:Nat} (hN:40 + 8 * (r + 3) ≤ N ∧ r ≤ 200000) (ih:SOk T N r) {n d k:Nat} (hd:d ≤ 40) {m:Mix}
include hT hN ih hd
theorem s_item_ (hn:N + 1 ≤ n) (hk:k ≤ r) (hm:m.In T k):Has T k (bS T d) okI ((fns n).s_item (bS T d m)) m (itemF isW T (recs isW T r) d):=by
  obtain ⟨n,rfl,hp⟩:=pos hn; refine Sat.has (X:=fun q=>s_item_st (fns n) q (loopN (s_item_st (fns n) q) n) (.e (bS T d m))) ?_ fun o ho=>rawN_eq enc0_inj ho; simp only [s_item_st]
  refine Sat.call (ih.expr _ (by omega) _ hd _ hk _ hm) fun x m hm hx=>?_
  simp only [hx,an_true,flEx hx]
  refine Sat.callU (s_must_ hT (by omega) (hm.mono (Nat.le_succ _))) fun m hm=>?_
  refine Sat.call (s_name_ hT (by omega) (hm.mono (Nat.le_succ _))) fun s m hm _=>?_
  simp only [(okItm hx (s:=s)).2]
  exact Sat.ret hm (okItm hx).1 rfl rfl
theorem s_key_ (hn:N + 1 ≤ n) (hk:k ≤ r) (hm:m.In T k):Has T k (bS T d) okY ((fns n).s_key (bS T d m)) m (keyF T (recs isW T r) d):=by
  obtain ⟨n,rfl,hp⟩:=pos hn; refine Sat.has (X:=fun q=>s_key_st (fns n) q (loopN (s_key_st (fns n) q) n) (.e (bS T d m))) ?_ fun o ho=>rawN_eq enc0_inj ho; simp only [s_key_st]
  refine Sat.call (ih.expr _ (by omega) _ hd _ hk _ hm) fun x m hm hx=>?_
  simp only [hx,an_true,flEx hx]
  refine Sat.word hT.ends (by decide) hm (s_word_ hT (by omega) hm) (fun i j hj hm=>?_) ?_ <;> simp only [cnd_true,cnd_false,Bool.not_true,Bool.not_false]
  · simp only [(okKy hx (s:=true)).2]
    exact Sat.ret hm (okKy hx).1 rfl rfl
  · simp only [(okKy hx (s:=false)).2]
    exact Sat.ret hm (okKy hx).1 rfl rfl
theorem s_single_ (hn:N + 1 ≤ n) (hk:k ≤ r) (hm:m.In T k):Has T k (bS T d) okF ((fns n).s_single (bS T d m)) m (singleF isW T (recs isW T r) d):=by
  obtain ⟨n,rfl,hp⟩:=pos hn; refine Sat.has (X:=fun q=>s_single_st (fns n) q (loopN (s_single_st (fns n) q) n) (.e (bS T d m))) ?_ fun o ho=>rawN_eq enc0_inj ho; simp only [s_single_st]
  refine Sat.word hT.ends (by decide) hm (s_mark_ hT (by omega) hm) (fun i j hj hm=>?_) ?_ <;> simp only [cnd_true,cnd_false,Bool.not_true,Bool.not_false]
  · refine Sat.call (ih.query _ (by omega) _ hd _ (by omega) _ hm) fun x m hm hx=>?_
    simp only [hx,an_true,flQu hx,G_ok hx]
    refine Sat.callU (s_need_ hT (by omega) (hm.mono (Nat.le_succ _))) fun m hm=>?_
    refine Sat.callU (s_must_ hT (by omega) (hm.mono (Nat.le_succ _))) fun m hm=>?_
    refine Sat.call (s_name_ hT (by omega) (hm.mono (Nat.le_succ _))) fun s m hm _=>?_
    exact Sat.ret hm (mkF rfl) rfl rfl
  · refine Sat.call (s_name_ hT (by omega) (hm.mono (Nat.le_succ _))) fun s m hm _=>?_
    have tail:∀ (v:Bool) {j:Nat} {m:Mix},m.In T j → Sat T j (bS T d) okF (fun q=>bn ((fns n).s_word (bS T d m) [97,115]) fun x=>cnd x.1 (bn ((fns n).s_name x.2) fun y=>q ((.agg [.int .i64 1,.str s,.bool v,.str y.1,.nils,.nils,.nils]),y.2)) (q ((.agg [.int .i64 1,.str s,.bool v,.str s,.nils,.nils,.nils]),x.2))) m (ifO T 1 w_as (seqO (pName isW T) fun t=>retO (frm 1 s v t .nils .nils .nils)) (retO (frm 1 s v s .nils .nils .nils))):=by
      intro v j m hm
      refine Sat.word hT.ends (by decide) hm (s_word_ hT (by omega) hm) (fun i j hj hm=>?_) ?_ <;> simp only [cnd_true,cnd_false,Bool.not_true,Bool.not_false]
      · refine Sat.call (s_name_ hT (by omega) (hm.mono (Nat.le_succ _))) fun t m hm _=>?_
        exact Sat.ret hm (mkF rfl) rfl rfl
      · exact Sat.ret hm (mkF rfl) rfl rfl
    simp only [seq_if,seq_ret]
    refine Sat.word hT.ends (by decide) hm (s_word_ hT (by omega) hm) (fun i j hj hm=>?_) ?_ <;> simp only [cnd_true,cnd_false,Bool.not_true,Bool.not_false]
    · exact tail true hm
    · exact tail false hm
theorem src_step (hn:N + 1 ≤ n) (hk:k ≤ r) (hm:m.In T k) {x:D} (hx:okF x) {f:Nat} {Lp:(D × B82 → Prop) → B82 → Int → List D → List D → Prop}
    (hL:∀ j,j + 1 = k → ∀ m kind y e,m.In T j → okF y → okE e → Sat T j (bS T d) okF (fun q=>Lp q (bS T d m) kind [x,y] [e]) m (srcLoop isW T (recs isW T r) d f (frm kind [] false [] .nils (.slice [x,y]) (one1 e)))) :
    Sat T k (bS T d) okF (fun q=>cnd ((bS T d m).c4 == 0) (bn ((fns n).s_word (bS T d m) [108,101,102,116]) fun x29=>cnd x29.1 (bn ((fns n).s_must x29.2 [106,111,105,110]) fun x30=>bn ((fns n).s_single x30) fun x31=>an (okG 65 x31.1) (fl x31.1 [4,5,6] (bn ((fns n).s_must x31.2 [111,110]) fun x32=>bn ((fns n).s_expr x32) fun x33=>an (okG 38 x33.1) (Lp q x33.2 4 [x,G 65 x31.1] [G 38 x33.1])))) (bn ((fns n).s_word x29.2 [106,111,105,110]) fun x34=>cnd x34.1 (bn ((fns n).s_single x34.2) fun x35=>an (okG 65 x35.1) (fl x35.1 [4,5,6] (bn ((fns n).s_must x35.2 [111,110]) fun x36=>bn ((fns n).s_expr x36) fun x37=>an (okG 38 x37.1) (Lp q x37.2 3 [x,G 65 x35.1] [G 38 x37.1])))) (q (x,x34.2)))) (q (x,bS T d m))) m (srcLoop isW T (recs isW T r) d (f + 1) x):=by
  refine Sat.live (live_eq hm) hm hx ⟨m,rfl,hm,fun i d a e h=>⟨_,_,h⟩⟩ ?_
  unfold srcLoop
  dsimp only
  have go:∀ (kind:Int) (j:Nat),j + 1 = k → ∀ m:Mix,m.In T j → Sat T j (bS T d) okF (fun q=>bn ((fns n).s_single (bS T d m)) fun x31=>an (okG 65 x31.1) (fl x31.1 [4,5,6] (bn ((fns n).s_must x31.2 [111,110]) fun x32=>bn ((fns n).s_expr x32) fun x33=>an (okG 38 x33.1) (Lp q x33.2 kind [x,G 65 x31.1] [G 38 x33.1])))) m (seqO (singleF isW T (recs isW T r) d) fun y=>seqO (pMust T 1 w_on) fun _=>seqO ((recs isW T r).expr d) fun e=>srcLoop isW T (recs isW T r) d f (frm kind [] false [] .nils (.slice [x,y]) (one1 e))):=by
    intro kind j hj m hm
    refine Sat.call (s_single_ hT hN ih hd hn (by omega) hm) fun y m hm hy=>?_
    simp only [hy,an_true,flFrm hy,G_ok hy]
    refine Sat.callU (s_must_ hT (by omega) (hm.mono (Nat.le_succ _))) fun m hm=>?_
    refine Sat.call (ih.expr _ (by omega) _ hd _ (by omega) _ hm) fun e m hm he=>?_
    simp only [he,an_true,G_ok he]
    exact hL j hj m kind y e hm hy he
  refine Sat.word hT.ends (by decide) hm (s_word_ hT (by omega) hm) (fun i j hj hm=>?_) ?_ <;> simp only [cnd_true,cnd_false,Bool.not_true,Bool.not_false]
  · refine Sat.callU (s_must_ hT (by omega) (hm.mono (Nat.le_succ _))) fun m hm=>?_
    exact go 4 _ hj m hm
  refine Sat.word hT.ends (by decide) hm (s_word_ hT (by omega) hm) (fun i j hj hm=>?_) ?_ <;> simp only [cnd_true,cnd_false,Bool.not_true,Bool.not_false]
  · exact go 3 _ hj _ hm
  · exact Sat.ret hm hx rfl rfl
theorem src_loop (hn:N + 1 ≤ n):∀ k,k ≤ r → ∀ f,k ≤ f → ∀ n',k + 1 ≤ n' → ∀ (m:Mix) (kind:Int) (a c e:D) (w:Nat),m.In T k → okF a → okF c → okE e →
    Sat T k (bS T d) okF (fun q=>loopN (s_source_st (fns n) q) n' (.l1 (bS T d m) kind [a,c] [e] w)) m (srcLoop isW T (recs isW T r) d f (frm kind [] false [] .nils (.slice [a,c]) (one1 e))):=by
  intro k
  induction k using Nat.strongRecOn with
  | ind k IH =>
    intro hk f hf n' hn' m kind a c e w hm ha hc he
    obtain ⟨n',rfl⟩:∃ z,n' = z + 1:=⟨n' - 1,by omega⟩
    have h1:=src_step hT hN ih hd hn hk hm (x:=frm kind [] false [] .nils (.slice [a,c]) (one1 e)) (mkF rfl) (f:=f - 1) (Lp:=fun q s kind l1 l2=>loopN (s_source_st (fns n) q) n' (.l1 s kind l1 l2 (w + 7))) fun j hj m' kind' y e' hm' hy he' =>
      IH j (by omega) (by omega) (f - 1) (by omega) n' (by omega) m' kind' _ y e' _ hm' (mkF rfl) hy he'
    refine Sat.spec h1 fun i hi=>?_
    subst hi
    obtain ⟨f,rfl⟩:∃ f',f = f' + 1:=⟨f - 1,by have:=hm.2; have:=hm.1; omega⟩
    rfl
theorem s_source_ (hn:N + 2 ≤ n) (hk:k ≤ r) (hm:m.In T k) {f:Nat} (hf:k ≤ f):Has T k (bS T d) okF ((fns n).s_source (bS T d m)) m (sourceF isW T (recs isW T r) f d):=by
  obtain ⟨n,rfl,hp⟩:=pos hn; refine Sat.has (X:=fun q=>s_source_st (fns n) q (loopN (s_source_st (fns n) q) n) (.e (bS T d m))) ?_ fun o ho=>rawN_eq enc0_inj ho; simp only [s_source_st]
  refine Sat.call (s_single_ hT hN ih hd (by omega) hk hm) fun x m hm hx=>?_
  simp only [hx,an_true,flFrm hx]
  obtain ⟨n',rfl⟩:∃ z,n = z + 1:=⟨n - 1,by omega⟩
  have h1:=src_step hT hN ih hd (show N + 1 ≤ n' + 1 by omega) hk hm hx (f:=f - 1) (Lp:=fun q s kind l1 l2=>loopN (s_source_st (fns (n' + 1)) q) n' (.l1 s kind l1 l2 14)) fun j hj m' kind' y e' hm' hy he' =>
    src_loop hT hN ih hd (by omega) j (by omega) (f - 1) (by omega) n' (by omega) m' kind' x y e' _ hm' hx hy he'
  refine Sat.spec (Sat.eq h1 fun q=>?_) fun i hi=>?_
  · simp only [loopN_s,s_source_st,flFrm hx,G_ok hx]
  · subst hi
    obtain ⟨f,rfl⟩:∃ f',f = f' + 1:=⟨f - 1,by have:=hm.2; have:=hm.1; omega⟩
    rfl
theorem s_list_item_ (hn:N + 2 ≤ n) (hk:k ≤ r) (hm:m.In T k) {f:Nat} (hf:k ≤ f):Has T k (bS T d) okL ((fns n).s_list_item (bS T d m)) m (pList T (itemF isW T (recs isW T r) d) f):=by
  obtain ⟨n,rfl,hp⟩:=pos hn; refine Sat.has (X:=fun q=>s_list_item_st (fns n) q (loopN (s_list_item_st (fns n) q) n) (.e (bS T d m))) ?_ fun o ho=>rawN_eq enc15_inj ho; simp only [s_list_item_st]
  refine Sat.call (s_item_ hT hN ih hd (by omega) hk hm) fun x m hm hx=>?_
  simp only [hx,an_true,G_ok hx]
  refine Sat.eq ?_ fun q=>convItem (w:=.l0 _ _)
  exact (list_sat hT.ends (by decide) (fun k m w hm=>s_mark_ hT (by omega) hm) (fun j hj m hm=>s_item_ hT hN ih hd (by omega) hj hm) (fun v A h=>flItm h) (fun v h=>by rw [cells_len h,ctItm]; rfl) k (by omega) f hf n (by omega) m [x] hm (by have:=hT.len; simp; omega)).2 x hx rfl
theorem s_list_key_ (hn:N + 2 ≤ n) (hk:k ≤ r) (hm:m.In T k) {f:Nat} (hf:k ≤ f):Has T k (bS T d) okL ((fns n).s_list_key (bS T d m)) m (pList T (keyF T (recs isW T r) d) f):=by
  obtain ⟨n,rfl,hp⟩:=pos hn; refine Sat.has (X:=fun q=>s_list_key_st (fns n) q (loopN (s_list_key_st (fns n) q) n) (.e (bS T d m))) ?_ fun o ho=>rawN_eq enc15_inj ho; simp only [s_list_key_st]
  refine Sat.call (s_key_ hT hN ih hd (by omega) hk hm) fun x m hm hx=>?_
  simp only [hx,an_true,G_ok hx]
  refine Sat.eq ?_ fun q=>convKey (w:=.l0 _ _)
  exact (list_sat hT.ends (by decide) (fun k m w hm=>s_mark_ hT (by omega) hm) (fun j hj m hm=>s_key_ hT hN ih hd (by omega) hj hm) (fun v A h=>flKy h) (fun v h=>by rw [cells_len h,ctKy]; rfl) k (by omega) f hf n (by omega) m [x] hm (by have:=hT.len; simp; omega)).2 x hx rfl
theorem s_list_expr_ (hn:N + 2 ≤ n) (hk:k ≤ r) (hm:m.In T k) {f:Nat} (hf:k ≤ f):Has T k (bS T d) okL ((fns n).s_list_expr (bS T d m)) m (pList T ((recs isW T r).expr d) f):=by
  obtain ⟨n,rfl,hp⟩:=pos hn; refine Sat.has (X:=fun q=>s_list_expr_st (fns n) q (loopN (s_list_expr_st (fns n) q) n) (.e (bS T d m))) ?_ fun o ho=>rawN_eq enc15_inj ho; simp only [s_list_expr_st]
  refine Sat.call (ih.expr _ (by omega) _ hd _ hk _ hm) fun x m hm hx=>?_
  simp only [hx,an_true,G_ok hx]
  refine Sat.eq ?_ fun q=>convExpr (w:=.l0 _ _)
  exact (list_sat hT.ends (by decide) (fun k m w hm=>s_mark_ hT (by omega) hm) (fun j hj m hm=>ih.expr _ (by omega) _ hd _ hj _ hm) (fun v A h=>flEx h) (fun v h=>by rw [cells_len h,ctEx]; rfl) k (by omega) f hf n (by omega) m [x] hm (by have:=hT.len; simp; omega)).2 x hx rfl
theorem part_l2 (hn:N + 2 ≤ n) (hk:k ≤ r) (hm:m.In T k) {f:Nat} (hf:k ≤ f) {n':Nat} (hn':1 ≤ n') {v:Bool} {items froms wheres group having:D} {w:Nat} (h1:okL items) (h2:okL froms) (h3:okL wheres) (h4:okL group) (h5:okL having) :
    Sat T k (bS T d) okQ (fun q=>loopN (s_part_st (fns n) q) n' (.l2 (bS T d m) v items froms wheres group having w)) m (sel3F T (recs isW T r) f d v items froms wheres group having):=by
  obtain ⟨n',rfl⟩:∃ z,n' = z + 1:=⟨n' - 1,by omega⟩
  unfold okL at h1 h2 h3 h4 h5
  simp only [loopN_s,s_part_st,sel3F,orderF,limitF,seq_if,seq_seq,seq_ret,h1,h2,h3,h4,h5,an_true]
  refine Sat.word hT.ends (by decide) hm (s_word_ hT (by omega) hm) (fun i j hj hm=>?_) ?_ <;> simp only [cnd_true,cnd_false,Bool.not_true,Bool.not_false]
  · refine Sat.callU (s_must_ hT (by omega) (hm.mono (Nat.le_succ _))) fun m hm=>?_
    refine Sat.call (s_list_key_ hT hN ih hd (by omega) (by omega) hm (by omega)) fun o m hm ho=>?_
    unfold okL at ho
    simp only [ho,an_true]
    refine Sat.word hT.ends (by decide) hm (s_word_ hT (by omega) hm) (fun i j hj hm=>?_) ?_ <;> simp only [cnd_true,cnd_false,Bool.not_true,Bool.not_false]
    · refine Sat.call (s_number_ hT (by omega) (hm.mono (Nat.le_succ _))) fun x m hm _=>?_
      exact Sat.ret hm (mkQ (by simp only [h1,h2,h3,h4,h5,ho]; rfl)) rfl rfl
    · exact Sat.ret hm (mkQ (by simp only [h1,h2,h3,h4,h5,ho]; rfl)) rfl rfl
  · refine Sat.word hT.ends (by decide) hm (s_word_ hT (by omega) hm) (fun i j hj hm=>?_) ?_ <;> simp only [cnd_true,cnd_false,Bool.not_true,Bool.not_false]
    · refine Sat.call (s_number_ hT (by omega) (hm.mono (Nat.le_succ _))) fun x m hm _=>?_
      exact Sat.ret hm (mkQ (by simp only [h1,h2,h3,h4,h5]; rfl)) rfl rfl
    · exact Sat.ret hm (mkQ (by simp only [h1,h2,h3,h4,h5]; rfl)) rfl rfl
theorem part_l1 (hn:N + 2 ≤ n) (hk:k ≤ r) (hm:m.In T k) {f:Nat} (hf:k ≤ f) {n':Nat} (hn':2 ≤ n') {v:Bool} {items froms wheres:D} {w:Nat} (h1:okL items) (h2:okL froms) (h3:okL wheres) :
    Sat T k (bS T d) okQ (fun q=>loopN (s_part_st (fns n) q) n' (.l1 (bS T d m) v items froms wheres w)) m (sel2F T (recs isW T r) f d v items froms wheres):=by
  obtain ⟨n',rfl⟩:∃ z,n' = z + 1:=⟨n' - 1,by omega⟩
  simp only [loopN_s,s_part_st,sel2F,groupF,optF,seq_if,seq_seq,seq_ret]
  refine Sat.word hT.ends (by decide) hm (s_word_ hT (by omega) hm) (fun i j hj hm=>?_) ?_ <;> simp only [cnd_true,cnd_false,Bool.not_true,Bool.not_false]
  · refine Sat.callU (s_must_ hT (by omega) (hm.mono (Nat.le_succ _))) fun m hm=>?_
    refine Sat.call (s_list_expr_ hT hN ih hd (by omega) (by omega) hm (by omega)) fun o m hm ho=>?_
    have ho':o.flat = true:=ho
    simp only [ho',an_true]
    refine Sat.word hT.ends (by decide) hm (s_word_ hT (by omega) hm) (fun i j hj hm=>?_) ?_ <;> simp only [cnd_true,cnd_false,Bool.not_true,Bool.not_false]
    · refine Sat.call (ih.expr _ (by omega) _ hd _ (by omega) _ hm) fun x m hm hx=>?_
      simp only [hx,an_true,G_ok hx]
      exact part_l2 hT hN ih hd hn (by omega) hm (by omega) (by omega) h1 h2 h3 ho rfl
    · exact part_l2 hT hN ih hd hn (by omega) hm (by omega) (by omega) h1 h2 h3 ho rfl
  · exact part_l2 hT hN ih hd hn (by omega) hm (by omega) (by omega) h1 h2 h3 rfl rfl
theorem part_l0 (hn:N + 2 ≤ n) (hk:k ≤ r) (hm:m.In T k) {f:Nat} (hf:k ≤ f) {n':Nat} (hn':3 ≤ n') {v:Bool} {items froms:D} {w:Nat} (h1:okL items) (h2:okL froms) :
    Sat T k (bS T d) okQ (fun q=>loopN (s_part_st (fns n) q) n' (.l0 (bS T d m) v items froms w)) m (sel1F T (recs isW T r) f d v items froms):=by
  obtain ⟨n',rfl⟩:∃ z,n' = z + 1:=⟨n' - 1,by omega⟩
  simp only [loopN_s,s_part_st,sel1F,optF,seq_if,seq_seq,seq_ret]
  refine Sat.word hT.ends (by decide) hm (s_word_ hT (by omega) hm) (fun i j hj hm=>?_) ?_ <;> simp only [cnd_true,cnd_false,Bool.not_true,Bool.not_false]
  · refine Sat.call (ih.expr _ (by omega) _ hd _ (by omega) _ hm) fun x m hm hx=>?_
    simp only [hx,an_true,G_ok hx]
    exact part_l1 hT hN ih hd hn (by omega) hm (by omega) (by omega) h1 h2 rfl
  · exact part_l1 hT hN ih hd hn (by omega) hm (by omega) (by omega) h1 h2 rfl
theorem s_part_ (hn:N + 3 ≤ n) (hk:k ≤ r + 1) {i:Nat} (hm:(Mix.ok i).In T k):Has T k (bS T d) okQ ((fns n).s_part (bS T d (.ok i))) (.ok i) (partF isW T (recs isW T r) (r + 1) d):=by
  obtain ⟨n,rfl,hp⟩:=pos hn; refine Sat.has (X:=fun q=>s_part_st (fns n) q (loopN (s_part_st (fns n) q) n) (.e (bS T d (.ok i)))) ?_ fun o ho=>rawN_eq enc0_inj ho; simp only [s_part_st]
  unfold partF
  refine Sat.word hT.ends (by decide) hm (s_mark_ hT (by omega) hm) (fun i j hj hm=>?_) ?_ <;> simp only [cnd_true,cnd_false,Bool.not_true,Bool.not_false]
  · refine Sat.call (ih.query _ (by omega) _ hd _ (by omega) _ hm) fun x m hm hx=>?_
    simp only [hx,an_true,flQu hx,G_ok hx]
    refine Sat.callU (s_need_ hT (by omega) (hm.mono (Nat.le_succ _))) fun m hm=>?_
    exact Sat.ret hm hx rfl rfl
  · obtain ⟨j,rfl⟩:∃ j,k = j + 1:=⟨k - 1,by have:=hm.2; have:=hm.1; omega⟩
    unfold selectF
    refine Sat.more (Sat.callU (s_must_ hT (by omega) hm) fun m hm=>?_) (Nat.le_succ j)
    have h0:∀ (v:Bool) (j:Nat) (m:Mix),j ≤ r → m.In T j → Sat T j (bS T d) okQ (fun q=>bn ((fns n).s_list_item (bS T d m)) fun x27=>an x27.1.flat (an x27.1.flat (bn ((fns n).s_word x27.2 [102,114,111,109]) fun x28=>cnd x28.1 (bn ((fns n).s_source x28.2) fun x29=>an (okG 65 x29.1) (loopN (s_part_st (fns n) q) n (.l0 x29.2 v x27.1 (.slice [G 65 x29.1]) 12))) (loopN (s_part_st (fns n) q) n (.l0 x28.2 v x27.1 .nils 11))))) m (sel0F isW T (recs isW T r) (r + 1) d v):=by
      intro v j m hj hm
      unfold sel0F
      refine Sat.call (s_list_item_ hT hN ih hd (by omega) hj hm (by omega)) fun o m hm ho=>?_
      have ho':o.flat = true:=ho
      simp only [ho',an_true,optF,seq_if,seq_seq,seq_ret]
      refine Sat.word hT.ends (by decide) hm (s_word_ hT (by omega) hm) (fun i j hj hm=>?_) ?_ <;> simp only [cnd_true,cnd_false,Bool.not_true,Bool.not_false]
      · refine Sat.call (s_source_ hT hN ih hd (by omega) (by omega) hm (by omega)) fun x m hm hx=>?_
        simp only [hx,an_true,G_ok hx]
        exact part_l0 hT hN ih hd (by omega) (by omega) hm (by omega) (by omega) ho rfl
      · exact part_l0 hT hN ih hd (by omega) (by omega) hm (by omega) (by omega) ho rfl
    simp only [seq_if,seq_ret]
    refine Sat.word hT.ends (by decide) hm (s_word_ hT (by omega) hm) (fun i j hj hm=>?_) ?_ <;> simp only [cnd_true,cnd_false,Bool.not_true,Bool.not_false]
    · exact h0 true _ _ (by omega) hm
    · exact h0 false _ _ (by omega) hm
theorem qu_step (hd1:d + 1 ≤ 40) (hn:N + 3 ≤ n) (hk:k ≤ r + 1) (hm:m.In T k) {x:D} (hx:okQ x) {f:Nat} {Lp:(D × B82 → Prop) → B82 → Int → List D → Prop}
    (hL:∀ j,j + 1 ≤ k → ∀ m kind y,m.In T j → okQ y → Sat T j (bS T d) okQ (fun q=>Lp q (bS T (d + 1) m) kind [x,y]) m (quLoop T ((recs isW T r).part (d + 1)) f (qu kind false .nils .nils .nils .nils .nils .nils (-1) (.slice [x,y])))) :
    Sat T k (bS T d) okQ (fun q=>cnd ((bS T (d + 1) m).c4 == 0) (bn ((fns n).s_word (bS T (d + 1) m) [117,110,105,111,110]) fun x34=>cnd x34.1 (bn ((fns n).s_word x34.2 [97,108,108]) fun x35=>cnd x35.1 (bn ((fns n).s_part x35.2) fun x36=>an (okG 54 x36.1) (Lp q x36.2 3 [x,G 54 x36.1])) (bn ((fns n).s_part x35.2) fun x37=>an (okG 54 x37.1) (Lp q x37.2 2 [x,G 54 x37.1]))) (bn ((fns n).s_word x34.2 [101,120,99,101,112,116]) fun x38=>cnd x38.1 (bn ((fns n).s_part x38.2) fun x39=>an (okG 54 x39.1) (Lp q x39.2 4 [x,G 54 x39.1])) (bn ((fns n).s_word x38.2 [105,110,116,101,114,115,101,99,116]) fun x40=>cnd x40.1 (bn ((fns n).s_part x40.2) fun x41=>an (okG 54 x41.1) (Lp q x41.2 5 [x,G 54 x41.1])) (bn ((fns n).s_leave x40.2) fun x42=>q (x,x42))))) (bn ((fns n).s_leave (bS T (d + 1) m)) fun x43=>q (x,x43))) m (quLoop T ((recs isW T r).part (d + 1)) (f + 1) x):=by
  have go:∀ (kind:Int) (j:Nat),j + 1 ≤ k → ∀ i,(Mix.ok i).In T j → Sat T j (bS T d) okQ (fun q=>bn ((fns n).s_part (bS T (d + 1) (.ok i))) fun x36=>an (okG 54 x36.1) (Lp q x36.2 kind [x,G 54 x36.1])) (.ok i) (seqO ((recs isW T r).part (d + 1)) fun y=>quLoop T ((recs isW T r).part (d + 1)) f (qu kind false .nils .nils .nils .nils .nils .nils (-1) (.slice [x,y]))):=by
    intro kind j hj i hm
    refine Sat.call (ih.part _ (by omega) _ hd1 _ (by omega) _ hm) fun y m hm hy=>?_
    simp only [hy,an_true,G_ok hy]
    exact hL j hj m kind y hm hy
  have lv:Sat T k (bS T d) okQ (fun q=>bn ((fns n).s_leave (bS T (d + 1) m)) fun x43=>q (x,x43)) m (retO x):=Sat.leave hT (by omega) hd hm hx rfl fun _ _=>rfl
  have main:Sat T k (bS T d) okQ (fun q=>bn ((fns n).s_word (bS T (d + 1) m) [117,110,105,111,110]) fun x34=>cnd x34.1 (bn ((fns n).s_word x34.2 [97,108,108]) fun x35=>cnd x35.1 (bn ((fns n).s_part x35.2) fun x36=>an (okG 54 x36.1) (Lp q x36.2 3 [x,G 54 x36.1])) (bn ((fns n).s_part x35.2) fun x37=>an (okG 54 x37.1) (Lp q x37.2 2 [x,G 54 x37.1]))) (bn ((fns n).s_word x34.2 [101,120,99,101,112,116]) fun x38=>cnd x38.1 (bn ((fns n).s_part x38.2) fun x39=>an (okG 54 x39.1) (Lp q x39.2 4 [x,G 54 x39.1])) (bn ((fns n).s_word x38.2 [105,110,116,101,114,115,101,99,116]) fun x40=>cnd x40.1 (bn ((fns n).s_part x40.2) fun x41=>an (okG 54 x41.1) (Lp q x41.2 5 [x,G 54 x41.1])) (bn ((fns n).s_leave x40.2) fun x42=>q (x,x42))))) m (quLoop T ((recs isW T r).part (d + 1)) (f + 1) x):=by
    unfold quLoop
    dsimp only
    refine Sat.word hT.ends (by decide) hm (s_word_ hT (by omega) hm) (fun i j hj hm=>?_) ?_ <;> simp only [cnd_true,cnd_false,Bool.not_true,Bool.not_false]
    · refine Sat.word hT.ends (by decide) hm (s_word_ hT (by omega) hm) (fun i j hj hm=>?_) ?_ <;> simp only [cnd_true,cnd_false,Bool.not_true,Bool.not_false]
      · exact go 3 _ (by omega) _ hm
      · exact go 2 _ (by omega) _ hm
    refine Sat.word hT.ends (by decide) hm (s_word_ hT (by omega) hm) (fun i j hj hm=>?_) ?_ <;> simp only [cnd_true,cnd_false,Bool.not_true,Bool.not_false]
    · exact go 4 _ (by omega) _ hm
    refine Sat.word hT.ends (by decide) hm (s_word_ hT (by omega) hm) (fun i j hj hm=>?_) ?_ <;> simp only [cnd_true,cnd_false,Bool.not_true,Bool.not_false]
    · exact go 5 _ (by omega) _ hm
    · exact lv
  cases m with
  | ok i=>exact main
  | er i d' a e =>
    have e0:=live_eq (d:=d + 1) hm
    obtain ⟨o,g1,g2⟩:=lv
    exact ⟨o,g1,fun q=>by rw [e0]; exact g2 q⟩
theorem qu_loop (hd1:d + 1 ≤ 40) (hn:N + 3 ≤ n):∀ k,k ≤ r + 1 → ∀ f,k ≤ f → ∀ n',k + 1 ≤ n' → ∀ (m:Mix) (kind:Int) (a c:D) (w:Nat),m.In T k → okQ a → okQ c →
    Sat T k (bS T d) okQ (fun q=>loopN (s_query_st (fns n) q) n' (.l1 (bS T (d + 1) m) kind [a,c] w)) m (quLoop T ((recs isW T r).part (d + 1)) f (qu kind false .nils .nils .nils .nils .nils .nils (-1) (.slice [a,c]))):=by
  intro k
  induction k using Nat.strongRecOn with
  | ind k IH =>
    intro hk f hf n' hn' m kind a c w hm ha hc
    obtain ⟨n',rfl⟩:∃ z,n' = z + 1:=⟨n' - 1,by omega⟩
    have h1:=qu_step hT hN ih hd hd1 hn hk hm (x:=qu kind false .nils .nils .nils .nils .nils .nils (-1) (.slice [a,c])) (mkQ rfl) (f:=f - 1) (Lp:=fun q s kind l1=>loopN (s_query_st (fns n) q) n' (.l1 s kind l1 (w + 10))) fun j hj m' kind' y hm' hy =>
      IH j (by omega) (by omega) (f - 1) (by omega) n' (by omega) m' kind' _ y _ hm' (mkQ rfl) hy
    refine Sat.spec h1 fun i hi=>?_
    subst hi
    obtain ⟨f,rfl⟩:∃ f',f = f' + 1:=⟨f - 1,by have:=hm.2; have:=hm.1; omega⟩
    rfl
theorem s_query_ (hn:N + 4 ≤ n) (hk:k ≤ r + 1) (hm:m.In T k):Has T k (bS T d) okQ ((fns n).s_query (bS T d m)) m (queryF isW T (recs isW T r) (r + 1) d):=by
  obtain ⟨n,rfl,hp⟩:=pos hn; refine Sat.has (X:=fun q=>s_query_st (fns n) q (loopN (s_query_st (fns n) q) n) (.e (bS T d m))) ?_ fun o ho=>rawN_eq enc0_inj ho; simp only [s_query_st]
  refine s_enter_ hT (by omega) hd hm (show okQ (qu 0 false .nils .nils .nils .nils .nils .nils 0 .nils) from mkQ rfl) (fun q s=>rfl) fun i hm hd1=>?_
  simp only [Bool.not_true,cnd_false]
  refine Sat.call (s_part_ hT hN ih hd1 (by omega) hk hm) fun x m hm hx=>?_
  simp only [hx,an_true,flQu hx]
  obtain ⟨n',rfl⟩:∃ z,n = z + 1:=⟨n - 1,by omega⟩
  have h1:=qu_step hT hN ih hd hd1 (show N + 3 ≤ n' + 1 by omega) hk hm hx (f:=r) (Lp:=fun q s kind l1=>loopN (s_query_st (fns (n' + 1)) q) n' (.l1 s kind l1 20)) fun j hj m' kind' y hm' hy =>
    qu_loop hT hN ih hd hd1 (by omega) j (by omega) r (by omega) n' (by omega) m' kind' x y _ hm' hx hy
  refine Sat.eq h1 fun q=>?_
  simp only [loopN_s,s_query_st,flQu hx,G_ok hx]
end
theorem s_base {T:List Tok} (hT:TOk T):SOk T 100 0:=by
  have no:∀ {i k:Nat} {p:Prop},k ≤ 0 → (Mix.ok i).In T k → p:=fun hk hm=>by have:=hm.1; have:=hm.2; omega
  refine ⟨fun n hn d hd k hk m hm=>?_,fun n hn d hd k hk m hm=>?_,fun n hn d hd k hk i hm=>no hk hm,fun n hn d hd k hk i hm=>no hk hm,fun n hn d hd k hk i hm=>no hk hm,fun n hn d hd k hk i hm=>no hk hm,fun n hn d hd k hk i hm=>no hk hm,fun n hn d hd k hk i hm=>no hk hm⟩
  · cases m with
    | ok i=>exact no hk hm
    | er i d' a e =>
      refine Has.spec (f:=seqO (pDeep T d) fun _ _=>.err 0 0) ?_ fun j hj=>nomatch hj
      obtain ⟨n,rfl,hp⟩:=pos hn; refine Sat.has (X:=fun q=>s_expr_st (fns n) q (loopN (s_expr_st (fns n) q) n) (.e (bS T d (.er i d' a e)))) ?_ fun o ho=>rawN_eq enc0_inj ho; simp only [s_expr_st]
      exact s_enter_ hT (by omega) hd hm (show okE (ex 0 0 [] [] .nils .nils) from mkE rfl) (fun q s=>rfl) fun i hm hd1=>no hk hm
  · cases m with
    | ok i=>exact no hk hm
    | er i d' a e =>
      refine Has.spec (f:=seqO (pDeep T d) fun _ _=>.err 0 0) ?_ fun j hj=>nomatch hj
      obtain ⟨n,rfl,hp⟩:=pos hn; refine Sat.has (X:=fun q=>s_query_st (fns n) q (loopN (s_query_st (fns n) q) n) (.e (bS T d (.er i d' a e)))) ?_ fun o ho=>rawN_eq enc0_inj ho; simp only [s_query_st]
      exact s_enter_ hT (by omega) hd hm (show okQ (qu 0 false .nils .nils .nils .nils .nils .nils 0 .nils) from mkQ rfl) (fun q s=>rfl) fun i hm hd1=>no hk hm
theorem s_step {T:List Tok} (hT:TOk T) {N r:Nat} (hN:40 + 8 * (r + 3) ≤ N ∧ r ≤ 200000) (ih:SOk T N r):SOk T (N + 13) (r + 1) :=
  ⟨fun n hn d hd k hk m hm => s_expr_ hT hN ih hd hn hk hm, fun n hn d hd k hk m hm => s_query_ hT hN ih hd (by omega) hk hm,
   fun n hn d hd k hk i hm=>s_ands_ hT hN ih hd (by omega) hk hm,fun n hn d hd k hk i hm=>s_not_ hT hN ih hd (by omega) hk hm,
   fun n hn d hd k hk i hm=>s_sum_ hT hN ih hd (by omega) hk hm,fun n hn d hd k hk i hm=>s_prod_ hT hN ih hd (by omega) hk hm,
   fun n hn d hd k hk i hm=>s_unary_ hT hN ih hd (by omega) hk hm,fun n hn d hd k hk i hm=>s_part_ hT hN ih hd (by omega) hk hm⟩
theorem s_all {T:List Tok} (hT:TOk T):∀ r,r ≤ 200000 → SOk T (100 + 13 * r) r
  | 0,_=>s_base hT
  | r + 1,h=>by
    have h1:=s_step hT (N:=100 + 13 * r) (r:=r) ⟨by omega,by omega⟩ (s_all hT r (by omega))
    rwa [show 100 + 13 * r + 13 = 100 + 13 * (r + 1) by omega] at h1
end Go.Proofs.Ytfdcjngclelnhaa
namespace Go.Proofs.Ytfdcjngclelnhaa
open Go
set_option maxHeartbeats 1000000
theorem scanGo_bad {s:List UInt8} {p:Nat} {e:Int}:∀ f i T,scanGo s f i T = .bad p e → e ≠ 0
  | 0,i,T,h=>by cases h; decide
  | f + 1,i,T,h=>by
    rw [scanGo] at h
    try dsimp only at h
    split at h
    · split at h
      · cases h; decide
      · cases h
    · split at h
      · cases h; decide
      · split at h
        · cases h; decide
        · exact scanGo_bad f _ _ h
theorem scan_bad {s:List UInt8} {p:Nat} {e:Int} (h:scanR s = .bad p e):e ≠ 0:=by
  unfold scanR at h
  split at h
  · cases h; decide
  · exact scanGo_bad _ _ _ h
def zE:D:=ex 0 0 [] [] .nils .nils
def resD (z:D):Out D → D × Int × Int
  | .ok v _=>(v,0,0)
  | .err a e=>(z,a,e)
def readR (z:D) (f:List Tok → Nat → Out D):SR → D × Int × Int
  | .ok T=>resD z (readAll T (f T))
  | .bad p e=>(z,Int.ofNat p,e)
def exprR (T:List Tok):Nat → Out D:=(recs isW T T.length).expr 0
theorem d00:((0:Int) != 0) = false:=rfl
theorem d00b:((0:Int) == 0) = true:=rfl
theorem d10:((10:Int) != 0) = true:=rfl
theorem zEW:W 0 zE:=.e0
theorem s_readE_ {n:Nat} (hn:1500000 ≤ n) {s:List UInt8}:(fns n).s_readE s 0 = some (readR zE exprR (scanR s)):=by
  obtain ⟨n,rfl,hp⟩:=pos (show 1499999 + 1 ≤ n by omega)
  refine rawN_eq enc16_inj fun q=>?_
  simp only [loopN_s,s_readE_st,t_Scan_ (show 40400 ≤ n by omega),bn_some]
  cases h:scanR s with
  | bad p e =>
    simp only [scanD,bneE (scan_bad h),cnd_true]
    rfl
  | ok T =>
    have hT:=scan_tok h
    have hl:=hT.len
    have h0:0 < T.length:=hT.ends.1
    obtain ⟨n,rfl,hp⟩:=pos (show 1499998 + 1 ≤ n by omega)
    obtain ⟨⟨v,st⟩,ho,m,hs,hi,hg,hm⟩:=(s_all hT T.length (by omega)).expr n (by omega) 0 (by omega) T.length (Nat.le_refl _) (.ok 0) ⟨h0,by omega⟩
    dsimp only at hs hg hm
    subst hs
    have h1:(fns (n + 1)).s_Expr1 (B82.mk (tD T) 0 0 0 0) = some (v,bS T 0 m):=by
      refine rawN_eq enc0_inj fun q=>?_
      have ho':(fns n).s_expr (B82.mk (tD T) 0 0 0 0) = some (v,bS T 0 m):=ho
      simp only [loopN_s,s_Expr1_st,ho',bn_some,show okG 38 v = true from hg,an_true,flEx hg,G_ok hg]
    have hfl:(tD T).flat = true:=rfl
    simp only [scanD,d00,cnd_false,hfl,an_true,h1,bn_some,show okG 38 v = true from hg,flEx hg,G_ok hg,readR,readAll,exprR]
    cases m with
    | ok i =>
      have hnow:=s_now_ hT (n:=n + 1) (by omega) hi.1 (d:=Int.ofNat 0) (a:=0) (e:=0)
      have hfail:=s_failO hT (n:=n + 1) (by omega) hi.1 (d:=Int.ofNat 0) (x:=10)
      cases hr:(recs isW T T.length).expr 0 0 with
      | err a e=>simp only [Mix.sp,hr] at hm; obtain ⟨_,_,hm⟩:=hm; cases hm
      | ok w j =>
        simp only [Mix.sp,hr] at hm
        obtain ⟨hm1,rfl⟩:=hm
        cases hm1
        simp only [bS,hnow,bn_some,okTok,an_true,cTok0,Out.bind]
        by_cases hk:(tk T i).kind = 0
        · simp only [hk,d00,d00b,cnd_false,if_true,resD]
        · simp only [bneE hk,beqE hk,cnd_true,hfail,bn_some,d10,Bool.false_eq_true,if_false,noGo,resD]
          rfl
    | er i d a e =>
      have hnow:=s_now_ hT (n:=n + 1) (by omega) hi.1 (d:=d) (a:=a) (e:=e)
      have hfail:=s_failE (n:=n + 1) (by omega) (t:=tD T) (i:=Int.ofNat i) (d:=d) (a:=a) (x:=10) hi.2
      cases hr:(recs isW T T.length).expr 0 0 with
      | ok w j=>simp only [Mix.sp,hr] at hm; cases hm.1
      | err a' e' =>
        simp only [Mix.sp,hr] at hm
        obtain ⟨_,_,hm1⟩:=hm
        cases hm1
        simp only [bS,hnow,bn_some,okTok,an_true,cTok0,Out.bind,hfail,bneE hi.2,cnd_true,cnd_same,resD]
        rfl
theorem readE_W {s:List UInt8}:W 0 (readR zE exprR (scanR s)).1:=by
  cases h:scanR s with
  | bad p e=>exact zEW
  | ok T =>
    have hl:=(scan_tok h).len
    show W 0 (resD zE (readAll T (exprR T))).1
    cases hr:readAll T (exprR T) with
    | err a e=>exact zEW
    | ok v i=>exact readAll_W ((y_all T.length (by omega)).expr 0) hr
theorem S_Expr_ {n:Nat} (hn:1500001 ≤ n) {s:List UInt8}:(fns n).S_Expr s = some (readR zE exprR (scanR s)):=by
  obtain ⟨n,rfl,hp⟩:=pos (show 1500000 + 1 ≤ n by omega)
  refine rawN_eq enc17_inj fun q=>?_
  have hg:okG 38 (readR zE exprR (scanR s)).1 = true:=(w_same readE_W).1
  simp only [loopN_s,S_Expr_st,s_readE_ hp,bn_some,hg,an_true,flEx hg,G_ok hg]
end Go.Proofs.Ytfdcjngclelnhaa
namespace Go.Proofs.Ytfdcjngclelnhaa
open Go
structure Wr (T T':List Tok):Prop where
  ends:Ends T
  same:∀ i,i + 1 < T.length → (tk T' (i + 1)).kind = (tk T i).kind ∧ (tk T' (i + 1)).text = (tk T i).text ∧ (tk T' (i + 1)).n = (tk T i).n
  close:(tk T' T.length).kind = 4 ∧ (tk T' T.length).text = [41]
def Brk {α:Type} (T:List Tok) (k:Nat) (f g:Nat → Out α):Prop:=∀ i v j,i < T.length → T.length ≤ i + k → f i = .ok v j → i ≤ j ∧ j < T.length ∧ (g (i + 1) = .ok v (j + 1) ∨ ∃ a,g (i + 1) = .err a 9)
section
variable {α β:Type} {T T':List Tok} {k:Nat}
theorem Brk.mono {f g:Nat → Out α} {k':Nat} (h:Brk T k' f g) (hk:k ≤ k'):Brk T k f g:=fun i v j hi hl e=>h i v j hi (by omega) e
theorem Brk.ret {v:α}:Brk T k (retO v) (retO v):=fun i w j hi hl e=>by
  cases e; exact ⟨Nat.le_refl _,hi,Or.inl rfl⟩
theorem Brk.seq {f f':Nat → Out α} {g g':α → Nat → Out β} (hf:Brk T k f f') (hg:∀ v,Brk T k (g v) (g' v)):Brk T k (seqO f g) (seqO f' g'):=fun i v j hi hl e=>by
  unfold seqO at e ⊢
  cases hx:f i with
  | err a b=>rw [hx] at e; cases e
  | ok w i' =>
    rw [hx] at e
    obtain ⟨h1,h2,h3⟩:=hf i w i' hi hl hx
    obtain ⟨g1,g2,g3⟩:=hg w i' v j h2 (by omega) e
    refine ⟨by omega,g2,?_⟩
    rcases h3 with h3 | ⟨a,h3⟩
    · rw [h3]; exact g3
    · rw [h3]; exact Or.inr ⟨a,rfl⟩
theorem Wr.sees (h:Wr T T') {kk:Int} {w:List UInt8} (hk:kk ≠ 0) (hw:w ≠ [41]) {i:Nat} (hi:i < T.length):pSees T' kk w (i + 1) = pSees T kk w i:=by
  unfold pSees
  rcases Nat.lt_or_ge (i + 1) T.length with h1 | h1
  · obtain ⟨e1,e2,e3⟩:=h.same i h1
    rw [e1,e2]
  · have:i = T.length - 1:=by omega
    have e1:(tk T i).kind = 0:=by rw [this]; exact h.ends.2
    have e2:i + 1 = T.length:=by omega
    rw [e1,e2,h.close.2,show ((0:Int) == kk) = false by simpa using fun e=>hk e.symm,show (([41]:List UInt8) == w) = false by simpa using fun e=>hw e.symm,Bool.and_false,Bool.false_and]
theorem Wr.next (h:Wr T T') {kk:Int} {w:List UInt8} (hk:kk ≠ 0) {i:Nat} (hi:i < T.length) (e:pSees T kk w i = true):i + 1 < T.length ∧ pSees T' kk w (i + 1) = true:=by
  have e':=e
  unfold pSees at e
  simp only [Bool.and_eq_true,beq_iff_eq] at e
  have h1:=h.ends.next hi (by rw [e.1]; exact hk)
  obtain ⟨e1,e2,e3⟩:=h.same i h1
  refine ⟨h1,?_⟩
  unfold pSees at e' ⊢
  rw [e1,e2]; exact e'
variable (h:Wr T T')
include h
theorem Brk.if_ {kk:Int} {w:List UInt8} (hk:kk ≠ 0) (hw:w ≠ [41]) {A A' Z Z':Nat → Out α} (h1:Brk T k A A') (h2:Brk T (k + 1) Z Z'):Brk T (k + 1) (ifO T kk w A Z) (ifO T' kk w A' Z'):=fun i v j hi hl e=>by
  unfold ifO at e ⊢
  rw [h.sees hk hw hi]
  split at e
  · rename_i hs
    obtain ⟨g1,_⟩:=h.next hk hi hs
    obtain ⟨q1,q2,q3⟩:=h1 (i + 1) v j g1 (by omega) e
    rw [if_pos hs]
    exact ⟨by omega,q2,q3⟩
  · rename_i hs
    rw [if_neg hs]
    exact h2 i v j hi hl e
theorem Brk.see {kk:Int} {w:List UInt8} (hk:kk ≠ 0) (hw:w ≠ [41]) {A A' Z Z':Nat → Out α} (h1:Brk T k A A') (h2:Brk T k Z Z'):Brk T k (seeO T kk w A Z) (seeO T' kk w A' Z'):=fun i v j hi hl e=>by
  unfold seeO at e ⊢
  rw [h.sees hk hw hi]
  split at e
  · rename_i hs; rw [if_pos hs]; exact h1 i v j hi hl e
  · rename_i hs; rw [if_neg hs]; exact h2 i v j hi hl e
theorem Brk.must {kk:Int} {w:List UInt8} (hk:kk ≠ 0) {g g':Unit → Nat → Out α} (hg:∀ v,Brk T k (g v) (g' v)):Brk T (k + 1) (seqO (pMust T kk w) g) (seqO (pMust T' kk w) g'):=fun i v j hi hl e=>by
  unfold seqO pMust at e ⊢
  split at e
  · rename_i hs
    obtain ⟨g1,g2⟩:=h.next hk hi hs
    rw [if_pos g2]
    obtain ⟨q1,q2,q3⟩:=hg () (i + 1) v j g1 (by omega) e
    exact ⟨by omega,q2,q3⟩
  · cases e
theorem Brk.name {isW:List UInt8 → Bool} {g g':List UInt8 → Nat → Out α} (hg:∀ v,Brk T k (g v) (g' v)):Brk T (k + 1) (seqO (pName isW T) g) (seqO (pName isW T') g'):=fun i v j hi hl e=>by
  unfold seqO pName at e ⊢
  split at e
  · rename_i hs
    have hk:(tk T i).kind = 1:=by
      simp only [Bool.and_eq_true,beq_iff_eq] at hs; exact hs.1
    have h1:=h.ends.next hi (by rw [hk]; decide)
    obtain ⟨e1,e2,e3⟩:=h.same i h1
    rw [e1,e2,if_pos hs]
    obtain ⟨q1,q2,q3⟩:=hg _ (i + 1) v j h1 (by omega) e
    exact ⟨by omega,q2,q3⟩
  · cases e
theorem Brk.deep {d:Nat} {g g':Unit → Nat → Out α} (hg:∀ v,Brk T k (g v) (g' v)):Brk T k (seqO (pDeep T d) g) (seqO (pDeep T' (d + 1)) g'):=fun i v j hi hl e=>by
  unfold seqO pDeep at e ⊢
  split at e
  · cases e
  · rename_i hd
    obtain ⟨q1,q2,q3⟩:=hg () i v j hi hl e
    refine ⟨q1,q2,?_⟩
    by_cases hd2:40 < d + 1 + 1
    · rw [if_pos hd2]; exact Or.inr ⟨_,rfl⟩
    · rw [if_neg hd2]; exact q3
end
end Go.Proofs.Ytfdcjngclelnhaa
