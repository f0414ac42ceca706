/- Part of a proof. -/
import Derived.Test.YtfdcjngclelnhaaGreatKA
set_option linter.unusedSectionVars false
set_option linter.unusedSimpArgs false
set_option linter.unusedVariables false
namespace Go.Proofs.YtfdcjngclelnhaaGreat
open Go Go.RowKit
variable [mode:Inhabited ModeT]
theorem nthA_eq:∀ (l:List AV) (i:Nat),nthA l i = l.getD i undefA
  | [],i=>by cases i <;> rfl
  | a :: r,0=>rfl
  | a :: r,i + 1=>by
    show nthA r i = _
    rw [nthA_eq r i]; simp
theorem setN_eq:∀ (l:List AV) (i:Nat) (v:AV),setN l i v = l.set i v
  | [],i,v=>by cases i <;> rfl
  | a :: r,0,v=>rfl
  | a :: r,i + 1,v=>by
    show a :: setN r i v = _
    rw [setN_eq r i v]; rfl
def Ag (ts ts0:List AV):Prop:=ts.length = ts0.length ∧ ∀ i:Nat,ts[i]? = some AV.any ∨ ts[i]? = ts0[i]?
theorem Ag.refl (ts:List AV):Ag ts ts:=⟨rfl,fun _=>.inr rfl⟩
theorem Ag.set {ts ts0:List AV} (h:Ag ts ts0) (i:Nat) (v:AV):Ag (ts.set i v) (ts0.set i v):=by
  refine ⟨by simp [h.1],fun j=>?_⟩
  rw [List.getElem?_set,List.getElem?_set,h.1]
  split
  · exact .inr rfl
  · exact h.2 j
theorem live_some {a v:AV} (h:live? a = some v):a = v ∧ v ≠ .any:=by
  unfold live? at h
  split at h
  · cases h
  · rename_i hn; cases h; exact ⟨rfl,hn⟩
theorem Ag.get {ts ts0:List AV} (h:Ag ts ts0) {i:Nat} {v:AV} (hv:live? (nthA ts i) = some v):ts0.getD i undefA = v:=by
  obtain ⟨h1,h2⟩:=live_some hv
  rw [nthA_eq,List.getD_eq_getElem?_getD] at h1
  rw [List.getD_eq_getElem?_getD]
  rcases h.2 i with h3 | h3
  · rw [h3] at h1; exact (h2 h1.symm).elim
  · rw [← h3]; exact h1
theorem Ag.evX {ts ts0:List AV} (h:Ag ts ts0) {x:Operand} {v:AV} (hv:evX ts x = some v):evalX ts0 x = some v:=by
  cases x with
  | tmp t=>exact congrArg some (h.get hv)
  | const c=>exact hv
  | global _=>cases hv
  | func f=>exact hv
theorem Ag.evL {ts ts0:List AV} (h:Ag ts ts0):∀ {l:List Operand} {vs:List AV},evL ts l = some vs → evalL ts0 l = some vs
  | [],vs,hv=>hv
  | x :: r,vs,hv=>by
    simp only [Go.Proofs.YtfdcjngclelnhaaGreat.evL] at hv
    split at hv
    · rename_i a ha
      simp only [Option.map_eq_some_iff] at hv
      obtain ⟨l,h1,rfl⟩:=hv
      simp only [evalL,h.evX ha,h.evL h1,Option.map_some]
    · cases hv
theorem Ag.evP {ts ts0:List AV} (h:Ag ts ts0):∀ {l:List (Nat × Operand)} {vs:List (Nat × AV)},evP ts l = some vs → evalParts ts0 l = some vs
  | [],vs,hv=>hv
  | (i,x) :: r,vs,hv=>by
    simp only [Go.Proofs.YtfdcjngclelnhaaGreat.evP] at hv
    split at hv
    · rename_i a ha
      simp only [Option.map_eq_some_iff] at hv
      obtain ⟨l,h1,rfl⟩:=hv
      simp only [evalParts,h.evX ha,h.evP h1,Option.map_some]
    · cases hv
theorem Ag.bound {ts ts0:List AV} (h:Ag ts ts0) {o:Option Operand} {d top n:Nat} (hb:boundA ts o d top = some n):boundA ts0 o d top = some n:=by
  unfold boundA at hb ⊢
  cases o with
  | none=>exact hb
  | some x =>
    dsimp only at hb ⊢
    split at hb
    · rename_i k i hx
      have:evalX ts0 x = some (.dat (.int k i)):=by
        cases x with
        | tmp t =>
          simp only [evalX,Option.some.injEq] at hx ⊢
          refine h.get (v:=.dat (.int k i)) ?_
          rw [nthA_eq,hx]; rfl
        | const c=>exact hx
        | global _=>cases hx
        | func f=>exact hx
      rw [this]; exact hb
    · cases hb
theorem Ag.slice {ts ts0:List AV} (h:Ag ts ts0) {P:Program} {t:TypeId} {x v:AV} {lo hi mx:Option Operand} (hb:sliceA P t x lo hi mx ts = some v):sliceA P t x lo hi mx ts0 = some v:=by
  have step:∀ {o:Option Operand} {d top:Nat} {F:Option Nat → Option AV},F none = none → F (boundA ts o d top) = some v → F (boundA ts0 o d top) = some v:=by
    intro o d top F hn hF
    cases hb:boundA ts o d top with
    | none=>rw [hb,hn] at hF; cases hF
    | some n=>rw [hb] at hF; rw [h.bound hb]; exact hF
  unfold sliceA at hb ⊢
  split at hb
  · split at hb
    · cases hb
    · rename_i hm
      rw [if_neg hm]
      split at hb
      · rename_i b h1
        rw [h.bound h1]
        dsimp only
        split at hb
        · rename_i a h2; rw [h.bound h2]; exact hb
        · cases hb
      · cases hb
  · split at hb
    · cases hb
    · rename_i hz
      rw [if_neg hz]
      split at hb
      · split at hb
        · rename_i b h1
          rw [h.bound h1]
          dsimp only
          split at hb
          · rename_i a h2; rw [h.bound h2]; exact hb
          · cases hb
        · cases hb
      · split at hb
        · cases hb
        · split at hb
          · rename_i m h0
            rw [h.bound h0]
            dsimp only
            split at hb
            · rename_i b h1
              rw [h.bound h1]
              dsimp only
              split at hb
              · rename_i a h2; rw [h.bound h2]; exact hb
              · cases hb
            · cases hb
          · cases hb
  · split at hb
    · rename_i n es hn hes
      simp only [hn,hes]
      split at hb
      · rename_i hsz
        rw [if_pos hsz]
        split at hb
        · split at hb
          · rename_i b h1
            rw [h.bound h1]
            dsimp only
            split at hb
            · rename_i a h2; rw [h.bound h2]; exact hb
            · cases hb
          · cases hb
        · split at hb
          · cases hb
          · split at hb
            · rename_i m h0
              rw [h.bound h0]
              dsimp only
              split at hb
              · rename_i b h1
                rw [h.bound h1]
                dsimp only
                split at hb
                · rename_i a h2; rw [h.bound h2]; exact hb
                · cases hb
              · cases hb
            · cases hb
      · cases hb
    · cases hb
  · cases hb
theorem cnd_or {b:Bool} {t f:Prop} (h:cnd b t f):b = true ∧ t ∨ b = false ∧ f:=by
  cases b
  · exact .inr ⟨rfl,h⟩
  · exact .inl ⟨rfl,h⟩
theorem cnd_t {b:Bool} {t:Prop} (h:cnd b t False):b = true ∧ t:=by
  rcases cnd_or h with h | h
  · exact h
  · exact h.2.elim
theorem cnd_f {b:Bool} {f:Prop} (h:cnd b False f):b = false ∧ f:=by
  rcases cnd_or h with h | h
  · exact h.2.elim
  · exact h
theorem bnd_some {α:Type} {o:Option α} {K:α → Prop} (h:bnd False o K):∃ a,o = some a ∧ K a:=by
  cases o with
  | none=>exact h.elim
  | some a=>exact ⟨a,rfl,h⟩
theorem dflt_some {o:Option (AV × Heap)} {K:Kv} (h:dflt o K):∃ v h',o = some (v,h') ∧ K v h':=by
  obtain ⟨⟨v,h'⟩,h1,h2⟩:=bnd_some h
  exact ⟨v,h',h1,h2⟩
theorem keep_eq {h:Heap} {v:AV} {o:Option AV} (e:o = some v):keep h o = some (v,h):=by rw [e]; rfl
theorem asI_some {k:IntKind} {d:D} {n:Int} (h:asI k d = some n):d = .int k n:=by
  unfold asI at h
  split at h
  · split at h
    · rename_i e; subst e; cases h; rfl
    · cases h
  · cases h
theorem asS_some {d:D} {s:List UInt8} (h:asS d = some s):d = .str s:=by
  unfold asS at h
  split at h
  · cases h; rfl
  · cases h
theorem asB_some {d:D} {b:Bool} (h:asB d = some b):d = .bool b:=by
  unfold asB at h
  split at h
  · cases h; rfl
  · cases h
theorem asL_some {d:D} {es:List D} (h:asL d = some es):elems (.dat d) = some es:=by
  unfold asL at h
  split at h
  · cases h; rfl
  · cases h; rfl
  · cases h
theorem elemsK_some {x:AV} {es:List D} (h:elemsK x = some es):elems x = some es:=by
  unfold elemsK at h
  split at h
  · exact asL_some h
  · cases h; rfl
  · cases h
theorem okC_exp:∀ (l:List CTy) (d:D) (i:Nat),okC l (d.cells.drop i) = true → expC l d i = d.cells.drop i
  | [],d,i,h=>by
    cases hd:d.cells.drop i with
    | nil=>rfl
    | cons x q=>rw [hd] at h; cases h
  | c :: r,d,i,h=>by
    cases hd:d.cells.drop i with
    | nil=>rw [hd] at h; cases h
    | cons x q =>
      rw [hd] at h
      simp only [okC,Bool.and_eq_true] at h
      have hq:d.cells.drop (i + 1) = q:=by
        have:=congrArg List.tail hd
        simpa [List.tail_drop] using this
      have hx:cel d i = x:=by
        unfold cel
        have:d.cells[i]? = some x:=by
          have:=congrArg (fun l=>l[0]?) hd
          simpa using this
        rw [List.getD_eq_getElem?_getD,this]; rfl
      have ih:=okC_exp r d (i + 1) (by rw [hq]; exact h.2)
      show _ :: expC r d (i + 1) = x :: q
      rw [ih,hq]
      congr 1
      cases c with
      | i k=>cases x <;> simp [okD] at h; rename_i k' n; obtain ⟨rfl,_⟩:=h; simp [cI,hx]
      | s=>cases x <;> simp [okD] at h; simp [cS,hx]
      | b=>cases x <;> simp [okD] at h; simp [cB,hx]
      | o=>exact hx
theorem okT_eq {P:Program} {t:TypeId} {d:D} (h:okT P t d = true):d = .agg (cells P t d):=by
  unfold okT at h
  split at h
  · rename_i ds
    have:=okC_exp (ctys P 8 t) (.agg ds) 0 (by simpa [D.cells] using h)
    unfold cells
    rw [this]
    simp [D.cells]
  · cases h
theorem castK_some {P:Program} {t:TypeId} {d:D} {K:AV → Prop} (h:castK False P t d K):K (.dat d):=by
  unfold castK at h
  split at h
  · obtain ⟨n,h1,h2⟩:=bnd_some h
    rw [asI_some h1]; exact h2
  · obtain ⟨n,h1,h2⟩:=bnd_some h
    rw [asS_some h1]; exact h2
  · obtain ⟨n,h1,h2⟩:=bnd_some h
    rw [asB_some h1]; exact h2
  · obtain ⟨h1,h2⟩:=cnd_t h
    rw [okT_eq h1]; exact h2
  · obtain ⟨h1,h2⟩:=cnd_t h
    rw [okT_eq h1]; exact h2
  · exact h
  · exact h.elim
section
variable {P:Program} {h:Heap} {K:Kv} {ts:List AV}
theorem binK_some {op:BinOp} {t:TypeId} {x y:AV} (hk:binK P op t x y h K):∃ v h',keep h (binA P op t x y) = some (v,h') ∧ K v h':=by
  unfold binK at hk
  split at hk
  · rename_i k a k' b
    split at hk
    · split at hk
      · rename_i e; subst e
        obtain ⟨h1,h2⟩:=cnd_f hk
        refine ⟨_,_,keep_eq ?_,h2⟩
        simp only [beq_eq_false_iff_ne] at h1
        simp [binA,intOp,h1]
      · exact hk.elim
    · split at hk
      · rename_i e; subst e
        obtain ⟨h1,h2⟩:=cnd_f hk
        refine ⟨_,_,keep_eq ?_,h2⟩
        simp only [beq_eq_false_iff_ne] at h1
        simp [binA,intOp,h1]
      · exact hk.elim
    · obtain ⟨h1,h2⟩:=cnd_f hk
      refine ⟨_,_,keep_eq ?_,h2⟩
      simp only [decide_eq_false_iff_not] at h1
      simp [binA,shiftOp,h1]
    · obtain ⟨h1,h2⟩:=cnd_f hk
      refine ⟨_,_,keep_eq ?_,h2⟩
      simp only [decide_eq_false_iff_not] at h1
      simp [binA,shiftOp,h1]
    · exact dflt_some hk
  · split at hk
    · obtain ⟨h1,h2⟩:=cnd_t hk
      refine ⟨_,_,keep_eq ?_,h2⟩
      simp only [decide_eq_true_eq] at h1
      simp [binA,strOp,h1]
    · exact dflt_some hk
  · exact hk.elim
  · exact hk.elim
  · rename_i x y h1 h2 h5 h6
    split at hk
    · obtain ⟨b,h3,h4⟩:=bnd_some hk
      refine ⟨_,_,keep_eq ?_,h4⟩
      unfold binA
      split
      all_goals first
        | (exact (h1 _ _ _ _ rfl rfl).elim)
        | (exact (h2 _ _ _ _ rfl rfl).elim)
        | (exact (h5 _ _ _ _ rfl rfl).elim)
        | (exact (h1 _ _ rfl rfl).elim)
        | (exact (h2 _ _ rfl rfl).elim)
        | (exact (h5 _ _ rfl rfl).elim)
        | (exact (h6 _ _ rfl rfl).elim)
        | (exact (h1 rfl).elim)
        | (exact (h2 rfl).elim)
        | (exact (h5 rfl).elim)
        | (exact (h6 rfl).elim)
        | (simp [h3]; done)
    · obtain ⟨b,h3,h4⟩:=bnd_some hk
      refine ⟨_,_,keep_eq ?_,h4⟩
      unfold binA
      split
      all_goals first
        | (exact (h1 _ _ _ _ rfl rfl).elim)
        | (exact (h2 _ _ _ _ rfl rfl).elim)
        | (exact (h5 _ _ _ _ rfl rfl).elim)
        | (exact (h1 _ _ rfl rfl).elim)
        | (exact (h2 _ _ rfl rfl).elim)
        | (exact (h5 _ _ rfl rfl).elim)
        | (exact (h6 _ _ rfl rfl).elim)
        | (exact (h1 rfl).elim)
        | (exact (h2 rfl).elim)
        | (exact (h5 rfl).elim)
        | (exact (h6 rfl).elim)
        | (simp [h3]; done)
    · exact hk.elim
theorem atD_some {es:List D} {i:Int} {e:D} (hi:atD es i = some e):¬ i < 0 ∧ es[i.toNat]? = some e:=by
  unfold atD at hi
  split at hi
  · cases hi
  · exact ⟨by assumption,hi⟩
theorem cells1_eq {d:D} (hf:d.flat = true):d.cells = [d]:=by cases d <;> first | rfl | cases hf
theorem indexAddrK_some {t:TypeId} {x i:AV} (hk:indexAddrK P t x i h K):∃ v h',keep h (indexAddrA P t x i) = some (v,h') ∧ K v h':=by
  unfold indexAddrK at hk
  split at hk
  · rename_i k i
    have hkind:∀ x,indexAddrA P t x (.dat (.int k i)) = indexAddrA P t x (.dat (.int .i64 i)):=fun x=>rfl
    split at hk
    · rename_i elem hu
      split at hk
      · rw [hkind]; exact dflt_some hk
      · rename_i hx
        split at hk
        · rename_i n hn
          obtain ⟨es,h1,hk⟩:=bnd_some hk
          obtain ⟨e,h2,hk⟩:=bnd_some hk
          have h1:=elemsK_some h1
          obtain ⟨h3,h4⟩:=atD_some h2
          have key:∀ cs,e.cells = cs → cs.length = n → keep h (indexAddrA P t x (.dat (.int k i))) = some (.ep cs 0,h):=by
            intro cs hcs hl
            refine keep_eq ?_
            have hl2:e.cells.length = n:=by rw [hcs]; exact hl
            cases x <;> first
              | (exact (hx _ _ _ _ _ rfl).elim)
              | (simp only [indexAddrA,if_neg h3,hu,hn,h1,h4,if_pos hl2]; rw [hcs])
          split at hk
          · obtain ⟨h5,hk⟩:=cnd_t hk
            dsimp only at hk
            split at hk
            · rename_i hl
              refine ⟨_,_,key _ ?_ hl,hk⟩
              rw [okT_eq h5]
              have:=okT_eq h5
              show cells P elem e = _
              conv=>rhs; rw [← this]
            · exact hk.elim
          · split at hk
            · rename_i hn1
              obtain ⟨h5,hk⟩:=cnd_t hk
              have hk:=castK_some hk
              exact ⟨_,_,key [e] (cells1_eq h5) hn1.symm,hk⟩
            · exact hk.elim
          · exact hk.elim
        · exact hk.elim
    · rw [hkind]; exact dflt_some hk
  · exact hk.elim
theorem indexK_some {t:TypeId} {x i:AV} (hk:indexK P t x i h K):∃ v h',keep h (indexA P t x i) = some (v,h') ∧ K v h':=by
  unfold indexK at hk
  split at hk
  · rename_i k i
    have hkind:∀ x,indexA P t x (.dat (.int k i)) = indexA P t x (.dat (.int .i64 i)):=fun x=>rfl
    split at hk
    · rename_i s hu
      obtain ⟨h1,hk⟩:=cnd_f hk
      obtain ⟨b,h2,hk⟩:=bnd_some hk
      simp only [decide_eq_false_iff_not] at h1
      refine ⟨_,_,keep_eq ?_,hk⟩
      simp [indexA,h1,hu,h2]
    · rename_i len elem ds hu
      split at hk
      · rename_i n hn ha
        obtain ⟨h1,hk⟩:=cnd_t hk
        obtain ⟨d,h2,hk⟩:=bnd_some hk
        simp only [Bool.and_eq_true,decide_eq_true_eq] at h1
        refine ⟨_,_,keep_eq ?_,castK_some hk⟩
        have h3:¬ i < 0:=by omega
        simp [indexA,h3,hu,hn,h1.2,partA,ha,h2]
      · rw [hkind]; exact dflt_some hk
    · rw [hkind]; exact dflt_some hk
  · exact hk.elim
theorem boundK_some {ts0:List AV} (hag:Ag ts ts0) {o:Option Operand} {d top:Nat} {Z:Nat → Prop} (hk:boundK ts o d top Z):∃ n,boundA ts0 o d top = some n ∧ Z n:=by
  unfold boundK at hk
  split at hk
  · exact ⟨_,rfl,hk⟩
  · rename_i x
    split at hk
    · rename_i k i hx
      obtain ⟨h1,hk⟩:=cnd_t hk
      simp only [Bool.and_eq_true,decide_eq_true_eq] at h1
      refine ⟨_,?_,hk⟩
      simp [boundA,hag.evX hx,h1]
    · exact hk.elim
theorem sliceK_some {ts0:List AV} (hag:Ag ts ts0) {t:TypeId} {x:AV} {lo hi mx:Option Operand} (hk:sliceK P t x lo hi mx ts h K):∃ v h',keep h (sliceA P t x lo hi mx ts0) = some (v,h') ∧ K v h':=by
  unfold sliceK at hk
  split at hk
  · rename_i s hu
    obtain ⟨b,h1,hk⟩:=boundK_some hag hk
    obtain ⟨a,h2,hk⟩:=boundK_some hag hk
    refine ⟨_,_,keep_eq ?_,hk⟩
    simp [sliceA,hu,h1,h2]
  · rename_i elem es hu
    split at hk
    · rename_i n hn
      obtain ⟨h0,hk⟩:=cnd_t hk
      obtain ⟨b,h1,hk⟩:=boundK_some hag hk
      obtain ⟨a,h2,hk⟩:=boundK_some hag hk
      refine ⟨_,_,keep_eq ?_,hk⟩
      simp [sliceA,hu,hn,elems,h0,h1,h2]
    · exact hk.elim
  · obtain ⟨v,h',h1,h2⟩:=dflt_some hk
    simp only [keep,Option.map_eq_some_iff,Prod.mk.injEq] at h1
    obtain ⟨u,h3,rfl,rfl⟩:=h1
    exact ⟨_,_,keep_eq (hag.slice h3),h2⟩
theorem lenK_some {t:TypeId} {x:AV} (hk:lenK P t x h K):∃ v h',(lenA P t x).map (fun v=>(v,h)) = some (v,h') ∧ K v h':=by
  unfold lenK at hk
  split at hk
  · rename_i e d hu
    obtain ⟨es,h1,hk⟩:=bnd_some hk
    refine ⟨_,_,?_,hk⟩
    simp [lenA,hu,asL_some h1]
  · exact dflt_some hk
theorem flatK_some {v:AV} {Z:Prop} (hk:flatK v Z):v.isCell = true ∧ v.cells = [v] ∧ Z:=by
  cases v with
  | dat d =>
    obtain ⟨h1,hk⟩:=cnd_t hk
    refine ⟨?_,?_,hk⟩ <;> cases d <;> first | rfl | cases h1
  | agg _=>exact hk.elim
  | tuple _=>exact hk.elim
  | _=>exact ⟨rfl,rfl,hk⟩
theorem flatsK_some:∀ {vs:List AV} {Z:Prop},flatsK vs Z → vs.all AV.isCell = true ∧ Z
  | [],_,h=>⟨rfl,h⟩
  | v :: r,Z,h=>by
    obtain ⟨h1,_,h2⟩:=flatK_some h
    obtain ⟨h3,h4⟩:=flatsK_some h2
    exact ⟨by simp [h1,h3],h4⟩
theorem cellsK_some {n:Nat} {agg:Bool} {v:AV} {Z:List AV → Prop} (hk:cellsK n agg v Z):v.cells.length = n ∧ Z v.cells:=by
  unfold cellsK at hk
  split at hk
  · split at hk
    · split at hk
      · rename_i hl; exact ⟨by simpa [AV.cells] using hl,hk⟩
      · exact hk.elim
    · split at hk
      · rename_i hl; exact ⟨by simpa [AV.cells] using hl,hk⟩
      · exact hk.elim
    · exact hk.elim
  · split at hk
    · rename_i hn
      obtain ⟨h1,h2,h3⟩:=flatK_some hk
      rw [h2]
      exact ⟨by simp [hn],h3⟩
    · exact hk.elim
theorem fillK_some {place:Nat → Option (Nat × Nat × Bool)}:∀ {parts:List (Nat × AV)} {cs:List AV} {Z:List AV → Prop},fillK place cs parts Z → ∃ cs',fillA (fun i=>(place i).map fun p=>(p.1,p.2.1)) cs parts = some cs' ∧ Z cs'
  | [],cs,Z,h=>⟨cs,rfl,h⟩
  | (i,v) :: rest,cs,Z,h=>by
    unfold fillK at h
    split at h
    · exact h.elim
    · rename_i off size agg hp
      obtain ⟨h1,h2⟩:=cellsK_some h
      split at h2
      · rename_i hle
        obtain ⟨cs',h3,h4⟩:=fillK_some h2
        refine ⟨cs',?_,h4⟩
        simp only [fillA,hp,Option.map_some]
        rw [if_pos ⟨h1,hle⟩]
        exact h3
      · exact h2.elim
theorem fieldPl_some:∀ {fs:List Field} {pl:List (Nat × Nat × Bool)},fieldPl P fs = some pl → fieldPlaces P fs = some (pl.map fun p=>(p.1,p.2.1))
  | [],pl,h=>by cases h; rfl
  | f :: r,pl,h=>by
    simp only [fieldPl] at h
    split at h
    · rename_i n a hn ha
      simp only [Option.map_eq_some_iff] at h
      obtain ⟨l,h1,rfl⟩:=h
      simp [fieldPlaces,hn,fieldPl_some h1]
    · cases h
theorem buildK_some {t:TypeId} {parts:List (Nat × AV)} (hk:buildK P t parts h K):∃ v h',keep h (buildA P t parts) = some (v,h') ∧ K v h':=by
  unfold buildK at hk
  split at hk
  · rename_i z fields hz hu
    split at hk
    · rename_i pl hpl
      obtain ⟨cs,h1,h2⟩:=fillK_some hk
      refine ⟨_,_,keep_eq ?_,h2⟩
      have:(fun (i:Nat)=>(pl.map fun (p:Nat × Nat × Bool)=>(p.1,p.2.1))[i]?) = fun (i:Nat)=>(pl[i]?).map fun (p:Nat × Nat × Bool)=>(p.1,p.2.1):=by
        funext i; simp
      simp only [buildA,hz,hu,fieldPl_some hpl,this,h1,Option.map_some]
    · exact hk.elim
  · rename_i z len elem hz hu
    split at hk
    · rename_i n a hn ha
      obtain ⟨cs,h1,h2⟩:=fillK_some hk
      refine ⟨_,_,keep_eq ?_,h2⟩
      simp only [Option.map_some] at h1
      simp only [buildA,hz,hu,hn,h1,Option.map_some]
    · exact hk.elim
  · exact hk.elim
theorem fillSK_some {sz:Nat} {agg:Bool}:∀ {parts:List (Nat × AV)} {es:List D} {Z:List D → Prop},fillSK sz agg es parts Z → ∃ es',fillS sz es parts = some es' ∧ Z es'
  | [],es,Z,h=>⟨es,rfl,h⟩
  | (i,v) :: rest,es,Z,h=>by
    unfold fillSK at h
    split at h
    · rename_i d hd
      obtain ⟨h1,h2⟩:=cellsK_some h
      have h1:d.cells.length = sz:=by
        have e:(AV.dat d).cells.length = d.cells.length:=by cases d <;> simp [AV.cells,D.cells]
        rw [← e]; exact h1
      split at h2
      · rename_i hi
        obtain ⟨es',h3,h4⟩:=fillSK_some h2
        refine ⟨es',?_,h4⟩
        simp only [fillS,hd]
        rw [if_pos ⟨h1,hi⟩]
        exact h3
      · exact h2.elim
    · exact h.elim
theorem buildSliceK_some {t:TypeId} {len:Nat} {parts:List (Nat × AV)} (hk:buildSliceK P t len parts h K):∃ v h',keep h (buildSliceA P t len parts) = some (v,h') ∧ K v h':=by
  unfold buildSliceK at hk
  split at hk
  · rename_i elem hu
    split at hk
    · rename_i n z a hn hz ha
      split at hk
      · rename_i zd hzd
        split at hk
        · rename_i hc
          obtain ⟨es,h1,h2⟩:=fillSK_some hk
          refine ⟨_,_,keep_eq ?_,h2⟩
          simp only [buildSliceA,hu,hn,hz,hzd,if_pos hc,h1,Option.map_some]
        · exact hk.elim
      · exact hk.elim
    · exact hk.elim
  · exact hk.elim
theorem settleK1_some {id off ver:Nat} {old:Option AV} {v:AV} {Z:AV → Heap → Prop} (hk:settleK1 h id off ver old v Z):Z (settle h id off ver old v).1 (settle h id off ver old v).2:=by
  cases v with
  | own g es =>
    cases g with
    | full=>exact hk
    | tip i =>
      have e1:settle h id off ver old (.own (.tip i) es) = (match h[i]? with
        | some (some (.tip e n _))=>if n = es.length ∧ i ≠ id then (.own (.at id off ver e) es,h.set i none) else (.dat (.slice es),h)
        | _=>(.dat (.slice es),h)):=rfl
      rw [e1]
      simp only [settleK1] at hk
      split at hk
      · rename_i e n sz hi
        simp only [hi]
        split at hk
        · rename_i hne
          obtain ⟨h1,hk⟩:=cnd_t hk
          rw [if_pos ⟨Nat.eq_of_beq_eq_true h1,hne⟩]; exact hk
        · rename_i hne
          rw [if_neg (fun hc=>hne hc.2)]; exact hk
      · rename_i hno
        split
        · rename_i e n sz hi; exact (hno _ _ _ hi).elim
        · exact hk
    | «at» i o v e =>
      cases old with
      | none=>exact hk
      | some w =>
        cases w with
        | own g' es' =>
          cases g' with
          | «at» i' o' v' e' =>
            have e1:settle h id off ver (some (.own (.at i' o' v' e') es')) (.own (.at i o v e) es) = (if i = id ∧ o = off ∧ i' = id ∧ o' = off ∧ v = v' ∧ e = e' ∧ es.length = es'.length then (.own (.at i o v e) es,h) else (.dat (.slice es),h)):=rfl
            rw [e1]
            simp only [settleK1] at hk
            split at hk
            · rename_i hc
              obtain ⟨h1,hk⟩:=cnd_t hk
              simp only [Bool.and_eq_true] at h1
              rw [if_pos ⟨hc.1,hc.2.1,hc.2.2.1,hc.2.2.2.1,Nat.eq_of_beq_eq_true h1.1,hc.2.2.2.2,Nat.eq_of_beq_eq_true h1.2⟩]; exact hk
            · rename_i hc
              rw [if_neg (fun hq=>hc ⟨hq.1,hq.2.1,hq.2.2.1,hq.2.2.2.1,hq.2.2.2.2.2.1⟩)]; exact hk
          | _=>exact hk
        | _=>exact hk
  | _=>exact hk
theorem settleK_some {id:Nat} {cs:List AV}:∀ {vs:List AV} {off ver:Nat} {h:Heap} {Z:List AV → Heap → Prop},settleK id cs off ver h vs Z → Z (settleL id cs off ver h vs).1 (settleL id cs off ver h vs).2
  | [],_,_,_,_,hk=>hk
  | v :: r,off,ver,h,Z,hk=>by
    have h1:=settleK1_some hk
    have h2:=settleK_some h1
    exact h2
theorem storeK_some {t:TypeId} {x v:AV} (hk:storeK P t x v h K):∃ u h',(storeA P t x v h).map (fun h'=>(undefA,h')) = some (u,h') ∧ K u h':=by
  unfold storeK at hk
  split at hk
  · rename_i id off n a hn ha
    split at hk
    · rename_i e cs ver hid
      obtain ⟨h1,h2⟩:=cellsK_some hk
      obtain ⟨h3,h4⟩:=flatsK_some h2
      split at h4
      · rename_i hle
        have h4:=settleK_some h4
        split at h4
        · rename_i hu
          refine ⟨_,_,?_,h4⟩
          simp [storeA,hn,hid,h1,hle,List.all_eq_true.1 h3,hu]
          intro x hx
          exact List.all_eq_true.1 h3 x hx
        · exact h4.elim
      · exact h4.elim
    · exact hk.elim
  · exact dflt_some hk
theorem newVarK_some {place:Option Nat} {t:TypeId} {v:AV} (hk:newVarK P place h t v K):∃ u h',newVarA place h t v.cells = some (u,h') ∧ K u h':=by
  unfold newVarK at hk
  split at hk
  · obtain ⟨h1,h2⟩:=cellsK_some hk
    exact dflt_some h2
  · exact hk.elim
end
end Go.Proofs.YtfdcjngclelnhaaGreat
namespace Go.Proofs.YtfdcjngclelnhaaGreat
open Go Go.RowKit
variable [mode:Inhabited ModeT]
theorem isCell_dat (c:D):AV.isCell (.dat c) = c.flat:=by cases c <;> rfl
theorem fitsK_some {sz:Nat} {agg:Bool}:∀ {es:List D} {Z:Prop},fitsK sz agg es Z → es.all (fitsD sz) = true ∧ Z
  | [],_,h=>⟨rfl,h⟩
  | d :: r,Z,h=>by
    unfold fitsK at h
    split at h
    · split at h
      · rename_i cs
        split at h
        · rename_i hl
          obtain ⟨h1,h2⟩:=flatsK_some h
          obtain ⟨h3,h4⟩:=fitsK_some h2
          refine ⟨?_,h4⟩
          simp only [List.all_cons,h3,Bool.and_true,fitsD,D.cells,hl,beq_self_eq_true,Bool.true_and]
          rw [List.all_map] at h1
          rw [List.all_eq_true] at h1 ⊢
          intro c hc
          have:=h1 c hc
          simpa [isCell_dat] using this
        · exact h.elim
      · exact h.elim
    · split at h
      · rename_i hs
        obtain ⟨h1,h2⟩:=cnd_t h
        obtain ⟨h3,h4⟩:=fitsK_some h2
        refine ⟨?_,h4⟩
        rw [List.all_cons,h3,Bool.and_true]
        simp [fitsD,cells1_eq h1,hs,h1]
      · exact h.elim
theorem moreK_some {sz:Nat} {agg:Bool} {x:AV} {Z:List D → Prop} (hk:moreK sz agg x Z):∃ xs,moreA sz x = some xs ∧ Z xs:=by
  unfold moreK at hk
  split at hk
  · split at hk
    · rename_i h1
      exact ⟨_,by simp [moreA,h1],hk⟩
    · exact hk.elim
  · rename_i d hd
    obtain ⟨es,h1,hk⟩:=bnd_some hk
    obtain ⟨h2,hk⟩:=cnd_t hk
    refine ⟨es,?_,hk⟩
    unfold asL at h1
    split at h1
    · cases h1; rfl
    · cases h1; simp only [moreA,h2,if_true]
    · cases h1
  · obtain ⟨h1,h2⟩:=fitsK_some hk
    exact ⟨_,by simp only [moreA,h1,if_true],h2⟩
  · exact hk.elim
section
variable {P:Program} {h:Heap} {K:Kv} {ts:List AV}
def isIntT:TypeDesc → Bool | .int _=>true | _=>false
theorem appendA_head {sT xT:TypeId} {tr:List TypeId} {s x:AV} {elem:TypeId} {xd:TypeDesc} {info:TypeInfo} {xs:List D} {place:Option Nat} {h:Heap} (hnf:¬ intoFree P (sT :: xT :: tr) s = true) (hu:P.underlying sT = some (.slice elem)) (hxd:P.underlying xT = some xd)
    (hxi:isIntT xd = false) (hinfo:P.info? elem = some info) (h1:moreA info.size x = some xs) (hs0:info.size ≠ 0) (hz:info.zero.map (fun v=>v.cells.size) = some info.size) :
    appendA P (sT :: xT :: tr) place s x h = appendT place h elem info s xs:=by
  have hz':¬ (info.zero.map (fun v=>v.cells.size) ≠ some info.size):=by simp [hz]
  unfold appendA
  rw [if_neg hnf]
  simp only [hu,hxd,hinfo]
  cases xd <;> first
    | (cases hxi; done)
    | (simp only [h1,if_neg hs0,if_neg hz']; rfl)
theorem intoFreeK_eq {tl:List TypeId} {s:AV} (h:intoFreeK P tl s = false):intoFree P tl s = false:=by
  unfold intoFreeK at h
  split at h
  · rename_i hf
    unfold intoFree
    split
    · cases h
    · unfold freeSlice at hf; exact hf
    · unfold freeSlice at hf; exact hf
    · rfl
  · exact h
theorem appendK_some {tl:List TypeId} {place:Option Nat} {s x:AV} (hk:appendK P tl place s x h K):∃ v h',appendA P tl place s x h = some (v,h') ∧ K v h':=by
  unfold appendK at hk
  split at hk
  · exact dflt_some hk
  · rename_i hnf0
    have hnf:¬ intoFree P tl s = true:=by rw [intoFreeK_eq hnf0]; simp
    split at hk
    · rename_i sT xT tr
      split at hk
      · rename_i elem xd hu hxd
        split at hk
        · rename_i info agg hxi hinfo hagg
          split at hk
          · exact hk.elim
          · rename_i hsz
            obtain ⟨hs0,hz⟩:info.size ≠ 0 ∧ info.zero.map (fun v=>v.cells.size) = some info.size:=by
              simpa using hsz
            obtain ⟨xs,h1,hk⟩:=moreK_some hk
            have hhead:=appendA_head hnf hu hxd (by cases xd <;> first | rfl | cases hxi) hinfo h1 hs0 hz (place:=place) (h:=h)
            rcases cnd_or hk with ⟨he,hk⟩ | ⟨he,hk⟩
            · rw [hhead]; unfold appendT; rw [he]
              simp only [if_true]
              split at hk
              · rename_i q hq
                exact ⟨_,_,by first | rfl | rw [hq],hk⟩
              · exact hk.elim
            · split at hk
              · rename_i id es
                split at hk
                · rename_i e n sz hid
                  split at hk
                  · rename_i hes
                    obtain ⟨h3,hk⟩:=cnd_t hk
                    obtain ⟨h4,hk⟩:=cnd_t hk
                    refine ⟨_,_,?_,hk⟩
                    rw [hhead]; unfold appendT; rw [he]
                    simp only [Bool.false_eq_true,if_false,hid]
                    rw [if_pos ⟨by simpa using h3,hes.1,hes.2,h4⟩]
                  · exact hk.elim
                · exact hk.elim
              · rename_i es
                obtain ⟨h3,hk⟩:=cnd_t hk
                obtain ⟨h4,hk⟩:=cnd_t hk
                split at hk
                · rename_i id h' ha
                  refine ⟨_,_,?_,hk⟩
                  rw [hhead]; unfold appendT; rw [he]
                  simp only [Bool.false_eq_true,if_false,h3,h4,and_self,if_true,ha]
                · exact hk.elim
              · obtain ⟨h4,hk⟩:=cnd_t hk
                split at hk
                · rename_i id h' ha
                  refine ⟨_,_,?_,hk⟩
                  rw [hhead]; unfold appendT; rw [he]
                  simp only [Bool.false_eq_true,if_false,h4,if_true,ha]
                · exact hk.elim
              · rename_i b off v e es
                split at hk
                · rename_i be cs ver hb
                  split at hk
                  · rename_i b' off' v' e' es' hcs
                    split at hk
                    · rename_i hc
                      obtain ⟨g1,hk⟩:=cnd_t hk
                      obtain ⟨g2,hk⟩:=cnd_t hk
                      obtain ⟨g3,hk⟩:=cnd_f hk
                      obtain ⟨g4,hk⟩:=cnd_t hk
                      obtain ⟨g5,hk⟩:=cnd_t hk
                      split at hk
                      · rename_i id h' ha
                        refine ⟨_,_,?_,hk⟩
                        rw [hhead]; unfold appendT; rw [he]
                        simp only [Bool.false_eq_true,if_false,hb,hcs]
                        rw [if_pos ⟨hc.1,hc.2.1,Nat.eq_of_beq_eq_true g1,hc.2.2.1,hc.2.2.2,Nat.eq_of_beq_eq_true g2,(fun h0=>by rw [List.eq_nil_of_length_eq_zero h0] at g3; cases g3),g4,g5⟩,ha]
                      · exact hk.elim
                    · exact hk.elim
                  · exact hk.elim
                · exact hk.elim
              · obtain ⟨v,h',h3,h4⟩:=dflt_some hk
                exact ⟨v,h',by rw [hhead]; exact h3,h4⟩
        · exact hk.elim
      · exact hk.elim
    · exact hk.elim
theorem convK_some {src dst:TypeId} {x:AV} (hk:convK P src dst x h K) :
    ∃ v h',(match some x with | some (.ptr o)=>keep h (convPtr P src dst (.ptr o) h) | some a=>keep h (convA P src dst a) | none=>none) = some (v,h') ∧ K v h':=by
  cases x with
  | ptr o =>
    unfold convK at hk
    split at hk
    · rename_i e; cases e
    · rename_i e; cases e
    · rename_i e; cases e; exact dflt_some hk
    · rename_i h1 h2 h3; first | exact (h1 _ rfl).elim | exact (h2 _ rfl).elim | exact (h3 _ rfl).elim
  | dat d =>
    unfold convK at hk
    split at hk
    · rename_i e d' hs hd e'
      cases e'
      split at hk
      · rename_i he
        obtain ⟨es,h1,hk⟩:=bnd_some hk
        obtain ⟨s,h2,hk⟩:=bnd_some hk
        refine ⟨_,_,keep_eq ?_,hk⟩
        cases d <;> simp [asL] at h1 <;> subst h1 <;> simp [convA,hs,hd,he,elems,h2]
      · exact hk.elim
    · rename_i e; cases e
    · rename_i e; cases e
    · exact dflt_some hk
  | own g es =>
    unfold convK at hk
    split at hk
    · rename_i e; cases e
    · rename_i e g' es' hs hd e'
      cases e'
      split at hk
      · rename_i he
        obtain ⟨s,h2,hk⟩:=bnd_some hk
        exact ⟨_,_,keep_eq (by simp [convA,hs,hd,he,elems,h2]),hk⟩
      · exact hk.elim
    · rename_i e; cases e
    · exact dflt_some hk
  | _ =>
    unfold convK at hk
    split at hk
    · rename_i e; cases e
    · rename_i e; cases e
    · rename_i e; cases e
    · exact dflt_some hk
theorem unsafeStringK_some {pt:TypeId} {p n:AV} (hk:unsafeStringK P pt p n h K):∃ v h',keep h (unsafeStringA P pt p n h) = some (v,h') ∧ K v h':=by
  unfold unsafeStringK at hk
  split at hk
  · rename_i b off v e es k n
    unfold cnd at hk
    split at hk
    · exact hk.elim
    · rename_i hn
      have hn':¬ n < 0:=of_decide_eq_false hn
      split at hk
      · rename_i h0
        have e0:n = 0:=eq_of_beq h0
        exact ⟨.dat (.str []),h,by simp only [unsafeStringA,if_neg hn',if_pos e0]; rfl,hk⟩
      · rename_i h0
        have e0:¬ n = 0:=fun e=>by rw [e] at h0; cases h0
        split at hk
        · rename_i x cs y u h1 h2
          split at hk
          · rename_i b' off' v' e' es' h3
            split at hk
            · rename_i hc
              obtain ⟨s,h4,h5⟩:=bnd_some hk
              simp only [Bool.and_eq_true,decide_eq_true_eq] at hc
              obtain ⟨⟨⟨⟨⟨⟨⟨⟨c1,c2⟩,c3⟩,c4⟩,c5⟩,c6⟩,c7⟩,c8⟩,c9⟩:=hc
              exact ⟨.dat (.str s),h,by simp only [unsafeStringA,if_neg hn',if_neg e0,h1,h2,h3]; rw [if_pos ⟨Nat.eq_of_beq_eq_true c1,Nat.eq_of_beq_eq_true c2,Nat.eq_of_beq_eq_true c3,Nat.eq_of_beq_eq_true c4,Nat.eq_of_beq_eq_true c5,Nat.eq_of_beq_eq_true c6,c7,c8,c9⟩,h4]; rfl,h5⟩
            · exact hk.elim
          · exact hk.elim
        · exact hk.elim
  · exact dflt_some hk
def CkOk (ck:CallK) (callf:CallF):Prop:=∀ f p,ck f = some p → ∀ args h K,p args h K → ∃ v h',callf f args h = some (v,h') ∧ K v h'
variable {ck:CallK} {callf:CallF}
theorem callK_some (hc:CkOk ck callf) {ts0:List AV} (hag:Ag ts ts0) {place:Option Nat} {c:Call} (hk:callK P ck place c ts h K):∃ v h',callA P callf place c ts0 h = some (v,h') ∧ K v h':=by
  unfold callK at hk
  split at hk
  · exact hk.elim
  · rename_i args ha
    unfold callA
    rw [hag.evL ha]
    split at hk
    · rename_i b hb
      simp only [hb]
      split at hk
      · rename_i ht
        obtain ⟨v,h',h1,h2⟩:=lenK_some hk
        exact ⟨v,h',by simp only [builtinA,ht]; exact h1,h2⟩
      · obtain ⟨v,h',h1,h2⟩:=appendK_some hk
        exact ⟨v,h',h1,h2⟩
      · rename_i b off v e' es
        unfold cnd at hk
        split at hk
        · exact hk.elim
        · rename_i he
          cases es with
          | nil=>cases he
          | cons x r=>exact ⟨_,h,rfl,hk⟩
      · rename_i ht
        obtain ⟨v,h',h1,h2⟩:=unsafeStringK_some hk
        exact ⟨v,h',by simp only [builtinA,ht]; exact h1,h2⟩
      · obtain ⟨v,h',h1,h2⟩:=dflt_some hk
        exact ⟨v,h',h1,h2⟩
    · rename_i x hx
      simp only [hx]
      split at hk
      · rename_i f first captured hf
        split at hk
        · rename_i p hp
          obtain ⟨v,h',h1,h2⟩:=hc f p hp _ _ _ hk
          exact ⟨v,h',by simp only [hag.evX hf]; exact h1,h2⟩
        · exact hk.elim
      · exact hk.elim
    · exact hk.elim
theorem keep_bnd {o:Option AV} (hk:bnd False o fun v=>K v h):∃ v h',keep h o = some (v,h') ∧ K v h':=by
  obtain ⟨v,h1,h2⟩:=bnd_some hk
  exact ⟨v,h,keep_eq h1,h2⟩
theorem stepK_some (hc:CkOk ck callf) {ts0:List AV} (hag:Ag ts ts0) {place:Option Nat} {op:Op} (hk:stepK P ck place op ts h K):∃ v h',stepOp P callf place op ts0 h = some (v,h') ∧ K v h':=by
  cases op with
  | move x | assign x =>
    simp only [stepK] at hk
    obtain ⟨v,h1,h2⟩:=bnd_some hk
    exact ⟨v,h,keep_eq (hag.evX h1),h2⟩
  | pick c a b =>
    simp only [stepK] at hk
    split at hk
    · rename_i t ht
      simp only [stepOp,hag.evX ht]
      rcases cnd_or hk with ⟨rfl,hk⟩ | ⟨rfl,hk⟩
      · obtain ⟨v,h1,h2⟩:=bnd_some hk
        exact ⟨v,h,keep_eq (hag.evX h1),h2⟩
      · obtain ⟨v,h1,h2⟩:=bnd_some hk
        exact ⟨v,h,keep_eq (hag.evX h1),h2⟩
    · exact hk.elim
  | alloc t =>
    simp only [stepK] at hk
    simp only [stepOp]
    split at hk
    · rename_i z hz
      rw [hz]; exact dflt_some hk
    · exact hk.elim
  | box t x =>
    simp only [stepK] at hk
    simp only [stepOp]
    split at hk
    · rename_i v hv
      rw [hag.evX hv]; exact newVarK_some hk
    · exact hk.elim
  | build t parts =>
    simp only [stepK] at hk
    simp only [stepOp]
    split at hk
    · rename_i v hv
      rw [hag.evP hv]; exact buildK_some hk
    · exact hk.elim
  | buildSlice t len parts =>
    simp only [stepK] at hk
    simp only [stepOp]
    split at hk
    · rename_i v hv
      rw [hag.evP hv]
      split at hk
      · rename_i hf
        simp only [hf,if_true]
        exact dflt_some hk
      · rename_i hf
        simp only [hf,if_false]
        exact buildSliceK_some hk
    · exact hk.elim
  | load t x =>
    simp only [stepK] at hk
    simp only [stepOp]
    split at hk
    · rename_i v hv
      rw [hag.evX hv]; exact keep_bnd hk
    · exact hk.elim
  | store t x y =>
    simp only [stepK] at hk
    simp only [stepOp]
    split at hk
    · rename_i p v hp hv
      rw [hag.evX hp,hag.evX hv]; exact storeK_some hk
    · exact hk.elim
  | nilCheck x =>
    simp only [stepK] at hk
    simp only [stepOp]
    split at hk
    · rename_i v hv
      rw [hag.evX hv]; exact keep_bnd hk
    · exact hk.elim
  | binOp op t x y yt =>
    simp only [stepK] at hk
    simp only [stepOp]
    split at hk
    · rename_i a b ha hb
      rw [hag.evX ha,hag.evX hb]; exact binK_some hk
    · exact hk.elim
  | unOp op t x =>
    simp only [stepK] at hk
    simp only [stepOp]
    split at hk
    · rename_i v hv
      rw [hag.evX hv]; exact keep_bnd hk
    · exact hk.elim
  | convert s d x =>
    simp only [stepK] at hk
    simp only [stepOp]
    split at hk
    · rename_i v hv
      rw [hag.evX hv]; exact convK_some hk
    · exact hk.elim
  | makeFunc fn first captured =>
    simp only [stepK] at hk
    simp only [stepOp]
    split at hk
    · rename_i a c ha hc
      rw [hag.evL ha,hag.evL hc]; exact ⟨_,_,rfl,hk⟩
    · exact hk.elim
  | slice t x lo hi mx =>
    simp only [stepK] at hk
    simp only [stepOp]
    split at hk
    · rename_i v hv
      rw [hag.evX hv]; exact sliceK_some hag hk
    · exact hk.elim
  | fieldAddr t x f =>
    simp only [stepK] at hk
    simp only [stepOp]
    split at hk
    · rename_i v hv
      rw [hag.evX hv]; exact keep_bnd hk
    · exact hk.elim
  | field t x f =>
    simp only [stepK] at hk
    simp only [stepOp]
    split at hk
    · rename_i v hv
      rw [hag.evX hv]; exact keep_bnd hk
    · exact hk.elim
  | indexAddr t x i =>
    simp only [stepK] at hk
    simp only [stepOp]
    split at hk
    · rename_i a b ha hb
      rw [hag.evX ha,hag.evX hb]; exact indexAddrK_some hk
    · exact hk.elim
  | index t x i =>
    simp only [stepK] at hk
    simp only [stepOp]
    split at hk
    · rename_i a b ha hb
      rw [hag.evX ha,hag.evX hb]; exact indexK_some hk
    · exact hk.elim
  | extract x i =>
    simp only [stepK] at hk
    simp only [stepOp]
    split at hk
    · rename_i vs hv
      rw [hag.evX hv]; exact keep_bnd hk
    · exact hk.elim
  | call c =>
    simp only [stepK] at hk
    simp only [stepOp]
    exact callK_some hc hag hk
  | makeMap t reserve=>exact dflt_some hk
  | makeSlice t l c =>
    simp only [stepK] at hk
    simp only [stepOp]
    split at hk
    · rename_i a b ha hb
      rw [hag.evX ha,hag.evX hb]; exact dflt_some hk
    · exact hk.elim
  | lookup t x i b =>
    simp only [stepK] at hk
    simp only [stepOp]
    split at hk
    · rename_i a b ha hb
      rw [hag.evX ha,hag.evX hb]; exact keep_bnd hk
    · exact hk.elim
  | mapUpdate t x i v =>
    simp only [stepK] at hk
    simp only [stepOp]
    split at hk
    · rename_i a b c ha hb hc
      rw [hag.evX ha,hag.evX hb,hag.evX hc]; exact dflt_some hk
    · exact hk.elim
  | range t x =>
    simp only [stepK] at hk
    simp only [stepOp]
    split at hk
    · rename_i v hv
      rw [hag.evX hv]; exact dflt_some hk
    · exact hk.elim
  | next it b =>
    simp only [stepK] at hk
    simp only [stepOp]
    split at hk
    · rename_i v hv
      rw [hag.evX hv]; exact dflt_some hk
    · exact hk.elim
  | _=>exact hk.elim
theorem set_same {l:List AV} {d:Nat} {v:AV} (h:l[d]? = some v):l.set d v = l:=by
  apply List.ext_getElem?
  intro j
  rw [List.getElem?_set]
  split
  · rename_i e; subst e
    split
    · exact h.symm
    · rename_i hn; rw [List.getElem?_eq_none (by omega)] at h; cases h
  · rfl
theorem wantK_some {ts0:List AV} (hag:Ag ts ts0) {ops:Array Oper} {o:Oper} {Z:Bool → List AV → Prop} (hk:wantK ops o ts Z):∃ w,wantedA ops o ts0 = some w ∧ Z w ts:=by
  have hget:∀ {d:Nat} {v:AV},ts[d]? = some v → v ≠ .any → ts0[d]? = some v:=fun h1 h2=>by
    rcases hag.2 _ with h3 | h3
    · rw [h1] at h3; exact (h2 (Option.some.inj h3)).elim
    · rw [← h3]; exact h1
  unfold wantK at hk
  unfold wantedA
  split at hk
  · rename_i hg
    exact ⟨true,by simp only [hg],hk⟩
  · rename_i j want hg
    simp only [hg]
    split at hk
    · rename_i d hd
      simp only [hd]
      split at hk
      · rename_i b hb
        simp only [hget hb (by intro e; cases e)]
        split at hk
        · rw [setN_eq,set_same hb] at hk; exact ⟨_,rfl,hk⟩
        · rw [setN_eq,set_same hb] at hk; exact ⟨_,rfl,hk⟩
      · rename_i hb
        simp only [hget hb (by intro e; cases e)]
        exact ⟨_,rfl,hk⟩
      · exact hk.elim
    · exact hk.elim
theorem Ag.put {ts ts0:List AV} (hag:Ag ts ts0) (dst:Option Tmp) (v:AV):Ag (putN ts dst v) (putA ts0 dst v):=by
  cases dst with
  | none=>exact hag
  | some d=>simp only [putN,putA,setN_eq]; exact hag.set d v
theorem regTK_some (hc:CkOk ck callf) {ops:Array Oper}:∀ {l:List Oper} {ts ts0:List AV} {h:Heap} {Z:List AV → Heap → Prop},Ag ts ts0 → regTK P ck ops l ts h Z → ∃ s' ts',regionT P callf ops l ⟨ts0,h⟩ = some s' ∧ Ag ts' s'.tmps ∧ Z ts' s'.heap
  | [],ts,ts0,h,Z,hag,hk=>⟨⟨ts0,h⟩,ts,rfl,hag,hk⟩
  | o :: r,ts,ts0,h,Z,hag,hk=>by
    unfold regTK at hk
    obtain ⟨w,hw,hk⟩:=wantK_some hag hk
    simp only [regionT,oneOp,hw]
    cases w with
    | true =>
      obtain ⟨v,h',h1,h2⟩:=stepK_some hc hag hk
      obtain ⟨s',ts',h3,h4⟩:=regTK_some hc (hag.put o.dst v) h2
      exact ⟨s',ts',by simp only [h1]; exact h3,h4⟩
    | false=>exact regTK_some hc (hag.put o.dst undefA) hk
theorem footK_some {ts0:List AV} (hag:Ag ts ts0) {op:Op} {F:List Nat} (hf:footK op ts h = some F):footA op ts0 h = some F:=by
  unfold footK at hf
  unfold footA
  split at hf <;> simp only
  case h_1 | h_3 | h_4 | h_6 | h_7 =>
    simp only [Option.map_eq_some_iff] at hf
    obtain ⟨a,h1,rfl⟩:=hf
    rw [hag.evX h1]
  case h_2 | h_5 =>
    split at hf
    · rename_i a b h1 h2
      rw [hag.evX h1,hag.evX h2]; exact hf
    · cases hf
  case h_8 =>
    split at hf
    · rename_i b hb
      simp only [Option.map_eq_some_iff] at hf
      obtain ⟨a,h1,rfl⟩:=hf
      simp only [hb,hag.evL h1,Option.map_some]
    · rename_i hb
      simp only [Option.map_eq_some_iff] at hf
      obtain ⟨a,h1,rfl⟩:=hf
      split
      · rename_i b hb2; exact (hb _ hb2).elim
      · simp only [hag.evL h1,Option.map_some]
  case h_9 =>
    exact hf
theorem footOfK_some {ts0:List AV} (hag:Ag ts ts0) {o:Oper} {w:Bool} {F:List Nat} (hf:footOfK o w ts h = some F):footOf o w ⟨ts0,h⟩ = some F:=by
  cases w with
  | true=>exact footK_some hag hf
  | false=>exact hf
theorem regDK_some (hc:CkOk ck callf) {ops:Array Oper} {N:Nat}:∀ {l:List Oper} {a:Nat} {masks:List Nat} {done:List Done} {ts ts0:List AV} {h:Heap} {Z:List AV → Heap → Prop},Ag ts ts0 → regDK P ck ops N l a masks done ts h Z →
    ∃ s' ts',regionD P callf ops N l a masks done ⟨ts0,h⟩ = some s' ∧ Ag ts' s'.tmps ∧ Z ts' s'.heap
  | [],a,masks,done,ts,ts0,h,Z,hag,hk=>⟨⟨ts0,h⟩,ts,rfl,hag,hk⟩
  | o :: r,a,masks,done,ts,ts0,h,Z,hag,hk=>by
    unfold regDK at hk
    obtain ⟨w,hw,hk⟩:=wantK_some hag hk
    split at hk
    · exact hk.elim
    · rename_i F0 hF0
      have hF0:=footOfK_some hag hF0
      split at hk
      · exact hk.elim
      rename_i hlv
      have hsl:slotsOf o.op w a = (placeOf o.op w a).toList:=by unfold slotsOf; rw [hlv]; split <;> simp
      have key:∀ v h',oneOp P callf ops (placeOf o.op w a) o ts0 (restrictA ((placeOf o.op w a).toList ++ F0) 0 h) = some (v,h') →
          (if h'.length = N ∧ holesA ((placeOf o.op w a).toList ++ F0) 0 h' = true ∧ checkOne (masks.headD 0) ⟨readsOf ops o,o.dst,(placeOf o.op w a).toList ++ F0,writesIn o.op ((placeOf o.op w a).toList ++ F0) (restrictA ((placeOf o.op w a).toList ++ F0) 0 h) h'⟩ 0 done = true ∧ edgesA o done.length = true then
            regDK P ck ops N r (nextAt o.op a) masks.tail (done ++ [⟨readsOf ops o,o.dst,(placeOf o.op w a).toList ++ F0,writesIn o.op ((placeOf o.op w a).toList ++ F0) (restrictA ((placeOf o.op w a).toList ++ F0) 0 h) h'⟩]) (putN ts o.dst v) (setIds h h' (writesIn o.op ((placeOf o.op w a).toList ++ F0) (restrictA ((placeOf o.op w a).toList ++ F0) 0 h) h')) Z else False) →
          ∃ s' ts',regionD P callf ops N (o :: r) a masks done ⟨ts0,h⟩ = some s' ∧ Ag ts' s'.tmps ∧ Z ts' s'.heap:=by
        intro v h' h1 h2
        split at h2
        · rename_i hcond
          obtain ⟨s',ts',h3,h4⟩:=regDK_some hc (hag.put o.dst v) h2
          refine ⟨s',ts',?_,h4⟩
          have hset:settleC N (if makesBox o.op then 0 else leaveN o.op) a v h' = some (v,h'):=by unfold settleC; rw [if_pos hcond.1]
          simp only [regionD,doneOp,hw,hF0,hsl,h1,hset]
          rw [if_pos hcond]
          exact h3
        · exact h2.elim
      cases w with
      | true =>
        obtain ⟨v,h',h1,h2⟩:=stepK_some hc hag hk
        exact key v h' (by simp only [oneOp,hw]; exact h1) h2
      | false=>exact key undefA _ (by simp only [oneOp,hw]) hk
theorem regK_some (hc:CkOk ck callf) {ts0:List AV} (hag:Ag ts ts0) {ops:Array Oper} {draw:Bool} {Z:List AV → Heap → Prop} (hk:regK P ck ops draw ts h Z) :
    ∃ s' ts',(if draw then regionDraw P callf ops ⟨ts0,h⟩ else regionT P callf ops ops.toList ⟨ts0,h⟩) = some s' ∧ Ag ts' s'.tmps ∧ Z ts' s'.heap:=by
  cases draw with
  | false=>exact regTK_some hc hag hk
  | true=>exact regDK_some hc hag hk
end
end Go.Proofs.YtfdcjngclelnhaaGreat
