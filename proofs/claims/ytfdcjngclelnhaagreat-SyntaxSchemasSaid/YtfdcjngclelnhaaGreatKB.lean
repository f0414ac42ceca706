/- Part of a proof. -/
import Derived.Test.YtfdcjngclelnhaaGreatKA
set_option linter.unusedSectionVars false
set_option linter.unusedSimpArgs false
set_option linter.unusedVariables false
namespace Go.Proofs.YtfdcjngclelnhaaGreat
open Go Go.RowKit
variable [mode:Inhabited ModeT]
theorem Q6E:∀ (l:List AV) (i:Nat),nthA l i = l.getD i undefA
 | [],i=>by cases i <;> rfl
 | a :: r,0=>rfl
 | a :: r,i + 1=>by
  show nthA r i = _
  rw [Q6E r i]; simp
theorem HA:∀ (l:List AV) (i:Nat) (v:AV),setN l i v = l.set i v
 | [],i,v=>by cases i <;> rfl
 | a :: r,0,v=>rfl
 | a :: r,i + 1,v=>by
  show a :: setN r i v = _
  rw [HA r i v]; rfl
def Ag (ts ts0:List AV):Prop:=ts.length = ts0.length ∧ ∀ i:Nat,ts[i]? = some AV.any ∨ ts[i]? = ts0[i]?
theorem Ag.refl (ts:List AV):Ag ts ts:=⟨rfl,fun _=>.inr rfl⟩
theorem Ag.set {ts ts0:List AV} (h:Ag ts ts0) (i:Nat) (v:AV):Ag (ts.set i v) (ts0.set i v):=by
 refine ⟨by simp [h.1],fun j=>?_⟩
 rw [List.getElem?_set,List.getElem?_set,h.1]
 split
 ·exact .inr rfl
 ·exact h.2 j
theorem QkK {a v:AV} (h:live? a = some v):a = v ∧ v ≠ .any:=by
 unfold live? at h
 split at h
 ·cases h
 ·rename_i hn; cases h; exact ⟨rfl,hn⟩
theorem Ag.get {ts ts0:List AV} (h:Ag ts ts0) {i:Nat} {v:AV} (hv:live? (nthA ts i) = some v):ts0.getD i undefA = v:=by
 obtain ⟨h1,h2⟩:=QkK hv
 rw [Q6E,List.getD_eq_getElem?_getD] at h1
 rw [List.getD_eq_getElem?_getD]
 rcases h.2 i with h3 | h3
 ·rw [h3] at h1; exact (h2 h1.symm).elim
 ·rw [← h3]; exact h1
theorem Ag.evX {ts ts0:List AV} (h:Ag ts ts0) {x:Operand} {v:AV} (hv:evX ts x = some v):evalX ts0 x = some v:=by
 cases x with
 | tmp t=>exact congrArg some (h.get hv)
 | const c=>exact hv
 | global _=>cases hv
 | func f=>exact hv
theorem Ag.evL {ts ts0:List AV} (h:Ag ts ts0):∀ {l:List Operand} {vs:List AV},evL ts l = some vs → evalL ts0 l = some vs
 | [],vs,hv=>hv
 | x :: r,vs,hv=>by
  simp only [Go.Proofs.YtfdcjngclelnhaaGreat.evL] at hv
  split at hv
  ·rename_i a ha
   simp only [Option.map_eq_some_iff] at hv
   obtain ⟨l,h1,rfl⟩:=hv
   simp only [evalL,h.evX ha,h.evL h1,Option.map_some]
  ·cases hv
theorem Ag.evP {ts ts0:List AV} (h:Ag ts ts0):∀ {l:List (Nat × Operand)} {vs:List (Nat × AV)},evP ts l = some vs → evalParts ts0 l = some vs
 | [],vs,hv=>hv
 | (i,x) :: r,vs,hv=>by
  simp only [Go.Proofs.YtfdcjngclelnhaaGreat.evP] at hv
  split at hv
  ·rename_i a ha
   simp only [Option.map_eq_some_iff] at hv
   obtain ⟨l,h1,rfl⟩:=hv
   simp only [evalParts,h.evX ha,h.evP h1,Option.map_some]
  ·cases hv
theorem Ag.bound {ts ts0:List AV} (h:Ag ts ts0) {o:Option Operand} {d top n:Nat} (hb:boundA ts o d top = some n):boundA ts0 o d top = some n:=by
 unfold boundA at hb ⊢
 cases o with
 | none=>exact hb
 | some x =>
  dsimp only at hb ⊢
  split at hb
  ·rename_i k i hx
   have:evalX ts0 x = some (.dat (.int k i)):=by
    cases x with
    | tmp t =>
     simp only [evalX,Option.some.injEq] at hx ⊢
     refine h.get (v:=.dat (.int k i)) ?_
     rw [Q6E,hx]; rfl
    | const c=>exact hx
    | global _=>cases hx
    | func f=>exact hx
   rw [this]; exact hb
  ·cases hb
theorem Ag.slice {ts ts0:List AV} (h:Ag ts ts0) {P:Program} {t:TypeId} {x v:AV} {lo hi mx:Option Operand} (hb:sliceA P t x lo hi mx ts = some v):sliceA P t x lo hi mx ts0 = some v:=by
 have step:∀ {o:Option Operand} {d top:Nat} {F:Option Nat → Option AV},F none = none → F (boundA ts o d top) = some v → F (boundA ts0 o d top) = some v:=by
  intro o d top F hn hF
  cases hb:boundA ts o d top with
  | none=>rw [hb,hn] at hF; cases hF
  | some n=>rw [hb] at hF; rw [h.bound hb]; exact hF
 unfold sliceA at hb ⊢
 split at hb
 ·split at hb
  ·cases hb
  ·rename_i hm
   rw [if_neg hm]
   split at hb
   ·rename_i b h1
    rw [h.bound h1]
    dsimp only
    split at hb
    ·rename_i a h2; rw [h.bound h2]; exact hb
    ·cases hb
   ·cases hb
 ·split at hb
  ·cases hb
  ·rename_i hz
   rw [if_neg hz]
   split at hb
   ·split at hb
    ·rename_i b h1
     rw [h.bound h1]
     dsimp only
     split at hb
     ·rename_i a h2; rw [h.bound h2]; exact hb
     ·cases hb
    ·cases hb
   ·split at hb
    ·cases hb
    ·split at hb
     ·rename_i m h0
      rw [h.bound h0]
      dsimp only
      split at hb
      ·rename_i b h1
       rw [h.bound h1]
       dsimp only
       split at hb
       ·rename_i a h2; rw [h.bound h2]; exact hb
       ·cases hb
      ·cases hb
     ·cases hb
 ·split at hb
  ·rename_i n es hn hes
   simp only [hn,hes]
   split at hb
   ·rename_i hsz
    rw [if_pos hsz]
    split at hb
    ·split at hb
     ·rename_i b h1
      rw [h.bound h1]
      dsimp only
      split at hb
      ·rename_i a h2; rw [h.bound h2]; exact hb
      ·cases hb
     ·cases hb
    ·split at hb
     ·cases hb
     ·split at hb
      ·rename_i m h0
       rw [h.bound h0]
       dsimp only
       split at hb
       ·rename_i b h1
        rw [h.bound h1]
        dsimp only
        split at hb
        ·rename_i a h2; rw [h.bound h2]; exact hb
        ·cases hb
       ·cases hb
      ·cases hb
   ·cases hb
  ·cases hb
 ·cases hb
theorem Q79 {b:Bool} {t f:Prop} (h:cnd b t f):b = true ∧ t ∨ b = false ∧ f:=by
 cases b
 ·exact .inr ⟨rfl,h⟩
 ·exact .inl ⟨rfl,h⟩
theorem ZM {b:Bool} {t:Prop} (h:cnd b t False):b = true ∧ t:=by
 rcases Q79 h with h | h
 ·exact h
 ·exact h.2.elim
theorem QbV {b:Bool} {f:Prop} (h:cnd b False f):b = false ∧ f:=by
 rcases Q79 h with h | h
 ·exact h.2.elim
 ·exact h
theorem J5 {α:Type} {o:Option α} {K:α → Prop} (h:bnd False o K):∃ a,o = some a ∧ K a:=by
 cases o with
 | none=>exact h.elim
 | some a=>exact ⟨a,rfl,h⟩
theorem QH {o:Option (AV × Heap)} {K:Kv} (h:dflt o K):∃ v h',o = some (v,h') ∧ K v h':=by
 obtain ⟨⟨v,h'⟩,h1,h2⟩:=J5 h
 exact ⟨v,h',h1,h2⟩
theorem Jf {h:Heap} {v:AV} {o:Option AV} (e:o = some v):keep h o = some (v,h):=by rw [e]; rfl
theorem Qem {k:IntKind} {d:D} {n:Int} (h:asI k d = some n):d = .int k n:=by
 unfold asI at h
 split at h
 ·split at h
  ·rename_i e; subst e; cases h; rfl
  ·cases h
 ·cases h
theorem QdT {d:D} {s:List UInt8} (h:asS d = some s):d = .str s:=by
 unfold asS at h
 split at h
 ·cases h; rfl
 ·cases h
theorem QdN {d:D} {b:Bool} (h:asB d = some b):d = .bool b:=by
 unfold asB at h
 split at h
 ·cases h; rfl
 ·cases h
theorem QeY {d:D} {es:List D} (h:asL d = some es):elems (.dat d) = some es:=by
 unfold asL at h
 split at h
 ·cases h; rfl
 ·cases h; rfl
 ·cases h
theorem QdQ {x:AV} {es:List D} (h:elemsK x = some es):elems x = some es:=by
 unfold elemsK at h
 split at h
 ·exact QeY h
 ·cases h; rfl
 ·cases h
theorem Qjd:∀ (l:List CTy) (d:D) (i:Nat),okC l (d.cells.drop i) = true → expC l d i = d.cells.drop i
 | [],d,i,h=>by
  cases hd:d.cells.drop i with
  | nil=>rfl
  | cons x q=>rw [hd] at h; cases h
 | c :: r,d,i,h=>by
  cases hd:d.cells.drop i with
  | nil=>rw [hd] at h; cases h
  | cons x q =>
   rw [hd] at h
   simp only [okC,Bool.and_eq_true] at h
   have hq:d.cells.drop (i + 1) = q:=by
    have:=congrArg List.tail hd
    simpa [List.tail_drop] using this
   have hx:cel d i = x:=by
    unfold cel
    have:d.cells[i]? = some x:=by
     have:=congrArg (fun l=>l[0]?) hd
     simpa using this
    rw [List.getD_eq_getElem?_getD,this]; rfl
   have ih:=Qjd r d (i + 1) (by rw [hq]; exact h.2)
   show _ :: expC r d (i + 1) = x :: q
   rw [ih,hq]
   congr 1
   cases c with
   | i k=>cases x <;> simp [okD] at h; rename_i k' n; obtain ⟨rfl,_⟩:=h; simp [cI,hx]
   | s=>cases x <;> simp [okD] at h; simp [cS,hx]
   | b=>cases x <;> simp [okD] at h; simp [cB,hx]
   | o=>exact hx
theorem Q3b {P:Program} {t:TypeId} {d:D} (h:okT P t d = true):d = .agg (cells P t d):=by
 unfold okT at h
 split at h
 ·rename_i ds
  have:=Qjd (ctys P 8 t) (.agg ds) 0 (by simpa [D.cells] using h)
  unfold cells
  rw [this]
  simp [D.cells]
 ·cases h
theorem Q8u {P:Program} {t:TypeId} {d:D} {K:AV → Prop} (h:castK False P t d K):K (.dat d):=by
 unfold castK at h
 split at h
 ·obtain ⟨n,h1,h2⟩:=J5 h
  rw [Qem h1]; exact h2
 ·obtain ⟨n,h1,h2⟩:=J5 h
  rw [QdT h1]; exact h2
 ·obtain ⟨n,h1,h2⟩:=J5 h
  rw [QdN h1]; exact h2
 ·obtain ⟨h1,h2⟩:=ZM h
  rw [Q3b h1]; exact h2
 ·obtain ⟨h1,h2⟩:=ZM h
  rw [Q3b h1]; exact h2
 ·exact h
 ·exact h.elim
section
variable {P:Program} {h:Heap} {K:Kv} {ts:List AV}
theorem Qlb {op:BinOp} {t:TypeId} {x y:AV} (hk:binK P op t x y h K):∃ v h',keep h (binA P op t x y) = some (v,h') ∧ K v h':=by
 unfold binK at hk
 split at hk
 ·rename_i k a k' b
  split at hk
  ·split at hk
   ·rename_i e; subst e
    obtain ⟨h1,h2⟩:=QbV hk
    refine ⟨_,_,Jf ?_,h2⟩
    simp only [beq_eq_false_iff_ne] at h1
    simp [binA,intOp,h1]
   ·exact hk.elim
  ·split at hk
   ·rename_i e; subst e
    obtain ⟨h1,h2⟩:=QbV hk
    refine ⟨_,_,Jf ?_,h2⟩
    simp only [beq_eq_false_iff_ne] at h1
    simp [binA,intOp,h1]
   ·exact hk.elim
  ·obtain ⟨h1,h2⟩:=QbV hk
   refine ⟨_,_,Jf ?_,h2⟩
   simp only [decide_eq_false_iff_not] at h1
   simp [binA,shiftOp,h1]
  ·obtain ⟨h1,h2⟩:=QbV hk
   refine ⟨_,_,Jf ?_,h2⟩
   simp only [decide_eq_false_iff_not] at h1
   simp [binA,shiftOp,h1]
  ·exact QH hk
 ·split at hk
  ·obtain ⟨h1,h2⟩:=ZM hk
   refine ⟨_,_,Jf ?_,h2⟩
   simp only [decide_eq_true_eq] at h1
   simp [binA,strOp,h1]
  ·exact QH hk
 ·exact hk.elim
 ·exact hk.elim
 ·rename_i x y h1 h2 h5 h6
  split at hk
  ·obtain ⟨b,h3,h4⟩:=J5 hk
   refine ⟨_,_,Jf ?_,h4⟩
   unfold binA
   split
   all_goals first
    | (exact (h1 _ _ _ _ rfl rfl).elim)
    | (exact (h2 _ _ _ _ rfl rfl).elim)
    | (exact (h5 _ _ _ _ rfl rfl).elim)
    | (exact (h1 _ _ rfl rfl).elim)
    | (exact (h2 _ _ rfl rfl).elim)
    | (exact (h5 _ _ rfl rfl).elim)
    | (exact (h6 _ _ rfl rfl).elim)
    | (exact (h1 rfl).elim)
    | (exact (h2 rfl).elim)
    | (exact (h5 rfl).elim)
    | (exact (h6 rfl).elim)
    | (simp [h3]; done)
  ·obtain ⟨b,h3,h4⟩:=J5 hk
   refine ⟨_,_,Jf ?_,h4⟩
   unfold binA
   split
   all_goals first
    | (exact (h1 _ _ _ _ rfl rfl).elim)
    | (exact (h2 _ _ _ _ rfl rfl).elim)
    | (exact (h5 _ _ _ _ rfl rfl).elim)
    | (exact (h1 _ _ rfl rfl).elim)
    | (exact (h2 _ _ rfl rfl).elim)
    | (exact (h5 _ _ rfl rfl).elim)
    | (exact (h6 _ _ rfl rfl).elim)
    | (exact (h1 rfl).elim)
    | (exact (h2 rfl).elim)
    | (exact (h5 rfl).elim)
    | (exact (h6 rfl).elim)
    | (simp [h3]; done)
  ·exact hk.elim
theorem Qol {es:List D} {i:Int} {e:D} (hi:atD es i = some e):¬ i < 0 ∧ es[i.toNat]? = some e:=by
 unfold atD at hi
 split at hi
 ·cases hi
 ·exact ⟨by assumption,hi⟩
theorem QbY {d:D} (hf:d.flat = true):d.cells = [d]:=by cases d <;> first | rfl | cases hf
theorem Q6z {t:TypeId} {x i:AV} (hk:indexAddrK P t x i h K):∃ v h',keep h (indexAddrA P t x i) = some (v,h') ∧ K v h':=by
 unfold indexAddrK at hk
 split at hk
 ·rename_i k i
  have hkind:∀ x,indexAddrA P t x (.dat (.int k i)) = indexAddrA P t x (.dat (.int .i64 i)):=fun x=>rfl
  split at hk
  ·rename_i elem hu
   split at hk
   ·rw [hkind]; exact QH hk
   ·rename_i hx
    split at hk
    ·rename_i n hn
     obtain ⟨es,h1,hk⟩:=J5 hk
     obtain ⟨e,h2,hk⟩:=J5 hk
     have h1:=QdQ h1
     obtain ⟨h3,h4⟩:=Qol h2
     have key:∀ cs,e.cells = cs → cs.length = n → keep h (indexAddrA P t x (.dat (.int k i))) = some (.ep cs 0,h):=by
      intro cs hcs hl
      refine Jf ?_
      have hl2:e.cells.length = n:=by rw [hcs]; exact hl
      cases x <;> first
       | (exact (hx _ _ _ _ _ rfl).elim)
       | (simp only [indexAddrA,if_neg h3,hu,hn,h1,h4,if_pos hl2]; rw [hcs])
     split at hk
     ·obtain ⟨h5,hk⟩:=ZM hk
      dsimp only at hk
      split at hk
      ·rename_i hl
       refine ⟨_,_,key _ ?_ hl,hk⟩
       rw [Q3b h5]
       have:=Q3b h5
       show cells P elem e = _
       conv=>rhs; rw [← this]
      ·exact hk.elim
     ·split at hk
      ·rename_i hn1
       obtain ⟨h5,hk⟩:=ZM hk
       have hk:=Q8u hk
       exact ⟨_,_,key [e] (QbY h5) hn1.symm,hk⟩
      ·exact hk.elim
     ·exact hk.elim
    ·exact hk.elim
  ·rw [hkind]; exact QH hk
 ·exact hk.elim
theorem Qfx {t:TypeId} {x i:AV} (hk:indexK P t x i h K):∃ v h',keep h (indexA P t x i) = some (v,h') ∧ K v h':=by
 unfold indexK at hk
 split at hk
 ·rename_i k i
  have hkind:∀ x,indexA P t x (.dat (.int k i)) = indexA P t x (.dat (.int .i64 i)):=fun x=>rfl
  split at hk
  ·rename_i s hu
   obtain ⟨h1,hk⟩:=QbV hk
   obtain ⟨b,h2,hk⟩:=J5 hk
   simp only [decide_eq_false_iff_not] at h1
   refine ⟨_,_,Jf ?_,hk⟩
   simp [indexA,h1,hu,h2]
  ·rename_i len elem ds hu
   split at hk
   ·rename_i n hn ha
    obtain ⟨h1,hk⟩:=ZM hk
    obtain ⟨d,h2,hk⟩:=J5 hk
    simp only [Bool.and_eq_true,decide_eq_true_eq] at h1
    refine ⟨_,_,Jf ?_,Q8u hk⟩
    have h3:¬ i < 0:=by omega
    simp [indexA,h3,hu,hn,h1.2,partA,ha,h2]
   ·rw [hkind]; exact QH hk
  ·rw [hkind]; exact QH hk
 ·exact hk.elim
theorem HQ {ts0:List AV} (hag:Ag ts ts0) {o:Option Operand} {d top:Nat} {Z:Nat → Prop} (hk:boundK ts o d top Z):∃ n,boundA ts0 o d top = some n ∧ Z n:=by
 unfold boundK at hk
 split at hk
 ·exact ⟨_,rfl,hk⟩
 ·rename_i x
  split at hk
  ·rename_i k i hx
   obtain ⟨h1,hk⟩:=ZM hk
   simp only [Bool.and_eq_true,decide_eq_true_eq] at h1
   refine ⟨_,?_,hk⟩
   simp [boundA,hag.evX hx,h1]
  ·exact hk.elim
theorem QeC {ts0:List AV} (hag:Ag ts ts0) {t:TypeId} {x:AV} {lo hi mx:Option Operand} (hk:sliceK P t x lo hi mx ts h K):∃ v h',keep h (sliceA P t x lo hi mx ts0) = some (v,h') ∧ K v h':=by
 unfold sliceK at hk
 split at hk
 ·rename_i s hu
  obtain ⟨b,h1,hk⟩:=HQ hag hk
  obtain ⟨a,h2,hk⟩:=HQ hag hk
  refine ⟨_,_,Jf ?_,hk⟩
  simp [sliceA,hu,h1,h2]
 ·rename_i elem es hu
  split at hk
  ·rename_i n hn
   obtain ⟨h0,hk⟩:=ZM hk
   obtain ⟨b,h1,hk⟩:=HQ hag hk
   obtain ⟨a,h2,hk⟩:=HQ hag hk
   refine ⟨_,_,Jf ?_,hk⟩
   simp [sliceA,hu,hn,elems,h0,h1,h2]
  ·exact hk.elim
 ·obtain ⟨v,h',h1,h2⟩:=QH hk
  simp only [keep,Option.map_eq_some_iff,Prod.mk.injEq] at h1
  obtain ⟨u,h3,rfl,rfl⟩:=h1
  exact ⟨_,_,Jf (hag.slice h3),h2⟩
theorem QkG {t:TypeId} {x:AV} (hk:lenK P t x h K):∃ v h',(lenA P t x).map (fun v=>(v,h)) = some (v,h') ∧ K v h':=by
 unfold lenK at hk
 split at hk
 ·rename_i e d hu
  obtain ⟨es,h1,hk⟩:=J5 hk
  refine ⟨_,_,?_,hk⟩
  simp [lenA,hu,QeY h1]
 ·exact QH hk
theorem Q9i {v:AV} {Z:Prop} (hk:flatK v Z):v.isCell = true ∧ v.cells = [v] ∧ Z:=by
 cases v with
 | dat d =>
  obtain ⟨h1,hk⟩:=ZM hk
  refine ⟨?_,?_,hk⟩ <;> cases d <;> first | rfl | cases h1
 | agg _=>exact hk.elim
 | tuple _=>exact hk.elim
 | _=>exact ⟨rfl,rfl,hk⟩
theorem Q24:∀ {vs:List AV} {Z:Prop},flatsK vs Z → vs.all AV.isCell = true ∧ Z
 | [],_,h=>⟨rfl,h⟩
 | v :: r,Z,h=>by
  obtain ⟨h1,_,h2⟩:=Q9i h
  obtain ⟨h3,h4⟩:=Q24 h2
  exact ⟨by simp [h1,h3],h4⟩
theorem HS {n:Nat} {agg:Bool} {v:AV} {Z:List AV → Prop} (hk:cellsK n agg v Z):v.cells.length = n ∧ Z v.cells:=by
 unfold cellsK at hk
 split at hk
 ·split at hk
  ·split at hk
   ·rename_i hl; exact ⟨by simpa [AV.cells] using hl,hk⟩
   ·exact hk.elim
  ·split at hk
   ·rename_i hl; exact ⟨by simpa [AV.cells] using hl,hk⟩
   ·exact hk.elim
  ·exact hk.elim
 ·split at hk
  ·rename_i hn
   obtain ⟨h1,h2,h3⟩:=Q9i hk
   rw [h2]
   exact ⟨by simp [hn],h3⟩
  ·exact hk.elim
theorem Q3d {place:Nat → Option (Nat × Nat × Bool)}:∀ {parts:List (Nat × AV)} {cs:List AV} {Z:List AV → Prop},fillK place cs parts Z → ∃ cs',fillA (fun i=>(place i).map fun p=>(p.1,p.2.1)) cs parts = some cs' ∧ Z cs'
 | [],cs,Z,h=>⟨cs,rfl,h⟩
 | (i,v) :: rest,cs,Z,h=>by
  unfold fillK at h
  split at h
  ·exact h.elim
  ·rename_i off size agg hp
   obtain ⟨h1,h2⟩:=HS h
   split at h2
   ·rename_i hle
    obtain ⟨cs',h3,h4⟩:=Q3d h2
    refine ⟨cs',?_,h4⟩
    simp only [fillA,hp,Option.map_some]
    rw [if_pos ⟨h1,hle⟩]
    exact h3
   ·exact h2.elim
theorem Q3M:∀ {fs:List Field} {pl:List (Nat × Nat × Bool)},fieldPl P fs = some pl → fieldPlaces P fs = some (pl.map fun p=>(p.1,p.2.1))
 | [],pl,h=>by cases h; rfl
 | f :: r,pl,h=>by
  simp only [fieldPl] at h
  split at h
  ·rename_i n a hn ha
   simp only [Option.map_eq_some_iff] at h
   obtain ⟨l,h1,rfl⟩:=h
   simp [fieldPlaces,hn,Q3M h1]
  ·cases h
theorem QfD {t:TypeId} {parts:List (Nat × AV)} (hk:buildK P t parts h K):∃ v h',keep h (buildA P t parts) = some (v,h') ∧ K v h':=by
 unfold buildK at hk
 split at hk
 ·rename_i z fields hz hu
  split at hk
  ·rename_i pl hpl
   obtain ⟨cs,h1,h2⟩:=Q3d hk
   refine ⟨_,_,Jf ?_,h2⟩
   have:(fun (i:Nat)=>(pl.map fun (p:Nat × Nat × Bool)=>(p.1,p.2.1))[i]?) = fun (i:Nat)=>(pl[i]?).map fun (p:Nat × Nat × Bool)=>(p.1,p.2.1):=by
    funext i; simp
   simp only [buildA,hz,hu,Q3M hpl,this,h1,Option.map_some]
  ·exact hk.elim
 ·rename_i z len elem hz hu
  split at hk
  ·rename_i n a hn ha
   obtain ⟨cs,h1,h2⟩:=Q3d hk
   refine ⟨_,_,Jf ?_,h2⟩
   simp only [Option.map_some] at h1
   simp only [buildA,hz,hu,hn,h1,Option.map_some]
  ·exact hk.elim
 ·exact hk.elim
theorem Q5O {sz:Nat} {agg:Bool}:∀ {parts:List (Nat × AV)} {es:List D} {Z:List D → Prop},fillSK sz agg es parts Z → ∃ es',fillS sz es parts = some es' ∧ Z es'
 | [],es,Z,h=>⟨es,rfl,h⟩
 | (i,v) :: rest,es,Z,h=>by
  unfold fillSK at h
  split at h
  ·rename_i d hd
   obtain ⟨h1,h2⟩:=HS h
   have h1:d.cells.length = sz:=by
    have e:(AV.dat d).cells.length = d.cells.length:=by cases d <;> simp [AV.cells,D.cells]
    rw [← e]; exact h1
   split at h2
   ·rename_i hi
    obtain ⟨es',h3,h4⟩:=Q5O h2
    refine ⟨es',?_,h4⟩
    simp only [fillS,hd]
    rw [if_pos ⟨h1,hi⟩]
    exact h3
   ·exact h2.elim
  ·exact h.elim
theorem Q4C {t:TypeId} {len:Nat} {parts:List (Nat × AV)} (hk:buildSliceK P t len parts h K):∃ v h',keep h (buildSliceA P t len parts) = some (v,h') ∧ K v h':=by
 unfold buildSliceK at hk
 split at hk
 ·rename_i elem hu
  split at hk
  ·rename_i n z a hn hz ha
   split at hk
   ·rename_i zd hzd
    split at hk
    ·rename_i hc
     obtain ⟨es,h1,h2⟩:=Q5O hk
     refine ⟨_,_,Jf ?_,h2⟩
     simp only [buildSliceA,hu,hn,hz,hzd,if_pos hc,h1,Option.map_some]
    ·exact hk.elim
   ·exact hk.elim
  ·exact hk.elim
 ·exact hk.elim
theorem Qaj {id off ver:Nat} {old:Option AV} {v:AV} {Z:AV → Heap → Prop} (hk:settleK1 h id off ver old v Z):Z (settle h id off ver old v).1 (settle h id off ver old v).2:=by
 cases v with
 | own g es =>
  cases g with
  | full=>exact hk
  | tip i =>
   have e1:settle h id off ver old (.own (.tip i) es) = (match h[i]? with
    | some (some (.tip e n _))=>if n = es.length ∧ i ≠ id then (.own (.at id off ver e) es,h.set i none) else (.dat (.slice es),h)
    | _=>(.dat (.slice es),h)):=rfl
   rw [e1]
   simp only [settleK1] at hk
   split at hk
   ·rename_i e n sz hi
    simp only [hi]
    split at hk
    ·rename_i hne
     obtain ⟨h1,hk⟩:=ZM hk
     rw [if_pos ⟨Nat.eq_of_beq_eq_true h1,hne⟩]; exact hk
    ·rename_i hne
     rw [if_neg (fun hc=>hne hc.2)]; exact hk
   ·rename_i hno
    split
    ·rename_i e n sz hi; exact (hno _ _ _ hi).elim
    ·exact hk
  | «at» i o v e =>
   cases old with
   | none=>exact hk
   | some w =>
    cases w with
    | own g' es' =>
     cases g' with
     | «at» i' o' v' e' =>
      have e1:settle h id off ver (some (.own (.at i' o' v' e') es')) (.own (.at i o v e) es) = (if i = id ∧ o = off ∧ i' = id ∧ o' = off ∧ v = v' ∧ e = e' ∧ es.length = es'.length then (.own (.at i o v e) es,h) else (.dat (.slice es),h)):=rfl
      rw [e1]
      simp only [settleK1] at hk
      split at hk
      ·rename_i hc
       obtain ⟨h1,hk⟩:=ZM hk
       simp only [Bool.and_eq_true] at h1
       rw [if_pos ⟨hc.1,hc.2.1,hc.2.2.1,hc.2.2.2.1,Nat.eq_of_beq_eq_true h1.1,hc.2.2.2.2,Nat.eq_of_beq_eq_true h1.2⟩]; exact hk
      ·rename_i hc
       rw [if_neg (fun hq=>hc ⟨hq.1,hq.2.1,hq.2.2.1,hq.2.2.2.1,hq.2.2.2.2.2.1⟩)]; exact hk
     | _=>exact hk
    | _=>exact hk
 | _=>exact hk
theorem Q4a {id:Nat} {cs:List AV}:∀ {vs:List AV} {off ver:Nat} {h:Heap} {Z:List AV → Heap → Prop},settleK id cs off ver h vs Z → Z (settleL id cs off ver h vs).1 (settleL id cs off ver h vs).2
 | [],_,_,_,_,hk=>hk
 | v :: r,off,ver,h,Z,hk=>by
  have h1:=Qaj hk
  have h2:=Q4a h1
  exact h2
theorem QfB {t:TypeId} {x v:AV} (hk:storeK P t x v h K):∃ u h',(storeA P t x v h).map (fun h'=>(undefA,h')) = some (u,h') ∧ K u h':=by
 unfold storeK at hk
 split at hk
 ·rename_i id off n a hn ha
  split at hk
  ·rename_i e cs ver hid
   obtain ⟨h1,h2⟩:=HS hk
   obtain ⟨h3,h4⟩:=Q24 h2
   split at h4
   ·rename_i hle
    have h4:=Q4a h4
    split at h4
    ·rename_i hu
     refine ⟨_,_,?_,h4⟩
     simp [storeA,hn,hid,h1,hle,List.all_eq_true.1 h3,hu]
     intro x hx
     exact List.all_eq_true.1 h3 x hx
    ·exact h4.elim
   ·exact h4.elim
  ·exact hk.elim
 ·exact QH hk
theorem QcY {place:Option Nat} {t:TypeId} {v:AV} (hk:newVarK P place h t v K):∃ u h',newVarA place h t v.cells = some (u,h') ∧ K u h':=by
 unfold newVarK at hk
 split at hk
 ·obtain ⟨h1,h2⟩:=HS hk
  exact QH h2
 ·exact hk.elim
end
end Go.Proofs.YtfdcjngclelnhaaGreat
