/- Part of a proof. -/
import Derived.Test.YtfdcjngclelnhaaGreatKB
import Derived.LoopN
set_option linter.unusedSectionVars false
set_option linter.unusedSimpArgs false
set_option linter.unusedVariables false
namespace Go.Proofs.YtfdcjngclelnhaaGreat
open Go Go.RowKit
variable [mode:Inhabited ModeT]
theorem Qi7 (c:D):AV.isCell (.dat c) = c.flat:=by cases c <;> rfl
theorem Q3e {sz:Nat} {agg:Bool}:∀ {es:List D} {Z:Prop},fitsK sz agg es Z → es.all (fitsD sz) = true ∧ Z
 | [],_,h=>⟨rfl,h⟩
 | d :: r,Z,h=>by
  unfold fitsK at h
  split at h
  ·split at h
   ·rename_i cs
    split at h
    ·rename_i hl
     obtain ⟨h1,h2⟩:=Q24 h
     obtain ⟨h3,h4⟩:=Q3e h2
     refine ⟨?_,h4⟩
     simp only [List.all_cons,h3,Bool.and_true,fitsD,D.cells,hl,beq_self_eq_true,Bool.true_and]
     rw [List.all_map] at h1
     rw [List.all_eq_true] at h1 ⊢
     intro c hc
     have:=h1 c hc
     simpa [Qi7] using this
    ·exact h.elim
   ·exact h.elim
  ·split at h
   ·rename_i hs
    obtain ⟨h1,h2⟩:=ZM h
    obtain ⟨h3,h4⟩:=Q3e h2
    refine ⟨?_,h4⟩
    rw [List.all_cons,h3,Bool.and_true]
    simp [fitsD,QbY h1,hs,h1]
   ·exact h.elim
theorem QgW {sz:Nat} {agg:Bool} {x:AV} {Z:List D → Prop} (hk:moreK sz agg x Z):∃ xs,moreA sz x = some xs ∧ Z xs:=by
 unfold moreK at hk
 split at hk
 ·split at hk
  ·rename_i h1
   exact ⟨_,by simp [moreA,h1],hk⟩
  ·exact hk.elim
 ·rename_i d hd
  obtain ⟨es,h1,hk⟩:=J5 hk
  obtain ⟨h2,hk⟩:=ZM hk
  refine ⟨es,?_,hk⟩
  unfold asL at h1
  split at h1
  ·cases h1; rfl
  ·cases h1; simp only [moreA,h2,if_true]
  ·cases h1
 ·obtain ⟨h1,h2⟩:=Q3e hk
  exact ⟨_,by simp only [moreA,h1,if_true],h2⟩
 ·exact hk.elim
section
variable {P:Program} {h:Heap} {K:Kv} {ts:List AV}
def isIntT:TypeDesc → Bool | .int _=>true | _=>false
theorem Qcf {sT xT:TypeId} {tr:List TypeId} {s x:AV} {elem:TypeId} {xd:TypeDesc} {info:TypeInfo} {xs:List D} {place:Option Nat} {h:Heap} (hnf:¬ intoFree P (sT :: xT :: tr) s = true) (hu:P.underlying sT = some (.slice elem)) (hxd:P.underlying xT = some xd)
  (hxi:isIntT xd = false) (hinfo:P.info? elem = some info) (h1:moreA info.size x = some xs) (hs0:info.size ≠ 0) (hz:info.zero.map (fun v=>v.cells.size) = some info.size) :
  appendA P (sT :: xT :: tr) place s x h = appendT place h elem info s xs:=by
 have hz':¬ (info.zero.map (fun v=>v.cells.size) ≠ some info.size):=by simp [hz]
 unfold appendA
 rw [if_neg hnf]
 simp only [hu,hxd,hinfo]
 cases xd <;> first
  | (cases hxi; done)
  | (simp only [h1,if_neg hs0,if_neg hz']; rfl)
theorem Qd5 {tl:List TypeId} {s:AV} (h:intoFreeK P tl s = false):intoFree P tl s = false:=by
 unfold intoFreeK at h
 split at h
 ·rename_i hf
  unfold intoFree
  split
  ·cases h
  ·unfold freeSlice at hf; exact hf
  ·unfold freeSlice at hf; exact hf
  ·rfl
 ·exact h
theorem Qdw {tl:List TypeId} {place:Option Nat} {s x:AV} (hk:appendK P tl place s x h K):∃ v h',appendA P tl place s x h = some (v,h') ∧ K v h':=by
 unfold appendK at hk
 split at hk
 ·exact QH hk
 ·rename_i hnf0
  have hnf:¬ intoFree P tl s = true:=by rw [Qd5 hnf0]; simp
  split at hk
  ·rename_i sT xT tr
   split at hk
   ·rename_i elem xd hu hxd
    split at hk
    ·rename_i info agg hxi hinfo hagg
     split at hk
     ·exact hk.elim
     ·rename_i hsz
      obtain ⟨hs0,hz⟩:info.size ≠ 0 ∧ info.zero.map (fun v=>v.cells.size) = some info.size:=by
       simpa using hsz
      obtain ⟨xs,h1,hk⟩:=QgW hk
      have hhead:=Qcf hnf hu hxd (by cases xd <;> first | rfl | cases hxi) hinfo h1 hs0 hz (place:=place) (h:=h)
      rcases Q79 hk with ⟨he,hk⟩ | ⟨he,hk⟩
      ·rw [hhead]; unfold appendT; rw [he]
       simp only [if_true]
       split at hk
       ·rename_i q hq
        exact ⟨_,_,by first | rfl | rw [hq],hk⟩
       ·exact hk.elim
      ·split at hk
       ·rename_i id es
        split at hk
        ·rename_i e n sz hid
         split at hk
         ·rename_i hes
          obtain ⟨h3,hk⟩:=ZM hk
          obtain ⟨h4,hk⟩:=ZM hk
          refine ⟨_,_,?_,hk⟩
          rw [hhead]; unfold appendT; rw [he]
          simp only [Bool.false_eq_true,if_false,hid]
          rw [if_pos ⟨by simpa using h3,hes.1,hes.2,h4⟩]
         ·exact hk.elim
        ·exact hk.elim
       ·rename_i es
        obtain ⟨h3,hk⟩:=ZM hk
        obtain ⟨h4,hk⟩:=ZM hk
        split at hk
        ·rename_i id h' ha
         refine ⟨_,_,?_,hk⟩
         rw [hhead]; unfold appendT; rw [he]
         simp only [Bool.false_eq_true,if_false,h3,h4,and_self,if_true,ha]
        ·exact hk.elim
       ·obtain ⟨h4,hk⟩:=ZM hk
        split at hk
        ·rename_i id h' ha
         refine ⟨_,_,?_,hk⟩
         rw [hhead]; unfold appendT; rw [he]
         simp only [Bool.false_eq_true,if_false,h4,if_true,ha]
        ·exact hk.elim
       ·rename_i b off v e es
        split at hk
        ·rename_i be cs ver hb
         split at hk
         ·rename_i b' off' v' e' es' hcs
          split at hk
          ·rename_i hc
           obtain ⟨g1,hk⟩:=ZM hk
           obtain ⟨g2,hk⟩:=ZM hk
           obtain ⟨g3,hk⟩:=QbV hk
           obtain ⟨g4,hk⟩:=ZM hk
           obtain ⟨g5,hk⟩:=ZM hk
           split at hk
           ·rename_i id h' ha
            refine ⟨_,_,?_,hk⟩
            rw [hhead]; unfold appendT; rw [he]
            simp only [Bool.false_eq_true,if_false,hb,hcs]
            rw [if_pos ⟨hc.1,hc.2.1,Nat.eq_of_beq_eq_true g1,hc.2.2.1,hc.2.2.2,Nat.eq_of_beq_eq_true g2,(fun h0=>by rw [List.eq_nil_of_length_eq_zero h0] at g3; cases g3),g4,g5⟩,ha]
           ·exact hk.elim
          ·exact hk.elim
         ·exact hk.elim
        ·exact hk.elim
       ·obtain ⟨v,h',h3,h4⟩:=QH hk
        exact ⟨v,h',by rw [hhead]; exact h3,h4⟩
    ·exact hk.elim
   ·exact hk.elim
  ·exact hk.elim
theorem Qi1 {src dst:TypeId} {x:AV} (hk:convK P src dst x h K) :
  ∃ v h',(match some x with | some (.ptr o)=>keep h (convPtr P src dst (.ptr o) h) | some a=>keep h (convA P src dst a) | none=>none) = some (v,h') ∧ K v h':=by
 cases x with
 | ptr o =>
  unfold convK at hk
  split at hk
  ·rename_i e; cases e
  ·rename_i e; cases e
  ·rename_i e; cases e; exact QH hk
  ·rename_i h1 h2 h3; first | exact (h1 _ rfl).elim | exact (h2 _ rfl).elim | exact (h3 _ rfl).elim
 | dat d =>
  unfold convK at hk
  split at hk
  ·rename_i e d' hs hd e'
   cases e'
   split at hk
   ·rename_i he
    obtain ⟨es,h1,hk⟩:=J5 hk
    obtain ⟨s,h2,hk⟩:=J5 hk
    refine ⟨_,_,Jf ?_,hk⟩
    cases d <;> simp [asL] at h1 <;> subst h1 <;> simp [convA,hs,hd,he,elems,h2]
   ·exact hk.elim
  ·rename_i e; cases e
  ·rename_i e; cases e
  ·exact QH hk
 | own g es =>
  unfold convK at hk
  split at hk
  ·rename_i e; cases e
  ·rename_i e g' es' hs hd e'
   cases e'
   split at hk
   ·rename_i he
    obtain ⟨s,h2,hk⟩:=J5 hk
    exact ⟨_,_,Jf (by simp [convA,hs,hd,he,elems,h2]),hk⟩
   ·exact hk.elim
  ·rename_i e; cases e
  ·exact QH hk
 | _ =>
  unfold convK at hk
  split at hk
  ·rename_i e; cases e
  ·rename_i e; cases e
  ·rename_i e; cases e
  ·exact QH hk
theorem Q34 {pt:TypeId} {p n:AV} (hk:unsafeStringK P pt p n h K):∃ v h',keep h (unsafeStringA P pt p n h) = some (v,h') ∧ K v h':=by
 unfold unsafeStringK at hk
 split at hk
 ·rename_i b off v e es k n
  unfold cnd at hk
  split at hk
  ·exact hk.elim
  ·rename_i hn
   have hn':¬ n < 0:=of_decide_eq_false hn
   split at hk
   ·rename_i h0
    have e0:n = 0:=eq_of_beq h0
    exact ⟨.dat (.str []),h,by simp only [unsafeStringA,if_neg hn',if_pos e0]; rfl,hk⟩
   ·rename_i h0
    have e0:¬ n = 0:=fun e=>by rw [e] at h0; cases h0
    split at hk
    ·rename_i x cs y u h1 h2
     split at hk
     ·rename_i b' off' v' e' es' h3
      split at hk
      ·rename_i hc
       obtain ⟨s,h4,h5⟩:=J5 hk
       simp only [Bool.and_eq_true,decide_eq_true_eq] at hc
       obtain ⟨⟨⟨⟨⟨⟨⟨⟨c1,c2⟩,c3⟩,c4⟩,c5⟩,c6⟩,c7⟩,c8⟩,c9⟩:=hc
       exact ⟨.dat (.str s),h,by simp only [unsafeStringA,if_neg hn',if_neg e0,h1,h2,h3]; rw [if_pos ⟨Nat.eq_of_beq_eq_true c1,Nat.eq_of_beq_eq_true c2,Nat.eq_of_beq_eq_true c3,Nat.eq_of_beq_eq_true c4,Nat.eq_of_beq_eq_true c5,Nat.eq_of_beq_eq_true c6,c7,c8,c9⟩,h4]; rfl,h5⟩
      ·exact hk.elim
     ·exact hk.elim
    ·exact hk.elim
 ·exact QH hk
def CkOk (ck:CallK) (callf:CallF):Prop:=∀ f p,ck f = some p → ∀ args h K,p args h K → ∃ v h',callf f args h = some (v,h') ∧ K v h'
variable {ck:CallK} {callf:CallF}
theorem Qge (hc:CkOk ck callf) {ts0:List AV} (hag:Ag ts ts0) {place:Option Nat} {c:Call} (hk:callK P ck place c ts h K):∃ v h',callA P callf place c ts0 h = some (v,h') ∧ K v h':=by
 unfold callK at hk
 split at hk
 ·exact hk.elim
 ·rename_i args ha
  unfold callA
  rw [hag.evL ha]
  split at hk
  ·rename_i b hb
   simp only [hb]
   split at hk
   ·rename_i ht
    obtain ⟨v,h',h1,h2⟩:=QkG hk
    exact ⟨v,h',by simp only [builtinA,ht]; exact h1,h2⟩
   ·obtain ⟨v,h',h1,h2⟩:=Qdw hk
    exact ⟨v,h',h1,h2⟩
   ·rename_i b off v e' es
    unfold cnd at hk
    split at hk
    ·exact hk.elim
    ·rename_i he
     cases es with
     | nil=>cases he
     | cons x r=>exact ⟨_,h,rfl,hk⟩
   ·rename_i ht
    obtain ⟨v,h',h1,h2⟩:=Q34 hk
    exact ⟨v,h',by simp only [builtinA,ht]; exact h1,h2⟩
   ·obtain ⟨v,h',h1,h2⟩:=QH hk
    exact ⟨v,h',h1,h2⟩
  ·rename_i x hx
   simp only [hx]
   split at hk
   ·rename_i f first captured hf
    split at hk
    ·rename_i p hp
     obtain ⟨v,h',h1,h2⟩:=hc f p hp _ _ _ hk
     exact ⟨v,h',by simp only [hag.evX hf]; exact h1,h2⟩
    ·exact hk.elim
   ·exact hk.elim
  ·exact hk.elim
theorem Hd {o:Option AV} (hk:bnd False o fun v=>K v h):∃ v h',keep h o = some (v,h') ∧ K v h':=by
 obtain ⟨v,h1,h2⟩:=J5 hk
 exact ⟨v,h,Jf h1,h2⟩
theorem Q91 (hc:CkOk ck callf) {ts0:List AV} (hag:Ag ts ts0) {place:Option Nat} {op:Op} (hk:stepK P ck place op ts h K):∃ v h',stepOp P callf place op ts0 h = some (v,h') ∧ K v h':=by
 cases op with
 | move x | assign x =>
  simp only [stepK] at hk
  obtain ⟨v,h1,h2⟩:=J5 hk
  exact ⟨v,h,Jf (hag.evX h1),h2⟩
 | pick c a b =>
  simp only [stepK] at hk
  split at hk
  ·rename_i t ht
   simp only [stepOp,hag.evX ht]
   rcases Q79 hk with ⟨rfl,hk⟩ | ⟨rfl,hk⟩
   ·obtain ⟨v,h1,h2⟩:=J5 hk
    exact ⟨v,h,Jf (hag.evX h1),h2⟩
   ·obtain ⟨v,h1,h2⟩:=J5 hk
    exact ⟨v,h,Jf (hag.evX h1),h2⟩
  ·exact hk.elim
 | alloc t =>
  simp only [stepK] at hk
  simp only [stepOp]
  split at hk
  ·rename_i z hz
   rw [hz]; exact QH hk
  ·exact hk.elim
 | box t x =>
  simp only [stepK] at hk
  simp only [stepOp]
  split at hk
  ·rename_i v hv
   rw [hag.evX hv]; exact QcY hk
  ·exact hk.elim
 | build t parts =>
  simp only [stepK] at hk
  simp only [stepOp]
  split at hk
  ·rename_i v hv
   rw [hag.evP hv]; exact QfD hk
  ·exact hk.elim
 | buildSlice t len parts =>
  simp only [stepK] at hk
  simp only [stepOp]
  split at hk
  ·rename_i v hv
   rw [hag.evP hv]
   split at hk
   ·rename_i hf
    simp only [hf,if_true]
    exact QH hk
   ·rename_i hf
    simp only [hf,if_false]
    exact Q4C hk
  ·exact hk.elim
 | load t x =>
  simp only [stepK] at hk
  simp only [stepOp]
  split at hk
  ·rename_i v hv
   rw [hag.evX hv]; exact Hd hk
  ·exact hk.elim
 | store t x y =>
  simp only [stepK] at hk
  simp only [stepOp]
  split at hk
  ·rename_i p v hp hv
   rw [hag.evX hp,hag.evX hv]; exact QfB hk
  ·exact hk.elim
 | nilCheck x =>
  simp only [stepK] at hk
  simp only [stepOp]
  split at hk
  ·rename_i v hv
   rw [hag.evX hv]; exact Hd hk
  ·exact hk.elim
 | binOp op t x y yt =>
  simp only [stepK] at hk
  simp only [stepOp]
  split at hk
  ·rename_i a b ha hb
   rw [hag.evX ha,hag.evX hb]; exact Qlb hk
  ·exact hk.elim
 | unOp op t x =>
  simp only [stepK] at hk
  simp only [stepOp]
  split at hk
  ·rename_i v hv
   rw [hag.evX hv]; exact Hd hk
  ·exact hk.elim
 | convert s d x =>
  simp only [stepK] at hk
  simp only [stepOp]
  split at hk
  ·rename_i v hv
   rw [hag.evX hv]; exact Qi1 hk
  ·exact hk.elim
 | makeFunc fn first captured =>
  simp only [stepK] at hk
  simp only [stepOp]
  split at hk
  ·rename_i a c ha hc
   rw [hag.evL ha,hag.evL hc]; exact ⟨_,_,rfl,hk⟩
  ·exact hk.elim
 | slice t x lo hi mx =>
  simp only [stepK] at hk
  simp only [stepOp]
  split at hk
  ·rename_i v hv
   rw [hag.evX hv]; exact QeC hag hk
  ·exact hk.elim
 | fieldAddr t x f =>
  simp only [stepK] at hk
  simp only [stepOp]
  split at hk
  ·rename_i v hv
   rw [hag.evX hv]; exact Hd hk
  ·exact hk.elim
 | field t x f =>
  simp only [stepK] at hk
  simp only [stepOp]
  split at hk
  ·rename_i v hv
   rw [hag.evX hv]; exact Hd hk
  ·exact hk.elim
 | indexAddr t x i =>
  simp only [stepK] at hk
  simp only [stepOp]
  split at hk
  ·rename_i a b ha hb
   rw [hag.evX ha,hag.evX hb]; exact Q6z hk
  ·exact hk.elim
 | index t x i =>
  simp only [stepK] at hk
  simp only [stepOp]
  split at hk
  ·rename_i a b ha hb
   rw [hag.evX ha,hag.evX hb]; exact Qfx hk
  ·exact hk.elim
 | extract x i =>
  simp only [stepK] at hk
  simp only [stepOp]
  split at hk
  ·rename_i vs hv
   rw [hag.evX hv]; exact Hd hk
  ·exact hk.elim
 | call c =>
  simp only [stepK] at hk
  simp only [stepOp]
  exact Qge hc hag hk
 | makeMap t reserve=>exact QH hk
 | makeSlice t l c =>
  simp only [stepK] at hk
  simp only [stepOp]
  split at hk
  ·rename_i a b ha hb
   rw [hag.evX ha,hag.evX hb]; exact QH hk
  ·exact hk.elim
 | lookup t x i b =>
  simp only [stepK] at hk
  simp only [stepOp]
  split at hk
  ·rename_i a b ha hb
   rw [hag.evX ha,hag.evX hb]; exact Hd hk
  ·exact hk.elim
 | mapUpdate t x i v =>
  simp only [stepK] at hk
  simp only [stepOp]
  split at hk
  ·rename_i a b c ha hb hc
   rw [hag.evX ha,hag.evX hb,hag.evX hc]; exact QH hk
  ·exact hk.elim
 | range t x =>
  simp only [stepK] at hk
  simp only [stepOp]
  split at hk
  ·rename_i v hv
   rw [hag.evX hv]; exact QH hk
  ·exact hk.elim
 | next it b =>
  simp only [stepK] at hk
  simp only [stepOp]
  split at hk
  ·rename_i v hv
   rw [hag.evX hv]; exact QH hk
  ·exact hk.elim
 | _=>exact hk.elim
theorem Q40 {l:List AV} {d:Nat} {v:AV} (h:l[d]? = some v):l.set d v = l:=by
 apply List.ext_getElem?
 intro j
 rw [List.getElem?_set]
 split
 ·rename_i e; subst e
  split
  ·exact h.symm
  ·rename_i hn; rw [List.getElem?_eq_none (by omega)] at h; cases h
 ·rfl
theorem Q9K {ts0:List AV} (hag:Ag ts ts0) {ops:Array Oper} {o:Oper} {Z:Bool → List AV → Prop} (hk:wantK ops o ts Z):∃ w,wantedA ops o ts0 = some w ∧ Z w ts:=by
 have hget:∀ {d:Nat} {v:AV},ts[d]? = some v → v ≠ .any → ts0[d]? = some v:=fun h1 h2=>by
  rcases hag.2 _ with h3 | h3
  ·rw [h1] at h3; exact (h2 (Option.some.inj h3)).elim
  ·rw [← h3]; exact h1
 unfold wantK at hk
 unfold wantedA
 split at hk
 ·rename_i hg
  exact ⟨true,by simp only [hg],hk⟩
 ·rename_i j want hg
  simp only [hg]
  split at hk
  ·rename_i d hd
   simp only [hd]
   split at hk
   ·rename_i b hb
    simp only [hget hb (by intro e; cases e)]
    split at hk
    ·rw [HA,Q40 hb] at hk; exact ⟨_,rfl,hk⟩
    ·rw [HA,Q40 hb] at hk; exact ⟨_,rfl,hk⟩
   ·rename_i hb
    simp only [hget hb (by intro e; cases e)]
    exact ⟨_,rfl,hk⟩
   ·exact hk.elim
  ·exact hk.elim
theorem Ag.put {ts ts0:List AV} (hag:Ag ts ts0) (dst:Option Tmp) (v:AV):Ag (putN ts dst v) (putA ts0 dst v):=by
 cases dst with
 | none=>exact hag
 | some d=>simp only [putN,putA,HA]; exact hag.set d v
theorem Q2Z (hc:CkOk ck callf) {ops:Array Oper}:∀ {l:List Oper} {ts ts0:List AV} {h:Heap} {Z:List AV → Heap → Prop},Ag ts ts0 → regTK P ck ops l ts h Z → ∃ s' ts',regionT P callf ops l ⟨ts0,h⟩ = some s' ∧ Ag ts' s'.tmps ∧ Z ts' s'.heap
 | [],ts,ts0,h,Z,hag,hk=>⟨⟨ts0,h⟩,ts,rfl,hag,hk⟩
 | o :: r,ts,ts0,h,Z,hag,hk=>by
  unfold regTK at hk
  obtain ⟨w,hw,hk⟩:=Q9K hag hk
  simp only [regionT,oneOp,hw]
  cases w with
  | true =>
   obtain ⟨v,h',h1,h2⟩:=Q91 hc hag hk
   obtain ⟨s',ts',h3,h4⟩:=Q2Z hc (hag.put o.dst v) h2
   exact ⟨s',ts',by simp only [h1]; exact h3,h4⟩
  | false=>exact Q2Z hc (hag.put o.dst undefA) hk
theorem QhW {ts0:List AV} (hag:Ag ts ts0) {op:Op} {F:List Nat} (hf:footK op ts h = some F):footA op ts0 h = some F:=by
 unfold footK at hf
 unfold footA
 split at hf <;> simp only
 case h_1 | h_3 | h_4 | h_6 | h_7 =>
  simp only [Option.map_eq_some_iff] at hf
  obtain ⟨a,h1,rfl⟩:=hf
  rw [hag.evX h1]
 case h_2 | h_5 =>
  split at hf
  ·rename_i a b h1 h2
   rw [hag.evX h1,hag.evX h2]; exact hf
  ·cases hf
 case h_8 =>
  split at hf
  ·rename_i b hb
   simp only [Option.map_eq_some_iff] at hf
   obtain ⟨a,h1,rfl⟩:=hf
   simp only [hb,hag.evL h1,Option.map_some]
  ·rename_i hb
   simp only [Option.map_eq_some_iff] at hf
   obtain ⟨a,h1,rfl⟩:=hf
   split
   ·rename_i b hb2; exact (hb _ hb2).elim
   ·simp only [hag.evL h1,Option.map_some]
 case h_9 =>
  exact hf
theorem QcD {ts0:List AV} (hag:Ag ts ts0) {o:Oper} {w:Bool} {F:List Nat} (hf:footOfK o w ts h = some F):footOf o w ⟨ts0,h⟩ = some F:=by
 cases w with
 | true=>exact QhW hag hf
 | false=>exact hf
theorem Q7b (hc:CkOk ck callf) {ops:Array Oper} {N:Nat}:∀ {l:List Oper} {a:Nat} {masks:List Nat} {done:List Done} {ts ts0:List AV} {h:Heap} {Z:List AV → Heap → Prop},Ag ts ts0 → regDK P ck ops N l a masks done ts h Z →
  ∃ s' ts',regionD P callf ops N l a masks done ⟨ts0,h⟩ = some s' ∧ Ag ts' s'.tmps ∧ Z ts' s'.heap
 | [],a,masks,done,ts,ts0,h,Z,hag,hk=>⟨⟨ts0,h⟩,ts,rfl,hag,hk⟩
 | o :: r,a,masks,done,ts,ts0,h,Z,hag,hk=>by
  unfold regDK at hk
  obtain ⟨w,hw,hk⟩:=Q9K hag hk
  split at hk
  ·exact hk.elim
  ·rename_i F0 hF0
   have hF0:=QcD hag hF0
   split at hk
   ·exact hk.elim
   rename_i hlv
   have hsl:slotsOf o.op w a = (placeOf o.op w a).toList:=by unfold slotsOf; rw [hlv]; split <;> simp
   have key:∀ v h',oneOp P callf ops (placeOf o.op w a) o ts0 (restrictA ((placeOf o.op w a).toList ++ F0) 0 h) = some (v,h') →
     (if h'.length = N ∧ holesA ((placeOf o.op w a).toList ++ F0) 0 h' = true ∧ checkOne (masks.headD 0) ⟨readsOf ops o,o.dst,(placeOf o.op w a).toList ++ F0,writesIn o.op ((placeOf o.op w a).toList ++ F0) (restrictA ((placeOf o.op w a).toList ++ F0) 0 h) h'⟩ 0 done = true ∧ edgesA o done.length = true then
      regDK P ck ops N r (nextAt o.op a) masks.tail (done ++ [⟨readsOf ops o,o.dst,(placeOf o.op w a).toList ++ F0,writesIn o.op ((placeOf o.op w a).toList ++ F0) (restrictA ((placeOf o.op w a).toList ++ F0) 0 h) h'⟩]) (putN ts o.dst v) (setIds h h' (writesIn o.op ((placeOf o.op w a).toList ++ F0) (restrictA ((placeOf o.op w a).toList ++ F0) 0 h) h')) Z else False) →
     ∃ s' ts',regionD P callf ops N (o :: r) a masks done ⟨ts0,h⟩ = some s' ∧ Ag ts' s'.tmps ∧ Z ts' s'.heap:=by
    intro v h' h1 h2
    split at h2
    ·rename_i hcond
     obtain ⟨s',ts',h3,h4⟩:=Q7b hc (hag.put o.dst v) h2
     refine ⟨s',ts',?_,h4⟩
     have hset:settleC N (if makesBox o.op then 0 else leaveN o.op) a v h' = some (v,h'):=by unfold settleC; rw [if_pos hcond.1]
     simp only [regionD,doneOp,hw,hF0,hsl,h1,hset]
     rw [if_pos hcond]
     exact h3
    ·exact h2.elim
   cases w with
   | true =>
    obtain ⟨v,h',h1,h2⟩:=Q91 hc hag hk
    exact key v h' (by simp only [oneOp,hw]; exact h1) h2
   | false=>exact key undefA _ (by simp only [oneOp,hw]) hk
theorem QkT (hc:CkOk ck callf) {ts0:List AV} (hag:Ag ts ts0) {ops:Array Oper} {draw:Bool} {Z:List AV → Heap → Prop} (hk:regK P ck ops draw ts h Z) :
  ∃ s' ts',(if draw then regionDraw P callf ops ⟨ts0,h⟩ else regionT P callf ops ops.toList ⟨ts0,h⟩) = some s' ∧ Ag ts' s'.tmps ∧ Z ts' s'.heap:=by
 cases draw with
 | false=>exact Q2Z hc hag hk
 | true=>exact Q7b hc hag hk
end
end Go.Proofs.YtfdcjngclelnhaaGreat
namespace Go.Proofs.YtfdcjngclelnhaaGreat
open Go Go.RowKit
variable [mode:Inhabited ModeT]
def LoopAt (P:Program) (c:Code) (Q:Exit → Act → World → Prop) (a:Act) (w:World):Prop :=
 ∀ (b:Frame) (k:List Item) (cs:List Frame),∃ e a' w',Q e a' w' ∧ Arrives P (lone (b.at a (.code c :: .inLoop c :: k)) cs w) b k cs e a' w'
theorem QjT {P:Program} {c:Code} {Q:Exit → Act → World → Prop} {a:Act} {w:World} (h:LoopAt P c Q a w):(Code.loop c).wp P Q a w:=fun b k cs=>by
 obtain ⟨e,a',w',hq,harr⟩:=h b k cs
 exact ⟨e,a',w',hq,.of_steps (.one step_loop) harr⟩
theorem QjW {P:Program} {c:Code} {Q:Exit → Act → World → Prop} {a:Act} {w:World} (h:c.wp P (Exit.then (LoopAt P c Q) Q) a w):LoopAt P c Q a w:=fun b k cs=>by
 obtain ⟨e,a₁,w₁,hq,harr⟩:=h b (.inLoop c :: k) cs
 cases e with
 | normal =>
  obtain ⟨e₂,a₂,w₂,hq₂,harr₂⟩:=hq b k cs
  exact ⟨e₂,a₂,w₂,hq₂,.of_steps (Steps.trans harr (.one step_inLoop)) harr₂⟩
 | exit id=>exact ⟨_,a₁,w₁,hq,.pass (x:=.inLoop c) rfl (fun _ _=>.inl (by simp)) harr⟩
 | goto l=>exact ⟨_,a₁,w₁,hq,.pass (x:=.inLoop c) rfl (fun _ _=>.inl (by simp)) harr⟩
 | ret=>exact ⟨_,a₁,w₁,hq,.pass (x:=.inLoop c) rfl (fun _ _=>.inl (by simp)) harr⟩
 | panic ch=>exact ⟨_,a₁,w₁,hq,.pass (x:=.inLoop c) rfl (fun _ _=>.inl (by simp)) harr⟩
 | outgrown=>exact ⟨_,a₁,w₁,hq,.pass (x:=.inLoop c) rfl (fun _ _=>.inl (by simp)) harr⟩
def semC (P:Program) (c:Code) (Q:Exit → Act → World → Prop) (a:Act) (w:World):Prop :=
 match c with
 | .loop b=>LoopAt P b Q a w
 | c=>c.wp P Q a w
theorem Y3 {P:Program} {c:Code} {Q:Exit → Act → World → Prop} {a:Act} {w:World} (h:semC P c Q a w):c.wp P Q a w:=by
 unfold semC at h
 split at h
 ·exact QjT h
 ·exact h
def scopeQ (P:Program) (b:Code) (Q:Exit → Act → World → Prop):Exit → Act → World → Prop
 | .goto l,a,w=>match findLabel b l with
  | some rest=>ScopeArr P b rest Q a w
  | none=>Q (.goto l) a w
 | e,a,w=>Q e a w
theorem Qft {P:Program} {b cur:Code} {Q:Exit → Act → World → Prop} {a:Act} {w:World} (h:cur.wp P (scopeQ P b Q) a w):ScopeArr P b cur Q a w:=fun bb k cs=>by
 obtain ⟨e,a₁,w₁,hq,harr⟩:=h bb (.inScope b :: k) cs
 cases e with
 | normal=>exact ⟨_,a₁,w₁,hq,Steps.trans harr (.one step_inScope)⟩
 | exit id=>exact ⟨_,a₁,w₁,hq,fun k' hk=>harr k' (by simp [exitTo,hk])⟩
 | goto l =>
  simp only [scopeQ] at hq
  split at hq
  ·rename_i rest hfl
   obtain ⟨e3,a'',w'',hq',harr'⟩:=hq bb k cs
   exact ⟨e3,a'',w'',hq',.of_steps (harr _ (by simp [gotoIn,hfl])) harr'⟩
  ·rename_i hfl
   exact ⟨_,a₁,w₁,hq,fun k' hk=>harr k' (by simp [gotoIn,hfl,hk])⟩
 | ret=>exact ⟨_,a₁,w₁,hq,harr⟩
 | panic ch=>exact ⟨_,a₁,w₁,hq,harr⟩
 | outgrown=>exact ⟨_,a₁,w₁,hq,harr⟩
theorem Qnj {P:Program} {b:Code} {Q:Exit → Act → World → Prop} {a:Act} {w:World} (h:ScopeArr P b b Q a w):(Code.scope b).wp P Q a w:=fun bb k cs=>by
 obtain ⟨e2,a',w',hq',harr⟩:=h bb k cs
 exact ⟨e2,a',w',hq',.of_steps (.one step_scope) harr⟩
def Qat (P:Program) (body:Code) (Q:Exit → Act → World → Prop):Pth → Exit → Act → World → Prop
 | []=>Q
 | i :: p=>match subR body p with
  | .seq _ y=>match i with
   | 0=>Exit.then (y.wp P (Qat P body Q p)) (Qat P body Q p)
   | _=>Qat P body Q p
  | .cond _ _ _=>Qat P body Q p
  | .block id _=>Exit.inBlock id (Qat P body Q p)
  | .loop b=>Exit.then (LoopAt P b (Qat P body Q p)) (Qat P body Q p)
  | .scope b=>scopeQ P b (Qat P body Q p)
  | _=>fun _ _ _=>False
structure Entry where
 K:KW
 HF:Nat → Option AObj
 V:Nat → Prop
 h:Heap
 w:World
 fit:Fit K h HF V w
def Inv (E:Entry) (ts:List AV) (h:Heap) (a:Act) (w:World):Prop :=
 ∃ ts0 K,Ag ts ts0 ∧ Kext E.K K ∧ E.h.length ≤ h.length ∧ Sim K ⟨ts0,h⟩ E.HF (afterV none E.h.length h.length E.V) a w
def Sem (P:Program) (body:Code) (Q:Exit → Act → World → Prop) (E:Entry) (c:Ctl) (ts:List AV) (h:Heap):Prop :=
 match c with
 | .at p=>∀ a w,Inv E ts h a w → semC P (subR body p) (Qat P body Q p) a w
 | .on p=>∀ a w,Inv E ts h a w → semC P (subR body p) (Qat P body Q p) a w
 | .out e p=>∀ a w,Inv E ts h a w → Qat P body Q p (exOf e) a w
mutual
def blur:AV → AV
 | .dat d=>.dat d
 | .agg cs=>.agg (blurL cs)
 | .tuple vs=>.tuple (blurL vs)
 | _=>.any
def blurL:List AV → List AV
 | []=>[]
 | v :: r=>blur v :: blurL r
end
theorem Q7y:∀ l:List AV,blurL l = l.map blur
 | []=>rfl
 | v :: r=>by rw [blurL,Q7y r]; rfl
theorem QpB {K K':KW} (hi:K'.imm = K.imm) {x:AV} {v:Value} (h:Den K x v):Den K' (blur x) v:=by
 induction h with
 | dat h=>exact .dat (by rw [hi]; exact h)
 | agg cs vs hl _ ih =>
  rw [blur,Q7y]
  refine .agg _ _ (by simpa using hl) fun j x v h1 h2=>?_
  simp only [List.getElem?_map,Option.map_eq_some_iff] at h1
  obtain ⟨y,h3,rfl⟩:=h1
  exact ih j y v h3 h2
 | tuple cs vs hl _ ih =>
  rw [blur,Q7y]
  refine .tuple _ _ (by simpa using hl) fun j x v h1 h2=>?_
  simp only [List.getElem?_map,Option.map_eq_some_iff] at h1
  obtain ⟨y,h3,rfl⟩:=h1
  exact ih j y v h3 h2
 | any v h=>exact .any v h
 | _=>exact .any _ rfl
theorem QiD {ts0:List AV}:∀ {l:List Nat} {ts:List AV},Ag ts ts0 → Ag (killA l ts) ts0
 | [],ts,h=>h
 | i :: r,ts,h=>by
  refine QiD (l:=r) ⟨by rw [HA]; simp [h.1],fun j=>?_⟩
  rw [HA,List.getElem?_set]
  split
  ·rename_i e; subst e
   split
   ·exact .inl rfl
   ·rename_i hn
    right
    rw [List.getElem?_eq_none (by have:=h.1; omega)]
  ·exact h.2 j
theorem Inv.kill {E:Entry} {ts:List AV} {h:Heap} {a:Act} {w:World} (hi:Inv E ts h a w) (l:List Nat):Inv E (killA l ts) h a w:=by
 obtain ⟨ts0,K,h1,h2⟩:=hi
 exact ⟨ts0,K,QiD h1,h2⟩
theorem QfA {n:Nat} {ts:List AV} (h:undersL n ts = true) {i:Nat} {v:AV} (hv:ts[i]? = some v):v.under n = true:=Zj h i v hv
end Go.Proofs.YtfdcjngclelnhaaGreat
namespace Go.Proofs.YtfdcjngclelnhaaGreat
open Go Go.RowKit
variable [mode:Inhabited ModeT]
theorem Qfj {n m:Nat} (h:n ≤ m) {o:AObj} (ho:o.underN n):o.underN m:=by
 cases o with
 | mp es c l=>exact QM h ho
 | free e cs v l f x=>exact QM h ho
 | mit m' s sn l =>
  cases m' with
  | none=>trivial
  | some m'=>exact Nat.lt_of_lt_of_le ho h
 | _=>exact ho
theorem Fit.trim {K K':KW} {HF:Nat → Option AObj} {V:Nat → Prop} {w w':World} {h h':Heap} {n:Nat} (hk:Fit K h HF V w) (hext:Kext K K') (hk':Fit K' h' HF (afterV none h.length h'.length V) w') (hn:h.length ≤ n) (hle:n ≤ h'.length) (hlim:(h'.take n).all (limOk n) = true) :
  Kext K (restrictK n K') ∧ Fit (restrictK n K') (h'.take n) HF (afterV none h.length (h'.take n).length V) w':=by
 have hlen:(h'.take n).length = n:=by simp; omega
 obtain ⟨ow,hok⟩:=hk.ok
 constructor
 ·refine ⟨hext.base,hext.imm,fun i b hb=>?_,fun k r hr=>?_,hext.old,fun i v r hr=>?_⟩
  ·have hi:i < n:=by
    rcases Nat.lt_or_ge i h.length with h1 | h1
    ·omega
    ·have:=(hok.fresh i (hk.vlen i h1)).2.1
     rw [hb] at this; exact nomatch this
   rw [Jb hi]; exact hext.blk i b hb
  ·cases k with
   | tip i m =>
    have hi:i < n:=by
     rcases Nat.lt_or_ge i h.length with h1 | h1
     ·omega
     ·have:=(hok.fresh i (hk.vlen i h1)).2.2.1 m
      rw [hr] at this; exact nomatch this
    rw [ZG hi]; exact hext.key _ r hr
   | «at» i o v =>
    have hi:i < n:=by
     rcases Nat.lt_or_ge i h.length with h1 | h1
     ·omega
     ·have:=(hok.fresh i (hk.vlen i h1)).2.2.2 o v
      rw [hr] at this; exact nomatch this
    rw [ZB hi]; exact hext.key _ r hr
  ·have hi:i < n:=by
    rcases Nat.lt_or_ge i h.length with h1 | h1
    ·omega
    ·have:=hok.freshr i (hk.vlen i h1) v
     rw [hr] at this; exact nomatch this
   rw [Ze hi]; exact hext.row _ _ r hr
 ·obtain ⟨ow',hok'⟩:=hk'.ok
  have hok2:OkW K' (comb h' HF) (afterV none n h'.length (afterV none h.length n V)) w' ow':=hok'.virgin fun i hi=>by
   obtain ⟨⟨h1,h2,h3⟩,h4,h5⟩:=hi
   exact ⟨h1,h2,by omega⟩
  have:=hok2.restrict (fun id o hi hid ho=>by
   cases hx:h'[id]? with
   | none=>simp [comb,hx] at hid
   | some q =>
    cases q with
    | some o' =>
     have:o' = o:=by simp only [comb,hx,Option.some.injEq] at hid; exact hid
     subst this
     obtain ⟨b,obj,h1,_⟩:=hok'.fr id _ hid ho
     refine Q66 (List.all_eq_true.1 hlim (some o') ?_) h1
     exact List.mem_of_getElem? (i:=id) (by rw [List.getElem?_take,if_pos hi]; exact hx)
    | none =>
     have h2:HF id = some o:=by simpa only [comb,hx] using hid
     have h3:comb h HF id = some o:=by simp only [comb,hk.hf id o h2,h2]
     obtain ⟨b,obj,h1,_⟩:=hok.fr id o h3 ho
     exact Qfj hn (Q3F hk.bare h1))
  have hc:(fun i=>if i < n then comb h' HF i else none) = comb (h'.take n) HF:=by
   funext i
   rw [Qb2]
  rw [hc] at this
  refine ⟨⟨ow',by rw [hlen]; exact this⟩,fun i o hi=>?_,fun i hi=>⟨hk.vlen i (by omega),(by intro e; cases e),by omega⟩⟩
  have h1:=hk.hf i o hi
  rw [List.getElem?_take,if_pos (by have:=Qi h1; omega)]
  exact hk'.hf i o hi
theorem Inv.trim {E:Entry} {ts:List AV} {h:Heap} {a:Act} {w:World} (hi:Inv E ts h a w) {n:Nat} (hn:E.h.length ≤ n) (ht:trimOk n ts h = true):Inv E ts (h.take n) a w:=by
 obtain ⟨ts0,K,hag,hext,hle,hsim⟩:=hi
 unfold trimOk at ht
 simp only [Bool.and_eq_true,Nat.ble_eq] at ht
 obtain ⟨hnl,hu,hlim⟩:=ht
 obtain ⟨q1,q2⟩:=E.fit.trim hext hsim.fit hn hnl hlim
 have hlen:(h.take n).length = n:=by simp; omega
 have hag2:Ag ts (ts0.map fun v=>if v.under n then v else blur v):=by
  refine ⟨by simp [hag.1],fun i=>?_⟩
  rcases hag.2 i with h1 | h1
  ·exact .inl h1
  ·right
   rw [List.getElem?_map,← h1]
   cases hv:ts[i]? with
   | none=>rfl
   | some v =>
    have:=QfA hu hv
    simp [this]
 have hden:DenL (restrictK n K) (ts0.map fun v=>if v.under n then v else blur v) a.tmps.toList:=by
  refine DenL.of_index (by have:=hsim.tmps.length; simpa using this) fun j x v h1 h2=>?_
  simp only [List.getElem?_map,Option.map_eq_some_iff] at h1
  obtain ⟨y,h3,rfl⟩:=h1
  have hd:=hsim.tmps.index j y v h3 h2
  split
  ·rename_i hyu; exact H6 hd hyu
  ·exact QpB (K:=K) (K':=restrictK n K) rfl hd
 exact ⟨_,_,hag2,q1,by omega,hden,hsim.defers,by rw [hlen] at q2 ⊢; exact q2⟩
theorem ZV {n:Nat}:∀ {cs:List AV},undersL n cs = true → undersL n (cs.map sealC) = true
 | [],_=>rfl
 | c :: r,h=>by
  simp only [undersL,Bool.and_eq_true] at h
  simp only [List.map_cons,undersL,Bool.and_eq_true]
  refine ⟨?_,ZV h.2⟩
  cases c <;> first | exact h.1 | rfl
theorem OkW.dull {K:KW} {hc hc':Nat → Option AObj} {V:Nat → Prop} {w:World} {ow:Nat → Option OKey} (hk:OkW K hc V w ow)
  (hh:∀ i,hc' i = hc i ∨ ∃ e cs ver,hc i = some (.cells e cs ver) ∧ hc' i = some (.cells e (cs.map sealC) ver)):OkW K hc' V w ow:=by
 refine ⟨hk.imm,hk.below,fun id e cs ver h1=>?_,fun id e n sz h1=>?_,fun id e n sz h1=>?_,fun id h1=>?_,fun id e cs ver h1=>?_,hk.own,fun id o h1 h2=>?_,hk.freshr⟩
 ·rcases hh id with h2 | ⟨e0,cs0,ver0,h2,h3⟩
  ·exact hk.box _ _ _ _ (h2 ▸ h1)
  ·rw [h3] at h1
   cases h1
   obtain ⟨b,vs,hb⟩:=hk.box _ _ _ _ h2
   refine ⟨b,vs,hb.blk,hb.own,hb.base,hb.heap,hb.imm,JS (fun _ _=>Zi) hb.den,fun i c hi=>?_,ZV hb.under⟩
   rw [List.getElem?_map] at hi
   cases hx:cs0[i]? with
   | none=>rw [hx] at hi; cases hi
   | some x =>
    rw [hx] at hi
    cases hi
    have:=hb.cell i x hx
    cases x <;> first | exact this | trivial
 ·rcases hh id with h2 | ⟨e0,cs0,ver0,h2,h3⟩
  ·exact hk.tip _ _ _ _ (h2 ▸ h1)
  ·rw [h3] at h1; cases h1
 ·rcases hh id with h2 | ⟨e0,cs0,ver0,h2,h3⟩
  ·exact hk.more _ _ _ _ (h2 ▸ h1)
  ·rw [h3] at h1; cases h1
 ·obtain ⟨g1,g2⟩:=hk.fresh id h1
  rcases hh id with h2 | ⟨e0,cs0,ver0,h2,h3⟩
  ·exact ⟨h2.trans g1,g2⟩
  ·rw [g1] at h2; cases h2
 ·rcases hh id with h2 | ⟨e0,cs0,ver0,h2,h3⟩
  ·exact hk.ver _ _ _ _ (h2 ▸ h1)
  ·rw [h3] at h1; cases h1; exact hk.ver _ _ _ _ h2
 ·rcases hh id with h3 | ⟨e0,cs0,ver0,h3,h4⟩
  ·exact hk.fr _ _ (h3 ▸ h1) h2
  ·rw [h4] at h1; cases h1; cases h2
theorem Fit.dull {K:KW} {h:Heap} {HF:Nat → Option AObj} {V:Nat → Prop} {w:World} (hk:Fit K h HF V w):Fit K (h.map dullO) HF V w:=by
 obtain ⟨ow,hok⟩:=hk.ok
 refine ⟨⟨ow,hok.dull fun i=>?_⟩,fun i o hi=>?_,fun i hi=>hk.vlen i (by simpa using hi)⟩
 ·unfold comb
  rw [List.getElem?_map]
  cases hx:h[i]? with
  | none=>exact .inl rfl
  | some o =>
   cases o with
   | none=>exact .inl rfl
   | some o =>
    cases o with
    | cells e cs v=>exact .inr ⟨e,cs,v,rfl,rfl⟩
    | _=>exact .inl rfl
 ·rw [List.getElem?_map,hk.hf i o hi]; rfl
theorem Inv.dull {E:Entry} {ts:List AV} {h:Heap} {a:Act} {w:World} (hi:Inv E ts h a w) (b:Bool):Inv E ts (dullH b h) a w:=by
 cases b with
 | false=>exact hi
 | true =>
  obtain ⟨ts0,K,hag,hext,hle,hsim⟩:=hi
  refine ⟨ts0,K,hag,hext,by simpa [dullH] using hle,hsim.tmps,hsim.defers,?_⟩
  have:=hsim.fit.dull
  simpa [dullH] using this
theorem Q8E (ts:List AV) (h:Heap):∀ (f b:Nat),b ≤ trimN ts h f b
 | 0,b=>Nat.le_refl _
 | f + 1,b=>by
  show b ≤ (match trimOk b ts h with | true=>b | false=>trimN ts h f (b + 1))
  split
  ·exact Nat.le_refl _
  ·have:=Q8E ts h f (b + 1); omega
theorem Inv.hook {E:Entry} {ts:List AV} {h:Heap} {a:Act} {w:World} {k:Hook} (hb:E.h.length ≤ k.base) (hi:Inv E ts h a w) (hk:k.run ts h):∃ ts' h',k.go ts' h' ∧ Inv E ts' h' a w:=by
 unfold Hook.run at hk
 dsimp only at hk
 split at hk
 ·rename_i ht
  exact ⟨_,_,hk,((hi.kill k.dead).dull k.dull).trim (Nat.le_trans hb (Q8E _ _ _ _)) ht⟩
 ·exact ⟨_,_,hk,(hi.kill k.dead).dull k.dull⟩
end Go.Proofs.YtfdcjngclelnhaaGreat
