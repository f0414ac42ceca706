/- Part of a proof. -/
import Derived.Test.YtfdcjngclelnhaaGreatC
import Derived.Laws.Cells
import Derived.Laws.Strings
import Derived.Laws.StructEq
import Derived.ChangeKeysEq
import Derived.Laws.BytesString
set_option linter.unusedSectionVars false
set_option linter.unusedSimpArgs false
set_option linter.unusedVariables false
namespace Go.Proofs.YtfdcjngclelnhaaGreat
open Go Go.RowKit
variable [mode:Inhabited ModeT]
section
variable {P:Program} {K:KW} {w:World}
theorem Q8D {ts:List AV} {vs:Array Value} (h:DenL K ts vs.toList) (t:Nat):Den K (ts.getD t undefA) (vs.getD t undef):=by
 rw [Array.getD_eq_getD_getElem?,List.getD_eq_getElem?_getD,← Array.getElem?_toList]
 cases ht:ts[t]? with
 | some x =>
  obtain ⟨v,hv,hd⟩:=h.get ht
  simpa [hv] using hd
 | none =>
  have hl:ts.length ≤ t:=by
   rcases Nat.lt_or_ge t ts.length with h' | h'
   ·rw [List.getElem?_eq_getElem h'] at ht; exact nomatch ht
   ·exact h'
  have:vs.toList[t]? = none:=List.getElem?_eq_none (by rw [h.length]; exact hl)
  simpa [this] using Q0z
theorem Qt {ts:List AV} {a:Act} (h:DenL K ts a.tmps.toList) {x:Operand} {v:AV} (hx:evalX ts x = some v):Den K v (a.eval x):=by
 cases x with
 | tmp t=>simp [evalX] at hx; subst hx; exact Q8D h t
 | const c=>exact QeJ hx
 | global g=>simp [evalX] at hx
 | func f=>simp [evalX] at hx; subst hx; exact Den.of_func (va:=#[]) (vc:=#[]) .nil .nil
theorem Q2f {ts:List AV} {a:Act} (h:DenL K ts a.tmps.toList):∀ {xs:List Operand} {vs:List AV},evalL ts xs = some vs → DenL K vs (xs.map a.eval)
 | [],vs,hx=>by simp [evalL] at hx; subst hx; exact .nil
 | x :: xs,vs,hx=>by
  simp only [evalL] at hx
  split at hx
  ·rename_i v hv
   simp at hx
   obtain ⟨r,hr,rfl⟩:=hx
   exact .cons (Qt h hv) (Q2f h hr)
  ·exact nomatch hx
theorem Qo {t:TypeId} {n:Nat} (h:sizeA P t = some n):(sizeOf t).run P w = .ok n w:=by
 unfold sizeA at h
 cases hi:P.info? t with
 | none=>rw [hi] at h; exact nomatch h
 | some i=>rw [hi] at h; simp at h; subst h; simp [sizeOf,typeInfo,program,Sem.run,hi]
theorem Q2 {t:TypeId} {d:TypeDesc} (h:P.underlying t = some d):(underlying t).run P w = .ok d w:=by
 simp [underlying,program,Sem.run,h]
theorem JP {t:TypeId} {z:AV} (h:zeroA P t = some z):∃ v,(zeroValue t).run P w = .ok v w ∧ Den K z v ∧ ∃ i,P.info? t = some i ∧ i.zero = some v:=by
 unfold zeroA at h
 cases hi:P.info? t with
 | none=>rw [hi] at h; exact nomatch h
 | some i =>
  rw [hi] at h
  simp only [Option.bind_some] at h
  cases hz:i.zero with
  | none=>rw [hz] at h; exact nomatch h
  | some v =>
   rw [hz] at h
   simp only [Option.bind_some] at h
   exact ⟨v,by simp [zeroValue,typeInfo,program,Sem.run,hi,hz],QeJ h,i,rfl,hz⟩
theorem Ym {t:TypeId} {b:Bool} (h:isAggA P t = some b):(isAgg t).run P w = .ok b w:=by
 unfold isAggA at h
 split at h
 ·rename_i hu; cases h; simp [isAgg,Q2 hu]
 ·rename_i hu; cases h; simp [isAgg,Q2 hu]
 ·rename_i d h1 h2 hu
  cases h
  simp only [isAgg,Sem.run_bind,Q2 hu,Result.andThen_ok]
  rfl
 ·exact nomatch h
theorem Q3G {t:TypeId} {cs:List AV} {vs:Array Value} {off:Nat} {v:AV} (hd:DenL K cs vs.toList) (h:partA P t cs off = some v) :
  ∃ u,(part t vs off).run P w = .ok u w ∧ Den K v u:=by
 unfold partA at h
 split at h
 ·rename_i n ha hs
  split at h
  ·rename_i hle
   cases h
   refine ⟨.agg (vs.extract off (off + n)),by simp [part,Ym ha,Qo hs],Yk ?_⟩
   have:(vs.extract off (off + n)).toList = (vs.toList.drop off).take n:=by
    rw [Array.toList_extract,List.extract_eq_take_drop]; congr 1; omega
   rw [this]
   exact (hd.drop off).take n
  ·exact nomatch h
 ·rename_i n ha hs
  obtain ⟨u,hu,hden⟩:=hd.get h
  rw [Array.getElem?_toList] at hu
  exact ⟨u,by simp [part,Ym ha,hu],hden⟩
 ·exact nomatch h
theorem J9 {b o n:Nat} {vs:List Value} (hn:n ≤ vs.length) (h:∀ (j:Nat) (v:Value),vs[j]? = some v → w.cell? ⟨b,o + j,none⟩ = some v) :
  (loadCells ⟨b,o,none⟩ n).run P w = .ok (vs.take n).toArray w:=by
 have hl:(vs.take n).length = n:=by simp [Nat.min_eq_left hn]
 have:=run_loadCells_list (P:=P) w ⟨b,o,none⟩ (vs.take n) fun j v hj=>by
  rw [List.getElem?_take] at hj
  split at hj
  ·have:=h j v hj
   rw [Addr.add_lit]; exact this
  ·exact nomatch hj
 rwa [hl] at this
theorem Qee {a:Addr} {v:Value} (h:w.cell? a = some v):(load a).run P w = .ok v w:=by simp [h]
theorem Y2 {t:TypeId} {cs:List AV} {vs:List Value} {b o off:Nat} {v:AV} (hd:DenL K cs vs) (hv:∀ (j:Nat) (v:Value),vs[j]? = some v → w.cell? ⟨b,o + j,none⟩ = some v)
  (h:partA P t cs off = some v):∃ u,(loadVar t ⟨b,o + off,none⟩).run P w = .ok u w ∧ Den K v u:=by
 unfold partA at h
 split at h
 ·rename_i n ha hs
  split at h
  ·rename_i hle
   cases h
   refine ⟨.agg ((vs.drop off).take n).toArray,?_,Yk (by simpa using (hd.drop off).take n)⟩
   simp only [loadVar,Sem.run_bind,Ym ha,Result.andThen_ok,if_true,Qo hs]
   rw [J9 (vs:=vs.drop off) (by rw [List.length_drop,hd.length]; omega) fun j v hj=>by
    rw [List.getElem?_drop] at hj
    rw [Nat.add_assoc]; exact hv _ v hj]
   rfl
  ·exact nomatch h
 ·rename_i n ha hs
  obtain ⟨u,hu,hden⟩:=hd.get h
  exact ⟨u,by simp only [loadVar,Sem.run_bind,Ym ha,Result.andThen_ok,Bool.false_eq_true,if_false]; exact Qee (hv _ u hu),hden⟩
 ·exact nomatch h
theorem Qkq {op:BinOp} {k:IntKind} {a b:Int} {d:D} {t:TypeId} (h:intOp op k a b = some d):∃ v,(binOp op t (.int k a) (.int k b)).run P w = .ok v w ∧ DenD K.imm d v:=by
 cases op <;> simp only [intOp] at h
 case quo =>
  split at h
  ·exact nomatch h
  ·rename_i hb; cases h; exact ⟨_,by simp [binOp,Op.intDiv,hb],.int _ _⟩
 case rem =>
  split at h
  ·exact nomatch h
  ·rename_i hb; cases h; exact ⟨_,by simp [binOp,Op.intDiv,hb],.int _ _⟩
 case shl=>exact nomatch h
 case shr=>exact nomatch h
 all_goals cases h
 all_goals first
  | exact ⟨_,by simp [binOp,Op.intArith,Op.intBits,Op.intCmp],.int _ _⟩
  | exact ⟨_,by simp [binOp,Op.intArith,Op.intBits,Op.intCmp],.bool _⟩
theorem Q5Y {op:BinOp} {k k':IntKind} {a b:Int} {d:D} {t:TypeId} (h:shiftOp op k a b = some d):∃ v,(binOp op t (.int k a) (.int k' b)).run P w = .ok v w ∧ DenD K.imm d v:=by
 unfold shiftOp at h
 split at h
 ·exact nomatch h
 ·rename_i hb
  cases op <;> simp at h
  ·cases h; exact ⟨_,by simp [binOp,Op.shift,hb],.int _ _⟩
  ·cases h; exact ⟨_,by simp [binOp,Op.shift,hb],.int _ _⟩
theorem Q5k (s:List UInt8):(ByteArray.mk s.toArray).toList = s:=by rw [ByteArray.toList_eq]
theorem Qkv {op:BinOp} {a b:List UInt8} {d:D} {t:TypeId} (h:strOp op a b = some d):∃ v,(binOp op t (.string ⟨a.toArray⟩) (.string ⟨b.toArray⟩)).run P w = .ok v w ∧ DenD K.imm d v:=by
 cases op <;> simp only [strOp] at h
 case add =>
  split at h
  ·rename_i hl
   cases h
   refine ⟨.string ⟨(a ++ b).toArray⟩,?_,.str _⟩
   have e:(ByteArray.mk a.toArray ++ ByteArray.mk b.toArray:ByteArray) = ⟨(a ++ b).toArray⟩:=by
    apply ByteArray.ext; simp
   have hs:¬ (((ByteArray.mk a.toArray).size + (ByteArray.mk b.toArray).size:Nat):Int) > IntKind.i64.max:=by
    simp [ByteArray.size]; omega
   simp only [binOp,Op.stringOp,e,if_neg hs,Sem.run_pure]
  ·exact nomatch h
 all_goals first
  | (obtain rfl:=Option.some.inj h; exact ⟨_,by simp only [binOp,Op.stringOp,Q5k]; rfl,.bool _⟩)
  | exact nomatch h
end
end Go.Proofs.YtfdcjngclelnhaaGreat
namespace Go.Proofs.YtfdcjngclelnhaaGreat
open Go Go.RowKit
variable [mode:Inhabited ModeT]
section
variable {P:Program} {K:KW} {w:World}
theorem QbB {t:TypeId} {cs:List D} {vs:Array Value} {off:Nat} {d:D} (hd:DenDL K.imm cs vs.toList) (h:partD P t cs off = some d) :
  ∃ u,(part t vs off).run P w = .ok u w ∧ DenD K.imm d u:=by
 unfold partD at h
 split at h
 ·rename_i n ha hs
  split at h
  ·rename_i hle
   cases h
   refine ⟨.agg (vs.extract off (off + n)),by simp [part,Ym ha,Qo hs],.of_agg ?_⟩
   have:(vs.extract off (off + n)).toList = (vs.toList.drop off).take n:=by
    rw [Array.toList_extract,List.extract_eq_take_drop]; congr 1; omega
   rw [this]
   exact (hd.drop off).take n
  ·exact nomatch h
 ·rename_i n ha hs
  have hl:=hd.length
  have hoff:off < cs.length:=by
   rcases Nat.lt_or_ge off cs.length with h' | h'
   ·exact h'
   ·rw [List.getElem?_eq_none h'] at h; exact nomatch h
  have hu:vs.toList[off]? = some (vs.toList[off]'(by rw [hl]; exact hoff)):=List.getElem?_eq_getElem _
  have hden:=hd.index off d _ h hu
  rw [Array.getElem?_toList] at hu
  exact ⟨_,by simp only [part,Sem.run_bind,Ym ha,Result.andThen_ok,Bool.false_eq_true,if_false,hu]; rfl,hden⟩
 ·exact nomatch h
theorem Q2L {d:Nat} {eq:TypeId → D → D → Option Bool} {xs ys:List D} {vx vy:Array Value} (hx:DenDL K.imm xs vx.toList) (hy:DenDL K.imm ys vy.toList)
  (he:∀ t a b va vb r,eq t a b = some r → DenD K.imm a va → DenD K.imm b vb → (Op.equalIn d t va vb).run P w = .ok r w) :
  ∀ {fs:List Field} {r:Bool},eqFieldsD P eq xs ys fs = some r → (Op.eqFields d vx vy fs).run P w = .ok r w
 | [],r,h=>by simp [eqFieldsD] at h; subst h; simp [Op.eqFields]
 | f :: fs,r,h=>by
  simp only [eqFieldsD] at h
  split at h
  ·exact nomatch h
  ·rename_i hn
   split at h
   ·rename_i a b ha hb
    obtain ⟨va,h1,h2⟩:=QbB (P:=P) (w:=w) hx ha
    obtain ⟨vb,h3,h4⟩:=QbB (P:=P) (w:=w) hy hb
    simp only [Op.eqFields,hn,ne_eq,not_false_eq_true,if_true,Sem.run_bind,h1,h3,Result.andThen_ok]
    split at h
    ·rename_i he'
     rw [he _ _ _ _ _ _ he' h2 h4]
     simpa using Q2L hx hy he h
    ·rename_i he'
     rw [he _ _ _ _ _ _ he' h2 h4]
     cases h
     simp
    ·exact nomatch h
   ·exact nomatch h
theorem Qd4 (a b:List UInt8):((ByteArray.mk a.toArray) == (ByteArray.mk b.toArray)) = (a == b):=by
 rw [beq_toListBytes,Q5k,Q5k]
theorem Qir:∀ {n:Nat} {t:TypeId} {x y:D} {vx vy:Value} {r:Bool},eqD P n t x y = some r → DenD K.imm x vx → DenD K.imm y vy →
  ∀ m,n ≤ m → (Op.equalIn m t vx vy).run P w = .ok r w
 | 0,_,_,_,_,_,_,h,_,_,_,_=>by simp [eqD] at h
 | n + 1,t,x,y,vx,vy,r,h,hx,hy,m,hm=>by
  obtain ⟨m,rfl⟩:∃ k,m = k + 1:=⟨m - 1,by omega⟩
  simp only [eqD] at h
  split at h
  ·rename_i hu; cases h; cases hx; cases hy; simp [Op.equalIn,Q2 hu]
  ·rename_i hu
   split at h
   ·rename_i hk; cases h; cases hx; cases hy; subst hk; simp [Op.equalIn,Q2 hu]
   ·exact nomatch h
  ·rename_i hu
   obtain rfl:=Option.some.inj h
   cases hx; cases hy
   simp only [Op.equalIn,Sem.run_bind,Q2 hu,Result.andThen_ok,Qd4]
   rfl
  ·rename_i fields xs ys hu
   split at h
   ·exact nomatch h
   ·rename_i hst
    obtain ⟨va,rfl,ha⟩:=hx.agg_list
    obtain ⟨vb,rfl,hb⟩:=hy.agg_list
    have hf:P.fieldsOf t = fields:=by simp [Program.fieldsOf,hu]
    rw [run_equalIn_struct w m t va vb (by rw [hf]; exact hu) (by simpa using hst),hf]
    exact Q2L ha hb (fun t a b va vb r he h1 h2=>Qir he h1 h2 m (by omega)) h
  ·exact nomatch h
theorem Qjq {t:TypeId} {x y:AV} {vx vy:Value} {r:Bool} (h:eqA P t x y = some r) (hx:Den K x vx) (hy:Den K y vy) :
  (Op.equal t vx vy).run P w = .ok r w ∧ ∀ xo yo op,(eqGuard op t xo yo vx vy).run P w = .ok () w:=by
 unfold eqA at h
 unfold Op.equal
 obtain ⟨md,hd,hm8⟩:∃ m,Op.maxDepth = m + 1 ∧ 8 ≤ m:=⟨9999,rfl,by decide⟩
 split at h
 ·rename_i hu; cases h; cases hx with | dat hx=>cases hx; cases hy with | dat hy=>cases hy; exact ⟨by rw [hd]; simp [Op.equalIn,Q2 hu],fun xo yo op=>by simp [eqGuard_at_bool]⟩
 ·rename_i a b hu
  split at h
  ·exact nomatch h
  ·rename_i hg
   cases hx with
   | dat hx =>
    cases hy with
    | dat hy =>
     refine ⟨Qir h hx hy _ (by rw [hd]; omega),fun xo yo op=>?_⟩
     obtain ⟨va,rfl,ha⟩:=hx.agg_list
     obtain ⟨vb,rfl,hb⟩:=hy.agg_list
     have hg':P.eqGuardType P.depth t = false:=by simpa using hg
     cases op <;> simp [eqGuard,program,Sem.run,hg']
 ·rename_i b hu
  cases hx
  cases hy <;> cases h <;> exact ⟨by rw [hd]; simp [Op.equalIn,Q2 hu],fun xo yo op=>by simp [eqGuard_at_pointer]⟩
 ·rename_i hu; cases h; cases hx; cases hy; exact ⟨by rw [hd]; simp [Op.equalIn,Q2 hu],fun xo yo op=>by simp [eqGuard_at_pointer]⟩
 ·rename_i e a b hu
  split at h
  ·rename_i hc
   obtain ⟨h1,h2,h3⟩:=hc
   obtain ⟨i,o⟩:=a
   obtain ⟨i',o'⟩:=b
   simp only at h1
   subst h1
   cases hx with
   | ptr _ _ bx hbx =>
    cases hy with
    | ptr _ _ by' hby =>
     have:by' = bx:=by rw [hbx] at hby; exact (Option.some.inj hby).symm
     subst this
     refine ⟨?_,fun xo yo op=>by simp [eqGuard_at_pointer]⟩
     cases hz:sizeA P e with
     | none=>rw [hz] at h3; exact nomatch h3
     | some n =>
      have hn:n ≠ 0:=fun e0=>h2 (by rw [hz,e0])
      obtain rfl:=Option.some.inj h
      rw [hd]
      simp only [Op.equalIn,Sem.run_bind,Q2 hu,Result.andThen_ok,Qo hz,ne_eq,hn,not_false_eq_true,if_true]
      simp only [sameAddr,beq_self_eq_true,if_true]
      have:((⟨by',o,none⟩:Addr) == ⟨by',o',none⟩) = ((i,o) == (i,o')):=by
       rw [Bool.eq_iff_iff]; simp
      rw [this]
      rfl
  ·exact nomatch h
 ·rename_i hu; cases h; cases hx; cases hy; exact ⟨by rw [hd]; simp [Op.equalIn,Q2 hu],fun xo yo op=>by simp [eqGuard_at_pointer]⟩
 ·rename_i hu; cases h; cases hx with | dat hx=>cases hx; cases hy with | dat hy=>cases hy; exact ⟨by rw [hd]; simp [Op.equalIn,Q2 hu],fun xo yo op=>by simp [eqGuard_at_slice]⟩
 ·rename_i hu
  cases h
  cases hy with
  | dat hy =>
   cases hy
   cases hx <;> exact ⟨by rw [hd]; simp [Op.equalIn,Q2 hu],fun xo yo op=>by simp [eqGuard_at_slice]⟩
 ·rename_i hu
  cases h
  cases hy with
  | dat hy =>
   cases hy
   cases hx <;> exact ⟨by rw [hd]; simp [Op.equalIn,Q2 hu],fun xo yo op=>by simp [eqGuard_at_slice]⟩
 ·rename_i hu; cases h; cases hx; cases hy; exact ⟨by rw [hd]; simp [Op.equalIn,Q2 hu],fun xo yo op=>by simp [eqGuard_at_pointer]⟩
 ·rename_i e i v o i' v' o' hu
  split at h
  ·rename_i hc
   obtain ⟨rfl,rfl,h2,h3⟩:=hc
   cases hx with
   | fp _ _ _ rx hrx =>
    cases hy with
    | fp _ _ _ ry hry =>
     obtain rfl:ry = rx:=by rw [hrx] at hry; exact (Option.some.inj hry).symm
     refine ⟨?_,fun xo yo op=>by simp [eqGuard_at_pointer]⟩
     cases hz:sizeA P e with
     | none=>rw [hz] at h3; exact nomatch h3
     | some n =>
      have hn:n ≠ 0:=fun e0=>h2 (by rw [hz,e0])
      obtain rfl:=Option.some.inj h
      rw [hd]
      simp only [Op.equalIn,Sem.run_bind,Q2 hu,Result.andThen_ok,Qo hz,ne_eq,hn,not_false_eq_true,if_true]
      simp only [sameAddr,beq_self_eq_true,if_true]
      have:((⟨ry.b,ry.o + o,none⟩:Addr) == ⟨ry.b,ry.o + o',none⟩) = (o == o'):=by
       rw [Bool.eq_iff_iff]; simp
      rw [this]
      rfl
  ·exact nomatch h
 ·rename_i hu
  cases h
  cases hy
  cases hx <;> exact ⟨by rw [hd]; simp [Op.equalIn,Q2 hu],fun xo yo op=>by cases op <;> simp [eqGuard]⟩
 ·rename_i hu
  cases h
  cases hy with
  | dat hy =>
   cases hy
   cases hx with
   | dat hx=>cases hx; exact ⟨by rw [hd]; simp [Op.equalIn,Q2 hu],fun xo yo op=>by simp [eqGuard_at_slice]⟩
 ·rename_i hu; cases h; cases hx; cases hy; exact ⟨by rw [hd]; simp [Op.equalIn,Q2 hu],fun xo yo op=>by simp [eqGuard_at_nilFunc]⟩
 ·rename_i hu; cases h; cases hx; cases hy; exact ⟨by rw [hd]; simp [Op.equalIn,Q2 hu],fun xo yo op=>by simp [eqGuard_at_func]⟩
 ·exact nomatch h
end
end Go.Proofs.YtfdcjngclelnhaaGreat
namespace Go.Proofs.YtfdcjngclelnhaaGreat
open Go Go.RowKit
variable [mode:Inhabited ModeT]
section
variable {P:Program} {K:KW} {w:World}
theorem QiU {t:TypeId} {vx vy:Value} {r:Bool} (h:(Op.equal t vx vy).run P w = .ok r w) (hi:∀ k a k' b,¬ (vx = .int k a ∧ vy = .int k' b)) (hs:∀ a b,¬ (vx = .string a ∧ vy = .string b))
  (hf:∀ k a k' b,¬ (vx = .float k a ∧ vy = .float k' b)) (hc:∀ k a b k' c d,¬ (vx = .complex k a b ∧ vy = .complex k' c d)):(binOp .eql t vx vy).run P w = .ok (.bool r) w ∧ (binOp .neq t vx vy).run P w = .ok (.bool (!r)) w:=by
 unfold binOp
 constructor
 all_goals
  split
  all_goals first
   | (simp only [Sem.run_bind,h,Result.andThen_ok]; rfl)
   | (exfalso; exact hi _ _ _ _ ⟨rfl,rfl⟩)
   | (exfalso; exact hs _ _ ⟨rfl,rfl⟩)
   | (exfalso; exact hf _ _ _ _ ⟨rfl,rfl⟩)
   | (exfalso; exact hc _ _ _ _ _ _ ⟨rfl,rfl⟩)
   | (exfalso; contradiction)
   | (simp_all; done)
theorem Qpv {op:BinOp} {t:TypeId} {x y v:AV} {vx vy:Value} {xo yo:Operand} (h:binA P op t x y = some v) (hx:Den K x vx) (hy:Den K y vy) :
  ∃ u,(do eqGuard op t xo yo vx vy; binOp op t vx vy:Sem Value).run P w = .ok u w ∧ Den K v u:=by
 unfold binA at h
 split at h
 ·rename_i k a k' b
  cases hx with | dat hx=>?_
  cases hy with | dat hy=>?_
  cases hx; cases hy
  split at h
  ·simp only [Option.map_eq_some_iff] at h
   obtain ⟨d,hd,rfl⟩:=h
   obtain ⟨u,h1,h2⟩:=Q5Y (P:=P) (w:=w) (K:=K) (k':=k') (t:=t) hd
   exact ⟨u,by simp only [Sem.run_bind,eqGuard_at_int,Sem.run_pure,Result.andThen_ok]; exact h1,.dat h2⟩
  ·simp only [Option.map_eq_some_iff] at h
   obtain ⟨d,hd,rfl⟩:=h
   obtain ⟨u,h1,h2⟩:=Q5Y (P:=P) (w:=w) (K:=K) (k':=k') (t:=t) hd
   exact ⟨u,by simp only [Sem.run_bind,eqGuard_at_int,Sem.run_pure,Result.andThen_ok]; exact h1,.dat h2⟩
  ·split at h
   ·rename_i hk
    subst hk
    simp only [Option.map_eq_some_iff] at h
    obtain ⟨d,hd,rfl⟩:=h
    obtain ⟨u,h1,h2⟩:=Qkq (P:=P) (w:=w) (K:=K) (t:=t) hd
    exact ⟨u,by simp only [Sem.run_bind,eqGuard_at_int,Sem.run_pure,Result.andThen_ok]; exact h1,.dat h2⟩
   ·exact nomatch h
 ·rename_i a b
  cases hx with | dat hx=>?_
  cases hy with | dat hy=>?_
  cases hx; cases hy
  simp only [Option.map_eq_some_iff] at h
  obtain ⟨d,hd,rfl⟩:=h
  obtain ⟨u,h1,h2⟩:=Qkv (P:=P) (w:=w) (K:=K) (t:=t) hd
  exact ⟨u,by simp only [Sem.run_bind,eqGuard_at_string,Sem.run_pure,Result.andThen_ok]; exact h1,.dat h2⟩
 ·exact nomatch h
 ·exact nomatch h
 ·rename_i hax hay hni hns
  have hi:∀ k a k' b,¬ (vx = .int k a ∧ vy = .int k' b):=by
   rintro k a k' b ⟨rfl,rfl⟩
   cases hx with
   | any _ _=>exact hax rfl
   | dat hx =>
   cases hy with
   | any _ _=>exact hay rfl
   | dat hy =>
   cases hx; cases hy
   exact hni _ _ _ _ rfl rfl
  have hs:∀ a b,¬ (vx = .string a ∧ vy = .string b):=by
   rintro a b ⟨rfl,rfl⟩
   cases hx with
   | any _ _=>exact hax rfl
   | dat hx =>
   cases hy with
   | any _ _=>exact hay rfl
   | dat hy =>
   cases hx; cases hy
   exact hns _ _ rfl rfl
  have hf:∀ k a k' b,¬ (vx = .float k a ∧ vy = .float k' b):=by
   rintro k a k' b ⟨rfl,rfl⟩
   cases hx with
   | any _ _=>exact hax rfl
   | dat hx=>cases hx
  have hc:∀ k a b k' c d,¬ (vx = .complex k a b ∧ vy = .complex k' c d):=by
   rintro k a b k' c d ⟨rfl,rfl⟩
   cases hx with
   | any _ _=>exact hax rfl
   | dat hx=>cases hx
  split at h
  ·simp only [Option.map_eq_some_iff] at h
   obtain ⟨r,hr,rfl⟩:=h
   obtain ⟨h1,h2⟩:=Qjq (w:=w) hr hx hy
   obtain ⟨h3,_⟩:=QiU h1 hi hs hf hc
   exact ⟨_,by simp only [Sem.run_bind,h2,Result.andThen_ok]; exact h3,.dat (.bool _)⟩
  ·simp only [Option.map_eq_some_iff] at h
   obtain ⟨r,hr,rfl⟩:=h
   obtain ⟨h1,h2⟩:=Qjq (w:=w) hr hx hy
   obtain ⟨_,h3⟩:=QiU h1 hi hs hf hc
   exact ⟨_,by simp only [Sem.run_bind,h2,Result.andThen_ok]; exact h3,.dat (.bool _)⟩
  ·exact nomatch h
theorem Qqi {op:UnOp} {x v:AV} {vx:Value} (h:unA op x = some v) (hx:Den K x vx):∃ u,(Op.unary op vx).run P w = .ok u w ∧ Den K v u:=by
 unfold unA at h
 split at h
 ·cases h; cases hx with | dat hx=>?_
  cases hx; exact ⟨_,by simp [Op.unary,Op.intArith],.dat (.int _ _)⟩
 ·cases h; cases hx with | dat hx=>?_
  cases hx; exact ⟨_,by simp [Op.unary],.dat (.bool _)⟩
 ·exact nomatch h
theorem Qg6 {t:TypeId} {x v:AV} {vx:Value} {f:Nat} (h:fieldA P t x f = some v) (hx:Den K x vx):∃ u,(Instr.field t vx f).run P w = .ok u w ∧ Den K v u:=by
 unfold fieldA at h
 split at h
 ·rename_i fields hu
  split at h
  ·rename_i fd hf
   split at h
   ·cases hx with | dat hx=>?_
    obtain ⟨vs,rfl,hl⟩:=hx.agg_list
    obtain ⟨u,h1,h2⟩:=Q3G (P:=P) (w:=w) (DenL.of_dat hl) h
    exact ⟨u,by simp [Instr.field,Q2 hu,hf,asAgg,h1],h2⟩
   ·obtain ⟨vs,rfl,hl⟩:=hx.agg_list
    obtain ⟨u,h1,h2⟩:=Q3G (P:=P) (w:=w) hl h
    exact ⟨u,by simp [Instr.field,Q2 hu,hf,asAgg,h1],h2⟩
   ·exact nomatch h
  ·exact nomatch h
 ·exact nomatch h
theorem JZ (b o n:Nat):Addr.add ⟨b,o,none⟩ n = ⟨b,o + n,none⟩:=Addr.add_lit b o n
theorem Q9u {t:TypeId} {x v:AV} {vx:Value} {f:Nat} (h:fieldAddrA P t x f = some v) (hx:Den K x vx):∃ u,(Instr.fieldAt t vx f).run P w = .ok u w ∧ Den K v u:=by
 unfold fieldAddrA at h
 split at h
 ·rename_i fields hu
  split at h
  ·rename_i fd hf
   split at h
   ·rename_i n hs
    split at h
    ·cases h
     cases hx with
     | ptr id off b hb =>
      exact ⟨_,by simp [Instr.fieldAt,Q2 hu,hf,Instr.sureAddr,fieldPlace,Qo hs,JZ],.ptr _ _ b hb⟩
    ·cases h
     cases hx with
     | fp id ver off r hr =>
      exact ⟨_,by simp [Instr.fieldAt,Q2 hu,hf,Instr.sureAddr,fieldPlace,Qo hs,JZ,Nat.add_assoc],.fp _ _ _ r hr⟩
    ·cases h
     cases hx with
     | ep cs off b o vs hd hv =>
      exact ⟨_,by simp [Instr.fieldAt,Q2 hu,hf,Instr.sureAddr,fieldPlace,Qo hs,JZ,Nat.add_assoc],.ep _ _ b o vs hd hv⟩
    ·exact nomatch h
   ·exact nomatch h
  ·exact nomatch h
 ·exact nomatch h
theorem QfV {t:TypeId} {x i v:AV} {vx vi:Value} (h:indexA P t x i = some v) (hx:Den K x vx) (hi:Den K i vi):∃ u,(Instr.index t vx vi).run P w = .ok u w ∧ Den K v u:=by
 unfold indexA at h
 split at h
 ·rename_i k n
  cases hi with | dat hi=>?_
  cases hi
  split at h
  ·exact nomatch h
  ·rename_i hn
   have hn':0 ≤ n:=by omega
   split at h
   ·rename_i s hu
    split at h
    ·rename_i b hb
     cases h
     cases hx with | dat hx=>?_
     cases hx
     have hg:(ByteArray.mk s.toArray)[n.toNat]? = some b:=by
      have hlt:n.toNat < s.length:=by
       rcases Nat.lt_or_ge n.toNat s.length with h' | h'
       ·exact h'
       ·rw [List.getElem?_eq_none h'] at hb; exact nomatch hb
      rw [List.getElem?_eq_getElem hlt] at hb
      have hsz:n.toNat < (ByteArray.mk s.toArray).size:=by simpa [ByteArray.size] using hlt
      rw [getElem?_pos (ByteArray.mk s.toArray) n.toNat hsz]
      exact hb
     exact ⟨_,by simp [Instr.index,asIntOf,Q2 hu,hn',hg],.dat (.int _ _)⟩
    ·exact nomatch h
   ·rename_i len elem hu
    split at h
    ·rename_i sz hs
     split at h
     ·rename_i hlt
      split at h
      ·cases hx with | dat hx=>?_
       obtain ⟨vs,rfl,hl⟩:=hx.agg_list
       obtain ⟨u,h1,h2⟩:=Q3G (P:=P) (w:=w) (DenL.of_dat hl) h
       exact ⟨u,by simp [Instr.index,asIntOf,Q2 hu,hn',hlt,Qo hs,h1],h2⟩
      ·obtain ⟨vs,rfl,hl⟩:=hx.agg_list
       obtain ⟨u,h1,h2⟩:=Q3G (P:=P) (w:=w) hl h
       exact ⟨u,by simp [Instr.index,asIntOf,Q2 hu,hn',hlt,Qo hs,h1],h2⟩
      ·exact nomatch h
     ·exact nomatch h
    ·exact nomatch h
   ·exact nomatch h
 ·exact nomatch h
theorem Q7R {t:TypeId} {x i v:AV} {vx vi:Value} (h:indexAddrA P t x i = some v) (hx:Den K x vx) (hi:Den K i vi):∃ u,(Instr.indexAt t vx vi).run P w = .ok u w ∧ Den K v u:=by
 unfold indexAddrA at h
 split at h
 ·rename_i k n
  cases hi with | dat hi=>?_
  cases hi
  split at h
  ·exact nomatch h
  ·rename_i hn
   have hn':0 ≤ n:=by omega
   split at h
   ·rename_i elem hu
    split at h
    ·rename_i id ver off len sz
     split at h
     ·rename_i hc
      obtain ⟨hs,hlt⟩:=hc
      cases h
      cases hx with
      | row _ _ _ _ _ r hr hz hle =>
       have hlt':n < (len:Int):=hlt
       refine ⟨.pointer (some ⟨r.b,r.o + off + n.toNat * sz,none⟩),?_,?_⟩
       ·simp only [Instr.indexAt,asIntOf,Sem.run_bind,Sem.run_pure,Result.andThen_ok,Q2 hu,Qo hs,hn',hlt',and_self,if_true,JZ]
       ·have:=Den.fp (K:=K) id ver (off + n.toNat * sz) r hr
        rwa [← Nat.add_assoc] at this
     ·exact nomatch h
    split at h
    ·rename_i sz es hs he
     split at h
     ·rename_i e hee
      split at h
      ·rename_i hsz
       cases h
       obtain ⟨a,cap,rfl,hcap,b,o,sz',ha,hcells⟩:=Yl hx he
       have hlt:n.toNat < es.length:=by
        rcases Nat.lt_or_ge n.toNat es.length with h' | h'
        ·exact h'
        ·rw [List.getElem?_eq_none h'] at hee; exact nomatch hee
       have hne:es ≠ []:=by rintro rfl; simp at hlt
       obtain ⟨h1,vs,h2,h3⟩:=hcells.elem hee
       obtain rfl:sz' = sz:=by omega
       rw [ha hne]
       have hlt':n < (es.length:Int):=by omega
       refine ⟨.pointer (some ⟨b,o + n.toNat * sz',none⟩),?_,?_⟩
       ·simp only [Instr.indexAt,asIntOf,Sem.run_bind,Sem.run_pure,Result.andThen_ok,Q2 hu,Qo hs,hn',hlt',and_self,if_true,JZ]
       ·exact .ep e.cells 0 b (o + n.toNat * sz') vs h2 h3
      ·exact nomatch h
     ·exact nomatch h
    ·exact nomatch h
   ·rename_i len elem hu
    split at h
    ·rename_i sz hs
     split at h
     ·rename_i hlt
      split at h
      ·cases h
       cases hx with
       | ptr id off b hb =>
        exact ⟨_,by simp only [Instr.indexAt,asIntOf,Sem.run_bind,Sem.run_pure,Result.andThen_ok,Q2 hu,Qo hs,Instr.sureAddr,hn',hlt,and_self,if_true,JZ],.ptr _ _ b hb⟩
      ·cases h
       cases hx with
       | fp id ver off r hr =>
        exact ⟨_,by simp only [Instr.indexAt,asIntOf,Sem.run_bind,Sem.run_pure,Result.andThen_ok,Q2 hu,Qo hs,Instr.sureAddr,hn',hlt,and_self,if_true,JZ,Nat.add_assoc],.fp _ _ _ r hr⟩
      ·cases h
       cases hx with
       | ep cs off b o vs hd hv =>
        exact ⟨_,by simp only [Instr.indexAt,asIntOf,Sem.run_bind,Sem.run_pure,Result.andThen_ok,Q2 hu,Qo hs,Instr.sureAddr,hn',hlt,and_self,if_true,JZ,Nat.add_assoc],.ep _ _ b o vs hd hv⟩
      ·exact nomatch h
     ·exact nomatch h
    ·exact nomatch h
   ·exact nomatch h
 ·exact nomatch h
theorem QoR {t ty:TypeId} {x v:AV} {vx:Value} {ts:Array TypeId} {vs:Array Value} (h:lenA P t x = some v) (hx:Den K x vx) (ht:ts[0]? = some t) (hv:vs[0]? = some vx):∃ u,(Builtin.len_ ts ty vs).run P w = .ok u w ∧ Den K v u:=by
 unfold lenA at h
 split at h
 ·rename_i s hu
  cases h
  cases hx with | dat hx=>?_
  cases hx
  have hz:(ByteArray.mk s.toArray).size = s.length:=by simp [ByteArray.size]
  exact ⟨_,by simp only [Builtin.len_,ht,hv,Sem.run_bind,Q2 hu,Result.andThen_ok,hz,goInt,Sem.run_pure],.dat (.int _ _)⟩
 ·rename_i e id ver off len sz hu
  cases h
  cases hx
  exact ⟨_,by simp [Builtin.len_,ht,hv,Q2 hu,goInt],.dat (.int _ _)⟩
 ·rename_i e hu _
  simp only [Option.map_eq_some_iff] at h
  obtain ⟨es,he,rfl⟩:=h
  obtain ⟨a,cap,rfl,_⟩:=Yl hx he
  exact ⟨_,by simp [Builtin.len_,ht,hv,Q2 hu,goInt],.dat (.int _ _)⟩
 ·rename_i n e hu
  cases h
  exact ⟨_,by simp [Builtin.len_,ht,hv,Q2 hu,goInt],.dat (.int _ _)⟩
 ·rename_i k e hu
  cases h
  cases hx
  exact ⟨_,by simp [Builtin.len_,ht,hv,Q2 hu,goInt],.dat (.int _ 0)⟩
 ·exact nomatch h
theorem Qar {a:Act} {o:Oper} {xo:Operand} {x v:AV} (ho:o.op = .nilCheck xo) (h:nilCheckA x = some v) (hx:Den K x (a.eval xo)):(execOp a.eval o).run P w = .ok (.value (a.eval xo)) w ∧ Den K v (a.eval xo):=by
 have he:execOp a.eval o = execOp a.eval { o with op:=.nilCheck xo }:=by cases o; simp only at ho; subst ho; rfl
 rw [he]
 simp only [execOp]
 generalize a.eval xo = vx at hx
 unfold nilCheckA at h
 split at h
 ·exact nomatch h
 ·exact nomatch h
 ·exact nomatch h
 ·exact nomatch h
 ·cases h
  obtain ⟨va,vc,rfl,_⟩:=hx.func_list
  exact ⟨rfl,hx⟩
 ·exact nomatch h
 ·rename_i h1 h2 h3 h0 h4 h5
  cases h
  refine ⟨?_,hx⟩
  cases hx with
  | any _ _=>exact (h0 rfl).elim
  | func fn a c va vc=>exact (h5 _ _ _ rfl).elim
  | dat h=>cases h <;> rfl
  | pnil=>exact (h1 rfl).elim
  | nilFunc=>exact (h3 rfl).elim
  | nilIface=>exact (h2 rfl).elim
  | _=>rfl
end
end Go.Proofs.YtfdcjngclelnhaaGreat
namespace Go.Proofs.YtfdcjngclelnhaaGreat
open Go Go.RowKit
variable [mode:Inhabited ModeT]
section
variable {P:Program} {K:KW} {w:World} {hc:Nat → Option AObj} {V:Nat → Prop} {ow:Nat → Option OKey}
theorem BoxOk.cell_at {id:Nat} {e:TypeId} {cs:List AV} {ver b:Nat} {vs:Array Value} (h:BoxOk K w ow id e cs ver b vs) (j:Nat) (v:Value) (hv:vs.toList[j]? = some v):w.cell? ⟨b,0 + j,none⟩ = some v:=by
 rw [HI h.heap,Nat.zero_add,← Array.getElem?_toList]; exact hv
theorem Qb4 {t:TypeId} {x v:AV} {vx:Value} {h:Heap} (hk:OkW K hc V w ow) (hh:∀ id o,h[id]? = some (some o) → hc id = some o) (hl:loadA P t x h = some v) (hx:Den K x vx) :
  ∃ u,(Instr.loadAt t vx).run P w = .ok u w ∧ Den K v u:=by
 unfold loadA at hl
 split at hl
 ·rename_i id off
  split at hl
  ·rename_i e cs ver hid
   obtain ⟨b,vs,hb⟩:=hk.box id _ _ _ (hh _ _ hid)
   cases hx with
   | ptr _ _ b' hb' =>
    obtain rfl:b' = b:=by rw [hb.blk] at hb'; exact (Option.some.inj hb').symm
    obtain ⟨u,h1,h2⟩:=Y2 (P:=P) (w:=w) hb.den hb.cell_at hl
    rw [Nat.zero_add] at h1
    exact ⟨u,by simp [Instr.loadAt,Instr.sureAddr,h1],h2⟩
  ·exact nomatch hl
 ·rename_i id ver off
  split at hl
  ·rename_i e cs v lim fz ex hid
   split at hl
   ·rename_i hv
    subst hv
    obtain ⟨b,obj,hf,hb,_⟩:=hk.fr id _ (hh _ _ hid) rfl
    cases hf with
    | free _ _ _ _ _ _ r vs lo hi hr hsz hle hd hu hvn hfz hex hcl =>
     cases hx with
     | fp _ _ _ r' hr' =>
      obtain rfl:r' = r:=by rw [hr] at hr'; exact (Option.some.inj hr').symm
      obtain ⟨u,h1,h2⟩:=Y2 (P:=P) (w:=w) hd (fun j v hj=>by
       rw [HI hb,← Array.getElem?_toList]
       rw [List.getElem?_take] at hj
       split at hj
       ·rwa [List.getElem?_drop] at hj
       ·cases hj) hl
      exact ⟨u,by simp [Instr.loadAt,Instr.sureAddr,h1],h2⟩
   ·exact nomatch hl
  ·exact nomatch hl
 ·cases hx with
  | ep _ _ b o vs hd hv =>
   obtain ⟨u,h1,h2⟩:=Y2 (P:=P) (w:=w) (DenL.of_dat hd) (fun j v hj=>hk.imm _ _ (hv j v hj)) hl
   exact ⟨u,by simp [Instr.loadAt,Instr.sureAddr,h1],h2⟩
 ·exact nomatch hl
theorem Q1o {b:Nat} {vs:Array Value} {e:TypeId} {f:Nat × Nat} (h:w.heap[b]? = some (.cells vs e f)):w.shape? b = some (e,vs.size):=by simp [World.shape?,h]
theorem Q7J {b:Nat} {vs:Array Value} {e:TypeId} {f:Nat × Nat} (h:w.heap[b]? = some (.cells vs e f)):(viewAt b).run P w = .ok none w:=by
 simp [viewAt,Q1o h]
theorem Qe1 {s d:TypeId} {o:Option (Nat × Nat)} {v:AV} {vx:Value} {h:Heap} (hk:OkW K hc V w ow) (hh:∀ id o,h[id]? = some (some o) → hc id = some o) (hl:convPtr P s d (.ptr o) h = some v) (hx:Den K (.ptr o) vx) :
  ∃ u,(convert s d vx).run P w = .ok u w ∧ Den K v u:=by
 unfold convPtr at hl
 split at hl
 ·rename_i e h1 h2 h3
  cases hl
  cases h3
  cases hx
  exact ⟨_,by simp [convert,Q2 h1,Q2 h2,Conv.unsafePointer],.pnil⟩
 ·rename_i t id off h1 h2 h3
  cases h3
  split at hl
  ·rename_i e cs ver hid
   split at hl
   ·rename_i hc'
    obtain ⟨g1,g2,g3⟩:=hc'
    cases hl
    obtain ⟨b,vs,hb⟩:=hk.box id _ _ _ (hh _ _ hid)
    cases hx with
    | ptr _ _ b' hb' =>
     obtain rfl:b' = b:=by rw [hb.blk] at hb'; exact (Option.some.inj hb').symm
     have hsz:vs.size = cs.length:=by have:=hb.den.length; simpa using this
     cases hz:sizeA P t with
     | none=>rw [hz] at g3; exact nomatch g3
     | some n =>
      have hn:n ≠ 0:=fun e0=>g2 (by rw [hz,e0])
      refine ⟨_,?_,.ptr _ _ b' hb'⟩
      have hlt:¬ vs.size ≤ off:=by omega
      simp [convert,Q2 h1,Q2 h2,Conv.unsafePointer,Conv.seenAt,Q7J hb.heap,cellsIn,Q1o hb.heap,Qo hz,hn,hlt]
   ·exact nomatch hl
  ·exact nomatch hl
 ·rename_i e h1 h2 h3
  cases hl
  cases h3
  cases hx
  exact ⟨_,by simp [convert,Q2 h1,Q2 h2,Conv.unsafePointer],.pnil⟩
 ·rename_i u id off h1 h2 h3
  cases h3
  split at hl
  ·rename_i e cs ver hid
   split at hl
   ·rename_i hc'
    obtain ⟨g1,g2⟩:=hc'
    cases hl
    obtain ⟨b,vs,hb⟩:=hk.box id _ _ _ (hh _ _ hid)
    cases hx with
    | ptr _ _ b' hb' =>
     obtain rfl:b' = b:=by rw [hb.blk] at hb'; exact (Option.some.inj hb').symm
     have hsz:vs.size = cs.length:=by have:=hb.den.length; simpa using this
     cases hz:sizeA P u with
     | none=>rw [hz] at g1; exact nomatch g1
     | some n =>
      refine ⟨_,?_,.ptr _ _ b' hb'⟩
      simp only [convert,Sem.run_bind,Q2 h1,Q2 h2,Result.andThen_ok,Conv.unsafePointer,Conv.seenAt,Q7J hb.heap,Sem.run_pure,Qo hz,variablesAt,run_shape,Q1o hb.heap,run_program,hsz,g2,Bool.or_true,decide_eq_true_eq,or_true,if_true]
   ·exact nomatch hl
  ·exact nomatch hl
 ·exact nomatch hl
theorem Q21:∀ {es:List D} {s:List UInt8} {vs:List Value},bytesOf es = some s → DenDL K.imm (es.flatMap D.cells) vs → ∃ ns:List Int,vs = ns.map (Value.int .u8) ∧ s = ns.map fun n=>UInt8.ofNat n.toNat
 | [],s,vs,h,hd=>by
  simp [bytesOf] at h
  subst h
  cases hd
  exact ⟨[],rfl,rfl⟩
 | e :: es,s,vs,h,hd=>by
  unfold bytesOf at h
  split at h
  case h_1 heq=>exact nomatch heq
  case h_3=>exact nomatch h
  rename_i n r' heq
  cases heq
  simp only [Option.map_eq_some_iff] at h
  obtain ⟨r,hr,rfl⟩:=h
  simp only [List.flatMap_cons,D.cells,List.cons_append,List.nil_append] at hd
  cases hd with
  | cons h1 h2 =>
   cases h1
   obtain ⟨ns,e1,e2⟩:=Q21 hr h2
   exact ⟨n :: ns,by rw [e1]; rfl,by rw [e2]; rfl⟩
theorem Q8C (ns:List Int):∀ acc:ByteArray,ns.foldl (fun r n=>r.push (UInt8.ofNat n.toNat)) acc = ⟨(acc.data.toList ++ ns.map fun n=>UInt8.ofNat n.toNat).toArray⟩:=by
 induction ns with
 | nil=>intro acc; cases acc; simp
 | cons n ns ih=>intro acc; simp [ih]
theorem Yc {a:Addr} {n b:Nat} (h:b ≠ a.block):(w.freeze a n).heap[b]? = w.heap[b]?:=by
 unfold World.freeze
 split
 ·rfl
 ·simp only [Array.getElem?_modify]; rw [if_neg (fun e=>h e.symm)]
theorem HJ {a:Addr} {n:Nat}:(w.freeze a n).heap.size = w.heap.size:=by
 unfold World.freeze; split <;> simp
theorem Q1D {a:Addr} {n:Nat} {vs:Array Value} {e:TypeId} {lo hi:Nat} (h:w.heap[a.block]? = some (.cells vs e (lo,hi))) :
  (w.freeze a n).heap[a.block]? = some (.cells vs e (if n = 0 then (lo,hi) else if lo == hi then (a.off,a.off + n) else (min lo a.off,max hi (a.off + n)))):=by
 unfold World.freeze
 split
 ·exact h
 ·simp only [Array.getElem?_modify,if_true,h,Option.map_some]
theorem OkW.freeze {K:KW} {h:Nat → Option AObj} (hk:OkW K h V w ow) {a:Addr} {n:Nat} {vs:Array Value} {e:TypeId} {lo hi:Nat} (hb:w.heap[a.block]? = some (.cells vs e (lo,hi))) (hn:ow a.block = none) (hbase:¬ K.base.old a.block):OkW K h V (w.freeze a n) ow:=by
 refine hk.world ?_ (by rw [HJ]; omega) (fun b k ho=>Yc fun e=>by rw [e,hn] at ho; exact nomatch ho) fun x c hx=>?_
 ·refine hk.below.step ?_ ?_ ?_ ⟨by rw [HJ]; omega,fun k hk=>Yc (by intro e; subst e; first | exact absurd hk (by assumption) | exact absurd hk hb.base | exact absurd hk (by simpa using hbase))⟩ <;> (unfold World.freeze; split <;> rfl)
 ·have:=hk.imm x c hx
  by_cases hx':x.block = a.block
  ·obtain ⟨vs',e',f',g1,g2,g3⟩:=Zd this
   rw [hx',hb] at g1
   cases g1
   obtain ⟨xb,xo,xs⟩:=x
   simp only at hx' g2 g3
   subst g2; subst hx'
   rw [HI (Q1D hb)]; exact g3
  ·rw [ZU (Yc hx')]; exact this
theorem Q3i {need old:Nat} {elem:TypeId}:∃ cap w',(choose (.appendCap need old elem)).run P w = .ok cap w' ∧ w' = w.drew ∧ need ≤ cap:=by
 refine ⟨(Question.appendCap need old elem).cut (w.tape w.drawn (.appendCap need old elem)),w.drew,?_,rfl,?_⟩
 ·simp [choose,Sem.run,Question.forced]
 ·simp [Question.cut]
end
end Go.Proofs.YtfdcjngclelnhaaGreat
