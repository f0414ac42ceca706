/- append: who may append in place gives that right up, and a new mark takes it. -/
import Derived.Test.YtobhpbnlbgbjaaaGreatDoorD10
set_option linter.unusedSectionVars false
set_option linter.unusedSimpArgs false
set_option linter.unusedVariables false
set_option linter.unusedSimpArgs false
namespace Go.Proofs.YtobhpbnlbgbjaaaGreatDoor
open Go Go.RowKit
set_option linter.unusedSectionVars false
variable [mode : Inhabited ModeT]

section
variable {P : Program} {K : KW} {w : World} {h : Heap} {HF : Nat → Option AObj} {V : Nat → Prop} {ow : Nat → Option OKey} {hc : Nat → Option AObj}

def freeOw (ow : Nat → Option OKey) (b : Nat) : Nat → Option OKey := fun x => if x = b then none else ow x

theorem OkW.release (hk : OkW K hc V w ow) {b : Nat} {k0 : OKey} (ho : ow b = some k0) {hc' : Nat → Option AObj} (htip : ∀ id e n sz, hc' id = some (.tip e n sz) → hc id = some (.tip e n sz) ∧ k0 ≠ .tip id)
    (hbox : ∀ id e cs' ver, hc' id = some (.cells e cs' ver) → k0 ≠ .box id ∧ ∃ cs, hc id = some (.cells e cs ver) ∧ undersL (id + 1) cs' = true ∧ (∀ vs, DenL K cs vs → DenL K cs' vs) ∧ ∀ (i : Nat) (c : AV), cs'[i]? = some c → CellOk K w ow id i ver c → CellOk K w (freeOw ow b) id i ver c)
    (hcell : ∀ id e cs cs' ver, hc id = some (.cells e cs ver) → hc' id = some (.cells e cs' ver) → ∀ (i : Nat) (c : AV), cs'[i]? = some c → CellOk K w ow id i ver c) (hnone : ∀ id, hc id = none → hc' id = none) (hfr : ∀ id o, hc' id = some o → o.isFr = true → hc id = some o ∧ k0 ≠ .fr id) : OkW K hc' V w (freeOw ow b) := by
  have hkeep : ∀ x k, ow x = some k → k ≠ k0 → freeOw ow b x = some k := fun x k h1 h2 => by
    have : x ≠ b := by rintro rfl; rw [ho] at h1; exact h2 (Option.some.inj h1).symm
    simp [freeOw, this, h1]
  refine ⟨hk.imm, hk.below, fun id e cs' ver hid => ?_, fun id e n sz hid => ?_, fun id e n sz hid => ?_, fun i hi => ?_, fun id e cs' ver hid => ?_, fun x k hx => ?_, fun id o hid ho => ?_, hk.freshr⟩
  · obtain ⟨hk0, cs, h1, h2, h3, h4⟩ := hbox id e cs' ver hid
    obtain ⟨bb, vs, hb⟩ := hk.box id e cs ver h1
    exact ⟨bb, vs, hb.blk, hkeep _ _ hb.own (fun e => hk0 e.symm), hb.base, hb.heap, hb.imm, h3 _ hb.den, fun i c hi => h4 i c hi (hcell id e cs cs' ver h1 hid i c hi), h2⟩
  · obtain ⟨h1, h2⟩ := htip id e n sz hid
    obtain ⟨r, g1, g2, g3, g4, g5⟩ := hk.tip id e n sz h1
    exact ⟨r, g1, g2, g3, g4, hkeep _ _ g5 (fun e => h2 e.symm)⟩
  · exact hk.more id e n sz (htip id e n sz hid).1
  · obtain ⟨g1, g2⟩ := hk.fresh i hi
    exact ⟨hnone i g1, g2⟩
  · obtain ⟨_, cs, h1, _⟩ := hbox id e cs' ver hid
    exact hk.ver id e cs ver h1
  · simp only [freeOw] at hx
    split at hx
    · exact nomatch hx
    · exact hk.own x k hx
  · obtain ⟨h1, h2⟩ := hfr id o hid ho
    exact (hk.fr id o h1 ho).mono (Kext.refl K) (fun _ => rfl) fun x hx => ⟨rfl, hkeep _ _ hx (fun e => h2 e.symm), fun _ _ h => h⟩

/-- a mark gives its right up -/
theorem OkW.releaseTip (hk : OkW K hc V w ow) {id : Nat} {b : Nat} (ho : ow b = some (.tip id)) : OkW K (upd hc id none) V w (freeOw ow b) := by
  refine hk.release ho (fun i e n sz hi => ?_) (fun i e cs' ver hi => ?_) (fun i e cs cs' ver h1 h2 j c hj => ?_) (fun i hi => ?_) fun i o hi ho' => ?_
  · by_cases hne : i = id
    · subst hne; rw [upd_same] at hi; exact nomatch hi
    · rw [upd_ne hne] at hi; exact ⟨hi, fun e => hne (OKey.tip.inj e).symm⟩
  · by_cases hne : i = id
    · subst hne; rw [upd_same] at hi; exact nomatch hi
    · rw [upd_ne hne] at hi
      refine ⟨(by intro e; cases e), cs', hi, ?_, fun vs h => h, fun j c hj hcc => hcc.mono (Kext.refl K) (Nat.le_refl _) fun r n v hf ho' => ⟨hf, ?_⟩⟩
      · obtain ⟨bb, vs, hb⟩ := hk.box i e cs' ver hi
        exact hb.under
      · have : r.b ≠ b := by intro e; rw [e, ho] at ho'; exact nomatch ho'
        simp [freeOw, this, ho']
  · by_cases hne : i = id
    · subst hne; rw [upd_same] at h2; exact nomatch h2
    · rw [upd_ne hne, h1] at h2
      cases h2
      obtain ⟨bb, vs, hb⟩ := hk.box i e cs ver h1
      exact hb.cell j c hj
  · by_cases hne : i = id
    · subst hne; exact upd_same _ _ _
    · rw [upd_ne hne]; exact hi
  · by_cases hne : i = id
    · subst hne; rw [upd_same] at hi; cases hi
    · rw [upd_ne hne] at hi; exact ⟨hi, fun e => nomatch e⟩

theorem undersL_set {n : Nat} {x : AV} (hx : x.under n = true) : ∀ {cs : List AV} {i : Nat}, undersL n cs = true → undersL n (cs.set i x) = true
  | [], _, h => by simpa using h
  | c :: cs, 0, h => by simp [undersL] at h ⊢; exact ⟨hx, h.2⟩
  | c :: cs, i + 1, h => by simp [undersL] at h ⊢; exact ⟨h.1, undersL_set hx h.2⟩

theorem denL_setSame {cs : List AV} {vs : List Value} {i : Nat} {x y : AV} (h : DenL K cs vs) (hx : cs[i]? = some x) (hy : ∀ v, Den K x v → Den K y v) : DenL K (cs.set i y) vs := by
  induction h generalizing i with
  | nil => simp at hx
  | cons hd ht ih =>
    cases i with
    | zero => simp at hx; subst hx; exact .cons (hy _ hd) ht
    | succ i => exact .cons hd (ih (by simpa using hx))

/-- a place in a box gives its right up -/
theorem OkW.releaseAt (hk : OkW K hc V w ow) {id off v ver : Nat} {e e' : TypeId} {cs : List AV} {es : List D} {b : Nat} (hid : hc id = some (.cells e cs ver)) (hcs : cs[off]? = some (.own (.at id off v e') es)) (ho : ow b = some (.at id off v)) :
    OkW K (upd hc id (some (.cells e (cs.set off (.dat (.slice es))) ver))) V w (freeOw ow b) := by
  have hoff : off < cs.length := lt_of_some hcs
  refine hk.release ho (fun i e2 n sz hi => ?_) (fun i e2 cs' ver' hi => ?_) (fun i e2 cs1 cs' ver' h1 h2 j c hj => ?_) (fun i hi => ?_) fun i o hi ho' => ?_
  · by_cases hne : i = id
    · subst hne; rw [upd_same] at hi; cases hi
    · rw [upd_ne hne] at hi; exact ⟨hi, by intro e; cases e⟩
  · have hfree : ∀ i (j : Nat) c, CellOk K w ow i j ver' c → (i = id → j ≠ off) → CellOk K w (freeOw ow b) i j ver' c := fun i j c hcc hne => hcc.mono (Kext.refl K) (Nat.le_refl _) fun r n v' hf ho' => ⟨hf, by
      have : r.b ≠ b := by
        intro e3
        rw [e3, ho] at ho'
        cases ho'
        exact hne rfl rfl
      simp [freeOw, this, ho']⟩
    by_cases hne : i = id
    · subst hne
      rw [upd_same] at hi
      cases hi
      obtain ⟨bb, vs, hb⟩ := hk.box _ _ _ _ hid
      refine ⟨(by intro e; cases e), cs, hid, undersL_set (by simp [AV.under]) hb.under, fun vs h => denL_setSame h hcs (fun v hv => .dat (den_sealOwn hv)), fun j c hj hcc => ?_⟩
      rw [List.getElem?_set] at hj
      split at hj
      · rename_i hj'
        subst hj'
        first
          | (rw [if_pos hoff] at hj; cases hj; trivial)
          | (cases hj; trivial)
      · rename_i hj'
        exact hfree _ _ _ hcc (fun _ e => hj' e.symm)
    · rw [upd_ne hne] at hi
      obtain ⟨bb, vs, hb⟩ := hk.box _ _ _ _ hi
      exact ⟨(by intro e; cases e), cs', hi, hb.under, fun vs h => h, fun j c hj hcc => hfree _ _ _ hcc (fun e => absurd e hne)⟩
  · obtain ⟨bb, vs, hb⟩ := hk.box _ _ _ _ h1
    by_cases hne : i = id
    · subst hne
      rw [upd_same] at h2
      rw [hid] at h1
      cases h1
      cases h2
      rw [List.getElem?_set] at hj
      split at hj
      · rename_i hj'
        subst hj'
        first
          | (rw [if_pos hoff] at hj; cases hj; trivial)
          | (cases hj; trivial)
      · exact hb.cell j c hj
    · rw [upd_ne hne, h1] at h2
      cases h2
      exact hb.cell j c hj
  · by_cases hne : i = id
    · subst hne; rw [hid] at hi; exact nomatch hi
    · rw [upd_ne hne]; exact hi
  · by_cases hne : i = id
    · subst hne; rw [upd_same] at hi; cases hi; cases ho'
    · rw [upd_ne hne] at hi; exact ⟨hi, fun e => nomatch e⟩

/-- a mark takes a block that nobody owns -/
theorem OkW.claim (hk : OkW K hc V w ow) {id n : Nat} {r : KRow} (hid : hc id = none) (hnV : ∀ i, V i → i ≠ id) (hkeys : ∀ n', n ≤ n' → K.key (.tip id n') = none) (hf : Free K w r n) (hu : ow r.b = none) :
    ∃ ow', Kext K (withTip K id n r) ∧ OkW (withTip K id n r) (upd hc id (some (.tip r.e n r.sz))) V w ow' := by
  have hext : Kext K (withTip K id n r) := kext_withTip (hkeys n (Nat.le_refl _))
  let ow' : Nat → Option OKey := fun b => if b = r.b then some (.tip id) else ow b
  have hkeep : ∀ b k, ow b = some k → ow' b = some k := fun b k h1 => by
    have : b ≠ r.b := by rintro rfl; rw [hu] at h1; exact nomatch h1
    simp [ow', this, h1]
  refine ⟨ow', hext, hk.imm, hk.below, fun id' e' cs ver hid' => ?_, fun id' e' n' sz' hid' => ?_, fun id' e' n' sz' hid' => ?_, fun i hi => ?_, fun id' e' cs ver hid' => ?_, fun b k hb => ?_, fun id' o hid' ho => ?_, hk.freshr⟩
  · by_cases hi : id' = id
    · subst hi; rw [upd_same] at hid'; cases hid'
    · rw [upd_ne hi] at hid'
      obtain ⟨b, vs, hb⟩ := hk.box id' e' cs ver hid'
      exact ⟨b, vs, hb.blk, hkeep _ _ hb.own, hb.base, hb.heap, hb.imm, hb.den.mono hext, fun i c hc' => (hb.cell i c hc').mono hext (Nat.le_refl _) fun r n v hf ho => ⟨⟨hf.blk, hf.imm, hf.base⟩, hkeep _ _ ho⟩, hb.under⟩
  · by_cases hi : id' = id
    · subst hi; rw [upd_same] at hid'; cases hid'
      exact ⟨r, withTip_key, rfl, rfl, ⟨hf.blk, hf.imm, hf.base⟩, by simp [ow']⟩
    · rw [upd_ne hi] at hid'
      obtain ⟨r', h1, h2, h3, h4, h5⟩ := hk.tip id' e' n' sz' hid'
      exact ⟨r', hext.key _ _ h1, h2, h3, ⟨h4.blk, h4.imm, h4.base⟩, hkeep _ _ h5⟩
  · by_cases hi : id' = id
    · subst hi; rw [upd_same] at hid'; cases hid'
      intro n'' hn''
      have hne : ¬ n'' = n := by omega
      simp [withTip, withKey, hne, hkeys n'' (by omega)]
    · rw [upd_ne hi] at hid'
      intro n'' hn''
      have := hk.more id' e' n' sz' hid' n'' hn''
      simp [withTip, withKey, hi, this]
  · obtain ⟨g1, g2, g3, g4⟩ := hk.fresh i hi
    have hne := hnV i hi
    exact ⟨by rw [upd_ne hne]; exact g1, g2, fun n' => by simp [withTip, withKey, hne, g3 n'], fun off v => by simp [withTip, withKey, g4 off v]⟩
  · by_cases hi : id' = id
    · subst hi; rw [upd_same] at hid'; cases hid'
    · rw [upd_ne hi] at hid'
      intro off v hv'
      simp [withTip, withKey, hk.ver id' e' cs ver hid' off v hv']
  · simp only [ow'] at hb
    split at hb
    · rename_i hbe; rw [hbe]; exact hf.lt
    · exact hk.own b k hb
  · by_cases hi : id' = id
    · subst hi; rw [upd_same] at hid'; cases hid'; cases ho
    · rw [upd_ne hi] at hid'
      exact (hk.fr id' o hid' ho).mono hext (fun _ => rfl) fun b hb => ⟨rfl, hkeep _ _ hb, fun _ _ h => h⟩

theorem cells_append {imm : Imm} {b sz : Nat} {es xs : List D} {news : List Value} (h : Cells imm b 0 sz es) (hs : ∀ e, e ∈ xs → e.cells.length = sz) (hd : DenDL imm (xs.flatMap D.cells) news) (hv : ∀ (j : Nat) (v : Value), news[j]? = some v → imm ⟨b, es.length * sz + j, none⟩ = some v) :
    Cells imm b 0 sz (es ++ xs) := by
  obtain ⟨h1, vs, h2, h3⟩ := h
  have hvl : vs.length = es.length * sz := by rw [h2.length, flat_length h1]
  refine ⟨fun e he => (List.mem_append.1 he).elim (h1 e) (hs e), vs ++ news, by rw [List.flatMap_append]; exact h2.append hd, fun j v hj => ?_⟩
  rw [List.getElem?_append] at hj
  split at hj
  · exact h3 j v hj
  · rename_i hge
    rw [hvl] at hj hge
    have := hv _ v hj
    rwa [show es.length * sz + (j - es.length * sz) = 0 + j by omega] at this

/-- in place -/
theorem extend_in (hk : OkW K hc V w ow) {ts : Array TypeId} {ty elem : TypeId} {info : TypeInfo} (ht : AppTypes P ts elem info) {vx : Value} {xs : List D} {news : List Value} (hm : More P K info.size vx xs news) {r : KRow} (hsz : r.sz = info.size) {es : List D}
    (hcells : Cells K.imm r.b 0 r.sz es) (hf : Free K w r es.length) (hu : ow r.b = none) (hcap : es.length + xs.length ≤ r.cap) {id : Nat} (hid : hc id = none) (hnV : ∀ i, V i → i ≠ id) (hkeys : ∀ n', es.length + xs.length ≤ n' → K.key (.tip id n') = none) :
    ∃ w' K' ow', (Builtin.append_ ts ty #[.slice (some ⟨r.b, 0, none⟩) es.length r.cap, vx]).run P w = .ok (.slice (some ⟨r.b, 0, none⟩) (es.length + xs.length) r.cap) w' ∧ Kext K K' ∧ Den K' (.own (.tip id) (es ++ xs)) (.slice (some ⟨r.b, 0, none⟩) (es.length + xs.length) r.cap) ∧
      OkW K' (upd hc id (some (.tip r.e (es.length + xs.length) r.sz))) V w' ow' := by
  obtain ⟨⟨arr, lo, hi, hblk, hsize, hhi⟩, himm, hbase⟩ := hf
  have hnl : news.length = xs.length * r.sz := by rw [hsz, hm.den.length, flat_length hm.szs]
  have hle : es.length * r.sz + news.length ≤ arr.size := by
    rw [hnl, ← Nat.add_mul]
    exact Nat.le_trans (Nat.mul_le_mul_right _ hcap) hsize
  let arr' : Array Value := (arr.toList.take (es.length * r.sz) ++ news ++ arr.toList.drop (es.length * r.sz + news.length)).toArray
  have hrun := run_append_in (P := P) (w := w) (ty := ty) ht hm hk.imm (b := r.b) hcap
  have hst := run_storeCells_atF P r.b (es.length * r.sz) r.e (lo, hi) news 0 arr w hblk (by simpa using hhi) (by simpa using hle) hm.one
  rw [Nat.add_zero] at hst
  rw [hsz] at hst
  rw [hst, Result.andThen_ok] at hrun
  have hasz : arr'.size = arr.size := by simp [arr']; omega
  have hlow : ∀ off, off < es.length * r.sz → arr'[off]? = arr[off]? := fun off ho => by
    have : (arr.toList.take (es.length * r.sz)).length = es.length * r.sz := by simp; omega
    simp only [arr', List.getElem?_toArray]
    rw [List.append_assoc, List.getElem?_append_left (by omega), List.getElem?_take, if_pos ho, Array.getElem?_toList]
  have hnew : ∀ (j : Nat) (v : Value), news[j]? = some v → arr'[es.length * r.sz + j]? = some v := fun j v hj => by
    have htl : (arr.toList.take (es.length * r.sz)).length = es.length * r.sz := by simp; omega
    simp only [arr', List.getElem?_toArray]
    rw [List.append_assoc, List.getElem?_append_right (by omega), htl, Nat.add_sub_cancel_left, List.getElem?_append_left (lt_of_some hj)]
    exact hj
  have hheap : (w.setRow r.b arr').heap[r.b]? = some (.cells arr' r.e (lo, hi)) := setRow_heap w r.b arr arr' r.e (lo, hi) hblk
  have hk1 : OkW K hc V (w.setRow r.b arr') ow := hk.world (hk.below.step rfl rfl rfl ⟨by simp, fun k hk' => setRow_other w r.b k arr' (by intro e; subst e; first | exact absurd hk' (by assumption) | exact absurd hk' hb.base | exact absurd hk' (by simpa using hbase))⟩) (by simp) (fun b k ho => setRow_other w r.b b arr' (fun e => by rw [e, hu] at ho; exact nomatch ho)) fun a c ha => by
    have h1 := hk.imm a c ha
    by_cases hab : a.block = r.b
    · obtain ⟨ab, ao, asp⟩ := a
      simp only at hab
      subst hab
      obtain ⟨vs, e, f, g1, g2, g3⟩ := cell_block h1
      simp only at g2 g3
      subst g2
      rw [hblk] at g1
      cases g1
      have : ao < es.length * r.sz := by
        rcases Nat.lt_or_ge ao (es.length * r.sz) with h | h
        · exact h
        · have := himm ao none h; rw [ha] at this; exact nomatch this
      rw [cell_of hheap, hlow ao this]; exact g3
    · rw [cell_same (setRow_other w r.b a.block arr' hab)]; exact h1
  obtain ⟨hk2, hext2⟩ := hk1.told (m := (es.length + xs.length) * r.sz) hheap hu hbase
  obtain ⟨ow', hext3, hk3⟩ := hk2.claim (r := r) hid hnV (fun n' hn' => hkeys n' hn') ⟨⟨arr', lo, hi, hheap, by omega, Nat.le_trans hhi (Nat.mul_le_mul_right _ (Nat.le_add_right _ _))⟩, fun off sp ho => by
    rw [withImm_above ho]; exact himm off sp (Nat.le_trans (Nat.mul_le_mul_right _ (Nat.le_add_right _ _)) ho), hbase⟩ hu
  refine ⟨_, _, ow', hrun, hext2.trans hext3, ?_, ?_⟩
  · have hlen : (es ++ xs).length = es.length + xs.length := by simp
    have hd : Cells (withTip (withImm K r.b ((es.length + xs.length) * r.sz) arr') id (es.length + xs.length) r).imm r.b 0 r.sz (es ++ xs) → Den (withTip (withImm K r.b ((es.length + xs.length) * r.sz) arr') id (es.length + xs.length) r) (.own (.tip id) (es ++ xs)) (.slice (some ⟨r.b, 0, none⟩) (es.length + xs.length) r.cap) := fun h => by
      have := Den.tip id (es ++ xs) r (by rw [hlen]; exact withTip_key) (by rw [hlen]; exact hcap) h
      rwa [hlen] at this
    refine hd ?_
    refine cells_append (hcells.mono (hext2.trans hext3).imm) (fun e he => by rw [hsz]; exact hm.szs e he) (hm.den.mono (hext2.trans hext3).imm) fun j v hj => ?_
    show (withImm K r.b ((es.length + xs.length) * r.sz) arr').imm ⟨r.b, es.length * r.sz + j, none⟩ = some v
    have hjl := lt_of_some hj
    rw [withImm_in (by rw [Nat.add_mul, ← hnl]; omega)]
    exact hnew j v hj
  · rw [← hsz]; exact hk3

/-- into a new block -/
theorem extend_grow (hk : OkW K hc V w ow) {ts : Array TypeId} {ty elem : TypeId} {info : TypeInfo} (ht : AppTypes P ts elem info) {vx : Value} {xs : List D} {news : List Value} (hm : More P K info.size vx xs news) {es : List D} {base : Option Addr} {cap b o sz : Nat}
    (ha : es ≠ [] → base = some ⟨b, o, none⟩) (hsz : es ≠ [] → sz = info.size) (hcells : Cells K.imm b o sz es) (hcap : ¬ es.length + xs.length ≤ cap) (hroom : roomOk (es.length + xs.length) info.bytes = true) (hz : info.zero.map (fun v => v.cells.size) = some info.size) {id : Nat} (hid : hc id = none)
    (hnV : ∀ i, V i → i ≠ id) (hkeys : ∀ n', es.length + xs.length ≤ n' → K.key (.tip id n') = none) :
    ∃ u w' K' ow', (Builtin.append_ ts ty #[.slice base es.length cap, vx]).run P w = .ok u w' ∧ Kext K K' ∧ Den K' (.own (.tip id) (es ++ xs)) u ∧ OkW K' (upd hc id (some (.tip elem (es.length + xs.length) info.size))) V w' ow' := by
  obtain ⟨zv, hz1, hz2⟩ : ∃ zv, info.zero = some zv ∧ zv.cells.size = info.size := by
    cases hzz : info.zero with
    | none => rw [hzz] at hz; exact nomatch hz
    | some zv => rw [hzz] at hz; exact ⟨zv, rfl, Option.some.inj hz⟩
  obtain ⟨h1, vs, h2, h3⟩ := hcells
  have hszz : ∀ e, e ∈ es → e.cells.length = info.size := fun e he => by rw [h1 e he]; exact hsz (by rintro rfl; simp at he)
  have hvl : vs.length = es.length * info.size := by rw [h2.length, flat_length hszz]
  have hold : ∀ w : World, (∀ a c, K.imm a = some c → w.cell? a = some c) → (Builtin.firstCells info.size es.length (.slice base es.length cap)).run P w = .ok vs.toArray w := fun w hw => by
    by_cases hne : es = []
    · subst hne
      have : vs = [] := List.eq_nil_of_length_eq_zero (by simpa using hvl)
      subst this
      cases base <;> simp [Builtin.firstCells, loadCells, loadCellsFrom]
    · rw [ha hne]
      simp only [Builtin.firstCells]
      have := run_loadCells_row (P := P) (w := w) (b := b) (o := o) (n := es.length * info.size) (vs := vs) (by omega) fun j v hj => hw _ _ (h3 j v hj)
      rw [this, List.take_of_length_le (by omega)]
  obtain ⟨cap', rest, hrun, hc', hrl⟩ := run_append_grow (P := P) (w := w) (ty := ty) ht hm hk.imm hcap hroom hold hz1 hz2
  have hnl : news.length = xs.length * info.size := by rw [hm.den.length, flat_length hm.szs]
  let arr : Array Value := (vs ++ news ++ rest).toArray
  have hasz : arr.size = cap' * info.size := by
    have : (es.length + xs.length) * info.size + (cap' - (es.length + xs.length)) * info.size = cap' * info.size := by rw [← Nat.add_mul]; congr 1; omega
    rw [Nat.add_mul] at this
    simp [arr, hvl, hnl, hrl]; omega
  have hkd := hk.drew
  have hnone : ow w.drew.heap.size = none := hkd.not_own_new
  have hb := heap_pushW_new w.drew (.cells arr elem)
  obtain ⟨hk1, hext1⟩ := (hkd.push (.cells arr elem)).told (m := (es.length + xs.length) * info.size) hb hnone hkd.base_le
  let r : KRow := ⟨w.drew.heap.size, cap', info.size, elem⟩
  obtain ⟨ow', hext2, hk2⟩ := hk1.claim (r := r) (n := es.length + xs.length) hid hnV (fun n' hn' => hkeys n' hn') ⟨⟨arr, 0, 0, hb, by simp only [r]; omega, Nat.zero_le _⟩, fun off sp ho => by
    rw [withImm_above ho]
    cases hmm : K.imm ⟨w.drew.heap.size, off, sp⟩ with
    | none => rfl
    | some v =>
      obtain ⟨vs', e', f, g1, _⟩ := cell_block (hkd.imm _ _ hmm)
      have := lt_of_heap g1
      simp at this, hkd.base_le⟩ hnone
  refine ⟨_, _, _, ow', hrun, hext1.trans hext2, ?_, hk2⟩
  have hlen : (es ++ xs).length = es.length + xs.length := by simp
  have hd : Cells (withTip (withImm K w.drew.heap.size ((es.length + xs.length) * info.size) arr) id (es.length + xs.length) r).imm r.b 0 r.sz (es ++ xs) → Den (withTip (withImm K w.drew.heap.size ((es.length + xs.length) * info.size) arr) id (es.length + xs.length) r) (.own (.tip id) (es ++ xs)) (.slice (some ⟨r.b, 0, none⟩) (es.length + xs.length) r.cap) := fun h => by
    have := Den.tip id (es ++ xs) r (by rw [hlen]; exact withTip_key) (by rw [hlen]; exact hc') h
    rwa [hlen] at this
  refine hd ?_
  refine ⟨fun e he => (List.mem_append.1 he).elim (hszz e) (hm.szs e), vs ++ news, ?_, fun j v hj => ?_⟩
  · rw [List.flatMap_append]; exact (h2.append hm.den).mono (hext1.trans hext2).imm
  · show (withImm K w.drew.heap.size ((es.length + xs.length) * info.size) arr).imm ⟨w.drew.heap.size, 0 + j, none⟩ = some v
    have hjl := lt_of_some hj
    rw [Nat.zero_add, withImm_in (by rw [Nat.add_mul]; simp at hjl; omega)]
    simp only [arr, List.getElem?_toArray]
    rw [List.getElem?_append_left hjl]; exact hj

end
end Go.Proofs.YtobhpbnlbgbjaaaGreatDoor
