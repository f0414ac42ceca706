/- Worlds that fit an abstract heap, and what the steps of memory do to that. -/
import Derived.Test.YtobhpbnlbgbjaaaGreatDoorB
set_option linter.unusedSectionVars false
set_option linter.unusedSimpArgs false
set_option linter.unusedVariables false
namespace Go.Proofs.YtobhpbnlbgbjaaaGreatDoor
open Go Go.RowKit

inductive OKey where
  | box (id : Nat)
  | tip (id : Nat)
  | at (id off ver : Nat)
  | fr (id : Nat)

/-- behind n elements the row's block is free: nobody reads there -/
structure Free (K : KW) (w : World) (r : KRow) (n : Nat) : Prop where
  blk : ∃ vs lo hi, w.heap[r.b]? = some (.cells vs r.e (lo, hi)) ∧ r.cap * r.sz ≤ vs.size ∧ hi ≤ n * r.sz
  imm : ∀ off sp, n * r.sz ≤ off → K.imm ⟨r.b, off, sp⟩ = none
  base : ¬ K.base.old r.b

def CellOk (K : KW) (w : World) (ow : Nat → Option OKey) (id i ver : Nat) : AV → Prop
  | .own (.tip _) _ => False
  | .own (.at id' off' v' e) es => id' = id ∧ off' = i ∧ v' < ver ∧ ∃ r, K.key (.at id i v') = some r ∧ r.e = e ∧ Free K w r es.length ∧ ow r.b = some (.at id i v')
  | _ => True

structure BoxOk (K : KW) (w : World) (ow : Nat → Option OKey) (id : Nat) (e : TypeId) (cs : List AV) (ver b : Nat) (vs : Array Value) : Prop where
  blk : K.blk id = some b
  own : ow b = some (.box id)
  base : ¬ K.base.old b
  heap : w.heap[b]? = some (.cells vs e (0, 0))
  imm : ∀ off sp, K.imm ⟨b, off, sp⟩ = none
  den : DenL K cs vs.toList
  cell : ∀ i c, cs[i]? = some c → CellOk K w ow id i ver c
  under : undersL (id + 1) cs = true

/-- a map's entries, one by one -/
inductive EntL (K : KW) : List (D × AV × Nat) → List MapEntry → Prop where
  | nil : EntL K [] []
  | cons {k : D} {v : AV} {n : Nat} {key val : Value} {es : List (D × AV × Nat)} {ms : List MapEntry} : DenD K.imm k key → Den K v val → EntL K es ms → EntL K ((k, v, n) :: es) ({ key := key, val := val, born := n } :: ms)

theorem EntL.mono {K K' : KW} (hk : Kext K K') {es : List (D × AV × Nat)} {ms : List MapEntry} (h : EntL K es ms) : EntL K' es ms := by
  induction h with
  | nil => exact .nil
  | cons h1 h2 _ ih => exact .cons (h1.mono hk.imm) (h2.mono hk) ih

/-- what a free box, a map, an iterator stands for, in its block -/
inductive FreeAt (K : KW) (id : Nat) : AObj → Nat → Obj → Prop where
  | free (e : TypeId) (cs : List AV) (ver lim fz : Nat) (ex : Bool) (r : RRow) (vs : Array Value) (lo hi : Nat) (hr : K.row id ver = some r) (hsz : vs.size = r.o + r.n) (hle : cs.length ≤ r.n) (hd : DenL K cs ((vs.toList.drop r.o).take cs.length)) (hu : undersL lim cs = true)
      (hv : ∀ v, ver < v → K.row id v = none) (hfz : hi ≤ r.o + fz) (hex : ex = true → r.o = 0 ∧ r.n = cs.length) (hcl : cs.all AV.isCell = true) : FreeAt K id (.free e cs ver lim fz ex) r.b (.cells vs e (lo, hi))
  | mp (es : List (D × AV × Nat)) (clock lim b : Nat) (ms : Array MapEntry) (hb : K.blk id = some b) (hd : EntL K es ms.toList) (hu : undersL lim (es.map fun e => e.2.1) = true) : FreeAt K id (.mp es clock lim) b (.map ms clock)
  | sit (s : List UInt8) (pos b : Nat) (hb : K.blk id = some b) : FreeAt K id (.sit s pos) b (.stringIter ⟨s.toArray⟩ pos)
  | mit0 (b since last : Nat) (seen : List Nat) (hb : K.blk id = some b) : FreeAt K id (.mit none since seen last) b (.mapIter none since seen.toArray last)
  | mit (m b bm since last : Nat) (seen : List Nat) (hb : K.blk id = some b) (hm : K.blk m = some bm) : FreeAt K id (.mit (some m) since seen last) b (.mapIter (some bm) since seen.toArray last)

def AObj.isFr : AObj → Bool
  | .cells _ _ _ => false
  | .tip _ _ _ => false
  | _ => true

/-- the same, in a world -/
def FreeOk (K : KW) (w : World) (ow : Nat → Option OKey) (id : Nat) (o : AObj) : Prop :=
  ∃ b obj, FreeAt K id o b obj ∧ w.heap[b]? = some obj ∧ ow b = some (.fr id) ∧ ¬ K.base.old b ∧ ∀ off sp, K.imm ⟨b, off, sp⟩ = none

structure OkW (K : KW) (h : Nat → Option AObj) (V : Nat → Prop) (w : World) (ow : Nat → Option OKey) : Prop where
  imm : ∀ a c, K.imm a = some c → w.cell? a = some c
  below : BelowB K.base w
  box : ∀ id e cs ver, h id = some (.cells e cs ver) → ∃ b vs, BoxOk K w ow id e cs ver b vs
  tip : ∀ id e n sz, h id = some (.tip e n sz) → ∃ r, K.key (.tip id n) = some r ∧ r.e = e ∧ r.sz = sz ∧ Free K w r n ∧ ow r.b = some (.tip id)
  more : ∀ id e n sz, h id = some (.tip e n sz) → ∀ n', n < n' → K.key (.tip id n') = none
  fresh : ∀ id, V id → h id = none ∧ K.blk id = none ∧ (∀ n, K.key (.tip id n) = none) ∧ ∀ off v, K.key (.at id off v) = none
  ver : ∀ id e cs ver, h id = some (.cells e cs ver) → ∀ off v, ver ≤ v → K.key (.at id off v) = none
  own : ∀ b k, ow b = some k → b < w.heap.size
  fr : ∀ id o, h id = some o → o.isFr = true → FreeOk K w ow id o
  freshr : ∀ id, V id → ∀ v, K.row id v = none

theorem FreeAt.mono {K K' : KW} {id : Nat} (hk : Kext K K') (hrow : ∀ v, K'.row id v = K.row id v) {o : AObj} {b : Nat} {obj : Obj} (h : FreeAt K id o b obj) : FreeAt K' id o b obj := by
  cases h with
  | free e cs ver lim fz ex r vs lo hi hr hsz hle hd hu hv hfz hex hcl => exact .free e cs ver lim fz ex r vs lo hi ((hrow _).trans hr) hsz hle (hd.mono hk) hu (fun v h => (hrow v).trans (hv v h)) hfz hex hcl
  | mp es clock lim b ms hb hd hu => exact .mp es clock lim b ms (hk.blk _ _ hb) (hd.mono hk) hu
  | sit s pos b hb => exact .sit s pos b (hk.blk _ _ hb)
  | mit0 b since last seen hb => exact .mit0 b since last seen (hk.blk _ _ hb)
  | mit m b bm since last seen hb hm => exact .mit m b bm since last seen (hk.blk _ _ hb) (hk.blk _ _ hm)

theorem FreeOk.mono {K K' : KW} {w w' : World} {ow ow' : Nat → Option OKey} {id : Nat} {o : AObj} (h : FreeOk K w ow id o) (hk : Kext K K') (hrow : ∀ v, K'.row id v = K.row id v)
    (hb : ∀ b, ow b = some (.fr id) → w'.heap[b]? = w.heap[b]? ∧ ow' b = some (.fr id) ∧ ∀ off sp, K.imm ⟨b, off, sp⟩ = none → K'.imm ⟨b, off, sp⟩ = none) : FreeOk K' w' ow' id o := by
  obtain ⟨b, obj, h1, h2, h3, h4, h5⟩ := h
  obtain ⟨g1, g2, g3⟩ := hb b h3
  exact ⟨b, obj, h1.mono hk hrow, g1.trans h2, g2, hk.base ▸ h4, fun off sp => g3 off sp (h5 off sp)⟩

def Ok (K : KW) (h : Nat → Option AObj) (V : Nat → Prop) (w : World) : Prop := ∃ ow, OkW K h V w ow

theorem heap_pushW (w : World) (o : Obj) (b : Nat) (h : b < w.heap.size) : (w.alloc o).heap[b]? = w.heap[b]? := by
  show (w.heap.push o)[b]? = _
  simp only [Array.getElem?_push, if_neg (Nat.ne_of_lt h)]

theorem heap_pushW_new (w : World) (o : Obj) : (w.alloc o).heap[w.heap.size]? = some o := by
  show (w.heap.push o)[w.heap.size]? = _
  simp

theorem size_pushW (w : World) (o : Obj) : (w.alloc o).heap.size = w.heap.size + 1 := by simp

theorem lt_of_heap {w : World} {b : Nat} {o : Obj} (h : w.heap[b]? = some o) : b < w.heap.size := by
  rcases Nat.lt_or_ge b w.heap.size with h' | h'
  · exact h'
  · rw [Array.getElem?_eq_none h'] at h; exact nomatch h

theorem cell_block {w : World} {a : Addr} {v : Value} (h : w.cell? a = some v) : ∃ vs e f, w.heap[a.block]? = some (.cells vs e f) ∧ a.spot = none ∧ vs[a.off]? = some v := by
  unfold World.cell? at h
  split at h
  · rename_i c e f hc
    split at h
    · exact nomatch h
    · rename_i hs; refine ⟨c, e, f, hc, ?_, h⟩; simpa using hs
  · exact nomatch h

theorem cell_of {w : World} {b off : Nat} {vs : Array Value} {e : TypeId} {f : Nat × Nat} (h : w.heap[b]? = some (.cells vs e f)) : w.cell? ⟨b, off, none⟩ = vs[off]? := by
  simp [World.cell?, h]

theorem cell_same {w w' : World} {a : Addr} (h : w'.heap[a.block]? = w.heap[a.block]?) : w'.cell? a = w.cell? a := by
  simp only [World.cell?, h]

theorem Free.heap {K : KW} {w w' : World} {r : KRow} {n : Nat} (h : Free K w r n) (hb : w'.heap[r.b]? = w.heap[r.b]?) : Free K w' r n := by
  obtain ⟨⟨vs, lo, hi, h1, h2⟩, h3, h4⟩ := h
  exact ⟨⟨vs, lo, hi, hb ▸ h1, h2⟩, h3, h4⟩

theorem Free.lt {K : KW} {w : World} {r : KRow} {n : Nat} (h : Free K w r n) : r.b < w.heap.size := by
  obtain ⟨⟨vs, lo, hi, h1, h2⟩, h3, h4⟩ := h
  exact lt_of_heap h1

/-- the world may turn where nobody owns and nothing is told -/
theorem OkW.world {K : KW} {h : Nat → Option AObj} {V : Nat → Prop} {w w' : World} {ow : Nat → Option OKey} (hk : OkW K h V w ow)
    (hb : BelowB K.base w') (hsz : w.heap.size ≤ w'.heap.size) (hown : ∀ b k, ow b = some k → w'.heap[b]? = w.heap[b]?)
    (hi : ∀ a c, K.imm a = some c → w'.cell? a = some c) : OkW K h V w' ow where
  imm := hi
  below := hb
  box := fun id e cs ver hid => by
    obtain ⟨b, vs, hbox⟩ := hk.box id e cs ver hid
    refine ⟨b, vs, hbox.blk, hbox.own, hbox.base, ?_, hbox.imm, hbox.den, fun i c hc => ?_, hbox.under⟩
    · rw [hown _ _ hbox.own]; exact hbox.heap
    · have := hbox.cell i c hc
      unfold CellOk at this ⊢
      split at this
      · exact this
      · obtain ⟨h1, h2, h3, r, h4, h5, h6, h7⟩ := this
        exact ⟨h1, h2, h3, r, h4, h5, h6.heap (hown _ _ h7), h7⟩
      · trivial
  tip := fun id e n sz hid => by
    obtain ⟨r, h1, h2, h3, h4, h5⟩ := hk.tip id e n sz hid
    exact ⟨r, h1, h2, h3, h4.heap (hown _ _ h5), h5⟩
  more := hk.more
  fresh := hk.fresh
  ver := hk.ver
  own := fun b k hb => Nat.lt_of_lt_of_le (hk.own b k hb) hsz
  fr := fun id o hid ho => (hk.fr id o hid ho).mono (Kext.refl K) (fun _ => rfl) fun b hb => ⟨hown b _ hb, hb, fun _ _ h => h⟩
  freshr := hk.freshr

theorem OkW.base_le {K : KW} {h : Nat → Option AObj} {V : Nat → Prop} {w : World} {ow : Nat → Option OKey} (hk : OkW K h V w ow) : ¬ K.base.old w.heap.size := fun h => Nat.lt_irrefl _ (Nat.lt_of_lt_of_le (K.base.lt _ h) hk.below.size)

theorem OkW.push {K : KW} {h : Nat → Option AObj} {V : Nat → Prop} {w : World} {ow : Nat → Option OKey} (hk : OkW K h V w ow) (o : Obj) : OkW K h V (w.alloc o) ow :=
  hk.world (hk.below.alloc o) (by rw [size_pushW]; omega) (fun b k hb => heap_pushW _ _ _ (hk.own b k hb)) fun a c ha => by
    have := hk.imm a c ha
    obtain ⟨vs, e, f, h1, _⟩ := cell_block this
    rw [cell_same (heap_pushW _ _ _ (lt_of_heap h1))]; exact this

theorem OkW.drew {K : KW} {h : Nat → Option AObj} {V : Nat → Prop} {w : World} {ow : Nat → Option OKey} (hk : OkW K h V w ow) : OkW K h V w.drew ow :=
  hk.world (hk.below.step rfl rfl rfl ⟨Nat.le_refl _, fun _ _ => rfl⟩) (Nat.le_refl _) (fun _ _ _ => rfl) fun a c ha => hk.imm a c ha

theorem Ok.drew {K : KW} {h : Nat → Option AObj} {V : Nat → Prop} {w : World} (hk : Ok K h V w) : Ok K h V w.drew := by
  obtain ⟨ow, hk⟩ := hk
  exact ⟨ow, hk.drew⟩

theorem OkW.virgin {K : KW} {h : Nat → Option AObj} {V V' : Nat → Prop} {w : World} {ow : Nat → Option OKey} (hk : OkW K h V w ow) (hv : ∀ id, V' id → V id) : OkW K h V' w ow :=
  ⟨hk.imm, hk.below, hk.box, hk.tip, hk.more, fun id h => hk.fresh id (hv id h), hk.ver, hk.own, hk.fr, fun id h => hk.freshr id (hv id h)⟩

theorem Ok.virgin {K : KW} {h : Nat → Option AObj} {V V' : Nat → Prop} {w : World} (hk : Ok K h V w) (hv : ∀ id, V' id → V id) : Ok K h V' w := by
  obtain ⟨ow, hk⟩ := hk
  exact ⟨ow, hk.virgin hv⟩

/-- what is told of a block's first m cells -/
def withImm (K : KW) (b m : Nat) (vs : Array Value) : KW :=
  { K with imm := fun a => if a.block = b ∧ a.spot = none ∧ a.off < m then vs[a.off]? else K.imm a }

theorem withImm_in {K : KW} {b m : Nat} {vs : Array Value} {off : Nat} (h : off < m) : (withImm K b m vs).imm ⟨b, off, none⟩ = vs[off]? := by simp [withImm, h]

theorem withImm_out {K : KW} {b m : Nat} {vs : Array Value} {a : Addr} (h : a.block ≠ b) : (withImm K b m vs).imm a = K.imm a := by simp [withImm, h]

theorem withImm_above {K : KW} {b m : Nat} {vs : Array Value} {off : Nat} {sp : Option Nat} (h : m ≤ off) : (withImm K b m vs).imm ⟨b, off, sp⟩ = K.imm ⟨b, off, sp⟩ := by
  simp only [withImm]; rw [if_neg (by simp; omega)]

theorem Kext.withImm {K : KW} {b m : Nat} {vs : Array Value} (hb : ¬ K.base.old b) (h : ∀ off v, off < m → K.imm ⟨b, off, none⟩ = some v → vs[off]? = some v) : Kext K (withImm K b m vs) where
  base := rfl
  imm := fun a v ha => by
    simp only [YtobhpbnlbgbjaaaGreatDoor.withImm]
    split
    · rename_i hc
      obtain ⟨h1, h2, h3⟩ := hc
      obtain ⟨ab, ao, asp⟩ := a
      simp only at h1 h2 h3
      subst h1; subst h2
      exact h _ _ h3 ha
    · exact ha
  blk := fun _ _ h => h
  key := fun _ _ h => h
  old := fun a ha => withImm_out (by intro e; exact hb (e ▸ ha))
  row := fun _ _ _ h => h

theorem CellOk.mono {K K' : KW} {w w' : World} {ow ow' : Nat → Option OKey} {id i ver ver' : Nat} {c : AV} (hk : Kext K K') (h : CellOk K w ow id i ver c) (hv : ver ≤ ver')
    (hf : ∀ r n v, Free K w r n → ow r.b = some (.at id i v) → Free K' w' r n ∧ ow' r.b = some (.at id i v)) : CellOk K' w' ow' id i ver' c := by
  unfold CellOk at h ⊢
  split at h
  · exact h
  · obtain ⟨h1, h2, h3, r, h4, h5, h6, h7⟩ := h
    obtain ⟨h8, h9⟩ := hf _ _ _ h6 h7
    exact ⟨h1, h2, by omega, r, hk.key _ _ h4, h5, h8, h9⟩
  · trivial

/-- the first m cells of a block that nobody owns stay as they are from now on -/
theorem OkW.told {K : KW} {h : Nat → Option AObj} {V : Nat → Prop} {w : World} {ow : Nat → Option OKey} (hk : OkW K h V w ow) {b m : Nat} {vs : Array Value} {e : TypeId} {f : Nat × Nat}
    (hb : w.heap[b]? = some (.cells vs e f)) (hn : ow b = none) (hbase : ¬ K.base.old b) : OkW (withImm K b m vs) h V w ow ∧ Kext K (withImm K b m vs) := by
  have hext : Kext K (withImm K b m vs) := Kext.withImm hbase fun off v _ hv => by
    have := hk.imm _ _ hv
    rwa [cell_of hb] at this
  have hne : ∀ b' k, ow b' = some k → b' ≠ b := fun b' k h1 h2 => by rw [h2, hn] at h1; exact nomatch h1
  have hfree : ∀ r n k, Free K w r n → ow r.b = some k → Free (withImm K b m vs) w r n := fun r n k hf ho =>
    ⟨hf.blk, fun off sp ho' => by rw [withImm_out (hne _ _ ho)]; exact hf.imm off sp ho', hf.base⟩
  refine ⟨⟨fun a c ha => ?_, hk.below, fun id e cs ver hid => ?_, fun id e n sz hid => ?_, hk.more, hk.fresh, hk.ver, hk.own, fun id o hid ho => (hk.fr id o hid ho).mono hext (fun _ => rfl) fun b' hb' => ⟨rfl, hb', fun off sp h => by rw [withImm_out (hne _ _ hb')]; exact h⟩, hk.freshr⟩, hext⟩
  · simp only [withImm] at ha
    split at ha
    · rename_i hc
      obtain ⟨h1, h2, h3⟩ := hc
      obtain ⟨ab, ao, asp⟩ := a
      simp only at h1 h2 h3 ha
      subst h1; subst h2
      rw [cell_of hb]; exact ha
    · exact hk.imm a c ha
  · obtain ⟨b', vs', hbox⟩ := hk.box id e cs ver hid
    exact ⟨b', vs', hbox.blk, hbox.own, hbox.base, hbox.heap, fun off sp => by rw [withImm_out (hne _ _ hbox.own)]; exact hbox.imm off sp, hbox.den.mono hext,
      fun i c hc => (hbox.cell i c hc).mono hext (Nat.le_refl _) fun r n v hf ho => ⟨hfree r n _ hf ho, ho⟩, hbox.under⟩
  · obtain ⟨r, h1, h2, h3, h4, h5⟩ := hk.tip id e n sz hid
    exact ⟨r, h1, h2, h3, hfree r n _ h4 h5, h5⟩

/-- a new block, all of whose cells stay as they are -/
theorem OkW.row {K : KW} {h : Nat → Option AObj} {V : Nat → Prop} {w : World} {ow : Nat → Option OKey} (hk : OkW K h V w ow) (vs : Array Value) (e : TypeId) :
    OkW (withImm K w.heap.size vs.size vs) h V (w.alloc (.cells vs e)) ow ∧ Kext K (withImm K w.heap.size vs.size vs) := by
  have hn : ow w.heap.size = none := by
    cases ho : ow w.heap.size with
    | none => rfl
    | some k => have := hk.own _ _ ho; omega
  exact (hk.push (.cells vs e)).told (heap_pushW_new w _) hn hk.base_le

def withBlk (K : KW) (id b : Nat) : KW := { K with blk := fun i => if i = id then some b else K.blk i }
def withKey (K : KW) (k : Key → Option KRow) : KW := { K with key := fun x => match k x with | some r => some r | none => K.key x }
def withTip (K : KW) (id n : Nat) (r : KRow) : KW := withKey K fun | .tip i m => if i = id ∧ m = n then some r else none | _ => none
def withAt (K : KW) (id off ver : Nat) (r : KRow) : KW := withKey K fun | .at i o v => if i = id ∧ o = off ∧ v = ver then some r else none | _ => none

theorem kext_withBlk {K : KW} {id b : Nat} (h : K.blk id = none) : Kext K (withBlk K id b) where
  base := rfl
  imm := fun _ _ h => h
  blk := fun i b' hb => by
    simp only [withBlk]
    split
    · rename_i e; rw [e, h] at hb; exact nomatch hb
    · exact hb
  key := fun _ _ h => h
  old := fun _ _ => rfl
  row := fun _ _ _ h => h

theorem kext_withTip {K : KW} {id n : Nat} {r : KRow} (h : K.key (.tip id n) = none) : Kext K (withTip K id n r) where
  base := rfl
  imm := fun _ _ h => h
  blk := fun _ _ h => h
  key := fun k r' hr => by
    cases k with
    | tip i m =>
      simp only [withTip, withKey]
      by_cases e : i = id ∧ m = n
      · obtain ⟨rfl, rfl⟩ := e; rw [h] at hr; exact nomatch hr
      · simpa [e] using hr
    | «at» i o v => simpa [withTip, withKey] using hr
  old := fun _ _ => rfl
  row := fun _ _ _ h => h

theorem kext_withAt {K : KW} {id off ver : Nat} {r : KRow} (h : K.key (.at id off ver) = none) : Kext K (withAt K id off ver r) where
  base := rfl
  imm := fun _ _ h => h
  blk := fun _ _ h => h
  key := fun k r' hr => by
    cases k with
    | tip i m => simpa [withAt, withKey] using hr
    | «at» i o v =>
      simp only [withAt, withKey]
      by_cases e : i = id ∧ o = off ∧ v = ver
      · obtain ⟨rfl, rfl, rfl⟩ := e; rw [h] at hr; exact nomatch hr
      · simpa [e] using hr
  old := fun _ _ => rfl
  row := fun _ _ _ h => h

theorem withTip_key {K : KW} {id n : Nat} {r : KRow} : (withTip K id n r).key (.tip id n) = some r := by simp [withTip, withKey]
theorem withAt_key {K : KW} {id off ver : Nat} {r : KRow} : (withAt K id off ver r).key (.at id off ver) = some r := by simp [withAt, withKey]

def upd (h : Nat → Option AObj) (id : Nat) (o : Option AObj) : Nat → Option AObj := fun i => if i = id then o else h i

theorem upd_same (h : Nat → Option AObj) (id : Nat) (o : Option AObj) : upd h id o id = o := by simp [upd]
theorem upd_ne {h : Nat → Option AObj} {id i : Nat} {o : Option AObj} (hi : i ≠ id) : upd h id o i = h i := by simp [upd, hi]

theorem Free.ext {K K' : KW} {w : World} {r : KRow} {n : Nat} (h : Free K w r n) (hb : K'.base = K.base) (hi : ∀ off sp, n * r.sz ≤ off → K'.imm ⟨r.b, off, sp⟩ = none) : Free K' w r n :=
  ⟨h.blk, hi, hb ▸ h.base⟩

/-- a new box -/
theorem OkW.newBox {K : KW} {h : Nat → Option AObj} {V : Nat → Prop} {w : World} {ow : Nat → Option OKey} (hk : OkW K h V w ow) {id : Nat} (hv : V id) {e : TypeId} {cs : List AV} {vs : Array Value}
    (hd : DenL K cs vs.toList) (hc : ∀ (i : Nat) (c : AV), cs[i]? = some c → (∀ j es, c ≠ AV.own (.tip j) es) ∧ ∀ a b d f es, c ≠ AV.own (.at a b d f) es) (hu : undersL (id + 1) cs = true) :
    ∃ ow', OkW (withBlk K id w.heap.size) (upd h id (some (.cells e cs 0))) (fun i => V i ∧ i ≠ id) (w.alloc (.cells vs e)) ow' ∧ Kext K (withBlk K id w.heap.size) := by
  obtain ⟨f1, f2, f3, f4⟩ := hk.fresh id hv
  have hext := kext_withBlk (b := w.heap.size) f2
  have hp := hk.push (.cells vs e)
  have hne : ∀ b' k, ow b' = some k → b' ≠ w.heap.size := fun b' k h1 => by have := hk.own b' k h1; omega
  let ow' : Nat → Option OKey := fun b => if b = w.heap.size then some (.box id) else ow b
  have how : ∀ b' k, ow b' = some k → ow' b' = some k := fun b' k h1 => by simp [ow', hne b' k h1, h1]
  refine ⟨ow', ⟨hp.imm, hp.below, fun id' e' cs' ver' hid => ?_, fun id' e' n sz hid => ?_, fun id' e' n sz hid => ?_, fun id' hv' => ?_, fun id' e' cs' ver' hid => ?_, fun b k hb => ?_, fun id' o hid ho => ?_, fun id' hv' => hk.freshr id' hv'.1⟩, hext⟩
  · by_cases hi : id' = id
    · subst hi
      rw [upd_same] at hid
      cases hid
      refine ⟨w.heap.size, vs, by simp [withBlk], by simp [ow'], hk.base_le, heap_pushW_new _ _, fun off sp => ?_, hd.mono hext, fun i c hi => ?_, hu⟩
      · cases hm : K.imm ⟨w.heap.size, off, sp⟩ with
        | none => exact hm
        | some v =>
          have := hk.imm _ _ hm
          obtain ⟨vs, e, f, h1, _⟩ := cell_block this
          have := lt_of_heap h1
          simp at this
      · have := hc i c hi
        unfold CellOk
        split
        · rename_i j es; exact this.1 j es rfl
        · rename_i a b d f es; exact (this.2 a b d f es rfl).elim
        · trivial
    · rw [upd_ne hi] at hid
      obtain ⟨b, vs', hbox⟩ := hp.box id' e' cs' ver' hid
      refine ⟨b, vs', hext.blk _ _ hbox.blk, how _ _ hbox.own, hbox.base, hbox.heap, hbox.imm, hbox.den.mono hext, fun i c hi => ?_, hbox.under⟩
      exact (hbox.cell i c hi).mono hext (Nat.le_refl _) fun r n v hf ho => ⟨⟨hf.blk, hf.imm, hf.base⟩, how _ _ ho⟩
  · by_cases hi : id' = id
    · subst hi; rw [upd_same] at hid; exact nomatch hid
    · rw [upd_ne hi] at hid
      obtain ⟨r, h1, h2, h3, h4, h5⟩ := hp.tip id' e' n sz hid
      exact ⟨r, h1, h2, h3, ⟨h4.blk, h4.imm, h4.base⟩, how _ _ h5⟩
  · by_cases hi : id' = id
    · subst hi; rw [upd_same] at hid; exact nomatch hid
    · rw [upd_ne hi] at hid; exact hk.more id' e' n sz hid
  · obtain ⟨g1, g2, g3, g4⟩ := hk.fresh id' hv'.1
    exact ⟨by rw [upd_ne hv'.2]; exact g1, by simp [withBlk, hv'.2, g2], g3, g4⟩
  · by_cases hi : id' = id
    · subst hi; rw [upd_same] at hid; cases hid; exact fun off v _ => f4 off v
    · rw [upd_ne hi] at hid; exact hk.ver id' e' cs' ver' hid
  · simp only [ow'] at hb
    rw [size_pushW]
    split at hb
    · omega
    · have := hk.own b k hb; omega
  · by_cases hi : id' = id
    · subst hi; rw [upd_same] at hid; cases hid; cases ho
    · rw [upd_ne hi] at hid
      exact (hp.fr id' o hid ho).mono hext (fun _ => rfl) fun b hb => ⟨rfl, how _ _ hb, fun _ _ h => h⟩

end Go.Proofs.YtobhpbnlbgbjaaaGreatDoor
