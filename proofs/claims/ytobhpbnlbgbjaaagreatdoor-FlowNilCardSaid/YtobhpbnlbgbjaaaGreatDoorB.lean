/- What abstract values stand for in memory, and that it stays so when memory grows. -/
import Derived.Test.YtobhpbnlbgbjaaaGreatDoorA
import Derived.Below
set_option linter.unusedSectionVars false
set_option linter.unusedSimpArgs false
set_option linter.unusedVariables false
namespace Go.Proofs.YtobhpbnlbgbjaaaGreatDoor
open Go Go.RowKit

abbrev Imm := Addr → Option Value

inductive DenD (imm : Imm) : D → Value → Prop where
  | bool (b : Bool) : DenD imm (.bool b) (.bool b)
  | int (k : IntKind) (n : Int) : DenD imm (.int k n) (.int k n)
  | str (s : List UInt8) : DenD imm (.str s) (.string ⟨s.toArray⟩)
  | nils : DenD imm .nils (.slice none 0 0)
  | slice (es : List D) (a : Addr) (cap b o sz : Nat) (vs : List Value) (hcap : es.length ≤ cap) (ha : es ≠ [] → a = ⟨b, o, none⟩) (hsz : ∀ e, e ∈ es → e.cells.length = sz)
      (hl : vs.length = (es.flatMap D.cells).length) (hv : ∀ (j : Nat) (v : Value), vs[j]? = some v → imm ⟨b, o + j, none⟩ = some v)
      (h : ∀ (j : Nat) (d : D) (v : Value), (es.flatMap D.cells)[j]? = some d → vs[j]? = some v → DenD imm d v) : DenD imm (.slice es) (.slice (some a) es.length cap)
  | agg (cs : List D) (vs : Array Value) (hl : vs.toList.length = cs.length) (h : ∀ (j : Nat) (d : D) (v : Value), cs[j]? = some d → vs.toList[j]? = some v → DenD imm d v) : DenD imm (.agg cs) (.agg vs)

/-- lists of data and of values, place by place -/
inductive DenDL (imm : Imm) : List D → List Value → Prop where
  | nil : DenDL imm [] []
  | cons {d : D} {v : Value} {ds : List D} {vs : List Value} : DenD imm d v → DenDL imm ds vs → DenDL imm (d :: ds) (v :: vs)

theorem DenDL.of_index {imm : Imm} : ∀ {ds : List D} {vs : List Value}, vs.length = ds.length → (∀ (j : Nat) (d : D) (v : Value), ds[j]? = some d → vs[j]? = some v → DenD imm d v) → DenDL imm ds vs
  | [], [], _, _ => .nil
  | [], _ :: _, h, _ => by simp at h
  | _ :: _, [], h, _ => by simp at h
  | d :: ds, v :: vs, h, hi => .cons (hi 0 d v rfl rfl) (DenDL.of_index (by simpa using h) fun j d' v' h1 h2 => hi (j + 1) d' v' (by simpa using h1) (by simpa using h2))

theorem DenDL.length {imm : Imm} {ds : List D} {vs : List Value} (h : DenDL imm ds vs) : vs.length = ds.length := by induction h <;> simp [*]

theorem DenDL.index {imm : Imm} {ds : List D} {vs : List Value} (h : DenDL imm ds vs) : ∀ (j : Nat) (d : D) (v : Value), ds[j]? = some d → vs[j]? = some v → DenD imm d v := by
  induction h with
  | nil => intro j d v h; simp at h
  | cons hd _ ih =>
    intro j d v h1 h2
    cases j with
    | zero => simp at h1 h2; subst h1; subst h2; exact hd
    | succ j => exact ih j d v (by simpa using h1) (by simpa using h2)

theorem DenDL.append {imm : Imm} {a b : List D} {v w : List Value} (h : DenDL imm a v) (k : DenDL imm b w) : DenDL imm (a ++ b) (v ++ w) := by
  induction h with
  | nil => simpa using k
  | cons hd _ ih => exact .cons hd ih

theorem DenDL.drop {imm : Imm} : ∀ (n : Nat) {a : List D} {v : List Value}, DenDL imm a v → DenDL imm (a.drop n) (v.drop n)
  | 0, _, _, h => by simpa using h
  | _ + 1, _, _, .nil => by simpa using DenDL.nil
  | n + 1, _, _, .cons _ h => by simpa using DenDL.drop n h

theorem DenDL.take {imm : Imm} : ∀ (n : Nat) {a : List D} {v : List Value}, DenDL imm a v → DenDL imm (a.take n) (v.take n)
  | 0, _, _, _ => by simpa using DenDL.nil
  | _ + 1, _, _, .nil => by simpa using DenDL.nil
  | n + 1, _, _, .cons hd h => by simpa using DenDL.cons hd (DenDL.take n h)

theorem DenD.mono {imm imm' : Imm} (hi : ∀ a v, imm a = some v → imm' a = some v) {d : D} {v : Value} (h : DenD imm d v) : DenD imm' d v := by
  induction h with
  | bool b => exact .bool b
  | int k n => exact .int k n
  | str s => exact .str s
  | nils => exact .nils
  | slice es a cap b o sz vs hcap ha hsz hl hv _ ih => exact .slice es a cap b o sz vs hcap ha hsz hl (fun j v h => hi _ _ (hv j v h)) ih
  | agg cs vs hl _ ih => exact .agg cs vs hl ih

theorem DenDL.mono {imm imm' : Imm} (hi : ∀ a v, imm a = some v → imm' a = some v) {d : List D} {v : List Value} (h : DenDL imm d v) : DenDL imm' d v := by
  induction h with
  | nil => exact .nil
  | cons hd _ ih => exact .cons (hd.mono hi) ih

/-- elements that lie one behind the other, each of this many cells -/
def Cells (imm : Imm) (b o sz : Nat) (es : List D) : Prop :=
  (∀ e, e ∈ es → e.cells.length = sz) ∧ ∃ vs : List Value, DenDL imm (es.flatMap D.cells) vs ∧ ∀ (j : Nat) (v : Value), vs[j]? = some v → imm ⟨b, o + j, none⟩ = some v

theorem Cells.mono {imm imm' : Imm} (hi : ∀ a v, imm a = some v → imm' a = some v) {b o sz : Nat} {es : List D} (h : Cells imm b o sz es) : Cells imm' b o sz es := by
  obtain ⟨h1, vs, h2, h3⟩ := h
  exact ⟨h1, vs, h2.mono hi, fun j v hv => hi _ _ (h3 j v hv)⟩

theorem flat_length {sz : Nat} : ∀ {es : List D}, (∀ e, e ∈ es → e.cells.length = sz) → (es.flatMap D.cells).length = es.length * sz
  | [], _ => by simp
  | e :: es, h => by
    have h1 := h e (by simp)
    have h2 := flat_length (es := es) fun x hx => h x (by simp [hx])
    simp only [List.flatMap_cons, List.length_append, List.length_cons, h1, h2, Nat.succ_mul]; omega

theorem DenD.slice_cells {imm : Imm} {es : List D} {v : Value} (h : DenD imm (.slice es) v) :
    ∃ a cap b o sz, v = .slice (some a) es.length cap ∧ es.length ≤ cap ∧ (es ≠ [] → a = ⟨b, o, none⟩) ∧ Cells imm b o sz es := by
  cases h with
  | slice _ a cap b o sz vs hcap ha hsz hl hv h => exact ⟨a, cap, b, o, sz, rfl, hcap, ha, hsz, vs, DenDL.of_index hl h, hv⟩

theorem DenD.of_cells {imm : Imm} {es : List D} {a : Addr} {cap b o sz : Nat} (hcap : es.length ≤ cap) (ha : es ≠ [] → a = ⟨b, o, none⟩) (h : Cells imm b o sz es) : DenD imm (.slice es) (.slice (some a) es.length cap) := by
  obtain ⟨h1, vs, h2, h3⟩ := h
  exact .slice es a cap b o sz vs hcap ha h1 h2.length h3 h2.index

theorem DenD.agg_list {imm : Imm} {cs : List D} {v : Value} (h : DenD imm (.agg cs) v) : ∃ vs, v = .agg vs ∧ DenDL imm cs vs.toList := by
  cases h with
  | agg _ vs hl h => exact ⟨vs, rfl, DenDL.of_index hl h⟩

theorem DenD.of_agg {imm : Imm} {cs : List D} {vs : Array Value} (h : DenDL imm cs vs.toList) : DenD imm (.agg cs) (.agg vs) := .agg cs vs h.length h.index

/-- elements from one on, and so many of them -/
theorem Cells.drop {imm : Imm} {b o sz : Nat} {es : List D} (n : Nat) (h : Cells imm b o sz es) (hn : n ≤ es.length) : Cells imm b (o + n * sz) sz (es.drop n) := by
  obtain ⟨h1, vs, h2, h3⟩ := h
  refine ⟨fun e he => h1 e (List.mem_of_mem_drop he), vs.drop (n * sz), ?_, fun j v hv => ?_⟩
  · have : (es.drop n).flatMap D.cells = (es.flatMap D.cells).drop (n * sz) := by
      have e : es.flatMap D.cells = (es.take n).flatMap D.cells ++ (es.drop n).flatMap D.cells := by rw [← List.flatMap_append, List.take_append_drop]
      have hl : ((es.take n).flatMap D.cells).length = n * sz := by rw [flat_length fun x hx => h1 x (List.mem_of_mem_take hx)]; simp [Nat.min_eq_left hn]
      rw [e, List.drop_append_of_le_length (by omega), ← hl, List.drop_length, List.nil_append]
    rw [this]; exact h2.drop _
  · rw [List.getElem?_drop] at hv
    have := h3 _ v hv
    rwa [← Nat.add_assoc] at this

theorem Cells.take {imm : Imm} {b o sz : Nat} {es : List D} (n : Nat) (h : Cells imm b o sz es) (hn : n ≤ es.length) : Cells imm b o sz (es.take n) := by
  obtain ⟨h1, vs, h2, h3⟩ := h
  refine ⟨fun e he => h1 e (List.mem_of_mem_take he), vs.take (n * sz), ?_, fun j v hv => ?_⟩
  · have : (es.take n).flatMap D.cells = (es.flatMap D.cells).take (n * sz) := by
      have e : es.flatMap D.cells = (es.take n).flatMap D.cells ++ (es.drop n).flatMap D.cells := by rw [← List.flatMap_append, List.take_append_drop]
      have hl : ((es.take n).flatMap D.cells).length = n * sz := by rw [flat_length fun x hx => h1 x (List.mem_of_mem_take hx)]; simp [Nat.min_eq_left hn]
      rw [e, List.take_append_of_le_length (by omega), ← hl, List.take_length]
    rw [this]; exact h2.take _
  · rw [List.getElem?_take] at hv
    split at hv
    · exact h3 _ v hv
    · exact nomatch hv

/-- where one element lies -/
theorem Cells.elem {imm : Imm} {b o sz : Nat} {es : List D} (h : Cells imm b o sz es) {i : Nat} {e : D} (he : es[i]? = some e) :
    e.cells.length = sz ∧ ∃ vs, DenDL imm e.cells vs ∧ ∀ (j : Nat) (v : Value), vs[j]? = some v → imm ⟨b, o + i * sz + j, none⟩ = some v := by
  have hi : i < es.length := by
    rcases Nat.lt_or_ge i es.length with h | h
    · exact h
    · rw [List.getElem?_eq_none h] at he; exact nomatch he
  have h' := h.drop i (by omega)
  obtain ⟨h1, vs, h2, h3⟩ := h'
  have hd : es.drop i = e :: es.drop (i + 1) := by
    rw [List.drop_eq_getElem_cons hi]
    congr 1
    rw [List.getElem?_eq_getElem hi] at he
    exact Option.some.inj he
  have hsz : e.cells.length = sz := h1 e (by rw [hd]; simp)
  refine ⟨hsz, vs.take sz, ?_, fun j v hv => ?_⟩
  · have := h2.take sz
    rw [hd, List.flatMap_cons, List.take_append_of_le_length (by omega), ← hsz, List.take_length] at this
    rw [← hsz]; exact this
  · rw [List.getElem?_take] at hv
    split at hv
    · exact h3 _ v hv
    · exact nomatch hv

inductive Key where
  | tip (id n : Nat)
  | at (id off ver : Nat)

/-- a growing slice's row: its block, the capacity, an element's cells, the block's element type -/
structure KRow where
  b : Nat
  cap : Nat
  sz : Nat
  e : TypeId

/-- a free box's cells at a version of it: its block, from where on, and how many to the block's end -/
structure RRow where
  b : Nat
  o : Nat
  n : Nat

/-- a world, and which of its blocks stay as they are -/
structure Base where
  w : World
  old : Nat → Prop
  lt : ∀ b, old b → b < w.heap.size

/-- what is old is as it was -/
structure BelowB (B : Base) (w : World) : Prop where
  os : w.os = B.w.os
  tape : w.tape = B.w.tape
  output : w.output = B.w.output
  size : B.w.heap.size ≤ w.heap.size
  block : ∀ k, B.old k → w.heap[k]? = B.w.heap[k]?

theorem BelowB.trans {B : Base} {b c : World} (h : BelowB B b) (k : Below b.heap.size b c ∨ (c.os = b.os ∧ c.tape = b.tape ∧ c.output = b.output ∧ b.heap.size ≤ c.heap.size ∧ ∀ k, B.old k → c.heap[k]? = b.heap[k]?)) : BelowB B c := by
  rcases k with k | ⟨k1, k2, k3, k4, k5⟩
  · exact ⟨k.os.trans h.os, k.tape.trans h.tape, k.output.trans h.output, Nat.le_trans h.size k.size, fun i hi => (k.block i (Nat.lt_of_lt_of_le (B.lt i hi) h.size)).trans (h.block i hi)⟩
  · exact ⟨k1.trans h.os, k2.trans h.tape, k3.trans h.output, Nat.le_trans h.size k4, fun i hi => (k5 i hi).trans (h.block i hi)⟩
theorem BelowB.step {B : Base} {b c : World} (h : BelowB B b) (k1 : c.os = b.os) (k2 : c.tape = b.tape) (k3 : c.output = b.output) (k : b.heap.size ≤ c.heap.size ∧ ∀ k, B.old k → c.heap[k]? = b.heap[k]?) : BelowB B c :=
  h.trans (.inr ⟨k1, k2, k3, k.1, k.2⟩)
theorem BelowB.alloc {B : Base} {w : World} (h : BelowB B w) (o : Obj) : BelowB B (w.alloc o) :=
  h.trans (.inl ((Below.refl _ _).alloc (Nat.le_refl _) o))

/-- all that there is, is old -/
def Base.all (w : World) : Base := ⟨w, fun b => b < w.heap.size, fun _ h => h⟩
theorem BelowB.refl (B : Base) : BelowB B B.w := ⟨rfl, rfl, rfl, Nat.le_refl _, fun _ _ => rfl⟩
theorem BelowB.below {w w' : World} (h : BelowB (.all w) w') : Below w.heap.size w w' := ⟨h.os, h.tape, h.output, h.size, h.block⟩

structure KW where
  base : Base
  imm : Imm
  blk : Nat → Option Nat
  key : Key → Option KRow
  row : Nat → Nat → Option RRow

structure Kext (K K' : KW) : Prop where
  base : K'.base = K.base
  imm : ∀ a v, K.imm a = some v → K'.imm a = some v
  blk : ∀ i b, K.blk i = some b → K'.blk i = some b
  key : ∀ k r, K.key k = some r → K'.key k = some r
  old : ∀ a, K.base.old a.block → K'.imm a = K.imm a
  row : ∀ i v r, K.row i v = some r → K'.row i v = some r

theorem Kext.refl (K : KW) : Kext K K := ⟨rfl, fun _ _ h => h, fun _ _ h => h, fun _ _ h => h, fun _ _ => rfl, fun _ _ _ h => h⟩
theorem Kext.trans {a b c : KW} (h : Kext a b) (k : Kext b c) : Kext a c :=
  ⟨k.base.trans h.base, fun x y z => k.imm x y (h.imm x y z), fun x y z => k.blk x y (h.blk x y z), fun x y z => k.key x y (h.key x y z), fun x z => (k.old x (h.base ▸ z)).trans (h.old x z), fun x y r z => k.row x y r (h.row x y r z)⟩

inductive Den (K : KW) : AV → Value → Prop where
  | dat {d : D} {v : Value} (h : DenD K.imm d v) : Den K (.dat d) v
  | full (es : List D) (a : Addr) (b o sz : Nat) (ha : es ≠ [] → a = ⟨b, o, none⟩) (h : Cells K.imm b o sz es) : Den K (.own .full es) (.slice (some a) es.length es.length)
  | tip (id : Nat) (es : List D) (r : KRow) (hr : K.key (.tip id es.length) = some r) (hcap : es.length ≤ r.cap) (h : Cells K.imm r.b 0 r.sz es) : Den K (.own (.tip id) es) (.slice (some ⟨r.b, 0, none⟩) es.length r.cap)
  | at (id off ver : Nat) (es : List D) (r : KRow) (hr : K.key (.at id off ver) = some r) (hcap : es.length ≤ r.cap) (h : Cells K.imm r.b 0 r.sz es) : Den K (.own (.at id off ver r.e) es) (.slice (some ⟨r.b, 0, none⟩) es.length r.cap)
  | pnil : Den K (.ptr none) (.pointer none)
  | ptr (id off b : Nat) (h : K.blk id = some b) : Den K (.ptr (some (id, off))) (.pointer (some ⟨b, off, none⟩))
  | ep (cs : List D) (off b o : Nat) (vs : List Value) (h : DenDL K.imm cs vs) (hv : ∀ (j : Nat) (v : Value), vs[j]? = some v → K.imm ⟨b, o + j, none⟩ = some v) : Den K (.ep cs off) (.pointer (some ⟨b, o + off, none⟩))
  | func (fn : Fn) (a c : List AV) (va vc : Array Value) (hla : va.toList.length = a.length) (ha : ∀ (j : Nat) (x : AV) (v : Value), a[j]? = some x → va.toList[j]? = some v → Den K x v)
      (hlc : vc.toList.length = c.length) (hc : ∀ (j : Nat) (x : AV) (v : Value), c[j]? = some x → vc.toList[j]? = some v → Den K x v) : Den K (.func fn a c) (.func fn va vc)
  | nilFunc : Den K .nilFunc .nilFunc
  | iface (t : TypeId) {x : AV} {v : Value} (h : Den K x v) : Den K (.iface t x) (.iface t v)
  | nilIface : Den K .nilIface .nilIface
  | agg (cs : List AV) (vs : Array Value) (hl : vs.toList.length = cs.length) (h : ∀ (j : Nat) (x : AV) (v : Value), cs[j]? = some x → vs.toList[j]? = some v → Den K x v) : Den K (.agg cs) (.agg vs)
  | tuple (cs : List AV) (vs : Array Value) (hl : vs.toList.length = cs.length) (h : ∀ (j : Nat) (x : AV) (v : Value), cs[j]? = some x → vs.toList[j]? = some v → Den K x v) : Den K (.tuple cs) (.tuple vs)
  | sdata (id off ver : Nat) (es : List D) (r : KRow) (hr : K.key (.at id off ver) = some r) (hcap : es.length ≤ r.cap) (h : Cells K.imm r.b 0 r.sz es) : Den K (.sdata id off ver r.e es) (.pointer (some ⟨r.b, 0, none⟩))
  | fp (id ver off : Nat) (r : RRow) (hr : K.row id ver = some r) : Den K (.fp id ver off) (.pointer (some ⟨r.b, r.o + off, none⟩))
  | row (id ver off len sz : Nat) (r : RRow) (hr : K.row id ver = some r) (hs : sz ≠ 0) (hle : off + len * sz ≤ r.n) : Den K (.row id ver off len sz) (.slice (some ⟨r.b, r.o + off, none⟩) len ((r.n - off) / sz))
  | mapnil : Den K (.mapv none) (.map none)
  | mapv (id b : Nat) (h : K.blk id = some b) : Den K (.mapv (some id)) (.map (some b))
  | any (v : Value) (h : v.oneCell' = true) : Den K .any v

inductive DenL (K : KW) : List AV → List Value → Prop where
  | nil : DenL K [] []
  | cons {x : AV} {v : Value} {xs : List AV} {vs : List Value} : Den K x v → DenL K xs vs → DenL K (x :: xs) (v :: vs)

section
variable {K K' : KW}

theorem DenL.of_index : ∀ {ds : List AV} {vs : List Value}, vs.length = ds.length → (∀ (j : Nat) (d : AV) (v : Value), ds[j]? = some d → vs[j]? = some v → Den K d v) → DenL K ds vs
  | [], [], _, _ => .nil
  | [], _ :: _, h, _ => by simp at h
  | _ :: _, [], h, _ => by simp at h
  | d :: ds, v :: vs, h, hi => .cons (hi 0 d v rfl rfl) (DenL.of_index (by simpa using h) fun j d' v' h1 h2 => hi (j + 1) d' v' (by simpa using h1) (by simpa using h2))

theorem DenL.length {ds : List AV} {vs : List Value} (h : DenL K ds vs) : vs.length = ds.length := by induction h <;> simp [*]

theorem DenL.index {ds : List AV} {vs : List Value} (h : DenL K ds vs) : ∀ (j : Nat) (d : AV) (v : Value), ds[j]? = some d → vs[j]? = some v → Den K d v := by
  induction h with
  | nil => intro j d v h; simp at h
  | cons hd _ ih =>
    intro j d v h1 h2
    cases j with
    | zero => simp at h1 h2; subst h1; subst h2; exact hd
    | succ j => exact ih j d v (by simpa using h1) (by simpa using h2)

theorem DenL.get {ds : List AV} {vs : List Value} (h : DenL K ds vs) {j : Nat} {d : AV} (hd : ds[j]? = some d) : ∃ v, vs[j]? = some v ∧ Den K d v := by
  have hj : j < ds.length := by
    rcases Nat.lt_or_ge j ds.length with h | h
    · exact h
    · rw [List.getElem?_eq_none h] at hd; exact nomatch hd
  have hv : vs[j]? = some (vs[j]'(by rw [h.length]; exact hj)) := List.getElem?_eq_getElem _
  exact ⟨_, hv, h.index j d _ hd hv⟩

theorem DenL.append {a b : List AV} {v w : List Value} (h : DenL K a v) (k : DenL K b w) : DenL K (a ++ b) (v ++ w) := by
  induction h with
  | nil => simpa using k
  | cons hd _ ih => exact .cons hd ih

theorem DenL.drop : ∀ (n : Nat) {a : List AV} {v : List Value}, DenL K a v → DenL K (a.drop n) (v.drop n)
  | 0, _, _, h => by simpa using h
  | _ + 1, _, _, .nil => by simpa using DenL.nil
  | n + 1, _, _, .cons _ h => by simpa using DenL.drop n h

theorem DenL.take : ∀ (n : Nat) {a : List AV} {v : List Value}, DenL K a v → DenL K (a.take n) (v.take n)
  | 0, _, _, _ => by simpa using DenL.nil
  | _ + 1, _, _, .nil => by simpa using DenL.nil
  | n + 1, _, _, .cons hd h => by simpa using DenL.cons hd (DenL.take n h)

theorem DenL.set : ∀ (n : Nat) {a : List AV} {v : List Value} {x : AV} {y : Value}, DenL K a v → Den K x y → DenL K (a.set n x) (v.set n y)
  | 0, _, _, _, _, .nil, _ => by simpa using DenL.nil
  | 0, _, _, _, _, .cons _ h, hx => by simpa using DenL.cons hx h
  | _ + 1, _, _, _, _, .nil, _ => by simpa using DenL.nil
  | n + 1, _, _, _, _, .cons hd h, hx => by simpa using DenL.cons hd (DenL.set n h hx)

theorem DenL.replicate {x : AV} {v : Value} (h : Den K x v) : ∀ n, DenL K (List.replicate n x) (List.replicate n v)
  | 0 => .nil
  | n + 1 => by simpa [List.replicate_succ] using DenL.cons h (DenL.replicate h n)

theorem Den.mono (hk : Kext K K') {x : AV} {v : Value} (h : Den K x v) : Den K' x v := by
  induction h with
  | dat h => exact .dat (h.mono hk.imm)
  | full es a b o sz ha h => exact .full es a b o sz ha (h.mono hk.imm)
  | tip id es r hr hcap h => exact .tip id es r (hk.key _ _ hr) hcap (h.mono hk.imm)
  | «at» id off ver es r hr hcap h => exact .at id off ver es r (hk.key _ _ hr) hcap (h.mono hk.imm)
  | pnil => exact .pnil
  | ptr id off b h => exact .ptr id off b (hk.blk _ _ h)
  | ep cs off b o vs h hv => exact .ep cs off b o vs (h.mono hk.imm) fun j v hj => hk.imm _ _ (hv j v hj)
  | func fn a c va vc hla _ hlc _ iha ihc => exact .func fn a c va vc hla iha hlc ihc
  | nilFunc => exact .nilFunc
  | iface t _ ih => exact .iface t ih
  | nilIface => exact .nilIface
  | agg cs vs hl _ ih => exact .agg cs vs hl ih
  | tuple cs vs hl _ ih => exact .tuple cs vs hl ih
  | sdata id off ver es r hr hcap h => exact .sdata id off ver es r (hk.key _ _ hr) hcap (h.mono hk.imm)
  | fp id ver off r hr => exact .fp id ver off r (hk.row _ _ _ hr)
  | row id ver off len sz r hr hs hle => exact .row id ver off len sz r (hk.row _ _ _ hr) hs hle
  | mapnil => exact .mapnil
  | mapv id b h => exact .mapv id b (hk.blk _ _ h)
  | any v h => exact .any v h

theorem DenL.mono (hk : Kext K K') {x : List AV} {v : List Value} (h : DenL K x v) : DenL K' x v := by
  induction h with
  | nil => exact .nil
  | cons hd _ ih => exact .cons (hd.mono hk) ih

theorem DenL.of_dat {ds : List D} {vs : List Value} (h : DenDL K.imm ds vs) : DenL K (ds.map .dat) vs := by
  induction h with
  | nil => exact .nil
  | cons hd _ ih => exact .cons (.dat hd) ih

theorem Den.agg_list {cs : List AV} {v : Value} (h : Den K (.agg cs) v) : ∃ vs, v = .agg vs ∧ DenL K cs vs.toList := by
  cases h with
  | agg _ vs hl h => exact ⟨vs, rfl, DenL.of_index hl h⟩

theorem Den.of_agg {cs : List AV} {vs : Array Value} (h : DenL K cs vs.toList) : Den K (.agg cs) (.agg vs) := .agg cs vs h.length h.index

theorem Den.tuple_list {cs : List AV} {v : Value} (h : Den K (.tuple cs) v) : ∃ vs, v = .tuple vs ∧ DenL K cs vs.toList := by
  cases h with
  | tuple _ vs hl h => exact ⟨vs, rfl, DenL.of_index hl h⟩

theorem Den.of_tuple {cs : List AV} {vs : Array Value} (h : DenL K cs vs.toList) : Den K (.tuple cs) (.tuple vs) := .tuple cs vs h.length h.index

theorem Den.func_list {fn : Fn} {a c : List AV} {v : Value} (h : Den K (.func fn a c) v) : ∃ va vc, v = .func fn va vc ∧ DenL K a va.toList ∧ DenL K c vc.toList := by
  cases h with
  | func _ _ _ va vc hla ha hlc hc => exact ⟨va, vc, rfl, DenL.of_index hla ha, DenL.of_index hlc hc⟩

theorem Den.of_func {fn : Fn} {a c : List AV} {va vc : Array Value} (ha : DenL K a va.toList) (hc : DenL K c vc.toList) : Den K (.func fn a c) (.func fn va vc) :=
  .func fn a c va vc ha.length ha.index hc.length hc.index

theorem den_undef : Den K undefA undef := Den.of_tuple (vs := #[]) .nil

theorem allDat_some : ∀ {cs : List AV} {ds : List D}, allDat cs = some ds → cs = ds.map .dat
  | [], ds, h => by simp [allDat] at h; subst h; rfl
  | c :: cs, ds, h => by
    cases c <;> simp [allDat] at h
    obtain ⟨r, hr, rfl⟩ := h
    simp [allDat_some hr]

theorem denDL_of_map : ∀ {ds : List D} {vs : List Value}, DenL K (ds.map .dat) vs → DenDL K.imm ds vs
  | [], _, .nil => .nil
  | _ :: _, _, .cons (.dat h) k => .cons h (denDL_of_map k)

theorem den_mkAgg {cs : List AV} {vs : Array Value} (h : DenL K cs vs.toList) : Den K (mkAgg cs) (.agg vs) := by
  unfold mkAgg
  split
  · rename_i ds hd
    rw [allDat_some hd] at h
    exact .dat (.of_agg (denDL_of_map h))
  · exact .of_agg h

/-- the cells of a value -/
theorem Den.cells {x : AV} {v : Value} (h : Den K x v) : DenL K x.cells v.cells.toList := by
  cases h with
  | dat h =>
    cases h with
    | agg cs vs hl h => exact DenL.of_dat (DenDL.of_index hl h)
    | slice es a cap b o sz vs hcap ha hsz hl hv h => exact .cons (.dat (.slice es a cap b o sz vs hcap ha hsz hl hv h)) .nil
    | bool b => exact .cons (.dat (.bool b)) .nil
    | int k n => exact .cons (.dat (.int k n)) .nil
    | str s => exact .cons (.dat (.str s)) .nil
    | nils => exact .cons (.dat .nils) .nil
  | agg cs vs hl h => exact DenL.of_index hl h
  | full es a b o sz ha h => exact .cons (.full es a b o sz ha h) .nil
  | tip id es r hr hcap h => exact .cons (.tip id es r hr hcap h) .nil
  | «at» id off ver es r hr hcap h => exact .cons (.at id off ver es r hr hcap h) .nil
  | pnil => exact .cons .pnil .nil
  | ptr id off b h => exact .cons (.ptr id off b h) .nil
  | ep cs off b o vs h hv => exact .cons (.ep cs off b o vs h hv) .nil
  | func fn a c va vc hla ha hlc hc => exact .cons (.func fn a c va vc hla ha hlc hc) .nil
  | nilFunc => exact .cons .nilFunc .nil
  | iface t h => exact .cons (.iface t h) .nil
  | nilIface => exact .cons .nilIface .nil
  | tuple cs vs hl h => exact .cons (.tuple cs vs hl h) .nil
  | sdata id off ver es r hr hcap h => exact .cons (.sdata id off ver es r hr hcap h) .nil
  | fp id ver off r hr => exact .cons (.fp id ver off r hr) .nil
  | row id ver off len sz r hr hs hle => exact .cons (.row id ver off len sz r hr hs hle) .nil
  | mapnil => exact .cons .mapnil .nil
  | mapv id b h => exact .cons (.mapv id b h) .nil
  | any v h => exact (by cases v <;> first | exact .cons (.any _ h) .nil | simp [Value.oneCell'] at h)

theorem den_sealOwn {g : Own} {es : List D} {v : Value} (h : Den K (.own g es) v) : DenD K.imm (.slice es) v := by
  cases h with
  | full es a b o sz ha h => exact .of_cells (Nat.le_refl _) ha h
  | tip id es r hr hcap h => exact .of_cells hcap (fun _ => rfl) h
  | «at» id off ver es r hr hcap h => exact .of_cells hcap (fun _ => rfl) h

theorem den_sealC {x : AV} {v : Value} (h : Den K x v) : Den K (sealC x) v := by
  cases x <;> simp only [sealC] <;> first | exact h | exact .dat (den_sealOwn h)

theorem denL_map {f : AV → AV} (hf : ∀ x v, Den K x v → Den K (f x) v) {xs : List AV} {vs : List Value} (h : DenL K xs vs) : DenL K (xs.map f) vs := by
  induction h with
  | nil => exact .nil
  | cons hd _ ih => exact .cons (hf _ _ hd) ih

theorem den_sealV {x : AV} {v : Value} (h : Den K x v) : Den K (sealV x) v := by
  cases x <;> simp only [sealV] <;> first | exact h | exact .dat (den_sealOwn h) | skip
  obtain ⟨vs, rfl, hl⟩ := h.agg_list
  exact den_mkAgg (denL_map (fun _ _ => den_sealC) hl)

theorem den_sealR {x : AV} {v : Value} (h : Den K x v) : Den K (sealR x) v := by
  unfold sealR
  split
  · obtain ⟨vs, rfl, hl⟩ := h.tuple_list
    exact Den.of_tuple (denL_map (fun _ _ => den_sealV) hl)
  · exact den_sealV h

theorem den_toD {x : AV} {v : Value} {d : D} (h : Den K x v) (hd : x.toD = some d) : DenD K.imm d v := by
  unfold AV.toD at hd
  have hs := den_sealV h
  split at hd
  · rename_i d' he
    rw [he] at hs
    cases hd
    cases hs with
    | dat h => exact h
  · exact nomatch hd

theorem den_elems {x : AV} {v : Value} {es : List D} (h : Den K x v) (he : elems x = some es) :
    ∃ a cap, v = .slice a es.length cap ∧ es.length ≤ cap ∧ ∃ b o sz, (es ≠ [] → a = some ⟨b, o, none⟩) ∧ Cells K.imm b o sz es := by
  cases x <;> simp [elems] at he
  · rename_i d
    cases h with
    | dat h =>
      cases d <;> simp at he
      · subst he; cases h; exact ⟨none, 0, rfl, by simp, 0, 0, 0, by simp, by simp, [], .nil, by simp⟩
      · subst he
        obtain ⟨a, cap, b, o, sz, rfl, h1, h2, h3⟩ := h.slice_cells
        exact ⟨some a, cap, rfl, h1, b, o, sz, fun h => by rw [h2 h], h3⟩
  · subst he
    obtain ⟨a, cap, b, o, sz, rfl, h1, h2, h3⟩ := (den_sealOwn h).slice_cells
    exact ⟨some a, cap, rfl, h1, b, o, sz, fun h => by rw [h2 h], h3⟩

end

theorem bytes_eq (s : ByteArray) : (⟨s.data.toList.toArray⟩ : ByteArray) = s := by cases s; simp

theorem den_cst1 {K : KW} {v : Value} {a : AV} (h : cst1 v = some a) : Den K a v := by
  unfold cst1 at h
  split at h <;> first
    | (cases h; exact .dat (.bool _))
    | (cases h; exact .dat (.int _ _))
    | (cases h; rename_i s; have := DenD.str (imm := K.imm) s.data.toList; rw [bytes_eq] at this; exact .dat this)
    | (cases h; exact .pnil)
    | (cases h; exact .dat .nils)
    | (cases h; exact .nilFunc)
    | (cases h; exact .nilIface)
    | (cases h; exact .mapnil)
    | exact nomatch h

theorem den_cstL {K : KW} : ∀ {vs : List Value} {as : List AV}, cstL vs = some as → DenL K as vs
  | [], as, h => by simp [cstL] at h; subst h; exact .nil
  | v :: vs, as, h => by
    simp only [cstL] at h
    split at h
    · rename_i a ha
      simp at h
      obtain ⟨r, hr, rfl⟩ := h
      exact .cons (den_cst1 ha) (den_cstL hr)
    · exact nomatch h

theorem den_cstV {K : KW} {v : Value} {a : AV} (h : cstV v = some a) : Den K a v := by
  unfold cstV at h
  split at h
  · simp at h
    obtain ⟨r, hr, rfl⟩ := h
    exact den_mkAgg (den_cstL hr)
  · exact den_cst1 h

end Go.Proofs.YtobhpbnlbgbjaaaGreatDoor
