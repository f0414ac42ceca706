/- Loads, conversions, slices of slices, composite literals. -/
import Derived.Test.YtobhpbnlbgbjaaaGreatDoorD3
import Derived.Laws.BytesString
set_option linter.unusedSectionVars false
set_option linter.unusedSimpArgs false
set_option linter.unusedVariables false
set_option linter.unusedSimpArgs false
namespace Go.Proofs.YtobhpbnlbgbjaaaGreatDoor
open Go Go.RowKit
set_option linter.unusedSectionVars false
variable [mode : Inhabited ModeT]

section
variable {P : Program} {K : KW} {w : World} {hc : Nat → Option AObj} {V : Nat → Prop} {ow : Nat → Option OKey}

theorem BoxOk.cell_at {id : Nat} {e : TypeId} {cs : List AV} {ver b : Nat} {vs : Array Value} (h : BoxOk K w ow id e cs ver b vs) (j : Nat) (v : Value) (hv : vs.toList[j]? = some v) : w.cell? ⟨b, 0 + j, none⟩ = some v := by
  rw [cell_of h.heap, Nat.zero_add, ← Array.getElem?_toList]; exact hv

theorem run_loadA {t : TypeId} {x v : AV} {vx : Value} {h : Heap} (hk : OkW K hc V w ow) (hh : ∀ id o, h[id]? = some (some o) → hc id = some o) (hl : loadA P t x h = some v) (hx : Den K x vx) :
    ∃ u, (Instr.loadAt t vx).run P w = .ok u w ∧ Den K v u := by
  unfold loadA at hl
  split at hl
  · rename_i id off
    split at hl
    · rename_i e cs ver hid
      obtain ⟨b, vs, hb⟩ := hk.box id _ _ _ (hh _ _ hid)
      cases hx with
      | ptr _ _ b' hb' =>
        obtain rfl : b' = b := by rw [hb.blk] at hb'; exact (Option.some.inj hb').symm
        obtain ⟨u, h1, h2⟩ := run_loadVar_cells (P := P) (w := w) hb.den hb.cell_at hl
        rw [Nat.zero_add] at h1
        exact ⟨u, by simp [Instr.loadAt, Instr.sureAddr, h1], h2⟩
    · exact nomatch hl
  · rename_i id ver off
    split at hl
    · rename_i e cs v lim fz ex hid
      split at hl
      · rename_i hv
        subst hv
        obtain ⟨b, obj, hf, hb, _⟩ := hk.fr id _ (hh _ _ hid) rfl
        cases hf with
        | free _ _ _ _ _ _ r vs lo hi hr hsz hle hd hu hvn hfz hex hcl =>
          cases hx with
          | fp _ _ _ r' hr' =>
            obtain rfl : r' = r := by rw [hr] at hr'; exact (Option.some.inj hr').symm
            obtain ⟨u, h1, h2⟩ := run_loadVar_cells (P := P) (w := w) hd (fun j v hj => by
              rw [cell_of hb, ← Array.getElem?_toList]
              rw [List.getElem?_take] at hj
              split at hj
              · rwa [List.getElem?_drop] at hj
              · cases hj) hl
            exact ⟨u, by simp [Instr.loadAt, Instr.sureAddr, h1], h2⟩
      · exact nomatch hl
    · exact nomatch hl
  · cases hx with
    | ep _ _ b o vs hd hv =>
      obtain ⟨u, h1, h2⟩ := run_loadVar_cells (P := P) (w := w) (DenL.of_dat hd) (fun j v hj => hk.imm _ _ (hv j v hj)) hl
      exact ⟨u, by simp [Instr.loadAt, Instr.sureAddr, h1], h2⟩
  · exact nomatch hl

theorem shape_of {b : Nat} {vs : Array Value} {e : TypeId} {f : Nat × Nat} (h : w.heap[b]? = some (.cells vs e f)) : w.shape? b = some (e, vs.size) := by simp [World.shape?, h]

theorem run_viewAt {b : Nat} {vs : Array Value} {e : TypeId} {f : Nat × Nat} (h : w.heap[b]? = some (.cells vs e f)) : (viewAt b).run P w = .ok none w := by
  simp [viewAt, shape_of h]

theorem run_convPtr {s d : TypeId} {o : Option (Nat × Nat)} {v : AV} {vx : Value} {h : Heap} (hk : OkW K hc V w ow) (hh : ∀ id o, h[id]? = some (some o) → hc id = some o) (hl : convPtr P s d (.ptr o) h = some v) (hx : Den K (.ptr o) vx) :
    ∃ u, (convert s d vx).run P w = .ok u w ∧ Den K v u := by
  unfold convPtr at hl
  split at hl
  · rename_i e h1 h2 h3
    cases hl
    cases h3
    cases hx
    exact ⟨_, by simp [convert, run_underlying' h1, run_underlying' h2, Conv.unsafePointer], .pnil⟩
  · rename_i t id off h1 h2 h3
    cases h3
    split at hl
    · rename_i e cs ver hid
      split at hl
      · rename_i hc'
        obtain ⟨g1, g2, g3⟩ := hc'
        cases hl
        obtain ⟨b, vs, hb⟩ := hk.box id _ _ _ (hh _ _ hid)
        cases hx with
        | ptr _ _ b' hb' =>
          obtain rfl : b' = b := by rw [hb.blk] at hb'; exact (Option.some.inj hb').symm
          have hsz : vs.size = cs.length := by have := hb.den.length; simpa using this
          cases hz : sizeA P t with
          | none => rw [hz] at g3; exact nomatch g3
          | some n =>
            have hn : n ≠ 0 := fun e0 => g2 (by rw [hz, e0])
            refine ⟨_, ?_, .ptr _ _ b' hb'⟩
            have hlt : ¬ vs.size ≤ off := by omega
            simp [convert, run_underlying' h1, run_underlying' h2, Conv.unsafePointer, Conv.seenAt, run_viewAt hb.heap, cellsIn, shape_of hb.heap, run_sizeOf' hz, hn, hlt]
      · exact nomatch hl
    · exact nomatch hl
  · rename_i e h1 h2 h3
    cases hl
    cases h3
    cases hx
    exact ⟨_, by simp [convert, run_underlying' h1, run_underlying' h2, Conv.unsafePointer], .pnil⟩
  · rename_i u id off h1 h2 h3
    cases h3
    split at hl
    · rename_i e cs ver hid
      split at hl
      · rename_i hc'
        obtain ⟨g1, g2⟩ := hc'
        cases hl
        obtain ⟨b, vs, hb⟩ := hk.box id _ _ _ (hh _ _ hid)
        cases hx with
        | ptr _ _ b' hb' =>
          obtain rfl : b' = b := by rw [hb.blk] at hb'; exact (Option.some.inj hb').symm
          have hsz : vs.size = cs.length := by have := hb.den.length; simpa using this
          cases hz : sizeA P u with
          | none => rw [hz] at g1; exact nomatch g1
          | some n =>
            refine ⟨_, ?_, .ptr _ _ b' hb'⟩
            simp only [convert, Sem.run_bind, run_underlying' h1, run_underlying' h2, Result.andThen_ok, Conv.unsafePointer, Conv.seenAt, run_viewAt hb.heap, Sem.run_pure, run_sizeOf' hz, variablesAt, run_shape, shape_of hb.heap, run_program, hsz, g2, Bool.or_true, decide_eq_true_eq, or_true, if_true]
      · exact nomatch hl
    · exact nomatch hl
  · exact nomatch hl

theorem bytesOf_den : ∀ {es : List D} {s : List UInt8} {vs : List Value}, bytesOf es = some s → DenDL K.imm (es.flatMap D.cells) vs → ∃ ns : List Int, vs = ns.map (Value.int .u8) ∧ s = ns.map fun n => UInt8.ofNat n.toNat
  | [], s, vs, h, hd => by
    simp [bytesOf] at h
    subst h
    cases hd
    exact ⟨[], rfl, rfl⟩
  | e :: es, s, vs, h, hd => by
    unfold bytesOf at h
    split at h
    case h_1 heq => exact nomatch heq
    case h_3 => exact nomatch h
    rename_i n r' heq
    cases heq
    simp only [Option.map_eq_some_iff] at h
    obtain ⟨r, hr, rfl⟩ := h
    simp only [List.flatMap_cons, D.cells, List.cons_append, List.nil_append] at hd
    cases hd with
    | cons h1 h2 =>
      cases h1
      obtain ⟨ns, e1, e2⟩ := bytesOf_den hr h2
      exact ⟨n :: ns, by rw [e1]; rfl, by rw [e2]; rfl⟩

theorem foldl_push (ns : List Int) : ∀ acc : ByteArray, ns.foldl (fun r n => r.push (UInt8.ofNat n.toNat)) acc = ⟨(acc.data.toList ++ ns.map fun n => UInt8.ofNat n.toNat).toArray⟩ := by
  induction ns with
  | nil => intro acc; cases acc; simp
  | cons n ns ih => intro acc; simp [ih]

theorem heap_freeze_ne {a : Addr} {n b : Nat} (h : b ≠ a.block) : (w.freeze a n).heap[b]? = w.heap[b]? := by
  unfold World.freeze
  split
  · rfl
  · simp only [Array.getElem?_modify]; rw [if_neg (fun e => h e.symm)]

theorem size_freeze {a : Addr} {n : Nat} : (w.freeze a n).heap.size = w.heap.size := by
  unfold World.freeze; split <;> simp

theorem heap_freeze_at {a : Addr} {n : Nat} {vs : Array Value} {e : TypeId} {lo hi : Nat} (h : w.heap[a.block]? = some (.cells vs e (lo, hi))) :
    (w.freeze a n).heap[a.block]? = some (.cells vs e (if n = 0 then (lo, hi) else if lo == hi then (a.off, a.off + n) else (min lo a.off, max hi (a.off + n)))) := by
  unfold World.freeze
  split
  · exact h
  · simp only [Array.getElem?_modify, if_true, h, Option.map_some]

theorem OkW.freeze {K : KW} {h : Nat → Option AObj} (hk : OkW K h V w ow) {a : Addr} {n : Nat} {vs : Array Value} {e : TypeId} {lo hi : Nat} (hb : w.heap[a.block]? = some (.cells vs e (lo, hi))) (hn : ow a.block = none) (hbase : ¬ K.base.old a.block) : OkW K h V (w.freeze a n) ow := by
  refine hk.world ?_ (by rw [size_freeze]; omega) (fun b k ho => heap_freeze_ne fun e => by rw [e, hn] at ho; exact nomatch ho) fun x c hx => ?_
  · refine hk.below.step ?_ ?_ ?_ ⟨by rw [size_freeze]; omega, fun k hk => heap_freeze_ne (by intro e; subst e; first | exact absurd hk (by assumption) | exact absurd hk hb.base | exact absurd hk (by simpa using hbase))⟩ <;> (unfold World.freeze; split <;> rfl)
  · have := hk.imm x c hx
    by_cases hx' : x.block = a.block
    · obtain ⟨vs', e', f', g1, g2, g3⟩ := cell_block this
      rw [hx', hb] at g1
      cases g1
      obtain ⟨xb, xo, xs⟩ := x
      simp only at hx' g2 g3
      subst g2; subst hx'
      rw [cell_of (heap_freeze_at hb)]; exact g3
    · rw [cell_same (heap_freeze_ne hx')]; exact this

theorem choose_cap {need old : Nat} {elem : TypeId} : ∃ cap w', (choose (.appendCap need old elem)).run P w = .ok cap w' ∧ w' = w.drew ∧ need ≤ cap := by
  refine ⟨(Question.appendCap need old elem).cut (w.tape w.drawn (.appendCap need old elem)), w.drew, ?_, rfl, ?_⟩
  · simp [choose, Sem.run, Question.forced]
  · simp [Question.cut]

end
end Go.Proofs.YtobhpbnlbgbjaaaGreatDoor
