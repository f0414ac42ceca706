/- Conversions, slices of slices, composite literals, new boxes. -/
import Derived.Test.YtobhpbnlbgbjaaaGreatDoorD4
import Derived.Laws.NewFold
set_option linter.unusedSectionVars false
set_option linter.unusedSimpArgs false
set_option linter.unusedVariables false
set_option linter.unusedSimpArgs false
namespace Go.Proofs.YtobhpbnlbgbjaaaGreatDoor
open Go Go.RowKit
set_option linter.unusedSectionVars false
variable [mode : Inhabited ModeT]

/-- an operation gives a value, and leaves a world that fits a heap -/
def Gives (P : Program) (K : KW) (w : World) (s : Sem Value) (v : AV) (h : Nat → Option AObj) (V : Nat → Prop) : Prop :=
  ∃ u w' K', s.run P w = .ok u w' ∧ Kext K K' ∧ Den K' v u ∧ Ok K' h V w'

section
variable {P : Program} {K : KW} {w : World} {hc : Nat → Option AObj} {V : Nat → Prop} {ow : Nat → Option OKey}

theorem Gives.same {s : Sem Value} {v : AV} (hok : Ok K hc V w) (h : ∃ u, s.run P w = .ok u w ∧ Den K v u) : Gives P K w s v hc V := by
  obtain ⟨u, h1, h2⟩ := h
  exact ⟨u, w, K, h1, Kext.refl K, h2, hok⟩

theorem OkW.not_own_new (hk : OkW K hc V w ow) : ow w.heap.size = none := by
  cases ho : ow w.heap.size with
  | none => rfl
  | some k => have := hk.own _ _ ho; omega

theorem denDL_ints {imm : Imm} (s : List UInt8) : DenDL imm ((s.map fun b => D.int .u8 b.toNat).flatMap D.cells) (s.map fun b => Value.int .u8 b.toNat) := by
  induction s with
  | nil => exact .nil
  | cons b s ih => simp only [List.map_cons, List.flatMap_cons, D.cells, List.cons_append, List.nil_append]; exact .cons (.int _ _) ih

/-- the elements of a block whose first cells are told -/
theorem cells_withImm {b m sz : Nat} {arr : Array Value} {es : List D} {vs : List Value} (hsz : ∀ e, e ∈ es → e.cells.length = sz) (hd : DenDL K.imm (es.flatMap D.cells) vs) (hl : vs.length ≤ m)
    (harr : ∀ (j : Nat) (v : Value), vs[j]? = some v → arr[j]? = some v) (hext : Kext K (withImm K b m arr)) : Cells (withImm K b m arr).imm b 0 sz es := by
  refine ⟨hsz, vs, hd.mono hext.imm, fun j v hj => ?_⟩
  have hjl : j < vs.length := by
    rcases Nat.lt_or_ge j vs.length with h | h
    · exact h
    · rw [List.getElem?_eq_none h] at hj; exact nomatch hj
  rw [Nat.zero_add, withImm_in (by omega)]
  exact harr j v hj

theorem gives_convA {s d : TypeId} {x v : AV} {vx : Value} (hok : Ok K hc V w) (h : convA P s d x = some v) (hx : Den K x vx) : Gives P K w (convert s d vx) v hc V := by
  unfold convA at h
  split at h
  · rename_i sd k k' n h1 h2
    cases h
    cases hx with | dat hx => ?_
    cases hx
    exact .same hok ⟨_, by simp [convert, run_underlying' h1, run_underlying' h2, Conv.intToInt], .dat (.int _ _)⟩
  · rename_i sd s h1 h2
    cases h
    cases hx with | dat hx => ?_
    cases hx
    refine .same hok ⟨_, ?_, .dat (.str _)⟩
    simp only [convert, Sem.run_bind, run_underlying' h1, run_underlying' h2, Result.andThen_ok]
    rfl
  · rename_i e h1 h2 _
    split at h
    · rename_i es h3 h4
      simp only [Option.map_eq_some_iff] at h
      obtain ⟨s, hs, rfl⟩ := h
      obtain ⟨a, cap, rfl, hcap, b, o, sz, ha, hsz, vs, hd, hv⟩ := den_elems hx h4
      obtain ⟨ns, rfl, rfl⟩ := bytesOf_den hs hd
      obtain ⟨ow, hk⟩ := hok
      refine .same ⟨ow, hk⟩ ⟨.string ⟨(ns.map fun n => UInt8.ofNat n.toNat).toArray⟩, ?_, .dat (.str _)⟩
      rw [run_convert_bytes_string (P := P) w _ _ e a es.length cap h1 h3 h2]
      by_cases hne : es = []
      · subst hne
        cases ns with
        | nil =>
          cases a with
          | none => simp [Conv.bytesToString]; rfl
          | some a =>
            rw [List.length_nil, run_bytesToString (P := P) w a 0 cap [] (by simp [loadCells, loadCellsFrom])]
            rfl
        | cons n ns => have := hd.length; simp at this
      · rw [ha hne]
        have hlen : (ns.map (Value.int .u8)).length = es.length := by
          have h1 := hd.length
          have h2 := flat_length hsz
          have h3 : sz = 1 := by
            cases es with
            | nil => exact absurd rfl hne
            | cons e es =>
              have := hsz e (by simp)
              unfold bytesOf at hs
              split at hs
              case h_1 heq => exact nomatch heq
              case h_3 => exact nomatch hs
              rename_i n r' heq
              cases heq
              simpa [D.cells] using this.symm
          rw [h3] at h2; omega
        rw [run_bytesToString (P := P) w ⟨b, o, none⟩ es.length cap ns]
        · rw [foldl_push]; rfl
        · have := run_loadCells_row (P := P) (w := w) (b := b) (o := o) (n := es.length) (vs := ns.map (Value.int .u8)) (by omega) fun j v hj => hk.imm _ _ (hv j v hj)
          rw [this, List.take_of_length_le (by omega)]
    · exact nomatch h
  · rename_i e s h1 h2
    split at h
    · rename_i h3 h4
      cases h
      cases hx with | dat hx => ?_
      cases hx
      obtain ⟨ow, hk⟩ := hok
      obtain ⟨cap, w', hcap, rfl, hle⟩ := choose_cap (P := P) (w := w) (need := s.length) (old := 0) (elem := e)
      let arr : Array Value := (s.map fun b => Value.int .u8 b.toNat).toArray ++ Array.replicate (cap - s.length) (.int .u8 0)
      have hk1 := hk.drew
      obtain ⟨hk2, hext⟩ := hk1.row arr e
      have hnew := hk1.not_own_new
      have hb := heap_pushW_new w.drew (.cells arr e)
      have hk3 := hk2.freeze (a := ⟨w.drew.heap.size, arr.size, none⟩) (n := 1) hb hnew hk1.base_le
      refine ⟨.slice (some ⟨w.drew.heap.size, 0, none⟩) s.length cap, _, _, ?_, hext, .dat ?_, ow, hk3⟩
      · have hz : (ByteArray.mk s.toArray).size = s.length := by simp [ByteArray.size]
        have hel : (Array.map (fun b : UInt8 => Value.int .u8 (b.toNat : Int)) (ByteArray.mk s.toArray).data) = (s.map fun b => Value.int .u8 b.toNat).toArray := by simp
        simp only [convert, Sem.run_bind, run_underlying' h1, run_underlying' h2, run_underlying' h3, Result.andThen_ok, Conv.stringToBytes, hz, hcap, hel, newRow, run_newObj_alloc, markStringish, Sem.run_pure, run_shape]
        rw [shape_of hb]
        simp only [run_freeze, Result.andThen_ok]
        rfl
      · have hl : s.length = (s.map fun b => D.int .u8 b.toNat).length := by simp
        rw [hl]
        refine .of_cells (b := w.drew.heap.size) (o := 0) (sz := 1) (by simpa using hle) (fun _ => rfl) ?_
        refine cells_withImm (K := K) (vs := s.map fun b => Value.int .u8 b.toNat) ?_ (denDL_ints s) (by simp [arr]) (fun j v hj => ?_) hext
        · intro e he
          simp at he
          obtain ⟨b, _, rfl⟩ := he
          rfl
        · have hjl : j < (s.map fun b => Value.int .u8 b.toNat).length := by
            rcases Nat.lt_or_ge j (s.map fun b => Value.int .u8 b.toNat).length with h | h
            · exact h
            · rw [List.getElem?_eq_none h] at hj; exact nomatch hj
          rw [Array.getElem?_append_left (by simpa using hjl)]
          simpa using hj
    · exact nomatch h
  · exact nomatch h

end
end Go.Proofs.YtobhpbnlbgbjaaaGreatDoor
