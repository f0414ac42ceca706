/- unsafe.String of a growing slice's bytes. -/
import Derived.Test.YtobhpbnlbgbjaaaGreatDoorD12
set_option linter.unusedSectionVars false
set_option linter.unusedSimpArgs false
set_option linter.unusedVariables false
set_option linter.unusedSimpArgs false
namespace Go.Proofs.YtobhpbnlbgbjaaaGreatDoor
open Go Go.RowKit
set_option linter.unusedSectionVars false
variable [mode : Inhabited ModeT]

section
variable {P : Program} {K : KW} {w : World} {h : Heap} {HF : Nat → Option AObj} {V : Nat → Prop} {ow : Nat → Option OKey} {hc : Nat → Option AObj}

theorem run_loadBytes {b : Nat} {ns : List Int} : ∀ (k j : Nat) (acc : ByteArray), j + k ≤ ns.length → (∀ (i : Nat) (n : Int), ns[i]? = some n → w.cell? ⟨b, i, none⟩ = some (.int .u8 n)) →
    (loadBytes ⟨b, j, none⟩ acc k).run P w = .ok (((ns.drop j).take k).foldl (fun r n => r.push (UInt8.ofNat n.toNat)) acc) w
  | 0, j, acc, _, _ => by simp [loadBytes]
  | k + 1, j, acc, hle, hcell => by
    have hj : j < ns.length := by omega
    have hd : ns.drop j = ns[j] :: ns.drop (j + 1) := List.drop_eq_getElem_cons hj
    have hc := hcell j ns[j] (List.getElem?_eq_getElem hj)
    simp only [loadBytes, Sem.run_bind, cell_run hc, Result.andThen_ok, addr_add]
    rw [run_loadBytes k (j + 1) _ (by omega) hcell, hd]
    rfl

theorem lies_bytes {e u : TypeId} {n count : Nat} (h1 : P.cellsOf e = 1) (h2 : sameLayout P P.depth e u = true) (h3 : n ≤ count) : liesAt P P.depth e (count / P.cellsOf e) 0 u n = true := by
  have hd : P.depth = (2 * (P.types.size + Made.depth) + 1) + 1 := rfl
  have hrow : rowAt P (sameLayout P P.depth · u) P.depth e (count / P.cellsOf e) 0 n = true := by
    generalize hq : (sameLayout P P.depth · u) = q
    have hqe : q e = true := by rw [← hq]; exact h2
    rw [hd, h1]
    unfold rowAt
    simp [h1, hqe, h3]
  generalize hm : P.depth = m at hrow ⊢
  rw [hm] at hd
  subst hd
  unfold liesAt
  rw [hm, hrow]
  rfl

theorem fz_le {lo hi n m : Nat} (h1 : hi ≤ m) (h2 : n ≤ m) : (if n = 0 then (lo, hi) else if lo == hi then (0, 0 + n) else (min lo 0, max hi (0 + n))).2 ≤ m := by
  split
  · exact h1
  · split <;> simp <;> omega

theorem OkW.freezeAt (hk : OkW K hc V w ow) {id off v ver : Nat} {e : TypeId} {cs : List AV} {es : List D} {r : KRow} (hid : hc id = some (.cells e cs ver)) (hcs : cs[off]? = some (.own (.at id off v r.e) es)) (hr : K.key (.at id off v) = some r)
    {n : Nat} (hn : n ≤ es.length * r.sz) : OkW K hc V (w.freeze ⟨r.b, 0, none⟩ n) ow := by
  obtain ⟨bb, vv, hbox⟩ := hk.box _ _ _ _ hid
  obtain ⟨_, _, _, r', g1, g2, g3, g4⟩ := hbox.cell _ _ hcs
  obtain rfl : r' = r := by rw [hr] at g1; exact (Option.some.inj g1).symm
  obtain ⟨⟨arr, lo, hi, hblk, hsz, hhi⟩, himm, hbase⟩ := g3
  have hheap := heap_freeze_at (a := ⟨r'.b, 0, none⟩) (n := n) hblk
  have hoth : ∀ b, b ≠ r'.b → (w.freeze ⟨r'.b, 0, none⟩ n).heap[b]? = w.heap[b]? := fun b hb => heap_freeze_ne hb
  have hne : ∀ b k, ow b = some k → k ≠ .at id off v → b ≠ r'.b := fun b k h1 h2 h3 => by rw [h3, g4] at h1; exact h2 (Option.some.inj h1).symm
  have hcell : ∀ i j ver' c, CellOk K w ow i j ver' c → ((i = id ∧ j = off) → c = .own (.at id off v r'.e) es) → CellOk K (w.freeze ⟨r'.b, 0, none⟩ n) ow i j ver' c := fun i j ver' c hcc hq => by
    unfold CellOk at hcc ⊢
    split at hcc
    · exact hcc
    · rename_i id' off' v' e' es'
      obtain ⟨h1, h2, h3, r2, h4, h5, h6, h7⟩ := hcc
      refine ⟨h1, h2, h3, r2, h4, h5, ?_, h7⟩
      by_cases hb : r2.b = r'.b
      · rw [hb, g4] at h7
        cases h7
        have := hq ⟨rfl, rfl⟩
        cases this
        obtain rfl : r2 = r' := by rw [hr] at h4; exact (Option.some.inj h4).symm
        refine ⟨⟨arr, _, _, hheap, hsz, fz_le hhi hn⟩, himm, hbase⟩
      · exact h6.heap (hoth _ hb)
    · trivial
  refine ⟨fun a c ha => ?_, hk.below.step ?_ ?_ ?_ ⟨by rw [size_freeze]; omega, fun k hk' => hoth k (by intro e; subst e; first | exact absurd hk' (by assumption) | exact absurd hk' hb.base | exact absurd hk' (by simpa using hbase))⟩, fun i e' cs' ver' hi => ?_, fun i e' n' sz' hi => ?_, hk.more, hk.fresh, hk.ver, fun b k hb => by rw [size_freeze]; exact hk.own b k hb, fun i o hi ho => (hk.fr i o hi ho).mono (Kext.refl K) (fun _ => rfl) fun b hb => ⟨hoth b (hne _ _ hb (by intro e; cases e)), hb, fun _ _ h => h⟩, hk.freshr⟩
  · have h1 := hk.imm a c ha
    by_cases hab : a.block = r'.b
    · obtain ⟨ab, ao, asp⟩ := a
      simp only at hab
      subst hab
      obtain ⟨vs', e', f', k1, k2, k3⟩ := cell_block h1
      simp only at k2 k3
      subst k2
      rw [hblk] at k1
      cases k1
      rw [cell_of hheap]; exact k3
    · rw [cell_same (hoth _ hab)]; exact h1
  all_goals try (unfold World.freeze; split <;> rfl)
  · obtain ⟨b, vs, hb⟩ := hk.box i e' cs' ver' hi
    refine ⟨b, vs, hb.blk, hb.own, hb.base, by rw [hoth b (hne _ _ hb.own (by intro e; cases e))]; exact hb.heap, hb.imm, hb.den, fun j c hj => hcell _ _ _ _ (hb.cell j c hj) fun hq => ?_, hb.under⟩
    obtain ⟨rfl, rfl⟩ := hq
    rw [hid] at hi
    cases hi
    rw [hcs] at hj
    exact (Option.some.inj hj).symm
  · obtain ⟨r2, h1, h2, h3, h4, h5⟩ := hk.tip i e' n' sz' hi
    exact ⟨r2, h1, h2, h3, h4.heap (hoth _ (hne _ _ h5 (by intro e; cases e))), h5⟩

theorem unsafeString_none (ts : Array TypeId) (ty pt : TypeId) (k : IntKind) (ht : ts[0]? = some pt) : (Builtin.unsafeString_ ts ty #[.pointer none, .int k 0]).run P w = .ok (.string .empty) w := by
  unfold Builtin.unsafeString_
  split
  · show Sem.run P (asInt (.int k 0) >>= _) w = _
    simp [asInt, asIntOf]
  · rename_i hno; exact absurd ht (hno pt)
theorem unsafeString_zero (ts : Array TypeId) (ty pt : TypeId) (k : IntKind) (a : Addr) (ht : ts[0]? = some pt) : (Builtin.unsafeString_ ts ty #[.pointer (some a), .int k 0]).run P w = .ok (.string .empty) w := by
  unfold Builtin.unsafeString_
  split
  · show Sem.run P (asInt (.int k 0) >>= _) w = _
    simp [asInt, asIntOf]
  · rename_i hno; exact absurd ht (hno pt)
theorem unsafeString_some (w' : World) (ts : Array TypeId) (ty pt u : TypeId) (k : IntKind) (a : Addr) (n : Int) (s : ByteArray) (ht : ts[0]? = some pt) (hn : ¬ n < 0) (h0 : ¬ n = 0) (hmax : ¬ n > IntKind.i64.max)
    (he : (elemOf pt).run P w = .ok u w) (hv : (variablesAt a u n.toNat).run P w = .ok true w) (hl : (loadBytes a .empty n.toNat).run P w = .ok s w) (hf : (freeze a n.toNat).run P w = .ok () w') : (Builtin.unsafeString_ ts ty #[.pointer (some a), .int k n]).run P w = .ok (.string s) w' := by
  unfold Builtin.unsafeString_
  split
  · rename_i h
    rw [ht] at h; cases h
    show Sem.run P (asInt (.int k n) >>= _) w = _
    simp only [asInt, asIntOf, Sem.run_bind, Sem.run_pure, Result.andThen_ok, if_neg hn, if_neg hmax, if_neg h0, he, hv, if_true, hl, hf]
  · rename_i hno; exact absurd ht (hno pt)

theorem run_unsafeStringA {ts : Array TypeId} {ty pt : TypeId} {p n v : AV} {vp vn : Value} (hk : Fit K h HF V w) (ht : ts[0]? = some pt) (hs : unsafeStringA P pt p n h = some v) (hp : Den K p vp) (hn : Den K n vn) :
    ∃ u w', (Builtin.unsafeString_ ts ty #[vp, vn]).run P w = .ok u w' ∧ Den K v u ∧ Fit K h HF V w' := by
  unfold unsafeStringA at hs
  split at hs
  · cases hs
    cases hp
    cases hn with | dat hn => ?_
    cases hn
    refine ⟨.string .empty, w, ?_, .dat (.str []), hk⟩
    exact unsafeString_none ts ty pt _ ht
  · rename_i b off v0 e es k n
    split at hs
    · exact nomatch hs
    · rename_i hn0
      cases hp with
      | sdata _ _ _ _ r hr hcap hcells =>
        cases hn with | dat hn => ?_
        cases hn
        split at hs
        · rename_i hz
          cases hs
          subst hz
          refine ⟨.string .empty, w, ?_, .dat (.str []), hk⟩
          exact unsafeString_zero ts ty pt _ _ ht
        · rename_i hnz
          split at hs
          · rename_i be cs ver u hb hu
            split at hs
            · rename_i b' off' v' e' es' hcs
              split at hs
              · rename_i hcond
                obtain ⟨rfl, rfl, rfl, rfl, c5, c6, c7, c8, c9⟩ := hcond
                simp only [Option.map_eq_some_iff] at hs
                obtain ⟨s, hs, rfl⟩ := hs
                obtain ⟨ow, hok⟩ := hk.ok
                obtain ⟨bb, vv, hbox⟩ := hok.box _ _ _ _ (comb_some hb)
                obtain ⟨_, _, _, r2, g1, g2, g3, g4⟩ := hbox.cell _ _ hcs
                obtain rfl : r2 = r := by rw [hr] at g1; exact (Option.some.inj g1).symm
                have g3' := g3
                obtain ⟨⟨arr, lo, hi, hblk, hsz, hhi⟩, himm, hbase⟩ := g3'
                have htk := hcells.take n.toNat c7
                obtain ⟨t1, vs, t2, t3⟩ := htk
                obtain ⟨ns, rfl, rfl⟩ := bytesOf_den hs t2
                have hes : es ≠ [] := by rintro rfl; simp at c7; omega
                have hsz1 : r2.sz = 1 := by
                  have hne : es.take n.toNat ≠ [] := by
                    intro h0
                    have := congrArg List.length h0
                    rw [List.length_take, List.length_nil] at this
                    omega
                  cases hte : es.take n.toNat with
                  | nil => exact absurd hte hne
                  | cons x xs =>
                    have hx := t1 x (by rw [hte]; simp)
                    rw [hte] at hs
                    unfold bytesOf at hs
                    split at hs
                    case h_1 heq => exact nomatch heq
                    case h_3 => exact nomatch hs
                    rename_i m r' heq
                    cases heq
                    simpa [D.cells] using hx.symm
                have hnl : ns.length = n.toNat := by
                  have := t2.length
                  rw [flat_length t1, hsz1] at this
                  simp at this
                  omega
                have hle : es.length ≤ arr.size := by
                  have hsz2 := hsz
                  rw [hsz1, Nat.mul_one] at hsz2
                  omega
                have hlies := lies_bytes (P := P) (n := n.toNat) (count := arr.size) c6 c8 (by omega)
                have hcell : ∀ (i : Nat) (m : Int), ns[i]? = some m → w.cell? ⟨r2.b, i, none⟩ = some (.int .u8 m) := fun i m hi => by
                  have := hok.imm _ _ (t3 i (.int .u8 m) (by simp [hi]))
                  rwa [Nat.zero_add] at this
                have hload := run_loadBytes (P := P) (w := w) (b := r2.b) (ns := ns) n.toNat 0 ByteArray.empty (by omega) hcell
                rw [List.drop_zero, List.take_of_length_le (by omega), foldl_push] at hload
                have helem : (elemOf pt).run P w = .ok u w := by simp [elemOf, run_underlying' hu]
                refine ⟨.string ⟨(ns.map fun n => UInt8.ofNat n.toNat).toArray⟩, w.freeze ⟨r2.b, 0, none⟩ n.toNat, ?_, .dat (.str _), ⟨⟨ow, hok.freezeAt (comb_some hb) (by rw [g2]; exact hcs) hr (by rw [c5, hsz1]; omega)⟩, hk.hf, hk.vlen⟩⟩
                have hmax : ¬ n > IntKind.i64.max := by rw [IntKind.max_i64]; omega
                exact unsafeString_some _ ts ty pt u _ _ n _ ht hn0 hnz hmax helem (by simp only [variablesAt, run_program, run_shape, shape_of hblk, hlies, if_true, Sem.run_bind, Sem.run_pure, Result.andThen_ok]) hload (run_freeze _ _ _ _)
              · exact nomatch hs
            · exact nomatch hs
          · exact nomatch hs
  · exact nomatch hs

end
end Go.Proofs.YtobhpbnlbgbjaaaGreatDoor
