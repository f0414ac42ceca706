/- More operations that only compute; loads. -/
import Derived.Test.YtobhpbnlbgbjaaaGreatDoorD2
set_option linter.unusedSectionVars false
set_option linter.unusedSimpArgs false
set_option linter.unusedVariables false
set_option linter.unusedSimpArgs false
namespace Go.Proofs.YtobhpbnlbgbjaaaGreatDoor
open Go Go.RowKit
set_option linter.unusedSectionVars false
variable [mode : Inhabited ModeT]

section
variable {P : Program} {K : KW} {w : World}

theorem eqGuard_other {op : BinOp} {t : TypeId} {xo yo : Operand} {vx vy : Value} (h1 : op ≠ .eql) (h2 : op ≠ .neq) : (eqGuard op t xo yo vx vy).run P w = .ok () w := by
  cases op <;> first | rfl | exact absurd rfl h1 | exact absurd rfl h2

theorem run_eql {t : TypeId} {vx vy : Value} {r : Bool} (h : (Op.equal t vx vy).run P w = .ok r w) (hi : ∀ k a k' b, ¬ (vx = .int k a ∧ vy = .int k' b)) (hs : ∀ a b, ¬ (vx = .string a ∧ vy = .string b))
    (hf : ∀ k a k' b, ¬ (vx = .float k a ∧ vy = .float k' b)) (hc : ∀ k a b k' c d, ¬ (vx = .complex k a b ∧ vy = .complex k' c d)) : (binOp .eql t vx vy).run P w = .ok (.bool r) w ∧ (binOp .neq t vx vy).run P w = .ok (.bool (!r)) w := by
  unfold binOp
  constructor
  all_goals
    split
    all_goals first
      | (simp only [Sem.run_bind, h, Result.andThen_ok]; rfl)
      | (exfalso; exact hi _ _ _ _ ⟨rfl, rfl⟩)
      | (exfalso; exact hs _ _ ⟨rfl, rfl⟩)
      | (exfalso; exact hf _ _ _ _ ⟨rfl, rfl⟩)
      | (exfalso; exact hc _ _ _ _ _ _ ⟨rfl, rfl⟩)
      | (exfalso; contradiction)
      | (simp_all; done)

theorem run_binA {op : BinOp} {t : TypeId} {x y v : AV} {vx vy : Value} {xo yo : Operand} (h : binA P op t x y = some v) (hx : Den K x vx) (hy : Den K y vy) :
    ∃ u, (do eqGuard op t xo yo vx vy; binOp op t vx vy : Sem Value).run P w = .ok u w ∧ Den K v u := by
  unfold binA at h
  split at h
  · rename_i k a k' b
    cases hx with | dat hx => ?_
    cases hy with | dat hy => ?_
    cases hx; cases hy
    split at h
    · simp only [Option.map_eq_some_iff] at h
      obtain ⟨d, hd, rfl⟩ := h
      obtain ⟨u, h1, h2⟩ := den_shiftOp (P := P) (w := w) (K := K) (k' := k') (t := t) hd
      exact ⟨u, by simp only [Sem.run_bind, eqGuard_at_int, Sem.run_pure, Result.andThen_ok]; exact h1, .dat h2⟩
    · simp only [Option.map_eq_some_iff] at h
      obtain ⟨d, hd, rfl⟩ := h
      obtain ⟨u, h1, h2⟩ := den_shiftOp (P := P) (w := w) (K := K) (k' := k') (t := t) hd
      exact ⟨u, by simp only [Sem.run_bind, eqGuard_at_int, Sem.run_pure, Result.andThen_ok]; exact h1, .dat h2⟩
    · split at h
      · rename_i hk
        subst hk
        simp only [Option.map_eq_some_iff] at h
        obtain ⟨d, hd, rfl⟩ := h
        obtain ⟨u, h1, h2⟩ := den_intOp (P := P) (w := w) (K := K) (t := t) hd
        exact ⟨u, by simp only [Sem.run_bind, eqGuard_at_int, Sem.run_pure, Result.andThen_ok]; exact h1, .dat h2⟩
      · exact nomatch h
  · rename_i a b
    cases hx with | dat hx => ?_
    cases hy with | dat hy => ?_
    cases hx; cases hy
    simp only [Option.map_eq_some_iff] at h
    obtain ⟨d, hd, rfl⟩ := h
    obtain ⟨u, h1, h2⟩ := den_strOp (P := P) (w := w) (K := K) (t := t) hd
    exact ⟨u, by simp only [Sem.run_bind, eqGuard_at_string, Sem.run_pure, Result.andThen_ok]; exact h1, .dat h2⟩
  · exact nomatch h
  · exact nomatch h
  · rename_i hax hay hni hns
    have hi : ∀ k a k' b, ¬ (vx = .int k a ∧ vy = .int k' b) := by
      rintro k a k' b ⟨rfl, rfl⟩
      cases hx with
      | any _ _ => exact hax rfl
      | dat hx =>
      cases hy with
      | any _ _ => exact hay rfl
      | dat hy =>
      cases hx; cases hy
      exact hni _ _ _ _ rfl rfl
    have hs : ∀ a b, ¬ (vx = .string a ∧ vy = .string b) := by
      rintro a b ⟨rfl, rfl⟩
      cases hx with
      | any _ _ => exact hax rfl
      | dat hx =>
      cases hy with
      | any _ _ => exact hay rfl
      | dat hy =>
      cases hx; cases hy
      exact hns _ _ rfl rfl
    have hf : ∀ k a k' b, ¬ (vx = .float k a ∧ vy = .float k' b) := by
      rintro k a k' b ⟨rfl, rfl⟩
      cases hx with
      | any _ _ => exact hax rfl
      | dat hx => cases hx
    have hc : ∀ k a b k' c d, ¬ (vx = .complex k a b ∧ vy = .complex k' c d) := by
      rintro k a b k' c d ⟨rfl, rfl⟩
      cases hx with
      | any _ _ => exact hax rfl
      | dat hx => cases hx
    split at h
    · simp only [Option.map_eq_some_iff] at h
      obtain ⟨r, hr, rfl⟩ := h
      obtain ⟨h1, h2⟩ := run_eqA (w := w) hr hx hy
      obtain ⟨h3, _⟩ := run_eql h1 hi hs hf hc
      exact ⟨_, by simp only [Sem.run_bind, h2, Result.andThen_ok]; exact h3, .dat (.bool _)⟩
    · simp only [Option.map_eq_some_iff] at h
      obtain ⟨r, hr, rfl⟩ := h
      obtain ⟨h1, h2⟩ := run_eqA (w := w) hr hx hy
      obtain ⟨_, h3⟩ := run_eql h1 hi hs hf hc
      exact ⟨_, by simp only [Sem.run_bind, h2, Result.andThen_ok]; exact h3, .dat (.bool _)⟩
    · exact nomatch h

theorem run_unA {op : UnOp} {x v : AV} {vx : Value} (h : unA op x = some v) (hx : Den K x vx) : ∃ u, (Op.unary op vx).run P w = .ok u w ∧ Den K v u := by
  unfold unA at h
  split at h
  · cases h; cases hx with | dat hx => ?_
    cases hx; exact ⟨_, by simp [Op.unary, Op.intArith], .dat (.int _ _)⟩
  · cases h; cases hx with | dat hx => ?_
    cases hx; exact ⟨_, by simp [Op.unary], .dat (.bool _)⟩
  · exact nomatch h

theorem run_fieldA {t : TypeId} {x v : AV} {vx : Value} {f : Nat} (h : fieldA P t x f = some v) (hx : Den K x vx) : ∃ u, (Instr.field t vx f).run P w = .ok u w ∧ Den K v u := by
  unfold fieldA at h
  split at h
  · rename_i fields hu
    split at h
    · rename_i fd hf
      split at h
      · cases hx with | dat hx => ?_
        obtain ⟨vs, rfl, hl⟩ := hx.agg_list
        obtain ⟨u, h1, h2⟩ := run_part (P := P) (w := w) (DenL.of_dat hl) h
        exact ⟨u, by simp [Instr.field, run_underlying' hu, hf, asAgg, h1], h2⟩
      · obtain ⟨vs, rfl, hl⟩ := hx.agg_list
        obtain ⟨u, h1, h2⟩ := run_part (P := P) (w := w) hl h
        exact ⟨u, by simp [Instr.field, run_underlying' hu, hf, asAgg, h1], h2⟩
      · exact nomatch h
    · exact nomatch h
  · exact nomatch h

theorem addr_add (b o n : Nat) : Addr.add ⟨b, o, none⟩ n = ⟨b, o + n, none⟩ := Addr.add_lit b o n

theorem run_fieldAddrA {t : TypeId} {x v : AV} {vx : Value} {f : Nat} (h : fieldAddrA P t x f = some v) (hx : Den K x vx) : ∃ u, (Instr.fieldAt t vx f).run P w = .ok u w ∧ Den K v u := by
  unfold fieldAddrA at h
  split at h
  · rename_i fields hu
    split at h
    · rename_i fd hf
      split at h
      · rename_i n hs
        split at h
        · cases h
          cases hx with
          | ptr id off b hb =>
            exact ⟨_, by simp [Instr.fieldAt, run_underlying' hu, hf, Instr.sureAddr, fieldPlace, run_sizeOf' hs, addr_add], .ptr _ _ b hb⟩
        · cases h
          cases hx with
          | fp id ver off r hr =>
            exact ⟨_, by simp [Instr.fieldAt, run_underlying' hu, hf, Instr.sureAddr, fieldPlace, run_sizeOf' hs, addr_add, Nat.add_assoc], .fp _ _ _ r hr⟩
        · cases h
          cases hx with
          | ep cs off b o vs hd hv =>
            exact ⟨_, by simp [Instr.fieldAt, run_underlying' hu, hf, Instr.sureAddr, fieldPlace, run_sizeOf' hs, addr_add, Nat.add_assoc], .ep _ _ b o vs hd hv⟩
        · exact nomatch h
      · exact nomatch h
    · exact nomatch h
  · exact nomatch h

theorem run_indexA {t : TypeId} {x i v : AV} {vx vi : Value} (h : indexA P t x i = some v) (hx : Den K x vx) (hi : Den K i vi) : ∃ u, (Instr.index t vx vi).run P w = .ok u w ∧ Den K v u := by
  unfold indexA at h
  split at h
  · rename_i k n
    cases hi with | dat hi => ?_
    cases hi
    split at h
    · exact nomatch h
    · rename_i hn
      have hn' : 0 ≤ n := by omega
      split at h
      · rename_i s hu
        split at h
        · rename_i b hb
          cases h
          cases hx with | dat hx => ?_
          cases hx
          have hg : (ByteArray.mk s.toArray)[n.toNat]? = some b := by
            have hlt : n.toNat < s.length := by
              rcases Nat.lt_or_ge n.toNat s.length with h' | h'
              · exact h'
              · rw [List.getElem?_eq_none h'] at hb; exact nomatch hb
            rw [List.getElem?_eq_getElem hlt] at hb
            have hsz : n.toNat < (ByteArray.mk s.toArray).size := by simpa [ByteArray.size] using hlt
            rw [getElem?_pos (ByteArray.mk s.toArray) n.toNat hsz]
            exact hb
          exact ⟨_, by simp [Instr.index, asIntOf, run_underlying' hu, hn', hg], .dat (.int _ _)⟩
        · exact nomatch h
      · rename_i len elem hu
        split at h
        · rename_i sz hs
          split at h
          · rename_i hlt
            split at h
            · cases hx with | dat hx => ?_
              obtain ⟨vs, rfl, hl⟩ := hx.agg_list
              obtain ⟨u, h1, h2⟩ := run_part (P := P) (w := w) (DenL.of_dat hl) h
              exact ⟨u, by simp [Instr.index, asIntOf, run_underlying' hu, hn', hlt, run_sizeOf' hs, h1], h2⟩
            · obtain ⟨vs, rfl, hl⟩ := hx.agg_list
              obtain ⟨u, h1, h2⟩ := run_part (P := P) (w := w) hl h
              exact ⟨u, by simp [Instr.index, asIntOf, run_underlying' hu, hn', hlt, run_sizeOf' hs, h1], h2⟩
            · exact nomatch h
          · exact nomatch h
        · exact nomatch h
      · exact nomatch h
  · exact nomatch h

theorem run_indexAddrA {t : TypeId} {x i v : AV} {vx vi : Value} (h : indexAddrA P t x i = some v) (hx : Den K x vx) (hi : Den K i vi) : ∃ u, (Instr.indexAt t vx vi).run P w = .ok u w ∧ Den K v u := by
  unfold indexAddrA at h
  split at h
  · rename_i k n
    cases hi with | dat hi => ?_
    cases hi
    split at h
    · exact nomatch h
    · rename_i hn
      have hn' : 0 ≤ n := by omega
      split at h
      · rename_i elem hu
        split at h
        · rename_i id ver off len sz
          split at h
          · rename_i hc
            obtain ⟨hs, hlt⟩ := hc
            cases h
            cases hx with
            | row _ _ _ _ _ r hr hz hle =>
              have hlt' : n < (len : Int) := hlt
              refine ⟨.pointer (some ⟨r.b, r.o + off + n.toNat * sz, none⟩), ?_, ?_⟩
              · simp only [Instr.indexAt, asIntOf, Sem.run_bind, Sem.run_pure, Result.andThen_ok, run_underlying' hu, run_sizeOf' hs, hn', hlt', and_self, if_true, addr_add]
              · have := Den.fp (K := K) id ver (off + n.toNat * sz) r hr
                rwa [← Nat.add_assoc] at this
          · exact nomatch h
        split at h
        · rename_i sz es hs he
          split at h
          · rename_i e hee
            split at h
            · rename_i hsz
              cases h
              obtain ⟨a, cap, rfl, hcap, b, o, sz', ha, hcells⟩ := den_elems hx he
              have hlt : n.toNat < es.length := by
                rcases Nat.lt_or_ge n.toNat es.length with h' | h'
                · exact h'
                · rw [List.getElem?_eq_none h'] at hee; exact nomatch hee
              have hne : es ≠ [] := by rintro rfl; simp at hlt
              obtain ⟨h1, vs, h2, h3⟩ := hcells.elem hee
              obtain rfl : sz' = sz := by omega
              rw [ha hne]
              have hlt' : n < (es.length : Int) := by omega
              refine ⟨.pointer (some ⟨b, o + n.toNat * sz', none⟩), ?_, ?_⟩
              · simp only [Instr.indexAt, asIntOf, Sem.run_bind, Sem.run_pure, Result.andThen_ok, run_underlying' hu, run_sizeOf' hs, hn', hlt', and_self, if_true, addr_add]
              · exact .ep e.cells 0 b (o + n.toNat * sz') vs h2 h3
            · exact nomatch h
          · exact nomatch h
        · exact nomatch h
      · rename_i len elem hu
        split at h
        · rename_i sz hs
          split at h
          · rename_i hlt
            split at h
            · cases h
              cases hx with
              | ptr id off b hb =>
                exact ⟨_, by simp only [Instr.indexAt, asIntOf, Sem.run_bind, Sem.run_pure, Result.andThen_ok, run_underlying' hu, run_sizeOf' hs, Instr.sureAddr, hn', hlt, and_self, if_true, addr_add], .ptr _ _ b hb⟩
            · cases h
              cases hx with
              | fp id ver off r hr =>
                exact ⟨_, by simp only [Instr.indexAt, asIntOf, Sem.run_bind, Sem.run_pure, Result.andThen_ok, run_underlying' hu, run_sizeOf' hs, Instr.sureAddr, hn', hlt, and_self, if_true, addr_add, Nat.add_assoc], .fp _ _ _ r hr⟩
            · cases h
              cases hx with
              | ep cs off b o vs hd hv =>
                exact ⟨_, by simp only [Instr.indexAt, asIntOf, Sem.run_bind, Sem.run_pure, Result.andThen_ok, run_underlying' hu, run_sizeOf' hs, Instr.sureAddr, hn', hlt, and_self, if_true, addr_add, Nat.add_assoc], .ep _ _ b o vs hd hv⟩
            · exact nomatch h
          · exact nomatch h
        · exact nomatch h
      · exact nomatch h
  · exact nomatch h

theorem run_lenA {t ty : TypeId} {x v : AV} {vx : Value} {ts : Array TypeId} {vs : Array Value} (h : lenA P t x = some v) (hx : Den K x vx) (ht : ts[0]? = some t) (hv : vs[0]? = some vx) : ∃ u, (Builtin.len_ ts ty vs).run P w = .ok u w ∧ Den K v u := by
  unfold lenA at h
  split at h
  · rename_i s hu
    cases h
    cases hx with | dat hx => ?_
    cases hx
    have hz : (ByteArray.mk s.toArray).size = s.length := by simp [ByteArray.size]
    exact ⟨_, by simp only [Builtin.len_, ht, hv, Sem.run_bind, run_underlying' hu, Result.andThen_ok, hz, goInt, Sem.run_pure], .dat (.int _ _)⟩
  · rename_i e id ver off len sz hu
    cases h
    cases hx
    exact ⟨_, by simp [Builtin.len_, ht, hv, run_underlying' hu, goInt], .dat (.int _ _)⟩
  · rename_i e hu _
    simp only [Option.map_eq_some_iff] at h
    obtain ⟨es, he, rfl⟩ := h
    obtain ⟨a, cap, rfl, _⟩ := den_elems hx he
    exact ⟨_, by simp [Builtin.len_, ht, hv, run_underlying' hu, goInt], .dat (.int _ _)⟩
  · rename_i n e hu
    cases h
    exact ⟨_, by simp [Builtin.len_, ht, hv, run_underlying' hu, goInt], .dat (.int _ _)⟩
  · rename_i k e hu
    cases h
    cases hx
    exact ⟨_, by simp [Builtin.len_, ht, hv, run_underlying' hu, goInt], .dat (.int _ 0)⟩
  · exact nomatch h

theorem run_nilCheckA {a : Act} {o : Oper} {xo : Operand} {x v : AV} (ho : o.op = .nilCheck xo) (h : nilCheckA x = some v) (hx : Den K x (a.eval xo)) : (execOp a.eval o).run P w = .ok (.value (a.eval xo)) w ∧ Den K v (a.eval xo) := by
  have he : execOp a.eval o = execOp a.eval { o with op := .nilCheck xo } := by cases o; simp only at ho; subst ho; rfl
  rw [he]
  simp only [execOp]
  generalize a.eval xo = vx at hx
  unfold nilCheckA at h
  split at h
  · exact nomatch h
  · exact nomatch h
  · exact nomatch h
  · exact nomatch h
  · cases h
    obtain ⟨va, vc, rfl, _⟩ := hx.func_list
    exact ⟨rfl, hx⟩
  · exact nomatch h
  · rename_i h1 h2 h3 h0 h4 h5
    cases h
    refine ⟨?_, hx⟩
    cases hx with
    | any _ _ => exact (h0 rfl).elim
    | func fn a c va vc => exact (h5 _ _ _ rfl).elim
    | dat h => cases h <;> rfl
    | pnil => exact (h1 rfl).elim
    | nilFunc => exact (h3 rfl).elim
    | nilIface => exact (h2 rfl).elim
    | _ => rfl

end
end Go.Proofs.YtobhpbnlbgbjaaaGreatDoor
