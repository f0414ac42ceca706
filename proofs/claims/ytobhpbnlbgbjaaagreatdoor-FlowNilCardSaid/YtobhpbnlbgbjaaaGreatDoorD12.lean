/- append as the evaluator has it; unsafe.String of a growing slice's bytes. -/
import Derived.Test.YtobhpbnlbgbjaaaGreatDoorDf
set_option linter.unusedSectionVars false
set_option linter.unusedSimpArgs false
set_option linter.unusedVariables false
set_option linter.unusedSimpArgs false
namespace Go.Proofs.YtobhpbnlbgbjaaaGreatDoor
open Go Go.RowKit
set_option linter.unusedSectionVars false
variable [mode : Inhabited ModeT]

section
variable {P : Program} {K : KW} {w : World} {h : Heap} {HF : Nat → Option AObj} {V : Nat → Prop} {ow : Nat → Option OKey} {hc : Nat → Option AObj}

theorem run_append_none {ts : Array TypeId} {ty elem : TypeId} {info : TypeInfo} (ht : AppTypes P ts elem info) {vx : Value} {news : List Value} (hm : More P K info.size vx [] news) (hw : ∀ a c, K.imm a = some c → w.cell? a = some c) {base : Option Addr} {len cap : Nat} (hn : len ≤ cap) :
    (Builtin.append_ ts ty #[.slice base len cap, vx]).run P w = .ok (.slice base len cap) w := by
  obtain ⟨⟨t1, h1, h2⟩, ⟨t2, d, h3, h4, h5⟩, h6⟩ := ht
  have hd : (match d with | .int _ => true | _ => false) = false := by cases d <;> first | rfl | exact absurd rfl (h5 _)
  have hsz : (sizeOf elem).run P w = .ok info.size w := run_sizeOf' (by simp [sizeA, h6])
  have hnil : news = [] := by
    have := hm.den.length
    exact List.eq_nil_of_length_eq_zero (by simpa using this)
  subst hnil
  unfold Builtin.append_
  have hn' : len + ([] : List D).length ≤ cap := by simpa using hn
  simp only [h1, h3, List.getElem?_toArray, List.getElem?_cons_zero, List.getElem?_cons_succ, Sem.run_bind, run_underlying' h2, Result.andThen_ok, hsz, run_underlying' h4, Sem.run_pure]
  simp only [Bool.false_eq_true, if_false, Sem.run_bind, hm.len w, Result.andThen_ok, Bool.not_false, if_true, if_pos hn', hm.cells w hw]
  cases base <;> simp [storeCells]

/-- a state after a call of append, put together -/
theorem gives_appendA {argTypes : Array TypeId} {ty : TypeId} {place : Option Nat} {s x v : AV} {vs vx : Value} {h' : Heap} (hk : Fit K h HF V w) (hp : ∀ r, place = some r → V r ∧ r < h.length) (ha : appendA P argTypes.toList place s x h = some (v, h')) (hs : Den K s vs) (hx : Den K x vx) :
    ∃ u w' K', (Builtin.append_ argTypes ty #[vs, vx]).run P w = .ok u w' ∧ Kext K K' ∧ Den K' v u ∧ Fit K' h' HF (afterV place h.length h'.length V) w' ∧ h.length ≤ h'.length := by
  unfold appendA at ha
  split at ha
  · rename_i hin; exact gives_appendF hk hp ha hin hs hx
  rename_i hnin
  clear hnin
  split at ha
  · rename_i sType xType rest hts
    have ht0 : argTypes[0]? = some sType := by rw [← Array.getElem?_toList, hts]; rfl
    have ht1 : argTypes[1]? = some xType := by rw [← Array.getElem?_toList, hts]; rfl
    split at ha
    · rename_i elem xd hu1 hu2
      split at ha
      · rename_i info hint hinfo
        have hAT : AppTypes P argTypes elem info := ⟨⟨sType, ht0, hu1⟩, ⟨xType, xd, ht1, hu2, fun k e => by subst e; simp at hint⟩, hinfo⟩
        split at ha
        · rename_i xs hxs
          obtain ⟨news, hm⟩ := more_den (P := P) hxs hx
          obtain ⟨ow, hok⟩ := hk.ok
          split at ha
          · exact nomatch ha
          · rename_i hsz0
            split at ha
            · rename_i hemp
              have : xs = [] := by simpa using hemp
              subst this
              split at ha
              · rename_i es hes
                cases ha
                obtain ⟨a, cap, rfl, hcap, _⟩ := den_elems hs hes
                exact ⟨_, w, K, run_append_none hAT hm hok.imm hcap, Kext.refl K, hs, hk.after (fun r hr => (hp r hr).2), Nat.le_refl _⟩
              · exact nomatch ha
            · rename_i hemp
              have hpos : 0 < xs.length := by cases xs with | nil => simp at hemp | cons => simp
              split at ha
              · exact nomatch ha
              · rename_i hzero
                have hzero' : info.zero.map (fun v => v.cells.size) = some info.size := by simpa using hzero
                split at ha
                · -- a mark's slice
                  rename_i id es
                  split at ha
                  · rename_i e n sz hid
                    split at ha
                    · rename_i hcond
                      obtain ⟨c1, c2, c3, c4⟩ := hcond
                      subst c1; subst c2; subst c3
                      cases ha
                      obtain ⟨r, g1, g2, g3, g4, g5⟩ := hok.tip id _ _ _ (comb_some hid)
                      have hlt := lt_of_some hid
                      have hrel := hok.releaseTip g5
                      have hnV : ∀ i, V i → i ≠ id := fun i hi e => by subst e; have := (hok.fresh i hi).1; rw [comb_some hid] at this; exact nomatch this
                      have hkeys : ∀ n', es.length + xs.length ≤ n' → K.key (.tip id n') = none := fun n' hn' => hok.more id _ _ _ (comb_some hid) n' (by omega)
                      have hfin : ∀ o, comb (h.set id (some o)) HF = upd (upd (comb h HF) id none) id (some o) := fun o => by
                        rw [comb_set hlt]; funext i; simp only [upd]; split <;> rfl
                      have hhf : ∀ o i o', HF i = some o' → (h.set id (some o))[i]? = some none := fun o i o' hi => by
                        have h2 := hk.hf i o' hi
                        have : id ≠ i := by rintro rfl; rw [hid] at h2; cases h2
                        rw [List.getElem?_set_ne this]; exact h2
                      have hvl : ∀ i, (h.set id (some (.tip e (es.length + xs.length) info.size))).length ≤ i → afterV place h.length (h.set id (some (.tip e (es.length + xs.length) info.size))).length V i := fun i hi => by
                        simp at hi; exact ⟨hk.vlen i hi, fun e => by have := (hp i e).2; omega, Or.inr (by simpa using hi)⟩
                      cases hs with
                      | tip _ _ r' hr' hcap hcells =>
                        obtain rfl : r' = r := by rw [g1] at hr'; exact (Option.some.inj hr').symm
                        by_cases hin : es.length + xs.length ≤ r'.cap
                        · obtain ⟨w', K', ow', q1, q2, q3, q4⟩ := extend_in (P := P) (ty := ty) hrel hAT hm g3 hcells g4 (by simp [freeOw]) hin (upd_same _ _ _) hnV hkeys
                          rw [g2, g3, ← hfin] at q4
                          exact ⟨_, w', K', q1, q2, q3, ⟨⟨ow', q4.virgin fun i hi => hi.1⟩, hhf _, hvl⟩, by simp⟩
                        · obtain ⟨u, w', K', ow', q1, q2, q3, q4⟩ := extend_grow (P := P) (ty := ty) hrel hAT hm (b := r'.b) (o := 0) (fun _ => rfl) (fun _ => g3) hcells hin c4 hzero' (upd_same _ _ _) hnV hkeys
                          rw [← hfin] at q4
                          exact ⟨u, w', K', q1, q2, q3, ⟨⟨ow', q4.virgin fun i hi => hi.1⟩, hhf _, hvl⟩, by simp⟩
                    · exact nomatch ha
                  · exact nomatch ha
                · -- a slice that lies in a box
                  rename_i b off v0 e0 es
                  split at ha
                  · rename_i be cs ver hb
                    split at ha
                    · rename_i b' off' v' e' es' hcs
                      split at ha
                      · rename_i hcond
                        obtain ⟨rfl, rfl, rfl, rfl, rfl, c6, c9, c7, c8⟩ := hcond
                        split at ha
                        · rename_i id h'' hal
                          cases ha
                          obtain ⟨bb, vv, hbox⟩ := hok.box _ _ _ _ (comb_some hb)
                          obtain ⟨_, _, _, r, g1, g2, g3, g4⟩ := hbox.cell _ _ hcs
                          have hlt := lt_of_some hb
                          have hrel := hok.releaseAt (comb_some hb) hcs g4
                          have hcomb : comb (h.set b' (some (.cells be (cs.set off' (.dat (.slice es'))) ver))) HF = upd (comb h HF) b' (some (.cells be (cs.set off' (.dat (.slice es'))) ver)) := comb_set hlt _
                          rw [← hcomb] at hrel
                          have hfit1 : Fit K (h.set b' (some (.cells be (cs.set off' (.dat (.slice es'))) ver))) HF V w := ⟨⟨_, hrel⟩, fun i o hi => by
                            have h2 := hk.hf i o hi
                            have : b' ≠ i := by rintro rfl; rw [hb] at h2; cases h2
                            rw [List.getElem?_set_ne this]; exact h2, fun i hi => hk.vlen i (by simpa using hi)⟩
                          obtain ⟨a1, a2, a3, a4, a5, a6⟩ := alloc_fit hfit1 (fun r hr => (hp r hr).1) hal
                          have hvir := hrel.virgin (V' := afterV place h.length h'.length V) (fun i hi => hi.1)
                          have hfr := hrel.fresh id a1
                          have hl1 : (h.set b' (some (.cells be (cs.set off' (.dat (.slice es'))) ver))).length = h.length := by simp
                          rw [hl1] at a3 a5 a6
                          cases hs with
                          | «at» _ _ _ _ r' hr' hcap hcells =>
                            obtain rfl : r' = r := by rw [g1] at hr'; exact (Option.some.inj hr').symm
                            have hsz : es ≠ [] → r'.sz = info.size := fun hne => by
                              cases es with
                              | nil => exact absurd rfl hne
                              | cons e es => simp [sized] at c7; rw [← c7]; exact (hcells.1 e (by simp)).symm
                            rw [c6] at g3
                            have hne : es ≠ [] := by rintro rfl; exact c9 rfl
                            by_cases hin : es.length + xs.length ≤ r'.cap
                            · obtain ⟨w', K', ow', q1, q2, q3, q4⟩ := extend_in (P := P) (ty := ty) hvir hAT hm (hsz hne) hcells g3 (by simp [freeOw]) hin hfr.1 (fun i hi => (a6 i hi).2) (fun n' _ => hfr.2.2.1 n')
                              rw [g2, hsz hne, ← a2] at q4
                              exact ⟨_, w', K', q1, q2, q3, ⟨⟨ow', q4⟩, a4, a5⟩, a3⟩
                            · obtain ⟨u, w', K', ow', q1, q2, q3, q4⟩ := extend_grow (P := P) (ty := ty) hvir hAT hm (b := r'.b) (o := 0) (fun _ => rfl) hsz hcells hin c8 hzero' hfr.1 (fun i hi => (a6 i hi).2) (fun n' _ => hfr.2.2.1 n')
                              rw [← a2] at q4
                              exact ⟨u, w', K', q1, q2, q3, ⟨⟨ow', q4⟩, a4, a5⟩, a3⟩
                        · exact nomatch ha
                      · exact nomatch ha
                    · exact nomatch ha
                  · exact nomatch ha
                · -- nobody appends in place
                  rename_i es
                  split at ha
                  · rename_i hcond
                    obtain ⟨c1, c2⟩ := hcond
                    split at ha
                    · rename_i id h'' hal
                      cases ha
                      obtain ⟨a1, a2, a3, a4, a5, a6⟩ := alloc_fit hk (fun r hr => (hp r hr).1) hal
                      have hvir := hok.virgin (V' := afterV place h.length h'.length V) (fun i hi => hi.1)
                      have hfr := hok.fresh id a1
                      cases hs with
                      | full _ a b o sz haa hcells =>
                        have hsz : es ≠ [] → sz = info.size := fun hne => by
                          cases es with
                          | nil => exact absurd rfl hne
                          | cons e es => simp [sized] at c1; rw [← c1]; exact (hcells.1 e (by simp)).symm
                        obtain ⟨u, w', K', ow', q1, q2, q3, q4⟩ := extend_grow (P := P) (ty := ty) hvir hAT hm (base := some a) (cap := es.length) (b := b) (o := o) (fun hne => by rw [haa hne]) hsz hcells (by omega) c2 hzero' hfr.1 (fun i hi => (a6 i hi).2) (fun n' _ => hfr.2.2.1 n')
                        rw [← a2] at q4
                        exact ⟨u, w', K', q1, q2, q3, ⟨⟨ow', q4⟩, a4, a5⟩, a3⟩
                    · exact nomatch ha
                  · exact nomatch ha
                · -- the nil slice
                  split at ha
                  · rename_i c2
                    split at ha
                    · rename_i id h'' hal
                      cases ha
                      obtain ⟨a1, a2, a3, a4, a5, a6⟩ := alloc_fit hk (fun r hr => (hp r hr).1) hal
                      have hvir := hok.virgin (V' := afterV place h.length h'.length V) (fun i hi => hi.1)
                      have hfr := hok.fresh id a1
                      have hnl := den_nils hs
                      subst hnl
                      obtain ⟨u, w', K', ow', q1, q2, q3, q4⟩ := extend_grow (P := P) (ty := ty) hvir hAT hm (es := []) (base := none) (cap := 0) (b := 0) (o := 0) (sz := 0) (by simp) (by simp) ⟨by simp, [], .nil, by simp⟩ (by rw [List.length_nil]; omega) (by simpa using c2) hzero' hfr.1 (fun i hi => (a6 i hi).2) (fun n' _ => hfr.2.2.1 n')
                      simp only [List.length_nil, Nat.zero_add, List.nil_append] at q1 q3 q4
                      rw [← a2] at q4
                      exact ⟨u, w', K', q1, q2, q3, ⟨⟨ow', q4⟩, a4, a5⟩, a3⟩
                    · exact nomatch ha
                  · exact nomatch ha
                · exact nomatch ha
        · exact nomatch ha
      · exact nomatch ha
    · exact nomatch ha
  · exact nomatch ha

end
end Go.Proofs.YtobhpbnlbgbjaaaGreatDoor
