/- Stores: growing slices settle in boxes. -/
import Derived.Test.YtobhpbnlbgbjaaaGreatDoorD8
set_option linter.unusedSectionVars false
set_option linter.unusedSimpArgs false
set_option linter.unusedVariables false
set_option linter.unusedSimpArgs false
namespace Go.Proofs.YtobhpbnlbgbjaaaGreatDoor
open Go Go.RowKit
set_option linter.unusedSectionVars false
variable [mode : Inhabited ModeT]

section
variable {P : Program} {K : KW} {w : World} {HF : Nat → Option AObj} {V : Nat → Prop} {ow : Nat → Option OKey}

structure Settled (K : KW) (ow : Nat → Option OKey) (h : Heap) (HF : Nat → Option AObj) (V : Nat → Prop) (w : World) (id v : Nat) (h' : Heap) (K' : KW) (ow' : Nat → Option OKey) : Prop where
  ext : Kext K K'
  ok : OkW K' (comb h' HF) V w ow'
  cell : ∀ id' i' ver' c, CellOk K w ow id' i' ver' c → CellOk K' w ow' id' i' ver' c
  own : ∀ b k, ow b = some k → (∀ j, k ≠ .tip j) → ow' b = some k
  len : h'.length = h.length
  box : h'[id]? = h[id]?
  hf : ∀ i o, HF i = some o → h'[i]? = some none
  keys : (∀ o' v', v ≤ v' → K.key (.at id o' v') = none) → ∀ o' v', v + 1 ≤ v' → K'.key (.at id o' v') = none

theorem Settled.same {h : Heap} {id v : Nat} (hk : OkW K (comb h HF) V w ow) (hhf : ∀ i o, HF i = some o → h[i]? = some none) : Settled K ow h HF V w id v h K ow :=
  ⟨Kext.refl K, hk, fun _ _ _ _ h => h, fun _ _ h _ => h, rfl, rfl, hhf, fun hkeys o' v' hv => hkeys o' v' (by omega)⟩

theorem settle_ok {h h' : Heap} {id off v ver : Nat} {e : TypeId} {cs : List AV} {x x' : AV} {u : Value} (hk : OkW K (comb h HF) V w ow) (hhf : ∀ i o, HF i = some o → h[i]? = some none)
    (hid : h[id]? = some (some (.cells e cs ver))) (hver : v < ver) (hold : ∀ c, cs[off]? = some c → CellOk K w ow id off ver c) (hkeys : ∀ o' v', v ≤ v' → K.key (.at id o' v') = none) (hx : Den K x u) (hs : settle h id off v cs[off]? x = (x', h')) :
    ∃ K' ow', Settled K ow h HF V w id v h' K' ow' ∧ Den K' x' u ∧ CellOk K' w ow' id off ver x' := by
  unfold settle at hs
  split at hs
  · rename_i i es
    split at hs
    · rename_i e' n sz hi
      split at hs
      · rename_i hc
        obtain ⟨h1, h2⟩ := hc
        cases hs
        obtain ⟨r, g1, g2, g3, g4, g5⟩ := hk.tip i e' n sz (comb_some hi)
        have hhi : HF i = none := by
          cases hh : HF i with
          | none => rfl
          | some o => have := hhf i o hh; rw [hi] at this; cases this
        obtain ⟨ow', k1, k2, k3, k4, k5, k6⟩ := hk.settle (id := id) (off := off) (v := v) (comb_some hi) g1 g4 g5 (hkeys off v (Nat.le_refl _)) (comb_some hid) hver
        refine ⟨_, ow', ⟨k1, ?_, k5, k6, by simp, ?_, fun j o hj => ?_, fun _ o' v' hv' => ?_⟩, ?_, ?_⟩
        · rw [comb_kill (lt_of_some hi) hhi]; exact k2
        · rw [List.getElem?_set_ne h2]
        · have := hhf j o hj
          by_cases hji : i = j
          · subst hji; rw [hhi] at hj; exact nomatch hj
          · rw [List.getElem?_set_ne hji]; exact this
        · have := hkeys o' v' (by omega)
          simp only [withAt, withKey]
          rw [if_neg (by rintro ⟨_, h3, h4⟩; omega)]
          exact this
        · cases hx with
          | tip _ _ r' hr' hcap hcells =>
            rw [← h1] at hr'
            obtain rfl : r' = r := by rw [g1] at hr'; exact (Option.some.inj hr').symm
            have := Den.at (K := withAt K id off v r') id off v es r' withAt_key hcap hcells
            rw [g2] at this
            exact this
        · rw [h1] at k4
          exact ⟨rfl, rfl, hver, r, withAt_key, g2, k4, k3⟩
      · cases hs
        exact ⟨K, ow, .same hk hhf, .dat (den_sealOwn hx), trivial⟩
    · cases hs
      exact ⟨K, ow, .same hk hhf, .dat (den_sealOwn hx), trivial⟩
  · rename_i i o v0 e0 es
    split at hs
    · rename_i i' o' v' e' es' hce
      split at hs
      · rename_i hc
        obtain ⟨rfl, rfl, rfl, rfl, rfl, rfl, hlen⟩ := hc
        cases hs
        refine ⟨K, ow, .same hk hhf, hx, ?_⟩
        have := hold _ hce
        obtain ⟨q1, q2, q3, r, q4, q5, q6, q7⟩ := this
        rw [← hlen] at q6
        exact ⟨q1, q2, q3, r, q4, q5, q6, q7⟩
      · cases hs
        exact ⟨K, ow, .same hk hhf, .dat (den_sealOwn hx), trivial⟩
    · cases hs
      exact ⟨K, ow, .same hk hhf, .dat (den_sealOwn hx), trivial⟩
  · cases hs
    exact ⟨K, ow, .same hk hhf, hx, trivial⟩
  · rename_i h1 h2 h3
    cases hs
    refine ⟨K, ow, .same hk hhf, hx, ?_⟩
    unfold CellOk
    split
    · rename_i j es; exact h1 j es rfl
    · rename_i a b c d es; exact (h2 a b c d es rfl).elim
    · trivial

theorem settleL_ok {id ver : Nat} {e : TypeId} {cs : List AV} : ∀ {xs ws : List AV} {us : List Value} {off v : Nat} {h h' : Heap} {K : KW} {ow : Nat → Option OKey}, OkW K (comb h HF) V w ow → (∀ i o, HF i = some o → h[i]? = some none) →
    h[id]? = some (some (.cells e cs ver)) → v + xs.length ≤ ver → (∀ (i : Nat) (c : AV), cs[i]? = some c → CellOk K w ow id i ver c) → (∀ o' v', v ≤ v' → K.key (.at id o' v') = none) → DenL K xs us → settleL id cs off v h xs = (ws, h') →
    ∃ K' ow', Kext K K' ∧ OkW K' (comb h' HF) V w ow' ∧ (∀ id' i' ver' c, CellOk K w ow id' i' ver' c → CellOk K' w ow' id' i' ver' c) ∧ (∀ b k, ow b = some k → (∀ j, k ≠ .tip j) → ow' b = some k) ∧ h'.length = h.length ∧ h'[id]? = h[id]? ∧
      (∀ i o, HF i = some o → h'[i]? = some none) ∧ DenL K' ws us ∧ ∀ (j : Nat) (c : AV), ws[j]? = some c → CellOk K' w ow' id (off + j) ver c
  | [], ws, us, off, v, h, h', K, ow, hk, hhf, hid, hver, hold, hkeys, hx, hs => by
    simp [settleL] at hs
    obtain ⟨rfl, rfl⟩ := hs
    cases hx
    exact ⟨K, ow, Kext.refl K, hk, fun _ _ _ _ h => h, fun _ _ h _ => h, rfl, rfl, hhf, .nil, fun j c hj => by simp at hj⟩
  | x :: xs, ws, us, off, v, h, h', K, ow, hk, hhf, hid, hver, hold, hkeys, hx, hs => by
    cases hx with
    | cons hx hxs =>
      simp only [List.length_cons] at hver
      simp only [settleL] at hs
      generalize hst : settle h id off v cs[off]? x = p at hs
      obtain ⟨x', h1⟩ := p
      simp only at hs
      generalize hrest : settleL id cs (off + 1) (v + 1) h1 xs = q at hs
      obtain ⟨r', h2⟩ := q
      simp only [Prod.mk.injEq] at hs
      obtain ⟨rfl, rfl⟩ := hs
      obtain ⟨K1, ow1, s1, d1, c1⟩ := settle_ok hk hhf hid (by omega) (fun c hc => hold off c hc) hkeys hx hst
      obtain ⟨K2, ow2, e2, k2, f2, o2, l2, b2, g2, d2, c2⟩ := settleL_ok s1.ok s1.hf (by rw [s1.box]; exact hid) (by omega) (fun i c hc => s1.cell _ _ _ _ (hold i c hc)) (s1.keys hkeys) (hxs.mono s1.ext) hrest
      refine ⟨K2, ow2, s1.ext.trans e2, k2, fun id' i' ver' c hc => f2 _ _ _ _ (s1.cell _ _ _ _ hc), fun b k h3 h4 => o2 b k (s1.own b k h3 h4) h4, by rw [l2, s1.len], by rw [b2, s1.box], g2, .cons (d1.mono e2) d2, fun j c hj => ?_⟩
      cases j with
      | zero => simp at hj; subst hj; exact f2 _ _ _ _ c1
      | succ j =>
        have := c2 j c (by simpa using hj)
        rwa [show off + 1 + j = off + (j + 1) by omega] at this

theorem oneCell_of {x : AV} {u : Value} (h : Den K x u) (hc : x.isCell = true) : u.oneCell' = true := by
  cases h with
  | dat h => cases h <;> first | rfl | simp [AV.isCell] at hc
  | agg => simp [AV.isCell] at hc
  | tuple => simp [AV.isCell] at hc
  | any _ h => exact h
  | _ => rfl

theorem oneCells_of : ∀ {xs : List AV} {us : List Value}, DenL K xs us → xs.all AV.isCell = true → ∀ u, u ∈ us → u.oneCell' = true
  | [], _, .nil, _, u, hu => by simp at hu
  | x :: xs, _, .cons hx hxs, hc, u, hu => by
    simp only [List.all_cons, Bool.and_eq_true] at hc
    rcases List.mem_cons.1 hu with rfl | h
    · exact oneCell_of hx hc.1
    · exact oneCells_of hxs hc.2 u h

/-- a heap in which a box's version is higher -/
theorem OkW.bump {hc : Nat → Option AObj} (hk : OkW K hc V w ow) {id ver ver' : Nat} {e : TypeId} {cs : List AV} (hid : hc id = some (.cells e cs ver)) (hv : ver ≤ ver') : OkW K (upd hc id (some (.cells e cs ver'))) V w ow := by
  refine ⟨hk.imm, hk.below, fun id' e' cs' ver'' hid' => ?_, fun id' e' n sz hid' => ?_, fun id' e' n sz hid' => ?_, fun i hi => ?_, fun id' e' cs' ver'' hid' => ?_, hk.own, fun id' o hid' ho => ?_, hk.freshr⟩
  · by_cases hi : id' = id
    · subst hi; rw [upd_same] at hid'; cases hid'
      obtain ⟨b, vs, hb⟩ := hk.box _ _ _ _ hid
      exact ⟨b, vs, hb.blk, hb.own, hb.base, hb.heap, hb.imm, hb.den, fun i c hc' => (hb.cell i c hc').mono (Kext.refl K) hv fun r n v hf ho => ⟨hf, ho⟩, hb.under⟩
    · rw [upd_ne hi] at hid'; exact hk.box _ _ _ _ hid'
  · by_cases hi : id' = id
    · subst hi; rw [upd_same] at hid'; exact nomatch hid'
    · rw [upd_ne hi] at hid'; exact hk.tip _ _ _ _ hid'
  · by_cases hi : id' = id
    · subst hi; rw [upd_same] at hid'; exact nomatch hid'
    · rw [upd_ne hi] at hid'; exact hk.more _ _ _ _ hid'
  · have := hk.fresh i hi
    have hne : i ≠ id := by rintro rfl; rw [hid] at this; exact nomatch this.1
    exact ⟨by rw [upd_ne hne]; exact this.1, this.2⟩
  · by_cases hi : id' = id
    · subst hi; rw [upd_same] at hid'; cases hid'; exact fun off v h => hk.ver _ _ _ _ hid off v (by omega)
    · rw [upd_ne hi] at hid'; exact hk.ver _ _ _ _ hid'
  · by_cases hi : id' = id
    · subst hi; rw [upd_same] at hid'; cases hid'; cases ho
    · rw [upd_ne hi] at hid'; exact hk.fr _ _ hid' ho

theorem settle_set {h : Heap} {id off v : Nat} {old : Option AV} {x : AV} {o o' : AObj} (hid : h[id]? = some (some o)) (ho : ∀ e n sz, o ≠ .tip e n sz) (ho' : ∀ e n sz, o' ≠ .tip e n sz) :
    settle (h.set id (some o')) id off v old x = ((settle h id off v old x).1, (settle h id off v old x).2.set id (some o')) ∧ (settle h id off v old x).2[id]? = some (some o) := by
  unfold settle
  split
  · rename_i i es
    by_cases hi : i = id
    · subst hi
      rw [List.getElem?_set_self (lt_of_some hid), hid]
      cases o' with
      | tip e n sz => exact absurd rfl (ho' e n sz)
      | _ =>
        cases o with
        | tip e n sz => exact absurd rfl (ho e n sz)
        | _ => exact ⟨rfl, hid⟩
    · rw [List.getElem?_set_ne (fun e => hi e.symm)]
      generalize h[i]? = q
      cases q with
      | none => exact ⟨rfl, hid⟩
      | some q =>
        cases q with
        | none => exact ⟨rfl, hid⟩
        | some q =>
          cases q with
          | tip e n sz =>
            by_cases hc : n = es.length ∧ i ≠ id
            · simp only [if_pos hc]
              exact ⟨by rw [List.set_comm _ _ (fun e => hi e.symm)], by rw [List.getElem?_set_ne hi]; exact hid⟩
            · simp only [if_neg hc]
              exact ⟨trivial, hid⟩
          | _ => exact ⟨rfl, hid⟩
  · split
    · split
      · exact ⟨rfl, hid⟩
      · exact ⟨rfl, hid⟩
    · exact ⟨rfl, hid⟩
  · exact ⟨rfl, hid⟩
  · exact ⟨rfl, hid⟩

theorem settleL_set {id : Nat} {cs : List AV} {o o' : AObj} (ho : ∀ e n sz, o ≠ .tip e n sz) (ho' : ∀ e n sz, o' ≠ .tip e n sz) : ∀ {xs : List AV} {off v : Nat} {h : Heap}, h[id]? = some (some o) →
    settleL id cs off v (h.set id (some o')) xs = ((settleL id cs off v h xs).1, (settleL id cs off v h xs).2.set id (some o'))
  | [], off, v, h, hid => rfl
  | x :: xs, off, v, h, hid => by
    obtain ⟨h1, h2⟩ := settle_set (off := off) (v := v) (old := cs[off]?) (x := x) hid ho ho'
    simp only [settleL]
    rw [h1]
    simp only []
    rw [settleL_set ho ho' h2]

theorem splice_row {α : Type} (A us : List α) (o off n : Nat) (h1 : off + us.length ≤ n) (h2 : o + n ≤ A.length) :
    ((A.take (o + off) ++ us ++ A.drop (o + off + us.length)).drop o).take n = ((A.drop o).take n).take off ++ us ++ ((A.drop o).take n).drop (off + us.length) := by
  have hx : (A.take (o + off)).length = o + off := by rw [List.length_take]; omega
  have hd : (A.take (o + off)).drop o = (A.drop o).take off := by rw [List.drop_take]; congr 1; omega
  rw [List.append_assoc, List.drop_append_of_le_length (by omega), hd, List.take_take, Nat.min_eq_left (by omega), List.append_assoc]
  have hy : ((A.drop o).take off).length = off := by rw [List.length_take, List.length_drop]; omega
  rw [List.take_append, hy, List.take_append, List.take_take, Nat.min_eq_right (by omega), List.take_of_length_le (l := us) (by omega), List.drop_take, List.drop_drop]
  congr 2
  congr 1
  · omega
  · rw [Nat.add_assoc]

/-- a piece of a free box is written -/
theorem write_free {id : Nat} {e : TypeId} {cs : List AV} {v lim lim' fz : Nat} {ex : Bool} {h : Heap} (hk : Fit K h HF V w) (hid : h[id]? = some (some (.free e cs v lim fz ex))) {r : RRow} (hr : K.row id v = some r) {ys : List AV} {us : List Value} {off : Nat}
    (hd : DenL K ys us) (hyc : ys.all AV.isCell = true) (hle : off + ys.length ≤ cs.length) (hfz : fz ≤ off) (hl : limA h lim ys = some lim') :
    ∃ w', (storeCells ⟨r.b, r.o + off, none⟩ us).run P w = .ok () w' ∧ Fit K (h.set id (some (.free e (spliceL cs off ys) v lim' fz ex))) HF V w' := by
  obtain ⟨ow, hok⟩ := hk.ok
  obtain ⟨b, obj, hf, hb, hown, hbase, himm⟩ := hok.fr id _ (comb_some hid) rfl
  have hul : us.length = ys.length := hd.length
  have hone := oneCells_of hd hyc
  cases hf with
  | free _ _ _ _ _ _ r' vs lo hi hr' hsz hcl hcd hu hvn hff hex hcc =>
    obtain rfl : r' = r := by rw [hr] at hr'; exact (Option.some.inj hr').symm
    have hrun := run_storeCells_atF P r'.b (r'.o + off) e (lo, hi) us 0 vs w hb (by simp only; omega) (by omega) hone
    rw [Nat.add_zero] at hrun
    refine ⟨_, hrun, ?_⟩
    generalize hvs' : (vs.toList.take (r'.o + off) ++ us ++ vs.toList.drop (r'.o + off + us.length)).toArray = vs'
    have hvsz : vs'.size = vs.size := by
      subst hvs'
      have : vs.toList.length = vs.size := by simp
      simp only [List.size_toArray, List.length_append, List.length_take, List.length_drop]; omega
    have hcl' : (spliceL cs off ys).length = cs.length := by
      unfold spliceL; simp only [List.length_append, List.length_take, List.length_drop]; omega
    have hlk := limA_ok hl
    have hat : FreeAt { K with row := K.row } id (.free e (spliceL cs off ys) v lim' fz ex) r'.b (.cells vs' e (lo, hi)) := by
      refine .free e _ v lim' fz ex r' vs' lo hi hr (hvsz.trans hsz) (by omega) ?_ ?_ hvn hff (fun h => by rw [hcl']; exact hex h) (by
        rw [List.all_eq_true] at hcc hyc ⊢
        intro x hx
        unfold spliceL at hx
        rcases List.mem_append.1 hx with hx | hx
        · rcases List.mem_append.1 hx with hx | hx
          · exact hcc x (List.mem_of_mem_take hx)
          · exact hyc x hx
        · exact hcc x (List.mem_of_mem_drop hx))
      · subst hvs'
        rw [hcl']
        have := splice_row vs.toList us r'.o off cs.length (by omega) (by simp; omega)
        simp only [] at this ⊢
        rw [this]
        exact denL_splice hcd hd
      · have hu' := undersL_mono hlk.1 hu
        exact undersL_append (undersL_append (undersL_take _ hu') hlk.2) (undersL_drop _ hu')
    have hne : ∀ x k, ow x = some k → k ≠ .fr id → x ≠ r'.b := fun x k h1 h2 h3 => by rw [h3, hown] at h1; exact h2 (Option.some.inj h1).symm
    have hok2 := (hok.turnFr (comb_some hid) rfl (o' := .free e (spliceL cs off ys) v lim' fz ex) rfl (row := K.row) (w' := w.setRow r'.b vs') (fun _ _ _ h => h) (fun _ _ _ => rfl) hat (setRow_heap w r'.b vs vs' e (lo, hi) hb) hbase himm (Or.inr hown)
      (hok.below.step rfl rfl rfl ⟨by simp, fun k hk' => setRow_other w r'.b k vs' (by intro e; subst e; first | exact absurd hk' (by assumption) | exact absurd hk' hb.base | exact absurd hk' (by simpa using hbase))⟩) (by simp) (fun x k h1 h2 => setRow_other w r'.b x vs' (hne x k h1 h2)) fun a c ha => by
        have h1 := hok.imm a c ha
        have : a.block ≠ r'.b := by
          intro e1
          have := himm a.off a.spot
          rw [← e1, show (⟨a.block, a.off, a.spot⟩ : Addr) = a from rfl, ha] at this
          exact nomatch this
        rw [cell_same (setRow_other w r'.b a.block vs' this)]; exact h1).1
    refine ⟨⟨_, by rw [comb_set (lt_of_some hid)]; exact hok2⟩, fun i o hi' => ?_, fun i hi' => hk.vlen i (by simpa using hi')⟩
    have h2 := hk.hf i o hi'
    have : id ≠ i := by rintro rfl; rw [hid] at h2; cases h2
    rw [List.getElem?_set_ne this]; exact h2

theorem run_storeA {t : TypeId} {x v : AV} {vx vv : Value} {h h' : Heap} (hk : Fit K h HF V w) (hs : storeA P t x v h = some h') (hx : Den K x vx) (hv : Den K v vv) :
    ∃ w' K', (Instr.storeAt t vx vv).run P w = .ok () w' ∧ Kext K K' ∧ Fit K' h' HF V w' ∧ h'.length = h.length := by
  unfold storeA at hs
  split at hs
  · rename_i id off n hn
    split at hs
    · rename_i e cs ver hid
      dsimp only at hs
      split at hs
      · rename_i hc
        obtain ⟨c1, c2, c3⟩ := hc
        generalize hst : settleL id cs off ver h v.cells = p at hs
        obtain ⟨ws, h1⟩ := p
        simp only at hs
        split at hs
        · rename_i hu
          cases hs
          obtain ⟨ow, hok⟩ := hk.ok
          obtain ⟨b, vs, hb⟩ := hok.box id e cs ver (comb_some hid)
          cases hx with
          | ptr _ _ b' hb' =>
            obtain rfl : b' = b := by rw [hb.blk] at hb'; exact (Option.some.inj hb').symm
            have hcl := hv.cells
            have hl1 : vv.cells.size = n := by have := hcl.length; simp at this; omega
            have hl2 : vs.size = cs.length := by have := hb.den.length; simpa using this
            -- the run
            have hrun : (Instr.storeAt t (.pointer (some ⟨b', off, none⟩)) vv).run P w = .ok () (w.setRow b' (vs.toList.take off ++ vv.cells.toList ++ vs.toList.drop (off + vv.cells.toList.length)).toArray) := by
              have := run_storeCells_atF P b' off e (0, 0) vv.cells.toList 0 vs w hb.heap (by simp) (by simp; omega) (oneCells_of hcl c3)
              rw [Nat.add_zero] at this
              simp only [Instr.storeAt, Instr.sureAddr, Sem.run_bind, Sem.run_pure, Result.andThen_ok, storeVar, run_sizeOf' hn]
              rw [if_neg (by simp [hl1])]
              exact this
            -- the heap with the higher version
            have hcomb : comb (h.set id (some (.cells e cs (ver + n)))) HF = upd (comb h HF) id (some (.cells e cs (ver + n))) := comb_set (lt_of_some hid) _
            have hok1 : OkW K (comb (h.set id (some (.cells e cs (ver + n)))) HF) V w ow := by rw [hcomb]; exact hok.bump (comb_some hid) (by omega)
            have hst1 : settleL id cs off ver (h.set id (some (.cells e cs (ver + n)))) v.cells = (ws, h1.set id (some (.cells e cs (ver + n)))) := by
              rw [settleL_set (o := .cells e cs ver) (by intro _ _ _ h; cases h) (by intro _ _ _ h; cases h) hid, hst]
            have hhf1 : ∀ i o, HF i = some o → (h.set id (some (.cells e cs (ver + n))))[i]? = some none := fun i o hi => by
              have h2 := hk.hf i o hi
              have : id ≠ i := by rintro rfl; rw [hid] at h2; cases h2
              rw [List.getElem?_set_ne this]; exact h2
            obtain ⟨K', ow', e1, e2, e3, e4, e5, e6, e7, e8, e9⟩ := settleL_ok hok1 hhf1 (List.getElem?_set_self (lt_of_some hid)) (by omega) (fun i c hi => (hb.cell i c hi).mono (Kext.refl K) (by omega) fun r n v hf ho => ⟨hf, ho⟩) (hok.ver id e cs ver (comb_some hid)) hcl hst1
            have hlen1 : id < h1.length := by have := lt_of_some hid; simp at e5; omega
            have hid1 : comb (h1.set id (some (.cells e cs (ver + n)))) HF id = some (.cells e cs (ver + n)) := comb_some (List.getElem?_set_self hlen1)
            obtain ⟨b2, vs2, hb2⟩ := e2.box id e cs (ver + n) hid1
            obtain rfl : b2 = b' := by have h3 := hb2.blk; rw [e1.blk _ _ hb.blk] at h3; exact (Option.some.inj h3).symm
            obtain rfl : vs2 = vs := by have h3 := hb2.heap; rw [hb.heap] at h3; cases h3; rfl
            have hwl : ws.length = n := by have := e8.length; simp at this; omega
            have hden := denL_splice (off := off) hb2.den e8
            have hok2 := e2.setBox (vs' := (vs2.toList.take off ++ vv.cells.toList ++ vs2.toList.drop (off + vv.cells.toList.length)).toArray) (cs' := spliceL cs off ws) rfl hid1 hb2 (by simpa using hden) (fun i c hi => by
                unfold spliceL at hi
                rw [List.append_assoc, List.getElem?_append] at hi
                have htl : (cs.take off).length = off := by simp; omega
                split at hi
                · rw [List.getElem?_take] at hi
                  split at hi
                  · exact hb2.cell i c hi
                  · exact nomatch hi
                · rename_i hge
                  rw [htl] at hi hge
                  rw [List.getElem?_append] at hi
                  split at hi
                  · have := e9 _ c hi
                    rwa [show off + (i - off) = i by omega] at this
                  · rename_i hge2
                    rw [List.getElem?_drop] at hi
                    have hieq : off + ws.length + (i - off - ws.length) = i := by omega
                    rw [hieq] at hi
                    exact hb2.cell i c hi) (by
                unfold spliceL
                have hund : ∀ {a b : List AV}, undersL (id + 1) (a ++ b) = (undersL (id + 1) a && undersL (id + 1) b) := by
                  intro a b
                  induction a with
                  | nil => simp [undersL]
                  | cons x xs ih => simp [undersL, ih, Bool.and_assoc]
                have hcs := hb2.under
                have h1 : undersL (id + 1) (cs.take off) = true := by
                  rw [← List.take_append_drop off cs, hund, Bool.and_eq_true] at hcs; exact hcs.1
                have h2 : undersL (id + 1) (cs.drop (off + ws.length)) = true := by
                  rw [← List.take_append_drop (off + ws.length) cs, hund, Bool.and_eq_true] at hcs; exact hcs.2
                rw [hund, hund, h1, h2, hu]; rfl) (Nat.le_refl _)
            refine ⟨_, K', hrun, e1, ⟨⟨ow', ?_⟩, fun i o hi => ?_, fun i hi => ?_⟩, by simp at e5 ⊢; exact e5⟩
            · rw [← comb_set (by simp; exact hlen1), List.set_set] at hok2
              exact hok2
            · have h2 := e7 i o hi
              have : id ≠ i := by rintro rfl; rw [List.getElem?_set_self hlen1] at h2; cases h2
              rw [List.getElem?_set_ne this] at h2 ⊢; exact h2
            · refine hk.vlen i ?_
              simp at hi e5; omega
        · exact nomatch hs
      · exact nomatch hs
    · exact nomatch hs
  · rename_i id ver off n hn
    split at hs
    · rename_i e cs v' lim fz ex hid
      split at hs
      · rename_i hc
        obtain ⟨rfl, c1, c2, c3, c4⟩ := hc
        split at hs
        · rename_i lim' hl
          cases hs
          cases hx with
          | fp _ _ _ r hr =>
            have hcl := hv.cells
            have hl1 : vv.cells.size = n := by have := hcl.length; simp at this; omega
            obtain ⟨w', h1, h2⟩ := write_free (P := P) (off := off) hk hid hr hcl c3 (by omega) c4 hl
            refine ⟨w', K, ?_, Kext.refl K, h2, by simp⟩
            simp only [Instr.storeAt, Instr.sureAddr, Sem.run_bind, Sem.run_pure, Result.andThen_ok, storeVar, run_sizeOf' hn]
            rw [if_neg (by simp [hl1])]
            exact h1
        · exact nomatch hs
      · exact nomatch hs
    · exact nomatch hs
  · exact nomatch hs

end
end Go.Proofs.YtobhpbnlbgbjaaaGreatDoor
