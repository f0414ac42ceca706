/- What stays as it is from now on; what lies under a bound. -/
import Derived.Test.YtobhpbnlbgbjaaaGreatDoorE5
set_option linter.unusedSectionVars false
set_option linter.unusedSimpArgs false
set_option linter.unusedVariables false
set_option linter.unusedSimpArgs false
namespace Go.Proofs.YtobhpbnlbgbjaaaGreatDoor
open Go Go.RowKit
set_option linter.unusedSectionVars false
variable [mode : Inhabited ModeT]

section
variable {P : Program} {K : KW} {w : World} {h : Heap} {HF : Nat → Option AObj} {V : Nat → Prop}

theorem chunk_head {sz : Nat} (ds : List D) (h : sz ≤ ds.length) : (headOf sz ds).cells = ds.take sz := by
  unfold headOf
  split
  · rename_i h1
    subst h1
    cases ds with
    | nil => simp at h
    | cons d r => cases d <;> rfl
  · rfl

theorem chunk_ok {sz : Nat} (hsz : sz ≠ 0) : ∀ {n : Nat} {ds : List D}, ds.length = n * sz → (chunkD sz n ds).flatMap D.cells = ds ∧ (chunkD sz n ds).length = n ∧ ∀ e, e ∈ chunkD sz n ds → e.cells.length = sz
  | 0, ds, h => by
    have : ds = [] := List.eq_nil_of_length_eq_zero (by simpa using h)
    subst this
    exact ⟨rfl, rfl, fun e he => by simp [chunkD] at he⟩
  | n + 1, ds, h => by
    rw [Nat.succ_mul] at h
    obtain ⟨h1, h2, h3⟩ := chunk_ok hsz (n := n) (ds := ds.drop sz) (by rw [List.length_drop]; omega)
    have hhead := chunk_head (sz := sz) ds (by omega)
    simp only [chunkD]
    refine ⟨?_, by rw [List.length_cons, h2], fun e he => ?_⟩
    · rw [List.flatMap_cons, h1, hhead, List.take_append_drop]
    · rcases List.mem_cons.1 he with rfl | he
      · rw [hhead, List.length_take]; omega
      · exact h3 e he

/-- what a function of this kind keeps -/
def StillOk (f : AV → Heap → AV × Heap) : Prop :=
  ∀ (K : KW) (h : Heap) (HF : Nat → Option AObj) (V : Nat → Prop) (w : World) (v : AV) (u : Value), Den K v u → Fit K h HF V w → ∃ K', Kext K K' ∧ Den K' (f v h).1 u ∧ Fit K' (f v h).2 HF V w ∧ (f v h).2.length = h.length

theorem stillL_ok {f : AV → Heap → AV × Heap} (hf : StillOk f) : ∀ {vs : List AV} {us : List Value} {K : KW} {h : Heap} {HF : Nat → Option AObj} {V : Nat → Prop} {w : World}, DenL K vs us → Fit K h HF V w → ∃ K', Kext K K' ∧ DenL K' (stillL f vs h).1 us ∧ Fit K' (stillL f vs h).2 HF V w ∧ (stillL f vs h).2.length = h.length
  | [], _, K, h, HF, V, w, .nil, hk => ⟨K, Kext.refl K, .nil, hk, rfl⟩
  | v :: vs, _, K, h, HF, V, w, .cons (v := u) (vs := us) hd hds, hk => by
    obtain ⟨K1, e1, d1, f1, l1⟩ := hf K h HF V w v u hd hk
    obtain ⟨K2, e2, d2, f2, l2⟩ := stillL_ok hf (hds.mono e1) f1
    simp only [stillL]
    exact ⟨K2, e1.trans e2, .cons (d1.mono e2) d2, f2, l2.trans l1⟩

theorem stillV_ok : ∀ d, StillOk (stillV d)
  | 0 => fun K h HF V w v u hd hk => ⟨K, Kext.refl K, hd, hk, rfl⟩
  | d + 1 => by
    have ih := stillV_ok d
    intro K h HF V w v u hd hk
    simp only [stillV]
    split
    · rename_i id ver off len sz
      split
      · rename_i e cs w0 lim fz ex hid
        split
        · rename_i hcond
          obtain ⟨rfl, hle⟩ := hcond
          obtain ⟨ow, hok⟩ := hk.ok
          obtain ⟨b, obj, hf, hheap, hown, hbase, himm⟩ := hok.fr id _ (comb_some hid) rfl
          cases hf with
          | free _ _ _ _ _ _ r vs lo hi hr hsz hcl hcd hu hvn hff hex hcc =>
          cases hd with
          | row _ _ _ _ _ r' hr' hz hle' =>
          obtain rfl : r' = r := by rw [hr] at hr'; exact (Option.some.inj hr').symm
          have hlt := lt_of_some hid
          have hHF : HF id = none := hk.hf_none hid
          have hok1 := hok.letFr (comb_some hid) rfl hown
          obtain ⟨hok2, hext⟩ := hok1.told (m := vs.size) hheap (by simp) hbase
          have hfit : Fit (withImm K r'.b vs.size vs) (h.set id none) HF V w := ⟨⟨_, by rw [comb_kill hlt hHF]; exact hok2⟩, fun i o hi => by
            have h2 := hk.hf i o hi
            have : id ≠ i := by rintro rfl; rw [hid] at h2; cases h2
            rw [List.getElem?_set_ne this]; exact h2, fun i hi => hk.vlen i (by simpa using hi)⟩
          have hvl : vs.toList.length = vs.size := by simp
          have hcut : DenL (withImm K r'.b vs.size vs) ((cs.drop off).take (len * sz)) ((((vs.toList.drop r'.o).take cs.length).drop off).take (len * sz)) := ((hcd.drop off).take _).mono hext
          obtain ⟨K1, e1, d1, f1, l1⟩ := stillL_ok ih hcut hfit
          generalize hst : stillL (stillV d) ((cs.drop off).take (len * sz)) (h.set id none) = p at d1 f1 l1
          obtain ⟨ws, h'⟩ := p
          simp only at d1 f1 l1 ⊢
          have hrow : Den K1 (.row id w0 off len sz) (.slice (some ⟨r'.b, r'.o + off, none⟩) len ((r'.n - off) / sz)) := .row id w0 off len sz r' ((hext.trans e1).row _ _ _ hr) hz hle'
          split
          · rename_i ds hds
            refine ⟨K1, hext.trans e1, ?_, f1, by simpa using l1⟩
            have hd2 := allDat_some hds
            rw [hd2] at d1
            have hdd := denDL_of_map d1
            have hdl : ds.length = len * sz := by
              have := hdd.length
              rw [List.length_take, List.length_drop, List.length_take, List.length_drop] at this
              omega
            obtain ⟨c1, c2, c3⟩ := chunk_ok hz hdl
            have := DenD.of_cells (imm := K1.imm) (es := chunkD sz len ds) (a := ⟨r'.b, r'.o + off, none⟩) (cap := (r'.n - off) / sz) (b := r'.b) (o := r'.o + off) (sz := sz) (by rw [c2]; exact (Nat.le_div_iff_mul_le (by omega)).2 (by omega)) (fun _ => rfl)
              ⟨c3, _, by rw [c1]; exact hdd, fun j v hj => e1.imm _ _ (by
                rw [List.getElem?_take] at hj
                split at hj
                · rw [List.getElem?_drop, List.getElem?_take] at hj
                  split at hj
                  · rw [List.getElem?_drop] at hj
                    have hjl := lt_of_some hj
                    rw [Nat.add_assoc, withImm_in (by omega), ← Array.getElem?_toList]
                    exact hj
                  · cases hj
                · cases hj)⟩
            rw [c2] at this
            exact .dat this
          · exact ⟨K1, hext.trans e1, hrow, f1, by simpa using l1⟩
        · exact ⟨K, Kext.refl K, hd, hk, rfl⟩
      · exact ⟨K, Kext.refl K, hd, hk, rfl⟩
    · obtain ⟨vs, rfl, hl⟩ := hd.agg_list
      obtain ⟨K1, e1, d1, f1, l1⟩ := stillL_ok ih hl hk
      exact ⟨K1, e1, den_mkAgg d1, f1, l1⟩
    · obtain ⟨vs, rfl, hl⟩ := hd.tuple_list
      obtain ⟨K1, e1, d1, f1, l1⟩ := stillL_ok ih hl hk
      exact ⟨K1, e1, Den.of_tuple d1, f1, l1⟩
    · exact ⟨K, Kext.refl K, hd, hk, rfl⟩

/-- nothing is told of names from n on -/
def Bare (K : KW) (n : Nat) : Prop := ∀ i, n ≤ i → K.blk i = none ∧ (∀ m, K.key (.tip i m) = none) ∧ (∀ off v, K.key (.at i off v) = none) ∧ ∀ v, K.row i v = none

theorem lt_of_told {α : Type} {n i : Nat} {x : Option α} {y : α} (hx : x = some y) (h : n ≤ i → x = none) : i < n := by
  rcases Nat.lt_or_ge i n with h1 | h1
  · exact h1
  · rw [h h1] at hx; cases hx

theorem undersL_of_index {n : Nat} : ∀ {l : List AV}, (∀ (j : Nat) (x : AV), l[j]? = some x → x.under n = true) → undersL n l = true
  | [], _ => rfl
  | x :: l, h => by
    simp only [undersL, Bool.and_eq_true]
    exact ⟨h 0 x rfl, undersL_of_index fun j y hj => h (j + 1) y (by simpa using hj)⟩

theorem den_under {n : Nat} (hb : Bare K n) {x : AV} {v : Value} (h : Den K x v) : x.under n = true := by
  induction h with
  | dat h => rfl
  | full es a b o sz ha h => rfl
  | tip id es r hr hcap h => simp only [AV.under, decide_eq_true_eq]; exact lt_of_told hr fun h => (hb _ h).2.1 _
  | «at» id off ver es r hr hcap h => simp only [AV.under, decide_eq_true_eq]; exact lt_of_told hr fun h => (hb _ h).2.2.1 _ _
  | pnil => rfl
  | ptr id off b h => simp only [AV.under, decide_eq_true_eq]; exact lt_of_told h fun h => (hb _ h).1
  | ep cs off b o vs h hv => rfl
  | func fn a c va vc hla _ hlc _ iha ihc =>
    simp only [AV.under, Bool.and_eq_true]
    refine ⟨undersL_of_index fun j x hj => ?_, undersL_of_index fun j x hj => ?_⟩
    · obtain ⟨v, hv⟩ : ∃ v, va.toList[j]? = some v := ⟨_, List.getElem?_eq_getElem (by rw [hla]; exact lt_of_some hj)⟩
      exact iha j x v hj hv
    · obtain ⟨v, hv⟩ : ∃ v, vc.toList[j]? = some v := ⟨_, List.getElem?_eq_getElem (by rw [hlc]; exact lt_of_some hj)⟩
      exact ihc j x v hj hv
  | nilFunc => rfl
  | iface t _ ih => exact ih
  | nilIface => rfl
  | agg cs vs hl _ ih =>
    refine undersL_of_index fun j x hj => ?_
    obtain ⟨v, hv⟩ : ∃ v, vs.toList[j]? = some v := ⟨_, List.getElem?_eq_getElem (by rw [hl]; exact lt_of_some hj)⟩
    exact ih j x v hj hv
  | tuple cs vs hl _ ih =>
    refine undersL_of_index fun j x hj => ?_
    obtain ⟨v, hv⟩ : ∃ v, vs.toList[j]? = some v := ⟨_, List.getElem?_eq_getElem (by rw [hl]; exact lt_of_some hj)⟩
    exact ih j x v hj hv
  | sdata id off ver es r hr hcap h => simp only [AV.under, decide_eq_true_eq]; exact lt_of_told hr fun h => (hb _ h).2.2.1 _ _
  | fp id ver off r hr => simp only [AV.under, decide_eq_true_eq]; exact lt_of_told hr fun h => (hb _ h).2.2.2 _
  | row id ver off len sz r hr hs hle => simp only [AV.under, decide_eq_true_eq]; exact lt_of_told hr fun h => (hb _ h).2.2.2 _
  | mapnil => rfl
  | mapv id b h => simp only [AV.under, decide_eq_true_eq]; exact lt_of_told h fun h => (hb _ h).1
  | any v h => rfl

theorem denL_under {n : Nat} (hb : Bare K n) {xs : List AV} {vs : List Value} (h : DenL K xs vs) : undersL n xs = true := by
  induction h with
  | nil => rfl
  | cons hd _ ih => simp only [undersL, Bool.and_eq_true]; exact ⟨den_under hb hd, ih⟩

/-- what a free box names lies under n -/
def AObj.underN (n : Nat) : AObj → Prop
  | .free _ cs _ _ _ _ => undersL n cs = true
  | .mp es _ _ => undersL n (es.map fun e => e.2.1) = true
  | .mit (some m) _ _ _ => m < n
  | _ => True

theorem entL_under {n : Nat} (hb : Bare K n) {es : List (D × AV × Nat)} {ms : List MapEntry} (h : EntL K es ms) : undersL n (es.map fun e => e.2.1) = true := by
  induction h with
  | nil => rfl
  | cons _ hd _ ih => simp only [List.map_cons, undersL, Bool.and_eq_true]; exact ⟨den_under hb hd, ih⟩

theorem freeAt_under {n : Nat} (hb : Bare K n) {id : Nat} {o : AObj} {b : Nat} {obj : Obj} (h : FreeAt K id o b obj) : o.underN n := by
  cases h with
  | free e cs ver lim fz ex r vs lo hi hr hsz hle hd hu hv hfz hex hcl => exact denL_under hb hd
  | mp es clock lim b ms hb' hd hu => exact entL_under hb hd
  | sit s pos b hb' => trivial
  | mit0 b since last seen hb' => trivial
  | mit m b bm since last seen hb' hm => exact lt_of_told hm fun h => (hb _ h).1

theorem limOk_under {n : Nat} {id : Nat} {o : AObj} {b : Nat} {obj : Obj} (hl : limOk n (some o) = true) (h : FreeAt K id o b obj) : o.underN n := by
  cases h with
  | free e cs ver lim fz ex r vs lo hi hr hsz hle hd hu hv hfz hex hcl => simp only [limOk, decide_eq_true_eq] at hl; exact undersL_mono hl hu
  | mp es clock lim b ms hb' hd hu => simp only [limOk, decide_eq_true_eq] at hl; exact undersL_mono hl hu
  | sit s pos b hb' => trivial
  | mit0 b since last seen hb' => trivial
  | mit m b bm since last seen hb' hm => simp only [limOk, decide_eq_true_eq] at hl; exact hl

end
end Go.Proofs.YtobhpbnlbgbjaaaGreatDoor
