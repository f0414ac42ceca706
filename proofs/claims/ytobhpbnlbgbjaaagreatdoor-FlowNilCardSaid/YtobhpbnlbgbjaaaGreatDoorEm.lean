/- Boxes under other names: what a call leaves in places that were kept for it. -/
import Derived.Test.YtobhpbnlbgbjaaaGreatDoorE2
set_option linter.unusedSectionVars false
set_option linter.unusedSimpArgs false
set_option linter.unusedVariables false
set_option linter.unusedSimpArgs false
namespace Go.Proofs.YtobhpbnlbgbjaaaGreatDoor
open Go Go.RowKit
set_option linter.unusedSectionVars false
variable [mode : Inhabited ModeT]

theorem movL_eq (p : Nat → Nat) : ∀ l : List AV, AV.movL p l = l.map (AV.mov p)
  | [] => rfl
  | v :: r => by simp only [AV.movL, List.map_cons]; rw [movL_eq p r]

def Key.mov (p : Nat → Nat) : Key → Key
  | .tip i n => .tip (p i) n
  | .at i o v => .at (p i) o v
def OKey.mov (p : Nat → Nat) : OKey → OKey
  | .box i => .box (p i)
  | .tip i => .tip (p i)
  | .at i o v => .at (p i) o v
  | .fr i => .fr (p i)

/-- the same, boxes under other names -/
def KW.mov (p : Nat → Nat) (K : KW) : KW := { K with blk := fun i => K.blk (p i), key := fun k => K.key (k.mov p), row := fun i v => K.row (p i) v }

section
variable {p : Nat → Nat} (hp : ∀ i, p (p i) = i)
include hp

theorem den_mov {K : KW} {x : AV} {v : Value} (h : Den K x v) : Den (K.mov p) (x.mov p) v := by
  induction h with
  | dat h => exact .dat h
  | full es a b o sz ha h => exact .full es a b o sz ha h
  | tip id es r hr hcap h => exact .tip (p id) es r (by show K.key (.tip (p (p id)) es.length) = _; rw [hp]; exact hr) hcap h
  | «at» id off ver es r hr hcap h => exact .at (p id) off ver es r (by show K.key (.at (p (p id)) off ver) = _; rw [hp]; exact hr) hcap h
  | pnil => exact .pnil
  | ptr id off b h => exact .ptr (p id) off b (by show K.blk (p (p id)) = _; rw [hp]; exact h)
  | ep cs off b o vs h hv => exact .ep cs off b o vs h hv
  | func fn a c va vc hla _ hlc _ iha ihc =>
    simp only [AV.mov, movL_eq]
    refine .func fn _ _ va vc (by rw [List.length_map]; exact hla) (fun j x v h1 h2 => ?_) (by rw [List.length_map]; exact hlc) (fun j x v h1 h2 => ?_)
    · rw [List.getElem?_map, Option.map_eq_some_iff] at h1
      obtain ⟨y, h3, rfl⟩ := h1
      exact iha j y v h3 h2
    · rw [List.getElem?_map, Option.map_eq_some_iff] at h1
      obtain ⟨y, h3, rfl⟩ := h1
      exact ihc j y v h3 h2
  | nilFunc => exact .nilFunc
  | iface t _ ih => exact .iface t ih
  | nilIface => exact .nilIface
  | agg cs vs hl _ ih =>
    simp only [AV.mov, movL_eq]
    refine .agg _ vs (by rw [List.length_map]; exact hl) fun j x v h1 h2 => ?_
    rw [List.getElem?_map, Option.map_eq_some_iff] at h1
    obtain ⟨y, h3, rfl⟩ := h1
    exact ih j y v h3 h2
  | tuple cs vs hl _ ih =>
    simp only [AV.mov, movL_eq]
    refine .tuple _ vs (by rw [List.length_map]; exact hl) fun j x v h1 h2 => ?_
    rw [List.getElem?_map, Option.map_eq_some_iff] at h1
    obtain ⟨y, h3, rfl⟩ := h1
    exact ih j y v h3 h2
  | sdata id off ver es r hr hcap h => exact .sdata (p id) off ver es r (by show K.key (.at (p (p id)) off ver) = _; rw [hp]; exact hr) hcap h
  | fp id ver off r hr => exact .fp (p id) ver off r (by show K.row (p (p id)) ver = _; rw [hp]; exact hr)
  | row id ver off len sz r hr hs hle => exact .row (p id) ver off len sz r (by show K.row (p (p id)) ver = _; rw [hp]; exact hr) hs hle
  | mapnil => exact .mapnil
  | mapv id b h => exact .mapv (p id) b (by show K.blk (p (p id)) = _; rw [hp]; exact h)
  | any v h => exact .any v h

theorem denL_mov {K : KW} {xs : List AV} {vs : List Value} (h : DenL K xs vs) : DenL (K.mov p) (AV.movL p xs) vs := by
  induction h with
  | nil => exact .nil
  | cons hd _ ih => exact .cons (den_mov hp hd) ih
end

/-- names that are not known stay away: what is known is not moved -/
def Fixes (p : Nat → Nat) (K : KW) : Prop := ∀ i, p i ≠ i → K.blk i = none ∧ (∀ n, K.key (.tip i n) = none) ∧ (∀ off v, K.key (.at i off v) = none) ∧ ∀ v, K.row i v = none

theorem den_fix {p : Nat → Nat} {K : KW} (hf : Fixes p K) {x : AV} {v : Value} (h : Den K x v) : x.mov p = x := by
  have hl : ∀ (cs : List AV) (vs : List Value), vs.length = cs.length → (∀ (j : Nat) (x : AV) (v : Value), cs[j]? = some x → vs[j]? = some v → x.mov p = x) → AV.movL p cs = cs := fun cs vs hlen hh => by
    rw [movL_eq]
    apply List.ext_getElem?
    intro j
    rw [List.getElem?_map]
    cases hj : cs[j]? with
    | none => rfl
    | some x =>
      have hjl : j < vs.length := by
        rcases Nat.lt_or_ge j cs.length with h | h
        · omega
        · rw [List.getElem?_eq_none h] at hj; cases hj
      simp only [Option.map_some, hh j x _ hj (List.getElem?_eq_getElem hjl)]
  have hb : ∀ i b, K.blk i = some b → p i = i := fun i b h => by
    by_cases hh : p i = i
    · exact hh
    · rw [(hf i hh).1] at h; cases h
  have ht : ∀ i n r, K.key (.tip i n) = some r → p i = i := fun i n r h => by
    by_cases hh : p i = i
    · exact hh
    · rw [(hf i hh).2.1] at h; cases h
  have ha : ∀ i o n r, K.key (.at i o n) = some r → p i = i := fun i o n r h => by
    by_cases hh : p i = i
    · exact hh
    · rw [(hf i hh).2.2.1] at h; cases h
  have hr : ∀ i v r, K.row i v = some r → p i = i := fun i v r h => by
    by_cases hh : p i = i
    · exact hh
    · rw [(hf i hh).2.2.2] at h; cases h
  induction h with
  | dat h => rfl
  | full es a b o sz ha h => rfl
  | tip id es r h1 hcap h => simp only [AV.mov, ht _ _ _ h1]
  | «at» id off ver es r h1 hcap h => simp only [AV.mov, ha _ _ _ _ h1]
  | pnil => rfl
  | ptr id off b h => simp only [AV.mov, hb _ _ h]
  | ep cs off b o vs h hv => rfl
  | func fn a c va vc hla _ hlc _ iha ihc => simp only [AV.mov, hl a _ hla iha, hl c _ hlc ihc]
  | nilFunc => rfl
  | iface t _ ih => simp only [AV.mov, ih]
  | nilIface => rfl
  | agg cs vs hla _ ih => simp only [AV.mov, hl cs _ hla ih]
  | tuple cs vs hla _ ih => simp only [AV.mov, hl cs _ hla ih]
  | sdata id off ver es r h1 hcap h => simp only [AV.mov, ha _ _ _ _ h1]
  | fp id ver off r h1 => simp only [AV.mov, hr _ _ _ h1]
  | row id ver off len sz r h1 hs hle => simp only [AV.mov, hr _ _ _ h1]
  | mapnil => rfl
  | mapv id b h => simp only [AV.mov, hb _ _ h]
  | any v h => rfl

theorem denL_fix {p : Nat → Nat} {K : KW} (hf : Fixes p K) {xs : List AV} {vs : List Value} (h : DenL K xs vs) : AV.movL p xs = xs := by
  induction h with
  | nil => rfl
  | cons hd _ ih => simp only [AV.movL, den_fix hf hd, ih]

theorem entL_mov {p : Nat → Nat} (hp : ∀ i, p (p i) = i) {K : KW} {es : List (D × AV × Nat)} {ms : List MapEntry} (h : EntL K es ms) : EntL (K.mov p) (es.map fun x => (x.1, x.2.1.mov p, x.2.2)) ms := by
  induction h with
  | nil => exact .nil
  | cons h1 h2 _ ih => exact .cons h1 (den_mov hp h2) ih

theorem entL_fix {p : Nat → Nat} {K : KW} (hf : Fixes p K) {es : List (D × AV × Nat)} {ms : List MapEntry} (h : EntL K es ms) : (es.map fun x => (x.1, x.2.1.mov p, x.2.2)) = es := by
  induction h with
  | nil => rfl
  | cons h1 h2 _ ih => simp only [List.map_cons, ih, den_fix hf h2]

theorem freeAt_mov {p : Nat → Nat} (hp : ∀ i, p (p i) = i) {n m id b : Nat} {K : KW} {o : AObj} {obj : Obj} (h : FreeAt K id o b obj) (ho : ordOk (p id) (o.mov p n m) = true) : FreeAt (K.mov p) (p id) (o.mov p n m) b obj := by
  cases h with
  | free e cs ver lim fz ex r vs lo hi hr hsz hle hd hu hv hfz hex hcl =>
    have hlen : (AV.movL p cs).length = cs.length := by rw [movL_eq, List.length_map]
    refine .free e _ ver _ fz ex r vs lo hi (by show K.row (p (p id)) ver = _; rw [hp]; exact hr) hsz (by rw [hlen]; exact hle) (by rw [hlen]; exact denL_mov hp hd) ho (fun v hv' => by show K.row (p (p id)) v = _; rw [hp]; exact hv v hv') hfz (fun h => by rw [hlen]; exact hex h) ?_
    rw [movL_eq, List.all_map]
    refine (List.all_congr rfl fun x => ?_).trans hcl
    cases x with
    | own g es => cases g <;> rfl
    | ptr o => cases o <;> rfl
    | mapv o => cases o <;> rfl
    | dat d => cases d <;> rfl
    | _ => rfl
  | mp es clock lim b ms hb hd hu => exact .mp _ clock _ b ms (by show K.blk (p (p id)) = _; rw [hp]; exact hb) (entL_mov hp hd) ho
  | sit s pos b hb => exact .sit s pos b (by show K.blk (p (p id)) = _; rw [hp]; exact hb)
  | mit0 b since last seen hb => exact .mit0 b since last seen (by show K.blk (p (p id)) = _; rw [hp]; exact hb)
  | mit m b bm since last seen hb hm => exact .mit (p m) b bm since last seen (by show K.blk (p (p id)) = _; rw [hp]; exact hb) (by show K.blk (p (p m)) = _; rw [hp]; exact hm)

theorem isFr_mov {p : Nat → Nat} {n m : Nat} (o : AObj) : (o.mov p n m).isFr = o.isFr := by
  cases o with
  | mit m _ _ _ => cases m <;> rfl
  | _ => rfl

/-- the same world, boxes under other names -/
theorem OkW.mov {p : Nat → Nat} (hp : ∀ i, p (p i) = i) {K : KW} {h h2 : Nat → Option AObj} {V V2 : Nat → Prop} {w : World} {ow : Nat → Option OKey} (hk : OkW K h V w ow)
    (h1 : ∀ i o, h2 i = some o → ∃ o' n m, h (p i) = some o' ∧ o = o'.mov p n m ∧ ordOk i o = true) (hn : ∀ i, h (p i) = none → h2 i = none) (hv : ∀ i, V2 i → V (p i)) :
    OkW (K.mov p) h2 V2 w (fun b => (ow b).map (OKey.mov p)) := by
  have hown : ∀ b i, ow b = some (.box (p i)) → (ow b).map (OKey.mov p) = some (.box i) := fun b i h => by rw [h]; simp [OKey.mov, hp]
  have hfree : ∀ r c, Free K w r c → Free (K.mov p) w r c := fun r c h => ⟨h.blk, h.imm, h.base⟩
  refine ⟨hk.imm, hk.below, fun id e cs ver hid => ?_, fun id e c sz hid => ?_, fun id e c sz hid => ?_, fun id hid => ?_, fun id e cs ver hid => ?_, fun b k hb => ?_, fun id o hid ho => ?_, fun id hid v => ?_⟩
  · obtain ⟨o', n, m, g1, g2, g3⟩ := h1 id _ hid
    cases o' with
    | cells e' cs' ver' =>
      simp only [AObj.mov, AObj.cells.injEq] at g2
      obtain ⟨rfl, rfl, rfl⟩ := g2
      obtain ⟨b, vs, hb⟩ := hk.box _ _ _ _ g1
      refine ⟨b, vs, hb.blk, hown b id hb.own, hb.base, hb.heap, hb.imm, denL_mov hp hb.den, fun i c hc => ?_, g3⟩
      rw [movL_eq, List.getElem?_map, Option.map_eq_some_iff] at hc
      obtain ⟨x, hx, rfl⟩ := hc
      have hcell := hb.cell i x hx
      cases x with
      | own g es =>
        cases g with
        | full => trivial
        | tip j => exact hcell.elim
        | «at» a b' c' d =>
          obtain ⟨q1, q2, q3, r, q4, q5, q6, q7⟩ := hcell
          refine ⟨by rw [q1, hp], q2, q3, r, q4, q5, hfree _ _ q6, ?_⟩
          show (ow r.b).map (OKey.mov p) = _
          rw [q7]; simp [OKey.mov, hp]
      | ptr o => cases o <;> trivial
      | mapv o => cases o <;> trivial
      | _ => trivial
    | mit m _ _ _ => cases m <;> cases g2
    | _ => cases g2
  · obtain ⟨o', n, m, g1, g2, g3⟩ := h1 id _ hid
    cases o' with
    | tip e' c' sz' =>
      simp only [AObj.mov, AObj.tip.injEq] at g2
      obtain ⟨rfl, rfl, rfl⟩ := g2
      obtain ⟨r, q1, q2, q3, q4, q5⟩ := hk.tip _ _ _ _ g1
      refine ⟨r, q1, q2, q3, hfree _ _ q4, ?_⟩
      show (ow r.b).map (OKey.mov p) = _
      rw [q5]; simp [OKey.mov, hp]
    | mit m _ _ _ => cases m <;> cases g2
    | _ => cases g2
  · obtain ⟨o', n, m, g1, g2, g3⟩ := h1 id _ hid
    cases o' with
    | tip e' c' sz' =>
      simp only [AObj.mov, AObj.tip.injEq] at g2
      obtain ⟨rfl, rfl, rfl⟩ := g2
      exact hk.more _ _ _ _ g1
    | mit m _ _ _ => cases m <;> cases g2
    | _ => cases g2
  · obtain ⟨q1, q2, q3, q4⟩ := hk.fresh _ (hv id hid)
    exact ⟨hn id q1, q2, q3, q4⟩
  · obtain ⟨o', n, m, g1, g2, g3⟩ := h1 id _ hid
    cases o' with
    | cells e' cs' ver' =>
      simp only [AObj.mov, AObj.cells.injEq] at g2
      obtain ⟨rfl, rfl, rfl⟩ := g2
      exact hk.ver _ _ _ _ g1
    | mit m _ _ _ => cases m <;> cases g2
    | _ => cases g2
  · cases hb' : ow b with
    | none => rw [hb'] at hb; cases hb
    | some k' => exact hk.own b k' hb'
  · obtain ⟨o', n, m, g1, rfl, g3⟩ := h1 id _ hid
    rw [isFr_mov] at ho
    obtain ⟨b, obj, q1, q2, q3, q4, q5⟩ := hk.fr _ _ g1 ho
    refine ⟨b, obj, ?_, q2, by show (ow b).map (OKey.mov p) = _; rw [q3]; simp [OKey.mov, hp], q4, q5⟩
    have := freeAt_mov hp (n := n) (m := m) q1 (by rw [hp]; exact g3)
    rwa [hp] at this
  · exact hk.freshr _ (hv id hid) v

theorem mvI_inv {n c s : Nat} (hs : s + c ≤ n) (i : Nat) : mvI n c s (mvI n c s i) = i := by
  unfold mvI
  split
  · rw [if_neg (by omega), if_pos (by omega)]; omega
  · split
    · rw [if_pos (by omega)]; omega
    · rfl

theorem fix_mov {p : Nat → Nat} {K : KW} (hf : Fixes p K) {o : AObj} {w : World} {ow : Nat → Option OKey} {h : Nat → Option AObj} {V : Nat → Prop} (hk : OkW K h V w ow) {i : Nat} (hi : h i = some o) :
    (∃ n m, o = o.mov p n m) ∧ ordOk i o = true := by
  cases o with
  | cells e cs ver =>
    obtain ⟨b, vs, hb⟩ := hk.box _ _ _ _ hi
    exact ⟨⟨0, 0, by simp only [AObj.mov, denL_fix hf hb.den]⟩, hb.under⟩
  | tip _ _ _ => exact ⟨⟨0, 0, rfl⟩, rfl⟩
  | free e cs ver lim fz ex =>
    obtain ⟨b, obj, q1, _⟩ := hk.fr _ _ hi rfl
    cases q1 with
    | free _ _ _ _ _ _ r vs lo hi hr hsz hle hd hu hv hfz hex hcl => exact ⟨⟨lim, 0, by simp [AObj.mov, movLim, denL_fix hf hd]⟩, hu⟩
  | mp es c lim =>
    obtain ⟨b, obj, q1, _⟩ := hk.fr _ _ hi rfl
    cases q1 with
    | mp _ _ _ b ms hb hd hu => exact ⟨⟨lim, 0, by simp only [AObj.mov, movLim, entL_fix hf hd, Nat.le_refl, if_true]⟩, hu⟩
  | sit _ _ => exact ⟨⟨0, 0, rfl⟩, rfl⟩
  | mit m s l k =>
    cases m with
    | none => exact ⟨⟨0, 0, rfl⟩, rfl⟩
    | some m =>
      obtain ⟨b, obj, q1, _⟩ := hk.fr _ _ hi rfl
      cases q1 with
      | mit _ b bm _ _ _ hb hm =>
        have : p m = m := by
          by_cases hh : p m = m
          · exact hh
          · rw [(hf m hh).1] at hm; cases hm
        exact ⟨⟨0, 0, by simp only [AObj.mov, this]⟩, rfl⟩

theorem ordAll_get : ∀ {h : Heap} {k i : Nat} {o : AObj}, ordAll k h = true → h[i]? = some (some o) → ordOk (k + i) o = true
  | [], _, _, _, _, hi => by simp at hi
  | x :: h, k, i, o, ho, hi => by
    cases x with
    | none =>
      simp only [ordAll] at ho
      cases i with
      | zero => simp at hi
      | succ i => rw [show k + (i + 1) = k + 1 + i by omega]; exact ordAll_get ho (by simpa using hi)
    | some y =>
      simp only [ordAll, Bool.and_eq_true] at ho
      cases i with
      | zero => simp at hi; subst hi; exact ho.1
      | succ i => rw [show k + (i + 1) = k + 1 + i by omega]; exact ordAll_get ho.2 (by simpa using hi)

theorem putM_get {hm : Heap} {N c s : Nat} (hl : hm.length = N + c) (hs : s + c ≤ N) : (putM N c s hm).length = N ∧ ∀ i, i < N → (putM N c s hm)[i]? = hm[mvI N c s i]? := by
  unfold putM
  have l1 : (hm.take s).length = s := by rw [List.length_take]; omega
  have l2 : (hm.drop N).length = c := by rw [List.length_drop]; omega
  have l3 : ((hm.take N).drop (s + c)).length = N - (s + c) := by rw [List.length_drop, List.length_take]; omega
  refine ⟨by rw [List.length_append, List.length_append, l1, l2, l3]; omega, fun i hi => ?_⟩
  unfold mvI
  rw [if_neg (by omega)]
  rcases Nat.lt_or_ge i s with h1 | h1
  · rw [if_neg (by omega), List.append_assoc, List.getElem?_append_left (by omega), List.getElem?_take, if_pos h1]
  · rcases Nat.lt_or_ge i (s + c) with h2 | h2
    · rw [if_pos ⟨h1, h2⟩, List.getElem?_append_left (by rw [List.length_append, l1, l2]; omega), List.getElem?_append_right (by omega), l1, List.getElem?_drop]
    · rw [if_neg (by omega), List.getElem?_append_right (by rw [List.length_append, l1, l2]; omega), List.length_append, l1, l2, List.getElem?_drop, List.getElem?_take, if_pos (by omega), show s + c + (i - (s + c)) = i by omega]

theorem settleC_ok {N L s : Nat} {v0 v : AV} {h h0 h' : Heap} {K K1 : KW} {HF : Nat → Option AObj} {V : Nat → Prop} {w0 w : World} {u : Value} (hs : settleC N L s v0 h0 = some (v, h')) (hN : h.length = N) (hL : L = 0 ∨ s + L ≤ N) {pl : Option Nat} (hpl : pl = none ∨ L = 0)
    (hpre : Fit K h HF V w0) (hk : Kext K K1) (hd : Den K1 v0 u) (hf : Fit K1 h0 HF (afterV pl N h0.length V) w) (hp0 : ∀ r, pl = some r → r < N) (hvs : ∀ r, s ≤ r → r < s + L → V r) :
    ∃ K2, Kext K K2 ∧ Den K2 v u ∧ Fit K2 h' HF (fun i => V i ∧ pl ≠ some i ∧ (i < s ∨ s + L ≤ i)) w := by
  unfold settleC at hs
  split at hs
  · rename_i hlen
    cases hs
    refine ⟨K1, hk, hd, hf.virgin (fun i hi => ⟨hi.1, hi.2.1, by omega⟩) fun i hi => ⟨hpre.vlen i (by omega), fun e => by have := hp0 i e; omega, by omega⟩⟩
  · rename_i hlen
    split at hs
    · rename_i hcond
      obtain ⟨hgt, hcL, hsL, hord⟩ := hcond
      obtain rfl : pl = none := by
        rcases hpl with h | h
        · exact h
        · omega
      simp only [Option.some.injEq, Prod.mk.injEq] at hs
      obtain ⟨rfl, rfl⟩ := hs
      generalize hc : h0.length - N = c at *
      have hlen0 : h0.length = N + c := by omega
      have hsc : s + c ≤ N := by omega
      have hp := mvI_inv hsc
      have hvir : ∀ i, mvI N c s i ≠ i → V i := fun i hi => by
        unfold mvI at hi
        split at hi
        · exact hpre.vlen i (by omega)
        · split at hi
          · exact hvs i (by omega) (by omega)
          · exact absurd rfl hi
      obtain ⟨ow0, hok0⟩ := hpre.ok
      have hfix : Fixes (mvI N c s) K := fun i hi => by
        obtain ⟨_, q2, q3, q4⟩ := hok0.fresh i (hvir i hi)
        exact ⟨q2, q3, q4, hok0.freshr i (hvir i hi)⟩
      have hHF : ∀ i, mvI N c s i ≠ i → HF i = none := fun i hi => hpre.hf_virgin (hvir i hi)
      obtain ⟨ow, hok⟩ := hf.ok
      have hml : (movH N c s h0).length = N + c := by unfold movH; rw [List.length_map]; exact hlen0
      obtain ⟨pl', pg⟩ := putM_get hml hsc
      have hget : ∀ i, i < N → (putM N c s (movH N c s h0))[i]? = (h0[mvI N c s i]?).map fun o => o.map (AObj.mov (mvI N c s) N (s + c)) := fun i hi => by
        rw [pg i hi]; unfold movH; rw [List.getElem?_map]
      refine ⟨K1.mov (mvI N c s), ?_, den_mov hp hd, ⟨⟨_, OkW.mov (V2 := fun i => V i ∧ (none : Option Nat) ≠ some i ∧ (i < s ∨ s + L ≤ i)) hp hok (fun i o hi => ?_) (fun i hi => ?_) (fun i hi => ?_)⟩, fun i o hi => ?_, fun i hi => ⟨hpre.vlen i (by rw [pl'] at hi; omega), (by intro e; cases e), by rw [pl'] at hi; omega⟩⟩⟩
      · refine ⟨hk.base, hk.imm, fun i b hb => ?_, fun k r hr => ?_, hk.old, fun i v r hr => ?_⟩
        · have : mvI N c s i = i := by
            by_cases hh : mvI N c s i = i
            · exact hh
            · rw [(hfix i hh).1] at hb; cases hb
          show K1.blk (mvI N c s i) = _
          rw [this]; exact hk.blk i b hb
        · have : k.mov (mvI N c s) = k := by
            cases k with
            | tip i n =>
              by_cases hh : mvI N c s i = i
              · simp only [Key.mov, hh]
              · rw [(hfix i hh).2.1] at hr; cases hr
            | «at» i o n =>
              by_cases hh : mvI N c s i = i
              · simp only [Key.mov, hh]
              · rw [(hfix i hh).2.2.1] at hr; cases hr
          show K1.key (k.mov (mvI N c s)) = _
          rw [this]; exact hk.key k r hr
        · have : mvI N c s i = i := by
            by_cases hh : mvI N c s i = i
            · exact hh
            · rw [(hfix i hh).2.2.2] at hr; cases hr
          show K1.row (mvI N c s i) v = _
          rw [this]; exact hk.row i v r hr
      · have hiN : i < N := by
          rcases Nat.lt_or_ge i N with h1 | h1
          · exact h1
          · simp only [comb] at hi; rw [List.getElem?_eq_none (by omega)] at hi; cases hi
        have hgi := hget i hiN
        simp only [comb] at hi
        split at hi
        · rename_i o2 ho2
          cases hi
          rw [ho2] at hgi
          cases hx : h0[mvI N c s i]? with
          | none => rw [hx] at hgi; cases hgi
          | some x =>
            rw [hx] at hgi
            cases x with
            | none => cases hgi
            | some o' =>
              simp only [Option.map_some, Option.some.injEq] at hgi
              refine ⟨o', N, s + c, comb_some hx, hgi, ?_⟩
              have := ordAll_get hord ho2
              simpa using this
        · rename_i ho2
          have hpi : mvI N c s i = i := by
            by_cases hh : mvI N c s i = i
            · exact hh
            · rw [hHF i hh] at hi; cases hi
          have hpre2 : comb h HF i = some o := by simp only [comb, hpre.hf i o hi]; exact hi
          obtain ⟨⟨n, m, q1⟩, q2⟩ := fix_mov hfix hok0 hpre2
          refine ⟨o, n, m, ?_, q1, q2⟩
          rw [hpi]
          simp only [comb, hf.hf i o hi]
          exact hi
        · cases hi
      · rcases Nat.lt_or_ge i N with hiN | hiN
        · have hgi := hget i hiN
          have hpl : mvI N c s i < h0.length := by
            unfold mvI
            split
            · omega
            · split <;> omega
          obtain ⟨x, hx⟩ : ∃ x, h0[mvI N c s i]? = some x := ⟨_, List.getElem?_eq_getElem hpl⟩
          rw [hx] at hgi
          simp only [comb, hx] at hi
          cases x with
          | some o => cases hi
          | none =>
            simp only [comb, hgi, Option.map_some, Option.map_none]
            by_cases hh : mvI N c s i = i
            · rw [hh] at hi; exact hi
            · exact hHF i hh
        · simp only [comb]; rw [List.getElem?_eq_none (by omega)]
      · refine ⟨?_, (by intro e; cases e), ?_⟩
        · by_cases hh : mvI N c s i = i
          · rw [hh]; exact hi.1
          · exact hvir _ (by rw [hp]; exact fun e => hh e.symm)
        · have h2 := hi.2.2
          rw [hlen0]
          unfold mvI
          split
          · left; omega
          · split <;> omega
      · have hiN : i < N := by have := lt_of_some (hpre.hf i o hi); omega
        have hpi : mvI N c s i = i := by
          by_cases hh : mvI N c s i = i
          · exact hh
          · rw [hHF i hh] at hi; cases hi
        rw [hget i hiN, hpi, hf.hf i o hi]; rfl
    · cases hs

theorem settleC_len {N L s : Nat} {v0 v : AV} {h0 h' : Heap} (hs : settleC N L s v0 h0 = some (v, h')) : h'.length = N := by
  unfold settleC at hs
  split at hs
  · rename_i hlen; cases hs; exact hlen
  · rename_i hlen
    split at hs
    · rename_i hcond
      obtain ⟨hgt, hcL, hsL, hord⟩ := hcond
      simp only [Option.some.injEq, Prod.mk.injEq] at hs
      obtain ⟨rfl, rfl⟩ := hs
      exact (putM_get (by unfold movH; rw [List.length_map]; omega) (by omega)).1
    · cases hs

end Go.Proofs.YtobhpbnlbgbjaaaGreatDoor
