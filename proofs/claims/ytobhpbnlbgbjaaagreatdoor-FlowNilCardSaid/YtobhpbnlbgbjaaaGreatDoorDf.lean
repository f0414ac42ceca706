/- append onto a free box's slice. -/
import Derived.Test.YtobhpbnlbgbjaaaGreatDoorD11
set_option linter.unusedSectionVars false
set_option linter.unusedSimpArgs false
set_option linter.unusedVariables false
set_option linter.unusedSimpArgs false
namespace Go.Proofs.YtobhpbnlbgbjaaaGreatDoor
open Go Go.RowKit
set_option linter.unusedSectionVars false
variable [mode : Inhabited ModeT]

section
variable {P : Program} {K : KW} {w : World} {h : Heap} {HF : Nat → Option AObj} {V : Nat → Prop} {ow : Nat → Option OKey} {hc : Nat → Option AObj}

/-- what a slice's cells are, as they are now -/
structure MoreF (P : Program) (K : KW) (w : World) (sz : Nat) (vx : Value) (ys : List AV) (n : Nat) (news : List Value) : Prop where
  den : DenL K ys news
  one : ys.all AV.isCell = true
  num : ys.length = n * sz
  len : ∀ w : World, (Builtin.lenOf vx).run P w = .ok n w
  cells : ∀ w' : World, w'.heap = w.heap → (Builtin.firstCells sz n vx).run P w' = .ok news.toArray w'

theorem all_dat_cells {ds : List D} (h : ds.all (fun | .agg _ => false | _ => true) = true) : (ds.map AV.dat).all AV.isCell = true := by
  rw [List.all_eq_true] at h ⊢
  intro x hx
  obtain ⟨d, hd, rfl⟩ := List.mem_map.1 hx
  have := h d hd
  cases d <;> first | rfl | (cases this)

theorem cellsOf_elems (hk : OkW K (comb h HF) V w ow) {sz : Nat} {x : AV} {es : List D} {vx : Value} (hx : Den K x vx) (he : elems x = some es) (hf : es.all (fun e => e.cells.length == sz && e.cells.all fun | .agg _ => false | _ => true) = true) :
    ∃ news, MoreF P K w sz vx ((es.flatMap D.cells).map .dat) es.length news := by
  obtain ⟨a, cap, rfl, hcap, b, o, sz', ha, hsz, vs, hd, hv⟩ := den_elems hx he
  have hsz2 : ∀ e, e ∈ es → e.cells.length = sz := fun e he => by
    have := List.all_eq_true.1 hf e he
    simp only [Bool.and_eq_true, beq_iff_eq] at this
    exact this.1
  have hl : vs.length = es.length * sz := by rw [hd.length, flat_length hsz2]
  refine ⟨vs, DenL.of_dat hd, all_dat_cells ?_, by rw [List.length_map, flat_length hsz2], fun w => rfl, fun w' hw => ?_⟩
  · rw [List.all_flatMap, List.all_eq_true]
    intro e he
    have := List.all_eq_true.1 hf e he
    simp only [Bool.and_eq_true] at this
    exact this.2
  · by_cases hne : es = []
    · subst hne
      have : vs = [] := List.eq_nil_of_length_eq_zero (by simpa using hl)
      subst this
      cases a <;> simp [Builtin.firstCells, loadCells, loadCellsFrom]
    · rw [ha hne]
      simp only [Builtin.firstCells]
      have := run_loadCells_row (P := P) (w := w') (b := b) (o := o) (n := es.length * sz) (vs := vs) (by omega) fun j v hj => by
        have h1 := hk.imm _ _ (hv j v hj)
        unfold World.cell? at h1 ⊢
        rw [hw]; exact h1
      rw [this, List.take_of_length_le (by omega)]

theorem cellsOf_ok (hk : OkW K (comb h HF) V w ow) {sz : Nat} {x : AV} {ys : List AV} {vx : Value} (hc : cellsOf h sz x = some ys) (hx : Den K x vx) : ∃ n news, MoreF P K w sz vx ys n news := by
  unfold cellsOf at hc
  split at hc
  · cases hc
    obtain ⟨news, hm⟩ := cellsOf_elems (P := P) (sz := sz) hk hx (es := []) rfl rfl
    exact ⟨_, news, hm⟩
  · split at hc
    · rename_i es hf
      cases hc
      obtain ⟨news, hm⟩ := cellsOf_elems (P := P) (sz := sz) hk hx (es := es) rfl hf
      exact ⟨_, news, hm⟩
    · exact nomatch hc
  · split at hc
    · rename_i es hf
      cases hc
      obtain ⟨news, hm⟩ := cellsOf_elems (P := P) (sz := sz) hk hx (es := es) rfl hf
      exact ⟨_, news, hm⟩
    · exact nomatch hc
  · rename_i id ver off len n
    split at hc
    · rename_i e cs v lim fz ex hid
      split at hc
      · rename_i hcond
        obtain ⟨rfl, rfl, hle⟩ := hcond
        cases hc
        obtain ⟨b, obj, hf, hb, _⟩ := hk.fr id _ (comb_some hid) rfl
        cases hf with
        | free _ _ _ _ _ _ r vs lo hi hr hsz hcl hd hu hvn hfz hex hcc =>
          cases hx with
          | row _ _ _ _ _ r' hr' hz hle' =>
            obtain rfl : r' = r := by rw [hr] at hr'; exact (Option.some.inj hr').symm
            have hl : ((cs.drop off).take (len * n)).length = len * n := by rw [List.length_take, List.length_drop]; omega
            refine ⟨len, (((vs.toList.drop r'.o).take cs.length).drop off).take (len * n), (hd.drop off).take _, ?_, hl, fun w => rfl, fun w' hw => ?_⟩
            · rw [List.all_eq_true] at hcc ⊢
              exact fun x hx => hcc x (List.mem_of_mem_drop (List.mem_of_mem_take hx))
            · simp only [Builtin.firstCells]
              have hvl : (((vs.toList.drop r'.o).take cs.length).drop off).length = cs.length - off := by
                have : vs.toList.length = vs.size := by simp
                rw [List.length_drop, List.length_take, List.length_drop]; omega
              have := run_loadCells_row (P := P) (w := w') (b := r'.b) (o := r'.o + off) (n := len * n) (vs := ((vs.toList.drop r'.o).take cs.length).drop off) (by omega) fun j v hj => by
                rw [World.cell?, hw, hb]
                simp only [Option.isSome_none, Bool.false_eq_true, if_false]
                rw [List.getElem?_drop, List.getElem?_take] at hj
                split at hj
                · rw [List.getElem?_drop, Array.getElem?_toList] at hj
                  rwa [Nat.add_assoc]
                · cases hj
              rw [this]
      · exact nomatch hc
    · exact nomatch hc
  · rename_i s
    split at hc
    · rename_i h1
      cases hc
      subst h1
      cases hx with | dat hx => ?_
      cases hx
      have hz : (ByteArray.mk s.toArray).size = s.length := by simp [ByteArray.size]
      refine ⟨s.length, s.map fun b => Value.int .u8 b.toNat, ?_, ?_, by simp, fun w => by simp [Builtin.lenOf, hz], fun w' hw => ?_⟩
      · induction s with
        | nil => exact .nil
        | cons b s ih => exact .cons (.dat (.int _ _)) (ih (by simp [ByteArray.size]))
      · rw [List.all_eq_true]
        intro x hx
        obtain ⟨b, _, rfl⟩ := List.mem_map.1 hx
        rfl
      · have : (ByteArray.mk s.toArray).extract 0 s.length = ByteArray.mk s.toArray := by
          apply ByteArray.ext
          rw [ByteArray.data_extract]
          apply Array.ext'
          rw [Array.toList_extract, List.extract_eq_take_drop]
          simp
        simp only [Builtin.firstCells, this]
        simp
    · exact nomatch hc
  · exact nomatch hc

theorem run_append_inF {ts : Array TypeId} {ty elem : TypeId} {info : TypeInfo} (ht : AppTypes P ts elem info) {vx : Value} {ys : List AV} {k : Nat} {news : List Value} (hm : MoreF P K w info.size vx ys k news) {base : Option Addr} {len cap : Nat} (hn : len + k ≤ cap) :
    (Builtin.append_ ts ty #[.slice base len cap, vx]).run P w = ((match base with | some a => storeCells (a.add (len * info.size)) news | none => pure () : Sem Unit).run P w).andThen fun _ w' => .ok (.slice base (len + k) cap) w' := by
  obtain ⟨⟨t1, h1, h2⟩, ⟨t2, d, h3, h4, h5⟩, h6⟩ := ht
  have hd : (match d with | .int _ => true | _ => false) = false := by cases d <;> first | rfl | exact absurd rfl (h5 _)
  have hsz : (sizeOf elem).run P w = .ok info.size w := run_sizeOf' (by simp [sizeA, h6])
  unfold Builtin.append_
  simp only [h1, h3, List.getElem?_toArray, List.getElem?_cons_zero, List.getElem?_cons_succ, Sem.run_bind, run_underlying' h2, Result.andThen_ok, hsz, run_underlying' h4, Sem.run_pure]
  simp only [Bool.false_eq_true, if_false, Sem.run_bind, hm.len w, Result.andThen_ok, Bool.not_false, if_true, if_pos hn, hm.cells w rfl]
  cases base <;> simp <;> rfl

theorem run_append_growF {ts : Array TypeId} {ty elem : TypeId} {info : TypeInfo} (ht : AppTypes P ts elem info) {vx : Value} {ys : List AV} {k : Nat} {news old : List Value} (hm : MoreF P K w info.size vx ys k news)
    {base : Option Addr} {len cap : Nat} (hn : ¬ len + k ≤ cap) (hroom : roomOk (len + k) info.bytes = true) (hold : (Builtin.firstCells info.size len (.slice base len cap)).run P w.drew = .ok old.toArray w.drew)
    (hz : info.zero.map (fun v => v.cells.size) = some info.size) :
    ∃ cap' rest, (Builtin.append_ ts ty #[.slice base len cap, vx]).run P w = .ok (.slice (some ⟨w.drew.heap.size, 0, none⟩) (len + k) cap') (w.drew.alloc (.cells (old ++ news ++ rest).toArray elem)) ∧ len + k ≤ cap' ∧ rest.length = (cap' - (len + k)) * info.size := by
  obtain ⟨zv, hz, hzs⟩ : ∃ zv, info.zero = some zv ∧ zv.cells.size = info.size := by
    cases hzz : info.zero with
    | none => rw [hzz] at hz; exact nomatch hz
    | some zv => rw [hzz] at hz; exact ⟨zv, rfl, Option.some.inj hz⟩
  obtain ⟨⟨t1, h1, h2⟩, ⟨t2, d, h3, h4, h5⟩, h6⟩ := ht
  have hd : (match d with | .int _ => true | _ => false) = false := by cases d <;> first | rfl | exact absurd rfl (h5 _)
  have hsz : (sizeOf elem).run P w = .ok info.size w := run_sizeOf' (by simp [sizeA, h6])
  have hti : ∀ w : World, (typeInfo elem).run P w = .ok info w := fun w => by simp [typeInfo, program, Sem.run, h6]
  simp only [roomOk, decide_eq_true_eq] at hroom
  obtain ⟨r1, r2⟩ := hroom
  have hnext := nextslicecap_le (need := len + k) (old := cap) (by omega)
  have hbytes : ¬ Builtin.nextslicecap (len + k) cap * info.bytes > 2 ^ 48 := by
    have := Nat.mul_le_mul_right info.bytes hnext
    omega
  obtain ⟨cap', w', hc1, rfl, hc2⟩ := choose_cap (P := P) (w := w) (need := len + k) (old := cap) (elem := elem)
  refine ⟨cap', (Builtin.zeroCells zv.cells (cap' - (len + k))).toList, ?_, hc2, by simp [Builtin.zeroCells, hzs]⟩
  unfold Builtin.append_
  simp only [h1, h3, List.getElem?_toArray, List.getElem?_cons_zero, List.getElem?_cons_succ, Sem.run_bind, run_underlying' h2, Result.andThen_ok, hsz, run_underlying' h4, Sem.run_pure]
  simp only [Bool.false_eq_true, if_false, Sem.run_bind, hm.len w, Result.andThen_ok, Bool.not_false, if_true, if_neg hn, hti w, false_or]
  have hmax : ¬ (((len + k : Nat) : Int) > IntKind.i64.max ∧ info.bytes = 0) := by
    rintro ⟨h, _⟩
    simp at h
    omega
  rw [if_neg hmax]
  simp only [Sem.run_bind, hti w, Result.andThen_ok]
  rw [if_neg hbytes]
  have hti' := hti w.drew
  have hzr : (zeroValue elem).run P w.drew = .ok zv w.drew := by simp [zeroValue, typeInfo, program, Sem.run, h6, hz]
  simp only [Sem.run_bind, hc1, Result.andThen_ok, hti', run_askRoom, hold, hm.cells w.drew rfl, hzr, newRow, run_newObj_alloc, Sem.run_pure, if_true]
  simp
  congr 2
  apply Array.ext'
  simp

theorem row_cut {α : Type} (A news : List α) (o off m n : Nat) (h1 : off + m ≤ n) (h2 : o + n ≤ A.length) (h3 : o + off + m + news.length ≤ A.length) :
    ((A.take (o + off + m) ++ news ++ A.drop (o + off + m + news.length)).drop (o + off)).take (m + news.length) = (((A.drop o).take n).drop off).take m ++ news := by
  have hd : (A.take (o + off + m)).drop (o + off) = (A.drop (o + off)).take m := by rw [List.drop_take]; congr 1; omega
  have hx : (A.take (o + off + m)).length = o + off + m := by rw [List.length_take]; omega
  have hy : ((A.drop (o + off)).take m).length = m := by rw [List.length_take, List.length_drop]; omega
  rw [List.append_assoc, List.drop_append_of_le_length (by omega), hd, ← List.append_assoc, List.take_append_of_le_length (by rw [List.length_append, hy]; omega), List.take_of_length_le (by rw [List.length_append, hy]; omega)]
  congr 1
  rw [List.drop_take, List.take_take, Nat.min_eq_left (by omega), List.drop_drop]

theorem Fit.drew (hk : Fit K h HF V w) : Fit K h HF V w.drew := ⟨hk.ok.drew, hk.hf, hk.vlen⟩

theorem gives_appendF {argTypes : Array TypeId} {ty : TypeId} {place : Option Nat} {s x v : AV} {vs vx : Value} {h' : Heap} (hk : Fit K h HF V w) (hp : ∀ r, place = some r → V r ∧ r < h.length) (ha : appendF P argTypes.toList place s x h = some (v, h')) (hin : intoFree P argTypes.toList s = true) (hs : Den K s vs) (hx : Den K x vx) :
    ∃ u w' K', (Builtin.append_ argTypes ty #[vs, vx]).run P w = .ok u w' ∧ Kext K K' ∧ Den K' v u ∧ Fit K' h' HF (afterV place h.length h'.length V) w' ∧ h.length ≤ h'.length := by
  unfold appendF at ha
  split at ha
  case h_2 => exact nomatch ha
  rename_i sType xType rest hts
  have ht0 : argTypes[0]? = some sType := by rw [← Array.getElem?_toList, hts]; rfl
  have ht1 : argTypes[1]? = some xType := by rw [← Array.getElem?_toList, hts]; rfl
  split at ha
  case h_2 => exact nomatch ha
  rename_i elem xd hu1 hu2
  split at ha
  case h_2 => exact nomatch ha
  rename_i info hint hinfo
  have hAT : AppTypes P argTypes elem info := ⟨⟨sType, ht0, hu1⟩, ⟨xType, xd, ht1, hu2, fun k e => by subst e; simp at hint⟩, hinfo⟩
  split at ha
  case h_2 => exact nomatch ha
  rename_i xs hxs
  obtain ⟨ow, hok⟩ := hk.ok
  obtain ⟨k, news, hm⟩ := cellsOf_ok (P := P) hok hxs hx
  have hnl : news.length = xs.length := hm.den.length
  split at ha
  · exact nomatch ha
  rename_i hsz0
  -- where it lies, before
  have hbase : ∃ base len cap, vs = .slice base len cap ∧ len ≤ cap := by
    unfold intoFree at hin
    split at hin
    · cases hs with
      | row _ _ _ _ _ r hr hz hle => exact ⟨_, _, _, rfl, (Nat.le_div_iff_mul_le (by omega)).2 (by omega)⟩
    · exact ⟨none, 0, 0, den_nils hs, Nat.le_refl _⟩
    · cases hs with
      | full _ a b o sz ha hc => exact ⟨some a, 0, 0, rfl, Nat.le_refl _⟩
    · exact nomatch hin
  split at ha
  · rename_i hemp
    have hx0 : xs = [] := by simpa using hemp
    subst hx0
    cases ha
    have hn0 : news = [] := List.eq_nil_of_length_eq_zero hnl
    subst hn0
    have hk0 : k = 0 := by
      have := hm.num
      simp only [List.length_nil] at this
      rcases Nat.eq_zero_or_pos k with h0 | h0
      · exact h0
      · have := Nat.mul_pos h0 (Nat.pos_of_ne_zero hsz0); omega
    subst hk0
    obtain ⟨base, len, cap, rfl, hlc⟩ := hbase
    have := run_append_inF (P := P) (ty := ty) hAT hm (base := base) (len := len) (cap := cap) (by omega)
    refine ⟨_, w, K, ?_, Kext.refl K, hs, hk.after (fun r hr => (hp r hr).2), Nat.le_refl _⟩
    rw [this]
    cases base <;> simp [storeCells]
  rename_i hemp
  have hkpos : 0 < k := by
    have := hm.num
    rcases Nat.eq_zero_or_pos k with h0 | h0
    · subst h0; simp at this; subst this; simp at hemp
    · exact h0
  have hdiv : xs.length / info.size = k := by rw [hm.num, Nat.mul_div_cancel _ (Nat.pos_of_ne_zero hsz0)]
  split at ha
  · exact nomatch ha
  rename_i hzero
  have hzero' : info.zero.map (fun v => v.cells.size) = some info.size := by simpa using hzero
  split at ha
  · exact nomatch ha
  split at ha
  · rename_i id ver off len n
    split at ha
    case h_2 => exact nomatch ha
    rename_i e cs v0 lim fz ex hid
    split at ha
    case isFalse => exact nomatch ha
    rename_i hcond
    obtain ⟨rfl, rfl, rfl, c1, c2, c3⟩ := hcond
    rw [hdiv] at c3 ha
    split at ha
    case h_2 => exact nomatch ha
    rename_i lim' hl
    cases ha
    have hlk := limA_ok hl
    cases hs with
    | row _ _ _ _ _ r hr hz hle =>
    obtain ⟨b, obj, hf, hb, hown, hbb, himm⟩ := hok.fr id _ (comb_some hid) rfl
    cases hf with
    | free _ _ _ _ _ _ r' vs lo hi hr' hsz hcl hcd hu hvn hff hex hcc =>
    obtain rfl : r' = r := by rw [hr] at hr'; exact (Option.some.inj hr').symm
    have hvl : vs.toList.length = vs.size := by simp
    have hcut : ((cs.drop off).take (len * info.size)).length = len * info.size := by rw [List.length_take, List.length_drop]; omega
    have hu' := undersL_mono hlk.1 hu
    have hunder : undersL lim' ((cs.drop off).take (len * info.size) ++ xs) = true := undersL_append (undersL_take _ (undersL_drop _ hu')) hlk.2
    have hcells : ((cs.drop off).take (len * info.size) ++ xs).all AV.isCell = true := by
      rw [List.all_append, hm.one, Bool.and_true]
      rw [List.all_eq_true] at hcc ⊢
      exact fun x hx => hcc x (List.mem_of_mem_drop (List.mem_of_mem_take hx))
    have hclen : ((cs.drop off).take (len * info.size) ++ xs).length = (len + k) * info.size := by rw [List.length_append, hcut, hm.num, Nat.add_mul]
    have hrowf : ∀ (r2 : RRow), (∀ i v r, K.row i v = some r → (fun i v => if i = id ∧ v = v0 + 1 then some r2 else K.row i v) i v = some r) := fun r2 i v r hiv => by
      show (if i = id ∧ v = v0 + 1 then some r2 else K.row i v) = some r
      rw [if_neg]
      · exact hiv
      · rintro ⟨rfl, rfl⟩
        rw [hvn _ (by omega)] at hiv; cases hiv
    have hrowo : ∀ (r2 : RRow) i v, i ≠ id → (fun i v => if i = id ∧ v = v0 + 1 then some r2 else K.row i v) i v = K.row i v := fun r2 i v hi => if_neg (fun h => hi h.1)
    have hne : ∀ x k, ow x = some k → k ≠ .fr id → x ≠ r'.b := fun x k h1 h2 h3 => by rw [h3, hown] at h1; exact h2 (Option.some.inj h1).symm
    have hcomb : ∀ o, comb (h.set id (some o)) HF = upd (comb h HF) id (some o) := fun o => comb_set (lt_of_some hid) o
    have hfin : ∀ (K2 : KW) (w2 : World) (ow2 : Nat → Option OKey) (o : AObj), OkW K2 (upd (comb h HF) id (some o)) V w2 ow2 → Fit K2 (h.set id (some o)) HF (afterV place h.length (h.set id (some o)).length V) w2 := fun K2 w2 ow2 o hok2 =>
      ⟨⟨ow2, by rw [hcomb]; exact hok2.virgin fun i hi => hi.1⟩, fun i o hi' => by
        have h2 := hk.hf i o hi'
        have : id ≠ i := by rintro rfl; rw [hid] at h2; cases h2
        rw [List.getElem?_set_ne this]; exact h2, fun i hi => by
        simp at hi; exact ⟨hk.vlen i hi, fun e => by have := (hp i e).2; omega, Or.inr (by simpa using hi)⟩⟩
    by_cases hfit : len + k ≤ (r'.n - off) / info.size
    · -- in place
      have hfit' : (len + k) * info.size ≤ r'.n - off := (Nat.le_div_iff_mul_le (Nat.pos_of_ne_zero hsz0)).1 hfit
      have hadd : (len + k) * info.size = len * info.size + news.length := by rw [Nat.add_mul, hnl, hm.num]
      have hrun := run_append_inF (P := P) (ty := ty) hAT hm (base := some ⟨r'.b, r'.o + off, none⟩) (len := len) (cap := (r'.n - off) / info.size) hfit
      have hst := run_storeCells_atF P r'.b (r'.o + off + len * info.size) e (lo, hi) news 0 vs w hb (by simp only; omega) (by omega) (oneCells_of hm.den hm.one)
      simp only [addr_add] at hrun
      rw [hst, Result.andThen_ok] at hrun
      simp only [Nat.add_zero] at hrun
      generalize hvs' : (vs.toList.take (r'.o + off + len * info.size) ++ news ++ vs.toList.drop (r'.o + off + len * info.size + news.length)).toArray = vs' at hrun
      have hvsz : vs'.size = vs.size := by
        subst hvs'
        simp only [List.size_toArray, List.length_append, List.length_take, List.length_drop]; omega
      let r2 : RRow := ⟨r'.b, r'.o + off, r'.n - off⟩
      have hext : Kext K { K with row := fun i v => if i = id ∧ v = v0 + 1 then some r2 else K.row i v } := ⟨rfl, fun _ _ h => h, fun _ _ h => h, fun _ _ h => h, fun _ _ => rfl, hrowf r2⟩
      have hat : FreeAt { K with row := fun i v => if i = id ∧ v = v0 + 1 then some r2 else K.row i v } id (.free e ((cs.drop off).take (len * info.size) ++ xs) (v0 + 1) lim' (fz - off) false) r2.b (.cells vs' e (lo, hi)) := by
        refine .free e _ _ lim' _ false r2 vs' lo hi (if_pos ⟨rfl, rfl⟩) (by simp only [r2]; omega) (by simp only [r2]; omega) ?_ hunder (fun v hv => ?_) (by simp only [r2]; omega) (fun h => nomatch h) hcells
        · subst hvs'
          rw [hclen, hadd]
          have := row_cut vs.toList news r'.o off (len * info.size) cs.length c1 (by omega) (by omega)
          simp only [r2]
          rw [this]
          exact (((hcd.drop off).take _).append hm.den).mono hext
        · show (if id = id ∧ v = v0 + 1 then some r2 else K.row id v) = none
          rw [if_neg (by omega)]; exact hvn _ (by omega)
      have hok2 := (hok.turnFr (comb_some hid) rfl (o' := .free e ((cs.drop off).take (len * info.size) ++ xs) (v0 + 1) lim' (fz - off) false) rfl (w' := w.setRow r'.b vs') (hrowf r2) (hrowo r2) hat (setRow_heap w r'.b vs vs' e (lo, hi) hb) hbb himm (Or.inr hown)
        (hok.below.step rfl rfl rfl ⟨by simp, fun k hk' => setRow_other w r'.b k vs' (by intro e; subst e; first | exact absurd hk' (by assumption) | exact absurd hk' hb.base | exact absurd hk' (by simpa using hbase))⟩) (by simp) (fun x k h1 h2 => setRow_other w r'.b x vs' (hne x k h1 h2)) fun a c ha => by
          have h1 := hok.imm a c ha
          have : a.block ≠ r'.b := by
            intro e1
            have := himm a.off a.spot
            rw [← e1, show (⟨a.block, a.off, a.spot⟩ : Addr) = a from rfl, ha] at this
            exact nomatch this
          rw [cell_same (setRow_other w r'.b a.block vs' this)]; exact h1).1
      refine ⟨_, _, _, hrun, hext, ?_, hfin _ _ _ _ hok2, by simp⟩
      have := Den.row (K := { K with row := fun i v => if i = id ∧ v = v0 + 1 then some r2 else K.row i v }) id (v0 + 1) 0 (len + k) info.size r2 (if_pos ⟨rfl, rfl⟩) hz (by simp only [r2]; omega)
      simpa [r2] using this
    · -- in a new block
      have hold : (Builtin.firstCells info.size len (.slice (some ⟨r'.b, r'.o + off, none⟩) len ((r'.n - off) / info.size))).run P w.drew = .ok ((((vs.toList.drop r'.o).take cs.length).drop off).take (len * info.size)).toArray w.drew := by
        simp only [Builtin.firstCells]
        exact run_loadCells_row (P := P) (w := w.drew) (b := r'.b) (o := r'.o + off) (n := len * info.size) (vs := ((vs.toList.drop r'.o).take cs.length).drop off) (by rw [List.length_drop, List.length_take, List.length_drop]; omega) fun j v hj => by
          rw [cell_of (w := w.drew) hb]
          rw [List.getElem?_drop, List.getElem?_take] at hj
          split at hj
          · rw [List.getElem?_drop, Array.getElem?_toList] at hj
            rwa [Nat.add_assoc]
          · cases hj
      obtain ⟨cap', rest, hrun, hc1, hrl⟩ := run_append_growF (P := P) (ty := ty) hAT hm (base := some ⟨r'.b, r'.o + off, none⟩) hfit c3 hold hzero'
      generalize holdg : (((vs.toList.drop r'.o).take cs.length).drop off).take (len * info.size) = old at hrun
      have holdl : old.length = len * info.size := by subst holdg; rw [List.length_take, List.length_drop, List.length_take, List.length_drop]; omega
      have hcapm : (len + k) * info.size ≤ cap' * info.size := Nat.mul_le_mul_right _ hc1
      have hrl' : rest.length = cap' * info.size - (len + k) * info.size := by rw [hrl, Nat.sub_mul]
      have hadd : (len + k) * info.size = len * info.size + news.length := by rw [Nat.add_mul, hnl, hm.num]
      let r2 : RRow := ⟨w.drew.heap.size, 0, cap' * info.size⟩
      have hokd := hok.drew
      have hext : Kext K { K with row := fun i v => if i = id ∧ v = v0 + 1 then some r2 else K.row i v } := ⟨rfl, fun _ _ h => h, fun _ _ h => h, fun _ _ h => h, fun _ _ => rfl, hrowf r2⟩
      have hat : FreeAt { K with row := fun i v => if i = id ∧ v = v0 + 1 then some r2 else K.row i v } id (.free e ((cs.drop off).take (len * info.size) ++ xs) (v0 + 1) lim' (fz - off) false) r2.b (.cells (old ++ news ++ rest).toArray e (0, 0)) := by
        refine .free e _ _ lim' _ false r2 _ 0 0 (if_pos ⟨rfl, rfl⟩) (by simp only [r2, List.size_toArray, List.length_append]; omega) (by simp only [r2]; omega) ?_ hunder (fun v hv => ?_) (Nat.zero_le _) (fun h => nomatch h) hcells
        · simp only [r2, List.drop_zero]
          rw [hclen, List.take_append_of_le_length (l₁ := old ++ news) (by rw [List.length_append]; omega), List.take_of_length_le (l := old ++ news) (by rw [List.length_append]; omega), ← holdg]
          exact (((hcd.drop off).take _).append hm.den).mono hext
        · show (if id = id ∧ v = v0 + 1 then some r2 else K.row id v) = none
          rw [if_neg (by omega)]; exact hvn _ (by omega)
      have hpu := hokd.push (.cells (old ++ news ++ rest).toArray e)
      have hnew : ow w.drew.heap.size = none := hokd.not_own_new
      have hok2 := (hpu.turnFr (comb_some hid) rfl (o' := .free e ((cs.drop off).take (len * info.size) ++ xs) (v0 + 1) lim' (fz - off) false) rfl (w' := w.drew.alloc (.cells (old ++ news ++ rest).toArray e)) (hrowf r2) (hrowo r2) hat (heap_pushW_new _ _) hokd.base_le (fun off sp => by
          cases hmm : K.imm ⟨w.drew.heap.size, off, sp⟩ with
          | none => rfl
          | some v =>
            obtain ⟨vs', e', f, g1, _⟩ := cell_block (hokd.imm _ _ hmm)
            have := lt_of_heap g1
            simp at this) (Or.inl hnew) hpu.below (Nat.le_refl _) (fun x k h1 h2 => rfl) fun a c ha => hpu.imm a c ha).1
      refine ⟨_, _, _, hrun, hext, ?_, hfin _ _ _ _ hok2, by simp⟩
      have := Den.row (K := { K with row := fun i v => if i = id ∧ v = v0 + 1 then some r2 else K.row i v }) id (v0 + 1) 0 (len + k) info.size r2 (if_pos ⟨rfl, rfl⟩) hz (by simp only [r2]; omega)
      simpa [r2, Nat.mul_div_cancel _ (Nat.pos_of_ne_zero hsz0)] using this
  · -- where nothing is
    rename_i hnr
    rw [hdiv] at ha
    split at ha
    case isFalse => exact nomatch ha
    rename_i hroom
    split at ha
    case h_2 => exact nomatch ha
    rename_i id h'' hnf
    cases ha
    obtain ⟨base, rfl⟩ : ∃ base, vs = .slice base 0 0 := by
      unfold intoFree at hin
      split at hin
      · exact (hnr _ _ _ _ _ rfl).elim
      · exact ⟨none, den_nils hs⟩
      · cases hs with
        | full _ a b o sz ha hc => exact ⟨some a, rfl⟩
      · exact nomatch hin
    have hold : (Builtin.firstCells info.size 0 (.slice base 0 0)).run P w.drew = .ok ([] : List Value).toArray w.drew := by
      cases base <;> simp [Builtin.firstCells, loadCells, loadCellsFrom]
    obtain ⟨cap', rest, hrun, hc1, hrl⟩ := run_append_growF (P := P) (ty := ty) hAT hm (base := base) (len := 0) (cap := 0) (old := []) (by omega) (by rw [Nat.zero_add]; exact hroom) hold hzero'
    simp only [Nat.zero_add, List.nil_append] at hrun hc1 hrl
    have hcapm : k * info.size ≤ cap' * info.size := Nat.mul_le_mul_right _ hc1
    obtain ⟨K', hext, hrow, hfit, hlen⟩ := gives_newFree (vs := (news ++ rest).toArray) hk.drew (fun r hr => (hp r hr).1) hnf (by
      show DenL K xs ((news ++ rest).take xs.length)
      rw [List.take_append_of_le_length (by omega), List.take_of_length_le (by omega)]; exact hm.den) (fun h => nomatch h)
    refine ⟨_, _, K', hrun, hext, ?_, hfit, hlen⟩
    have hsz : (news ++ rest).toArray.size = cap' * info.size := by
      rw [List.size_toArray, List.length_append, hrl, Nat.sub_mul, hnl, hm.num]; omega
    have := Den.row (K := K') id 0 0 k info.size _ hrow hsz0 (by simp only; omega)
    simp only [hsz, Nat.add_zero, Nat.sub_zero, Nat.mul_div_cancel _ (Nat.pos_of_ne_zero hsz0)] at this
    exact this

end
end Go.Proofs.YtobhpbnlbgbjaaaGreatDoor
