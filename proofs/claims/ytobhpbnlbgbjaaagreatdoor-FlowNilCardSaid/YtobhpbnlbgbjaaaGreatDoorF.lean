/- Entries of the model's own, and the step from a run of the evaluator to a call that returns true. -/
import Derived.Test.YtobhpbnlbgbjaaaGreatDoorE6
import Derived.Lib.Bytealg
set_option linter.unusedSectionVars false
set_option linter.unusedSimpArgs false
set_option linter.unusedVariables false
set_option linter.unusedSimpArgs false
namespace Go.Proofs.YtobhpbnlbgbjaaaGreatDoor
open Go Go.RowKit
set_option linter.unusedSectionVars false
variable [mode : Inhabited ModeT]

def idxByte (c : UInt8) : List UInt8 → Nat → Int
  | [], _ => -1
  | b :: l, i => if b == c then (i : Int) else idxByte c l (i + 1)

theorem idxByte_eq (c : UInt8) : ∀ (l : List UInt8) (i : Nat), idxByte c l i = if Lib.indexByte l c = -1 then -1 else Lib.indexByte l c + i
  | [], i => by simp [idxByte, Lib.indexByte]
  | b :: l, i => by
    have hge := Lib.indexByte_ge l c
    simp only [idxByte, Lib.indexByte]
    split
    · simp
    · rw [idxByte_eq c l (i + 1)]
      by_cases h : Lib.indexByte l c = -1
      · simp [h]
      · have h2 : (Lib.indexByte l c == -1) = false := by simpa using h
        rw [if_neg h, h2]
        simp only [Bool.false_eq_true, if_false]
        rw [if_neg (by omega)]
        omega

def primIndexByte : Prim := fun args h => match args with
  | [.dat (.str s), .dat (.int .u8 c)] => some (.dat (.int .i64 (idxByte c.toNat.toUInt8 s 0)), h)
  | _ => none

def primCount : Prim := fun args h => match args with
  | [.dat (.str s), .dat (.int .u8 c)] => some (.dat (.int .i64 (s.count c.toNat.toUInt8)), h)
  | _ => none

def primSame : Prim := fun args h => match args with
  | [x] => some (x, h)
  | _ => none

section
variable {P : Program} {f : FuncId} {fn : Func}

theorem extern_ok {p : Prim} {e : Array Value → Sem Value} (hf : P.funcs[f]? = some fn) (hname : (fn.name == "runtime.NumGoroutine") = false) (hb : fn.body.isNone = true) (hn : Extern.findNext fn = none) (he : Extern.find fn = some e)
    (h : ∀ args h v h', p args h = some (v, h') → h' = h ∧ ∀ (K : KW) (w : World) (vargs : Array Value), DenL K args vargs.toList → ∃ u, (e vargs).run P w = .ok u w ∧ Den K v u) : CallFOk P f p := by
  intro args hp v h' hs
  obtain ⟨rfl, h2⟩ := h args hp v h' hs
  refine ⟨Nat.le_refl _, fun K HF V w vargs hargs hk => ?_⟩
  obtain ⟨u, h3, h4⟩ := h2 K w vargs hargs
  rw [run_callFunc_extern hf hname hb hn he, h3, Result.andThen_ok]
  exact ⟨K, Kext.refl K, h4, hk.start⟩

theorem primIndexByte_ok (hf : P.funcs[f]? = some fn) (hname : (fn.name == "runtime.NumGoroutine") = false) (hb : fn.body.isNone = true) (hn : Extern.findNext fn = none) (he : Extern.find fn = some Extern.BytealgIndexByte.indexByte) : CallFOk P f primIndexByte := by
  refine extern_ok hf hname hb hn he fun args h v h' hs => ?_
  unfold primIndexByte at hs
  split at hs
  · rename_i s c
    cases hs
    refine ⟨rfl, fun K w vargs hargs => ?_⟩
    obtain ⟨a, b, rfl, ha, hb'⟩ := denL_two hargs
    cases ha with | dat ha => ?_
    cases hb' with | dat hb' => ?_
    cases ha; cases hb'
    refine ⟨_, Lib.run_indexByteString (P := P) ⟨s.toArray⟩ c w, ?_⟩
    have : Lib.indexByte s c.toNat.toUInt8 = idxByte c.toNat.toUInt8 s 0 := by
      rw [idxByte_eq]
      split
      · rename_i h; exact h
      · simp
    rw [← this]
    exact .dat (.int _ _)
  · exact nomatch hs

theorem primCount_ok (hf : P.funcs[f]? = some fn) (hname : (fn.name == "runtime.NumGoroutine") = false) (hb : fn.body.isNone = true) (hn : Extern.findNext fn = none) (he : Extern.find fn = some Extern.BytealgCount.count) : CallFOk P f primCount := by
  refine extern_ok hf hname hb hn he fun args h v h' hs => ?_
  unfold primCount at hs
  split at hs
  · rename_i s c
    cases hs
    refine ⟨rfl, fun K w vargs hargs => ?_⟩
    obtain ⟨a, b, rfl, ha, hb'⟩ := denL_two hargs
    cases ha with | dat ha => ?_
    cases hb' with | dat hb' => ?_
    cases ha; cases hb'
    exact ⟨_, Lib.run_countString (P := P) ⟨s.toArray⟩ c w, .dat (.int _ _)⟩
  · exact nomatch hs

theorem primSame_ok (hf : P.funcs[f]? = some fn) (hname : (fn.name == "runtime.NumGoroutine") = false) (hb : fn.body.isNone = true) (hn : Extern.findNext fn = none) (he : Extern.find fn = some Extern.AbiNoEscape.same) : CallFOk P f primSame := by
  refine extern_ok hf hname hb hn he fun args h v h' hs => ?_
  unfold primSame at hs
  split at hs
  · cases hs
    refine ⟨rfl, fun K w vargs hargs => ?_⟩
    obtain ⟨a, rfl, ha⟩ := denL_one hargs
    exact ⟨a, rfl, ha⟩
  · exact nomatch hs

def K0 (W : World) : KW := { base := .all W, imm := W.cell?, blk := fun _ => none, key := fun _ => none, row := fun _ _ => none }

theorem fit0 (W : World) : Fit (K0 W) [] (fun _ => none) (fun _ => True) W :=
  { ok := ⟨fun _ => none, { imm := fun _ _ h => h, below := BelowB.refl _, box := fun id e cs ver h => by simp [comb] at h, tip := fun id e n sz h => by simp [comb] at h, more := fun id e n sz h => by simp [comb] at h, fresh := fun id _ => ⟨by simp [comb], rfl, fun _ => rfl, fun _ _ => rfl⟩, ver := fun id e cs ver h => by simp [comb] at h, own := (by intro b k h; cases h), fr := fun id o h => by simp [comb] at h, freshr := fun _ _ _ => rfl }⟩
    hf := by intro i o h; cases h
    vlen := fun _ _ => trivial }

/-- a law's call -/
theorem law_calls (hP : ProgOk P) {prim : FuncId → Option Prim} (hprim : PrimsOk P prim) {body : Code} (hf : P.funcs[f]? = some fn) (hb : fn.body = some body) {k : Nat} {args : List AV} {vargs : Array Value} {h' : Heap} {W : World} (hargs : DenL (K0 W) args vargs.toList)
    (hc : call P prim k f args [] = some (.dat (.bool true), h')) : Calls P f vargs W fun e W' => e = .returned (.bool true) ∧ Below W.heap.size W W' := by
  obtain ⟨_, h2⟩ := call_ok hP hprim k f args [] _ _ hc
  have h3 := h2 (K0 W) (fun _ => none) (fun _ => True) W vargs hargs (fit0 W)
  have hname : (fn.name == "runtime.NumGoroutine") = false := by
    have := List.all_eq_true.1 hP.named fn (Array.mem_toList_iff.2 (Array.mem_of_getElem? hf))
    simpa [hb] using this
  have hcf : (callFunc f vargs).run P W = .ok (.enter f vargs) W := by
    simp only [callFunc, Sem.run_bind, run_program, Result.andThen_ok, hf, hname, hb, Option.isNone_some, Bool.false_eq_true, if_false, Sem.run_pure]
  rw [hcf] at h3
  refine Calls.mono h3 fun e W' hr => ?_
  cases e with
  | returned v =>
    obtain ⟨K', e1, e2, e3⟩ := hr
    cases e2 with | dat e2 => ?_
    cases e2
    obtain ⟨ow, hok⟩ := e3.ok
    have hbel := hok.below
    rw [e1.base] at hbel
    exact ⟨rfl, hbel.below⟩
  | panicked c => exact hr.elim
  | outgrown => exact hr.elim

/- A CONTRACT AS AN ENTRY: what a call does in no heap, over plain data, it does in every heap. -/

def AV.isDat : AV → Bool
  | .dat _ => true
  | _ => false

/-- plain data -/
def AV.plain : AV → Bool
  | .dat _ => true
  | .tuple vs => vs.all AV.isDat
  | _ => false

theorem den_plain {K K' : KW} (hi : ∀ a v, K.imm a = some v → K'.imm a = some v) {v : AV} {u : Value} (h : Den K v u) (hp : v.plain = true) : Den K' v u := by
  cases h with
  | dat h => exact .dat (h.mono hi)
  | tuple cs vs hl h =>
    refine .tuple cs vs hl fun j x v h1 h2 => ?_
    have hx : x.isDat = true := List.all_eq_true.1 hp x (List.mem_of_getElem? h1)
    have := h j x v h1 h2
    cases this with
    | dat h => exact .dat (h.mono hi)
    | _ => cases hx
  | _ => cases hp

theorem denL_plain {K K' : KW} (hi : ∀ a v, K.imm a = some v → K'.imm a = some v) {vs : List AV} {us : List Value} (h : DenL K vs us) (hp : vs.all AV.plain = true) : DenL K' vs us := by
  induction h with
  | nil => exact .nil
  | cons hd _ ih =>
    simp only [List.all_cons, Bool.and_eq_true] at hp
    exact .cons (den_plain hi hd hp.1) (ih hp.2)

/-- more cells are told, of blocks that nobody owns -/
theorem OkW.tell {K : KW} {h : Nat → Option AObj} {V : Nat → Prop} {w : World} {ow : Nat → Option OKey} (hk : OkW K h V w ow) {imm' : Imm} (hext : Kext K { K with imm := imm' }) (hc : ∀ a c, imm' a = some c → w.cell? a = some c)
    (ho : ∀ b k, ow b = some k → ∀ off sp, imm' ⟨b, off, sp⟩ = K.imm ⟨b, off, sp⟩) : OkW { K with imm := imm' } h V w ow := by
  have hfree : ∀ r n k, Free K w r n → ow r.b = some k → Free { K with imm := imm' } w r n := fun r n k hf hb =>
    ⟨hf.blk, fun off sp hle => (ho _ _ hb off sp).trans (hf.imm off sp hle), hf.base⟩
  refine ⟨hc, hk.below, fun id e cs ver hid => ?_, fun id e n sz hid => ?_, hk.more, hk.fresh, hk.ver, hk.own, fun id o hid ho' => (hk.fr id o hid ho').mono hext (fun _ => rfl) fun b hb => ⟨rfl, hb, fun off sp h => (ho _ _ hb off sp).trans h⟩, hk.freshr⟩
  · obtain ⟨b, vs, hbox⟩ := hk.box id e cs ver hid
    exact ⟨b, vs, hbox.blk, hbox.own, hbox.base, hbox.heap, fun off sp => (ho _ _ hbox.own off sp).trans (hbox.imm off sp), hbox.den.mono hext,
      fun i c hi => (hbox.cell i c hi).mono hext (Nat.le_refl _) fun r n v hf hb => ⟨hfree r n _ hf hb, hb⟩, hbox.under⟩
  · obtain ⟨r, h1, h2, h3, h4, h5⟩ := hk.tip id e n sz hid
    exact ⟨r, h1, h2, h3, hfree r n _ h4 h5, h5⟩

theorem CallGives.mono {nx : Result Next} {R R' : Value → World → Prop} (h : CallGives P nx R) (hr : ∀ u w, R u w → R' u w) : CallGives P nx R' := by
  unfold CallGives at h ⊢
  split at h
  · exact hr _ _ h
  · refine Calls.mono h fun e w' h1 => ?_
    split at h1
    · exact hr _ _ h1
    · exact h1.elim
  · exact h.elim

theorem CallFOk.ofCallC {p : Prim}
    (h : ∀ args h v h', p args h = some (v, h') → h' = h ∧ args.all AV.plain = true ∧ v.plain = true ∧ ∃ callf, CallOk P callf ∧ callf f args [] = some (v, [])) : CallFOk P f p := by
  intro args hp v h' hs
  obtain ⟨rfl, hpa, hpv, callf, hcall, hc⟩ := h args hp v h' hs
  refine ⟨Nat.le_refl _, fun K HF V w vargs hargs hk => ?_⟩
  obtain ⟨_, h2⟩ := hcall f args [] _ _ hc
  obtain ⟨ow, hok⟩ := hk.ok
  let K2 : KW := { base := .all w, imm := K.imm, blk := fun _ => none, key := fun _ => none, row := fun _ _ => none }
  have hfit : Fit K2 [] (fun _ => none) (fun _ => True) w :=
    { ok := ⟨fun _ => none, { imm := hok.imm, below := BelowB.refl _, box := fun id e cs ver h => by simp [comb] at h, tip := fun id e n sz h => by simp [comb] at h, more := fun id e n sz h => by simp [comb] at h, fresh := fun id _ => ⟨by simp [comb], rfl, fun _ => rfl, fun _ _ => rfl⟩, ver := fun id e cs ver h => by simp [comb] at h, own := (by intro b k h; cases h), fr := fun id o h => by simp [comb] at h, freshr := fun _ _ _ => rfl }⟩
      hf := by intro i o h; cases h
      vlen := fun _ _ => trivial }
  have h3 := h2 K2 (fun _ => none) (fun _ => True) w vargs (denL_plain (K := K) (K' := K2) (fun _ _ h => h) hargs hpa) hfit
  refine CallGives.mono h3 fun u w' hr => ?_
  obtain ⟨K', e1, e2, e3⟩ := hr
  obtain ⟨ow', hok'⟩ := e3.ok
  have hbel : Below w.heap.size w w' := by have := hok'.below; rw [e1.base] at this; exact this.below
  have hsame : ∀ b k, ow b = some k → w'.heap[b]? = w.heap[b]? := fun b k hb => hbel.block b (hok.own b k hb)
  have hext : Kext K { K with imm := K'.imm } := ⟨rfl, e1.imm, fun _ _ h => h, fun _ _ h => h, fun a ha => e1.old a (Nat.lt_of_lt_of_le (K.base.lt _ ha) hok.below.size), fun _ _ _ h => h⟩
  have hk1 : OkW K (comb h' HF) V w' ow := hok.world (hok.below.trans (.inl hbel)) hbel.size hsame fun a c ha => hok'.imm a c (e1.imm a c ha)
  have hk2 := hk1.tell hext hok'.imm fun b k hb off sp => e1.old _ (hok.own b k hb)
  refine ⟨_, hext, den_plain (K := K') (K' := { K with imm := K'.imm }) (fun _ _ h => h) e2 hpv, ⟨ow, hk2.virgin fun i hi => hi.1⟩, hk.hf, fun i hi => ⟨hk.vlen i hi, (by intro e; cases e), Or.inr hi⟩⟩

theorem CallFOk.ofCall (hP : ProgOk P) {prim : FuncId → Option Prim} (hprim : PrimsOk P prim) {p : Prim}
    (h : ∀ args h v h', p args h = some (v, h') → h' = h ∧ args.all AV.plain = true ∧ v.plain = true ∧ ∃ k, call P prim k f args [] = some (v, [])) : CallFOk P f p :=
  CallFOk.ofCallC fun args hp v h' hs => by
    obtain ⟨h1, h2, h3, k, h4⟩ := h args hp v h' hs
    exact ⟨h1, h2, h3, _, call_ok hP hprim k, h4⟩

end
end Go.Proofs.YtobhpbnlbgbjaaaGreatDoor
