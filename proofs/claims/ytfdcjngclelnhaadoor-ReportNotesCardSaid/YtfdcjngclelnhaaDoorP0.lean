/- The library's own contracts of this seat as entries of the evaluator: Itoa, FormatInt, ParseInt, Join. -/
import Derived.Test.YtfdcjngclelnhaaDoorF2
import Derived.Test.YtfdcjngclelnhaaDoorProg
import Derived.Test.YtfdcjngclelnhaaDoorPL
import Derived.KernelRfl
import Derived.WalkSmall
import Derived.Lib.AppendIntMem
set_option linter.unusedSectionVars false
set_option linter.unusedSimpArgs false
set_option linter.unusedVariables false
set_option linter.unusedSimpArgs false
namespace Go.Proofs.YtfdcjngclelnhaaDoor
open Go Go.RowKit

def Tabbed (w : World) : Prop := Lib.TabIs Tryd.prog w "internal/strconv.uint64pow10" .u64 Lib.pow10Tab

instance : BaseT where
  ok := Tabbed
  keep := fun _ _ h hb => Lib.tabBelow_of_tabIs h _ hb

theorem prog_ok : ProgOk Tryd.prog := ⟨by kernel_rfl, by kernel_rfl⟩

/- decimal numerals -/

def decF : Nat → Nat → List UInt8 → List UInt8
  | 0, _, acc => acc
  | f + 1, n, acc => if n < 10 then UInt8.ofNat (48 + n) :: acc else decF f (n / 10) (UInt8.ofNat (48 + n % 10) :: acc)

theorem decF_eq : ∀ (f n : Nat) (acc : List UInt8), n < 10 ^ (f + 1) → decF (f + 1) n acc = Lib.decDigits n ++ acc
  | 0, n, acc, h => by
    unfold decF
    rw [Lib.decDigits]
    have h10 : n < 10 := by simpa using h
    simp [h10]
  | f + 1, n, acc, h => by
    unfold decF
    rw [Lib.decDigits]
    by_cases h10 : n < 10
    · simp [h10]
    · rw [if_neg h10, dif_neg h10, decF_eq f _ _ (by rw [Nat.pow_succ] at h; omega)]
      simp

/-- the numeral of a number -/
def numeral (n : Int) : List UInt8 := if n < 0 then 45 :: decF 20 n.natAbs [] else decF 20 n.toNat []

def is64 (n : Int) : Bool := decide (-9223372036854775808 ≤ n) && decide (n ≤ 9223372036854775807)

theorem numeral_eq {n : Int} (h : is64 n = true) : numeral n = Lib.itoa n := by
  simp only [is64, Bool.and_eq_true, decide_eq_true_eq] at h
  unfold numeral Lib.itoa
  split
  · rw [decF_eq 19 _ _ (by show n.natAbs < 100000000000000000000; omega), List.append_nil]
  · rw [decF_eq 19 _ _ (by show n.toNat < 100000000000000000000; omega), List.append_nil]

def primItoa : Prim := fun args h => match args with
  | [.dat (.int .i64 n)] => if is64 n then some (.dat (.str (numeral n)), h) else none
  | _ => none
def primFormat : Prim := fun args h => match args with
  | [.dat (.int .i64 n), .dat (.int .i64 10)] => if is64 n then some (.dat (.str (numeral n)), h) else none
  | _ => none
def primParse : Prim := fun args h => match args with
  | [.dat (.str s), .dat (.int .i64 10), .dat (.int .i64 64)] => match Lib.parseIntB 64 s with
    | .ok v => if s.length ≤ 1000000 then some (.tuple [.dat (.int .i64 v), .nilIface], h) else none
    | _ => none
  | _ => none

def strsOf : List D → Option (List (List UInt8))
  | [] => some []
  | .str s :: r => (strsOf r).map (s :: ·)
  | _ :: _ => none

/-- the texts with a text between -/
def joined (sep : List UInt8) : List (List UInt8) → List UInt8
  | [] => []
  | [x] => x
  | x :: r => x ++ sep ++ joined sep r

theorem joined_eq (sep : List UInt8) : ∀ l, joined sep l = Lib.join l sep
  | [] => rfl
  | [x] => (Lib.join_one x sep).symm
  | x :: y :: r => by
    rw [joined, joined_eq sep (y :: r), Lib.join_cons, Lib.join_cons]
    · simp [Lib.joinTail]
    · intro e; cases e

def primJoin : Prim := fun args h => match args with
  | [x, .dat (.str sep)] => match sealV x with
    | .dat .nils => some (.dat (.str []), h)
    | .dat (.slice es) => match strsOf es with
      | some l => if l.length ≤ 140737488355328 ∧ (joined sep l).length ≤ 140737488355328 then some (.dat (.str (joined sep l)), h) else none
      | none => none
    | _ => none
  | _ => none

theorem primItoa_ok : CallFOk Tryd.prog 33 primItoa := by
  refine CallFOk.ofCalls Tryd.func33 rfl rfl fun args h v h' hs => ?_
  unfold primItoa at hs
  split at hs
  · split at hs
    · cases hs
      rename_i n hn
      refine ⟨rfl, fun K w vargs hw _ hargs => ?_⟩
      obtain ⟨a, rfl, ha⟩ := denL_one hargs
      cases ha with | dat ha => ?_
      cases ha
      have hb := hn
      simp only [is64, Bool.and_eq_true, decide_eq_true_eq] at hb
      refine Calls.mono (Tryd.strconv_Itoa n hb.1 hb.2 w hw) fun e w' hr => ?_
      obtain ⟨rfl, k, os, rfl⟩ := hr
      refine ⟨_, rfl, ?_, Lib.below_grow _ _ (Nat.le_refl _) _ _⟩
      rw [numeral_eq hn]
      exact .dat (.str _)
    · exact nomatch hs
  · exact nomatch hs

theorem primFormat_ok : CallFOk Tryd.prog 57 primFormat := by
  refine CallFOk.ofCalls Tryd.func57 rfl rfl fun args h v h' hs => ?_
  unfold primFormat at hs
  split at hs
  · split at hs
    · cases hs
      rename_i n hn
      refine ⟨rfl, fun K w vargs hw _ hargs => ?_⟩
      obtain ⟨a, b, rfl, ha, hb'⟩ := denL_two hargs
      cases ha with | dat ha => ?_
      cases hb' with | dat hb' => ?_
      cases ha; cases hb'
      have hb := hn
      simp only [is64, Bool.and_eq_true, decide_eq_true_eq] at hb
      refine Calls.mono (Tryd.strconv_FormatInt_10 n hb.1 hb.2 w hw) fun e w' hr => ?_
      obtain ⟨rfl, k, os, rfl⟩ := hr
      refine ⟨_, rfl, ?_, Lib.below_grow _ _ (Nat.le_refl _) _ _⟩
      rw [numeral_eq hn]
      exact .dat (.str _)
    · exact nomatch hs
  · exact nomatch hs

theorem below_bytes (w : World) (t : TypeId) (l : ByteArray) : Below w.heap.size w (Lib.bytesWorld w t l) := Lib.bytesWorld_below w t l

theorem primParse_ok : CallFOk Tryd.prog 56 primParse := by
  refine CallFOk.ofCalls Tryd.func56 rfl rfl fun args h v h' hs => ?_
  unfold primParse at hs
  split at hs
  · rename_i s
    split at hs
    · rename_i v0 hv
      split at hs
      · cases hs
        refine ⟨rfl, fun K w vargs hw _ hargs => ?_⟩
        obtain ⟨l⟩ := vargs
        cases hargs with | cons ha hargs => ?_
        cases hargs with | cons hb hargs => ?_
        cases hargs with | cons hc hargs => ?_
        cases hargs
        cases ha with | dat ha => ?_
        cases hb with | dat hb => ?_
        cases hc with | dat hc => ?_
        cases ha; cases hb; cases hc
        refine Calls.mono (Tryd.strconv_ParseInt_10_at64_ok ⟨s.toArray⟩ (by show s.length ≤ _; omega) v0 hv w) fun e w' hr => ?_
        obtain ⟨rfl, hr⟩ := hr
        refine ⟨_, rfl, Den.of_tuple (.cons (.dat (.int _ _)) (.cons .nilIface .nil)), ?_⟩
        rcases hr with rfl | ⟨t, rfl⟩
        · exact Below.refl _ _
        · exact below_bytes _ _ _
      · exact nomatch hs
    · exact nomatch hs
  · exact nomatch hs

theorem strsOf_cells : ∀ {es : List D} {l : List (List UInt8)}, strsOf es = some l → es = l.map D.str
  | [], l, h => by cases h; rfl
  | .str s :: r, l, h => by
    simp only [strsOf, Option.map_eq_some_iff] at h
    obtain ⟨l', h', rfl⟩ := h
    rw [List.map_cons, ← strsOf_cells h']

theorem flat_strs (l : List (List UInt8)) : (l.map D.str).flatMap D.cells = l.map D.str := by
  induction l with
  | nil => rfl
  | cons a l ih => rw [List.map_cons, List.flatMap_cons, ih]; rfl

theorem primJoin_ok : CallFOk Tryd.prog 29 primJoin := by
  refine CallFOk.ofCalls Tryd.func29 rfl rfl fun args h v h' hs => ?_
  unfold primJoin at hs
  split at hs
  · rename_i x sep
    have key : ∀ (K : KW) (vargs : Array Value), DenL K [x, .dat (.str sep)] vargs.toList → ∃ a, vargs = #[a, .string ⟨sep.toArray⟩] ∧ Den K (sealV x) a := by
      intro K vargs hargs
      obtain ⟨a, b, rfl, ha, hb⟩ := denL_two hargs
      cases hb with | dat hb => ?_
      cases hb
      exact ⟨a, rfl, den_sealV ha⟩
    split at hs
    · rename_i hx
      cases hs
      refine ⟨rfl, fun K w vargs hw _ hargs => ?_⟩
      obtain ⟨a, rfl, ha⟩ := key K vargs hargs
      rw [hx] at ha
      cases ha with | dat ha => ?_
      cases ha
      refine Calls.mono (Tryd.strings_Join_none none 0 ⟨sep.toArray⟩ w) fun e w' hr => ?_
      obtain ⟨rfl, rfl⟩ := hr
      exact ⟨_, rfl, .dat (.str []), Below.refl _ _⟩
    · rename_i es hx
      split at hs
      · rename_i l hl
        split at hs
        · rename_i hlen
          cases hs
          refine ⟨rfl, fun K w vargs hw himm hargs => ?_⟩
          obtain ⟨a, rfl, ha⟩ := key K vargs hargs
          rw [hx] at ha
          have hes := strsOf_cells hl
          subst hes
          cases ha with | dat ha => ?_
          cases ha with | slice es a cap b o sz vs hcap ha hsz hvl hv hd => ?_
          rw [flat_strs] at hvl hd
          cases l with
          | nil =>
            refine Calls.mono (Tryd.strings_Join_none (some a) cap ⟨sep.toArray⟩ w) fun e w' hr => ?_
            obtain ⟨rfl, rfl⟩ := hr
            exact ⟨_, rfl, .dat (.str []), Below.refl _ _⟩
          | cons s0 r =>
            have ha' := ha (by simp)
            subst ha'
            have hcells : ∀ (j : Nat) x, ((s0 :: r).map fun s : List UInt8 => (⟨s.toArray⟩ : ByteArray))[j]? = some x → w.cell? ⟨b, o + j, none⟩ = some (.string x) := by
              intro j x hj
              rw [List.getElem?_map, Option.map_eq_some_iff] at hj
              obtain ⟨s, hs, rfl⟩ := hj
              have hlt : j < vs.length := by
                rw [hvl, List.length_map]
                exact (List.getElem?_eq_some_iff.1 hs).1
              obtain ⟨u, hu⟩ : ∃ u, vs[j]? = some u := ⟨_, List.getElem?_eq_getElem hlt⟩
              have h1 := hd j (.str s) u (by rw [List.getElem?_map, hs]; rfl) hu
              cases h1
              exact himm _ _ (hv j _ hu)
            have hb : b < w.heap.size := by
              obtain ⟨vs', e', f', hb, _, _⟩ := cell_block (hcells 0 _ rfl)
              exact lt_of_heap hb
            have hmm : ((s0 :: r).map fun s : List UInt8 => (⟨s.toArray⟩ : ByteArray)).map (fun x : ByteArray => x.data.toList) = s0 :: r := by
              rw [List.map_map]
              conv => rhs; rw [← List.map_id (s0 :: r)]
              exact List.map_congr_left fun s _ => by simp
            have := Tryd.strings_Join b o cap ((s0 :: r).map fun s : List UInt8 => (⟨s.toArray⟩ : ByteArray)) ⟨sep.toArray⟩ w hcells hb (by rw [List.length_map]; exact hlen.1) (by rw [List.length_map]; simpa using hcap)
              (by rw [hmm]; have := hlen.2; rw [joined_eq] at this; simpa using this)
            rw [hmm, List.length_map] at this
            rw [List.length_map]
            refine Calls.mono this fun e w' hr => ?_
            obtain ⟨rfl, hbel⟩ := hr
            refine ⟨_, rfl, ?_, hbel⟩
            rw [joined_eq]
            simp only [List.toList_toArray]
            exact .dat (.str _)
        · exact nomatch hs
      · exact nomatch hs
    · exact nomatch hs
  · exact nomatch hs

/- the entries -/

def primT : FuncId → Option Prim := fun f =>
  if f = 78 then some primIndexByte else if f = 64 then some primCount else if f = 71 then some primSame else if f = 33 then some primItoa else if f = 57 then some primFormat else if f = 56 then some primParse else if f = 29 then some primJoin else none

theorem prims_ok : PrimsOk Tryd.prog primT := by
  intro f p h
  unfold primT at h
  split at h
  · rename_i e; subst e; cases h
    exact primIndexByte_ok Tryd.func78 rfl rfl (by kernel_rfl) (by kernel_rfl)
  split at h
  · rename_i e; subst e; cases h
    exact primCount_ok Tryd.func64 rfl rfl (by kernel_rfl) (by kernel_rfl)
  split at h
  · rename_i e; subst e; cases h
    exact primSame_ok Tryd.func71 rfl rfl (by kernel_rfl) (by kernel_rfl)
  split at h
  · rename_i e; subst e; cases h; exact primItoa_ok
  split at h
  · rename_i e; subst e; cases h; exact primFormat_ok
  split at h
  · rename_i e; subst e; cases h; exact primParse_ok
  split at h
  · rename_i e; subst e; cases h; exact primJoin_ok
  · exact nomatch h

theorem alive23 : (fun k => call Tryd.prog primT (k + 3000) 7 [] []) = fun _ => some (.dat (.bool true), []) := by kernel_rfl

end Go.Proofs.YtfdcjngclelnhaaDoor
