/- A heap of the reader, whatever boxes, and one or two new boxes. -/
import Derived.Test.YtfdcjngclelnhaaDoorP8
set_option linter.unusedSectionVars false
set_option linter.unusedSimpArgs false
set_option linter.unusedVariables false
set_option linter.unusedSimpArgs false
namespace Go.Proofs.YtfdcjngclelnhaaDoor
open Go Go.RowKit

/-- the reader, other boxes, a new one -/
def hp1 (T : Heap) (x a : Option AObj) : Heap := x :: (T ++ [a])
def hp2 (T : Heap) (x a b : Option AObj) : Heap := x :: (T ++ [a, b])

theorem hp1_new (T : Heap) (x a : Option AObj) : (x :: T) ++ [a] = hp1 T x a := rfl
theorem hp1_new' (T : Heap) (x a : Option AObj) : x :: (T ++ [a]) = hp1 T x a := rfl
theorem hp2_new (T : Heap) (x a b : Option AObj) : hp1 T x a ++ [b] = hp2 T x a b := by simp [hp1, hp2]
theorem hp1_len (T : Heap) (x a : Option AObj) : (hp1 T x a).length = T.length + 2 := by simp [hp1]
theorem hp1_get0 (T : Heap) (x a : Option AObj) : (hp1 T x a)[0]? = some x := rfl
theorem hp1_get1 (T : Heap) (x a : Option AObj) : (hp1 T x a)[T.length + 1]? = some a := by simp [hp1]
theorem hp2_get0 (T : Heap) (x a b : Option AObj) : (hp2 T x a b)[0]? = some x := rfl
theorem hp2_get1 (T : Heap) (x a b : Option AObj) : (hp2 T x a b)[T.length + 1]? = some a := by simp [hp2]
theorem hp2_get2 (T : Heap) (x a b : Option AObj) : (hp2 T x a b)[T.length + 2]? = some b := by
  simp [hp2, List.getElem?_append_right]
theorem hp1_set0 (T : Heap) (x a y : Option AObj) : (hp1 T x a).set 0 y = hp1 T y a := rfl
theorem hp1_set1 (T : Heap) (x a y : Option AObj) : (hp1 T x a).set (T.length + 1) y = hp1 T x y := by simp [hp1]
theorem hp2_set0 (T : Heap) (x a b y : Option AObj) : (hp2 T x a b).set 0 y = hp2 T y a b := rfl
theorem hp2_set1 (T : Heap) (x a b y : Option AObj) : (hp2 T x a b).set (T.length + 1) y = hp2 T x y b := by simp [hp2]
theorem hp2_set2 (T : Heap) (x a b y : Option AObj) : (hp2 T x a b).set (T.length + 2) y = hp2 T x a y := by
  simp [hp2, List.set_append_right]
theorem hp1_take (T : Heap) (x a : Option AObj) : (hp1 T x a).take (T.length + 1) = x :: T := by simp [hp1]
theorem hp2_take (T : Heap) (x a b : Option AObj) : (hp2 T x a b).take (T.length + 1) = x :: T := by simp [hp2]

def hp3 (T : Heap) (x a b c : Option AObj) : Heap := x :: (T ++ [a, b, c])
theorem hp2_len (T : Heap) (x a b : Option AObj) : (hp2 T x a b).length = T.length + 3 := by simp [hp2]
theorem hp3_new (T : Heap) (x a b c : Option AObj) : hp2 T x a b ++ [c] = hp3 T x a b c := by simp [hp2, hp3]
theorem hp3_get0 (T : Heap) (x a b c : Option AObj) : (hp3 T x a b c)[0]? = some x := rfl
theorem hp3_get2 (T : Heap) (x a b c : Option AObj) : (hp3 T x a b c)[T.length + 2]? = some b := by simp [hp3, List.getElem?_append_right]
theorem hp3_get3 (T : Heap) (x a b c : Option AObj) : (hp3 T x a b c)[T.length + 3]? = some c := by simp [hp3, List.getElem?_append_right]
theorem hp3_set2 (T : Heap) (x a b c y : Option AObj) : (hp3 T x a b c).set (T.length + 2) y = hp3 T x a y c := by simp [hp3, List.set_append_right]
theorem hp3_set3 (T : Heap) (x a b c y : Option AObj) : (hp3 T x a b c).set (T.length + 3) y = hp3 T x a b y := by simp [hp3, List.set_append_right]
theorem hp3_take (T : Heap) (x a b c : Option AObj) : (hp3 T x a b c).take (T.length + 3) = hp2 T x a b := by
  have : hp3 T x a b c = hp2 T x a b ++ [c] := (hp3_new T x a b c).symm
  rw [this, List.take_append_of_le_length (by rw [hp2_len]; omega), List.take_of_length_le (by rw [hp2_len]; omega)]
theorem hp2_take3 (T : Heap) (x a b : Option AObj) : (hp2 T x a b).take (T.length + 3) = hp2 T x a b := List.take_of_length_le (by rw [hp2_len]; omega)
theorem ne32 (n : Nat) : (n + 3 = n + 2) = False := by simp
theorem le32 (n : Nat) : (n + 2 < n + 3) = True := by simp

theorem lt21 (n : Nat) : n + 2 < n + 2 + 1 := Nat.lt_succ_self _
theorem lt11 (n : Nat) : n + 1 < n + 1 + 1 := Nat.lt_succ_self _

/- what a step of a drawn region sees -/

def hr0 (n : Nat) (x : Option AObj) : Heap := x :: List.replicate (n + 1) none
def hrN (n : Nat) : Heap := List.replicate n none

theorem restrict_none {F : List Nat} : ∀ (l : Heap) (n : Nat), (∀ i ∈ F, i < n) → restrictA F n l = List.replicate l.length none
  | [], _, _ => rfl
  | o :: r, n, h => by
    have : F.contains n = false := by
      rw [Bool.eq_false_iff]
      intro hc
      exact Nat.lt_irrefl _ (h n (List.contains_iff_mem.1 hc))
    simp only [restrictA, this, Bool.false_eq_true, if_false, restrict_none r (n + 1) fun i hi => Nat.lt_succ_of_lt (h i hi), List.length_cons, List.replicate_succ]

theorem holes_none {F : List Nat} : ∀ (m n : Nat), holesA F n (List.replicate m none) = true
  | 0, _ => rfl
  | m + 1, n => by simp only [List.replicate_succ, holesA, Option.isNone_none, Bool.or_true, Bool.true_and, holes_none m (n + 1)]

theorem restr0 (T : Heap) (x a : Option AObj) : restrictA [0] 0 (hp1 T x a) = hr0 T.length x := by
  have h : ∀ i ∈ [0], i < 1 := by simp
  show (if [0].contains 0 then x else none) :: restrictA [0] 1 (T ++ [a]) = _
  rw [restrict_none _ 1 h]
  simp [hr0]
theorem restrN (T : Heap) (x a : Option AObj) : restrictA [] 0 (hp1 T x a) = hrN (T.length + 2) := by
  rw [restrict_none _ 0 (by simp), hp1_len]; rfl
theorem hr0_len (n : Nat) (x : Option AObj) : (hr0 n x).length = n + 2 := by simp [hr0]
theorem hrN_len (n : Nat) : (hrN n).length = n := by simp [hrN]
theorem hr0_get (n : Nat) (x : Option AObj) : (hr0 n x)[0]? = some x := rfl
theorem hr0_holes (n : Nat) (x : Option AObj) : holesA [0] 0 (hr0 n x) = true := by
  simp only [hr0, holesA, holes_none, Bool.and_true]
  rfl
theorem hrN_holes (n : Nat) : holesA [] 0 (hrN n) = true := holes_none n 0
theorem reach_nil (h : Heap) (acc : List Nat) : ∀ d, reachA h d [] acc = acc
  | 0 => rfl
  | _ + 1 => rfl

def hrB (n : Nat) (b : Option AObj) : Heap := List.replicate n none ++ [b]

theorem restrict_above {F : List Nat} : ∀ (l : Heap) (n : Nat), (∀ i ∈ F, n + l.length ≤ i) → restrictA F n l = List.replicate l.length none
  | [], _, _ => rfl
  | o :: r, n, h => by
    have : F.contains n = false := by
      rw [Bool.eq_false_iff]
      intro hc
      have := h n (List.contains_iff_mem.1 hc)
      simp only [List.length_cons] at this
      omega
    simp only [restrictA, this, Bool.false_eq_true, if_false, List.length_cons, List.replicate_succ]
    rw [restrict_above r (n + 1) fun i hi => by have := h i hi; simp only [List.length_cons] at this; omega]

theorem restrict_append (F : List Nat) : ∀ (l r : Heap) (n : Nat), restrictA F n (l ++ r) = restrictA F n l ++ restrictA F (n + l.length) r
  | [], r, n => rfl
  | o :: l, r, n => by
    simp only [List.cons_append, restrictA, restrict_append F l r (n + 1), List.length_cons]
    rw [show n + 1 + l.length = n + (l.length + 1) by omega]

theorem hp2_split (T : Heap) (x a b : Option AObj) : hp2 T x a b = hp1 T x a ++ [b] := (hp2_new T x a b).symm

theorem restrB (T : Heap) (x a b : Option AObj) : restrictA [T.length + 2] 0 (hp2 T x a b) = hrB (T.length + 2) b := by
  rw [hp2_split, restrict_append, restrict_above _ 0 (by simp [hp1_len]), hp1_len]
  show _ ++ [if [T.length + 2].contains (0 + (T.length + 2)) then b else none] = _
  simp [hrB]
theorem restrN2 (T : Heap) (x a b : Option AObj) : restrictA [] 0 (hp2 T x a b) = hrN (T.length + 3) := by
  rw [restrict_none _ 0 (by simp), hp2_len]; rfl
theorem hrB_len (n : Nat) (b : Option AObj) : (hrB n b).length = n + 1 := by simp [hrB]
theorem hrB_get (n : Nat) (b : Option AObj) : (hrB n b)[n]? = some b := by simp [hrB]
theorem holes_B (F : List Nat) (b : Option AObj) : ∀ (k n : Nat), F.contains (n + k) = true → holesA F n (List.replicate k none ++ [b]) = true
  | 0, n, h => by
    rw [Nat.add_zero] at h
    simp only [List.replicate_zero, List.nil_append, holesA, h, Bool.true_or, Bool.true_and]
  | k + 1, n, h => by
    simp only [List.replicate_succ, List.cons_append, holesA, Option.isNone_none, Bool.or_true, Bool.true_and]
    exact holes_B F b k (n + 1) (by rw [← h]; congr 1; omega)
theorem hrB_holes (n : Nat) (b : Option AObj) : holesA [n] 0 (hrB n b) = true := holes_B _ b n 0 (by simp)

/-- where nothing is written, what is read is of no matter -/
def checkC (m : Nat) (d : Done) (i : Nat) (done : List Done) : Bool := checkOne m d i done
def clearF (b : Done) : Done := { b with foot := [] }

theorem check_reads (m : Nat) (rs : List Tmp) (dst : Option Tmp) (F : List Nat) : ∀ (done : List Done) (i : Nat), done.all (fun b => b.writes.isEmpty) = true →
    checkOne m ⟨rs, dst, F, []⟩ i done = checkC m ⟨rs, dst, [], []⟩ i (done.map clearF)
  | [], _, _ => rfl
  | b :: r, i, h => by
    simp only [List.all_cons, Bool.and_eq_true, List.isEmpty_iff] at h
    have ih := check_reads m rs dst F r (i + 1) h.2
    unfold checkC at ih ⊢
    have e : apartD b ⟨rs, dst, F, []⟩ = apartD (clearF b) ⟨rs, dst, [], []⟩ := by
      simp only [apartD, apartL, clearF, h.1, List.all_nil]
    have e' : apartD ⟨rs, dst, F, []⟩ b = apartD ⟨rs, dst, [], []⟩ (clearF b) := by
      simp only [apartD, apartL, clearF, h.1, List.all_nil]
    simp only [List.map_cons, checkOne, ih, e, e']

theorem cast00 : ((0 : Nat) : Int) = 0 := rfl

end Go.Proofs.YtfdcjngclelnhaaDoor
