/- The reference's text of a value is the program's. -/
import Derived.Test.YtfdcjngclelnhaaDoorP20
set_option linter.unusedSectionVars false
set_option linter.unusedSimpArgs false
set_option linter.unusedVariables false
set_option linter.unusedSimpArgs false
namespace Go.Proofs.YtfdcjngclelnhaaDoor
open Go Go.RowKit

def bytesD (bs : List UInt8) : List D := bs.map fun b => .int .u8 b.toNat

/-- a slice of bytes that grows in the second box, once it has grown -/
def sl : Bool → List UInt8 → AV
  | false, bs => .own .full (bytesD bs)
  | true, bs => .own (.tip 1) (bytesD bs)
/-- holes that drawn regions left -/
def nz (j : Nat) : Heap := List.replicate j none
def sh : Bool → Nat → Nat → Option AObj → Heap
  | false, _, _, bx => [bx]
  | true, j, n, bx => bx :: some (.tip 5 n 1) :: nz j
def shj (g : Bool) (j : Nat) : Nat := match g with | true => j | false => 0

theorem sh0 (g : Bool) (j n : Nat) (bx : Option AObj) : (sh g j n bx)[0]? = some bx := by cases g <;> rfl
theorem nz_len (j : Nat) : (nz j).length = j := by simp [nz]
theorem nz_snoc (j : Nat) : nz j ++ [none] = nz (j + 1) := by simp [nz, List.replicate_succ']
theorem restrict_nz (F : List Nat) : ∀ (j n : Nat), restrictA F n (nz j) = nz j
  | 0, n => rfl
  | j + 1, n => by
    have := restrict_nz F j (n + 1)
    simp only [nz, List.replicate_succ, restrictA] at this ⊢
    rw [this]
    simp
theorem holes_nz (F : List Nat) : ∀ (j n : Nat), holesA F n (nz j) = true
  | 0, _ => rfl
  | j + 1, n => by
    have := holes_nz F j (n + 1)
    simp only [nz, List.replicate_succ, holesA] at this ⊢
    simp [this]
theorem nz_get (a b : Option AObj) (j : Nat) : (a :: b :: nz (j + 1))[j + 2]? = some none := by simp [nz]
theorem nz_set (a b : Option AObj) (j : Nat) : (a :: b :: nz (j + 1)).set (j + 2) none = a :: b :: nz (j + 1) := by
  apply List.ext_getElem?
  intro i
  rw [List.getElem?_set]
  by_cases h : j + 2 = i
  · subst h
    rw [if_pos rfl, nz_get]
    simp [nz]
  · rw [if_neg h]
theorem nz_get' (j : Nat) : (nz (j + 1))[j]? = some none := by simp [nz]
theorem nz_set' (j : Nat) : (nz (j + 1)).set j none = nz (j + 1) := by
  apply List.ext_getElem?
  intro i
  rw [List.getElem?_set]
  by_cases h : j = i
  · subst h
    rw [if_pos rfl, nz_get']
    simp [nz]
  · rw [if_neg h]
theorem nz_list (j : Nat) : (some (j + 1 + 1)).toList ++ [1] = [j + 2, 1] := rfl
theorem nz_b0 (j : Nat) : ((0 : Nat) == j + 2) = false := by simp
theorem nz_b1 (j : Nat) : ((1 : Nat) == j + 2) = false := by simp
theorem nz_has (j : Nat) : [j + 2, 1].contains 1 = true := by simp
theorem nz_hasnt (j : Nat) : [j + 2, 1].contains 0 = false := by simp
theorem slT (bs : List UInt8) : sl true bs = .own (.tip 1) (bytesD bs) := rfl
theorem bytesD_len (bs : List UInt8) : (bytesD bs).length = bs.length := by simp [bytesD]
theorem bytesD_app (a b : List UInt8) : bytesD (a ++ b) = bytesD a ++ bytesD b := by simp [bytesD]
theorem bytesD_fits : ∀ bs : List UInt8, (bytesD bs).all (fitsD 1) = true
  | [] => rfl
  | b :: r => by
    have := bytesD_fits r
    simp only [bytesD, List.map_cons, List.all_cons, Bool.and_eq_true] at this ⊢
    exact ⟨rfl, this⟩
theorem bytesD_sized (bs : List UInt8) : sized 1 (bytesD bs) = true := by cases bs <;> rfl
theorem bytesOf_D : ∀ bs : List UInt8, bytesOf (bytesD bs) = some bs
  | [] => rfl
  | b :: r => by
    have := bytesOf_D r
    simp only [bytesD, List.map_cons] at this ⊢
    simp [bytesOf, this]

theorem under64 : Tryd.prog.underlying 64 = some (.slice 5) := by kernel_rfl

/- where only the last but one writes, it is of no matter where -/
def checkK (m : Nat) (d : Done) (i : Nat) (done : List Done) : Bool := checkOne m d i done
def clearW (b : Done) : Done := ⟨b.reads, b.dst, [], []⟩
theorem clearW_mk (a : List Tmp) (b : Option Tmp) (c d : List Nat) : clearW ⟨a, b, c, d⟩ = ⟨a, b, [], []⟩ := rfl
def noFoot (b : Done) : Bool := b.foot.isEmpty && b.writes.isEmpty

theorem all_true (W : List Nat) : (W.all fun _ => true) = true := by simp
theorem check_clear (m : Nat) (rs : List Tmp) (dst : Option Tmp) : ∀ (done : List Done) (i : Nat), checkOne m ⟨rs, dst, [], []⟩ i done = checkK m ⟨rs, dst, [], []⟩ i (done.map clearW)
  | [], _ => rfl
  | b :: r, i => by
    have ih := check_clear m rs dst r (i + 1)
    unfold checkK at ih ⊢
    have e : apartD b ⟨rs, dst, [], []⟩ = apartD (clearW b) ⟨rs, dst, [], []⟩ := by
      simp [apartD, apartL, clearW, all_true]
    simp only [List.map_cons, checkOne, ih, e]

theorem check_write (m : Nat) (rs : List Tmp) (dst : Option Tmp) (F W : List Nat) : ∀ (done : List Done) (i : Nat), done.all noFoot = true → checkOne m ⟨rs, dst, F, W⟩ i done = checkK m ⟨rs, dst, [], []⟩ i done
  | [], _, _ => rfl
  | b :: r, i, h => by
    simp only [List.all_cons, Bool.and_eq_true, noFoot, List.isEmpty_iff] at h
    have ih := check_write m rs dst F W r (i + 1) (by simpa [noFoot] using h.2)
    unfold checkK at ih ⊢
    have e : apartD b ⟨rs, dst, F, W⟩ = apartD b ⟨rs, dst, [], []⟩ := by
      simp [apartD, apartL, h.1.1, h.1.2, all_true]
    simp only [checkOne, ih, e]

theorem append_sl (g : Bool) (j : Nat) (bs xs : List UInt8) (bx : Option AObj) (hx : xs ≠ []) (hs : bs.length + xs.length ≤ 100000000) :
    appendA Tryd.prog [64, 64] none (sl g bs) (.own .full (bytesD xs)) (sh g j bs.length bx) = some (sl true (bs ++ xs), sh true (shj g j) (bs.length + xs.length) bx) := by
  have hm : moreA 1 (.own .full (bytesD xs)) = some (bytesD xs) := by simp [moreA, bytesD_fits]
  have he : (bytesD xs).isEmpty = false := by cases xs with | nil => exact (hx rfl).elim | cons a r => rfl
  have hr : roomOk (bs.length + xs.length) 1 = true := room1 _ (by omega) (by omega)
  cases g with
  | false => simp [appendA, under64, info5, t5_size, t5_bytes, t5_zero, hm, he, sl, sh, shj, nz, bytesD_len, bytesD_sized, hr, allocObj, bytesD_app]
  | true => simp [appendA, under64, info5, t5_size, t5_bytes, t5_zero, hm, he, sl, sh, shj, bytesD_len, hr, bytesD_app]

theorem conv_sl (g : Bool) (bs : List UInt8) : convA Tryd.prog 64 9 (sl g bs) = some (.dat (.str bs)) := by
  have u9 : Tryd.prog.underlying 9 = some .string := by kernel_rfl
  have u5 : Tryd.prog.underlying 5 = some (.int .u8) := by kernel_rfl
  cases g <;> simp [convA, under64, u9, u5, sl, elems, bytesOf_D]

theorem build64b (c : UInt8) : buildSliceA Tryd.prog 64 1 [(0, .dat (.int .u8 c.toNat))] = some (.own .full (bytesD [c])) := build64 _
theorem build64n : buildSliceA Tryd.prog 64 1 [(0, .dat (.int .u8 39))] = some (.own .full (bytesD [39])) := build64 39
theorem build64s : buildSliceA Tryd.prog 64 1 [(0, .dat (.int .u8 39))] = some (sl false [39]) := build64 39
theorem build643_all : (fun (a b : Int) => buildSliceA Tryd.prog 64 3 [(0, .dat (.int .u8 92)), (1, .dat (.int .u8 a)), (2, .dat (.int .u8 b))]) = fun a b => some (.own .full [.int .u8 92, .int .u8 a, .int .u8 b]) := by kernel_rfl
theorem build643 (a b : UInt8) : buildSliceA Tryd.prog 64 3 [(0, .dat (.int .u8 92)), (1, .dat (.int .u8 a.toNat)), (2, .dat (.int .u8 b.toNat))] = some (.own .full (bytesD [92, a, b])) := congrFun (congrFun build643_all _) _
theorem conv53_all : (fun (m : Int) => convA Tryd.prog 5 3 (.dat (.int .u8 m))) = fun m => some (.dat (.int .i64 (IntKind.i64.wrap m))) := by kernel_rfl
theorem conv53 (c : UInt8) : convA Tryd.prog 5 3 (.dat (.int .u8 c.toNat)) = some (.dat (.int .i64 c.toNat)) := by
  have := congrFun conv53_all (c.toNat : Int)
  have hlt := c.toNat_lt
  rw [wrap64 _ (by omega) (by omega)] at this
  exact this

end Go.Proofs.YtfdcjngclelnhaaDoor
