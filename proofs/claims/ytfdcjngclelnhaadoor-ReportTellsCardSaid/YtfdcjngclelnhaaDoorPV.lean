/- Values that are right, and how long a row is. -/
import Derived.Test.YtfdcjngclelnhaaDoorP6
set_option linter.unusedSectionVars false
set_option linter.unusedSimpArgs false
set_option linter.unusedVariables false
set_option linter.unusedSimpArgs false
namespace Go.Proofs.YtfdcjngclelnhaaDoor
open Go Go.RowKit

/-- a value that may be -/
inductive ValOk : Val → Prop where
  | null : ValOk ⟨0, 0, []⟩
  | bool (b : Bool) : ValOk (boolV b)
  | int (n : Int) (h : is64 n = true) : ValOk ⟨2, n, []⟩
  | text (s : List UInt8) (h : s.length ≤ 1000) : ValOk ⟨3, 0, s⟩

theorem len_at' {d : D} {vs : List Val} (h : IsRow d vs) (hh : Heap) : builtinA Tryd.prog .len [22] none [.dat d] hh = some (.dat (.int .i64 vs.length), hh) := by
  unfold builtinA
  simp only [h.len, Option.map_some]

end Go.Proofs.YtfdcjngclelnhaaDoor
