/- Part of a proof. -/
import Derived.Test.YtfdcjngclelnhaaGreatL1
set_option linter.unusedSectionVars false
set_option linter.unusedSimpArgs false
set_option linter.unusedVariables false
namespace Go.Proofs.YtfdcjngclelnhaaGreat
set_option maxRecDepth 1000000
open Go Go.RowKit
def t_sel:List UInt8:=[115,101,108,101,99,116,32,97,32,97,115,32,120,32,102,114,111,109,32,116]
def queryOut:AV:=.tuple [.dat (qu 1 false (Z5 (itm (ex 5 0 [97] [] .nils .nils) [120])) (Z5 (frm 1 [116] false [116] .nils .nils .nils)) .nils .nils .nils .nils (-1) .nils),.dat (.int .i64 0),.dat (.int .i64 0)]
def kQuery:Hq:=⟨true,[.dat (.str t_sel)],[],queryOut,[]⟩
theorem QjF:Hw (Q5Q Tryz.prog Q90 100000 11 kQuery.args []) kQuery = true:=by kernel_rfl
end Go.Proofs.YtfdcjngclelnhaaGreat
