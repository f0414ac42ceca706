/- Part of a proof. -/
import Derived.Test.YtfdcjngclelnhaaL1
set_option linter.unusedSectionVars false
set_option linter.unusedSimpArgs false
set_option linter.unusedVariables false
namespace Go.Proofs.Ytfdcjngclelnhaa
set_option maxRecDepth 1000000
open Go Go.RowKit
def t_sel:List UInt8:=[115,101,108,101,99,116,32,97,32,97,115,32,120,32,102,114,111,109,32,116]
def queryOut:AV:=.tuple [.dat (qu 1 false (one1 (itm (ex 5 0 [97] [] .nils .nils) [120])) (one1 (frm 1 [116] false [116] .nils .nils .nils)) .nils .nils .nils .nils (-1) .nils),.dat (.int .i64 0),.dat (.int .i64 0)]
def kQuery:Known:=⟨true,[.dat (.str t_sel)],[],queryOut,[]⟩
theorem query_run:comesTo (callB Try.prog primN 100000 23 kQuery.args []) kQuery = true:=by kernel_rfl
end Go.Proofs.Ytfdcjngclelnhaa
