/- Part of a proof. -/
import Derived.Test.YtfdcjngclelnhaaL1
set_option linter.unusedSectionVars false
set_option linter.unusedSimpArgs false
set_option linter.unusedVariables false
namespace Go.Proofs.Ytfdcjngclelnhaa
set_option maxRecDepth 1000000
open Go Go.RowKit
def t_abc:List UInt8:=[97,32,43,32,98,32,42,32,99]
def exprOut:AV:=.tuple [.dat (binX [43] (ex 5 0 [97] [] .nils .nils) (binX [42] (ex 5 0 [98] [] .nils .nils) (ex 5 0 [99] [] .nils .nils))),.dat (.int .i64 0),.dat (.int .i64 0)]
def kExpr:Known:=⟨true,[.dat (.str t_abc)],[],exprOut,[]⟩
theorem expr_run:comesTo (callB Try.prog primN 100000 15 kExpr.args []) kExpr = true:=by kernel_rfl
end Go.Proofs.Ytfdcjngclelnhaa
