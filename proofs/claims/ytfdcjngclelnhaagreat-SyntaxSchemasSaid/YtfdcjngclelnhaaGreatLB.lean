/- Part of a proof. -/
import Derived.Test.YtfdcjngclelnhaaGreatL1
set_option linter.unusedSectionVars false
set_option linter.unusedSimpArgs false
set_option linter.unusedVariables false
namespace Go.Proofs.YtfdcjngclelnhaaGreat
set_option maxRecDepth 1000000
open Go Go.RowKit
def t_abc:List UInt8:=[97,32,43,32,98,32,42,32,99]
def exprOut:AV:=.tuple [.dat (ZO [43] (ex 5 0 [97] [] .nils .nils) (ZO [42] (ex 5 0 [98] [] .nils .nils) (ex 5 0 [99] [] .nils .nils))),.dat (.int .i64 0),.dat (.int .i64 0)]
def kExpr:Hq:=⟨true,[.dat (.str t_abc)],[],exprOut,[]⟩
theorem Qo0:Hw (Q5Q Tryz.prog Q90 100000 8 kExpr.args []) kExpr = true:=by kernel_rfl
end Go.Proofs.YtfdcjngclelnhaaGreat
