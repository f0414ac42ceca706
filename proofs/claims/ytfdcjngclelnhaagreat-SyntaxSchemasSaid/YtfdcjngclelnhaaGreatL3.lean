/- Part of a proof. -/
import Derived.Test.YtfdcjngclelnhaaGreatLB
import Derived.Test.YtfdcjngclelnhaaGreatLC
import Derived.Test.YtfdcjngclelnhaaGreatXS
import Derived.Test.YtfdcjngclelnhaaGreatKE
import Derived.Test.YtfdcjngclelnhaaGreatX1
import Derived.Test.YtfdcjngclelnhaaGreatX2
import Derived.Test.YtfdcjngclelnhaaGreatX3
import Derived.Test.YtfdcjngclelnhaaGreatX4
import Derived.Test.YtfdcjngclelnhaaGreatX5
import Derived.Test.YtfdcjngclelnhaaGreatX6
import Derived.Test.YtfdcjngclelnhaaGreatL1
import Derived.Test.YtfdcjngclelnhaaGreatKT
set_option linter.unusedSectionVars false
set_option linter.unusedSimpArgs false
set_option linter.unusedVariables false
namespace Go.Proofs.YtfdcjngclelnhaaGreat
set_option maxRecDepth 1000000
open Go Go.RowKit
theorem QcN {f:FuncId} {m:Hq} (hf:QqC m = true) (hh:m.heap = []) (h:Hw (Q5Q Tryz.prog Q90 100000 f m.args []) m = true):Good Tryz.prog f m:=.of Qej 100000 (by rw [hf,hh,h]; rfl)
def Qsq:Tab:=[(14,[kScript]),(8,[kExpr]),(11,[kQuery])]
theorem QpI:QiR Tryz.prog Qsq:=⟨⟨QcN rfl rfl Qgy,trivial⟩,⟨QcN rfl rfl Qo0,trivial⟩,⟨QcN rfl rfl QjF,trivial⟩,trivial⟩
def QrW:Hq:=⟨true,[],[],.dat (.bool true),[]⟩
theorem Qlt:Hw (Q5Q Tryz.prog (Qci Qsq Q90) 100000 7 [] []) QrW = true:=by kernel_rfl
theorem Qot:CallE Tryz.prog 7 [] [] (.dat (.bool true)) []:=QaG (Q6Z Q7 (QfR Q7 Qej QpI) 100000 _ [] [] _ _ (Q97 Qlt))
end Go.Proofs.YtfdcjngclelnhaaGreat
namespace Go.Proofs.YtfdcjngclelnhaaGreat
set_option maxRecDepth 100000
open Go Go.RowKit
theorem QoY {P:Program} {f:FuncId} {p:Prim} (hp:CallFOk P f p) {args:List AV} {h:Heap} {v:AV} {h':Heap} (hs:p args h = some (v,h')):Call1 P f args h v h':=hp args h v h' hs
def QbM (S:Q9) (n:Nat) (a0:List UInt8) (a1:Int):Option Int:=some (idxByte a1.toNat.toUInt8 a0 0)
theorem Qpz {S:Q9} (hS:Qf S) (n:Nat):EntryOk Tryz.prog (e42 146 (QbM S n)):=Q4D fun a0 a1 r hr=>by
 have e:idxByte a1.toNat.toUInt8 a0 0 = r:=Option.some.inj hr
 subst e
 have h:CallFOk Tryz.prog 146 primIndexByte:=Q0q Tryz.func146 rfl rfl (by kernel_rfl) (by kernel_rfl)
 have h1:=QoY h (args:=[.dat (.str a0),.dat (.int .u8 a1)]) (h:=[]) (v:=.dat (.int .i64 (idxByte a1.toNat.toUInt8 a0 0))) (h':=[]) rfl
 exact QaG h1
def Q5X (S:Q9) (n:Nat):Option Bool:=some true
theorem Qhl {S:Q9} (hS:Qf S) (n:Nat):EntryOk Tryz.prog (e47 7 (Q5X S n)):=Qml fun r hr=>by
 have e:true = r:=Option.some.inj hr
 subst e
 exact Qot
end Go.Proofs.YtfdcjngclelnhaaGreat
namespace Go.Proofs.YtfdcjngclelnhaaGreat
open Go Go.RowKit
set_option maxRecDepth 100000
set_option maxHeartbeats 4000000
noncomputable def Q8:Nat → Q9
 | 0=>⟨fun _=>none,fun _ _=>none,fun _ _ _=>none,fun _=>none,fun _ _=>none,fun _ _=>none,fun _ _=>none,fun _ _=>none,fun _=>none,fun _=>none,fun _=>none,fun _=>none,fun _=>none,fun _ _ _=>none,fun _=>none,fun _ _=>none,fun _ _=>none,fun _ _=>none,fun _ _=>none,fun _ _=>none,fun _ _=>none,fun _=>none,fun _=>none,fun _=>none,fun _=>none,fun _=>none,fun _=>none,fun _=>none,fun _=>none,fun _=>none,fun _=>none,fun _=>none,fun _=>none,fun _=>none,fun _=>none,fun _=>none,fun _=>none,fun _=>none,fun _=>none,fun _=>none,fun _=>none,fun _=>none,fun _=>none,fun _ _=>none,fun _=>none,fun _=>none,fun _ _=>none,fun _=>none,fun _=>none,fun _ _=>none,fun _ _=>none,fun _ _=>none,fun _ _=>none,fun _=>none,fun _=>none,fun _=>none,fun _=>none,fun _=>none,fun _=>none,fun _=>none,fun _ _=>none,fun _=>none,fun _=>none,fun _=>none,fun _=>none,fun _=>none,fun _=>none,fun _=>none,fun _=>none,fun _=>none,fun _=>none,fun _=>none,fun _=>none,fun _ _ _=>none,fun _ _=>none,fun _=>none,fun _=>none,fun _ _=>none,fun _ _=>none,fun _ _=>none,fun _ _=>none,fun _ _=>none,fun _ _=>none,fun _=>none,fun _=>none, none,fun _=>none,fun _=>none,fun _=>none,fun _ _=>none, none,fun _ _=>none,fun _=>none,fun _=>none,fun _=>none,fun _=>none,fun _=>none,fun _ _=>none,fun _=>none,fun _=>none,fun _=>none,fun _=>none,fun _ _=>none,fun _=>none,fun _=>none,fun _=>none,fun _=>none,fun _ _=>none,fun _ _=>none,fun _ _=>none,fun _ _=>none,fun _ _=>none,fun _=>none,fun _ _=>none,fun _=>none,fun _=>none, none,fun _=>none,fun _=>none,fun _=>none,fun _=>none,fun _=>none,fun _=>none,fun _=>none,fun _=>none,fun _=>none,fun _=>none,fun _ _=>none,fun _=>none,fun _=>none,fun _=>none,fun _=>none,fun _ _=>none,fun _ _=>none,fun _=>none⟩
 | n + 1=>⟨QaW (Q8 n) (n + 1),Q8b (Q8 n) (n + 1),Q6M (Q8 n) (n + 1),Q7t (Q8 n) (n + 1),Q7r (Q8 n) (n + 1),Q9H (Q8 n) (n + 1),Q7B (Q8 n) (n + 1),Q8T (Q8 n) (n + 1),Q6k (Q8 n) (n + 1),Q9A (Q8 n) (n + 1),Q4s (Q8 n) (n + 1),Q6h (Q8 n) (n + 1),Q6d (Q8 n) (n + 1),Qb8 (Q8 n) (n + 1),Q2F (Q8 n) (n + 1),Q2A (Q8 n) (n + 1),Q1t (Q8 n) (n + 1),Q1O (Q8 n) (n + 1),Q1a (Q8 n) (n + 1),Q16 (Q8 n) (n + 1),Q17 (Q8 n) (n + 1),Q5L (Q8 n) (n + 1),Q8F (Q8 n) (n + 1),Qbq (Q8 n) (n + 1),Q1y (Q8 n) (n + 1),Q1i (Q8 n) (n + 1),QaB (Q8 n) (n + 1),Q8M (Q8 n) (n + 1),Q5G (Q8 n) (n + 1),Q7p (Q8 n) (n + 1),Q5B (Q8 n) (n + 1),Q6f (Q8 n) (n + 1),Q3z (Q8 n) (n + 1),Q69 (Q8 n) (n + 1),Q7n (Q8 n) (n + 1),Q8K (Q8 n) (n + 1),Qbz (Q8 n) (n + 1),Q3H (Q8 n) (n + 1),Q42 (Q8 n) (n + 1),Q1f (Q8 n) (n + 1),Q12 (Q8 n) (n + 1),Q1n (Q8 n) (n + 1),Q1c (Q8 n) (n + 1),Q6i (Q8 n) (n + 1),Q60 (Q8 n) (n + 1),Q7N (Q8 n) (n + 1),Q5U (Q8 n) (n + 1),Q47 (Q8 n) (n + 1),Q64 (Q8 n) (n + 1),QaE (Q8 n) (n + 1),QdK (Q8 n) (n + 1),Q9N (Q8 n) (n + 1),Q9w (Q8 n) (n + 1),Q7F (Q8 n) (n + 1),Q6Q (Q8 n) (n + 1),Qbh (Q8 n) (n + 1),Q5H (Q8 n) (n + 1),Q9k (Q8 n) (n + 1),Qbg (Q8 n) (n + 1),Qbr (Q8 n) (n + 1),Q5D (Q8 n) (n + 1),QbQ (Q8 n) (n + 1),QaM (Q8 n) (n + 1),Q9p (Q8 n) (n + 1),Q5K (Q8 n) (n + 1),Q9b (Q8 n) (n + 1),Q65 (Q8 n) (n + 1),Q9h (Q8 n) (n + 1),Qbt (Q8 n) (n + 1),Qbd (Q8 n) (n + 1),Qbk (Q8 n) (n + 1),Q62 (Q8 n) (n + 1),QeD (Q8 n) (n + 1),QbU (Q8 n) (n + 1),QbG (Q8 n) (n + 1),Q81 (Q8 n) (n + 1),Q5Z (Q8 n) (n + 1),Q27 (Q8 n) (n + 1),Q1h (Q8 n) (n + 1),Q18 (Q8 n) (n + 1),HP (Q8 n) (n + 1),Q1g (Q8 n) (n + 1),Q13 (Q8 n) (n + 1),Q99 (Q8 n) (n + 1),Q74 (Q8 n) (n + 1),Q6m (Q8 n) (n + 1),Q6l (Q8 n) (n + 1),Q3w (Q8 n) (n + 1),Q5R (Q8 n) (n + 1),Q94 (Q8 n) (n + 1),Q5S (Q8 n) (n + 1),Qb9 (Q8 n) (n + 1),Q9x (Q8 n) (n + 1),Q3Z (Q8 n) (n + 1),Q5F (Q8 n) (n + 1),Q8d (Q8 n) (n + 1),Q8J (Q8 n) (n + 1),QbK (Q8 n) (n + 1),Q9I (Q8 n) (n + 1),Q3n (Q8 n) (n + 1),Q8f (Q8 n) (n + 1),Q7k (Q8 n) (n + 1),Q7E (Q8 n) (n + 1),Q1X (Q8 n) (n + 1),Q15 (Q8 n) (n + 1),Q5C (Q8 n) (n + 1),Q75 (Q8 n) (n + 1),Q19 (Q8 n) (n + 1),Q14 (Q8 n) (n + 1),Q0j (Q8 n) (n + 1),Q0B (Q8 n) (n + 1),QbM (Q8 n) (n + 1),Q1b (Q8 n) (n + 1),Q1e (Q8 n) (n + 1),QaD (Q8 n) (n + 1),Q4p (Q8 n) (n + 1),Q5X (Q8 n) (n + 1),c_Exprs_raw (Q8 n) (n + 1),c_Queries_raw (Q8 n) (n + 1),s_typed_raw (Q8 n) (n + 1),s_pair_raw (Q8 n) (n + 1),s_edges_raw (Q8 n) (n + 1),s_col_raw (Q8 n) (n + 1),s_list_col_raw (Q8 n) (n + 1),s_table_raw (Q8 n) (n + 1),s_schema_raw (Q8 n) (n + 1),s_Schema1_raw (Q8 n) (n + 1),s_readS_raw (Q8 n) (n + 1),S_Schema_raw (Q8 n) (n + 1),p_table_raw (Q8 n) (n + 1),p_Schema_raw (Q8 n) (n + 1),r_Schema_raw (Q8 n) (n + 1),r_SamePairs_raw (Q8 n) (n + 1),r_SameSchema_raw (Q8 n) (n + 1),c_Schemas_raw (Q8 n) (n + 1)⟩
theorem Qa:∀ n,Qf (Q8 n)
 | 0=>all_cons (QR fun _ _ h=>nomatch h) <| all_cons (QqY fun _ _ _ h=>nomatch h) <| all_cons (Qr7 fun _ _ _ _ h=>nomatch h) <| all_cons (Qio fun _ _ h=>nomatch h) <| all_cons (Qj9 fun _ _ _ h=>nomatch h) <| all_cons (Qj9 fun _ _ _ h=>nomatch h) <| all_cons (Qjm fun _ _ _ h=>nomatch h) <| all_cons (Qjm fun _ _ _ h=>nomatch h) <| all_cons (Qj6 fun _ _ h=>nomatch h) <| all_cons (Qr0 fun _ _ h=>nomatch h) <| all_cons (QiX fun _ _ h=>nomatch h) <| all_cons (Qj6 fun _ _ h=>nomatch h) <| all_cons (Qio fun _ _ h=>nomatch h) <| all_cons (QiV fun _ _ _ _ h=>nomatch h) <| all_cons (YP fun _ _ h=>nomatch h) <| all_cons (QmQ fun _ _ _ h=>nomatch h) <| all_cons (Q4y fun _ _ _ h=>nomatch h) <| all_cons (Q4y fun _ _ _ h=>nomatch h) <| all_cons (Q4y fun _ _ _ h=>nomatch h) <| all_cons (Qc2 fun _ _ _ h=>nomatch h) <| all_cons (Qc2 fun _ _ _ h=>nomatch h) <| all_cons (Qnt fun _ _ h=>nomatch h) <| all_cons (QR fun _ _ h=>nomatch h) <| all_cons (QR fun _ _ h=>nomatch h) <| all_cons (QR fun _ _ h=>nomatch h) <| all_cons (QR fun _ _ h=>nomatch h) <| all_cons (QR fun _ _ h=>nomatch h) <| all_cons (QR fun _ _ h=>nomatch h) <| all_cons (QR fun _ _ h=>nomatch h) <| all_cons (QR fun _ _ h=>nomatch h) <| all_cons (QR fun _ _ h=>nomatch h) <| all_cons (QR fun _ _ h=>nomatch h) <| all_cons (QR fun _ _ h=>nomatch h) <| all_cons (QR fun _ _ h=>nomatch h) <| all_cons (QR fun _ _ h=>nomatch h) <| all_cons (QR fun _ _ h=>nomatch h) <| all_cons (QR fun _ _ h=>nomatch h) <| all_cons (QR fun _ _ h=>nomatch h) <| all_cons (QR fun _ _ h=>nomatch h) <| all_cons (Q00 fun _ _ h=>nomatch h) <| all_cons (Q00 fun _ _ h=>nomatch h) <| all_cons (Q00 fun _ _ h=>nomatch h) <| all_cons (Q00 fun _ _ h=>nomatch h) <| all_cons (Q4u fun _ _ _ h=>nomatch h) <| all_cons (QR fun _ _ h=>nomatch h) <| all_cons (YT fun _ _ h=>nomatch h) <| all_cons (Q4u fun _ _ _ h=>nomatch h) <| all_cons (QR fun _ _ h=>nomatch h) <| all_cons (YT fun _ _ h=>nomatch h) <| all_cons (Qno fun _ _ _ h=>nomatch h) <| all_cons (QcW fun _ _ _ h=>nomatch h) <| all_cons (QcW fun _ _ _ h=>nomatch h) <| all_cons (Qmr fun _ _ _ h=>nomatch h) <| all_cons (QmP fun _ _ h=>nomatch h) <| all_cons (QoC fun _ _ h=>nomatch h) <| all_cons (Qc5 fun _ _ h=>nomatch h) <| all_cons (QcC fun _ _ h=>nomatch h) <| all_cons (Je fun _ _ h=>nomatch h) <| all_cons (Je fun _ _ h=>nomatch h) <| all_cons (Je fun _ _ h=>nomatch h) <| all_cons (QmG fun _ _ _ h=>nomatch h) <| all_cons (Je fun _ _ h=>nomatch h) <| all_cons (Je fun _ _ h=>nomatch h) <| all_cons (Je fun _ _ h=>nomatch h) <| all_cons (Je fun _ _ h=>nomatch h) <| all_cons (Je fun _ _ h=>nomatch h) <| all_cons (Je fun _ _ h=>nomatch h) <| all_cons (Je fun _ _ h=>nomatch h) <| all_cons (Je fun _ _ h=>nomatch h) <| all_cons (Je fun _ _ h=>nomatch h) <| all_cons (Qmy fun _ _ h=>nomatch h) <| all_cons (QcC fun _ _ h=>nomatch h) <| all_cons (Qc5 fun _ _ h=>nomatch h) <| all_cons (QiV fun _ _ _ _ h=>nomatch h) <| all_cons (Qpi fun _ _ _ h=>nomatch h) <| all_cons (YT fun _ _ h=>nomatch h) <| all_cons (YT fun _ _ h=>nomatch h) <| all_cons (Q5j fun _ _ _ h=>nomatch h) <| all_cons (Q0d fun _ _ _ h=>nomatch h) <| all_cons (Q5j fun _ _ _ h=>nomatch h) <| all_cons (Q0d fun _ _ _ h=>nomatch h) <| all_cons (Q0d fun _ _ _ h=>nomatch h) <| all_cons (Q0d fun _ _ _ h=>nomatch h) <| all_cons (YP fun _ _ h=>nomatch h) <| all_cons (YP fun _ _ h=>nomatch h) <| all_cons (Qcj fun _ h=>nomatch h) <| all_cons (YQ fun _ _ h=>nomatch h) <| all_cons (YQ fun _ _ h=>nomatch h) <| all_cons (YQ fun _ _ h=>nomatch h) <| all_cons (QmO fun _ _ _ h=>nomatch h) <| all_cons (Qcj fun _ h=>nomatch h) <| all_cons (QpA fun _ _ _ h=>nomatch h) <| all_cons (QcE fun _ _ h=>nomatch h) <| all_cons (YQ fun _ _ h=>nomatch h) <| all_cons (YQ fun _ _ h=>nomatch h) <| all_cons (QmT fun _ _ h=>nomatch h) <| all_cons (HZ fun _ _ h=>nomatch h) <| all_cons (Qn9 fun _ _ _ h=>nomatch h) <| all_cons (HZ fun _ _ h=>nomatch h) <| all_cons (HZ fun _ _ h=>nomatch h) <| all_cons (HZ fun _ _ h=>nomatch h) <| all_cons (HZ fun _ _ h=>nomatch h) <| all_cons (Qns fun _ _ _ h=>nomatch h) <| all_cons (Qdl fun _ _ h=>nomatch h) <| all_cons (Qdl fun _ _ h=>nomatch h) <| all_cons (YQ fun _ _ h=>nomatch h) <| all_cons (QcE fun _ _ h=>nomatch h) <| all_cons (Qcs fun _ _ _ h=>nomatch h) <| all_cons (Q4D fun _ _ _ h=>nomatch h) <| all_cons (Qcs fun _ _ _ h=>nomatch h) <| all_cons (Q4D fun _ _ _ h=>nomatch h) <| all_cons (Q4D fun _ _ _ h=>nomatch h) <| all_cons (QmB fun _ _ h=>nomatch h) <| all_cons (Qnp fun _ _ _ h=>nomatch h) <| all_cons (Qmx fun _ _ h=>nomatch h) <| all_cons (Qnc fun _ _ h=>nomatch h) <| all_cons Q0k <| all_cons (Qml fun _ h=>nomatch h) <| all_cons (YP fun _ _ h=>nomatch h) <| all_cons (YP fun _ _ h=>nomatch h) <| all_cons (QiX fun _ _ h=>nomatch h) <| all_cons (QR fun _ _ h=>nomatch h) <| all_cons (Qoq fun _ _ h=>nomatch h) <| all_cons (QR fun _ _ h=>nomatch h) <| all_cons (Q00 fun _ _ h=>nomatch h) <| all_cons (QR fun _ _ h=>nomatch h) <| all_cons (QR fun _ _ h=>nomatch h) <| all_cons (QR fun _ _ h=>nomatch h) <| all_cons (Q4u fun _ _ _ h=>nomatch h) <| all_cons (YT fun _ _ h=>nomatch h) <| all_cons (Je fun _ _ h=>nomatch h) <| all_cons (Je fun _ _ h=>nomatch h) <| all_cons (YT fun _ _ h=>nomatch h) <| all_cons (Q0d fun _ _ _ h=>nomatch h) <| all_cons (Q5j fun _ _ _ h=>nomatch h) <| all_cons (YP fun _ _ h=>nomatch h) <| QiG
 | n + 1=>all_cons (QnM (Qa n) (n + 1)) <| all_cons (Qjv (Qa n) (n + 1)) <| all_cons (Qlr (Qa n) (n + 1)) <| all_cons (Qln (Qa n) (n + 1)) <| all_cons (Qjz (Qa n) (n + 1)) <| all_cons (QlL (Qa n) (n + 1)) <| all_cons (QjX (Qa n) (n + 1)) <| all_cons (Qkn (Qa n) (n + 1)) <| all_cons (Qgf (Qa n) (n + 1)) <| all_cons (Qlz (Qa n) (n + 1)) <| all_cons (Qey (Qa n) (n + 1)) <| all_cons (QgX (Qa n) (n + 1)) <| all_cons (QfN (Qa n) (n + 1)) <| all_cons (QnI (Qa n) (n + 1)) <| all_cons (Qd7 (Qa n) (n + 1)) <| all_cons (Qc7 (Qa n) (n + 1)) <| all_cons (Qa0 (Qa n) (n + 1)) <| all_cons (Qah (Qa n) (n + 1)) <| all_cons (Q8A (Qa n) (n + 1)) <| all_cons (Q7A (Qa n) (n + 1)) <| all_cons (Q8a (Qa n) (n + 1)) <| all_cons (Qhz (Qa n) (n + 1)) <| all_cons (Ql7 (Qa n) (n + 1)) <| all_cons (QoK (Qa n) (n + 1)) <| all_cons (QaA (Qa n) (n + 1)) <| all_cons (Q7o (Qa n) (n + 1)) <| all_cons (Qne (Qa n) (n + 1)) <| all_cons (Qk5 (Qa n) (n + 1)) <| all_cons (QhV (Qa n) (n + 1)) <| all_cons (Qk0 (Qa n) (n + 1)) <| all_cons (Qic (Qa n) (n + 1)) <| all_cons (QgI (Qa n) (n + 1)) <| all_cons (Qf3 (Qa n) (n + 1)) <| all_cons (QgG (Qa n) (n + 1)) <| all_cons (Qkb (Qa n) (n + 1)) <| all_cons (Qmh (Qa n) (n + 1)) <| all_cons (Qn3 (Qa n) (n + 1)) <| all_cons (Qe0 (Qa n) (n + 1)) <| all_cons (QdW (Qa n) (n + 1)) <| all_cons (Q9e (Qa n) (n + 1)) <| all_cons (Q6S (Qa n) (n + 1)) <| all_cons (Qaz (Qa n) (n + 1)) <| all_cons (Q9f (Qa n) (n + 1)) <| all_cons (QfW (Qa n) (n + 1)) <| all_cons (QgK (Qa n) (n + 1)) <| all_cons (QkY (Qa n) (n + 1)) <| all_cons (Qg2 (Qa n) (n + 1)) <| all_cons (QdY (Qa n) (n + 1)) <| all_cons (QgB (Qa n) (n + 1)) <| all_cons (Qox (Qa n) (n + 1)) <| all_cons (Qqs (Qa n) (n + 1)) <| all_cons (QkN (Qa n) (n + 1)) <| all_cons (Qk9 (Qa n) (n + 1)) <| all_cons (QlI (Qa n) (n + 1)) <| all_cons (QlU (Qa n) (n + 1)) <| all_cons (Qps (Qa n) (n + 1)) <| all_cons (Qhi (Qa n) (n + 1)) <| all_cons (Qlj (Qa n) (n + 1)) <| all_cons (Qom (Qa n) (n + 1)) <| all_cons (QnF (Qa n) (n + 1)) <| all_cons (Qhy (Qa n) (n + 1)) <| all_cons (Qow (Qa n) (n + 1)) <| all_cons (Qpe (Qa n) (n + 1)) <| all_cons (QlT (Qa n) (n + 1)) <| all_cons (Qij (Qa n) (n + 1)) <| all_cons (QlF (Qa n) (n + 1)) <| all_cons (Qgp (Qa n) (n + 1)) <| all_cons (QkR (Qa n) (n + 1)) <| all_cons (Qo4 (Qa n) (n + 1)) <| all_cons (Qpn (Qa n) (n + 1)) <| all_cons (QnU (Qa n) (n + 1)) <| all_cons (Qgt (Qa n) (n + 1)) <| all_cons (Qqa (Qa n) (n + 1)) <| all_cons (Qmw (Qa n) (n + 1)) <| all_cons (Qpu (Qa n) (n + 1)) <| all_cons (QjN (Qa n) (n + 1)) <| all_cons (QfF (Qa n) (n + 1)) <| all_cons (Q9S (Qa n) (n + 1)) <| all_cons (Q8e (Qa n) (n + 1)) <| all_cons (Q9v (Qa n) (n + 1)) <| all_cons (Q5n (Qa n) (n + 1)) <| all_cons (Q70 (Qa n) (n + 1)) <| all_cons (Q95 (Qa n) (n + 1)) <| all_cons (Qld (Qa n) (n + 1)) <| all_cons (Qm6 (Qa n) (n + 1)) <| all_cons (Qg0 (Qa n) (n + 1)) <| all_cons (Qh8 (Qa n) (n + 1)) <| all_cons (Qev (Qa n) (n + 1)) <| all_cons (Qg1 (Qa n) (n + 1)) <| all_cons (QjK (Qa n) (n + 1)) <| all_cons (Qie (Qa n) (n + 1)) <| all_cons (Qny (Qa n) (n + 1)) <| all_cons (Ql1 (Qa n) (n + 1)) <| all_cons (QdD (Qa n) (n + 1)) <| all_cons (QhF (Qa n) (n + 1)) <| all_cons (QkC (Qa n) (n + 1)) <| all_cons (Qma (Qa n) (n + 1)) <| all_cons (Qo7 (Qa n) (n + 1)) <| all_cons (Qla (Qa n) (n + 1)) <| all_cons (Qer (Qa n) (n + 1)) <| all_cons (Qkl (Qa n) (n + 1)) <| all_cons (QlC (Qa n) (n + 1)) <| all_cons (QlG (Qa n) (n + 1)) <| all_cons (Q9U (Qa n) (n + 1)) <| all_cons (Q8V (Qa n) (n + 1)) <| all_cons (QgJ (Qa n) (n + 1)) <| all_cons (Qky (Qa n) (n + 1)) <| all_cons (Q8Z (Qa n) (n + 1)) <| all_cons (Q7f (Qa n) (n + 1)) <| all_cons (Q6u (Qa n) (n + 1)) <| all_cons (Q6r (Qa n) (n + 1)) <| all_cons (Qpz (Qa n) (n + 1)) <| all_cons (Q9y (Qa n) (n + 1)) <| all_cons (Q98 (Qa n) (n + 1)) <| all_cons (Qng (Qa n) (n + 1)) <| all_cons (Qe3 (Qa n) (n + 1)) <| all_cons Q0k <| all_cons (Qhl (Qa n) (n + 1)) <| all_cons (Qgr (Qa n) (n + 1)) <| all_cons (Qcd (Qa n) (n + 1)) <| all_cons (Qg5 (Qa n) (n + 1)) <| all_cons (Qlx (Qa n) (n + 1)) <| all_cons (Qho (Qa n) (n + 1)) <| all_cons (Qod (Qa n) (n + 1)) <| all_cons (Qa8 (Qa n) (n + 1)) <| all_cons (QhR (Qa n) (n + 1)) <| all_cons (Qed (Qa n) (n + 1)) <| all_cons (Qce (Qa n) (n + 1)) <| all_cons (QgA (Qa n) (n + 1)) <| all_cons (Qex (Qa n) (n + 1)) <| all_cons (QgR (Qa n) (n + 1)) <| all_cons (QfC (Qa n) (n + 1)) <| all_cons (Qeg (Qa n) (n + 1)) <| all_cons (Q86 (Qa n) (n + 1)) <| all_cons (Q6v (Qa n) (n + 1)) <| all_cons (Qcn (Qa n) (n + 1)) <| QiG
end Go.Proofs.YtfdcjngclelnhaaGreat
namespace Go.Proofs.YtfdcjngclelnhaaGreat
open Go
inductive Mix where
 | ok (i:Nat)
 | er (i:Nat) (d a e:Int)
def Mix.sp {α:Type}:Mix → (Nat → Out α) → Out α
 | .ok i,f=>f i
 | .er _ _ a e,_=>.err a e
def Mix.live:Mix → Bool
 | .ok _=>true
 | .er _ _ _ _=>false
def Mix.In (T:List Tok) (r:Nat):Mix → Prop
 | .ok j=>j < T.length ∧ T.length - j ≤ r
 | .er i _ _ e=>i < T.length ∧ e ≠ 0
theorem Mix.In.mono {T:List Tok} {r r':Nat} (h:r ≤ r'):∀ {m:Mix},m.In T r → m.In T r'
 | .ok _,⟨h1,h2⟩=>⟨h1,Nat.le_trans h2 h⟩
 | .er _ _ _ _,h1=>h1
section
variable {B α β γ:Type} (T:List Tok) (r:Nat) (b:Mix → B)
def Fin (good:α → Prop) (out:Out α) (v:α) (s:B):Prop:=∃ m:Mix,s = b m ∧ m.In T r ∧ good v ∧ match out with
 | .ok w j=>m = .ok j ∧ v = w
 | .err a e=>∃ i d,m = .er i d a e
def Sat (good:α → Prop) (X:(α × B → Prop) → Prop) (m:Mix) (f:Nat → Out α):Prop:=∃ o:α × B,Fin T r b good (m.sp f) o.1 o.2 ∧ ∀ q,X q = q o
def Has (good:α → Prop) (C:Option (α × B)) (m:Mix) (f:Nat → Out α):Prop:=∃ o:α × B,C = some o ∧ Fin T r b good (m.sp f) o.1 o.2
def Qha (C:Option B) (m:Mix) (f:Nat → Out Unit):Prop:=∃ s,C = some s ∧ Fin T r b (fun _=>True) (m.sp f) () s
end
section
variable {B α β γ:Type} {T:List Tok} {r:Nat} {b b':Mix → B} {good:α → Prop} {goodB:β → Prop} {m:Mix}
theorem Fin.bind {g:α → Nat → Out β} {f:Nat → Out α} {v:α} {s:B} (h:Fin T r b good (m.sp f) v s):∃ m',s = b m' ∧ m'.In T r ∧ good v ∧ m.sp (Qc f g) = m'.sp (g v):=by
 obtain ⟨m',h1,h2,h3,h4⟩:=h
 refine ⟨m',h1,h2,h3,?_⟩
 cases m with
 | ok i =>
  simp only [Mix.sp,Qc] at h4 ⊢
  cases hf:f i with
  | ok w j=>rw [hf] at h4; obtain ⟨rfl,rfl⟩:=h4; rfl
  | err a e=>rw [hf] at h4; obtain ⟨_,_,rfl⟩:=h4; rfl
 | er i d a e =>
  obtain ⟨_,_,rfl⟩:=h4; rfl
theorem Sat.ret {v w:α} {s:B} (hi:m.In T r) (hg:good v) (hv:v = w) (hs:s = b m):Sat T r b good (fun q=>q (v,s)) m (Qx w):=by
 subst hv hs
 refine ⟨_,⟨m,rfl,hi,hg,?_⟩,fun _=>rfl⟩
 cases m with
 | ok i=>exact ⟨rfl,rfl⟩
 | er i d a e=>exact ⟨_,_,rfl⟩
theorem Sat.call {C:Option (α × B)} {K:(β × B → Prop) → α × B → Prop} {f:Nat → Out α} {g:α → Nat → Out β} (hc:Has T r b' good C m f)
  (hk:∀ v m',m'.In T r → good v → Sat T r b goodB (fun q=>K q (v,b' m')) m' (g v)):Sat T r b goodB (fun q=>bn C (K q)) m (Qc f g):=by
 obtain ⟨⟨v,s⟩,rfl,h⟩:=hc
 obtain ⟨m',rfl,h2,h3,h4⟩:=h.bind (g:=g)
 obtain ⟨o,h5,h6⟩:=hk v m' h2 h3
 exact ⟨o,by rw [h4]; exact h5,h6⟩
theorem Sat.callU {C:Option B} {K:(β × B → Prop) → B → Prop} {f:Nat → Out Unit} {g:Unit → Nat → Out β} (hc:Qha T r b' C m f)
  (hk:∀ m',m'.In T r → Sat T r b goodB (fun q=>K q (b' m')) m' (g ())):Sat T r b goodB (fun q=>bn C (K q)) m (Qc f g):=by
 obtain ⟨s,rfl,h⟩:=hc
 obtain ⟨m',rfl,h2,h3,h4⟩:=h.bind (g:=g)
 obtain ⟨o,h5,h6⟩:=hk m' h2
 exact ⟨o,by rw [h4]; exact h5,h6⟩
theorem Sat.last {C:Option (α × B)} {K:(α × B → Prop) → α × B → Prop} {f:Nat → Out α} (hc:Has T r b good C m f)
  (hk:∀ v m',good v → ∀ q,K q (v,b m') = q (v,b m')):Sat T r b good (fun q=>bn C (K q)) m f:=by
 obtain ⟨⟨v,s⟩,rfl,h⟩:=hc
 obtain ⟨m',rfl,h2,h3,h4⟩:=h
 exact ⟨(v,b m'),⟨m',rfl,h2,h3,h4⟩,fun q=>hk v m' h3 q⟩
theorem Sat.eq {X Y:(α × B → Prop) → Prop} {f:Nat → Out α} (h:Sat T r b good X m f) (he:∀ q,Y q = X q):Sat T r b good Y m f:=by
 obtain ⟨o,h1,h2⟩:=h
 exact ⟨o,h1,fun q=>(he q).trans (h2 q)⟩
theorem Sat.spec {X:(α × B → Prop) → Prop} {f g:Nat → Out α} (h:Sat T r b good X m f) (he:∀ i,m = .ok i → f i = g i):Sat T r b good X m g:=by
 obtain ⟨o,h1,h2⟩:=h
 refine ⟨o,?_,h2⟩
 have:m.sp f = m.sp g:=by
  cases m with
  | ok i=>exact he i rfl
  | er i d a e=>rfl
 rw [← this]; exact h1
theorem Sat.has {X:(α × B → Prop) → Prop} {C:Option (α × B)} {f:Nat → Out α} (h:Sat T r b good X m f) (hc:∀ o,(∀ q,X q = q o) → C = some o):Has T r b good C m f:=by
 obtain ⟨o,h1,h2⟩:=h
 exact ⟨o,hc o h2,h1⟩
theorem Sat.more {X:(α × B → Prop) → Prop} {f:Nat → Out α} {r':Nat} (h:Sat T r b good X m f) (hr:r ≤ r'):Sat T r' b good X m f:=by
 obtain ⟨o,⟨m',h2,h3,h4⟩,h5⟩:=h
 exact ⟨o,⟨m',h2,h3.mono hr,h4⟩,h5⟩
theorem Has.spec {C:Option (α × B)} {f g:Nat → Out α} (h:Has T r b good C m f) (he:∀ i,m = .ok i → f i = g i):Has T r b good C m g:=by
 obtain ⟨o,h1,h2⟩:=h
 refine ⟨o,h1,?_⟩
 have:m.sp f = m.sp g:=by
  cases m with
  | ok i=>exact he i rfl
  | er i d a e=>rfl
 rw [← this]; exact h2
end
def Mix.sees (T:List Tok) (k:Int) (s:List UInt8):Mix → Bool
 | .ok i=>JI T k s i
 | .er _ _ _ _=>false
def Mix.takes (T:List Tok) (k:Int) (s:List UInt8):Mix → Mix
 | .ok i=>if JI T k s i then .ok (i + 1) else .ok i
 | m=>m
section
variable {B α β γ:Type} {T:List Tok} {r:Nat} {b b':Mix → B} {good:α → Prop} {m:Mix}
def Ends (T:List Tok):Prop:=0 < T.length ∧ (tk T (T.length - 1)).kind = 0
theorem Ends.next (hT:Ends T) {i:Nat} (hi:i < T.length) (hk:(tk T i).kind ≠ 0):i + 1 < T.length:=by
 rcases Nat.lt_or_ge (i + 1) T.length with h | h
 ·exact h
 ·have:i = T.length - 1:=by omega
  rw [this] at hk
  exact absurd hT.2 hk
theorem JN {k:Int} {s:List UInt8} {i:Nat} (h:JI T k s i = true):(tk T i).kind = k ∧ (tk T i).text = s:=by
 simpa [JI] using h
theorem Sat.word {C:Option (Bool × B)} {k:Int} {s:List UInt8} {K:(α × B → Prop) → Bool × B → Prop} {A Z:Nat → Out α} (hT:Ends T) (hk:k ≠ 0) (hm:m.In T r)
  (hc:C = some (m.sees T k s,b' (m.takes T k s)))
  (hy:∀ i j,j + 1 = r → (Mix.ok i).In T j → Sat T j b good (fun q=>K q (true,b' (.ok i))) (.ok i) A)
  (hn:Sat T r b good (fun q=>K q (false,b' m)) m Z):Sat T r b good (fun q=>bn C (K q)) m (JJ T k s A Z):=by
 subst hc
 cases m with
 | ok i =>
  by_cases h:JI T k s i = true
  ·obtain ⟨h1,h2⟩:=hm
   have h3:=hT.next h1 (by rw [(JN h).1]; exact hk)
   obtain ⟨o,g1,g2⟩:=(hy (i + 1) (r - 1) (by omega) ⟨h3,by omega⟩).more (Nat.sub_le r 1)
   refine ⟨o,?_,fun q=>?_⟩
   ·simp only [Mix.sp,JJ,h,if_true] at g1 ⊢; exact g1
   ·simp only [Mix.sees,Mix.takes,h,if_true,Q3]; exact g2 q
  ·have h':JI T k s i = false:=by simpa using h
   obtain ⟨o,g1,g2⟩:=hn
   refine ⟨o,?_,fun q=>?_⟩
   ·simp only [Mix.sp,JJ,h',Bool.false_eq_true,if_false] at g1 ⊢; exact g1
   ·simp only [Mix.sees,Mix.takes,h',Bool.false_eq_true,if_false,Q3]; exact g2 q
 | er i d a e =>
  obtain ⟨o,g1,g2⟩:=hn
  exact ⟨o,g1,fun q=>g2 q⟩
theorem Sat.see {C:Option (Bool × B)} {k:Int} {s:List UInt8} {K:(α × B → Prop) → Bool × B → Prop} {A Z:Nat → Out α}
  (hc:C = some (m.sees T k s,b' m))
  (hy:Sat T r b good (fun q=>K q (true,b' m)) m A)
  (hn:Sat T r b good (fun q=>K q (false,b' m)) m Z):Sat T r b good (fun q=>bn C (K q)) m (Q78 T k s A Z):=by
 subst hc
 cases m with
 | ok i =>
  by_cases h:JI T k s i = true
  ·obtain ⟨o,g1,g2⟩:=hy
   refine ⟨o,?_,fun q=>?_⟩
   ·simp only [Mix.sp,Q78,h,if_true] at g1 ⊢; exact g1
   ·simp only [Mix.sees,h,Q3]; exact g2 q
  ·have h':JI T k s i = false:=by simpa using h
   obtain ⟨o,g1,g2⟩:=hn
   refine ⟨o,?_,fun q=>?_⟩
   ·simp only [Mix.sp,Q78,h',Bool.false_eq_true,if_false] at g1 ⊢; exact g1
   ·simp only [Mix.sees,h',Q3]; exact g2 q
 | er i d a e =>
  obtain ⟨o,g1,g2⟩:=hn
  exact ⟨o,g1,fun q=>g2 q⟩
theorem Sat.live {c:Bool} {z:α} {s:B} {Y:(α × B → Prop) → Prop} {f:Nat → Out α} (hc:c = m.live) (hm:m.In T r) (hz:good z) (hs:∃ m',s = b m' ∧ (m'.In T r) ∧ ∀ i d a e,m = .er i d a e → ∃ i d,m' = .er i d a e)
  (hY:Sat T r b good Y m f):Sat T r b good (fun q=>cnd c (Y q) (q (z,s))) m f:=by
 subst hc
 cases m with
 | ok i=>exact hY
 | er i d a e =>
  obtain ⟨m',rfl,h2,h3⟩:=hs
  obtain ⟨i',d',rfl⟩:=h3 i d a e rfl
  exact ⟨(z,b (.er i' d' a e)),⟨_,rfl,h2,hz,_,_,rfl⟩,fun q=>rfl⟩
end
end Go.Proofs.YtfdcjngclelnhaaGreat
namespace Go.Proofs.YtfdcjngclelnhaaGreat
open Go
set_option maxRecDepth 100000
theorem Qy {t:TypeId} {d:D} (h:okG t d = true):G t d = d:=(QaL h).symm
theorem Y7 {t:TypeId} {ds:List D}:okG t (.agg ds) = okC (ctys Tryz.prog 8 t) ds:=rfl
theorem QeH:∀ {l:List CTy} {ds:List D} {i:Nat},okC l ds = true → l[i]? = some .o → (ds.getD i (.bool false)).flat = true
 | [],_,i,_,h=>by simp at h
 | c :: r,[],i,h,_=>by simp [okC] at h
 | c :: r,d :: q,0,h,h2=>by
  simp only [okC,Bool.and_eq_true] at h
  simp only [List.getElem?_cons_zero,Option.some.injEq] at h2
  subst h2
  exact h.1
 | c :: r,d :: q,i + 1,h,h2=>by
  simp only [okC,Bool.and_eq_true] at h
  simp only [List.getElem?_cons_succ] at h2
  simpa using QeH h.2 h2
theorem Q63 {t:TypeId} {d:D} (h:okG t d = true) {A:Prop}:∀ {is:List Nat},(∀ i ∈ is,(ctys Tryz.prog 8 t)[i]? = some .o) → fl d is A = A
 | [],_=>rfl
 | i :: is,hi=>by
  have hd:(cel d i).flat = true:=by
   cases d with
   | agg ds=>exact QeH h (hi i (by simp))
   | _=>exact nomatch h
  show cnd (cel d i).flat (fl d is A) False = A
  rw [hd]
  exact Q63 h fun j hj=>hi j (by simp [hj])
theorem Qsi:ctys Tryz.prog 8 107 = [.i .i64,.s,.i .i64,.i .i64]:=by kernel_rfl
theorem Qgs:ctys Tryz.prog 8 26 = [.i .i64,.i .i64,.s,.s,.o,.o]:=by kernel_rfl
theorem Qs1:ctys Tryz.prog 8 38 = [.i .i64,.b,.o,.o,.o,.o,.o,.o,.i .i64,.o]:=by kernel_rfl
theorem Qra:ctys Tryz.prog 8 65 = [.i .i64,.s,.b,.s,.o,.o,.o]:=by kernel_rfl
theorem Qj7:ctys Tryz.prog 8 83 = [.i .i64,.i .i64,.s,.s,.o,.o,.s]:=by kernel_rfl
theorem Qqb:ctys Tryz.prog 8 85 = [.i .i64,.i .i64,.s,.s,.o,.o,.b]:=by kernel_rfl
theorem okEx {a n:Int} {s t:List UInt8} {k q:D}:okG 26 (ex a n s t k q) = (k.flat && q.flat):=by
 unfold ex; rw [Y7,Qgs]; simp [okC,okD]
theorem okQu {k:Int} {d:Bool} {a b c e f g:D} {l:Int} {h:D}:okG 38 (qu k d a b c e f g l h) = (a.flat && (b.flat && (c.flat && (e.flat && (f.flat && (g.flat && h.flat)))))):=by
 unfold qu; rw [Y7,Qs1]; simp [okC,okD]
theorem okFrm {k:Int} {t:List UInt8} {v:Bool} {a:List UInt8} {q l o:D}:okG 65 (frm k t v a q l o) = (q.flat && (l.flat && o.flat)):=by
 unfold frm; rw [Y7,Qra]; simp [okC,okD]
theorem JA {x:D} (h:okG 26 x = true) {A:Prop}:fl x [4,5] A = A:=Q63 h (by rw [Qgs]; simp)
theorem Q4w {x:D} (h:okG 38 x = true) {A:Prop}:fl x [2,3,4,5,6,7,9] A = A:=Q63 h (by rw [Qs1]; simp)
theorem Q8p {x:D} (h:okG 65 x = true) {A:Prop}:fl x [4,5,6] A = A:=Q63 h (by rw [Qra]; simp)
theorem Qs9 {x:D} (h:okG 83 x = true) {A:Prop}:fl x [4,5] A = A:=Q63 h (by rw [Qj7]; simp)
theorem Qss {x:D} (h:okG 85 x = true) {A:Prop}:fl x [4,5] A = A:=Q63 h (by rw [Qqb]; simp)
theorem Q3u {x:D} (h:okG 26 x = true):∃ a n s t k q,x = ex a n s t k q ∧ k.flat = true ∧ q.flat = true:=by
 have e:=Qy h
 have hx:x = ex (cI x 0) (cI x 1) (cS x 2) (cS x 3) (cel x 4) (cel x 5):=by
  conv=>lhs; rw [← e]
  show D.agg (expC (ctys Tryz.prog 8 26) x 0) = _
  rw [Qgs]; rfl
 rw [hx,okEx,Bool.and_eq_true] at h
 exact ⟨_,_,_,_,_,_,hx,h.1,h.2⟩
theorem QaO {x:D} (h:okG 26 x = true) {s:List UInt8}:okG 83 (itm x s) = true ∧ D.agg [.int .i64 (cI x 0),.int .i64 (cI x 1),.str (cS x 2),.str (cS x 3),cel x 4,cel x 5,.str s] = itm x s:=by
 obtain ⟨a,n,u,t,k,q,rfl,h1,h2⟩:=Q3u h
 refine ⟨?_,rfl⟩
 show okG 83 (.agg [.int .i64 a,.int .i64 n,.str u,.str t,k,q,.str s]) = true
 rw [Y7,Qj7]; simp [okC,okD,h1,h2]
theorem Q8H {x:D} (h:okG 26 x = true) {s:Bool}:okG 85 (ky x s) = true ∧ D.agg [.int .i64 (cI x 0),.int .i64 (cI x 1),.str (cS x 2),.str (cS x 3),cel x 4,cel x 5,.bool s] = ky x s:=by
 obtain ⟨a,n,u,t,k,q,rfl,h1,h2⟩:=Q3u h
 refine ⟨?_,rfl⟩
 show okG 85 (.agg [.int .i64 a,.int .i64 n,.str u,.str t,k,q,.bool s]) = true
 rw [Y7,Qqb]; simp [okC,okD,h1,h2]
def Tok.d (t:Tok):D:=.agg [.int .i64 t.kind,.str t.text,.int .i64 t.n,.int .i64 t.at_]
def tD (T:List Tok):D:=.slice (T.map Tok.d)
theorem Ya {T:List Tok}:asL (tD T) = some (T.map Tok.d):=rfl
theorem Qri {T:List Tok} {i:Nat} (h:i < T.length):T[i]? = some (tk T i):=by
 unfold tk; rw [List.getD_eq_getElem?_getD,List.getElem?_eq_getElem h]; rfl
theorem Yj {T:List Tok} {i:Nat} (h:i < T.length):atD (T.map Tok.d) (Int.ofNat i) = some (tk T i).d:=by
 unfold atD
 rw [if_neg (by simp)]
 show (T.map Tok.d)[i]? = _
 rw [List.getElem?_map,Qri h]; rfl
theorem JG {t:Tok}:okG 107 t.d = true:=by unfold Tok.d; rw [Y7,Qsi]; simp [okC,okD]
theorem ZY {t:Tok}:cI t.d 0 = t.kind:=rfl
theorem Q2D {t:Tok}:cS t.d 1 = t.text:=rfl
theorem Qe4 {t:Tok}:cI t.d 2 = t.n:=rfl
theorem Qjb {t:Tok}:cI t.d 3 = t.at_:=rfl
def Y9 (n:Nat):Bool:=(decide (97 ≤ n) && decide (n ≤ 122)) || ((decide (65 ≤ n) && decide (n ≤ 90)) || n == 95)
def Qq0 (c:UInt8):Bool:=Y9 c.toNat
def QT:List UInt8 → Bool
 | c :: _=>Qq0 c
 | []=>false
structure TOk (T:List Tok):Prop where
 ends:Ends T
 len:T.length ≤ 100000
 names:∀ i,(tk T i).kind = 1 → QT (tk T i).text = true
 marks:∀ i,(tk T i).kind = 4 → QT (tk T i).text = false
def wordsL:List (List UInt8):=[[97,108,108],[97,110,100],[97,115],[98,101,103,105,110],[98,101,103,105,110,115],[98,101,116,119,101,101,110],[98,121],[99,97,108,108],[99,97,115,101],[99,97,116,99,104],[99,111,109,109,105,116],[100,101,108,101,116,101],[100,101,115,99],[100,105,115,116,105,110,99,116],[101,108,115,101],[101,110,100],[101,120,99,101,112,116],[101,120,105,115,116,115],[102,111,114],[102,114,111,109],[103,114,111,117,112],[104,97,118,105,110,103],[104,105,100,101],[105,102],[105,110],[105,110,112,117,116],[105,110,115,101,114,116],[105,110,116],[105,110,116,111],[105,110,116,101,114,115,101,99,116],[105,115],[106,111,105,110],[107,101,121],[108,101,102,116],[108,101,118,101,108],[108,101,118,101,108,115],[108,105,109,105,116],[110,111,116],[110,117,108,108],[111,110],[111,114],[111,114,100,101,114],[112,114,105,110,99,105,112,97,108],[112,114,105,110,116],[112,114,111,99],[114,97,105,115,101],[114,111,108,108,98,97,99,107],[114,111,119,115],[115,101,108,101,99,116],[115,101,116],[116,97,98,108,101],[116,101,120,116],[116,104,101,110],[116,114,117,101],[116,114,121],[102,97,108,115,101],[98,111,111,108],[117,110,105,111,110],[117,112,100,97,116,101],[118,97,108,117,101,115],[118,97,114],[118,105,115,105,98,108,101],[119,104,101,110],[119,104,101,114,101],[119,104,105,108,101],[99,104,97,110,110,101,108],[115,107,105,112]]
def isW (s:List UInt8):Bool:=wordsL.contains s
def Qjc (s:List UInt8) (q:Bool → Prop):List (List UInt8) → Prop
 | []=>q false
 | w :: r=>cnd (s == w) (q true) (Qjc s q r)
theorem Q82 (s:List UInt8) (q:Bool → Prop):∀ l,Qjc s q l = q (l.contains s)
 | []=>rfl
 | w :: r=>by
  unfold Qjc
  rw [Q82 s q r,List.contains_cons]
  cases s == w <;> rfl
theorem Qqj {n:Nat} {s:List UInt8}:(Q8 (n + 1)).t_Word s = some (isW s):=Q6 Q2m fun q=>Q82 s q wordsL
theorem QQ {n:Int} (h:-9223372036854775808 ≤ n) (h2:n ≤ 9223372036854775807):IntKind.i64.wrap n = n:=Qck n ⟨h,h2⟩
end Go.Proofs.YtfdcjngclelnhaaGreat
