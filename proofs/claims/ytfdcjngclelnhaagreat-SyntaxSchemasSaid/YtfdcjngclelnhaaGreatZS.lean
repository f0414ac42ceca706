/- cordonlaw06.SyntaxSchemas returns true for every text: no condition. -/
import Derived.Test.YtfdcjngclelnhaaGreatL46
import Derived.Test.YtfdcjngclelnhaaGreatKE
import Derived.Test.YtfdcjngclelnhaaGreatRows
import Derived.WalkKit
import Derived.ProofKit
import Derived.OpenShut
import Derived.ShutString
import Derived.ChangeOld
import Derived.Below
import Derived.SizedLaws
set_option linter.unusedSectionVars false
set_option linter.unusedSimpArgs false
set_option linter.unusedVariables false
namespace Go.Proofs.YtfdcjngclelnhaaGreat.SyntaxSchemasL
open Go Go.ChangeShapes Go.WideShapes Go.ChangeAt Go.RowKit
open Go.ChangeMaps (open_string shut_string)
set_option maxRecDepth 100000
theorem own:ownKnob Tryz.prog.godebug = none:=by kernel_rfl
theorem QhZ (K:KW) (a:ByteArray):Den K (.dat (.str a.data.toList)) (.string a):=by
 have:=Den.dat (K:=K) (DenD.str a.data.toList)
 rwa [Array.toArray_toList] at this
theorem Qq9 (n:Nat):(Q8 (n + 1)).c_alive = some true:=rfl
theorem Qsh (s:List UInt8):∃ n,c_Schemas_raw (Q8 n) (n + 1) s = some true:=by
 obtain ⟨N,hN⟩:=QmD (Qcg (s:=s))
 obtain ⟨n,hn1,hn2⟩:∃ n,N ≤ n ∧ 2500001 ≤ n:=⟨N + 2500001,by omega,by omega⟩
 have h1:=Qkd hn2 (s:=s)
 have h2:=QjI hn2 (s:=s)
 have h3:(Q8 n).r_SameSchema (Q2K zS Q4A (Zk s)).1 (Q2K zS Q4A (Zk s)).1 = some true:=hN _ hn1
 have h4:(Q8 n).c_alive = some true:=by
  obtain ⟨m,rfl,_⟩:=QJ (show 2500000 + 1 ≤ n by omega)
  exact Qq9 m
 have hg:okG 58 (Q2K zS Q4A (Zk s)).1 = true:=Qn4 Qcg
 refine ⟨n,Q6 Q2m fun q=>?_⟩
 simp only [Q4,c_Schemas_st,h1,h2,h4,Q3,hg,Q5,Qf4 hg,Qy hg,h3,Q1,beq_self_eq_true,Q9m]
theorem Qsj (s:List UInt8):CallE Tryz.prog 6 [.dat (.str s)] [] (.dat (.bool true)) []:=by
 obtain ⟨n,hr⟩:=Qsh s
 exact CallX.plain (Qd Q7 Tryz.func6 rfl (Qa n) (Q6e (Q8 n)) (fun _ _ _ _ v=>by cases v <;> exact id) rfl rfl hr)
theorem QsA (a:ByteArray) (W:World):Calls Tryz.prog 6 #[.string a] W fun e W'=>e = .returned (.bool true) ∧ Below W.heap.size W W' :=
 Qgb Q7 Tryz.func6 rfl (.cons (QhZ _ a) .nil) (Qsj a.data.toList)
theorem Qrq (os:Os) (started:os.Started) (H:Type) (enc:TypeId × Value → H) :
  ReturnsInHanded {} Tryz.checked os 6 .any (Rows.syntaxSchemasSpec.pre6 enc Tryz.prog Tryz.f6 Rows.syntaxSchemasRow.domain false) (Rows.syntaxSchemasSpec.post enc Tryz.prog Tryz.f6 false true false false):=by
 refine returnsInHanded_of_change_sized (C:=Tryz.checked) own started (by kernel_rfl) Tryz.func6
  (ChangeSpec.witness6 (enc:=enc) (C:=Tryz.checked) false ⟨#[],#[.string ByteArray.empty],[]⟩ 8 (by kernel_rfl) (by kernel_rfl) (by kernel_rfl) (by kernel_rfl)) ?_
 intro W base args ds gs before hval0 hW hcnd hsz0 _
 have hval:∀ (j:Nat) t v,Tryz.f6.params[j]? = some t → args[j]? = some v → Value.okWide Tryz.prog W .any base t v:=hval0
 have hW':=hW
 obtain ⟨p,q,hA0,hV,rfl,hfz,hnd⟩:=hW
 have hA:DataW.TrodAll enc Tryz.prog W 0 (fun _=>true) true Tryz.f6.params.toList args.toList ds p:=hA0
 rw [Tryz.params6] at hA hval
 obtain ⟨v0,vs0,d0,ds0,p0,q0,hargs,rfl,rfl,h0,r0⟩:=trodAll_cons hA
 obtain ⟨rfl,rfl,rfl⟩:=trodAll_nil r0
 obtain rfl:args = #[v0]:=by cases args; simp_all
 obtain ⟨rfl,rfl⟩:=trodVars_none hV
 obtain ⟨a0,rfl,rfl,rfl,y0⟩:=open_string Tryz.underlying9 (hval 0 9 v0 rfl rfl) h0
 clear hA0 hval0 hsz0
 refine (QsA a0 W).mono fun e W' ⟨he,bel⟩=>?_
 subst he
 exact ⟨_,rfl,_,_,_,[],_,[],hW',trodAll_mk1 (shut_bool Tryz.underlying4 _),(trodAll_cons_mk (shut_string Tryz.underlying9 y0) trodAll_mk0),rfl,bel.frame _,fun h=>by cases h⟩
theorem over:Rows.syntaxSchemasRow.holds Tryz.pinned (OpenSpec.ofChange Rows.syntaxSchemasSpec) :=
 OpenClaim.holds_of_wide 6 Tryz.f6 rfl rfl rfl rfl rfl rfl rfl ⟨rfl,rfl,rfl,rfl,rfl⟩ rfl rfl rfl rfl rfl (by kernel_rfl) Tryz.func6 (by kernel_rfl)
  (of_decide_eq_true (by kernel_rfl)) (by unfold Func.isWrapper; first | (rw [if_pos (by decide +kernel)]; kernel_rfl) | (rw [if_neg (by decide +kernel)]; exact ⟨rfl,rfl⟩))
  (fun os started H enc _=>Qrq os started H enc)
end Go.Proofs.YtfdcjngclelnhaaGreat.SyntaxSchemasL
namespace Go.Proofs.YtfdcjngclelnhaaGreat
theorem syntaxSchemas_holds:Rows.SyntaxSchemasSaid:=SyntaxSchemasL.over
end Go.Proofs.YtfdcjngclelnhaaGreat
