/- cordonlaw06.SyntaxQueries returns true for every text: no condition. -/
import Derived.Test.YtfdcjngclelnhaaGreatL25
import Derived.Test.YtfdcjngclelnhaaGreatKE
import Derived.Test.YtfdcjngclelnhaaGreatRows
import Derived.WalkKit
import Derived.ProofKit
import Derived.OpenShut
import Derived.ShutString
import Derived.ChangeOld
import Derived.Below
import Derived.SizedLaws
set_option linter.unusedSectionVars false
set_option linter.unusedSimpArgs false
set_option linter.unusedVariables false
namespace Go.Proofs.YtfdcjngclelnhaaGreat.SyntaxQueriesL
open Go Go.ChangeShapes Go.WideShapes Go.ChangeAt Go.RowKit
open Go.ChangeMaps (open_string shut_string)
set_option maxRecDepth 100000
theorem own:ownKnob Tryz.prog.godebug = none:=by kernel_rfl
theorem den_string (K:KW) (a:ByteArray):Den K (.dat (.str a.data.toList)) (.string a):=by
  have:=Den.dat (K:=K) (DenD.str a.data.toList)
  rwa [Array.toArray_toList] at this
theorem true_ (s:List UInt8):∃ n,c_Queries_raw (fns n) (n + 1) s = some true:=by
  obtain ⟨N,hN⟩:=(w_same (readQ_W (s:=s))).2
  have h1:=S_Query_ (n:=N + 1500001) (by omega) (s:=s)
  have h2:=r_Query_ (n:=N + 1500001) (by omega) (s:=s)
  have h3:(fns (N + 1500001)).r_SameQuery (readR zQ queryR (scanR s)).1 (readR zQ queryR (scanR s)).1 = some true:=hN _ (by omega)
  have h4:(fns (N + 1500001)).c_alive = some true:=rfl
  have hg:okG 38 (readR zQ queryR (scanR s)).1 = true:=(w_same readQ_W).1
  refine ⟨N + 1500001,rawN_eq enc10_inj fun q=>?_⟩
  simp only [loopN_s,c_Queries_st,h1,h2,h4,bn_some,hg,an_true,flQu hg,G_ok hg,h3,cnd_true,beq_self_eq_true,cnd_same]
theorem call_ (s:List UInt8):CallE Tryz.prog 4 [.dat (.str s)] [] (.dat (.bool true)) []:=by
  obtain ⟨n,hr⟩:=true_ s
  exact CallX.plain (gen_e prog_ok Tryz.func4 rfl (fns_ok n) (c_Queries_k (fns n)) (fun _ _ _ _ v=>by cases v <;> exact id) rfl rfl hr)
theorem walk (a:ByteArray) (W:World):Calls Tryz.prog 4 #[.string a] W fun e W'=>e = .returned (.bool true) ∧ Below W.heap.size W W' :=
  law_callsE prog_ok Tryz.func4 rfl (.cons (den_string _ a) .nil) (call_ a.data.toList)
theorem lifted (os:Os) (started:os.Started) (H:Type) (enc:TypeId × Value → H) :
    ReturnsInHanded {} Tryz.checked os 4 .any (Rows.syntaxQueriesSpec.pre6 enc Tryz.prog Tryz.f4 Rows.syntaxQueriesRow.domain false) (Rows.syntaxQueriesSpec.post enc Tryz.prog Tryz.f4 false true false false):=by
  refine returnsInHanded_of_change_sized (C:=Tryz.checked) own started (by kernel_rfl) Tryz.func4
    (ChangeSpec.witness6 (enc:=enc) (C:=Tryz.checked) false ⟨#[],#[.string ByteArray.empty],[]⟩ 8 (by kernel_rfl) (by kernel_rfl) (by kernel_rfl) (by kernel_rfl)) ?_
  intro W base args ds gs before hval0 hW hcnd hsz0 _
  have hval:∀ (j:Nat) t v,Tryz.f4.params[j]? = some t → args[j]? = some v → Value.okWide Tryz.prog W .any base t v:=hval0
  have hW':=hW
  obtain ⟨p,q,hA0,hV,rfl,hfz,hnd⟩:=hW
  have hA:DataW.TrodAll enc Tryz.prog W 0 (fun _=>true) true Tryz.f4.params.toList args.toList ds p:=hA0
  rw [Tryz.params4] at hA hval
  obtain ⟨v0,vs0,d0,ds0,p0,q0,hargs,rfl,rfl,h0,r0⟩:=trodAll_cons hA
  obtain ⟨rfl,rfl,rfl⟩:=trodAll_nil r0
  obtain rfl:args = #[v0]:=by cases args; simp_all
  obtain ⟨rfl,rfl⟩:=trodVars_none hV
  obtain ⟨a0,rfl,rfl,rfl,y0⟩:=open_string Tryz.underlying9 (hval 0 9 v0 rfl rfl) h0
  clear hA0 hval0 hsz0
  refine (walk a0 W).mono fun e W' ⟨he,bel⟩=>?_
  subst he
  exact ⟨_,rfl,_,_,_,[],_,[],hW',trodAll_mk1 (shut_bool Tryz.underlying4 _),(trodAll_cons_mk (shut_string Tryz.underlying9 y0) trodAll_mk0),rfl,bel.frame _,fun h=>by cases h⟩
theorem over:Rows.syntaxQueriesRow.holds Tryz.pinned (OpenSpec.ofChange Rows.syntaxQueriesSpec) :=
  OpenClaim.holds_of_wide 4 Tryz.f4 rfl rfl rfl rfl rfl rfl rfl ⟨rfl,rfl,rfl,rfl,rfl⟩ rfl rfl rfl rfl rfl (by kernel_rfl) Tryz.func4 (by kernel_rfl)
    (of_decide_eq_true (by kernel_rfl)) (by unfold Func.isWrapper; first | (rw [if_pos (by decide +kernel)]; kernel_rfl) | (rw [if_neg (by decide +kernel)]; exact ⟨rfl,rfl⟩))
    (fun os started H enc _=>lifted os started H enc)
end Go.Proofs.YtfdcjngclelnhaaGreat.SyntaxQueriesL
namespace Go.Proofs.YtfdcjngclelnhaaGreat
theorem syntaxQueries_holds:Rows.SyntaxQueriesSaid:=SyntaxQueriesL.over
end Go.Proofs.YtfdcjngclelnhaaGreat
