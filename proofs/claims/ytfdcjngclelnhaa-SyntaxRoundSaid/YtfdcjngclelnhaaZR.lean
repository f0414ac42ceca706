/- cordonlaw06.SyntaxRound returns true for every text: no condition. -/
import Derived.Test.YtfdcjngclelnhaaL35
import Derived.Test.YtfdcjngclelnhaaL1
import Derived.Test.YtfdcjngclelnhaaRows
import Derived.WalkKit
import Derived.ProofKit
import Derived.OpenShut
import Derived.ShutString
import Derived.ChangeOld
import Derived.Below
import Derived.SizedLaws
set_option linter.unusedSectionVars false
set_option linter.unusedSimpArgs false
set_option linter.unusedVariables false
namespace Go.Proofs.Ytfdcjngclelnhaa.SyntaxRoundL
open Go Go.ChangeShapes Go.WideShapes Go.ChangeAt Go.RowKit
open Go.ChangeMaps (open_string shut_string)
set_option maxRecDepth 100000
theorem own:ownKnob Try.prog.godebug = none:=by kernel_rfl
theorem den_string (K:KW) (a:ByteArray):Den K (.dat (.str a.data.toList)) (.string a):=by
  have:=Den.dat (K:=K) (DenD.str a.data.toList)
  rwa [Array.toArray_toList] at this
theorem true_ (s:List UInt8):∃ n,c_Round_raw (fns n) (n + 1) s = some true:=by
  obtain ⟨N,hN⟩:=(w_same (readE_W (s:=s))).2
  have h1:=S_Expr_ (n:=N + 1500001) (by omega) (s:=s)
  have h2:=S_Expr_ (n:=N + 1500001) (by omega) (s:=brk s)
  have h3:(fns (N + 1500001)).r_SameExpr (readR zE exprR (scanR s)).1 (readR zE exprR (scanR s)).1 = some true:=hN _ (by omega)
  have h4:(fns (N + 1500001)).c_alive = some true:=rfl
  have hg:okG 38 (readR zE exprR (scanR s)).1 = true:=(w_same readE_W).1
  have hb:okG 38 (readR zE exprR (scanR (brk s))).1 = true:=(w_same readE_W).1
  refine ⟨N + 1500001,rawN_eq enc10_inj fun q=>?_⟩
  cases hc:decide (Int.ofNat s.length > 9000) with
  | true=>simp only [loopN_s,c_Round_st,hc,cnd_true,h4,bn_some]
  | false =>
    have hs:s.length ≤ 9000:=by
      have:=of_decide_eq_false hc
      simp only [Int.ofNat_eq_natCast,gt_iff_lt,Int.not_lt] at this
      omega
    have e1:decide ((ByteArray.mk #[40]).data.toList.length + s.length ≤ 9223372036854775807) = true:=decide_eq_true (by show 1 + s.length ≤ _; omega)
    have e2:decide (((ByteArray.mk #[40]).data.toList ++ s).length + (ByteArray.mk #[10,41]).data.toList.length ≤ 9223372036854775807) = true:=decide_eq_true (by rw [List.length_append]; show 1 + s.length + 2 ≤ _; omega)
    have e3:[40] ++ s ++ [10,41] = brk s:=by simp [brk]
    simp only [loopN_s,c_Round_st,hc,cnd_false,h1,h4,bn_some,hg,an_true,flEx hg,e1,e2,e3,h2,hb,flEx hb]
    rcases round_cases hs with h | h | h | ⟨ha,hb',hd⟩
    · simp only [bneE h,cnd_true]
    · simp only [h,show ((8:Int) == 9) = false from rfl,beq_self_eq_true,cnd_false,cnd_true,cnd_same]
    · simp only [h,beq_self_eq_true,cnd_true,cnd_same]
    · simp only [ha,hb',hd,d00,show ((0:Int) == 9) = false from rfl,show ((0:Int) == 8) = false from rfl,d00b,cnd_false,cnd_true,G_ok hg,hg,an_true,h3,bn_some]
theorem call_ (s:List UInt8):CallE Try.prog 6 [.dat (.str s)] [] (.dat (.bool true)) []:=by
  obtain ⟨n,hr⟩:=true_ s
  exact CallX.plain (gen_e prog_ok Try.func6 rfl (fns_ok n) (c_Round_k (fns n)) (fun _ _ _ _ v=>by cases v <;> exact id) rfl rfl hr)
theorem walk (a:ByteArray) (W:World):Calls Try.prog 6 #[.string a] W fun e W'=>e = .returned (.bool true) ∧ Below W.heap.size W W' :=
  law_callsE prog_ok Try.func6 rfl (.cons (den_string _ a) .nil) (call_ a.data.toList)
theorem lifted (os:Os) (started:os.Started) (H:Type) (enc:TypeId × Value → H) :
    ReturnsInHanded {} Try.checked os 6 .any (Rows.syntaxRoundSpec.pre6 enc Try.prog Try.f6 Rows.syntaxRoundRow.domain false) (Rows.syntaxRoundSpec.post enc Try.prog Try.f6 false true false false):=by
  refine returnsInHanded_of_change_sized (C:=Try.checked) own started (by kernel_rfl) Try.func6
    (ChangeSpec.witness6 (enc:=enc) (C:=Try.checked) false ⟨#[],#[.string ByteArray.empty],[]⟩ 8 (by kernel_rfl) (by kernel_rfl) (by kernel_rfl) (by kernel_rfl)) ?_
  intro W base args ds gs before hval0 hW hcnd hsz0 _
  have hval:∀ (j:Nat) t v,Try.f6.params[j]? = some t → args[j]? = some v → Value.okWide Try.prog W .any base t v:=hval0
  have hW':=hW
  obtain ⟨p,q,hA0,hV,rfl,hfz,hnd⟩:=hW
  have hA:DataW.TrodAll enc Try.prog W 0 (fun _=>true) true Try.f6.params.toList args.toList ds p:=hA0
  rw [Try.params6] at hA hval
  obtain ⟨v0,vs0,d0,ds0,p0,q0,hargs,rfl,rfl,h0,r0⟩:=trodAll_cons hA
  obtain ⟨rfl,rfl,rfl⟩:=trodAll_nil r0
  obtain rfl:args = #[v0]:=by cases args; simp_all
  obtain ⟨rfl,rfl⟩:=trodVars_none hV
  obtain ⟨a0,rfl,rfl,rfl,y0⟩:=open_string Try.underlying9 (hval 0 9 v0 rfl rfl) h0
  clear hA0 hval0 hsz0
  refine (walk a0 W).mono fun e W' ⟨he,bel⟩=>?_
  subst he
  exact ⟨_,rfl,_,_,_,[],_,[],hW',trodAll_mk1 (shut_bool Try.underlying4 _),(trodAll_cons_mk (shut_string Try.underlying9 y0) trodAll_mk0),rfl,bel.frame _,fun h=>by cases h⟩
theorem over:Rows.syntaxRoundRow.holds Try.pinned (OpenSpec.ofChange Rows.syntaxRoundSpec) :=
  OpenClaim.holds_of_wide 6 Try.f6 rfl rfl rfl rfl rfl rfl rfl ⟨rfl,rfl,rfl,rfl,rfl⟩ rfl rfl rfl rfl rfl (by kernel_rfl) Try.func6 (by kernel_rfl)
    (of_decide_eq_true (by kernel_rfl)) (by unfold Func.isWrapper; first | (rw [if_pos (by decide +kernel)]; kernel_rfl) | (rw [if_neg (by decide +kernel)]; exact ⟨rfl,rfl⟩))
    (fun os started H enc _=>lifted os started H enc)
end Go.Proofs.Ytfdcjngclelnhaa.SyntaxRoundL
namespace Go.Proofs.Ytfdcjngclelnhaa
theorem syntaxRound_holds:Rows.SyntaxRoundSaid:=SyntaxRoundL.over
end Go.Proofs.Ytfdcjngclelnhaa
