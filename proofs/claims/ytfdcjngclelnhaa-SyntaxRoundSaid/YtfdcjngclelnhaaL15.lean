/- Part of a proof. -/
import Derived.Test.YtfdcjngclelnhaaLB
import Derived.Test.YtfdcjngclelnhaaLC
import Derived.Test.YtfdcjngclelnhaaXS
import Derived.Test.YtfdcjngclelnhaaL1
import Derived.Test.YtfdcjngclelnhaaX1
import Derived.Test.YtfdcjngclelnhaaX2
import Derived.Test.YtfdcjngclelnhaaX3
import Derived.Test.YtfdcjngclelnhaaX4
import Derived.Test.YtfdcjngclelnhaaKT
set_option linter.unusedSectionVars false
set_option linter.unusedSimpArgs false
set_option linter.unusedVariables false
namespace Go.Proofs.Ytfdcjngclelnhaa
set_option maxRecDepth 1000000
open Go Go.RowKit
theorem good_of {f:FuncId} {m:Known} (hf:fitK m = true) (hh:m.heap = []) (h:comesTo (callB Try.prog primN 100000 f m.args []) m = true):Good Try.prog f m:=.of primN_ok 100000 (by rw [hf,hh,h]; rfl)
def tabA:Tab:=[(24,[kScript]),(15,[kExpr]),(23,[kQuery])]
theorem tabA_ok:GoodT Try.prog tabA:=⟨⟨good_of rfl rfl script_run,trivial⟩,⟨good_of rfl rfl expr_run,trivial⟩,⟨good_of rfl rfl query_run,trivial⟩,trivial⟩
def kAlive:Known:=⟨true,[],[],.dat (.bool true),[]⟩
theorem alive_run:comesTo (callB Try.prog (withTab tabA primN) 100000 14 [] []) kAlive = true:=by kernel_rfl
theorem alive_ok:CallE Try.prog 14 [] [] (.dat (.bool true)) []:=callE_of1 (callB_ok prog_ok (withTab_ok prog_ok primN_ok tabA_ok) 100000 _ [] [] _ _ (comesTo_ok alive_run))
end Go.Proofs.Ytfdcjngclelnhaa
namespace Go.Proofs.Ytfdcjngclelnhaa
set_option maxRecDepth 100000
open Go Go.RowKit
theorem callFOk1 {P:Program} {f:FuncId} {p:Prim} (hp:CallFOk P f p) {args:List AV} {h:Heap} {v:AV} {h':Heap} (hs:p args h = some (v,h')):Call1 P f args h v h':=hp args h v h' hs
def g_IBS_raw (S:Fns) (n:Nat) (a0:List UInt8) (a1:Int):Option Int:=some (idxByte a1.toNat.toUInt8 a0 0)
theorem g_IBS_ok {S:Fns} (hS:FnsOk S) (n:Nat):EntryOk Try.prog (e28 80 (g_IBS_raw S n)):=e28_ok fun a0 a1 r hr=>by
  have e:idxByte a1.toNat.toUInt8 a0 0 = r:=Option.some.inj hr
  subst e
  have h:CallFOk Try.prog 80 primIndexByte:=primIndexByte_ok Try.func80 rfl rfl (by kernel_rfl) (by kernel_rfl)
  have h1:=callFOk1 h (args:=[.dat (.str a0),.dat (.int .u8 a1)]) (h:=[]) (v:=.dat (.int .i64 (idxByte a1.toNat.toUInt8 a0 0))) (h':=[]) rfl
  exact callE_of1 h1
def c_alive_raw (S:Fns) (n:Nat):Option Bool:=some true
theorem c_alive_ok {S:Fns} (hS:FnsOk S) (n:Nat):EntryOk Try.prog (e33 14 (c_alive_raw S n)):=e33_ok fun r hr=>by
  have e:true = r:=Option.some.inj hr
  subst e
  exact alive_ok
end Go.Proofs.Ytfdcjngclelnhaa
namespace Go.Proofs.Ytfdcjngclelnhaa
open Go Go.RowKit
set_option maxRecDepth 100000
set_option maxHeartbeats 4000000
noncomputable def fns:Nat → Fns
  | 0=>⟨fun _=>none,fun _ _=>none,fun _ _ _=>none,fun _=>none,fun _ _=>none,fun _ _=>none,fun _ _=>none,fun _ _=>none,fun _=>none,fun _=>none,fun _=>none,fun _=>none,fun _=>none,fun _ _ _=>none,fun _=>none,fun _ _=>none,fun _ _=>none,fun _ _=>none,fun _ _=>none,fun _ _=>none,fun _ _=>none,fun _=>none,fun _=>none,fun _=>none,fun _=>none,fun _=>none,fun _=>none,fun _=>none,fun _=>none,fun _=>none,fun _=>none,fun _=>none,fun _=>none,fun _=>none,fun _=>none,fun _=>none,fun _=>none,fun _=>none,fun _=>none,fun _=>none,fun _=>none,fun _=>none,fun _=>none,fun _ _=>none,fun _=>none,fun _=>none,fun _ _=>none,fun _=>none,fun _=>none,fun _ _=>none,fun _ _=>none,fun _ _=>none,fun _ _=>none,fun _ _=>none,fun _=>none,fun _=>none,fun _=>none,fun _=>none,fun _=>none,fun _ _=>none,fun _=>none,fun _=>none,fun _=>none,fun _=>none,fun _ _=>none,fun _=>none,fun _=>none,fun _=>none,fun _=>none,fun _ _=>none,fun _ _=>none,fun _ _=>none,fun _ _=>none,fun _ _=>none,fun _=>none,fun _ _=>none,fun _=>none,fun _=>none, none,fun _=>none⟩
  | n + 1=>⟨s_now_raw (fns n) (n + 1),s_fail_raw (fns n) (n + 1),s_sees_raw (fns n) (n + 1),s_next_raw (fns n) (n + 1),s_word_raw (fns n) (n + 1),s_mark_raw (fns n) (n + 1),s_must_raw (fns n) (n + 1),s_need_raw (fns n) (n + 1),s_named_raw (fns n) (n + 1),s_name_raw (fns n) (n + 1),s_number_raw (fns n) (n + 1),s_enter_raw (fns n) (n + 1),s_leave_raw (fns n) (n + 1),s_bin_raw (fns n) (n + 1),s_gathers_raw (fns n) (n + 1),s_left_or_raw (fns n) (n + 1),s_left_and_raw (fns n) (n + 1),s_left_sum_raw (fns n) (n + 1),s_left_prod_raw (fns n) (n + 1),s_inner_not_raw (fns n) (n + 1),s_inner_neg_raw (fns n) (n + 1),s_expr1_raw (fns n) (n + 1),s_expr_raw (fns n) (n + 1),s_not_raw (fns n) (n + 1),s_compared_raw (fns n) (n + 1),s_bracketed_raw (fns n) (n + 1),s_sum_raw (fns n) (n + 1),s_prod_raw (fns n) (n + 1),s_unary_raw (fns n) (n + 1),s_prim_raw (fns n) (n + 1),s_round_raw (fns n) (n + 1),s_cases_raw (fns n) (n + 1),s_column_raw (fns n) (n + 1),s_query_raw (fns n) (n + 1),s_part_raw (fns n) (n + 1),s_item_raw (fns n) (n + 1),s_key_raw (fns n) (n + 1),s_source_raw (fns n) (n + 1),s_single_raw (fns n) (n + 1),s_list_item_raw (fns n) (n + 1),s_list_expr_raw (fns n) (n + 1),s_list_key_raw (fns n) (n + 1),s_list_name_raw (fns n) (n + 1),s_readE_raw (fns n) (n + 1),s_Expr1_raw (fns n) (n + 1),S_Expr_raw (fns n) (n + 1),s_readQ_raw (fns n) (n + 1),s_Query1_raw (fns n) (n + 1),S_Query_raw (fns n) (n + 1),r_SameExpr_raw (fns n) (n + 1),r_SameExprs_raw (fns n) (n + 1),r_SameQuery_raw (fns n) (n + 1),r_SameQueries_raw (fns n) (n + 1),r_SameFroms_raw (fns n) (n + 1),t_Word_raw (fns n) (n + 1),t_letter_raw (fns n) (n + 1),t_digit_raw (fns n) (n + 1),t_pass_raw (fns n) (n + 1),t_next_raw (fns n) (n + 1),t_put_raw (fns n) (n + 1),t_name_raw (fns n) (n + 1),t_number_raw (fns n) (n + 1),t_text_raw (fns n) (n + 1),t_mark_raw (fns n) (n + 1),t_form_raw (fns n) (n + 1),t_run_name_raw (fns n) (n + 1),t_run_digit_raw (fns n) (n + 1),t_name1_raw (fns n) (n + 1),t_Scan_raw (fns n) (n + 1),g_HasPrefix_raw (fns n) (n + 1),g_IndexByte_raw (fns n) (n + 1),g_sHasPrefix_raw (fns n) (n + 1),g_sIndexByte_raw (fns n) (n + 1),g_IBS_raw (fns n) (n + 1),b_copyCheck_raw (fns n) (n + 1),b_WriteByte_raw (fns n) (n + 1),b_Len_raw (fns n) (n + 1),b_String_raw (fns n) (n + 1),c_alive_raw (fns n) (n + 1),c_Round_raw (fns n) (n + 1)⟩
theorem fns_ok:∀ n,FnsOk (fns n)
  | 0=>all_cons (e0_ok fun _ _ h=>nomatch h) <| all_cons (e1_ok fun _ _ _ h=>nomatch h) <| all_cons (e2_ok fun _ _ _ _ h=>nomatch h) <| all_cons (e3_ok fun _ _ h=>nomatch h) <| all_cons (e4_ok fun _ _ _ h=>nomatch h) <| all_cons (e4_ok fun _ _ _ h=>nomatch h) <| all_cons (e5_ok fun _ _ _ h=>nomatch h) <| all_cons (e5_ok fun _ _ _ h=>nomatch h) <| all_cons (e6_ok fun _ _ h=>nomatch h) <| all_cons (e7_ok fun _ _ h=>nomatch h) <| all_cons (e8_ok fun _ _ h=>nomatch h) <| all_cons (e6_ok fun _ _ h=>nomatch h) <| all_cons (e3_ok fun _ _ h=>nomatch h) <| all_cons (e9_ok fun _ _ _ _ h=>nomatch h) <| all_cons (e10_ok fun _ _ h=>nomatch h) <| all_cons (e11_ok fun _ _ _ h=>nomatch h) <| all_cons (e12_ok fun _ _ _ h=>nomatch h) <| all_cons (e12_ok fun _ _ _ h=>nomatch h) <| all_cons (e12_ok fun _ _ _ h=>nomatch h) <| all_cons (e13_ok fun _ _ _ h=>nomatch h) <| all_cons (e13_ok fun _ _ _ h=>nomatch h) <| all_cons (e14_ok fun _ _ h=>nomatch h) <| all_cons (e0_ok fun _ _ h=>nomatch h) <| all_cons (e0_ok fun _ _ h=>nomatch h) <| all_cons (e0_ok fun _ _ h=>nomatch h) <| all_cons (e0_ok fun _ _ h=>nomatch h) <| all_cons (e0_ok fun _ _ h=>nomatch h) <| all_cons (e0_ok fun _ _ h=>nomatch h) <| all_cons (e0_ok fun _ _ h=>nomatch h) <| all_cons (e0_ok fun _ _ h=>nomatch h) <| all_cons (e0_ok fun _ _ h=>nomatch h) <| all_cons (e0_ok fun _ _ h=>nomatch h) <| all_cons (e0_ok fun _ _ h=>nomatch h) <| all_cons (e0_ok fun _ _ h=>nomatch h) <| all_cons (e0_ok fun _ _ h=>nomatch h) <| all_cons (e0_ok fun _ _ h=>nomatch h) <| all_cons (e0_ok fun _ _ h=>nomatch h) <| all_cons (e0_ok fun _ _ h=>nomatch h) <| all_cons (e0_ok fun _ _ h=>nomatch h) <| all_cons (e15_ok fun _ _ h=>nomatch h) <| all_cons (e15_ok fun _ _ h=>nomatch h) <| all_cons (e15_ok fun _ _ h=>nomatch h) <| all_cons (e15_ok fun _ _ h=>nomatch h) <| all_cons (e16_ok fun _ _ _ h=>nomatch h) <| all_cons (e0_ok fun _ _ h=>nomatch h) <| all_cons (e17_ok fun _ _ h=>nomatch h) <| all_cons (e16_ok fun _ _ _ h=>nomatch h) <| all_cons (e0_ok fun _ _ h=>nomatch h) <| all_cons (e17_ok fun _ _ h=>nomatch h) <| all_cons (e18_ok fun _ _ _ h=>nomatch h) <| all_cons (e19_ok fun _ _ _ h=>nomatch h) <| all_cons (e18_ok fun _ _ _ h=>nomatch h) <| all_cons (e19_ok fun _ _ _ h=>nomatch h) <| all_cons (e19_ok fun _ _ _ h=>nomatch h) <| all_cons (e10_ok fun _ _ h=>nomatch h) <| all_cons (e20_ok fun _ _ h=>nomatch h) <| all_cons (e20_ok fun _ _ h=>nomatch h) <| all_cons (e21_ok fun _ _ h=>nomatch h) <| all_cons (e22_ok fun _ _ h=>nomatch h) <| all_cons (e23_ok fun _ _ _ h=>nomatch h) <| all_cons (e22_ok fun _ _ h=>nomatch h) <| all_cons (e22_ok fun _ _ h=>nomatch h) <| all_cons (e22_ok fun _ _ h=>nomatch h) <| all_cons (e22_ok fun _ _ h=>nomatch h) <| all_cons (e24_ok fun _ _ _ h=>nomatch h) <| all_cons (e25_ok fun _ _ h=>nomatch h) <| all_cons (e25_ok fun _ _ h=>nomatch h) <| all_cons (e20_ok fun _ _ h=>nomatch h) <| all_cons (e26_ok fun _ _ h=>nomatch h) <| all_cons (e27_ok fun _ _ _ h=>nomatch h) <| all_cons (e28_ok fun _ _ _ h=>nomatch h) <| all_cons (e27_ok fun _ _ _ h=>nomatch h) <| all_cons (e28_ok fun _ _ _ h=>nomatch h) <| all_cons (e28_ok fun _ _ _ h=>nomatch h) <| all_cons (e29_ok fun _ _ h=>nomatch h) <| all_cons (e30_ok fun _ _ _ h=>nomatch h) <| all_cons (e31_ok fun _ _ h=>nomatch h) <| all_cons (e32_ok fun _ _ h=>nomatch h) <| all_cons entOk_g_NoEscape <| all_cons (e33_ok fun _ h=>nomatch h) <| all_cons (e10_ok fun _ _ h=>nomatch h) <| all_nil
  | n + 1=>all_cons (s_now_ok (fns_ok n) (n + 1)) <| all_cons (s_fail_ok (fns_ok n) (n + 1)) <| all_cons (s_sees_ok (fns_ok n) (n + 1)) <| all_cons (s_next_ok (fns_ok n) (n + 1)) <| all_cons (s_word_ok (fns_ok n) (n + 1)) <| all_cons (s_mark_ok (fns_ok n) (n + 1)) <| all_cons (s_must_ok (fns_ok n) (n + 1)) <| all_cons (s_need_ok (fns_ok n) (n + 1)) <| all_cons (s_named_ok (fns_ok n) (n + 1)) <| all_cons (s_name_ok (fns_ok n) (n + 1)) <| all_cons (s_number_ok (fns_ok n) (n + 1)) <| all_cons (s_enter_ok (fns_ok n) (n + 1)) <| all_cons (s_leave_ok (fns_ok n) (n + 1)) <| all_cons (s_bin_ok (fns_ok n) (n + 1)) <| all_cons (s_gathers_ok (fns_ok n) (n + 1)) <| all_cons (s_left_or_ok (fns_ok n) (n + 1)) <| all_cons (s_left_and_ok (fns_ok n) (n + 1)) <| all_cons (s_left_sum_ok (fns_ok n) (n + 1)) <| all_cons (s_left_prod_ok (fns_ok n) (n + 1)) <| all_cons (s_inner_not_ok (fns_ok n) (n + 1)) <| all_cons (s_inner_neg_ok (fns_ok n) (n + 1)) <| all_cons (s_expr1_ok (fns_ok n) (n + 1)) <| all_cons (s_expr_ok (fns_ok n) (n + 1)) <| all_cons (s_not_ok (fns_ok n) (n + 1)) <| all_cons (s_compared_ok (fns_ok n) (n + 1)) <| all_cons (s_bracketed_ok (fns_ok n) (n + 1)) <| all_cons (s_sum_ok (fns_ok n) (n + 1)) <| all_cons (s_prod_ok (fns_ok n) (n + 1)) <| all_cons (s_unary_ok (fns_ok n) (n + 1)) <| all_cons (s_prim_ok (fns_ok n) (n + 1)) <| all_cons (s_round_ok (fns_ok n) (n + 1)) <| all_cons (s_cases_ok (fns_ok n) (n + 1)) <| all_cons (s_column_ok (fns_ok n) (n + 1)) <| all_cons (s_query_ok (fns_ok n) (n + 1)) <| all_cons (s_part_ok (fns_ok n) (n + 1)) <| all_cons (s_item_ok (fns_ok n) (n + 1)) <| all_cons (s_key_ok (fns_ok n) (n + 1)) <| all_cons (s_source_ok (fns_ok n) (n + 1)) <| all_cons (s_single_ok (fns_ok n) (n + 1)) <| all_cons (s_list_item_ok (fns_ok n) (n + 1)) <| all_cons (s_list_expr_ok (fns_ok n) (n + 1)) <| all_cons (s_list_key_ok (fns_ok n) (n + 1)) <| all_cons (s_list_name_ok (fns_ok n) (n + 1)) <| all_cons (s_readE_ok (fns_ok n) (n + 1)) <| all_cons (s_Expr1_ok (fns_ok n) (n + 1)) <| all_cons (S_Expr_ok (fns_ok n) (n + 1)) <| all_cons (s_readQ_ok (fns_ok n) (n + 1)) <| all_cons (s_Query1_ok (fns_ok n) (n + 1)) <| all_cons (S_Query_ok (fns_ok n) (n + 1)) <| all_cons (r_SameExpr_ok (fns_ok n) (n + 1)) <| all_cons (r_SameExprs_ok (fns_ok n) (n + 1)) <| all_cons (r_SameQuery_ok (fns_ok n) (n + 1)) <| all_cons (r_SameQueries_ok (fns_ok n) (n + 1)) <| all_cons (r_SameFroms_ok (fns_ok n) (n + 1)) <| all_cons (t_Word_ok (fns_ok n) (n + 1)) <| all_cons (t_letter_ok (fns_ok n) (n + 1)) <| all_cons (t_digit_ok (fns_ok n) (n + 1)) <| all_cons (t_pass_ok (fns_ok n) (n + 1)) <| all_cons (t_next_ok (fns_ok n) (n + 1)) <| all_cons (t_put_ok (fns_ok n) (n + 1)) <| all_cons (t_name_ok (fns_ok n) (n + 1)) <| all_cons (t_number_ok (fns_ok n) (n + 1)) <| all_cons (t_text_ok (fns_ok n) (n + 1)) <| all_cons (t_mark_ok (fns_ok n) (n + 1)) <| all_cons (t_form_ok (fns_ok n) (n + 1)) <| all_cons (t_run_name_ok (fns_ok n) (n + 1)) <| all_cons (t_run_digit_ok (fns_ok n) (n + 1)) <| all_cons (t_name1_ok (fns_ok n) (n + 1)) <| all_cons (t_Scan_ok (fns_ok n) (n + 1)) <| all_cons (g_HasPrefix_ok (fns_ok n) (n + 1)) <| all_cons (g_IndexByte_ok (fns_ok n) (n + 1)) <| all_cons (g_sHasPrefix_ok (fns_ok n) (n + 1)) <| all_cons (g_sIndexByte_ok (fns_ok n) (n + 1)) <| all_cons (g_IBS_ok (fns_ok n) (n + 1)) <| all_cons (b_copyCheck_ok (fns_ok n) (n + 1)) <| all_cons (b_WriteByte_ok (fns_ok n) (n + 1)) <| all_cons (b_Len_ok (fns_ok n) (n + 1)) <| all_cons (b_String_ok (fns_ok n) (n + 1)) <| all_cons entOk_g_NoEscape <| all_cons (c_alive_ok (fns_ok n) (n + 1)) <| all_cons (c_Round_ok (fns_ok n) (n + 1)) <| all_nil
end Go.Proofs.Ytfdcjngclelnhaa
namespace Go.Proofs.Ytfdcjngclelnhaa
open Go
inductive Mix where
  | ok (i:Nat)
  | er (i:Nat) (d a e:Int)
def Mix.sp {α:Type}:Mix → (Nat → Out α) → Out α
  | .ok i,f=>f i
  | .er _ _ a e,_=>.err a e
def Mix.live:Mix → Bool
  | .ok _=>true
  | .er _ _ _ _=>false
def Mix.In (T:List Tok) (r:Nat):Mix → Prop
  | .ok j=>j < T.length ∧ T.length - j ≤ r
  | .er i _ _ e=>i < T.length ∧ e ≠ 0
theorem Mix.In.mono {T:List Tok} {r r':Nat} (h:r ≤ r'):∀ {m:Mix},m.In T r → m.In T r'
  | .ok _,⟨h1,h2⟩=>⟨h1,Nat.le_trans h2 h⟩
  | .er _ _ _ _,h1=>h1
section
variable {B α β γ:Type} (T:List Tok) (r:Nat) (b:Mix → B)
def Fin (good:α → Prop) (out:Out α) (v:α) (s:B):Prop:=∃ m:Mix,s = b m ∧ m.In T r ∧ good v ∧ match out with
  | .ok w j=>m = .ok j ∧ v = w
  | .err a e=>∃ i d,m = .er i d a e
def Sat (good:α → Prop) (X:(α × B → Prop) → Prop) (m:Mix) (f:Nat → Out α):Prop:=∃ o:α × B,Fin T r b good (m.sp f) o.1 o.2 ∧ ∀ q,X q = q o
def Has (good:α → Prop) (C:Option (α × B)) (m:Mix) (f:Nat → Out α):Prop:=∃ o:α × B,C = some o ∧ Fin T r b good (m.sp f) o.1 o.2
def HasU (C:Option B) (m:Mix) (f:Nat → Out Unit):Prop:=∃ s,C = some s ∧ Fin T r b (fun _=>True) (m.sp f) () s
end
section
variable {B α β γ:Type} {T:List Tok} {r:Nat} {b b':Mix → B} {good:α → Prop} {goodB:β → Prop} {m:Mix}
theorem Fin.bind {g:α → Nat → Out β} {f:Nat → Out α} {v:α} {s:B} (h:Fin T r b good (m.sp f) v s):∃ m',s = b m' ∧ m'.In T r ∧ good v ∧ m.sp (seqO f g) = m'.sp (g v):=by
  obtain ⟨m',h1,h2,h3,h4⟩:=h
  refine ⟨m',h1,h2,h3,?_⟩
  cases m with
  | ok i =>
    simp only [Mix.sp,seqO] at h4 ⊢
    cases hf:f i with
    | ok w j=>rw [hf] at h4; obtain ⟨rfl,rfl⟩:=h4; rfl
    | err a e=>rw [hf] at h4; obtain ⟨_,_,rfl⟩:=h4; rfl
  | er i d a e =>
    obtain ⟨_,_,rfl⟩:=h4; rfl
theorem Sat.ret {v w:α} {s:B} (hi:m.In T r) (hg:good v) (hv:v = w) (hs:s = b m):Sat T r b good (fun q=>q (v,s)) m (retO w):=by
  subst hv hs
  refine ⟨_,⟨m,rfl,hi,hg,?_⟩,fun _=>rfl⟩
  cases m with
  | ok i=>exact ⟨rfl,rfl⟩
  | er i d a e=>exact ⟨_,_,rfl⟩
theorem Sat.call {C:Option (α × B)} {K:(β × B → Prop) → α × B → Prop} {f:Nat → Out α} {g:α → Nat → Out β} (hc:Has T r b' good C m f)
    (hk:∀ v m',m'.In T r → good v → Sat T r b goodB (fun q=>K q (v,b' m')) m' (g v)):Sat T r b goodB (fun q=>bn C (K q)) m (seqO f g):=by
  obtain ⟨⟨v,s⟩,rfl,h⟩:=hc
  obtain ⟨m',rfl,h2,h3,h4⟩:=h.bind (g:=g)
  obtain ⟨o,h5,h6⟩:=hk v m' h2 h3
  exact ⟨o,by rw [h4]; exact h5,h6⟩
theorem Sat.callU {C:Option B} {K:(β × B → Prop) → B → Prop} {f:Nat → Out Unit} {g:Unit → Nat → Out β} (hc:HasU T r b' C m f)
    (hk:∀ m',m'.In T r → Sat T r b goodB (fun q=>K q (b' m')) m' (g ())):Sat T r b goodB (fun q=>bn C (K q)) m (seqO f g):=by
  obtain ⟨s,rfl,h⟩:=hc
  obtain ⟨m',rfl,h2,h3,h4⟩:=h.bind (g:=g)
  obtain ⟨o,h5,h6⟩:=hk m' h2
  exact ⟨o,by rw [h4]; exact h5,h6⟩
theorem Sat.last {C:Option (α × B)} {K:(α × B → Prop) → α × B → Prop} {f:Nat → Out α} (hc:Has T r b good C m f)
    (hk:∀ v m',good v → ∀ q,K q (v,b m') = q (v,b m')):Sat T r b good (fun q=>bn C (K q)) m f:=by
  obtain ⟨⟨v,s⟩,rfl,h⟩:=hc
  obtain ⟨m',rfl,h2,h3,h4⟩:=h
  exact ⟨(v,b m'),⟨m',rfl,h2,h3,h4⟩,fun q=>hk v m' h3 q⟩
theorem Sat.eq {X Y:(α × B → Prop) → Prop} {f:Nat → Out α} (h:Sat T r b good X m f) (he:∀ q,Y q = X q):Sat T r b good Y m f:=by
  obtain ⟨o,h1,h2⟩:=h
  exact ⟨o,h1,fun q=>(he q).trans (h2 q)⟩
theorem Sat.spec {X:(α × B → Prop) → Prop} {f g:Nat → Out α} (h:Sat T r b good X m f) (he:∀ i,m = .ok i → f i = g i):Sat T r b good X m g:=by
  obtain ⟨o,h1,h2⟩:=h
  refine ⟨o,?_,h2⟩
  have:m.sp f = m.sp g:=by
    cases m with
    | ok i=>exact he i rfl
    | er i d a e=>rfl
  rw [← this]; exact h1
theorem Sat.has {X:(α × B → Prop) → Prop} {C:Option (α × B)} {f:Nat → Out α} (h:Sat T r b good X m f) (hc:∀ o,(∀ q,X q = q o) → C = some o):Has T r b good C m f:=by
  obtain ⟨o,h1,h2⟩:=h
  exact ⟨o,hc o h2,h1⟩
theorem Sat.more {X:(α × B → Prop) → Prop} {f:Nat → Out α} {r':Nat} (h:Sat T r b good X m f) (hr:r ≤ r'):Sat T r' b good X m f:=by
  obtain ⟨o,⟨m',h2,h3,h4⟩,h5⟩:=h
  exact ⟨o,⟨m',h2,h3.mono hr,h4⟩,h5⟩
theorem Has.spec {C:Option (α × B)} {f g:Nat → Out α} (h:Has T r b good C m f) (he:∀ i,m = .ok i → f i = g i):Has T r b good C m g:=by
  obtain ⟨o,h1,h2⟩:=h
  refine ⟨o,h1,?_⟩
  have:m.sp f = m.sp g:=by
    cases m with
    | ok i=>exact he i rfl
    | er i d a e=>rfl
  rw [← this]; exact h2
end
def Mix.sees (T:List Tok) (k:Int) (s:List UInt8):Mix → Bool
  | .ok i=>pSees T k s i
  | .er _ _ _ _=>false
def Mix.takes (T:List Tok) (k:Int) (s:List UInt8):Mix → Mix
  | .ok i=>if pSees T k s i then .ok (i + 1) else .ok i
  | m=>m
section
variable {B α β γ:Type} {T:List Tok} {r:Nat} {b b':Mix → B} {good:α → Prop} {m:Mix}
def Ends (T:List Tok):Prop:=0 < T.length ∧ (tk T (T.length - 1)).kind = 0
theorem Ends.next (hT:Ends T) {i:Nat} (hi:i < T.length) (hk:(tk T i).kind ≠ 0):i + 1 < T.length:=by
  rcases Nat.lt_or_ge (i + 1) T.length with h | h
  · exact h
  · have:i = T.length - 1:=by omega
    rw [this] at hk
    exact absurd hT.2 hk
theorem sees_kind {k:Int} {s:List UInt8} {i:Nat} (h:pSees T k s i = true):(tk T i).kind = k ∧ (tk T i).text = s:=by
  simpa [pSees] using h
theorem Sat.word {C:Option (Bool × B)} {k:Int} {s:List UInt8} {K:(α × B → Prop) → Bool × B → Prop} {A Z:Nat → Out α} (hT:Ends T) (hk:k ≠ 0) (hm:m.In T r)
    (hc:C = some (m.sees T k s,b' (m.takes T k s)))
    (hy:∀ i j,j + 1 = r → (Mix.ok i).In T j → Sat T j b good (fun q=>K q (true,b' (.ok i))) (.ok i) A)
    (hn:Sat T r b good (fun q=>K q (false,b' m)) m Z):Sat T r b good (fun q=>bn C (K q)) m (ifO T k s A Z):=by
  subst hc
  cases m with
  | ok i =>
    by_cases h:pSees T k s i = true
    · obtain ⟨h1,h2⟩:=hm
      have h3:=hT.next h1 (by rw [(sees_kind h).1]; exact hk)
      obtain ⟨o,g1,g2⟩:=(hy (i + 1) (r - 1) (by omega) ⟨h3,by omega⟩).more (Nat.sub_le r 1)
      refine ⟨o,?_,fun q=>?_⟩
      · simp only [Mix.sp,ifO,h,if_true] at g1 ⊢; exact g1
      · simp only [Mix.sees,Mix.takes,h,if_true,bn_some]; exact g2 q
    · have h':pSees T k s i = false:=by simpa using h
      obtain ⟨o,g1,g2⟩:=hn
      refine ⟨o,?_,fun q=>?_⟩
      · simp only [Mix.sp,ifO,h',Bool.false_eq_true,if_false] at g1 ⊢; exact g1
      · simp only [Mix.sees,Mix.takes,h',Bool.false_eq_true,if_false,bn_some]; exact g2 q
  | er i d a e =>
    obtain ⟨o,g1,g2⟩:=hn
    exact ⟨o,g1,fun q=>g2 q⟩
theorem Sat.see {C:Option (Bool × B)} {k:Int} {s:List UInt8} {K:(α × B → Prop) → Bool × B → Prop} {A Z:Nat → Out α}
    (hc:C = some (m.sees T k s,b' m))
    (hy:Sat T r b good (fun q=>K q (true,b' m)) m A)
    (hn:Sat T r b good (fun q=>K q (false,b' m)) m Z):Sat T r b good (fun q=>bn C (K q)) m (seeO T k s A Z):=by
  subst hc
  cases m with
  | ok i =>
    by_cases h:pSees T k s i = true
    · obtain ⟨o,g1,g2⟩:=hy
      refine ⟨o,?_,fun q=>?_⟩
      · simp only [Mix.sp,seeO,h,if_true] at g1 ⊢; exact g1
      · simp only [Mix.sees,h,bn_some]; exact g2 q
    · have h':pSees T k s i = false:=by simpa using h
      obtain ⟨o,g1,g2⟩:=hn
      refine ⟨o,?_,fun q=>?_⟩
      · simp only [Mix.sp,seeO,h',Bool.false_eq_true,if_false] at g1 ⊢; exact g1
      · simp only [Mix.sees,h',bn_some]; exact g2 q
  | er i d a e =>
    obtain ⟨o,g1,g2⟩:=hn
    exact ⟨o,g1,fun q=>g2 q⟩
theorem Sat.live {c:Bool} {z:α} {s:B} {Y:(α × B → Prop) → Prop} {f:Nat → Out α} (hc:c = m.live) (hm:m.In T r) (hz:good z) (hs:∃ m',s = b m' ∧ (m'.In T r) ∧ ∀ i d a e,m = .er i d a e → ∃ i d,m' = .er i d a e)
    (hY:Sat T r b good Y m f):Sat T r b good (fun q=>cnd c (Y q) (q (z,s))) m f:=by
  subst hc
  cases m with
  | ok i=>exact hY
  | er i d a e =>
    obtain ⟨m',rfl,h2,h3⟩:=hs
    obtain ⟨i',d',rfl⟩:=h3 i d a e rfl
    exact ⟨(z,b (.er i' d' a e)),⟨_,rfl,h2,hz,_,_,rfl⟩,fun q=>rfl⟩
end
end Go.Proofs.Ytfdcjngclelnhaa
namespace Go.Proofs.Ytfdcjngclelnhaa
open Go
set_option maxRecDepth 100000
theorem G_ok {t:TypeId} {d:D} (h:okG t d = true):G t d = d:=(ok_eq h).symm
theorem okG_agg {t:TypeId} {ds:List D}:okG t (.agg ds) = okC (ctys Try.prog 8 t) ds:=rfl
theorem okC_flat:∀ {l:List CTy} {ds:List D} {i:Nat},okC l ds = true → l[i]? = some .o → (ds.getD i (.bool false)).flat = true
  | [],_,i,_,h=>by simp at h
  | c :: r,[],i,h,_=>by simp [okC] at h
  | c :: r,d :: q,0,h,h2=>by
    simp only [okC,Bool.and_eq_true] at h
    simp only [List.getElem?_cons_zero,Option.some.injEq] at h2
    subst h2
    exact h.1
  | c :: r,d :: q,i + 1,h,h2=>by
    simp only [okC,Bool.and_eq_true] at h
    simp only [List.getElem?_cons_succ] at h2
    simpa using okC_flat h.2 h2
theorem fl_ok {t:TypeId} {d:D} (h:okG t d = true) {A:Prop}:∀ {is:List Nat},(∀ i ∈ is,(ctys Try.prog 8 t)[i]? = some .o) → fl d is A = A
  | [],_=>rfl
  | i :: is,hi=>by
    have hd:(cel d i).flat = true:=by
      cases d with
      | agg ds=>exact okC_flat h (hi i (by simp))
      | _=>exact nomatch h
    show cnd (cel d i).flat (fl d is A) False = A
    rw [hd]
    exact fl_ok h fun j hj=>hi j (by simp [hj])
theorem ctTok:ctys Try.prog 8 34 = [.i .i64,.s,.i .i64,.i .i64]:=by kernel_rfl
theorem ctEx:ctys Try.prog 8 38 = [.i .i64,.i .i64,.s,.s,.o,.o]:=by kernel_rfl
theorem ctQu:ctys Try.prog 8 54 = [.i .i64,.b,.o,.o,.o,.o,.o,.o,.i .i64,.o]:=by kernel_rfl
theorem ctFrm:ctys Try.prog 8 65 = [.i .i64,.s,.b,.s,.o,.o,.o]:=by kernel_rfl
theorem ctItm:ctys Try.prog 8 107 = [.i .i64,.i .i64,.s,.s,.o,.o,.s]:=by kernel_rfl
theorem ctKy:ctys Try.prog 8 109 = [.i .i64,.i .i64,.s,.s,.o,.o,.b]:=by kernel_rfl
theorem okEx {a n:Int} {s t:List UInt8} {k q:D}:okG 38 (ex a n s t k q) = (k.flat && q.flat):=by
  unfold ex; rw [okG_agg,ctEx]; simp [okC,okD]
theorem okQu {k:Int} {d:Bool} {a b c e f g:D} {l:Int} {h:D}:okG 54 (qu k d a b c e f g l h) = (a.flat && (b.flat && (c.flat && (e.flat && (f.flat && (g.flat && h.flat)))))):=by
  unfold qu; rw [okG_agg,ctQu]; simp [okC,okD]
theorem okFrm {k:Int} {t:List UInt8} {v:Bool} {a:List UInt8} {q l o:D}:okG 65 (frm k t v a q l o) = (q.flat && (l.flat && o.flat)):=by
  unfold frm; rw [okG_agg,ctFrm]; simp [okC,okD]
theorem flEx {x:D} (h:okG 38 x = true) {A:Prop}:fl x [4,5] A = A:=fl_ok h (by rw [ctEx]; simp)
theorem flQu {x:D} (h:okG 54 x = true) {A:Prop}:fl x [2,3,4,5,6,7,9] A = A:=fl_ok h (by rw [ctQu]; simp)
theorem flFrm {x:D} (h:okG 65 x = true) {A:Prop}:fl x [4,5,6] A = A:=fl_ok h (by rw [ctFrm]; simp)
theorem flItm {x:D} (h:okG 107 x = true) {A:Prop}:fl x [4,5] A = A:=fl_ok h (by rw [ctItm]; simp)
theorem flKy {x:D} (h:okG 109 x = true) {A:Prop}:fl x [4,5] A = A:=fl_ok h (by rw [ctKy]; simp)
theorem ex_cells {x:D} (h:okG 38 x = true):∃ a n s t k q,x = ex a n s t k q ∧ k.flat = true ∧ q.flat = true:=by
  have e:=G_ok h
  have hx:x = ex (cI x 0) (cI x 1) (cS x 2) (cS x 3) (cel x 4) (cel x 5):=by
    conv=>lhs; rw [← e]
    show D.agg (expC (ctys Try.prog 8 38) x 0) = _
    rw [ctEx]; rfl
  rw [hx,okEx,Bool.and_eq_true] at h
  exact ⟨_,_,_,_,_,_,hx,h.1,h.2⟩
theorem okItm {x:D} (h:okG 38 x = true) {s:List UInt8}:okG 107 (itm x s) = true ∧ D.agg [.int .i64 (cI x 0),.int .i64 (cI x 1),.str (cS x 2),.str (cS x 3),cel x 4,cel x 5,.str s] = itm x s:=by
  obtain ⟨a,n,u,t,k,q,rfl,h1,h2⟩:=ex_cells h
  refine ⟨?_,rfl⟩
  show okG 107 (.agg [.int .i64 a,.int .i64 n,.str u,.str t,k,q,.str s]) = true
  rw [okG_agg,ctItm]; simp [okC,okD,h1,h2]
theorem okKy {x:D} (h:okG 38 x = true) {s:Bool}:okG 109 (ky x s) = true ∧ D.agg [.int .i64 (cI x 0),.int .i64 (cI x 1),.str (cS x 2),.str (cS x 3),cel x 4,cel x 5,.bool s] = ky x s:=by
  obtain ⟨a,n,u,t,k,q,rfl,h1,h2⟩:=ex_cells h
  refine ⟨?_,rfl⟩
  show okG 109 (.agg [.int .i64 a,.int .i64 n,.str u,.str t,k,q,.bool s]) = true
  rw [okG_agg,ctKy]; simp [okC,okD,h1,h2]
def Tok.d (t:Tok):D:=.agg [.int .i64 t.kind,.str t.text,.int .i64 t.n,.int .i64 t.at_]
def tD (T:List Tok):D:=.slice (T.map Tok.d)
theorem asL_tD {T:List Tok}:asL (tD T) = some (T.map Tok.d):=rfl
theorem tk_get {T:List Tok} {i:Nat} (h:i < T.length):T[i]? = some (tk T i):=by
  unfold tk; rw [List.getD_eq_getElem?_getD,List.getElem?_eq_getElem h]; rfl
theorem atD_tD {T:List Tok} {i:Nat} (h:i < T.length):atD (T.map Tok.d) (Int.ofNat i) = some (tk T i).d:=by
  unfold atD
  rw [if_neg (by simp)]
  show (T.map Tok.d)[i]? = _
  rw [List.getElem?_map,tk_get h]; rfl
theorem okTok {t:Tok}:okG 34 t.d = true:=by unfold Tok.d; rw [okG_agg,ctTok]; simp [okC,okD]
theorem cTok0 {t:Tok}:cI t.d 0 = t.kind:=rfl
theorem cTok1 {t:Tok}:cS t.d 1 = t.text:=rfl
theorem cTok2 {t:Tok}:cI t.d 2 = t.n:=rfl
theorem cTok3 {t:Tok}:cI t.d 3 = t.at_:=rfl
def letterN (n:Nat):Bool:=(decide (97 ≤ n) && decide (n ≤ 122)) || ((decide (65 ≤ n) && decide (n ≤ 90)) || n == 95)
def letterB (c:UInt8):Bool:=letterN c.toNat
def firstL:List UInt8 → Bool
  | c :: _=>letterB c
  | []=>false
structure TOk (T:List Tok):Prop where
  ends:Ends T
  len:T.length ≤ 100000
  names:∀ i,(tk T i).kind = 1 → firstL (tk T i).text = true
  marks:∀ i,(tk T i).kind = 4 → firstL (tk T i).text = false
def wordsL:List (List UInt8):=[[97,108,108],[97,110,100],[97,115],[98,101,103,105,110],[98,101,103,105,110,115],[98,101,116,119,101,101,110],[98,121],[99,97,108,108],[99,97,115,101],[99,97,116,99,104],[99,111,109,109,105,116],[100,101,108,101,116,101],[100,101,115,99],[100,105,115,116,105,110,99,116],[101,108,115,101],[101,110,100],[101,120,99,101,112,116],[101,120,105,115,116,115],[102,111,114],[102,114,111,109],[103,114,111,117,112],[104,97,118,105,110,103],[104,105,100,101],[105,102],[105,110],[105,110,112,117,116],[105,110,115,101,114,116],[105,110,116],[105,110,116,111],[105,110,116,101,114,115,101,99,116],[105,115],[106,111,105,110],[107,101,121],[108,101,102,116],[108,101,118,101,108],[108,101,118,101,108,115],[108,105,109,105,116],[110,111,116],[110,117,108,108],[111,110],[111,114],[111,114,100,101,114],[112,114,105,110,99,105,112,97,108],[112,114,105,110,116],[112,114,111,99],[114,97,105,115,101],[114,111,108,108,98,97,99,107],[114,111,119,115],[115,101,108,101,99,116],[115,101,116],[116,97,98,108,101],[116,101,120,116],[116,104,101,110],[116,114,117,101],[116,114,121],[102,97,108,115,101],[98,111,111,108],[117,110,105,111,110],[117,112,100,97,116,101],[118,97,108,117,101,115],[118,97,114],[118,105,115,105,98,108,101],[119,104,101,110],[119,104,101,114,101],[119,104,105,108,101],[99,104,97,110,110,101,108],[115,107,105,112]]
def isW (s:List UInt8):Bool:=wordsL.contains s
def caseL (s:List UInt8) (q:Bool → Prop):List (List UInt8) → Prop
  | []=>q false
  | w :: r=>cnd (s == w) (q true) (caseL s q r)
theorem caseL_eq (s:List UInt8) (q:Bool → Prop):∀ l,caseL s q l = q (l.contains s)
  | []=>rfl
  | w :: r=>by
    unfold caseL
    rw [caseL_eq s q r,List.contains_cons]
    cases s == w <;> rfl
theorem t_Word_ {n:Nat} {s:List UInt8}:(fns (n + 1)).t_Word s = some (isW s):=rawN_eq enc10_inj fun q=>caseL_eq s q wordsL
theorem i64_small {n:Int} (h:-9223372036854775808 ≤ n) (h2:n ≤ 9223372036854775807):IntKind.i64.wrap n = n:=i64_in' n ⟨h,h2⟩
end Go.Proofs.Ytfdcjngclelnhaa
namespace Go.Proofs.Ytfdcjngclelnhaa
open Go
def digitN (n:Nat):Bool:=decide (48 ≤ n) && decide (n ≤ 57)
def nameN (n:Nat):Bool:=letterN n || digitN n
def blankN (n:Nat):Bool:=n == 32 || (n == 9 || (n == 10 || n == 13))
def spanE (p:Nat → Bool) (s:List UInt8):Nat → Nat → Nat
  | 0,i=>i
  | k + 1,i=>match s[i]? with
    | some c=>if p c.toNat then spanE p s k (i + 1) else i
    | none=>i
def sl (s:List UInt8) (a e:Nat):List UInt8:=List.take (e - a) (List.drop a s)
inductive TR where
  | tok (t:Tok) (e:Nat)
  | bad (p:Nat)
def nameR (s:List UInt8) (a:Nat):TR :=
  let e:=spanE nameN s (s.length - a) a
  if e - a > 30 then .bad a else .tok ⟨1,sl s a e,0,Int.ofNat a⟩ e
def decN (l:List UInt8):Nat:=l.foldl (fun n c=>10 * n + (c.toNat - 48)) 0
def numR (s:List UInt8) (a:Nat):TR :=
  let e:=spanE digitN s (s.length - a) a
  if e - a > 18 then .bad a else .tok ⟨2,sl s a e,Int.ofNat (decN (sl s a e)),Int.ofNat a⟩ e
def textGo (s:List UInt8) (a:Nat):Nat → Nat → List UInt8 → TR
  | 0,_,_=>.bad a
  | k + 1,i,acc=>match s[i]? with
    | none=>.bad a
    | some c=>if decide (c.toNat < 32) && c.toNat != 10 then .bad i
      else if c.toNat != 39 then textGo s a k (i + 1) (acc ++ [c])
      else if s[i + 1]? = some 39 then textGo s a k (i + 2) (acc ++ [39])
      else if acc.length > 1000 then .bad a else .tok ⟨3,acc,0,Int.ofNat a⟩ (i + 1)
def textR (s:List UInt8) (a:Nat):TR:=textGo s a (s.length - a) (a + 1) []
def setB (c:UInt8):Bool:=[40,41,44,59,46,42,43,45,47,37,61,123,125,58].contains c
def markN (l:List UInt8):Nat :=
  match l with
  | []=>0
  | c :: _ =>
    if c = 124 then (if [124,124].isPrefixOf l then 2 else 0)
    else if c = 60 then (if [60,62].isPrefixOf l then 2 else if l[1]? = some 61 then 2 else 1)
    else if c = 62 then (if l[1]? = some 61 then 2 else 1)
    else if setB c then 1 else 0
def markR (s:List UInt8) (a:Nat):TR:=if markN (s.drop a) = 0 then .bad a else .tok ⟨4,sl s a (a + markN (s.drop a)),0,Int.ofNat a⟩ (a + markN (s.drop a))
def oneR (s:List UInt8) (a:Nat):TR:=match s[a]? with
  | none=>.bad a
  | some c=>if letterN c.toNat then nameR s a else if digitN c.toNat then numR s a else if c.toNat == 39 then textR s a else markR s a
def nlE (s:List UInt8) (i:Nat):Nat:=spanE (fun n=>n != 10) s (s.length - i) i
def passE (s:List UInt8):Nat → Nat → Nat
  | 0,i=>i
  | k + 1,i=>match s[i]? with
    | none=>i
    | some c=>if blankN c.toNat then passE s k (i + 1) else if c.toNat == 45 && s[i + 1]? == some 45 then passE s k (nlE s i) else i
inductive SR where
  | ok (T:List Tok)
  | bad (p:Nat) (e:Int)
def scanGo (s:List UInt8):Nat → Nat → List Tok → SR
  | 0,i,_=>.bad i 10
  | k + 1,i,T =>
    let j:=passE s (s.length - i) i
    if s.length ≤ j then (if 6000 ≤ T.length then .bad s.length 8 else .ok (T ++ [⟨0,[],0,Int.ofNat s.length⟩]))
    else match oneR s j with
      | .bad p=>.bad p 10
      | .tok t e=>if 6000 ≤ T.length then .bad j 8 else scanGo s k e (T ++ [t])
def scanR (s:List UInt8):SR:=if s.length > 20000 then .bad 0 8 else scanGo s (s.length + 1) 0 []
theorem spanE_ge {p:Nat → Bool} {s:List UInt8}:∀ k i,i ≤ spanE p s k i
  | 0,i=>Nat.le_refl _
  | k + 1,i=>by
    unfold spanE
    split
    · split
      · exact Nat.le_trans (Nat.le_succ i) (spanE_ge k (i + 1))
      · exact Nat.le_refl _
    · exact Nat.le_refl _
theorem spanE_le {p:Nat → Bool} {s:List UInt8}:∀ k i,i ≤ s.length → spanE p s k i ≤ s.length
  | 0,i,h=>h
  | k + 1,i,h=>by
    unfold spanE
    split
    · rename_i c hc
      have hi:i < s.length:=by
        rcases Nat.lt_or_ge i s.length with h | h
        · exact h
        · rw [List.getElem?_eq_none h] at hc; cases hc
      split
      · exact spanE_le k (i + 1) hi
      · exact h
    · exact h
theorem spanE_all {p:Nat → Bool} {s:List UInt8}:∀ k i j,i ≤ j → j < spanE p s k i → ∃ c,s[j]? = some c ∧ p c.toNat = true
  | 0,i,j,h1,h2=>by unfold spanE at h2; omega
  | k + 1,i,j,h1,h2=>by
    unfold spanE at h2
    split at h2
    · rename_i c hc
      split at h2
      · rename_i hp
        rcases Nat.eq_or_lt_of_le h1 with rfl | h
        · exact ⟨c,hc,hp⟩
        · exact spanE_all k (i + 1) j h h2
      · omega
    · omega
theorem sl_len {s:List UInt8} {a e:Nat} (h1:a ≤ e) (h2:e ≤ s.length):(sl s a e).length = e - a:=by
  unfold sl; simp; omega
theorem sl_get {s:List UInt8} {a e i:Nat} (h:i < e - a):(sl s a e)[i]? = s[a + i]?:=by
  unfold sl
  rw [List.getElem?_take_of_lt h,List.getElem?_drop]
theorem oneR_end {s:List UInt8} {a:Nat} (ha:a < s.length) {t:Tok} {e:Nat} (h:oneR s a = .tok t e):a < e ∧ e ≤ s.length ∧ t.at_ = Int.ofNat a:=by
  obtain ⟨c,hc⟩:∃ c,s[a]? = some c:=⟨s[a],List.getElem?_eq_getElem ha⟩
  have hk:s.length - a = (s.length - a - 1) + 1:=by omega
  unfold oneR at h
  rw [hc] at h
  dsimp only at h
  split at h
  · rename_i hl
    unfold nameR at h
    dsimp only at h
    split at h
    · cases h
    · cases h
      refine ⟨?_,spanE_le _ _ (by omega),rfl⟩
      rw [hk,spanE,hc]
      simp only [nameN,hl,Bool.true_or,if_true]
      exact spanE_ge _ _
  · split at h
    · rename_i hd
      unfold numR at h
      dsimp only at h
      split at h
      · cases h
      · cases h
        refine ⟨?_,spanE_le _ _ (by omega),rfl⟩
        rw [hk,spanE,hc]
        simp only [hd,if_true]
        exact spanE_ge _ _
    · split at h
      · have go:∀ k i acc,i ≥ a + 1 → textGo s a k i acc = .tok t e → a < e ∧ e ≤ s.length ∧ t.at_ = Int.ofNat a:=by
          intro k
          induction k with
          | zero=>intro i acc _ h; cases h
          | succ k ih =>
            intro i acc hi h
            unfold textGo at h
            split at h
            · cases h
            · rename_i c' hc'
              have hil:i < s.length:=by
                rcases Nat.lt_or_ge i s.length with h | h
                · exact h
                · rw [List.getElem?_eq_none h] at hc'; cases hc'
              split at h
              · cases h
              · split at h
                · exact ih _ _ (by omega) h
                · split at h
                  · exact ih _ _ (by omega) h
                  · split at h
                    · cases h
                    · cases h; exact ⟨by omega,by omega,rfl⟩
        exact go _ _ _ (Nat.le_refl _) h
      · unfold markR at h
        split at h
        · cases h
        · rename_i hm
          cases h
          have hle:markN (s.drop a) ≤ s.length - a:=by
            have hd:s.drop a = c :: s.drop (a + 1):=by rw [List.drop_eq_getElem_cons ha]; rw [List.getElem?_eq_getElem ha] at hc; cases hc; rfl
            have hlen:(s.drop a).length = s.length - a:=by simp
            have two:∀ {x y:UInt8},[x,y].isPrefixOf (s.drop a) = true → 2 ≤ s.length - a:=fun {x y} hp=>by
              have:=(List.isPrefixOf_iff_prefix.1 hp).length_le
              rw [hlen] at this; simpa using this
            have nx:(s.drop a)[1]? = some 61 → 2 ≤ s.length - a:=fun hx=>by
              rcases Nat.lt_or_ge 1 (s.drop a).length with g | g
              · rw [hlen] at g; omega
              · rw [List.getElem?_eq_none g] at hx; cases hx
            rw [hd] at two nx ⊢
            unfold markN
            repeat' split
            all_goals first | exact two (by assumption) | exact nx (by assumption) | omega
          exact ⟨by omega,by omega,rfl⟩
theorem passE_ge {s:List UInt8}:∀ k i,i ≤ passE s k i
  | 0,i=>Nat.le_refl _
  | k + 1,i=>by
    unfold passE
    split
    · exact Nat.le_refl _
    · split
      · exact Nat.le_trans (Nat.le_succ i) (passE_ge k (i + 1))
      · split
        · exact Nat.le_trans (spanE_ge _ _) (passE_ge k _)
        · exact Nat.le_refl _
theorem passE_le {s:List UInt8}:∀ k i,i ≤ s.length → passE s k i ≤ s.length
  | 0,i,h=>h
  | k + 1,i,h=>by
    unfold passE
    split
    · exact h
    · rename_i c hc
      have hi:i < s.length:=by
        rcases Nat.lt_or_ge i s.length with h | h
        · exact h
        · rw [List.getElem?_eq_none h] at hc; cases hc
      split
      · exact passE_le k (i + 1) hi
      · split
        · exact passE_le k _ (spanE_le _ _ h)
        · exact h
end Go.Proofs.Ytfdcjngclelnhaa
