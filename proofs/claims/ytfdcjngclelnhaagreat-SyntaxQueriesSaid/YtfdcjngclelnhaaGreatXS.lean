/- Part of a proof. -/
import Derived.Test.YtfdcjngclelnhaaGreatKT
set_option linter.unusedSectionVars false
set_option linter.unusedSimpArgs false
set_option linter.unusedVariables false
namespace Go.Proofs.YtfdcjngclelnhaaGreat
open Go Go.RowKit
set_option maxRecDepth 100000
set_option maxHeartbeats 4000000
noncomputable section
def ent_g_NoEscape:Ent1:=([151],fun args h K=>match args with | [x]=>K x h | _=>False,primSame)
theorem entOk_g_NoEscape:EntryOk Tryz.prog ent_g_NoEscape:=by
  refine ⟨fun args h K hk=>?_,primSame_ok Tryz.func151 rfl rfl (by kernel_rfl) (by kernel_rfl)⟩
  unfold ent_g_NoEscape at hk
  dsimp only at hk
  split at hk
  · exact ⟨_,_,rfl,hk⟩
  · exact hk.elim
structure Fns where
  s_now:B105 → Option (D × B105)
  s_fail:B105 → Int → Option (B105)
  s_sees:B105 → Int → List UInt8 → Option (Bool × B105)
  s_next:B105 → Option (B105)
  s_word:B105 → List UInt8 → Option (Bool × B105)
  s_mark:B105 → List UInt8 → Option (Bool × B105)
  s_must:B105 → List UInt8 → Option (B105)
  s_need:B105 → List UInt8 → Option (B105)
  s_named:B105 → Option (Bool × B105)
  s_name:B105 → Option (List UInt8 × B105)
  s_number:B105 → Option (Int × B105)
  s_enter:B105 → Option (Bool × B105)
  s_leave:B105 → Option (B105)
  s_bin:List UInt8 → D → D → Option (D)
  s_gathers:List UInt8 → Option (Bool)
  s_left_or:B105 → D → Option (D × B105)
  s_left_and:B105 → D → Option (D × B105)
  s_left_sum:B105 → D → Option (D × B105)
  s_left_prod:B105 → D → Option (D × B105)
  s_inner_not:B105 → Int → Option (D × B105)
  s_inner_neg:B105 → Int → Option (D × B105)
  s_expr1:B105 → Option (D × B105)
  s_expr:B105 → Option (D × B105)
  s_not:B105 → Option (D × B105)
  s_compared:B105 → Option (D × B105)
  s_bracketed:B105 → Option (D × B105)
  s_sum:B105 → Option (D × B105)
  s_prod:B105 → Option (D × B105)
  s_unary:B105 → Option (D × B105)
  s_prim:B105 → Option (D × B105)
  s_round:B105 → Option (D × B105)
  s_cases:B105 → Option (D × B105)
  s_column:B105 → Option (D × B105)
  s_query:B105 → Option (D × B105)
  s_part:B105 → Option (D × B105)
  s_item:B105 → Option (D × B105)
  s_key:B105 → Option (D × B105)
  s_source:B105 → Option (D × B105)
  s_single:B105 → Option (D × B105)
  s_list_item:B105 → Option (D × B105)
  s_list_expr:B105 → Option (D × B105)
  s_list_key:B105 → Option (D × B105)
  s_list_name:B105 → Option (D × B105)
  s_readE:List UInt8 → Int → Option (D × Int × Int)
  s_Expr1:B105 → Option (D × B105)
  S_Expr:List UInt8 → Option (D × Int × Int)
  s_readQ:List UInt8 → Int → Option (D × Int × Int)
  s_Query1:B105 → Option (D × B105)
  S_Query:List UInt8 → Option (D × Int × Int)
  p_bad:B74 → Int → Option (B74)
  p_is:B74 → List UInt8 → Option (Bool × B74)
  p_take:B74 → List UInt8 → Option (Bool × B74)
  p_must:B74 → List UInt8 → Option (B74)
  p_down:B74 → Option (B74)
  p_name:B74 → Option (List UInt8 × B74)
  p_int:B74 → Option (Int × B74)
  p_exprs:B74 → Option (D × B74)
  p_Expr:B74 → Option (D × B74)
  p_and:B74 → Option (D × B74)
  p_not:B74 → Option (D × B74)
  p_oneOf:B74 → D → Option (List UInt8 × B74)
  p_cmp:B74 → Option (D × B74)
  p_sum:B74 → Option (D × B74)
  p_prod:B74 → Option (D × B74)
  p_unary:B74 → Option (D × B74)
  p_prim:B74 → Option (D × B74)
  p_Query:B74 → Option (D × B74)
  p_part:B74 → Option (D × B74)
  p_src:B74 → Option (D × B74)
  p_one:B74 → Option (D × B74)
  p_End:B74 → Option (Int × Int × B74)
  p_names:B74 → Option (D × B74)
  p_ty:B74 → Option (Int × B74)
  r_bin:List UInt8 → D → D → Option (D)
  r_New:List UInt8 → Int → Option (B74)
  r_Expr:List UInt8 → Option (D × Int × Int)
  r_Query:List UInt8 → Option (D × Int × Int)
  r_SameExpr:D → D → Option (Bool)
  r_SameExprs:D → D → Option (Bool)
  r_SameQuery:D → D → Option (Bool)
  r_SameQueries:D → D → Option (Bool)
  r_SameFroms:D → D → Option (Bool)
  r_SameTexts:D → D → Option (Bool)
  t_Word:List UInt8 → Option (Bool)
  k_Word:List UInt8 → Option (Bool)
  k_Words:Option (D)
  k_blank:Int → Option (Bool)
  k_letter:Int → Option (Bool)
  k_digit:Int → Option (Bool)
  k_text:List UInt8 → Int → Option (Int × List UInt8 × Int × Int)
  k_Marks:Option (D)
  k_one:List UInt8 → Int → Option (D × Int × Int × Int)
  k_Scan:List UInt8 → Option (D × Int × Int)
  t_letter:Int → Option (Bool)
  t_digit:Int → Option (Bool)
  t_pass:B132 → Option (B132)
  t_next:B132 → Option (Int × B132)
  t_put:B132 → D → Option (Int × B132)
  t_name:B132 → Option (Int × B132)
  t_number:B132 → Option (Int × B132)
  t_text:B132 → Option (Int × B132)
  t_mark:B132 → Option (Int × B132)
  t_form:B132 → Int → Option (Int × B132)
  t_run_name:B132 → Option (List UInt8 × B132)
  t_run_digit:B132 → Option (List UInt8 × B132)
  t_name1:Int → Option (Bool)
  t_Scan:List UInt8 → Option (D × Int × Int)
  g_HasPrefix:List UInt8 → List UInt8 → Option (Bool)
  g_IndexByte:List UInt8 → Int → Option (Int)
  g_sHasPrefix:List UInt8 → List UInt8 → Option (Bool)
  g_sIndexByte:List UInt8 → Int → Option (Int)
  g_IBS:List UInt8 → Int → Option (Int)
  b_copyCheck:B167 → Option (B167)
  b_WriteByte:B167 → Int → Option (Unit × B167)
  b_Len:B167 → Option (Int × B167)
  b_String:B167 → Option (List UInt8 × B167)
  c_alive:Option (Bool)
  c_Exprs:List UInt8 → Option (Bool)
  c_Queries:List UInt8 → Option (Bool)
def pk0 {Z:Type} (z:Z) (t0:Nat) (F:B105 → Option (D × B105)) (args:List AV) (h:Heap) (K:AV → Heap → Z):Z:=match args with | [.ptr (some (i0,0))]=>(k105 z h i0 fun s0 v0=>bnd z (F s0) fun r=>castK z Tryz.prog t0 (r.1) fun w0=>K w0 (h.set i0 (b105 (r.2) v0))) | _=>z
def e0 (f t0:Nat) (F:B105 → Option (D × B105)):Ent1:=([f],fun l h K=>pk0 False t0 F (l.map sealV) h K,fun l h=>pk0 none t0 F (l.map sealV) h fun v h=>some (v,h))
def enc0 (r:D × B105):AV × Heap:=((.dat (r.1)),[b105 (r.2) 0])
theorem e0_ok {f t0:Nat} {F:B105 → Option (D × B105)} (hF:∀ (s0:B105) (r:D × B105),F s0 = some r → CallX Tryz.prog [] f [.ptr (some (0,0))] [b105 s0 0] (enc0 r).1 (enc0 r).2):EntryOk Tryz.prog (e0 f t0 F):=by
  refine ⟨fun args h K=>?_,fun args h v h' hs=>call1_seal ?_⟩
  · show Par K (pk0 False t0 F (args.map sealV) h K) (pk0 none t0 F (args.map sealV) h fun v h=>some (v,h))
    unfold pk0
    split
    · repeat' first | exact par_leaf | exact par_no | apply par_cnd | (refine par_bnd fun _=>?_) | (refine par_cast fun _=>?_) | (refine par_ptr fun _ _=>?_) | (refine par_k105 fun _ _=>?_)
    · exact par_no
  · change pk0 none t0 F (args.map sealV) h (fun v h=>some (v,h)) = some (v,h') at hs
    generalize args.map sealV = l at hs ⊢
    unfold pk0 at hs
    split at hs
    · replace hs:=k105_inv hs
      obtain ⟨s0,v0,cs0,hi0,hb0,hs⟩:=hs
      replace hs:=bnd_inv hs
      obtain ⟨r,hr,hs⟩:=hs
      replace hs:=cast_inv hs
      cases hs
      exact (hF _ _ hr).plain.frame (is:=[_]) (os:=[b105 (r.2) v0]) nd1 rfl rfl rfl rfl rfl (all_j (all_s ⟨_,_,_,_,hi0,rfl,rfl,rfl,seen105 hb0⟩ all_z))
    · cases hs
theorem enc0_inj:∀ a b,enc0 a = enc0 b → a = b:=by
  rintro ⟨_,⟨_,_,_,_,_⟩⟩ ⟨_,⟨_,_,_,_,_⟩⟩ e <;> simp_all [enc0,b105,o105]
def pk1 {Z:Type} (z:Z) (F:B105 → Int → Option (B105)) (args:List AV) (h:Heap) (K:AV → Heap → Z):Z:=match args with | [.ptr (some (i0,0)),.dat (.int .i64 a1)]=>(k105 z h i0 fun s0 v0=>bnd z (F s0 a1) fun r=>K (.tuple []) (h.set i0 (b105 r v0))) | _=>z
def e1 (f:Nat) (F:B105 → Int → Option (B105)):Ent1:=([f],fun l h K=>pk1 False F (l.map sealV) h K,fun l h=>pk1 none F (l.map sealV) h fun v h=>some (v,h))
def enc1 (r:B105):AV × Heap:=((.tuple []),[b105 r 0])
theorem e1_ok {f:Nat} {F:B105 → Int → Option (B105)} (hF:∀ (s0:B105) (a1:Int) (r:B105),F s0 a1 = some r → CallX Tryz.prog [] f [.ptr (some (0,0)),.dat (.int .i64 a1)] [b105 s0 0] (enc1 r).1 (enc1 r).2):EntryOk Tryz.prog (e1 f F):=by
  refine ⟨fun args h K=>?_,fun args h v h' hs=>call1_seal ?_⟩
  · show Par K (pk1 False F (args.map sealV) h K) (pk1 none F (args.map sealV) h fun v h=>some (v,h))
    unfold pk1
    split
    · repeat' first | exact par_leaf | exact par_no | apply par_cnd | (refine par_bnd fun _=>?_) | (refine par_cast fun _=>?_) | (refine par_ptr fun _ _=>?_) | (refine par_k105 fun _ _=>?_)
    · exact par_no
  · change pk1 none F (args.map sealV) h (fun v h=>some (v,h)) = some (v,h') at hs
    generalize args.map sealV = l at hs ⊢
    unfold pk1 at hs
    split at hs
    · replace hs:=k105_inv hs
      obtain ⟨s0,v0,cs0,hi0,hb0,hs⟩:=hs
      replace hs:=bnd_inv hs
      obtain ⟨r,hr,hs⟩:=hs
      cases hs
      exact (hF _ _ _ hr).plain.frame (is:=[_]) (os:=[b105 r v0]) nd1 rfl rfl rfl rfl rfl (all_j (all_s ⟨_,_,_,_,hi0,rfl,rfl,rfl,seen105 hb0⟩ all_z))
    · cases hs
theorem enc1_inj:∀ a b,enc1 a = enc1 b → a = b:=by
  rintro ⟨_,_,_,_,_⟩ ⟨_,_,_,_,_⟩ e <;> simp_all [enc1,b105,o105]
def pk2 {Z:Type} (z:Z) (F:B105 → Int → List UInt8 → Option (Bool × B105)) (args:List AV) (h:Heap) (K:AV → Heap → Z):Z:=match args with | [.ptr (some (i0,0)),.dat (.int .i64 a1),.dat (.str a2)]=>(k105 z h i0 fun s0 v0=>bnd z (F s0 a1 a2) fun r=>K (.dat (.bool (r.1))) (h.set i0 (b105 (r.2) v0))) | _=>z
def e2 (f:Nat) (F:B105 → Int → List UInt8 → Option (Bool × B105)):Ent1:=([f],fun l h K=>pk2 False F (l.map sealV) h K,fun l h=>pk2 none F (l.map sealV) h fun v h=>some (v,h))
def enc2 (r:Bool × B105):AV × Heap:=((.dat (.bool (r.1))),[b105 (r.2) 0])
theorem e2_ok {f:Nat} {F:B105 → Int → List UInt8 → Option (Bool × B105)} (hF:∀ (s0:B105) (a1:Int) (a2:List UInt8) (r:Bool × B105),F s0 a1 a2 = some r → CallX Tryz.prog [] f [.ptr (some (0,0)),.dat (.int .i64 a1),.dat (.str a2)] [b105 s0 0] (enc2 r).1 (enc2 r).2):EntryOk Tryz.prog (e2 f F):=by
  refine ⟨fun args h K=>?_,fun args h v h' hs=>call1_seal ?_⟩
  · show Par K (pk2 False F (args.map sealV) h K) (pk2 none F (args.map sealV) h fun v h=>some (v,h))
    unfold pk2
    split
    · repeat' first | exact par_leaf | exact par_no | apply par_cnd | (refine par_bnd fun _=>?_) | (refine par_cast fun _=>?_) | (refine par_ptr fun _ _=>?_) | (refine par_k105 fun _ _=>?_)
    · exact par_no
  · change pk2 none F (args.map sealV) h (fun v h=>some (v,h)) = some (v,h') at hs
    generalize args.map sealV = l at hs ⊢
    unfold pk2 at hs
    split at hs
    · replace hs:=k105_inv hs
      obtain ⟨s0,v0,cs0,hi0,hb0,hs⟩:=hs
      replace hs:=bnd_inv hs
      obtain ⟨r,hr,hs⟩:=hs
      cases hs
      exact (hF _ _ _ _ hr).plain.frame (is:=[_]) (os:=[b105 (r.2) v0]) nd1 rfl rfl rfl rfl rfl (all_j (all_s ⟨_,_,_,_,hi0,rfl,rfl,rfl,seen105 hb0⟩ all_z))
    · cases hs
theorem enc2_inj:∀ a b,enc2 a = enc2 b → a = b:=by
  rintro ⟨_,⟨_,_,_,_,_⟩⟩ ⟨_,⟨_,_,_,_,_⟩⟩ e <;> simp_all [enc2,b105,o105]
def pk3 {Z:Type} (z:Z) (F:B105 → Option (B105)) (args:List AV) (h:Heap) (K:AV → Heap → Z):Z:=match args with | [.ptr (some (i0,0))]=>(k105 z h i0 fun s0 v0=>bnd z (F s0) fun r=>K (.tuple []) (h.set i0 (b105 r v0))) | _=>z
def e3 (f:Nat) (F:B105 → Option (B105)):Ent1:=([f],fun l h K=>pk3 False F (l.map sealV) h K,fun l h=>pk3 none F (l.map sealV) h fun v h=>some (v,h))
def enc3 (r:B105):AV × Heap:=((.tuple []),[b105 r 0])
theorem e3_ok {f:Nat} {F:B105 → Option (B105)} (hF:∀ (s0:B105) (r:B105),F s0 = some r → CallX Tryz.prog [] f [.ptr (some (0,0))] [b105 s0 0] (enc3 r).1 (enc3 r).2):EntryOk Tryz.prog (e3 f F):=by
  refine ⟨fun args h K=>?_,fun args h v h' hs=>call1_seal ?_⟩
  · show Par K (pk3 False F (args.map sealV) h K) (pk3 none F (args.map sealV) h fun v h=>some (v,h))
    unfold pk3
    split
    · repeat' first | exact par_leaf | exact par_no | apply par_cnd | (refine par_bnd fun _=>?_) | (refine par_cast fun _=>?_) | (refine par_ptr fun _ _=>?_) | (refine par_k105 fun _ _=>?_)
    · exact par_no
  · change pk3 none F (args.map sealV) h (fun v h=>some (v,h)) = some (v,h') at hs
    generalize args.map sealV = l at hs ⊢
    unfold pk3 at hs
    split at hs
    · replace hs:=k105_inv hs
      obtain ⟨s0,v0,cs0,hi0,hb0,hs⟩:=hs
      replace hs:=bnd_inv hs
      obtain ⟨r,hr,hs⟩:=hs
      cases hs
      exact (hF _ _ hr).plain.frame (is:=[_]) (os:=[b105 r v0]) nd1 rfl rfl rfl rfl rfl (all_j (all_s ⟨_,_,_,_,hi0,rfl,rfl,rfl,seen105 hb0⟩ all_z))
    · cases hs
theorem enc3_inj:∀ a b,enc3 a = enc3 b → a = b:=by
  rintro ⟨_,_,_,_,_⟩ ⟨_,_,_,_,_⟩ e <;> simp_all [enc3,b105,o105]
def pk4 {Z:Type} (z:Z) (F:B105 → List UInt8 → Option (Bool × B105)) (args:List AV) (h:Heap) (K:AV → Heap → Z):Z:=match args with | [.ptr (some (i0,0)),.dat (.str a1)]=>(k105 z h i0 fun s0 v0=>bnd z (F s0 a1) fun r=>K (.dat (.bool (r.1))) (h.set i0 (b105 (r.2) v0))) | _=>z
def e4 (f:Nat) (F:B105 → List UInt8 → Option (Bool × B105)):Ent1:=([f],fun l h K=>pk4 False F (l.map sealV) h K,fun l h=>pk4 none F (l.map sealV) h fun v h=>some (v,h))
def enc4 (r:Bool × B105):AV × Heap:=((.dat (.bool (r.1))),[b105 (r.2) 0])
theorem e4_ok {f:Nat} {F:B105 → List UInt8 → Option (Bool × B105)} (hF:∀ (s0:B105) (a1:List UInt8) (r:Bool × B105),F s0 a1 = some r → CallX Tryz.prog [] f [.ptr (some (0,0)),.dat (.str a1)] [b105 s0 0] (enc4 r).1 (enc4 r).2):EntryOk Tryz.prog (e4 f F):=by
  refine ⟨fun args h K=>?_,fun args h v h' hs=>call1_seal ?_⟩
  · show Par K (pk4 False F (args.map sealV) h K) (pk4 none F (args.map sealV) h fun v h=>some (v,h))
    unfold pk4
    split
    · repeat' first | exact par_leaf | exact par_no | apply par_cnd | (refine par_bnd fun _=>?_) | (refine par_cast fun _=>?_) | (refine par_ptr fun _ _=>?_) | (refine par_k105 fun _ _=>?_)
    · exact par_no
  · change pk4 none F (args.map sealV) h (fun v h=>some (v,h)) = some (v,h') at hs
    generalize args.map sealV = l at hs ⊢
    unfold pk4 at hs
    split at hs
    · replace hs:=k105_inv hs
      obtain ⟨s0,v0,cs0,hi0,hb0,hs⟩:=hs
      replace hs:=bnd_inv hs
      obtain ⟨r,hr,hs⟩:=hs
      cases hs
      exact (hF _ _ _ hr).plain.frame (is:=[_]) (os:=[b105 (r.2) v0]) nd1 rfl rfl rfl rfl rfl (all_j (all_s ⟨_,_,_,_,hi0,rfl,rfl,rfl,seen105 hb0⟩ all_z))
    · cases hs
theorem enc4_inj:∀ a b,enc4 a = enc4 b → a = b:=by
  rintro ⟨_,⟨_,_,_,_,_⟩⟩ ⟨_,⟨_,_,_,_,_⟩⟩ e <;> simp_all [enc4,b105,o105]
def pk5 {Z:Type} (z:Z) (F:B105 → List UInt8 → Option (B105)) (args:List AV) (h:Heap) (K:AV → Heap → Z):Z:=match args with | [.ptr (some (i0,0)),.dat (.str a1)]=>(k105 z h i0 fun s0 v0=>bnd z (F s0 a1) fun r=>K (.tuple []) (h.set i0 (b105 r v0))) | _=>z
def e5 (f:Nat) (F:B105 → List UInt8 → Option (B105)):Ent1:=([f],fun l h K=>pk5 False F (l.map sealV) h K,fun l h=>pk5 none F (l.map sealV) h fun v h=>some (v,h))
def enc5 (r:B105):AV × Heap:=((.tuple []),[b105 r 0])
theorem e5_ok {f:Nat} {F:B105 → List UInt8 → Option (B105)} (hF:∀ (s0:B105) (a1:List UInt8) (r:B105),F s0 a1 = some r → CallX Tryz.prog [] f [.ptr (some (0,0)),.dat (.str a1)] [b105 s0 0] (enc5 r).1 (enc5 r).2):EntryOk Tryz.prog (e5 f F):=by
  refine ⟨fun args h K=>?_,fun args h v h' hs=>call1_seal ?_⟩
  · show Par K (pk5 False F (args.map sealV) h K) (pk5 none F (args.map sealV) h fun v h=>some (v,h))
    unfold pk5
    split
    · repeat' first | exact par_leaf | exact par_no | apply par_cnd | (refine par_bnd fun _=>?_) | (refine par_cast fun _=>?_) | (refine par_ptr fun _ _=>?_) | (refine par_k105 fun _ _=>?_)
    · exact par_no
  · change pk5 none F (args.map sealV) h (fun v h=>some (v,h)) = some (v,h') at hs
    generalize args.map sealV = l at hs ⊢
    unfold pk5 at hs
    split at hs
    · replace hs:=k105_inv hs
      obtain ⟨s0,v0,cs0,hi0,hb0,hs⟩:=hs
      replace hs:=bnd_inv hs
      obtain ⟨r,hr,hs⟩:=hs
      cases hs
      exact (hF _ _ _ hr).plain.frame (is:=[_]) (os:=[b105 r v0]) nd1 rfl rfl rfl rfl rfl (all_j (all_s ⟨_,_,_,_,hi0,rfl,rfl,rfl,seen105 hb0⟩ all_z))
    · cases hs
theorem enc5_inj:∀ a b,enc5 a = enc5 b → a = b:=by
  rintro ⟨_,_,_,_,_⟩ ⟨_,_,_,_,_⟩ e <;> simp_all [enc5,b105,o105]
def pk6 {Z:Type} (z:Z) (F:B105 → Option (Bool × B105)) (args:List AV) (h:Heap) (K:AV → Heap → Z):Z:=match args with | [.ptr (some (i0,0))]=>(k105 z h i0 fun s0 v0=>bnd z (F s0) fun r=>K (.dat (.bool (r.1))) (h.set i0 (b105 (r.2) v0))) | _=>z
def e6 (f:Nat) (F:B105 → Option (Bool × B105)):Ent1:=([f],fun l h K=>pk6 False F (l.map sealV) h K,fun l h=>pk6 none F (l.map sealV) h fun v h=>some (v,h))
def enc6 (r:Bool × B105):AV × Heap:=((.dat (.bool (r.1))),[b105 (r.2) 0])
theorem e6_ok {f:Nat} {F:B105 → Option (Bool × B105)} (hF:∀ (s0:B105) (r:Bool × B105),F s0 = some r → CallX Tryz.prog [] f [.ptr (some (0,0))] [b105 s0 0] (enc6 r).1 (enc6 r).2):EntryOk Tryz.prog (e6 f F):=by
  refine ⟨fun args h K=>?_,fun args h v h' hs=>call1_seal ?_⟩
  · show Par K (pk6 False F (args.map sealV) h K) (pk6 none F (args.map sealV) h fun v h=>some (v,h))
    unfold pk6
    split
    · repeat' first | exact par_leaf | exact par_no | apply par_cnd | (refine par_bnd fun _=>?_) | (refine par_cast fun _=>?_) | (refine par_ptr fun _ _=>?_) | (refine par_k105 fun _ _=>?_)
    · exact par_no
  · change pk6 none F (args.map sealV) h (fun v h=>some (v,h)) = some (v,h') at hs
    generalize args.map sealV = l at hs ⊢
    unfold pk6 at hs
    split at hs
    · replace hs:=k105_inv hs
      obtain ⟨s0,v0,cs0,hi0,hb0,hs⟩:=hs
      replace hs:=bnd_inv hs
      obtain ⟨r,hr,hs⟩:=hs
      cases hs
      exact (hF _ _ hr).plain.frame (is:=[_]) (os:=[b105 (r.2) v0]) nd1 rfl rfl rfl rfl rfl (all_j (all_s ⟨_,_,_,_,hi0,rfl,rfl,rfl,seen105 hb0⟩ all_z))
    · cases hs
theorem enc6_inj:∀ a b,enc6 a = enc6 b → a = b:=by
  rintro ⟨_,⟨_,_,_,_,_⟩⟩ ⟨_,⟨_,_,_,_,_⟩⟩ e <;> simp_all [enc6,b105,o105]
def pk7 {Z:Type} (z:Z) (F:B105 → Option (List UInt8 × B105)) (args:List AV) (h:Heap) (K:AV → Heap → Z):Z:=match args with | [.ptr (some (i0,0))]=>(k105 z h i0 fun s0 v0=>bnd z (F s0) fun r=>K (.dat (.str (r.1))) (h.set i0 (b105 (r.2) v0))) | _=>z
def e7 (f:Nat) (F:B105 → Option (List UInt8 × B105)):Ent1:=([f],fun l h K=>pk7 False F (l.map sealV) h K,fun l h=>pk7 none F (l.map sealV) h fun v h=>some (v,h))
def enc7 (r:List UInt8 × B105):AV × Heap:=((.dat (.str (r.1))),[b105 (r.2) 0])
theorem e7_ok {f:Nat} {F:B105 → Option (List UInt8 × B105)} (hF:∀ (s0:B105) (r:List UInt8 × B105),F s0 = some r → CallX Tryz.prog [] f [.ptr (some (0,0))] [b105 s0 0] (enc7 r).1 (enc7 r).2):EntryOk Tryz.prog (e7 f F):=by
  refine ⟨fun args h K=>?_,fun args h v h' hs=>call1_seal ?_⟩
  · show Par K (pk7 False F (args.map sealV) h K) (pk7 none F (args.map sealV) h fun v h=>some (v,h))
    unfold pk7
    split
    · repeat' first | exact par_leaf | exact par_no | apply par_cnd | (refine par_bnd fun _=>?_) | (refine par_cast fun _=>?_) | (refine par_ptr fun _ _=>?_) | (refine par_k105 fun _ _=>?_)
    · exact par_no
  · change pk7 none F (args.map sealV) h (fun v h=>some (v,h)) = some (v,h') at hs
    generalize args.map sealV = l at hs ⊢
    unfold pk7 at hs
    split at hs
    · replace hs:=k105_inv hs
      obtain ⟨s0,v0,cs0,hi0,hb0,hs⟩:=hs
      replace hs:=bnd_inv hs
      obtain ⟨r,hr,hs⟩:=hs
      cases hs
      exact (hF _ _ hr).plain.frame (is:=[_]) (os:=[b105 (r.2) v0]) nd1 rfl rfl rfl rfl rfl (all_j (all_s ⟨_,_,_,_,hi0,rfl,rfl,rfl,seen105 hb0⟩ all_z))
    · cases hs
theorem enc7_inj:∀ a b,enc7 a = enc7 b → a = b:=by
  rintro ⟨_,⟨_,_,_,_,_⟩⟩ ⟨_,⟨_,_,_,_,_⟩⟩ e <;> simp_all [enc7,b105,o105]
def pk8 {Z:Type} (z:Z) (F:B105 → Option (Int × B105)) (args:List AV) (h:Heap) (K:AV → Heap → Z):Z:=match args with | [.ptr (some (i0,0))]=>(k105 z h i0 fun s0 v0=>bnd z (F s0) fun r=>K (.dat (.int .i64 (r.1))) (h.set i0 (b105 (r.2) v0))) | _=>z
def e8 (f:Nat) (F:B105 → Option (Int × B105)):Ent1:=([f],fun l h K=>pk8 False F (l.map sealV) h K,fun l h=>pk8 none F (l.map sealV) h fun v h=>some (v,h))
def enc8 (r:Int × B105):AV × Heap:=((.dat (.int .i64 (r.1))),[b105 (r.2) 0])
theorem e8_ok {f:Nat} {F:B105 → Option (Int × B105)} (hF:∀ (s0:B105) (r:Int × B105),F s0 = some r → CallX Tryz.prog [] f [.ptr (some (0,0))] [b105 s0 0] (enc8 r).1 (enc8 r).2):EntryOk Tryz.prog (e8 f F):=by
  refine ⟨fun args h K=>?_,fun args h v h' hs=>call1_seal ?_⟩
  · show Par K (pk8 False F (args.map sealV) h K) (pk8 none F (args.map sealV) h fun v h=>some (v,h))
    unfold pk8
    split
    · repeat' first | exact par_leaf | exact par_no | apply par_cnd | (refine par_bnd fun _=>?_) | (refine par_cast fun _=>?_) | (refine par_ptr fun _ _=>?_) | (refine par_k105 fun _ _=>?_)
    · exact par_no
  · change pk8 none F (args.map sealV) h (fun v h=>some (v,h)) = some (v,h') at hs
    generalize args.map sealV = l at hs ⊢
    unfold pk8 at hs
    split at hs
    · replace hs:=k105_inv hs
      obtain ⟨s0,v0,cs0,hi0,hb0,hs⟩:=hs
      replace hs:=bnd_inv hs
      obtain ⟨r,hr,hs⟩:=hs
      cases hs
      exact (hF _ _ hr).plain.frame (is:=[_]) (os:=[b105 (r.2) v0]) nd1 rfl rfl rfl rfl rfl (all_j (all_s ⟨_,_,_,_,hi0,rfl,rfl,rfl,seen105 hb0⟩ all_z))
    · cases hs
theorem enc8_inj:∀ a b,enc8 a = enc8 b → a = b:=by
  rintro ⟨_,⟨_,_,_,_,_⟩⟩ ⟨_,⟨_,_,_,_,_⟩⟩ e <;> simp_all [enc8,b105,o105]
def pk9 {Z:Type} (z:Z) (t0 t1 t2:Nat) (F:List UInt8 → D → D → Option (D)) (args:List AV) (h:Heap) (K:AV → Heap → Z):Z:=match args with | [.dat (.str a0),.dat a1,.dat a2]=>(cnd (okG t0 a1) (cnd (okG t1 a2) (bnd z (F a0 a1 a2) fun r=>castK z Tryz.prog t2 (r) fun w0=>K w0 h) z) z) | _=>z
def e9 (f t0 t1 t2:Nat) (F:List UInt8 → D → D → Option (D)):Ent1:=([f],fun l h K=>pk9 False t0 t1 t2 F (l.map sealV) h K,fun l h=>pk9 none t0 t1 t2 F (l.map sealV) h fun v h=>some (v,h))
def enc9 (r:D):AV × Heap:=((.dat r),[])
theorem e9_ok {f t0 t1 t2:Nat} {F:List UInt8 → D → D → Option (D)} (hF:∀ (a0:List UInt8) (a1:D) (a2:D) (r:D),F a0 a1 a2 = some r → CallX Tryz.prog [] f [.dat (.str a0),.dat (G t0 a1),.dat (G t1 a2)] [] (enc9 r).1 (enc9 r).2):EntryOk Tryz.prog (e9 f t0 t1 t2 F):=by
  refine ⟨fun args h K=>?_,fun args h v h' hs=>call1_seal ?_⟩
  · show Par K (pk9 False t0 t1 t2 F (args.map sealV) h K) (pk9 none t0 t1 t2 F (args.map sealV) h fun v h=>some (v,h))
    unfold pk9
    split
    · repeat' first | exact par_leaf | exact par_no | apply par_cnd | (refine par_bnd fun _=>?_) | (refine par_cast fun _=>?_) | (refine par_ptr fun _ _=>?_)
    · exact par_no
  · change pk9 none t0 t1 t2 F (args.map sealV) h (fun v h=>some (v,h)) = some (v,h') at hs
    generalize args.map sealV = l at hs ⊢
    unfold pk9 at hs
    split at hs
    · replace hs:=cnd_inv hs
      obtain ⟨ho1,hs⟩:=hs
      replace hs:=cnd_inv hs
      obtain ⟨ho2,hs⟩:=hs
      replace hs:=bnd_inv hs
      obtain ⟨r,hr,hs⟩:=hs
      replace hs:=cast_inv hs
      cases hs
      rw [ok_eq ho1]
      rw [ok_eq ho2]
      exact (hF _ _ _ _ hr).plain.frame0 rfl rfl
    · cases hs
theorem enc9_inj:∀ a b,enc9 a = enc9 b → a = b:=by
  rintro _ _ e <;> simp_all [enc9]
def pk10 {Z:Type} (z:Z) (F:List UInt8 → Option (Bool)) (args:List AV) (h:Heap) (K:AV → Heap → Z):Z:=match args with | [.dat (.str a0)]=>(bnd z (F a0) fun r=>K (.dat (.bool r)) h) | _=>z
def e10 (f:Nat) (F:List UInt8 → Option (Bool)):Ent1:=([f],fun l h K=>pk10 False F (l.map sealV) h K,fun l h=>pk10 none F (l.map sealV) h fun v h=>some (v,h))
def enc10 (r:Bool):AV × Heap:=((.dat (.bool r)),[])
theorem e10_ok {f:Nat} {F:List UInt8 → Option (Bool)} (hF:∀ (a0:List UInt8) (r:Bool),F a0 = some r → CallX Tryz.prog [] f [.dat (.str a0)] [] (enc10 r).1 (enc10 r).2):EntryOk Tryz.prog (e10 f F):=by
  refine ⟨fun args h K=>?_,fun args h v h' hs=>call1_seal ?_⟩
  · show Par K (pk10 False F (args.map sealV) h K) (pk10 none F (args.map sealV) h fun v h=>some (v,h))
    unfold pk10
    split
    · repeat' first | exact par_leaf | exact par_no | apply par_cnd | (refine par_bnd fun _=>?_) | (refine par_cast fun _=>?_) | (refine par_ptr fun _ _=>?_)
    · exact par_no
  · change pk10 none F (args.map sealV) h (fun v h=>some (v,h)) = some (v,h') at hs
    generalize args.map sealV = l at hs ⊢
    unfold pk10 at hs
    split at hs
    · replace hs:=bnd_inv hs
      obtain ⟨r,hr,hs⟩:=hs
      cases hs
      exact (hF _ _ hr).plain.frame0 rfl rfl
    · cases hs
theorem enc10_inj:∀ a b,enc10 a = enc10 b → a = b:=by
  rintro _ _ e <;> simp_all [enc10]
def pk11 {Z:Type} (z:Z) (k0 k1 t0:Nat) (F:B105 → D → Option (D × B105)) (args:List AV) (h:Heap) (K:AV → Heap → Z):Z:=match args with | [.ptr (some (i0,0)),.func (.func g1) [] [.ptr (some (ip1_0,0))],.func (.func g2) [.ptr (some (q2_0,0))] [],.dat a3]=>(cnd (Nat.beq g1 k0) (ptrK z h ip1_0 67 fun q1_0 vp1_0=>cnd (Nat.beq q1_0 i0) (cnd (Nat.beq g2 k1) (cnd (Nat.beq q2_0 i0) (cnd (Nat.blt i0 ip1_0) (k105 z h i0 fun s0 v0=>bnd z (F s0 a3) fun r=>castK z Tryz.prog t0 (r.1) fun w0=>K w0 ((h.set i0 (b105 (r.2) v0)).set ip1_0 (some (.cells 67 [.ptr (some (i0,0))] vp1_0)))) z) z) z) z) z) | _=>z
def e11 (f k0 k1 t0:Nat) (F:B105 → D → Option (D × B105)):Ent1:=([f,k0,k1],fun l h K=>pk11 False k0 k1 t0 F (l.map sealV) h K,fun l h=>pk11 none k0 k1 t0 F (l.map sealV) h fun v h=>some (v,h))
def enc11 (r:D × B105):AV × Heap:=((.dat (r.1)),[b105 (r.2) 0,some (.cells 67 [.ptr (some (0,0))] 0)])
theorem e11_ok {f k0 k1 t0:Nat} {F:B105 → D → Option (D × B105)} (hF:∀ (s0:B105) (a3:D) (r:D × B105),F s0 a3 = some r → CallX Tryz.prog [] f [.ptr (some (0,0)),.func (.func k0) [] [.ptr (some (1,0))],.func (.func k1) [.ptr (some (0,0))] [],.dat a3] [b105 s0 0,some (.cells 67 [.ptr (some (0,0))] 0)] (enc11 r).1 (enc11 r).2):EntryOk Tryz.prog (e11 f k0 k1 t0 F):=by
  refine ⟨fun args h K=>?_,fun args h v h' hs=>call1_seal ?_⟩
  · show Par K (pk11 False k0 k1 t0 F (args.map sealV) h K) (pk11 none k0 k1 t0 F (args.map sealV) h fun v h=>some (v,h))
    unfold pk11
    split
    · repeat' first | exact par_leaf | exact par_no | apply par_cnd | (refine par_bnd fun _=>?_) | (refine par_cast fun _=>?_) | (refine par_ptr fun _ _=>?_) | (refine par_k105 fun _ _=>?_)
    · exact par_no
  · change pk11 none k0 k1 t0 F (args.map sealV) h (fun v h=>some (v,h)) = some (v,h') at hs
    generalize args.map sealV = l at hs ⊢
    unfold pk11 at hs
    split at hs
    · replace hs:=beq_inv hs
      obtain ⟨eg,hs⟩:=hs
      try subst eg
      replace hs:=ptr_inv hs
      obtain ⟨q1_0,vp1_0,hip1_0,hs⟩:=hs
      replace hs:=beq_inv hs
      obtain ⟨eg,hs⟩:=hs
      try subst eg
      replace hs:=beq_inv hs
      obtain ⟨eg,hs⟩:=hs
      try subst eg
      replace hs:=beq_inv hs
      obtain ⟨eg,hs⟩:=hs
      try subst eg
      replace hs:=blt_inv hs
      obtain ⟨hlt0,hs⟩:=hs
      replace hs:=k105_inv hs
      obtain ⟨s0,v0,cs0,hi0,hb0,hs⟩:=hs
      replace hs:=bnd_inv hs
      obtain ⟨r,hr,hs⟩:=hs
      replace hs:=cast_inv hs
      cases hs
      exact (hF _ _ _ hr).plain.frameG0 (is:=[_,_]) (os:=[b105 (r.2) v0,some (.cells 67 [.ptr (some (_,0))] vp1_0)]) (sort_of (so_c hlt0 so_1)) rfl rfl rfl rfl rfl (all_j (all_s ⟨_,_,_,_,hi0,rfl,rfl,rfl,seenG105 hb0⟩ (all_s ⟨_,_,_,_,hip1_0,rfl,rfl,rfl,seenG_ptr rfl (by decide) ⟨by simp,rfl⟩⟩ all_z)))
    · cases hs
theorem enc11_inj:∀ a b,enc11 a = enc11 b → a = b:=by
  rintro ⟨_,⟨_,_,_,_,_⟩⟩ ⟨_,⟨_,_,_,_,_⟩⟩ e <;> simp_all [enc11,b105,o105]
def pk12 {Z:Type} (z:Z) (k0 k1 t0:Nat) (F:B105 → D → Option (D × B105)) (args:List AV) (h:Heap) (K:AV → Heap → Z):Z:=match args with | [.ptr (some (i0,0)),.func (.func g1) [.ptr (some (q1_0,0))] [],.func (.func g2) [.ptr (some (q2_0,0))] [],.dat a3]=>(cnd (Nat.beq g1 k0) (cnd (Nat.beq q1_0 i0) (cnd (Nat.beq g2 k1) (cnd (Nat.beq q2_0 i0) (k105 z h i0 fun s0 v0=>bnd z (F s0 a3) fun r=>castK z Tryz.prog t0 (r.1) fun w0=>K w0 (h.set i0 (b105 (r.2) v0))) z) z) z) z) | _=>z
def e12 (f k0 k1 t0:Nat) (F:B105 → D → Option (D × B105)):Ent1:=([f,k0,k1],fun l h K=>pk12 False k0 k1 t0 F (l.map sealV) h K,fun l h=>pk12 none k0 k1 t0 F (l.map sealV) h fun v h=>some (v,h))
def enc12 (r:D × B105):AV × Heap:=((.dat (r.1)),[b105 (r.2) 0])
theorem e12_ok {f k0 k1 t0:Nat} {F:B105 → D → Option (D × B105)} (hF:∀ (s0:B105) (a3:D) (r:D × B105),F s0 a3 = some r → CallX Tryz.prog [] f [.ptr (some (0,0)),.func (.func k0) [.ptr (some (0,0))] [],.func (.func k1) [.ptr (some (0,0))] [],.dat a3] [b105 s0 0] (enc12 r).1 (enc12 r).2):EntryOk Tryz.prog (e12 f k0 k1 t0 F):=by
  refine ⟨fun args h K=>?_,fun args h v h' hs=>call1_seal ?_⟩
  · show Par K (pk12 False k0 k1 t0 F (args.map sealV) h K) (pk12 none k0 k1 t0 F (args.map sealV) h fun v h=>some (v,h))
    unfold pk12
    split
    · repeat' first | exact par_leaf | exact par_no | apply par_cnd | (refine par_bnd fun _=>?_) | (refine par_cast fun _=>?_) | (refine par_ptr fun _ _=>?_) | (refine par_k105 fun _ _=>?_)
    · exact par_no
  · change pk12 none k0 k1 t0 F (args.map sealV) h (fun v h=>some (v,h)) = some (v,h') at hs
    generalize args.map sealV = l at hs ⊢
    unfold pk12 at hs
    split at hs
    · replace hs:=beq_inv hs
      obtain ⟨eg,hs⟩:=hs
      try subst eg
      replace hs:=beq_inv hs
      obtain ⟨eg,hs⟩:=hs
      try subst eg
      replace hs:=beq_inv hs
      obtain ⟨eg,hs⟩:=hs
      try subst eg
      replace hs:=beq_inv hs
      obtain ⟨eg,hs⟩:=hs
      try subst eg
      replace hs:=k105_inv hs
      obtain ⟨s0,v0,cs0,hi0,hb0,hs⟩:=hs
      replace hs:=bnd_inv hs
      obtain ⟨r,hr,hs⟩:=hs
      replace hs:=cast_inv hs
      cases hs
      exact (hF _ _ _ hr).plain.frame (is:=[_]) (os:=[b105 (r.2) v0]) nd1 rfl rfl rfl rfl rfl (all_j (all_s ⟨_,_,_,_,hi0,rfl,rfl,rfl,seen105 hb0⟩ all_z))
    · cases hs
theorem enc12_inj:∀ a b,enc12 a = enc12 b → a = b:=by
  rintro ⟨_,⟨_,_,_,_,_⟩⟩ ⟨_,⟨_,_,_,_,_⟩⟩ e <;> simp_all [enc12,b105,o105]
def pk13 {Z:Type} (z:Z) (k0 t0:Nat) (F:B105 → Int → Option (D × B105)) (args:List AV) (h:Heap) (K:AV → Heap → Z):Z:=match args with | [.ptr (some (i0,0)),.dat (.int .i64 a1),.func (.func g2) [.ptr (some (q2_0,0))] []]=>(cnd (Nat.beq g2 k0) (cnd (Nat.beq q2_0 i0) (k105 z h i0 fun s0 v0=>bnd z (F s0 a1) fun r=>castK z Tryz.prog t0 (r.1) fun w0=>K w0 (h.set i0 (b105 (r.2) v0))) z) z) | _=>z
def e13 (f k0 t0:Nat) (F:B105 → Int → Option (D × B105)):Ent1:=([f,k0],fun l h K=>pk13 False k0 t0 F (l.map sealV) h K,fun l h=>pk13 none k0 t0 F (l.map sealV) h fun v h=>some (v,h))
def enc13 (r:D × B105):AV × Heap:=((.dat (r.1)),[b105 (r.2) 0])
theorem e13_ok {f k0 t0:Nat} {F:B105 → Int → Option (D × B105)} (hF:∀ (s0:B105) (a1:Int) (r:D × B105),F s0 a1 = some r → CallX Tryz.prog [] f [.ptr (some (0,0)),.dat (.int .i64 a1),.func (.func k0) [.ptr (some (0,0))] []] [b105 s0 0] (enc13 r).1 (enc13 r).2):EntryOk Tryz.prog (e13 f k0 t0 F):=by
  refine ⟨fun args h K=>?_,fun args h v h' hs=>call1_seal ?_⟩
  · show Par K (pk13 False k0 t0 F (args.map sealV) h K) (pk13 none k0 t0 F (args.map sealV) h fun v h=>some (v,h))
    unfold pk13
    split
    · repeat' first | exact par_leaf | exact par_no | apply par_cnd | (refine par_bnd fun _=>?_) | (refine par_cast fun _=>?_) | (refine par_ptr fun _ _=>?_) | (refine par_k105 fun _ _=>?_)
    · exact par_no
  · change pk13 none k0 t0 F (args.map sealV) h (fun v h=>some (v,h)) = some (v,h') at hs
    generalize args.map sealV = l at hs ⊢
    unfold pk13 at hs
    split at hs
    · replace hs:=beq_inv hs
      obtain ⟨eg,hs⟩:=hs
      try subst eg
      replace hs:=beq_inv hs
      obtain ⟨eg,hs⟩:=hs
      try subst eg
      replace hs:=k105_inv hs
      obtain ⟨s0,v0,cs0,hi0,hb0,hs⟩:=hs
      replace hs:=bnd_inv hs
      obtain ⟨r,hr,hs⟩:=hs
      replace hs:=cast_inv hs
      cases hs
      exact (hF _ _ _ hr).plain.frame (is:=[_]) (os:=[b105 (r.2) v0]) nd1 rfl rfl rfl rfl rfl (all_j (all_s ⟨_,_,_,_,hi0,rfl,rfl,rfl,seen105 hb0⟩ all_z))
    · cases hs
theorem enc13_inj:∀ a b,enc13 a = enc13 b → a = b:=by
  rintro ⟨_,⟨_,_,_,_,_⟩⟩ ⟨_,⟨_,_,_,_,_⟩⟩ e <;> simp_all [enc13,b105,o105]
def pk14 {Z:Type} (z:Z) (t0:Nat) (F:B105 → Option (D × B105)) (args:List AV) (h:Heap) (K:AV → Heap → Z):Z:=match args with | [.ptr (some (ip0,0))]=>(ptrK z h ip0 67 fun i0 vp0=>cnd (Nat.blt i0 ip0) (k105 z h i0 fun s0 v0=>bnd z (F s0) fun r=>castK z Tryz.prog t0 (r.1) fun w0=>K w0 ((h.set i0 (b105 (r.2) v0)).set ip0 (some (.cells 67 [.ptr (some (i0,0))] vp0)))) z) | _=>z
def e14 (f t0:Nat) (F:B105 → Option (D × B105)):Ent1:=([f],fun l h K=>pk14 False t0 F (l.map sealV) h K,fun l h=>pk14 none t0 F (l.map sealV) h fun v h=>some (v,h))
def enc14 (r:D × B105):AV × Heap:=((.dat (r.1)),[b105 (r.2) 0,some (.cells 67 [.ptr (some (0,0))] 0)])
theorem e14_ok {f t0:Nat} {F:B105 → Option (D × B105)} (hF:∀ (s0:B105) (r:D × B105),F s0 = some r → CallX Tryz.prog [] f [.ptr (some (1,0))] [b105 s0 0,some (.cells 67 [.ptr (some (0,0))] 0)] (enc14 r).1 (enc14 r).2):EntryOk Tryz.prog (e14 f t0 F):=by
  refine ⟨fun args h K=>?_,fun args h v h' hs=>call1_seal ?_⟩
  · show Par K (pk14 False t0 F (args.map sealV) h K) (pk14 none t0 F (args.map sealV) h fun v h=>some (v,h))
    unfold pk14
    split
    · repeat' first | exact par_leaf | exact par_no | apply par_cnd | (refine par_bnd fun _=>?_) | (refine par_cast fun _=>?_) | (refine par_ptr fun _ _=>?_) | (refine par_k105 fun _ _=>?_)
    · exact par_no
  · change pk14 none t0 F (args.map sealV) h (fun v h=>some (v,h)) = some (v,h') at hs
    generalize args.map sealV = l at hs ⊢
    unfold pk14 at hs
    split at hs
    · replace hs:=ptr_inv hs
      obtain ⟨i0,vp0,hip0,hs⟩:=hs
      replace hs:=blt_inv hs
      obtain ⟨hlt0,hs⟩:=hs
      replace hs:=k105_inv hs
      obtain ⟨s0,v0,cs0,hi0,hb0,hs⟩:=hs
      replace hs:=bnd_inv hs
      obtain ⟨r,hr,hs⟩:=hs
      replace hs:=cast_inv hs
      cases hs
      exact (hF _ _ hr).plain.frameG0 (is:=[_,_]) (os:=[b105 (r.2) v0,some (.cells 67 [.ptr (some (_,0))] vp0)]) (sort_of (so_c hlt0 so_1)) rfl rfl rfl rfl rfl (all_j (all_s ⟨_,_,_,_,hi0,rfl,rfl,rfl,seenG105 hb0⟩ (all_s ⟨_,_,_,_,hip0,rfl,rfl,rfl,seenG_ptr rfl (by decide) ⟨by simp,rfl⟩⟩ all_z)))
    · cases hs
theorem enc14_inj:∀ a b,enc14 a = enc14 b → a = b:=by
  rintro ⟨_,⟨_,_,_,_,_⟩⟩ ⟨_,⟨_,_,_,_,_⟩⟩ e <;> simp_all [enc14,b105,o105]
def pk15 {Z:Type} (z:Z) (k0:Nat) (F:B105 → Option (D × B105)) (args:List AV) (h:Heap) (K:AV → Heap → Z):Z:=match args with | [.ptr (some (i0,0)),.func (.func g1) [.ptr (some (q1_0,0))] []]=>(cnd (Nat.beq g1 k0) (cnd (Nat.beq q1_0 i0) (k105 z h i0 fun s0 v0=>bnd z (F s0) fun r=>K (.dat (r.1)) (h.set i0 (b105 (r.2) v0))) z) z) | _=>z
def e15 (f k0:Nat) (F:B105 → Option (D × B105)):Ent1:=([f,k0],fun l h K=>pk15 False k0 F (l.map sealV) h K,fun l h=>pk15 none k0 F (l.map sealV) h fun v h=>some (v,h))
def enc15 (r:D × B105):AV × Heap:=((.dat (r.1)),[b105 (r.2) 0])
theorem e15_ok {f k0:Nat} {F:B105 → Option (D × B105)} (hF:∀ (s0:B105) (r:D × B105),F s0 = some r → CallX Tryz.prog [] f [.ptr (some (0,0)),.func (.func k0) [.ptr (some (0,0))] []] [b105 s0 0] (enc15 r).1 (enc15 r).2):EntryOk Tryz.prog (e15 f k0 F):=by
  refine ⟨fun args h K=>?_,fun args h v h' hs=>call1_seal ?_⟩
  · show Par K (pk15 False k0 F (args.map sealV) h K) (pk15 none k0 F (args.map sealV) h fun v h=>some (v,h))
    unfold pk15
    split
    · repeat' first | exact par_leaf | exact par_no | apply par_cnd | (refine par_bnd fun _=>?_) | (refine par_cast fun _=>?_) | (refine par_ptr fun _ _=>?_) | (refine par_k105 fun _ _=>?_)
    · exact par_no
  · change pk15 none k0 F (args.map sealV) h (fun v h=>some (v,h)) = some (v,h') at hs
    generalize args.map sealV = l at hs ⊢
    unfold pk15 at hs
    split at hs
    · replace hs:=beq_inv hs
      obtain ⟨eg,hs⟩:=hs
      try subst eg
      replace hs:=beq_inv hs
      obtain ⟨eg,hs⟩:=hs
      try subst eg
      replace hs:=k105_inv hs
      obtain ⟨s0,v0,cs0,hi0,hb0,hs⟩:=hs
      replace hs:=bnd_inv hs
      obtain ⟨r,hr,hs⟩:=hs
      cases hs
      exact (hF _ _ hr).plain.frame (is:=[_]) (os:=[b105 (r.2) v0]) nd1 rfl rfl rfl rfl rfl (all_j (all_s ⟨_,_,_,_,hi0,rfl,rfl,rfl,seen105 hb0⟩ all_z))
    · cases hs
theorem enc15_inj:∀ a b,enc15 a = enc15 b → a = b:=by
  rintro ⟨_,⟨_,_,_,_,_⟩⟩ ⟨_,⟨_,_,_,_,_⟩⟩ e <;> simp_all [enc15,b105,o105]
def pk16 {Z:Type} (z:Z) (k0 t0:Nat) (F:List UInt8 → Int → Option (D × Int × Int)) (args:List AV) (h:Heap) (K:AV → Heap → Z):Z:=match args with | [.dat (.str a0),.dat (.int .i64 a1),.func (.func g2) [] []]=>(cnd (Nat.beq g2 k0) (bnd z (F a0 a1) fun r=>castK z Tryz.prog t0 (r.1) fun w0=>K (.tuple [w0,(.dat (.int .i64 (r.2.1))),(.dat (.int .i64 (r.2.2)))]) h) z) | _=>z
def e16 (f k0 t0:Nat) (F:List UInt8 → Int → Option (D × Int × Int)):Ent1:=([f,k0],fun l h K=>pk16 False k0 t0 F (l.map sealV) h K,fun l h=>pk16 none k0 t0 F (l.map sealV) h fun v h=>some (v,h))
def enc16 (r:D × Int × Int):AV × Heap:=((.tuple [.dat (r.1),.dat (.int .i64 (r.2.1)),.dat (.int .i64 (r.2.2))]),[])
theorem e16_ok {f k0 t0:Nat} {F:List UInt8 → Int → Option (D × Int × Int)} (hF:∀ (a0:List UInt8) (a1:Int) (r:D × Int × Int),F a0 a1 = some r → CallX Tryz.prog [] f [.dat (.str a0),.dat (.int .i64 a1),.func (.func k0) [] []] [] (enc16 r).1 (enc16 r).2):EntryOk Tryz.prog (e16 f k0 t0 F):=by
  refine ⟨fun args h K=>?_,fun args h v h' hs=>call1_seal ?_⟩
  · show Par K (pk16 False k0 t0 F (args.map sealV) h K) (pk16 none k0 t0 F (args.map sealV) h fun v h=>some (v,h))
    unfold pk16
    split
    · repeat' first | exact par_leaf | exact par_no | apply par_cnd | (refine par_bnd fun _=>?_) | (refine par_cast fun _=>?_) | (refine par_ptr fun _ _=>?_)
    · exact par_no
  · change pk16 none k0 t0 F (args.map sealV) h (fun v h=>some (v,h)) = some (v,h') at hs
    generalize args.map sealV = l at hs ⊢
    unfold pk16 at hs
    split at hs
    · replace hs:=beq_inv hs
      obtain ⟨eg,hs⟩:=hs
      try subst eg
      replace hs:=bnd_inv hs
      obtain ⟨r,hr,hs⟩:=hs
      replace hs:=cast_inv hs
      cases hs
      exact (hF _ _ _ hr).plain.frame0 rfl rfl
    · cases hs
theorem enc16_inj:∀ a b,enc16 a = enc16 b → a = b:=by
  rintro ⟨_,_,_⟩ ⟨_,_,_⟩ e <;> simp_all [enc16]
def pk17 {Z:Type} (z:Z) (t0:Nat) (F:List UInt8 → Option (D × Int × Int)) (args:List AV) (h:Heap) (K:AV → Heap → Z):Z:=match args with | [.dat (.str a0)]=>(bnd z (F a0) fun r=>castK z Tryz.prog t0 (r.1) fun w0=>K (.tuple [w0,(.dat (.int .i64 (r.2.1))),(.dat (.int .i64 (r.2.2)))]) h) | _=>z
def e17 (f t0:Nat) (F:List UInt8 → Option (D × Int × Int)):Ent1:=([f],fun l h K=>pk17 False t0 F (l.map sealV) h K,fun l h=>pk17 none t0 F (l.map sealV) h fun v h=>some (v,h))
def enc17 (r:D × Int × Int):AV × Heap:=((.tuple [.dat (r.1),.dat (.int .i64 (r.2.1)),.dat (.int .i64 (r.2.2))]),[])
theorem e17_ok {f t0:Nat} {F:List UInt8 → Option (D × Int × Int)} (hF:∀ (a0:List UInt8) (r:D × Int × Int),F a0 = some r → CallX Tryz.prog [] f [.dat (.str a0)] [] (enc17 r).1 (enc17 r).2):EntryOk Tryz.prog (e17 f t0 F):=by
  refine ⟨fun args h K=>?_,fun args h v h' hs=>call1_seal ?_⟩
  · show Par K (pk17 False t0 F (args.map sealV) h K) (pk17 none t0 F (args.map sealV) h fun v h=>some (v,h))
    unfold pk17
    split
    · repeat' first | exact par_leaf | exact par_no | apply par_cnd | (refine par_bnd fun _=>?_) | (refine par_cast fun _=>?_) | (refine par_ptr fun _ _=>?_)
    · exact par_no
  · change pk17 none t0 F (args.map sealV) h (fun v h=>some (v,h)) = some (v,h') at hs
    generalize args.map sealV = l at hs ⊢
    unfold pk17 at hs
    split at hs
    · replace hs:=bnd_inv hs
      obtain ⟨r,hr,hs⟩:=hs
      replace hs:=cast_inv hs
      cases hs
      exact (hF _ _ hr).plain.frame0 rfl rfl
    · cases hs
theorem enc17_inj:∀ a b,enc17 a = enc17 b → a = b:=by
  rintro ⟨_,_,_⟩ ⟨_,_,_⟩ e <;> simp_all [enc17]
def pk18 {Z:Type} (z:Z) (F:B74 → Int → Option (B74)) (args:List AV) (h:Heap) (K:AV → Heap → Z):Z:=match args with | [.ptr (some (i0,0)),.dat (.int .i64 a1)]=>(k74 z h i0 fun s0 v0=>bnd z (F s0 a1) fun r=>K (.tuple []) (h.set i0 (b74 r v0))) | _=>z
def e18 (f:Nat) (F:B74 → Int → Option (B74)):Ent1:=([f],fun l h K=>pk18 False F (l.map sealV) h K,fun l h=>pk18 none F (l.map sealV) h fun v h=>some (v,h))
def enc18 (r:B74):AV × Heap:=((.tuple []),[b74 r 0])
theorem e18_ok {f:Nat} {F:B74 → Int → Option (B74)} (hF:∀ (s0:B74) (a1:Int) (r:B74),F s0 a1 = some r → CallX Tryz.prog [] f [.ptr (some (0,0)),.dat (.int .i64 a1)] [b74 s0 0] (enc18 r).1 (enc18 r).2):EntryOk Tryz.prog (e18 f F):=by
  refine ⟨fun args h K=>?_,fun args h v h' hs=>call1_seal ?_⟩
  · show Par K (pk18 False F (args.map sealV) h K) (pk18 none F (args.map sealV) h fun v h=>some (v,h))
    unfold pk18
    split
    · repeat' first | exact par_leaf | exact par_no | apply par_cnd | (refine par_bnd fun _=>?_) | (refine par_cast fun _=>?_) | (refine par_ptr fun _ _=>?_) | (refine par_k74 fun _ _=>?_)
    · exact par_no
  · change pk18 none F (args.map sealV) h (fun v h=>some (v,h)) = some (v,h') at hs
    generalize args.map sealV = l at hs ⊢
    unfold pk18 at hs
    split at hs
    · replace hs:=k74_inv hs
      obtain ⟨s0,v0,cs0,hi0,hb0,hs⟩:=hs
      replace hs:=bnd_inv hs
      obtain ⟨r,hr,hs⟩:=hs
      cases hs
      exact (hF _ _ _ hr).plain.frame (is:=[_]) (os:=[b74 r v0]) nd1 rfl rfl rfl rfl rfl (all_j (all_s ⟨_,_,_,_,hi0,rfl,rfl,rfl,seen74 hb0⟩ all_z))
    · cases hs
theorem enc18_inj:∀ a b,enc18 a = enc18 b → a = b:=by
  rintro ⟨_,_,_,_,_⟩ ⟨_,_,_,_,_⟩ e <;> simp_all [enc18,b74,o74]
def pk19 {Z:Type} (z:Z) (F:B74 → List UInt8 → Option (Bool × B74)) (args:List AV) (h:Heap) (K:AV → Heap → Z):Z:=match args with | [.ptr (some (i0,0)),.dat (.str a1)]=>(k74 z h i0 fun s0 v0=>bnd z (F s0 a1) fun r=>K (.dat (.bool (r.1))) (h.set i0 (b74 (r.2) v0))) | _=>z
def e19 (f:Nat) (F:B74 → List UInt8 → Option (Bool × B74)):Ent1:=([f],fun l h K=>pk19 False F (l.map sealV) h K,fun l h=>pk19 none F (l.map sealV) h fun v h=>some (v,h))
def enc19 (r:Bool × B74):AV × Heap:=((.dat (.bool (r.1))),[b74 (r.2) 0])
theorem e19_ok {f:Nat} {F:B74 → List UInt8 → Option (Bool × B74)} (hF:∀ (s0:B74) (a1:List UInt8) (r:Bool × B74),F s0 a1 = some r → CallX Tryz.prog [] f [.ptr (some (0,0)),.dat (.str a1)] [b74 s0 0] (enc19 r).1 (enc19 r).2):EntryOk Tryz.prog (e19 f F):=by
  refine ⟨fun args h K=>?_,fun args h v h' hs=>call1_seal ?_⟩
  · show Par K (pk19 False F (args.map sealV) h K) (pk19 none F (args.map sealV) h fun v h=>some (v,h))
    unfold pk19
    split
    · repeat' first | exact par_leaf | exact par_no | apply par_cnd | (refine par_bnd fun _=>?_) | (refine par_cast fun _=>?_) | (refine par_ptr fun _ _=>?_) | (refine par_k74 fun _ _=>?_)
    · exact par_no
  · change pk19 none F (args.map sealV) h (fun v h=>some (v,h)) = some (v,h') at hs
    generalize args.map sealV = l at hs ⊢
    unfold pk19 at hs
    split at hs
    · replace hs:=k74_inv hs
      obtain ⟨s0,v0,cs0,hi0,hb0,hs⟩:=hs
      replace hs:=bnd_inv hs
      obtain ⟨r,hr,hs⟩:=hs
      cases hs
      exact (hF _ _ _ hr).plain.frame (is:=[_]) (os:=[b74 (r.2) v0]) nd1 rfl rfl rfl rfl rfl (all_j (all_s ⟨_,_,_,_,hi0,rfl,rfl,rfl,seen74 hb0⟩ all_z))
    · cases hs
theorem enc19_inj:∀ a b,enc19 a = enc19 b → a = b:=by
  rintro ⟨_,⟨_,_,_,_,_⟩⟩ ⟨_,⟨_,_,_,_,_⟩⟩ e <;> simp_all [enc19,b74,o74]
def pk20 {Z:Type} (z:Z) (F:B74 → List UInt8 → Option (B74)) (args:List AV) (h:Heap) (K:AV → Heap → Z):Z:=match args with | [.ptr (some (i0,0)),.dat (.str a1)]=>(k74 z h i0 fun s0 v0=>bnd z (F s0 a1) fun r=>K (.tuple []) (h.set i0 (b74 r v0))) | _=>z
def e20 (f:Nat) (F:B74 → List UInt8 → Option (B74)):Ent1:=([f],fun l h K=>pk20 False F (l.map sealV) h K,fun l h=>pk20 none F (l.map sealV) h fun v h=>some (v,h))
def enc20 (r:B74):AV × Heap:=((.tuple []),[b74 r 0])
theorem e20_ok {f:Nat} {F:B74 → List UInt8 → Option (B74)} (hF:∀ (s0:B74) (a1:List UInt8) (r:B74),F s0 a1 = some r → CallX Tryz.prog [] f [.ptr (some (0,0)),.dat (.str a1)] [b74 s0 0] (enc20 r).1 (enc20 r).2):EntryOk Tryz.prog (e20 f F):=by
  refine ⟨fun args h K=>?_,fun args h v h' hs=>call1_seal ?_⟩
  · show Par K (pk20 False F (args.map sealV) h K) (pk20 none F (args.map sealV) h fun v h=>some (v,h))
    unfold pk20
    split
    · repeat' first | exact par_leaf | exact par_no | apply par_cnd | (refine par_bnd fun _=>?_) | (refine par_cast fun _=>?_) | (refine par_ptr fun _ _=>?_) | (refine par_k74 fun _ _=>?_)
    · exact par_no
  · change pk20 none F (args.map sealV) h (fun v h=>some (v,h)) = some (v,h') at hs
    generalize args.map sealV = l at hs ⊢
    unfold pk20 at hs
    split at hs
    · replace hs:=k74_inv hs
      obtain ⟨s0,v0,cs0,hi0,hb0,hs⟩:=hs
      replace hs:=bnd_inv hs
      obtain ⟨r,hr,hs⟩:=hs
      cases hs
      exact (hF _ _ _ hr).plain.frame (is:=[_]) (os:=[b74 r v0]) nd1 rfl rfl rfl rfl rfl (all_j (all_s ⟨_,_,_,_,hi0,rfl,rfl,rfl,seen74 hb0⟩ all_z))
    · cases hs
theorem enc20_inj:∀ a b,enc20 a = enc20 b → a = b:=by
  rintro ⟨_,_,_,_,_⟩ ⟨_,_,_,_,_⟩ e <;> simp_all [enc20,b74,o74]
def pk21 {Z:Type} (z:Z) (F:B74 → Option (B74)) (args:List AV) (h:Heap) (K:AV → Heap → Z):Z:=match args with | [.ptr (some (i0,0))]=>(k74 z h i0 fun s0 v0=>bnd z (F s0) fun r=>K (.tuple []) (h.set i0 (b74 r v0))) | _=>z
def e21 (f:Nat) (F:B74 → Option (B74)):Ent1:=([f],fun l h K=>pk21 False F (l.map sealV) h K,fun l h=>pk21 none F (l.map sealV) h fun v h=>some (v,h))
def enc21 (r:B74):AV × Heap:=((.tuple []),[b74 r 0])
theorem e21_ok {f:Nat} {F:B74 → Option (B74)} (hF:∀ (s0:B74) (r:B74),F s0 = some r → CallX Tryz.prog [] f [.ptr (some (0,0))] [b74 s0 0] (enc21 r).1 (enc21 r).2):EntryOk Tryz.prog (e21 f F):=by
  refine ⟨fun args h K=>?_,fun args h v h' hs=>call1_seal ?_⟩
  · show Par K (pk21 False F (args.map sealV) h K) (pk21 none F (args.map sealV) h fun v h=>some (v,h))
    unfold pk21
    split
    · repeat' first | exact par_leaf | exact par_no | apply par_cnd | (refine par_bnd fun _=>?_) | (refine par_cast fun _=>?_) | (refine par_ptr fun _ _=>?_) | (refine par_k74 fun _ _=>?_)
    · exact par_no
  · change pk21 none F (args.map sealV) h (fun v h=>some (v,h)) = some (v,h') at hs
    generalize args.map sealV = l at hs ⊢
    unfold pk21 at hs
    split at hs
    · replace hs:=k74_inv hs
      obtain ⟨s0,v0,cs0,hi0,hb0,hs⟩:=hs
      replace hs:=bnd_inv hs
      obtain ⟨r,hr,hs⟩:=hs
      cases hs
      exact (hF _ _ hr).plain.frame (is:=[_]) (os:=[b74 r v0]) nd1 rfl rfl rfl rfl rfl (all_j (all_s ⟨_,_,_,_,hi0,rfl,rfl,rfl,seen74 hb0⟩ all_z))
    · cases hs
theorem enc21_inj:∀ a b,enc21 a = enc21 b → a = b:=by
  rintro ⟨_,_,_,_,_⟩ ⟨_,_,_,_,_⟩ e <;> simp_all [enc21,b74,o74]
def pk22 {Z:Type} (z:Z) (F:B74 → Option (List UInt8 × B74)) (args:List AV) (h:Heap) (K:AV → Heap → Z):Z:=match args with | [.ptr (some (i0,0))]=>(k74 z h i0 fun s0 v0=>bnd z (F s0) fun r=>K (.dat (.str (r.1))) (h.set i0 (b74 (r.2) v0))) | _=>z
def e22 (f:Nat) (F:B74 → Option (List UInt8 × B74)):Ent1:=([f],fun l h K=>pk22 False F (l.map sealV) h K,fun l h=>pk22 none F (l.map sealV) h fun v h=>some (v,h))
def enc22 (r:List UInt8 × B74):AV × Heap:=((.dat (.str (r.1))),[b74 (r.2) 0])
theorem e22_ok {f:Nat} {F:B74 → Option (List UInt8 × B74)} (hF:∀ (s0:B74) (r:List UInt8 × B74),F s0 = some r → CallX Tryz.prog [] f [.ptr (some (0,0))] [b74 s0 0] (enc22 r).1 (enc22 r).2):EntryOk Tryz.prog (e22 f F):=by
  refine ⟨fun args h K=>?_,fun args h v h' hs=>call1_seal ?_⟩
  · show Par K (pk22 False F (args.map sealV) h K) (pk22 none F (args.map sealV) h fun v h=>some (v,h))
    unfold pk22
    split
    · repeat' first | exact par_leaf | exact par_no | apply par_cnd | (refine par_bnd fun _=>?_) | (refine par_cast fun _=>?_) | (refine par_ptr fun _ _=>?_) | (refine par_k74 fun _ _=>?_)
    · exact par_no
  · change pk22 none F (args.map sealV) h (fun v h=>some (v,h)) = some (v,h') at hs
    generalize args.map sealV = l at hs ⊢
    unfold pk22 at hs
    split at hs
    · replace hs:=k74_inv hs
      obtain ⟨s0,v0,cs0,hi0,hb0,hs⟩:=hs
      replace hs:=bnd_inv hs
      obtain ⟨r,hr,hs⟩:=hs
      cases hs
      exact (hF _ _ hr).plain.frame (is:=[_]) (os:=[b74 (r.2) v0]) nd1 rfl rfl rfl rfl rfl (all_j (all_s ⟨_,_,_,_,hi0,rfl,rfl,rfl,seen74 hb0⟩ all_z))
    · cases hs
theorem enc22_inj:∀ a b,enc22 a = enc22 b → a = b:=by
  rintro ⟨_,⟨_,_,_,_,_⟩⟩ ⟨_,⟨_,_,_,_,_⟩⟩ e <;> simp_all [enc22,b74,o74]
def pk23 {Z:Type} (z:Z) (F:B74 → Option (Int × B74)) (args:List AV) (h:Heap) (K:AV → Heap → Z):Z:=match args with | [.ptr (some (i0,0))]=>(k74 z h i0 fun s0 v0=>bnd z (F s0) fun r=>K (.dat (.int .i64 (r.1))) (h.set i0 (b74 (r.2) v0))) | _=>z
def e23 (f:Nat) (F:B74 → Option (Int × B74)):Ent1:=([f],fun l h K=>pk23 False F (l.map sealV) h K,fun l h=>pk23 none F (l.map sealV) h fun v h=>some (v,h))
def enc23 (r:Int × B74):AV × Heap:=((.dat (.int .i64 (r.1))),[b74 (r.2) 0])
theorem e23_ok {f:Nat} {F:B74 → Option (Int × B74)} (hF:∀ (s0:B74) (r:Int × B74),F s0 = some r → CallX Tryz.prog [] f [.ptr (some (0,0))] [b74 s0 0] (enc23 r).1 (enc23 r).2):EntryOk Tryz.prog (e23 f F):=by
  refine ⟨fun args h K=>?_,fun args h v h' hs=>call1_seal ?_⟩
  · show Par K (pk23 False F (args.map sealV) h K) (pk23 none F (args.map sealV) h fun v h=>some (v,h))
    unfold pk23
    split
    · repeat' first | exact par_leaf | exact par_no | apply par_cnd | (refine par_bnd fun _=>?_) | (refine par_cast fun _=>?_) | (refine par_ptr fun _ _=>?_) | (refine par_k74 fun _ _=>?_)
    · exact par_no
  · change pk23 none F (args.map sealV) h (fun v h=>some (v,h)) = some (v,h') at hs
    generalize args.map sealV = l at hs ⊢
    unfold pk23 at hs
    split at hs
    · replace hs:=k74_inv hs
      obtain ⟨s0,v0,cs0,hi0,hb0,hs⟩:=hs
      replace hs:=bnd_inv hs
      obtain ⟨r,hr,hs⟩:=hs
      cases hs
      exact (hF _ _ hr).plain.frame (is:=[_]) (os:=[b74 (r.2) v0]) nd1 rfl rfl rfl rfl rfl (all_j (all_s ⟨_,_,_,_,hi0,rfl,rfl,rfl,seen74 hb0⟩ all_z))
    · cases hs
theorem enc23_inj:∀ a b,enc23 a = enc23 b → a = b:=by
  rintro ⟨_,⟨_,_,_,_,_⟩⟩ ⟨_,⟨_,_,_,_,_⟩⟩ e <;> simp_all [enc23,b74,o74]
def pk24 {Z:Type} (z:Z) (F:B74 → Option (D × B74)) (args:List AV) (h:Heap) (K:AV → Heap → Z):Z:=match args with | [.ptr (some (i0,0))]=>(k74 z h i0 fun s0 v0=>bnd z (F s0) fun r=>K (.dat (r.1)) (h.set i0 (b74 (r.2) v0))) | _=>z
def e24 (f:Nat) (F:B74 → Option (D × B74)):Ent1:=([f],fun l h K=>pk24 False F (l.map sealV) h K,fun l h=>pk24 none F (l.map sealV) h fun v h=>some (v,h))
def enc24 (r:D × B74):AV × Heap:=((.dat (r.1)),[b74 (r.2) 0])
theorem e24_ok {f:Nat} {F:B74 → Option (D × B74)} (hF:∀ (s0:B74) (r:D × B74),F s0 = some r → CallX Tryz.prog [] f [.ptr (some (0,0))] [b74 s0 0] (enc24 r).1 (enc24 r).2):EntryOk Tryz.prog (e24 f F):=by
  refine ⟨fun args h K=>?_,fun args h v h' hs=>call1_seal ?_⟩
  · show Par K (pk24 False F (args.map sealV) h K) (pk24 none F (args.map sealV) h fun v h=>some (v,h))
    unfold pk24
    split
    · repeat' first | exact par_leaf | exact par_no | apply par_cnd | (refine par_bnd fun _=>?_) | (refine par_cast fun _=>?_) | (refine par_ptr fun _ _=>?_) | (refine par_k74 fun _ _=>?_)
    · exact par_no
  · change pk24 none F (args.map sealV) h (fun v h=>some (v,h)) = some (v,h') at hs
    generalize args.map sealV = l at hs ⊢
    unfold pk24 at hs
    split at hs
    · replace hs:=k74_inv hs
      obtain ⟨s0,v0,cs0,hi0,hb0,hs⟩:=hs
      replace hs:=bnd_inv hs
      obtain ⟨r,hr,hs⟩:=hs
      cases hs
      exact (hF _ _ hr).plain.frame (is:=[_]) (os:=[b74 (r.2) v0]) nd1 rfl rfl rfl rfl rfl (all_j (all_s ⟨_,_,_,_,hi0,rfl,rfl,rfl,seen74 hb0⟩ all_z))
    · cases hs
theorem enc24_inj:∀ a b,enc24 a = enc24 b → a = b:=by
  rintro ⟨_,⟨_,_,_,_,_⟩⟩ ⟨_,⟨_,_,_,_,_⟩⟩ e <;> simp_all [enc24,b74,o74]
def pk25 {Z:Type} (z:Z) (t0:Nat) (F:B74 → Option (D × B74)) (args:List AV) (h:Heap) (K:AV → Heap → Z):Z:=match args with | [.ptr (some (i0,0))]=>(k74 z h i0 fun s0 v0=>bnd z (F s0) fun r=>castK z Tryz.prog t0 (r.1) fun w0=>K w0 (h.set i0 (b74 (r.2) v0))) | _=>z
def e25 (f t0:Nat) (F:B74 → Option (D × B74)):Ent1:=([f],fun l h K=>pk25 False t0 F (l.map sealV) h K,fun l h=>pk25 none t0 F (l.map sealV) h fun v h=>some (v,h))
def enc25 (r:D × B74):AV × Heap:=((.dat (r.1)),[b74 (r.2) 0])
theorem e25_ok {f t0:Nat} {F:B74 → Option (D × B74)} (hF:∀ (s0:B74) (r:D × B74),F s0 = some r → CallX Tryz.prog [] f [.ptr (some (0,0))] [b74 s0 0] (enc25 r).1 (enc25 r).2):EntryOk Tryz.prog (e25 f t0 F):=by
  refine ⟨fun args h K=>?_,fun args h v h' hs=>call1_seal ?_⟩
  · show Par K (pk25 False t0 F (args.map sealV) h K) (pk25 none t0 F (args.map sealV) h fun v h=>some (v,h))
    unfold pk25
    split
    · repeat' first | exact par_leaf | exact par_no | apply par_cnd | (refine par_bnd fun _=>?_) | (refine par_cast fun _=>?_) | (refine par_ptr fun _ _=>?_) | (refine par_k74 fun _ _=>?_)
    · exact par_no
  · change pk25 none t0 F (args.map sealV) h (fun v h=>some (v,h)) = some (v,h') at hs
    generalize args.map sealV = l at hs ⊢
    unfold pk25 at hs
    split at hs
    · replace hs:=k74_inv hs
      obtain ⟨s0,v0,cs0,hi0,hb0,hs⟩:=hs
      replace hs:=bnd_inv hs
      obtain ⟨r,hr,hs⟩:=hs
      replace hs:=cast_inv hs
      cases hs
      exact (hF _ _ hr).plain.frame (is:=[_]) (os:=[b74 (r.2) v0]) nd1 rfl rfl rfl rfl rfl (all_j (all_s ⟨_,_,_,_,hi0,rfl,rfl,rfl,seen74 hb0⟩ all_z))
    · cases hs
theorem enc25_inj:∀ a b,enc25 a = enc25 b → a = b:=by
  rintro ⟨_,⟨_,_,_,_,_⟩⟩ ⟨_,⟨_,_,_,_,_⟩⟩ e <;> simp_all [enc25,b74,o74]
def pk26 {Z:Type} (z:Z) (F:B74 → D → Option (List UInt8 × B74)) (args:List AV) (h:Heap) (K:AV → Heap → Z):Z:=match args with | [.ptr (some (i0,0)),.dat a1]=>(k74 z h i0 fun s0 v0=>bnd z (F s0 a1) fun r=>K (.dat (.str (r.1))) (h.set i0 (b74 (r.2) v0))) | _=>z
def e26 (f:Nat) (F:B74 → D → Option (List UInt8 × B74)):Ent1:=([f],fun l h K=>pk26 False F (l.map sealV) h K,fun l h=>pk26 none F (l.map sealV) h fun v h=>some (v,h))
def enc26 (r:List UInt8 × B74):AV × Heap:=((.dat (.str (r.1))),[b74 (r.2) 0])
theorem e26_ok {f:Nat} {F:B74 → D → Option (List UInt8 × B74)} (hF:∀ (s0:B74) (a1:D) (r:List UInt8 × B74),F s0 a1 = some r → CallX Tryz.prog [] f [.ptr (some (0,0)),.dat a1] [b74 s0 0] (enc26 r).1 (enc26 r).2):EntryOk Tryz.prog (e26 f F):=by
  refine ⟨fun args h K=>?_,fun args h v h' hs=>call1_seal ?_⟩
  · show Par K (pk26 False F (args.map sealV) h K) (pk26 none F (args.map sealV) h fun v h=>some (v,h))
    unfold pk26
    split
    · repeat' first | exact par_leaf | exact par_no | apply par_cnd | (refine par_bnd fun _=>?_) | (refine par_cast fun _=>?_) | (refine par_ptr fun _ _=>?_) | (refine par_k74 fun _ _=>?_)
    · exact par_no
  · change pk26 none F (args.map sealV) h (fun v h=>some (v,h)) = some (v,h') at hs
    generalize args.map sealV = l at hs ⊢
    unfold pk26 at hs
    split at hs
    · replace hs:=k74_inv hs
      obtain ⟨s0,v0,cs0,hi0,hb0,hs⟩:=hs
      replace hs:=bnd_inv hs
      obtain ⟨r,hr,hs⟩:=hs
      cases hs
      exact (hF _ _ _ hr).plain.frame (is:=[_]) (os:=[b74 (r.2) v0]) nd1 rfl rfl rfl rfl rfl (all_j (all_s ⟨_,_,_,_,hi0,rfl,rfl,rfl,seen74 hb0⟩ all_z))
    · cases hs
theorem enc26_inj:∀ a b,enc26 a = enc26 b → a = b:=by
  rintro ⟨_,⟨_,_,_,_,_⟩⟩ ⟨_,⟨_,_,_,_,_⟩⟩ e <;> simp_all [enc26,b74,o74]
def pk27 {Z:Type} (z:Z) (F:B74 → Option (Int × Int × B74)) (args:List AV) (h:Heap) (K:AV → Heap → Z):Z:=match args with | [.ptr (some (i0,0))]=>(k74 z h i0 fun s0 v0=>bnd z (F s0) fun r=>K (.tuple [(.dat (.int .i64 (r.1))),(.dat (.int .i64 (r.2.1)))]) (h.set i0 (b74 (r.2.2) v0))) | _=>z
def e27 (f:Nat) (F:B74 → Option (Int × Int × B74)):Ent1:=([f],fun l h K=>pk27 False F (l.map sealV) h K,fun l h=>pk27 none F (l.map sealV) h fun v h=>some (v,h))
def enc27 (r:Int × Int × B74):AV × Heap:=((.tuple [.dat (.int .i64 (r.1)),.dat (.int .i64 (r.2.1))]),[b74 (r.2.2) 0])
theorem e27_ok {f:Nat} {F:B74 → Option (Int × Int × B74)} (hF:∀ (s0:B74) (r:Int × Int × B74),F s0 = some r → CallX Tryz.prog [] f [.ptr (some (0,0))] [b74 s0 0] (enc27 r).1 (enc27 r).2):EntryOk Tryz.prog (e27 f F):=by
  refine ⟨fun args h K=>?_,fun args h v h' hs=>call1_seal ?_⟩
  · show Par K (pk27 False F (args.map sealV) h K) (pk27 none F (args.map sealV) h fun v h=>some (v,h))
    unfold pk27
    split
    · repeat' first | exact par_leaf | exact par_no | apply par_cnd | (refine par_bnd fun _=>?_) | (refine par_cast fun _=>?_) | (refine par_ptr fun _ _=>?_) | (refine par_k74 fun _ _=>?_)
    · exact par_no
  · change pk27 none F (args.map sealV) h (fun v h=>some (v,h)) = some (v,h') at hs
    generalize args.map sealV = l at hs ⊢
    unfold pk27 at hs
    split at hs
    · replace hs:=k74_inv hs
      obtain ⟨s0,v0,cs0,hi0,hb0,hs⟩:=hs
      replace hs:=bnd_inv hs
      obtain ⟨r,hr,hs⟩:=hs
      cases hs
      exact (hF _ _ hr).plain.frame (is:=[_]) (os:=[b74 (r.2.2) v0]) nd1 rfl rfl rfl rfl rfl (all_j (all_s ⟨_,_,_,_,hi0,rfl,rfl,rfl,seen74 hb0⟩ all_z))
    · cases hs
theorem enc27_inj:∀ a b,enc27 a = enc27 b → a = b:=by
  rintro ⟨_,_,⟨_,_,_,_,_⟩⟩ ⟨_,_,⟨_,_,_,_,_⟩⟩ e <;> simp_all [enc27,b74,o74]
def pk28 {Z:Type} (z:Z) (F:List UInt8 → Int → Option (B74)) (args:List AV) (h:Heap) (K:AV → Heap → Z):Z:=match args with | [.dat (.str a0),.dat (.int .i64 a1)]=>(bnd z (F a0 a1) fun r=>K (.ptr (some (h.length + 0,0))) (h ++ [b74 r 0])) | _=>z
def e28 (f:Nat) (F:List UInt8 → Int → Option (B74)):Ent1:=([f],fun l h K=>pk28 False F (l.map sealV) h K,fun l h=>pk28 none F (l.map sealV) h fun v h=>some (v,h))
def enc28 (r:B74):AV × Heap:=((.ptr (some (0,0))),[b74 r 0])
theorem e28_ok {f:Nat} {F:List UInt8 → Int → Option (B74)} (hF:∀ (a0:List UInt8) (a1:Int) (r:B74),F a0 a1 = some r → CallX Tryz.prog [] f [.dat (.str a0),.dat (.int .i64 a1)] [] (enc28 r).1 (enc28 r).2):EntryOk Tryz.prog (e28 f F):=by
  refine ⟨fun args h K=>?_,fun args h v h' hs=>call1_seal ?_⟩
  · show Par K (pk28 False F (args.map sealV) h K) (pk28 none F (args.map sealV) h fun v h=>some (v,h))
    unfold pk28
    split
    · repeat' first | exact par_leaf | exact par_no | apply par_cnd | (refine par_bnd fun _=>?_) | (refine par_cast fun _=>?_) | (refine par_ptr fun _ _=>?_)
    · exact par_no
  · change pk28 none F (args.map sealV) h (fun v h=>some (v,h)) = some (v,h') at hs
    generalize args.map sealV = l at hs ⊢
    unfold pk28 at hs
    split at hs
    · replace hs:=bnd_inv hs
      obtain ⟨r,hr,hs⟩:=hs
      cases hs
      exact (hF _ _ _ hr).plain.frameG (is:=[]) (os:=[]) (news:=[b74 r 0]) (fun a b h1 h2=>by simp only [List.length_cons,List.length_nil] at h2; omega) rfl rfl rfl rfl rfl (all_j all_z) (all_j (all_s ⟨_,_,rfl,rfl,rfl⟩ all_z))
    · cases hs
theorem enc28_inj:∀ a b,enc28 a = enc28 b → a = b:=by
  rintro ⟨_,_,_,_,_⟩ ⟨_,_,_,_,_⟩ e <;> simp_all [enc28,b74,o74]
def pk29 {Z:Type} (z:Z) (t0 t1:Nat) (F:D → D → Option (Bool)) (args:List AV) (h:Heap) (K:AV → Heap → Z):Z:=match args with | [.dat a0,.dat a1]=>(cnd (okG t0 a0) (cnd (okG t1 a1) (bnd z (F a0 a1) fun r=>K (.dat (.bool r)) h) z) z) | _=>z
def e29 (f t0 t1:Nat) (F:D → D → Option (Bool)):Ent1:=([f],fun l h K=>pk29 False t0 t1 F (l.map sealV) h K,fun l h=>pk29 none t0 t1 F (l.map sealV) h fun v h=>some (v,h))
def enc29 (r:Bool):AV × Heap:=((.dat (.bool r)),[])
theorem e29_ok {f t0 t1:Nat} {F:D → D → Option (Bool)} (hF:∀ (a0:D) (a1:D) (r:Bool),F a0 a1 = some r → CallX Tryz.prog [] f [.dat (G t0 a0),.dat (G t1 a1)] [] (enc29 r).1 (enc29 r).2):EntryOk Tryz.prog (e29 f t0 t1 F):=by
  refine ⟨fun args h K=>?_,fun args h v h' hs=>call1_seal ?_⟩
  · show Par K (pk29 False t0 t1 F (args.map sealV) h K) (pk29 none t0 t1 F (args.map sealV) h fun v h=>some (v,h))
    unfold pk29
    split
    · repeat' first | exact par_leaf | exact par_no | apply par_cnd | (refine par_bnd fun _=>?_) | (refine par_cast fun _=>?_) | (refine par_ptr fun _ _=>?_)
    · exact par_no
  · change pk29 none t0 t1 F (args.map sealV) h (fun v h=>some (v,h)) = some (v,h') at hs
    generalize args.map sealV = l at hs ⊢
    unfold pk29 at hs
    split at hs
    · replace hs:=cnd_inv hs
      obtain ⟨ho0,hs⟩:=hs
      replace hs:=cnd_inv hs
      obtain ⟨ho1,hs⟩:=hs
      replace hs:=bnd_inv hs
      obtain ⟨r,hr,hs⟩:=hs
      cases hs
      rw [ok_eq ho0]
      rw [ok_eq ho1]
      exact (hF _ _ _ hr).plain.frame0 rfl rfl
    · cases hs
theorem enc29_inj:∀ a b,enc29 a = enc29 b → a = b:=by
  rintro _ _ e <;> simp_all [enc29]
def pk30 {Z:Type} (z:Z) (F:D → D → Option (Bool)) (args:List AV) (h:Heap) (K:AV → Heap → Z):Z:=match args with | [.dat a0,.dat a1]=>(bnd z (F a0 a1) fun r=>K (.dat (.bool r)) h) | _=>z
def e30 (f:Nat) (F:D → D → Option (Bool)):Ent1:=([f],fun l h K=>pk30 False F (l.map sealV) h K,fun l h=>pk30 none F (l.map sealV) h fun v h=>some (v,h))
def enc30 (r:Bool):AV × Heap:=((.dat (.bool r)),[])
theorem e30_ok {f:Nat} {F:D → D → Option (Bool)} (hF:∀ (a0:D) (a1:D) (r:Bool),F a0 a1 = some r → CallX Tryz.prog [] f [.dat a0,.dat a1] [] (enc30 r).1 (enc30 r).2):EntryOk Tryz.prog (e30 f F):=by
  refine ⟨fun args h K=>?_,fun args h v h' hs=>call1_seal ?_⟩
  · show Par K (pk30 False F (args.map sealV) h K) (pk30 none F (args.map sealV) h fun v h=>some (v,h))
    unfold pk30
    split
    · repeat' first | exact par_leaf | exact par_no | apply par_cnd | (refine par_bnd fun _=>?_) | (refine par_cast fun _=>?_) | (refine par_ptr fun _ _=>?_)
    · exact par_no
  · change pk30 none F (args.map sealV) h (fun v h=>some (v,h)) = some (v,h') at hs
    generalize args.map sealV = l at hs ⊢
    unfold pk30 at hs
    split at hs
    · replace hs:=bnd_inv hs
      obtain ⟨r,hr,hs⟩:=hs
      cases hs
      exact (hF _ _ _ hr).plain.frame0 rfl rfl
    · cases hs
theorem enc30_inj:∀ a b,enc30 a = enc30 b → a = b:=by
  rintro _ _ e <;> simp_all [enc30]
def pk31 {Z:Type} (z:Z) (F:Option (D)) (args:List AV) (h:Heap) (K:AV → Heap → Z):Z:=match args with | []=>(bnd z (F ) fun r=>K (.dat r) h) | _=>z
def e31 (f:Nat) (F:Option (D)):Ent1:=([f],fun l h K=>pk31 False F (l.map sealV) h K,fun l h=>pk31 none F (l.map sealV) h fun v h=>some (v,h))
def enc31 (r:D):AV × Heap:=((.dat r),[])
theorem e31_ok {f:Nat} {F:Option (D)} (hF:∀ (r:D),F = some r → CallX Tryz.prog [] f [] [] (enc31 r).1 (enc31 r).2):EntryOk Tryz.prog (e31 f F):=by
  refine ⟨fun args h K=>?_,fun args h v h' hs=>call1_seal ?_⟩
  · show Par K (pk31 False F (args.map sealV) h K) (pk31 none F (args.map sealV) h fun v h=>some (v,h))
    unfold pk31
    split
    · repeat' first | exact par_leaf | exact par_no | apply par_cnd | (refine par_bnd fun _=>?_) | (refine par_cast fun _=>?_) | (refine par_ptr fun _ _=>?_)
    · exact par_no
  · change pk31 none F (args.map sealV) h (fun v h=>some (v,h)) = some (v,h') at hs
    generalize args.map sealV = l at hs ⊢
    unfold pk31 at hs
    split at hs
    · replace hs:=bnd_inv hs
      obtain ⟨r,hr,hs⟩:=hs
      cases hs
      exact (hF _ hr).plain.frame0 rfl rfl
    · cases hs
theorem enc31_inj:∀ a b,enc31 a = enc31 b → a = b:=by
  rintro _ _ e <;> simp_all [enc31]
def pk32 {Z:Type} (z:Z) (F:Int → Option (Bool)) (args:List AV) (h:Heap) (K:AV → Heap → Z):Z:=match args with | [.dat (.int .u8 a0)]=>(bnd z (F a0) fun r=>K (.dat (.bool r)) h) | _=>z
def e32 (f:Nat) (F:Int → Option (Bool)):Ent1:=([f],fun l h K=>pk32 False F (l.map sealV) h K,fun l h=>pk32 none F (l.map sealV) h fun v h=>some (v,h))
def enc32 (r:Bool):AV × Heap:=((.dat (.bool r)),[])
theorem e32_ok {f:Nat} {F:Int → Option (Bool)} (hF:∀ (a0:Int) (r:Bool),F a0 = some r → CallX Tryz.prog [] f [.dat (.int .u8 a0)] [] (enc32 r).1 (enc32 r).2):EntryOk Tryz.prog (e32 f F):=by
  refine ⟨fun args h K=>?_,fun args h v h' hs=>call1_seal ?_⟩
  · show Par K (pk32 False F (args.map sealV) h K) (pk32 none F (args.map sealV) h fun v h=>some (v,h))
    unfold pk32
    split
    · repeat' first | exact par_leaf | exact par_no | apply par_cnd | (refine par_bnd fun _=>?_) | (refine par_cast fun _=>?_) | (refine par_ptr fun _ _=>?_)
    · exact par_no
  · change pk32 none F (args.map sealV) h (fun v h=>some (v,h)) = some (v,h') at hs
    generalize args.map sealV = l at hs ⊢
    unfold pk32 at hs
    split at hs
    · replace hs:=bnd_inv hs
      obtain ⟨r,hr,hs⟩:=hs
      cases hs
      exact (hF _ _ hr).plain.frame0 rfl rfl
    · cases hs
theorem enc32_inj:∀ a b,enc32 a = enc32 b → a = b:=by
  rintro _ _ e <;> simp_all [enc32]
def pk33 {Z:Type} (z:Z) (F:List UInt8 → Int → Option (Int × List UInt8 × Int × Int)) (args:List AV) (h:Heap) (K:AV → Heap → Z):Z:=match args with | [.dat (.str a0),.dat (.int .i64 a1)]=>(bnd z (F a0 a1) fun r=>K (.tuple [(.dat (.int .i64 (r.1))),(.dat (.str (r.2.1))),(.dat (.int .i64 (r.2.2.1))),(.dat (.int .i64 (r.2.2.2)))]) h) | _=>z
def e33 (f:Nat) (F:List UInt8 → Int → Option (Int × List UInt8 × Int × Int)):Ent1:=([f],fun l h K=>pk33 False F (l.map sealV) h K,fun l h=>pk33 none F (l.map sealV) h fun v h=>some (v,h))
def enc33 (r:Int × List UInt8 × Int × Int):AV × Heap:=((.tuple [.dat (.int .i64 (r.1)),.dat (.str (r.2.1)),.dat (.int .i64 (r.2.2.1)),.dat (.int .i64 (r.2.2.2))]),[])
theorem e33_ok {f:Nat} {F:List UInt8 → Int → Option (Int × List UInt8 × Int × Int)} (hF:∀ (a0:List UInt8) (a1:Int) (r:Int × List UInt8 × Int × Int),F a0 a1 = some r → CallX Tryz.prog [] f [.dat (.str a0),.dat (.int .i64 a1)] [] (enc33 r).1 (enc33 r).2):EntryOk Tryz.prog (e33 f F):=by
  refine ⟨fun args h K=>?_,fun args h v h' hs=>call1_seal ?_⟩
  · show Par K (pk33 False F (args.map sealV) h K) (pk33 none F (args.map sealV) h fun v h=>some (v,h))
    unfold pk33
    split
    · repeat' first | exact par_leaf | exact par_no | apply par_cnd | (refine par_bnd fun _=>?_) | (refine par_cast fun _=>?_) | (refine par_ptr fun _ _=>?_)
    · exact par_no
  · change pk33 none F (args.map sealV) h (fun v h=>some (v,h)) = some (v,h') at hs
    generalize args.map sealV = l at hs ⊢
    unfold pk33 at hs
    split at hs
    · replace hs:=bnd_inv hs
      obtain ⟨r,hr,hs⟩:=hs
      cases hs
      exact (hF _ _ _ hr).plain.frame0 rfl rfl
    · cases hs
theorem enc33_inj:∀ a b,enc33 a = enc33 b → a = b:=by
  rintro ⟨_,_,_,_⟩ ⟨_,_,_,_⟩ e <;> simp_all [enc33]
def pk34 {Z:Type} (z:Z) (t0:Nat) (F:List UInt8 → Int → Option (D × Int × Int × Int)) (args:List AV) (h:Heap) (K:AV → Heap → Z):Z:=match args with | [.dat (.str a0),.dat (.int .i64 a1)]=>(bnd z (F a0 a1) fun r=>castK z Tryz.prog t0 (r.1) fun w0=>K (.tuple [w0,(.dat (.int .i64 (r.2.1))),(.dat (.int .i64 (r.2.2.1))),(.dat (.int .i64 (r.2.2.2)))]) h) | _=>z
def e34 (f t0:Nat) (F:List UInt8 → Int → Option (D × Int × Int × Int)):Ent1:=([f],fun l h K=>pk34 False t0 F (l.map sealV) h K,fun l h=>pk34 none t0 F (l.map sealV) h fun v h=>some (v,h))
def enc34 (r:D × Int × Int × Int):AV × Heap:=((.tuple [.dat (r.1),.dat (.int .i64 (r.2.1)),.dat (.int .i64 (r.2.2.1)),.dat (.int .i64 (r.2.2.2))]),[])
theorem e34_ok {f t0:Nat} {F:List UInt8 → Int → Option (D × Int × Int × Int)} (hF:∀ (a0:List UInt8) (a1:Int) (r:D × Int × Int × Int),F a0 a1 = some r → CallX Tryz.prog [] f [.dat (.str a0),.dat (.int .i64 a1)] [] (enc34 r).1 (enc34 r).2):EntryOk Tryz.prog (e34 f t0 F):=by
  refine ⟨fun args h K=>?_,fun args h v h' hs=>call1_seal ?_⟩
  · show Par K (pk34 False t0 F (args.map sealV) h K) (pk34 none t0 F (args.map sealV) h fun v h=>some (v,h))
    unfold pk34
    split
    · repeat' first | exact par_leaf | exact par_no | apply par_cnd | (refine par_bnd fun _=>?_) | (refine par_cast fun _=>?_) | (refine par_ptr fun _ _=>?_)
    · exact par_no
  · change pk34 none t0 F (args.map sealV) h (fun v h=>some (v,h)) = some (v,h') at hs
    generalize args.map sealV = l at hs ⊢
    unfold pk34 at hs
    split at hs
    · replace hs:=bnd_inv hs
      obtain ⟨r,hr,hs⟩:=hs
      replace hs:=cast_inv hs
      cases hs
      exact (hF _ _ _ hr).plain.frame0 rfl rfl
    · cases hs
theorem enc34_inj:∀ a b,enc34 a = enc34 b → a = b:=by
  rintro ⟨_,_,_,_⟩ ⟨_,_,_,_⟩ e <;> simp_all [enc34]
def pk35 {Z:Type} (z:Z) (F:List UInt8 → Option (D × Int × Int)) (args:List AV) (h:Heap) (K:AV → Heap → Z):Z:=match args with | [.dat (.str a0)]=>(bnd z (F a0) fun r=>K (.tuple [(.dat (r.1)),(.dat (.int .i64 (r.2.1))),(.dat (.int .i64 (r.2.2)))]) h) | _=>z
def e35 (f:Nat) (F:List UInt8 → Option (D × Int × Int)):Ent1:=([f],fun l h K=>pk35 False F (l.map sealV) h K,fun l h=>pk35 none F (l.map sealV) h fun v h=>some (v,h))
def enc35 (r:D × Int × Int):AV × Heap:=((.tuple [.dat (r.1),.dat (.int .i64 (r.2.1)),.dat (.int .i64 (r.2.2))]),[])
theorem e35_ok {f:Nat} {F:List UInt8 → Option (D × Int × Int)} (hF:∀ (a0:List UInt8) (r:D × Int × Int),F a0 = some r → CallX Tryz.prog [] f [.dat (.str a0)] [] (enc35 r).1 (enc35 r).2):EntryOk Tryz.prog (e35 f F):=by
  refine ⟨fun args h K=>?_,fun args h v h' hs=>call1_seal ?_⟩
  · show Par K (pk35 False F (args.map sealV) h K) (pk35 none F (args.map sealV) h fun v h=>some (v,h))
    unfold pk35
    split
    · repeat' first | exact par_leaf | exact par_no | apply par_cnd | (refine par_bnd fun _=>?_) | (refine par_cast fun _=>?_) | (refine par_ptr fun _ _=>?_)
    · exact par_no
  · change pk35 none F (args.map sealV) h (fun v h=>some (v,h)) = some (v,h') at hs
    generalize args.map sealV = l at hs ⊢
    unfold pk35 at hs
    split at hs
    · replace hs:=bnd_inv hs
      obtain ⟨r,hr,hs⟩:=hs
      cases hs
      exact (hF _ _ hr).plain.frame0 rfl rfl
    · cases hs
theorem enc35_inj:∀ a b,enc35 a = enc35 b → a = b:=by
  rintro ⟨_,_,_⟩ ⟨_,_,_⟩ e <;> simp_all [enc35]
def pk36 {Z:Type} (z:Z) (F:B132 → Option (B132)) (args:List AV) (h:Heap) (K:AV → Heap → Z):Z:=match args with | [.ptr (some (i0,0))]=>(k132 z h i0 fun s0=>bnd z (F s0) fun r=>gcas (r).c2 (K (.tuple []) (h.set i0 (some (.cells 132 [.dat (.str (r).c0),.dat (.int .i64 (r).c1),.dat .nils] (r).ver)))) (z) fun es0 w0=>K (.tuple []) (h.set i0 (some (.cells 132 [.dat (.str (r).c0),.dat (.int .i64 (r).c1),.own (.at i0 2 w0 107) es0] (r).ver)))) | _=>z
def e36 (f:Nat) (F:B132 → Option (B132)):Ent1:=([f],fun l h K=>pk36 False F (l.map sealV) h K,fun l h=>pk36 none F (l.map sealV) h fun v h=>some (v,h))
def enc36 (r:B132):AV × Heap:=((.tuple []),[b132 0 r])
theorem e36_ok {f:Nat} {F:B132 → Option (B132)} (hF:∀ (s0:B132) (r:B132),F s0 = some r → CallX Tryz.prog [true] f [.ptr (some (0,0))] [b132 0 s0] (enc36 r).1 (enc36 r).2):EntryOk Tryz.prog (e36 f F):=by
  refine ⟨fun args h K=>?_,fun args h v h' hs=>call1_seal ?_⟩
  · show Par K (pk36 False F (args.map sealV) h K) (pk36 none F (args.map sealV) h fun v h=>some (v,h))
    unfold pk36
    split
    · repeat' first | exact par_leaf | exact par_no | apply par_cnd | (refine par_bnd fun _=>?_) | (refine par_cast fun _=>?_) | (refine par_ptr fun _ _=>?_) | (refine par_k132 fun _=>?_) | (refine par_gcas ?_ ?_ fun _ _=>?_)
    · exact par_no
  · change pk36 none F (args.map sealV) h (fun v h=>some (v,h)) = some (v,h') at hs
    generalize args.map sealV = l at hs ⊢
    unfold pk36 at hs
    split at hs
    · replace hs:=k132_inv hs
      obtain ⟨s0,hi0,hs⟩:=hs
      replace hs:=bnd_inv hs
      obtain ⟨r,hr,hs⟩:=hs
      obtain ⟨_,_,g0,_⟩:=r
      rcases g0 with _ | _ | ⟨_,_⟩
      all_goals cases hs
      all_goals exact (hF _ _ hr).frame0 (by simp) (is:=[_]) (os:=[_]) (fun a b h1 h2=>by simp only [List.length_cons,List.length_nil] at h2; omega) rfl rfl rfl rfl rfl (all_j (all_s ⟨_,_,_,_,hi0,rfl,rfl,rfl,seenX132 rfl rfl (by simp)⟩ all_z))
    · cases hs
theorem enc36_inj:∀ a b,enc36 a = enc36 b → a = b:=by
  rintro ⟨_,_,g0,_⟩ ⟨_,_,h0,_⟩ e <;> rcases g0 with _ | _ | ⟨_,_⟩ <;> rcases h0 with _ | _ | ⟨_,_⟩ <;> simp_all [enc36,b132,o132,gcas]
def pk37 {Z:Type} (z:Z) (F:B132 → Option (Int × B132)) (args:List AV) (h:Heap) (K:AV → Heap → Z):Z:=match args with | [.ptr (some (i0,0))]=>(k132 z h i0 fun s0=>bnd z (F s0) fun r=>gcas (r.2).c2 (K (.dat (.int .i64 (r.1))) (h.set i0 (some (.cells 132 [.dat (.str (r.2).c0),.dat (.int .i64 (r.2).c1),.dat .nils] (r.2).ver)))) (z) fun es0 w0=>K (.dat (.int .i64 (r.1))) (h.set i0 (some (.cells 132 [.dat (.str (r.2).c0),.dat (.int .i64 (r.2).c1),.own (.at i0 2 w0 107) es0] (r.2).ver)))) | _=>z
def e37 (f:Nat) (F:B132 → Option (Int × B132)):Ent1:=([f],fun l h K=>pk37 False F (l.map sealV) h K,fun l h=>pk37 none F (l.map sealV) h fun v h=>some (v,h))
def enc37 (r:Int × B132):AV × Heap:=((.dat (.int .i64 (r.1))),[b132 0 (r.2)])
theorem e37_ok {f:Nat} {F:B132 → Option (Int × B132)} (hF:∀ (s0:B132) (r:Int × B132),F s0 = some r → CallX Tryz.prog [true] f [.ptr (some (0,0))] [b132 0 s0] (enc37 r).1 (enc37 r).2):EntryOk Tryz.prog (e37 f F):=by
  refine ⟨fun args h K=>?_,fun args h v h' hs=>call1_seal ?_⟩
  · show Par K (pk37 False F (args.map sealV) h K) (pk37 none F (args.map sealV) h fun v h=>some (v,h))
    unfold pk37
    split
    · repeat' first | exact par_leaf | exact par_no | apply par_cnd | (refine par_bnd fun _=>?_) | (refine par_cast fun _=>?_) | (refine par_ptr fun _ _=>?_) | (refine par_k132 fun _=>?_) | (refine par_gcas ?_ ?_ fun _ _=>?_)
    · exact par_no
  · change pk37 none F (args.map sealV) h (fun v h=>some (v,h)) = some (v,h') at hs
    generalize args.map sealV = l at hs ⊢
    unfold pk37 at hs
    split at hs
    · replace hs:=k132_inv hs
      obtain ⟨s0,hi0,hs⟩:=hs
      replace hs:=bnd_inv hs
      obtain ⟨r,hr,hs⟩:=hs
      obtain ⟨_,⟨_,_,g0,_⟩⟩:=r
      rcases g0 with _ | _ | ⟨_,_⟩
      all_goals cases hs
      all_goals exact (hF _ _ hr).frame0 (by simp) (is:=[_]) (os:=[_]) (fun a b h1 h2=>by simp only [List.length_cons,List.length_nil] at h2; omega) rfl rfl rfl rfl rfl (all_j (all_s ⟨_,_,_,_,hi0,rfl,rfl,rfl,seenX132 rfl rfl (by simp)⟩ all_z))
    · cases hs
theorem enc37_inj:∀ a b,enc37 a = enc37 b → a = b:=by
  rintro ⟨_,⟨_,_,g0,_⟩⟩ ⟨_,⟨_,_,h0,_⟩⟩ e <;> rcases g0 with _ | _ | ⟨_,_⟩ <;> rcases h0 with _ | _ | ⟨_,_⟩ <;> simp_all [enc37,b132,o132,gcas]
def pk38 {Z:Type} (z:Z) (t0:Nat) (F:B132 → D → Option (Int × B132)) (args:List AV) (h:Heap) (K:AV → Heap → Z):Z:=match args with | [.ptr (some (i0,0)),.dat a1]=>(k132 z h i0 fun s0=>cnd (okG t0 a1) (bnd z (F s0 a1) fun r=>gcas (r.2).c2 (K (.dat (.int .i64 (r.1))) (h.set i0 (some (.cells 132 [.dat (.str (r.2).c0),.dat (.int .i64 (r.2).c1),.dat .nils] (r.2).ver)))) (z) fun es0 w0=>K (.dat (.int .i64 (r.1))) (h.set i0 (some (.cells 132 [.dat (.str (r.2).c0),.dat (.int .i64 (r.2).c1),.own (.at i0 2 w0 107) es0] (r.2).ver)))) z) | _=>z
def e38 (f t0:Nat) (F:B132 → D → Option (Int × B132)):Ent1:=([f],fun l h K=>pk38 False t0 F (l.map sealV) h K,fun l h=>pk38 none t0 F (l.map sealV) h fun v h=>some (v,h))
def enc38 (r:Int × B132):AV × Heap:=((.dat (.int .i64 (r.1))),[b132 0 (r.2)])
theorem e38_ok {f t0:Nat} {F:B132 → D → Option (Int × B132)} (hF:∀ (s0:B132) (a1:D) (r:Int × B132),F s0 a1 = some r → CallX Tryz.prog [true] f [.ptr (some (0,0)),.dat (G t0 a1)] [b132 0 s0] (enc38 r).1 (enc38 r).2):EntryOk Tryz.prog (e38 f t0 F):=by
  refine ⟨fun args h K=>?_,fun args h v h' hs=>call1_seal ?_⟩
  · show Par K (pk38 False t0 F (args.map sealV) h K) (pk38 none t0 F (args.map sealV) h fun v h=>some (v,h))
    unfold pk38
    split
    · repeat' first | exact par_leaf | exact par_no | apply par_cnd | (refine par_bnd fun _=>?_) | (refine par_cast fun _=>?_) | (refine par_ptr fun _ _=>?_) | (refine par_k132 fun _=>?_) | (refine par_gcas ?_ ?_ fun _ _=>?_)
    · exact par_no
  · change pk38 none t0 F (args.map sealV) h (fun v h=>some (v,h)) = some (v,h') at hs
    generalize args.map sealV = l at hs ⊢
    unfold pk38 at hs
    split at hs
    · replace hs:=k132_inv hs
      obtain ⟨s0,hi0,hs⟩:=hs
      replace hs:=cnd_inv hs
      obtain ⟨ho1,hs⟩:=hs
      replace hs:=bnd_inv hs
      obtain ⟨r,hr,hs⟩:=hs
      obtain ⟨_,⟨_,_,g0,_⟩⟩:=r
      rcases g0 with _ | _ | ⟨_,_⟩
      all_goals cases hs
      all_goals rw [ok_eq ho1]
      all_goals exact (hF _ _ _ hr).frame0 (by simp) (is:=[_]) (os:=[_]) (fun a b h1 h2=>by simp only [List.length_cons,List.length_nil] at h2; omega) rfl rfl rfl rfl rfl (all_j (all_s ⟨_,_,_,_,hi0,rfl,rfl,rfl,seenX132 rfl rfl (by simp)⟩ all_z))
    · cases hs
theorem enc38_inj:∀ a b,enc38 a = enc38 b → a = b:=by
  rintro ⟨_,⟨_,_,g0,_⟩⟩ ⟨_,⟨_,_,h0,_⟩⟩ e <;> rcases g0 with _ | _ | ⟨_,_⟩ <;> rcases h0 with _ | _ | ⟨_,_⟩ <;> simp_all [enc38,b132,o132,gcas]
def pk39 {Z:Type} (z:Z) (F:B132 → Int → Option (Int × B132)) (args:List AV) (h:Heap) (K:AV → Heap → Z):Z:=match args with | [.ptr (some (i0,0)),.dat (.int .i64 a1)]=>(k132 z h i0 fun s0=>bnd z (F s0 a1) fun r=>gcas (r.2).c2 (K (.dat (.int .i64 (r.1))) (h.set i0 (some (.cells 132 [.dat (.str (r.2).c0),.dat (.int .i64 (r.2).c1),.dat .nils] (r.2).ver)))) (z) fun es0 w0=>K (.dat (.int .i64 (r.1))) (h.set i0 (some (.cells 132 [.dat (.str (r.2).c0),.dat (.int .i64 (r.2).c1),.own (.at i0 2 w0 107) es0] (r.2).ver)))) | _=>z
def e39 (f:Nat) (F:B132 → Int → Option (Int × B132)):Ent1:=([f],fun l h K=>pk39 False F (l.map sealV) h K,fun l h=>pk39 none F (l.map sealV) h fun v h=>some (v,h))
def enc39 (r:Int × B132):AV × Heap:=((.dat (.int .i64 (r.1))),[b132 0 (r.2)])
theorem e39_ok {f:Nat} {F:B132 → Int → Option (Int × B132)} (hF:∀ (s0:B132) (a1:Int) (r:Int × B132),F s0 a1 = some r → CallX Tryz.prog [true] f [.ptr (some (0,0)),.dat (.int .i64 a1)] [b132 0 s0] (enc39 r).1 (enc39 r).2):EntryOk Tryz.prog (e39 f F):=by
  refine ⟨fun args h K=>?_,fun args h v h' hs=>call1_seal ?_⟩
  · show Par K (pk39 False F (args.map sealV) h K) (pk39 none F (args.map sealV) h fun v h=>some (v,h))
    unfold pk39
    split
    · repeat' first | exact par_leaf | exact par_no | apply par_cnd | (refine par_bnd fun _=>?_) | (refine par_cast fun _=>?_) | (refine par_ptr fun _ _=>?_) | (refine par_k132 fun _=>?_) | (refine par_gcas ?_ ?_ fun _ _=>?_)
    · exact par_no
  · change pk39 none F (args.map sealV) h (fun v h=>some (v,h)) = some (v,h') at hs
    generalize args.map sealV = l at hs ⊢
    unfold pk39 at hs
    split at hs
    · replace hs:=k132_inv hs
      obtain ⟨s0,hi0,hs⟩:=hs
      replace hs:=bnd_inv hs
      obtain ⟨r,hr,hs⟩:=hs
      obtain ⟨_,⟨_,_,g0,_⟩⟩:=r
      rcases g0 with _ | _ | ⟨_,_⟩
      all_goals cases hs
      all_goals exact (hF _ _ _ hr).frame0 (by simp) (is:=[_]) (os:=[_]) (fun a b h1 h2=>by simp only [List.length_cons,List.length_nil] at h2; omega) rfl rfl rfl rfl rfl (all_j (all_s ⟨_,_,_,_,hi0,rfl,rfl,rfl,seenX132 rfl rfl (by simp)⟩ all_z))
    · cases hs
theorem enc39_inj:∀ a b,enc39 a = enc39 b → a = b:=by
  rintro ⟨_,⟨_,_,g0,_⟩⟩ ⟨_,⟨_,_,h0,_⟩⟩ e <;> rcases g0 with _ | _ | ⟨_,_⟩ <;> rcases h0 with _ | _ | ⟨_,_⟩ <;> simp_all [enc39,b132,o132,gcas]
def pk40 {Z:Type} (z:Z) (k0:Nat) (F:B132 → Option (List UInt8 × B132)) (args:List AV) (h:Heap) (K:AV → Heap → Z):Z:=match args with | [.ptr (some (i0,0)),.func (.func g1) [] []]=>(cnd (Nat.beq g1 k0) (k132 z h i0 fun s0=>bnd z (F s0) fun r=>gcas (r.2).c2 (K (.dat (.str (r.1))) (h.set i0 (some (.cells 132 [.dat (.str (r.2).c0),.dat (.int .i64 (r.2).c1),.dat .nils] (r.2).ver)))) (z) fun es0 w0=>K (.dat (.str (r.1))) (h.set i0 (some (.cells 132 [.dat (.str (r.2).c0),.dat (.int .i64 (r.2).c1),.own (.at i0 2 w0 107) es0] (r.2).ver)))) z) | _=>z
def e40 (f k0:Nat) (F:B132 → Option (List UInt8 × B132)):Ent1:=([f,k0],fun l h K=>pk40 False k0 F (l.map sealV) h K,fun l h=>pk40 none k0 F (l.map sealV) h fun v h=>some (v,h))
def enc40 (r:List UInt8 × B132):AV × Heap:=((.dat (.str (r.1))),[b132 0 (r.2)])
theorem e40_ok {f k0:Nat} {F:B132 → Option (List UInt8 × B132)} (hF:∀ (s0:B132) (r:List UInt8 × B132),F s0 = some r → CallX Tryz.prog [true] f [.ptr (some (0,0)),.func (.func k0) [] []] [b132 0 s0] (enc40 r).1 (enc40 r).2):EntryOk Tryz.prog (e40 f k0 F):=by
  refine ⟨fun args h K=>?_,fun args h v h' hs=>call1_seal ?_⟩
  · show Par K (pk40 False k0 F (args.map sealV) h K) (pk40 none k0 F (args.map sealV) h fun v h=>some (v,h))
    unfold pk40
    split
    · repeat' first | exact par_leaf | exact par_no | apply par_cnd | (refine par_bnd fun _=>?_) | (refine par_cast fun _=>?_) | (refine par_ptr fun _ _=>?_) | (refine par_k132 fun _=>?_) | (refine par_gcas ?_ ?_ fun _ _=>?_)
    · exact par_no
  · change pk40 none k0 F (args.map sealV) h (fun v h=>some (v,h)) = some (v,h') at hs
    generalize args.map sealV = l at hs ⊢
    unfold pk40 at hs
    split at hs
    · replace hs:=beq_inv hs
      obtain ⟨eg,hs⟩:=hs
      try subst eg
      replace hs:=k132_inv hs
      obtain ⟨s0,hi0,hs⟩:=hs
      replace hs:=bnd_inv hs
      obtain ⟨r,hr,hs⟩:=hs
      obtain ⟨_,⟨_,_,g0,_⟩⟩:=r
      rcases g0 with _ | _ | ⟨_,_⟩
      all_goals cases hs
      all_goals exact (hF _ _ hr).frame0 (by simp) (is:=[_]) (os:=[_]) (fun a b h1 h2=>by simp only [List.length_cons,List.length_nil] at h2; omega) rfl rfl rfl rfl rfl (all_j (all_s ⟨_,_,_,_,hi0,rfl,rfl,rfl,seenX132 rfl rfl (by simp)⟩ all_z))
    · cases hs
theorem enc40_inj:∀ a b,enc40 a = enc40 b → a = b:=by
  rintro ⟨_,⟨_,_,g0,_⟩⟩ ⟨_,⟨_,_,h0,_⟩⟩ e <;> rcases g0 with _ | _ | ⟨_,_⟩ <;> rcases h0 with _ | _ | ⟨_,_⟩ <;> simp_all [enc40,b132,o132,gcas]
def pk41 {Z:Type} (z:Z) (F:List UInt8 → List UInt8 → Option (Bool)) (args:List AV) (h:Heap) (K:AV → Heap → Z):Z:=match args with | [.dat (.str a0),.dat (.str a1)]=>(bnd z (F a0 a1) fun r=>K (.dat (.bool r)) h) | _=>z
def e41 (f:Nat) (F:List UInt8 → List UInt8 → Option (Bool)):Ent1:=([f],fun l h K=>pk41 False F (l.map sealV) h K,fun l h=>pk41 none F (l.map sealV) h fun v h=>some (v,h))
def enc41 (r:Bool):AV × Heap:=((.dat (.bool r)),[])
theorem e41_ok {f:Nat} {F:List UInt8 → List UInt8 → Option (Bool)} (hF:∀ (a0:List UInt8) (a1:List UInt8) (r:Bool),F a0 a1 = some r → CallX Tryz.prog [] f [.dat (.str a0),.dat (.str a1)] [] (enc41 r).1 (enc41 r).2):EntryOk Tryz.prog (e41 f F):=by
  refine ⟨fun args h K=>?_,fun args h v h' hs=>call1_seal ?_⟩
  · show Par K (pk41 False F (args.map sealV) h K) (pk41 none F (args.map sealV) h fun v h=>some (v,h))
    unfold pk41
    split
    · repeat' first | exact par_leaf | exact par_no | apply par_cnd | (refine par_bnd fun _=>?_) | (refine par_cast fun _=>?_) | (refine par_ptr fun _ _=>?_)
    · exact par_no
  · change pk41 none F (args.map sealV) h (fun v h=>some (v,h)) = some (v,h') at hs
    generalize args.map sealV = l at hs ⊢
    unfold pk41 at hs
    split at hs
    · replace hs:=bnd_inv hs
      obtain ⟨r,hr,hs⟩:=hs
      cases hs
      exact (hF _ _ _ hr).plain.frame0 rfl rfl
    · cases hs
theorem enc41_inj:∀ a b,enc41 a = enc41 b → a = b:=by
  rintro _ _ e <;> simp_all [enc41]
def pk42 {Z:Type} (z:Z) (F:List UInt8 → Int → Option (Int)) (args:List AV) (h:Heap) (K:AV → Heap → Z):Z:=match args with | [.dat (.str a0),.dat (.int .u8 a1)]=>(bnd z (F a0 a1) fun r=>K (.dat (.int .i64 r)) h) | _=>z
def e42 (f:Nat) (F:List UInt8 → Int → Option (Int)):Ent1:=([f],fun l h K=>pk42 False F (l.map sealV) h K,fun l h=>pk42 none F (l.map sealV) h fun v h=>some (v,h))
def enc42 (r:Int):AV × Heap:=((.dat (.int .i64 r)),[])
theorem e42_ok {f:Nat} {F:List UInt8 → Int → Option (Int)} (hF:∀ (a0:List UInt8) (a1:Int) (r:Int),F a0 a1 = some r → CallX Tryz.prog [] f [.dat (.str a0),.dat (.int .u8 a1)] [] (enc42 r).1 (enc42 r).2):EntryOk Tryz.prog (e42 f F):=by
  refine ⟨fun args h K=>?_,fun args h v h' hs=>call1_seal ?_⟩
  · show Par K (pk42 False F (args.map sealV) h K) (pk42 none F (args.map sealV) h fun v h=>some (v,h))
    unfold pk42
    split
    · repeat' first | exact par_leaf | exact par_no | apply par_cnd | (refine par_bnd fun _=>?_) | (refine par_cast fun _=>?_) | (refine par_ptr fun _ _=>?_)
    · exact par_no
  · change pk42 none F (args.map sealV) h (fun v h=>some (v,h)) = some (v,h') at hs
    generalize args.map sealV = l at hs ⊢
    unfold pk42 at hs
    split at hs
    · replace hs:=bnd_inv hs
      obtain ⟨r,hr,hs⟩:=hs
      cases hs
      exact (hF _ _ _ hr).plain.frame0 rfl rfl
    · cases hs
theorem enc42_inj:∀ a b,enc42 a = enc42 b → a = b:=by
  rintro _ _ e <;> simp_all [enc42]
def pk43 {Z:Type} (z:Z) (F:B167 → Option (B167)) (args:List AV) (h:Heap) (K:AV → Heap → Z):Z:=match args with | [.ptr (some (i0,0))]=>(k167 z h i0 fun s0=>bnd z (F s0) fun r=>gcas (r).c1 (z) (K (.tuple []) (h.set i0 (some (.cells 167 [.ptr (some (i0,0)),.dat .nils] (r).ver)))) fun es0 w0=>K (.tuple []) (h.set i0 (some (.cells 167 [.ptr (some (i0,0)),.own (.at i0 1 w0 5) es0] (r).ver)))) | _=>z
def e43 (f:Nat) (F:B167 → Option (B167)):Ent1:=([f],fun l h K=>pk43 False F (l.map sealV) h K,fun l h=>pk43 none F (l.map sealV) h fun v h=>some (v,h))
def enc43 (r:B167):AV × Heap:=((.tuple []),[b167 0 r])
theorem e43_ok {f:Nat} {F:B167 → Option (B167)} (hF:∀ (s0:B167) (r:B167),F s0 = some r → CallX Tryz.prog [true] f [.ptr (some (0,0))] [b167 0 s0] (enc43 r).1 (enc43 r).2):EntryOk Tryz.prog (e43 f F):=by
  refine ⟨fun args h K=>?_,fun args h v h' hs=>call1_seal ?_⟩
  · show Par K (pk43 False F (args.map sealV) h K) (pk43 none F (args.map sealV) h fun v h=>some (v,h))
    unfold pk43
    split
    · repeat' first | exact par_leaf | exact par_no | apply par_cnd | (refine par_bnd fun _=>?_) | (refine par_cast fun _=>?_) | (refine par_ptr fun _ _=>?_) | (refine par_k167 fun _=>?_) | (refine par_gcas ?_ ?_ fun _ _=>?_)
    · exact par_no
  · change pk43 none F (args.map sealV) h (fun v h=>some (v,h)) = some (v,h') at hs
    generalize args.map sealV = l at hs ⊢
    unfold pk43 at hs
    split at hs
    · replace hs:=k167_inv hs
      obtain ⟨s0,hi0,hs⟩:=hs
      replace hs:=bnd_inv hs
      obtain ⟨r,hr,hs⟩:=hs
      obtain ⟨g0,_⟩:=r
      rcases g0 with _ | _ | ⟨_,_⟩
      all_goals cases hs
      all_goals exact (hF _ _ hr).frame0 (by simp) (is:=[_]) (os:=[_]) (fun a b h1 h2=>by simp only [List.length_cons,List.length_nil] at h2; omega) rfl rfl rfl rfl rfl (all_j (all_s ⟨_,_,_,_,hi0,rfl,rfl,rfl,seenX167 rfl rfl (by simp)⟩ all_z))
    · cases hs
theorem enc43_inj:∀ a b,enc43 a = enc43 b → a = b:=by
  rintro ⟨g0,_⟩ ⟨h0,_⟩ e <;> rcases g0 with _ | _ | ⟨_,_⟩ <;> rcases h0 with _ | _ | ⟨_,_⟩ <;> simp_all [enc43,b167,o167,gcas]
def pk44 {Z:Type} (z:Z) (F:B167 → Int → Option (Unit × B167)) (args:List AV) (h:Heap) (K:AV → Heap → Z):Z:=match args with | [.ptr (some (i0,0)),.dat (.int .u8 a1)]=>(k167 z h i0 fun s0=>bnd z (F s0 a1) fun r=>gcas (r.2).c1 (K .nilIface (h.set i0 (some (.cells 167 [.ptr none,.dat .nils] (r.2).ver)))) (K .nilIface (h.set i0 (some (.cells 167 [.ptr (some (i0,0)),.dat .nils] (r.2).ver)))) fun es0 w0=>K .nilIface (h.set i0 (some (.cells 167 [.ptr (some (i0,0)),.own (.at i0 1 w0 5) es0] (r.2).ver)))) | _=>z
def e44 (f:Nat) (F:B167 → Int → Option (Unit × B167)):Ent1:=([f],fun l h K=>pk44 False F (l.map sealV) h K,fun l h=>pk44 none F (l.map sealV) h fun v h=>some (v,h))
def enc44 (r:Unit × B167):AV × Heap:=((.nilIface),[b167 0 (r.2)])
theorem e44_ok {f:Nat} {F:B167 → Int → Option (Unit × B167)} (hF:∀ (s0:B167) (a1:Int) (r:Unit × B167),F s0 a1 = some r → CallX Tryz.prog [true] f [.ptr (some (0,0)),.dat (.int .u8 a1)] [b167 0 s0] (enc44 r).1 (enc44 r).2):EntryOk Tryz.prog (e44 f F):=by
  refine ⟨fun args h K=>?_,fun args h v h' hs=>call1_seal ?_⟩
  · show Par K (pk44 False F (args.map sealV) h K) (pk44 none F (args.map sealV) h fun v h=>some (v,h))
    unfold pk44
    split
    · repeat' first | exact par_leaf | exact par_no | apply par_cnd | (refine par_bnd fun _=>?_) | (refine par_cast fun _=>?_) | (refine par_ptr fun _ _=>?_) | (refine par_k167 fun _=>?_) | (refine par_gcas ?_ ?_ fun _ _=>?_)
    · exact par_no
  · change pk44 none F (args.map sealV) h (fun v h=>some (v,h)) = some (v,h') at hs
    generalize args.map sealV = l at hs ⊢
    unfold pk44 at hs
    split at hs
    · replace hs:=k167_inv hs
      obtain ⟨s0,hi0,hs⟩:=hs
      replace hs:=bnd_inv hs
      obtain ⟨r,hr,hs⟩:=hs
      obtain ⟨_,⟨g0,_⟩⟩:=r
      rcases g0 with _ | _ | ⟨_,_⟩
      all_goals cases hs
      all_goals exact (hF _ _ _ hr).frame0 (by simp) (is:=[_]) (os:=[_]) (fun a b h1 h2=>by simp only [List.length_cons,List.length_nil] at h2; omega) rfl rfl rfl rfl rfl (all_j (all_s ⟨_,_,_,_,hi0,rfl,rfl,rfl,seenX167 rfl rfl (by simp)⟩ all_z))
    · cases hs
theorem enc44_inj:∀ a b,enc44 a = enc44 b → a = b:=by
  rintro ⟨_,⟨g0,_⟩⟩ ⟨_,⟨h0,_⟩⟩ e <;> rcases g0 with _ | _ | ⟨_,_⟩ <;> rcases h0 with _ | _ | ⟨_,_⟩ <;> simp_all [enc44,b167,o167,gcas]
def pk45 {Z:Type} (z:Z) (F:B167 → Option (Int × B167)) (args:List AV) (h:Heap) (K:AV → Heap → Z):Z:=match args with | [.ptr (some (i0,0))]=>(k167 z h i0 fun s0=>bnd z (F s0) fun r=>gcas (r.2).c1 (K (.dat (.int .i64 (r.1))) (h.set i0 (some (.cells 167 [.ptr none,.dat .nils] (r.2).ver)))) (K (.dat (.int .i64 (r.1))) (h.set i0 (some (.cells 167 [.ptr (some (i0,0)),.dat .nils] (r.2).ver)))) fun es0 w0=>K (.dat (.int .i64 (r.1))) (h.set i0 (some (.cells 167 [.ptr (some (i0,0)),.own (.at i0 1 w0 5) es0] (r.2).ver)))) | _=>z
def e45 (f:Nat) (F:B167 → Option (Int × B167)):Ent1:=([f],fun l h K=>pk45 False F (l.map sealV) h K,fun l h=>pk45 none F (l.map sealV) h fun v h=>some (v,h))
def enc45 (r:Int × B167):AV × Heap:=((.dat (.int .i64 (r.1))),[b167 0 (r.2)])
theorem e45_ok {f:Nat} {F:B167 → Option (Int × B167)} (hF:∀ (s0:B167) (r:Int × B167),F s0 = some r → CallX Tryz.prog [true] f [.ptr (some (0,0))] [b167 0 s0] (enc45 r).1 (enc45 r).2):EntryOk Tryz.prog (e45 f F):=by
  refine ⟨fun args h K=>?_,fun args h v h' hs=>call1_seal ?_⟩
  · show Par K (pk45 False F (args.map sealV) h K) (pk45 none F (args.map sealV) h fun v h=>some (v,h))
    unfold pk45
    split
    · repeat' first | exact par_leaf | exact par_no | apply par_cnd | (refine par_bnd fun _=>?_) | (refine par_cast fun _=>?_) | (refine par_ptr fun _ _=>?_) | (refine par_k167 fun _=>?_) | (refine par_gcas ?_ ?_ fun _ _=>?_)
    · exact par_no
  · change pk45 none F (args.map sealV) h (fun v h=>some (v,h)) = some (v,h') at hs
    generalize args.map sealV = l at hs ⊢
    unfold pk45 at hs
    split at hs
    · replace hs:=k167_inv hs
      obtain ⟨s0,hi0,hs⟩:=hs
      replace hs:=bnd_inv hs
      obtain ⟨r,hr,hs⟩:=hs
      obtain ⟨_,⟨g0,_⟩⟩:=r
      rcases g0 with _ | _ | ⟨_,_⟩
      all_goals cases hs
      all_goals exact (hF _ _ hr).frame0 (by simp) (is:=[_]) (os:=[_]) (fun a b h1 h2=>by simp only [List.length_cons,List.length_nil] at h2; omega) rfl rfl rfl rfl rfl (all_j (all_s ⟨_,_,_,_,hi0,rfl,rfl,rfl,seenX167 rfl rfl (by simp)⟩ all_z))
    · cases hs
theorem enc45_inj:∀ a b,enc45 a = enc45 b → a = b:=by
  rintro ⟨_,⟨g0,_⟩⟩ ⟨_,⟨h0,_⟩⟩ e <;> rcases g0 with _ | _ | ⟨_,_⟩ <;> rcases h0 with _ | _ | ⟨_,_⟩ <;> simp_all [enc45,b167,o167,gcas]
def pk46 {Z:Type} (z:Z) (F:B167 → Option (List UInt8 × B167)) (args:List AV) (h:Heap) (K:AV → Heap → Z):Z:=match args with | [.ptr (some (i0,0))]=>(k167 z h i0 fun s0=>bnd z (F s0) fun r=>gcas (r.2).c1 (K (.dat (.str (r.1))) (h.set i0 (some (.cells 167 [.ptr none,.dat .nils] (r.2).ver)))) (K (.dat (.str (r.1))) (h.set i0 (some (.cells 167 [.ptr (some (i0,0)),.dat .nils] (r.2).ver)))) fun es0 w0=>K (.dat (.str (r.1))) (h.set i0 (some (.cells 167 [.ptr (some (i0,0)),.own (.at i0 1 w0 5) es0] (r.2).ver)))) | _=>z
def e46 (f:Nat) (F:B167 → Option (List UInt8 × B167)):Ent1:=([f],fun l h K=>pk46 False F (l.map sealV) h K,fun l h=>pk46 none F (l.map sealV) h fun v h=>some (v,h))
def enc46 (r:List UInt8 × B167):AV × Heap:=((.dat (.str (r.1))),[b167 0 (r.2)])
theorem e46_ok {f:Nat} {F:B167 → Option (List UInt8 × B167)} (hF:∀ (s0:B167) (r:List UInt8 × B167),F s0 = some r → CallX Tryz.prog [true] f [.ptr (some (0,0))] [b167 0 s0] (enc46 r).1 (enc46 r).2):EntryOk Tryz.prog (e46 f F):=by
  refine ⟨fun args h K=>?_,fun args h v h' hs=>call1_seal ?_⟩
  · show Par K (pk46 False F (args.map sealV) h K) (pk46 none F (args.map sealV) h fun v h=>some (v,h))
    unfold pk46
    split
    · repeat' first | exact par_leaf | exact par_no | apply par_cnd | (refine par_bnd fun _=>?_) | (refine par_cast fun _=>?_) | (refine par_ptr fun _ _=>?_) | (refine par_k167 fun _=>?_) | (refine par_gcas ?_ ?_ fun _ _=>?_)
    · exact par_no
  · change pk46 none F (args.map sealV) h (fun v h=>some (v,h)) = some (v,h') at hs
    generalize args.map sealV = l at hs ⊢
    unfold pk46 at hs
    split at hs
    · replace hs:=k167_inv hs
      obtain ⟨s0,hi0,hs⟩:=hs
      replace hs:=bnd_inv hs
      obtain ⟨r,hr,hs⟩:=hs
      obtain ⟨_,⟨g0,_⟩⟩:=r
      rcases g0 with _ | _ | ⟨_,_⟩
      all_goals cases hs
      all_goals exact (hF _ _ hr).frame0 (by simp) (is:=[_]) (os:=[_]) (fun a b h1 h2=>by simp only [List.length_cons,List.length_nil] at h2; omega) rfl rfl rfl rfl rfl (all_j (all_s ⟨_,_,_,_,hi0,rfl,rfl,rfl,seenX167 rfl rfl (by simp)⟩ all_z))
    · cases hs
theorem enc46_inj:∀ a b,enc46 a = enc46 b → a = b:=by
  rintro ⟨_,⟨g0,_⟩⟩ ⟨_,⟨h0,_⟩⟩ e <;> rcases g0 with _ | _ | ⟨_,_⟩ <;> rcases h0 with _ | _ | ⟨_,_⟩ <;> simp_all [enc46,b167,o167,gcas]
def pk47 {Z:Type} (z:Z) (F:Option (Bool)) (args:List AV) (h:Heap) (K:AV → Heap → Z):Z:=match args with | []=>(bnd z (F ) fun r=>K (.dat (.bool r)) h) | _=>z
def e47 (f:Nat) (F:Option (Bool)):Ent1:=([f],fun l h K=>pk47 False F (l.map sealV) h K,fun l h=>pk47 none F (l.map sealV) h fun v h=>some (v,h))
def enc47 (r:Bool):AV × Heap:=((.dat (.bool r)),[])
theorem e47_ok {f:Nat} {F:Option (Bool)} (hF:∀ (r:Bool),F = some r → CallX Tryz.prog [] f [] [] (enc47 r).1 (enc47 r).2):EntryOk Tryz.prog (e47 f F):=by
  refine ⟨fun args h K=>?_,fun args h v h' hs=>call1_seal ?_⟩
  · show Par K (pk47 False F (args.map sealV) h K) (pk47 none F (args.map sealV) h fun v h=>some (v,h))
    unfold pk47
    split
    · repeat' first | exact par_leaf | exact par_no | apply par_cnd | (refine par_bnd fun _=>?_) | (refine par_cast fun _=>?_) | (refine par_ptr fun _ _=>?_)
    · exact par_no
  · change pk47 none F (args.map sealV) h (fun v h=>some (v,h)) = some (v,h') at hs
    generalize args.map sealV = l at hs ⊢
    unfold pk47 at hs
    split at hs
    · replace hs:=bnd_inv hs
      obtain ⟨r,hr,hs⟩:=hs
      cases hs
      exact (hF _ hr).plain.frame0 rfl rfl
    · cases hs
def enAll (S:Fns):List Ent1:=[e0 43 107 S.s_now,e1 44 S.s_fail,e2 82 S.s_sees,e3 83 S.s_next,e4 49 S.s_word,e4 87 S.s_mark,e5 88 S.s_must,e5 71 S.s_need,e6 102 S.s_named,e7 66 S.s_name,e8 70 S.s_number,e6 45 S.s_enter,e3 50 S.s_leave,e9 79 26 26 26 S.s_bin,e10 158 S.s_gathers,e11 46 47 49 26 S.s_left_or,e12 46 48 49 26 S.s_left_and,e12 46 138 87 26 S.s_left_sum,e12 46 148 87 26 S.s_left_prod,e13 80 48 26 S.s_inner_not,e13 80 148 26 S.s_inner_neg,e14 47 26 S.s_expr1,e0 22 26 S.s_expr,e0 48 26 S.s_not,e0 81 26 S.s_compared,e0 116 38 S.s_bracketed,e0 115 26 S.s_sum,e0 138 26 S.s_prod,e0 148 26 S.s_unary,e0 152 26 S.s_prim,e0 155 26 S.s_round,e0 154 26 S.s_cases,e0 156 26 S.s_column,e0 30 38 S.s_query,e0 57 38 S.s_part,e0 90 83 S.s_item,e0 94 85 S.s_key,e0 91 65 S.s_source,e0 122 65 S.s_single,e15 89 90 S.s_list_item,e15 92 22 S.s_list_expr,e15 93 94 S.s_list_key,e15 65 66 S.s_list_name,e16 20 21 26 S.s_readE,e0 21 26 S.s_Expr1,e17 8 26 S.S_Expr,e16 28 29 38 S.s_readQ,e0 29 38 S.s_Query1,e17 11 38 S.S_Query,e18 56 S.p_bad,e19 59 S.p_is,e19 54 S.p_take,e20 60 S.p_must,e21 52 S.p_down,e22 73 S.p_name,e23 75 S.p_int,e24 96 S.p_exprs,e25 24 26 S.p_Expr,e25 53 26 S.p_and,e25 86 26 S.p_not,e26 140 S.p_oneOf,e25 121 26 S.p_cmp,e25 139 26 S.p_sum,e25 149 26 S.p_prod,e25 153 26 S.p_unary,e25 157 26 S.p_prim,e25 31 38 S.p_Query,e25 58 38 S.p_part,e25 95 65 S.p_src,e25 123 65 S.p_one,e27 25 S.p_End,e24 72 S.p_names,e23 106 S.p_ty,e9 55 26 26 26 S.r_bin,e28 23 S.r_New,e17 9 26 S.r_Expr,e17 12 38 S.r_Query,e29 10 26 26 S.r_SameExpr,e30 26 S.r_SameExprs,e29 13 38 38 S.r_SameQuery,e30 27 S.r_SameQueries,e30 32 S.r_SameFroms,e30 36 S.r_SameTexts,e10 128 S.t_Word,e10 105 S.k_Word,e31 129 S.k_Words,e32 84 S.k_blank,e32 117 S.k_letter,e32 118 S.k_digit,e33 119 S.k_text,e31 120 S.k_Marks,e34 85 107 S.k_one,e35 51 S.k_Scan,e32 109 S.t_letter,e32 111 S.t_digit,e36 76 S.t_pass,e37 77 S.t_next,e38 78 107 S.t_put,e37 110 S.t_name,e37 112 S.t_number,e37 113 S.t_text,e37 114 S.t_mark,e39 134 S.t_form,e40 132 133 S.t_run_name,e40 132 111 S.t_run_digit,e32 133 S.t_name1,e35 42 S.t_Scan,e41 108 S.g_HasPrefix,e42 107 S.g_IndexByte,e41 131 S.g_sHasPrefix,e42 130 S.g_sIndexByte,e42 146 S.g_IBS,e43 147 S.b_copyCheck,e44 135 S.b_WriteByte,e45 136 S.b_Len,e46 137 S.b_String,ent_g_NoEscape,e47 7 S.c_alive,e10 3 S.c_Exprs,e10 4 S.c_Queries]
def FnsOk (S:Fns):Prop:=∀ x ∈ enAll S,EntryOk Tryz.prog x
end
end Go.Proofs.YtfdcjngclelnhaaGreat
