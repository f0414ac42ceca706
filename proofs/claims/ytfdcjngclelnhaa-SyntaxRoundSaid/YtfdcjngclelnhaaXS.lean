/- Part of a proof. -/
import Derived.Test.YtfdcjngclelnhaaKT
set_option linter.unusedSectionVars false
set_option linter.unusedSimpArgs false
set_option linter.unusedVariables false
namespace Go.Proofs.Ytfdcjngclelnhaa
open Go Go.RowKit
set_option maxRecDepth 100000
set_option maxHeartbeats 4000000
noncomputable section
def ent_g_NoEscape:Ent1:=([101],fun args h K=>match args with | [x]=>K x h | _=>False,primSame)
theorem entOk_g_NoEscape:EntryOk Try.prog ent_g_NoEscape:=by
  refine ⟨fun args h K hk=>?_,primSame_ok Try.func101 rfl rfl (by kernel_rfl) (by kernel_rfl)⟩
  unfold ent_g_NoEscape at hk
  dsimp only at hk
  split at hk
  · exact ⟨_,_,rfl,hk⟩
  · exact hk.elim
structure Fns where
  s_now:B82 → Option (D × B82)
  s_fail:B82 → Int → Option (B82)
  s_sees:B82 → Int → List UInt8 → Option (Bool × B82)
  s_next:B82 → Option (B82)
  s_word:B82 → List UInt8 → Option (Bool × B82)
  s_mark:B82 → List UInt8 → Option (Bool × B82)
  s_must:B82 → List UInt8 → Option (B82)
  s_need:B82 → List UInt8 → Option (B82)
  s_named:B82 → Option (Bool × B82)
  s_name:B82 → Option (List UInt8 × B82)
  s_number:B82 → Option (Int × B82)
  s_enter:B82 → Option (Bool × B82)
  s_leave:B82 → Option (B82)
  s_bin:List UInt8 → D → D → Option (D)
  s_gathers:List UInt8 → Option (Bool)
  s_left_or:B82 → D → Option (D × B82)
  s_left_and:B82 → D → Option (D × B82)
  s_left_sum:B82 → D → Option (D × B82)
  s_left_prod:B82 → D → Option (D × B82)
  s_inner_not:B82 → Int → Option (D × B82)
  s_inner_neg:B82 → Int → Option (D × B82)
  s_expr1:B82 → Option (D × B82)
  s_expr:B82 → Option (D × B82)
  s_not:B82 → Option (D × B82)
  s_compared:B82 → Option (D × B82)
  s_bracketed:B82 → Option (D × B82)
  s_sum:B82 → Option (D × B82)
  s_prod:B82 → Option (D × B82)
  s_unary:B82 → Option (D × B82)
  s_prim:B82 → Option (D × B82)
  s_round:B82 → Option (D × B82)
  s_cases:B82 → Option (D × B82)
  s_column:B82 → Option (D × B82)
  s_query:B82 → Option (D × B82)
  s_part:B82 → Option (D × B82)
  s_item:B82 → Option (D × B82)
  s_key:B82 → Option (D × B82)
  s_source:B82 → Option (D × B82)
  s_single:B82 → Option (D × B82)
  s_list_item:B82 → Option (D × B82)
  s_list_expr:B82 → Option (D × B82)
  s_list_key:B82 → Option (D × B82)
  s_list_name:B82 → Option (D × B82)
  s_readE:List UInt8 → Int → Option (D × Int × Int)
  s_Expr1:B82 → Option (D × B82)
  S_Expr:List UInt8 → Option (D × Int × Int)
  s_readQ:List UInt8 → Int → Option (D × Int × Int)
  s_Query1:B82 → Option (D × B82)
  S_Query:List UInt8 → Option (D × Int × Int)
  r_SameExpr:D → D → Option (Bool)
  r_SameExprs:D → D → Option (Bool)
  r_SameQuery:D → D → Option (Bool)
  r_SameQueries:D → D → Option (Bool)
  r_SameFroms:D → D → Option (Bool)
  t_Word:List UInt8 → Option (Bool)
  t_letter:Int → Option (Bool)
  t_digit:Int → Option (Bool)
  t_pass:B47 → Option (B47)
  t_next:B47 → Option (Int × B47)
  t_put:B47 → D → Option (Int × B47)
  t_name:B47 → Option (Int × B47)
  t_number:B47 → Option (Int × B47)
  t_text:B47 → Option (Int × B47)
  t_mark:B47 → Option (Int × B47)
  t_form:B47 → Int → Option (Int × B47)
  t_run_name:B47 → Option (List UInt8 × B47)
  t_run_digit:B47 → Option (List UInt8 × B47)
  t_name1:Int → Option (Bool)
  t_Scan:List UInt8 → Option (D × Int × Int)
  g_HasPrefix:List UInt8 → List UInt8 → Option (Bool)
  g_IndexByte:List UInt8 → Int → Option (Int)
  g_sHasPrefix:List UInt8 → List UInt8 → Option (Bool)
  g_sIndexByte:List UInt8 → Int → Option (Int)
  g_IBS:List UInt8 → Int → Option (Int)
  b_copyCheck:B92 → Option (B92)
  b_WriteByte:B92 → Int → Option (Unit × B92)
  b_Len:B92 → Option (Int × B92)
  b_String:B92 → Option (List UInt8 × B92)
  c_alive:Option (Bool)
  c_Round:List UInt8 → Option (Bool)
def pk0 {Z:Type} (z:Z) (t0:Nat) (F:B82 → Option (D × B82)) (args:List AV) (h:Heap) (K:AV → Heap → Z):Z:=match args with | [.ptr (some (i0,0))]=>(k82 z h i0 fun s0 v0=>bnd z (F s0) fun r=>castK z Try.prog t0 (r.1) fun w0=>K w0 (h.set i0 (b82 (r.2) v0))) | _=>z
def e0 (f t0:Nat) (F:B82 → Option (D × B82)):Ent1:=([f],fun l h K=>pk0 False t0 F (l.map sealV) h K,fun l h=>pk0 none t0 F (l.map sealV) h fun v h=>some (v,h))
def enc0 (r:D × B82):AV × Heap:=((.dat (r.1)),[b82 (r.2) 0])
theorem e0_ok {f t0:Nat} {F:B82 → Option (D × B82)} (hF:∀ (s0:B82) (r:D × B82),F s0 = some r → CallX Try.prog [] f [.ptr (some (0,0))] [b82 s0 0] (enc0 r).1 (enc0 r).2):EntryOk Try.prog (e0 f t0 F):=by
  refine ⟨fun args h K=>?_,fun args h v h' hs=>call1_seal ?_⟩
  · show Par K (pk0 False t0 F (args.map sealV) h K) (pk0 none t0 F (args.map sealV) h fun v h=>some (v,h))
    unfold pk0
    split
    · repeat' first | exact par_leaf | exact par_no | apply par_cnd | (refine par_bnd fun _=>?_) | (refine par_cast fun _=>?_) | (refine par_ptr fun _ _=>?_) | (refine par_k82 fun _ _=>?_)
    · exact par_no
  · change pk0 none t0 F (args.map sealV) h (fun v h=>some (v,h)) = some (v,h') at hs
    generalize args.map sealV = l at hs ⊢
    unfold pk0 at hs
    split at hs
    · replace hs:=k82_inv hs
      obtain ⟨s0,v0,cs0,hi0,hb0,hs⟩:=hs
      replace hs:=bnd_inv hs
      obtain ⟨r,hr,hs⟩:=hs
      replace hs:=cast_inv hs
      cases hs
      exact (hF _ _ hr).plain.frame (is:=[_]) (os:=[b82 (r.2) v0]) nd1 rfl rfl rfl rfl rfl (all_j (all_s ⟨_,_,_,_,hi0,rfl,rfl,rfl,seen82 hb0⟩ all_z))
    · cases hs
theorem enc0_inj:∀ a b,enc0 a = enc0 b → a = b:=by
  rintro ⟨_,⟨_,_,_,_,_⟩⟩ ⟨_,⟨_,_,_,_,_⟩⟩ e <;> simp_all [enc0,b82,o82]
def pk1 {Z:Type} (z:Z) (F:B82 → Int → Option (B82)) (args:List AV) (h:Heap) (K:AV → Heap → Z):Z:=match args with | [.ptr (some (i0,0)),.dat (.int .i64 a1)]=>(k82 z h i0 fun s0 v0=>bnd z (F s0 a1) fun r=>K (.tuple []) (h.set i0 (b82 r v0))) | _=>z
def e1 (f:Nat) (F:B82 → Int → Option (B82)):Ent1:=([f],fun l h K=>pk1 False F (l.map sealV) h K,fun l h=>pk1 none F (l.map sealV) h fun v h=>some (v,h))
def enc1 (r:B82):AV × Heap:=((.tuple []),[b82 r 0])
theorem e1_ok {f:Nat} {F:B82 → Int → Option (B82)} (hF:∀ (s0:B82) (a1:Int) (r:B82),F s0 a1 = some r → CallX Try.prog [] f [.ptr (some (0,0)),.dat (.int .i64 a1)] [b82 s0 0] (enc1 r).1 (enc1 r).2):EntryOk Try.prog (e1 f F):=by
  refine ⟨fun args h K=>?_,fun args h v h' hs=>call1_seal ?_⟩
  · show Par K (pk1 False F (args.map sealV) h K) (pk1 none F (args.map sealV) h fun v h=>some (v,h))
    unfold pk1
    split
    · repeat' first | exact par_leaf | exact par_no | apply par_cnd | (refine par_bnd fun _=>?_) | (refine par_cast fun _=>?_) | (refine par_ptr fun _ _=>?_) | (refine par_k82 fun _ _=>?_)
    · exact par_no
  · change pk1 none F (args.map sealV) h (fun v h=>some (v,h)) = some (v,h') at hs
    generalize args.map sealV = l at hs ⊢
    unfold pk1 at hs
    split at hs
    · replace hs:=k82_inv hs
      obtain ⟨s0,v0,cs0,hi0,hb0,hs⟩:=hs
      replace hs:=bnd_inv hs
      obtain ⟨r,hr,hs⟩:=hs
      cases hs
      exact (hF _ _ _ hr).plain.frame (is:=[_]) (os:=[b82 r v0]) nd1 rfl rfl rfl rfl rfl (all_j (all_s ⟨_,_,_,_,hi0,rfl,rfl,rfl,seen82 hb0⟩ all_z))
    · cases hs
theorem enc1_inj:∀ a b,enc1 a = enc1 b → a = b:=by
  rintro ⟨_,_,_,_,_⟩ ⟨_,_,_,_,_⟩ e <;> simp_all [enc1,b82,o82]
def pk2 {Z:Type} (z:Z) (F:B82 → Int → List UInt8 → Option (Bool × B82)) (args:List AV) (h:Heap) (K:AV → Heap → Z):Z:=match args with | [.ptr (some (i0,0)),.dat (.int .i64 a1),.dat (.str a2)]=>(k82 z h i0 fun s0 v0=>bnd z (F s0 a1 a2) fun r=>K (.dat (.bool (r.1))) (h.set i0 (b82 (r.2) v0))) | _=>z
def e2 (f:Nat) (F:B82 → Int → List UInt8 → Option (Bool × B82)):Ent1:=([f],fun l h K=>pk2 False F (l.map sealV) h K,fun l h=>pk2 none F (l.map sealV) h fun v h=>some (v,h))
def enc2 (r:Bool × B82):AV × Heap:=((.dat (.bool (r.1))),[b82 (r.2) 0])
theorem e2_ok {f:Nat} {F:B82 → Int → List UInt8 → Option (Bool × B82)} (hF:∀ (s0:B82) (a1:Int) (a2:List UInt8) (r:Bool × B82),F s0 a1 a2 = some r → CallX Try.prog [] f [.ptr (some (0,0)),.dat (.int .i64 a1),.dat (.str a2)] [b82 s0 0] (enc2 r).1 (enc2 r).2):EntryOk Try.prog (e2 f F):=by
  refine ⟨fun args h K=>?_,fun args h v h' hs=>call1_seal ?_⟩
  · show Par K (pk2 False F (args.map sealV) h K) (pk2 none F (args.map sealV) h fun v h=>some (v,h))
    unfold pk2
    split
    · repeat' first | exact par_leaf | exact par_no | apply par_cnd | (refine par_bnd fun _=>?_) | (refine par_cast fun _=>?_) | (refine par_ptr fun _ _=>?_) | (refine par_k82 fun _ _=>?_)
    · exact par_no
  · change pk2 none F (args.map sealV) h (fun v h=>some (v,h)) = some (v,h') at hs
    generalize args.map sealV = l at hs ⊢
    unfold pk2 at hs
    split at hs
    · replace hs:=k82_inv hs
      obtain ⟨s0,v0,cs0,hi0,hb0,hs⟩:=hs
      replace hs:=bnd_inv hs
      obtain ⟨r,hr,hs⟩:=hs
      cases hs
      exact (hF _ _ _ _ hr).plain.frame (is:=[_]) (os:=[b82 (r.2) v0]) nd1 rfl rfl rfl rfl rfl (all_j (all_s ⟨_,_,_,_,hi0,rfl,rfl,rfl,seen82 hb0⟩ all_z))
    · cases hs
theorem enc2_inj:∀ a b,enc2 a = enc2 b → a = b:=by
  rintro ⟨_,⟨_,_,_,_,_⟩⟩ ⟨_,⟨_,_,_,_,_⟩⟩ e <;> simp_all [enc2,b82,o82]
def pk3 {Z:Type} (z:Z) (F:B82 → Option (B82)) (args:List AV) (h:Heap) (K:AV → Heap → Z):Z:=match args with | [.ptr (some (i0,0))]=>(k82 z h i0 fun s0 v0=>bnd z (F s0) fun r=>K (.tuple []) (h.set i0 (b82 r v0))) | _=>z
def e3 (f:Nat) (F:B82 → Option (B82)):Ent1:=([f],fun l h K=>pk3 False F (l.map sealV) h K,fun l h=>pk3 none F (l.map sealV) h fun v h=>some (v,h))
def enc3 (r:B82):AV × Heap:=((.tuple []),[b82 r 0])
theorem e3_ok {f:Nat} {F:B82 → Option (B82)} (hF:∀ (s0:B82) (r:B82),F s0 = some r → CallX Try.prog [] f [.ptr (some (0,0))] [b82 s0 0] (enc3 r).1 (enc3 r).2):EntryOk Try.prog (e3 f F):=by
  refine ⟨fun args h K=>?_,fun args h v h' hs=>call1_seal ?_⟩
  · show Par K (pk3 False F (args.map sealV) h K) (pk3 none F (args.map sealV) h fun v h=>some (v,h))
    unfold pk3
    split
    · repeat' first | exact par_leaf | exact par_no | apply par_cnd | (refine par_bnd fun _=>?_) | (refine par_cast fun _=>?_) | (refine par_ptr fun _ _=>?_) | (refine par_k82 fun _ _=>?_)
    · exact par_no
  · change pk3 none F (args.map sealV) h (fun v h=>some (v,h)) = some (v,h') at hs
    generalize args.map sealV = l at hs ⊢
    unfold pk3 at hs
    split at hs
    · replace hs:=k82_inv hs
      obtain ⟨s0,v0,cs0,hi0,hb0,hs⟩:=hs
      replace hs:=bnd_inv hs
      obtain ⟨r,hr,hs⟩:=hs
      cases hs
      exact (hF _ _ hr).plain.frame (is:=[_]) (os:=[b82 r v0]) nd1 rfl rfl rfl rfl rfl (all_j (all_s ⟨_,_,_,_,hi0,rfl,rfl,rfl,seen82 hb0⟩ all_z))
    · cases hs
theorem enc3_inj:∀ a b,enc3 a = enc3 b → a = b:=by
  rintro ⟨_,_,_,_,_⟩ ⟨_,_,_,_,_⟩ e <;> simp_all [enc3,b82,o82]
def pk4 {Z:Type} (z:Z) (F:B82 → List UInt8 → Option (Bool × B82)) (args:List AV) (h:Heap) (K:AV → Heap → Z):Z:=match args with | [.ptr (some (i0,0)),.dat (.str a1)]=>(k82 z h i0 fun s0 v0=>bnd z (F s0 a1) fun r=>K (.dat (.bool (r.1))) (h.set i0 (b82 (r.2) v0))) | _=>z
def e4 (f:Nat) (F:B82 → List UInt8 → Option (Bool × B82)):Ent1:=([f],fun l h K=>pk4 False F (l.map sealV) h K,fun l h=>pk4 none F (l.map sealV) h fun v h=>some (v,h))
def enc4 (r:Bool × B82):AV × Heap:=((.dat (.bool (r.1))),[b82 (r.2) 0])
theorem e4_ok {f:Nat} {F:B82 → List UInt8 → Option (Bool × B82)} (hF:∀ (s0:B82) (a1:List UInt8) (r:Bool × B82),F s0 a1 = some r → CallX Try.prog [] f [.ptr (some (0,0)),.dat (.str a1)] [b82 s0 0] (enc4 r).1 (enc4 r).2):EntryOk Try.prog (e4 f F):=by
  refine ⟨fun args h K=>?_,fun args h v h' hs=>call1_seal ?_⟩
  · show Par K (pk4 False F (args.map sealV) h K) (pk4 none F (args.map sealV) h fun v h=>some (v,h))
    unfold pk4
    split
    · repeat' first | exact par_leaf | exact par_no | apply par_cnd | (refine par_bnd fun _=>?_) | (refine par_cast fun _=>?_) | (refine par_ptr fun _ _=>?_) | (refine par_k82 fun _ _=>?_)
    · exact par_no
  · change pk4 none F (args.map sealV) h (fun v h=>some (v,h)) = some (v,h') at hs
    generalize args.map sealV = l at hs ⊢
    unfold pk4 at hs
    split at hs
    · replace hs:=k82_inv hs
      obtain ⟨s0,v0,cs0,hi0,hb0,hs⟩:=hs
      replace hs:=bnd_inv hs
      obtain ⟨r,hr,hs⟩:=hs
      cases hs
      exact (hF _ _ _ hr).plain.frame (is:=[_]) (os:=[b82 (r.2) v0]) nd1 rfl rfl rfl rfl rfl (all_j (all_s ⟨_,_,_,_,hi0,rfl,rfl,rfl,seen82 hb0⟩ all_z))
    · cases hs
theorem enc4_inj:∀ a b,enc4 a = enc4 b → a = b:=by
  rintro ⟨_,⟨_,_,_,_,_⟩⟩ ⟨_,⟨_,_,_,_,_⟩⟩ e <;> simp_all [enc4,b82,o82]
def pk5 {Z:Type} (z:Z) (F:B82 → List UInt8 → Option (B82)) (args:List AV) (h:Heap) (K:AV → Heap → Z):Z:=match args with | [.ptr (some (i0,0)),.dat (.str a1)]=>(k82 z h i0 fun s0 v0=>bnd z (F s0 a1) fun r=>K (.tuple []) (h.set i0 (b82 r v0))) | _=>z
def e5 (f:Nat) (F:B82 → List UInt8 → Option (B82)):Ent1:=([f],fun l h K=>pk5 False F (l.map sealV) h K,fun l h=>pk5 none F (l.map sealV) h fun v h=>some (v,h))
def enc5 (r:B82):AV × Heap:=((.tuple []),[b82 r 0])
theorem e5_ok {f:Nat} {F:B82 → List UInt8 → Option (B82)} (hF:∀ (s0:B82) (a1:List UInt8) (r:B82),F s0 a1 = some r → CallX Try.prog [] f [.ptr (some (0,0)),.dat (.str a1)] [b82 s0 0] (enc5 r).1 (enc5 r).2):EntryOk Try.prog (e5 f F):=by
  refine ⟨fun args h K=>?_,fun args h v h' hs=>call1_seal ?_⟩
  · show Par K (pk5 False F (args.map sealV) h K) (pk5 none F (args.map sealV) h fun v h=>some (v,h))
    unfold pk5
    split
    · repeat' first | exact par_leaf | exact par_no | apply par_cnd | (refine par_bnd fun _=>?_) | (refine par_cast fun _=>?_) | (refine par_ptr fun _ _=>?_) | (refine par_k82 fun _ _=>?_)
    · exact par_no
  · change pk5 none F (args.map sealV) h (fun v h=>some (v,h)) = some (v,h') at hs
    generalize args.map sealV = l at hs ⊢
    unfold pk5 at hs
    split at hs
    · replace hs:=k82_inv hs
      obtain ⟨s0,v0,cs0,hi0,hb0,hs⟩:=hs
      replace hs:=bnd_inv hs
      obtain ⟨r,hr,hs⟩:=hs
      cases hs
      exact (hF _ _ _ hr).plain.frame (is:=[_]) (os:=[b82 r v0]) nd1 rfl rfl rfl rfl rfl (all_j (all_s ⟨_,_,_,_,hi0,rfl,rfl,rfl,seen82 hb0⟩ all_z))
    · cases hs
theorem enc5_inj:∀ a b,enc5 a = enc5 b → a = b:=by
  rintro ⟨_,_,_,_,_⟩ ⟨_,_,_,_,_⟩ e <;> simp_all [enc5,b82,o82]
def pk6 {Z:Type} (z:Z) (F:B82 → Option (Bool × B82)) (args:List AV) (h:Heap) (K:AV → Heap → Z):Z:=match args with | [.ptr (some (i0,0))]=>(k82 z h i0 fun s0 v0=>bnd z (F s0) fun r=>K (.dat (.bool (r.1))) (h.set i0 (b82 (r.2) v0))) | _=>z
def e6 (f:Nat) (F:B82 → Option (Bool × B82)):Ent1:=([f],fun l h K=>pk6 False F (l.map sealV) h K,fun l h=>pk6 none F (l.map sealV) h fun v h=>some (v,h))
def enc6 (r:Bool × B82):AV × Heap:=((.dat (.bool (r.1))),[b82 (r.2) 0])
theorem e6_ok {f:Nat} {F:B82 → Option (Bool × B82)} (hF:∀ (s0:B82) (r:Bool × B82),F s0 = some r → CallX Try.prog [] f [.ptr (some (0,0))] [b82 s0 0] (enc6 r).1 (enc6 r).2):EntryOk Try.prog (e6 f F):=by
  refine ⟨fun args h K=>?_,fun args h v h' hs=>call1_seal ?_⟩
  · show Par K (pk6 False F (args.map sealV) h K) (pk6 none F (args.map sealV) h fun v h=>some (v,h))
    unfold pk6
    split
    · repeat' first | exact par_leaf | exact par_no | apply par_cnd | (refine par_bnd fun _=>?_) | (refine par_cast fun _=>?_) | (refine par_ptr fun _ _=>?_) | (refine par_k82 fun _ _=>?_)
    · exact par_no
  · change pk6 none F (args.map sealV) h (fun v h=>some (v,h)) = some (v,h') at hs
    generalize args.map sealV = l at hs ⊢
    unfold pk6 at hs
    split at hs
    · replace hs:=k82_inv hs
      obtain ⟨s0,v0,cs0,hi0,hb0,hs⟩:=hs
      replace hs:=bnd_inv hs
      obtain ⟨r,hr,hs⟩:=hs
      cases hs
      exact (hF _ _ hr).plain.frame (is:=[_]) (os:=[b82 (r.2) v0]) nd1 rfl rfl rfl rfl rfl (all_j (all_s ⟨_,_,_,_,hi0,rfl,rfl,rfl,seen82 hb0⟩ all_z))
    · cases hs
theorem enc6_inj:∀ a b,enc6 a = enc6 b → a = b:=by
  rintro ⟨_,⟨_,_,_,_,_⟩⟩ ⟨_,⟨_,_,_,_,_⟩⟩ e <;> simp_all [enc6,b82,o82]
def pk7 {Z:Type} (z:Z) (F:B82 → Option (List UInt8 × B82)) (args:List AV) (h:Heap) (K:AV → Heap → Z):Z:=match args with | [.ptr (some (i0,0))]=>(k82 z h i0 fun s0 v0=>bnd z (F s0) fun r=>K (.dat (.str (r.1))) (h.set i0 (b82 (r.2) v0))) | _=>z
def e7 (f:Nat) (F:B82 → Option (List UInt8 × B82)):Ent1:=([f],fun l h K=>pk7 False F (l.map sealV) h K,fun l h=>pk7 none F (l.map sealV) h fun v h=>some (v,h))
def enc7 (r:List UInt8 × B82):AV × Heap:=((.dat (.str (r.1))),[b82 (r.2) 0])
theorem e7_ok {f:Nat} {F:B82 → Option (List UInt8 × B82)} (hF:∀ (s0:B82) (r:List UInt8 × B82),F s0 = some r → CallX Try.prog [] f [.ptr (some (0,0))] [b82 s0 0] (enc7 r).1 (enc7 r).2):EntryOk Try.prog (e7 f F):=by
  refine ⟨fun args h K=>?_,fun args h v h' hs=>call1_seal ?_⟩
  · show Par K (pk7 False F (args.map sealV) h K) (pk7 none F (args.map sealV) h fun v h=>some (v,h))
    unfold pk7
    split
    · repeat' first | exact par_leaf | exact par_no | apply par_cnd | (refine par_bnd fun _=>?_) | (refine par_cast fun _=>?_) | (refine par_ptr fun _ _=>?_) | (refine par_k82 fun _ _=>?_)
    · exact par_no
  · change pk7 none F (args.map sealV) h (fun v h=>some (v,h)) = some (v,h') at hs
    generalize args.map sealV = l at hs ⊢
    unfold pk7 at hs
    split at hs
    · replace hs:=k82_inv hs
      obtain ⟨s0,v0,cs0,hi0,hb0,hs⟩:=hs
      replace hs:=bnd_inv hs
      obtain ⟨r,hr,hs⟩:=hs
      cases hs
      exact (hF _ _ hr).plain.frame (is:=[_]) (os:=[b82 (r.2) v0]) nd1 rfl rfl rfl rfl rfl (all_j (all_s ⟨_,_,_,_,hi0,rfl,rfl,rfl,seen82 hb0⟩ all_z))
    · cases hs
theorem enc7_inj:∀ a b,enc7 a = enc7 b → a = b:=by
  rintro ⟨_,⟨_,_,_,_,_⟩⟩ ⟨_,⟨_,_,_,_,_⟩⟩ e <;> simp_all [enc7,b82,o82]
def pk8 {Z:Type} (z:Z) (F:B82 → Option (Int × B82)) (args:List AV) (h:Heap) (K:AV → Heap → Z):Z:=match args with | [.ptr (some (i0,0))]=>(k82 z h i0 fun s0 v0=>bnd z (F s0) fun r=>K (.dat (.int .i64 (r.1))) (h.set i0 (b82 (r.2) v0))) | _=>z
def e8 (f:Nat) (F:B82 → Option (Int × B82)):Ent1:=([f],fun l h K=>pk8 False F (l.map sealV) h K,fun l h=>pk8 none F (l.map sealV) h fun v h=>some (v,h))
def enc8 (r:Int × B82):AV × Heap:=((.dat (.int .i64 (r.1))),[b82 (r.2) 0])
theorem e8_ok {f:Nat} {F:B82 → Option (Int × B82)} (hF:∀ (s0:B82) (r:Int × B82),F s0 = some r → CallX Try.prog [] f [.ptr (some (0,0))] [b82 s0 0] (enc8 r).1 (enc8 r).2):EntryOk Try.prog (e8 f F):=by
  refine ⟨fun args h K=>?_,fun args h v h' hs=>call1_seal ?_⟩
  · show Par K (pk8 False F (args.map sealV) h K) (pk8 none F (args.map sealV) h fun v h=>some (v,h))
    unfold pk8
    split
    · repeat' first | exact par_leaf | exact par_no | apply par_cnd | (refine par_bnd fun _=>?_) | (refine par_cast fun _=>?_) | (refine par_ptr fun _ _=>?_) | (refine par_k82 fun _ _=>?_)
    · exact par_no
  · change pk8 none F (args.map sealV) h (fun v h=>some (v,h)) = some (v,h') at hs
    generalize args.map sealV = l at hs ⊢
    unfold pk8 at hs
    split at hs
    · replace hs:=k82_inv hs
      obtain ⟨s0,v0,cs0,hi0,hb0,hs⟩:=hs
      replace hs:=bnd_inv hs
      obtain ⟨r,hr,hs⟩:=hs
      cases hs
      exact (hF _ _ hr).plain.frame (is:=[_]) (os:=[b82 (r.2) v0]) nd1 rfl rfl rfl rfl rfl (all_j (all_s ⟨_,_,_,_,hi0,rfl,rfl,rfl,seen82 hb0⟩ all_z))
    · cases hs
theorem enc8_inj:∀ a b,enc8 a = enc8 b → a = b:=by
  rintro ⟨_,⟨_,_,_,_,_⟩⟩ ⟨_,⟨_,_,_,_,_⟩⟩ e <;> simp_all [enc8,b82,o82]
def pk9 {Z:Type} (z:Z) (t0 t1 t2:Nat) (F:List UInt8 → D → D → Option (D)) (args:List AV) (h:Heap) (K:AV → Heap → Z):Z:=match args with | [.dat (.str a0),.dat a1,.dat a2]=>(cnd (okG t0 a1) (cnd (okG t1 a2) (bnd z (F a0 a1 a2) fun r=>castK z Try.prog t2 (r) fun w0=>K w0 h) z) z) | _=>z
def e9 (f t0 t1 t2:Nat) (F:List UInt8 → D → D → Option (D)):Ent1:=([f],fun l h K=>pk9 False t0 t1 t2 F (l.map sealV) h K,fun l h=>pk9 none t0 t1 t2 F (l.map sealV) h fun v h=>some (v,h))
def enc9 (r:D):AV × Heap:=((.dat r),[])
theorem e9_ok {f t0 t1 t2:Nat} {F:List UInt8 → D → D → Option (D)} (hF:∀ (a0:List UInt8) (a1:D) (a2:D) (r:D),F a0 a1 a2 = some r → CallX Try.prog [] f [.dat (.str a0),.dat (G t0 a1),.dat (G t1 a2)] [] (enc9 r).1 (enc9 r).2):EntryOk Try.prog (e9 f t0 t1 t2 F):=by
  refine ⟨fun args h K=>?_,fun args h v h' hs=>call1_seal ?_⟩
  · show Par K (pk9 False t0 t1 t2 F (args.map sealV) h K) (pk9 none t0 t1 t2 F (args.map sealV) h fun v h=>some (v,h))
    unfold pk9
    split
    · repeat' first | exact par_leaf | exact par_no | apply par_cnd | (refine par_bnd fun _=>?_) | (refine par_cast fun _=>?_) | (refine par_ptr fun _ _=>?_)
    · exact par_no
  · change pk9 none t0 t1 t2 F (args.map sealV) h (fun v h=>some (v,h)) = some (v,h') at hs
    generalize args.map sealV = l at hs ⊢
    unfold pk9 at hs
    split at hs
    · replace hs:=cnd_inv hs
      obtain ⟨ho1,hs⟩:=hs
      replace hs:=cnd_inv hs
      obtain ⟨ho2,hs⟩:=hs
      replace hs:=bnd_inv hs
      obtain ⟨r,hr,hs⟩:=hs
      replace hs:=cast_inv hs
      cases hs
      rw [ok_eq ho1]
      rw [ok_eq ho2]
      exact (hF _ _ _ _ hr).plain.frame0 rfl rfl
    · cases hs
theorem enc9_inj:∀ a b,enc9 a = enc9 b → a = b:=by
  rintro _ _ e <;> simp_all [enc9]
def pk10 {Z:Type} (z:Z) (F:List UInt8 → Option (Bool)) (args:List AV) (h:Heap) (K:AV → Heap → Z):Z:=match args with | [.dat (.str a0)]=>(bnd z (F a0) fun r=>K (.dat (.bool r)) h) | _=>z
def e10 (f:Nat) (F:List UInt8 → Option (Bool)):Ent1:=([f],fun l h K=>pk10 False F (l.map sealV) h K,fun l h=>pk10 none F (l.map sealV) h fun v h=>some (v,h))
def enc10 (r:Bool):AV × Heap:=((.dat (.bool r)),[])
theorem e10_ok {f:Nat} {F:List UInt8 → Option (Bool)} (hF:∀ (a0:List UInt8) (r:Bool),F a0 = some r → CallX Try.prog [] f [.dat (.str a0)] [] (enc10 r).1 (enc10 r).2):EntryOk Try.prog (e10 f F):=by
  refine ⟨fun args h K=>?_,fun args h v h' hs=>call1_seal ?_⟩
  · show Par K (pk10 False F (args.map sealV) h K) (pk10 none F (args.map sealV) h fun v h=>some (v,h))
    unfold pk10
    split
    · repeat' first | exact par_leaf | exact par_no | apply par_cnd | (refine par_bnd fun _=>?_) | (refine par_cast fun _=>?_) | (refine par_ptr fun _ _=>?_)
    · exact par_no
  · change pk10 none F (args.map sealV) h (fun v h=>some (v,h)) = some (v,h') at hs
    generalize args.map sealV = l at hs ⊢
    unfold pk10 at hs
    split at hs
    · replace hs:=bnd_inv hs
      obtain ⟨r,hr,hs⟩:=hs
      cases hs
      exact (hF _ _ hr).plain.frame0 rfl rfl
    · cases hs
theorem enc10_inj:∀ a b,enc10 a = enc10 b → a = b:=by
  rintro _ _ e <;> simp_all [enc10]
def pk11 {Z:Type} (z:Z) (k0 k1 t0:Nat) (F:B82 → D → Option (D × B82)) (args:List AV) (h:Heap) (K:AV → Heap → Z):Z:=match args with | [.ptr (some (i0,0)),.func (.func g1) [] [.ptr (some (ip1_0,0))],.func (.func g2) [.ptr (some (q2_0,0))] [],.dat a3]=>(cnd (Nat.beq g1 k0) (ptrK z h ip1_0 67 fun q1_0 vp1_0=>cnd (Nat.beq q1_0 i0) (cnd (Nat.beq g2 k1) (cnd (Nat.beq q2_0 i0) (cnd (Nat.blt i0 ip1_0) (k82 z h i0 fun s0 v0=>bnd z (F s0 a3) fun r=>castK z Try.prog t0 (r.1) fun w0=>K w0 ((h.set i0 (b82 (r.2) v0)).set ip1_0 (some (.cells 67 [.ptr (some (i0,0))] vp1_0)))) z) z) z) z) z) | _=>z
def e11 (f k0 k1 t0:Nat) (F:B82 → D → Option (D × B82)):Ent1:=([f,k0,k1],fun l h K=>pk11 False k0 k1 t0 F (l.map sealV) h K,fun l h=>pk11 none k0 k1 t0 F (l.map sealV) h fun v h=>some (v,h))
def enc11 (r:D × B82):AV × Heap:=((.dat (r.1)),[b82 (r.2) 0,some (.cells 67 [.ptr (some (0,0))] 0)])
theorem e11_ok {f k0 k1 t0:Nat} {F:B82 → D → Option (D × B82)} (hF:∀ (s0:B82) (a3:D) (r:D × B82),F s0 a3 = some r → CallX Try.prog [] f [.ptr (some (0,0)),.func (.func k0) [] [.ptr (some (1,0))],.func (.func k1) [.ptr (some (0,0))] [],.dat a3] [b82 s0 0,some (.cells 67 [.ptr (some (0,0))] 0)] (enc11 r).1 (enc11 r).2):EntryOk Try.prog (e11 f k0 k1 t0 F):=by
  refine ⟨fun args h K=>?_,fun args h v h' hs=>call1_seal ?_⟩
  · show Par K (pk11 False k0 k1 t0 F (args.map sealV) h K) (pk11 none k0 k1 t0 F (args.map sealV) h fun v h=>some (v,h))
    unfold pk11
    split
    · repeat' first | exact par_leaf | exact par_no | apply par_cnd | (refine par_bnd fun _=>?_) | (refine par_cast fun _=>?_) | (refine par_ptr fun _ _=>?_) | (refine par_k82 fun _ _=>?_)
    · exact par_no
  · change pk11 none k0 k1 t0 F (args.map sealV) h (fun v h=>some (v,h)) = some (v,h') at hs
    generalize args.map sealV = l at hs ⊢
    unfold pk11 at hs
    split at hs
    · replace hs:=beq_inv hs
      obtain ⟨eg,hs⟩:=hs
      try subst eg
      replace hs:=ptr_inv hs
      obtain ⟨q1_0,vp1_0,hip1_0,hs⟩:=hs
      replace hs:=beq_inv hs
      obtain ⟨eg,hs⟩:=hs
      try subst eg
      replace hs:=beq_inv hs
      obtain ⟨eg,hs⟩:=hs
      try subst eg
      replace hs:=beq_inv hs
      obtain ⟨eg,hs⟩:=hs
      try subst eg
      replace hs:=blt_inv hs
      obtain ⟨hlt0,hs⟩:=hs
      replace hs:=k82_inv hs
      obtain ⟨s0,v0,cs0,hi0,hb0,hs⟩:=hs
      replace hs:=bnd_inv hs
      obtain ⟨r,hr,hs⟩:=hs
      replace hs:=cast_inv hs
      cases hs
      exact (hF _ _ _ hr).plain.frameG0 (is:=[_,_]) (os:=[b82 (r.2) v0,some (.cells 67 [.ptr (some (_,0))] vp1_0)]) (sort_of (so_c hlt0 so_1)) rfl rfl rfl rfl rfl (all_j (all_s ⟨_,_,_,_,hi0,rfl,rfl,rfl,seenG82 hb0⟩ (all_s ⟨_,_,_,_,hip1_0,rfl,rfl,rfl,seenG_ptr rfl (by decide) ⟨by simp,rfl⟩⟩ all_z)))
    · cases hs
theorem enc11_inj:∀ a b,enc11 a = enc11 b → a = b:=by
  rintro ⟨_,⟨_,_,_,_,_⟩⟩ ⟨_,⟨_,_,_,_,_⟩⟩ e <;> simp_all [enc11,b82,o82]
def pk12 {Z:Type} (z:Z) (k0 k1 t0:Nat) (F:B82 → D → Option (D × B82)) (args:List AV) (h:Heap) (K:AV → Heap → Z):Z:=match args with | [.ptr (some (i0,0)),.func (.func g1) [.ptr (some (q1_0,0))] [],.func (.func g2) [.ptr (some (q2_0,0))] [],.dat a3]=>(cnd (Nat.beq g1 k0) (cnd (Nat.beq q1_0 i0) (cnd (Nat.beq g2 k1) (cnd (Nat.beq q2_0 i0) (k82 z h i0 fun s0 v0=>bnd z (F s0 a3) fun r=>castK z Try.prog t0 (r.1) fun w0=>K w0 (h.set i0 (b82 (r.2) v0))) z) z) z) z) | _=>z
def e12 (f k0 k1 t0:Nat) (F:B82 → D → Option (D × B82)):Ent1:=([f,k0,k1],fun l h K=>pk12 False k0 k1 t0 F (l.map sealV) h K,fun l h=>pk12 none k0 k1 t0 F (l.map sealV) h fun v h=>some (v,h))
def enc12 (r:D × B82):AV × Heap:=((.dat (r.1)),[b82 (r.2) 0])
theorem e12_ok {f k0 k1 t0:Nat} {F:B82 → D → Option (D × B82)} (hF:∀ (s0:B82) (a3:D) (r:D × B82),F s0 a3 = some r → CallX Try.prog [] f [.ptr (some (0,0)),.func (.func k0) [.ptr (some (0,0))] [],.func (.func k1) [.ptr (some (0,0))] [],.dat a3] [b82 s0 0] (enc12 r).1 (enc12 r).2):EntryOk Try.prog (e12 f k0 k1 t0 F):=by
  refine ⟨fun args h K=>?_,fun args h v h' hs=>call1_seal ?_⟩
  · show Par K (pk12 False k0 k1 t0 F (args.map sealV) h K) (pk12 none k0 k1 t0 F (args.map sealV) h fun v h=>some (v,h))
    unfold pk12
    split
    · repeat' first | exact par_leaf | exact par_no | apply par_cnd | (refine par_bnd fun _=>?_) | (refine par_cast fun _=>?_) | (refine par_ptr fun _ _=>?_) | (refine par_k82 fun _ _=>?_)
    · exact par_no
  · change pk12 none k0 k1 t0 F (args.map sealV) h (fun v h=>some (v,h)) = some (v,h') at hs
    generalize args.map sealV = l at hs ⊢
    unfold pk12 at hs
    split at hs
    · replace hs:=beq_inv hs
      obtain ⟨eg,hs⟩:=hs
      try subst eg
      replace hs:=beq_inv hs
      obtain ⟨eg,hs⟩:=hs
      try subst eg
      replace hs:=beq_inv hs
      obtain ⟨eg,hs⟩:=hs
      try subst eg
      replace hs:=beq_inv hs
      obtain ⟨eg,hs⟩:=hs
      try subst eg
      replace hs:=k82_inv hs
      obtain ⟨s0,v0,cs0,hi0,hb0,hs⟩:=hs
      replace hs:=bnd_inv hs
      obtain ⟨r,hr,hs⟩:=hs
      replace hs:=cast_inv hs
      cases hs
      exact (hF _ _ _ hr).plain.frame (is:=[_]) (os:=[b82 (r.2) v0]) nd1 rfl rfl rfl rfl rfl (all_j (all_s ⟨_,_,_,_,hi0,rfl,rfl,rfl,seen82 hb0⟩ all_z))
    · cases hs
theorem enc12_inj:∀ a b,enc12 a = enc12 b → a = b:=by
  rintro ⟨_,⟨_,_,_,_,_⟩⟩ ⟨_,⟨_,_,_,_,_⟩⟩ e <;> simp_all [enc12,b82,o82]
def pk13 {Z:Type} (z:Z) (k0 t0:Nat) (F:B82 → Int → Option (D × B82)) (args:List AV) (h:Heap) (K:AV → Heap → Z):Z:=match args with | [.ptr (some (i0,0)),.dat (.int .i64 a1),.func (.func g2) [.ptr (some (q2_0,0))] []]=>(cnd (Nat.beq g2 k0) (cnd (Nat.beq q2_0 i0) (k82 z h i0 fun s0 v0=>bnd z (F s0 a1) fun r=>castK z Try.prog t0 (r.1) fun w0=>K w0 (h.set i0 (b82 (r.2) v0))) z) z) | _=>z
def e13 (f k0 t0:Nat) (F:B82 → Int → Option (D × B82)):Ent1:=([f,k0],fun l h K=>pk13 False k0 t0 F (l.map sealV) h K,fun l h=>pk13 none k0 t0 F (l.map sealV) h fun v h=>some (v,h))
def enc13 (r:D × B82):AV × Heap:=((.dat (r.1)),[b82 (r.2) 0])
theorem e13_ok {f k0 t0:Nat} {F:B82 → Int → Option (D × B82)} (hF:∀ (s0:B82) (a1:Int) (r:D × B82),F s0 a1 = some r → CallX Try.prog [] f [.ptr (some (0,0)),.dat (.int .i64 a1),.func (.func k0) [.ptr (some (0,0))] []] [b82 s0 0] (enc13 r).1 (enc13 r).2):EntryOk Try.prog (e13 f k0 t0 F):=by
  refine ⟨fun args h K=>?_,fun args h v h' hs=>call1_seal ?_⟩
  · show Par K (pk13 False k0 t0 F (args.map sealV) h K) (pk13 none k0 t0 F (args.map sealV) h fun v h=>some (v,h))
    unfold pk13
    split
    · repeat' first | exact par_leaf | exact par_no | apply par_cnd | (refine par_bnd fun _=>?_) | (refine par_cast fun _=>?_) | (refine par_ptr fun _ _=>?_) | (refine par_k82 fun _ _=>?_)
    · exact par_no
  · change pk13 none k0 t0 F (args.map sealV) h (fun v h=>some (v,h)) = some (v,h') at hs
    generalize args.map sealV = l at hs ⊢
    unfold pk13 at hs
    split at hs
    · replace hs:=beq_inv hs
      obtain ⟨eg,hs⟩:=hs
      try subst eg
      replace hs:=beq_inv hs
      obtain ⟨eg,hs⟩:=hs
      try subst eg
      replace hs:=k82_inv hs
      obtain ⟨s0,v0,cs0,hi0,hb0,hs⟩:=hs
      replace hs:=bnd_inv hs
      obtain ⟨r,hr,hs⟩:=hs
      replace hs:=cast_inv hs
      cases hs
      exact (hF _ _ _ hr).plain.frame (is:=[_]) (os:=[b82 (r.2) v0]) nd1 rfl rfl rfl rfl rfl (all_j (all_s ⟨_,_,_,_,hi0,rfl,rfl,rfl,seen82 hb0⟩ all_z))
    · cases hs
theorem enc13_inj:∀ a b,enc13 a = enc13 b → a = b:=by
  rintro ⟨_,⟨_,_,_,_,_⟩⟩ ⟨_,⟨_,_,_,_,_⟩⟩ e <;> simp_all [enc13,b82,o82]
def pk14 {Z:Type} (z:Z) (t0:Nat) (F:B82 → Option (D × B82)) (args:List AV) (h:Heap) (K:AV → Heap → Z):Z:=match args with | [.ptr (some (ip0,0))]=>(ptrK z h ip0 67 fun i0 vp0=>cnd (Nat.blt i0 ip0) (k82 z h i0 fun s0 v0=>bnd z (F s0) fun r=>castK z Try.prog t0 (r.1) fun w0=>K w0 ((h.set i0 (b82 (r.2) v0)).set ip0 (some (.cells 67 [.ptr (some (i0,0))] vp0)))) z) | _=>z
def e14 (f t0:Nat) (F:B82 → Option (D × B82)):Ent1:=([f],fun l h K=>pk14 False t0 F (l.map sealV) h K,fun l h=>pk14 none t0 F (l.map sealV) h fun v h=>some (v,h))
def enc14 (r:D × B82):AV × Heap:=((.dat (r.1)),[b82 (r.2) 0,some (.cells 67 [.ptr (some (0,0))] 0)])
theorem e14_ok {f t0:Nat} {F:B82 → Option (D × B82)} (hF:∀ (s0:B82) (r:D × B82),F s0 = some r → CallX Try.prog [] f [.ptr (some (1,0))] [b82 s0 0,some (.cells 67 [.ptr (some (0,0))] 0)] (enc14 r).1 (enc14 r).2):EntryOk Try.prog (e14 f t0 F):=by
  refine ⟨fun args h K=>?_,fun args h v h' hs=>call1_seal ?_⟩
  · show Par K (pk14 False t0 F (args.map sealV) h K) (pk14 none t0 F (args.map sealV) h fun v h=>some (v,h))
    unfold pk14
    split
    · repeat' first | exact par_leaf | exact par_no | apply par_cnd | (refine par_bnd fun _=>?_) | (refine par_cast fun _=>?_) | (refine par_ptr fun _ _=>?_) | (refine par_k82 fun _ _=>?_)
    · exact par_no
  · change pk14 none t0 F (args.map sealV) h (fun v h=>some (v,h)) = some (v,h') at hs
    generalize args.map sealV = l at hs ⊢
    unfold pk14 at hs
    split at hs
    · replace hs:=ptr_inv hs
      obtain ⟨i0,vp0,hip0,hs⟩:=hs
      replace hs:=blt_inv hs
      obtain ⟨hlt0,hs⟩:=hs
      replace hs:=k82_inv hs
      obtain ⟨s0,v0,cs0,hi0,hb0,hs⟩:=hs
      replace hs:=bnd_inv hs
      obtain ⟨r,hr,hs⟩:=hs
      replace hs:=cast_inv hs
      cases hs
      exact (hF _ _ hr).plain.frameG0 (is:=[_,_]) (os:=[b82 (r.2) v0,some (.cells 67 [.ptr (some (_,0))] vp0)]) (sort_of (so_c hlt0 so_1)) rfl rfl rfl rfl rfl (all_j (all_s ⟨_,_,_,_,hi0,rfl,rfl,rfl,seenG82 hb0⟩ (all_s ⟨_,_,_,_,hip0,rfl,rfl,rfl,seenG_ptr rfl (by decide) ⟨by simp,rfl⟩⟩ all_z)))
    · cases hs
theorem enc14_inj:∀ a b,enc14 a = enc14 b → a = b:=by
  rintro ⟨_,⟨_,_,_,_,_⟩⟩ ⟨_,⟨_,_,_,_,_⟩⟩ e <;> simp_all [enc14,b82,o82]
def pk15 {Z:Type} (z:Z) (k0:Nat) (F:B82 → Option (D × B82)) (args:List AV) (h:Heap) (K:AV → Heap → Z):Z:=match args with | [.ptr (some (i0,0)),.func (.func g1) [.ptr (some (q1_0,0))] []]=>(cnd (Nat.beq g1 k0) (cnd (Nat.beq q1_0 i0) (k82 z h i0 fun s0 v0=>bnd z (F s0) fun r=>K (.dat (r.1)) (h.set i0 (b82 (r.2) v0))) z) z) | _=>z
def e15 (f k0:Nat) (F:B82 → Option (D × B82)):Ent1:=([f,k0],fun l h K=>pk15 False k0 F (l.map sealV) h K,fun l h=>pk15 none k0 F (l.map sealV) h fun v h=>some (v,h))
def enc15 (r:D × B82):AV × Heap:=((.dat (r.1)),[b82 (r.2) 0])
theorem e15_ok {f k0:Nat} {F:B82 → Option (D × B82)} (hF:∀ (s0:B82) (r:D × B82),F s0 = some r → CallX Try.prog [] f [.ptr (some (0,0)),.func (.func k0) [.ptr (some (0,0))] []] [b82 s0 0] (enc15 r).1 (enc15 r).2):EntryOk Try.prog (e15 f k0 F):=by
  refine ⟨fun args h K=>?_,fun args h v h' hs=>call1_seal ?_⟩
  · show Par K (pk15 False k0 F (args.map sealV) h K) (pk15 none k0 F (args.map sealV) h fun v h=>some (v,h))
    unfold pk15
    split
    · repeat' first | exact par_leaf | exact par_no | apply par_cnd | (refine par_bnd fun _=>?_) | (refine par_cast fun _=>?_) | (refine par_ptr fun _ _=>?_) | (refine par_k82 fun _ _=>?_)
    · exact par_no
  · change pk15 none k0 F (args.map sealV) h (fun v h=>some (v,h)) = some (v,h') at hs
    generalize args.map sealV = l at hs ⊢
    unfold pk15 at hs
    split at hs
    · replace hs:=beq_inv hs
      obtain ⟨eg,hs⟩:=hs
      try subst eg
      replace hs:=beq_inv hs
      obtain ⟨eg,hs⟩:=hs
      try subst eg
      replace hs:=k82_inv hs
      obtain ⟨s0,v0,cs0,hi0,hb0,hs⟩:=hs
      replace hs:=bnd_inv hs
      obtain ⟨r,hr,hs⟩:=hs
      cases hs
      exact (hF _ _ hr).plain.frame (is:=[_]) (os:=[b82 (r.2) v0]) nd1 rfl rfl rfl rfl rfl (all_j (all_s ⟨_,_,_,_,hi0,rfl,rfl,rfl,seen82 hb0⟩ all_z))
    · cases hs
theorem enc15_inj:∀ a b,enc15 a = enc15 b → a = b:=by
  rintro ⟨_,⟨_,_,_,_,_⟩⟩ ⟨_,⟨_,_,_,_,_⟩⟩ e <;> simp_all [enc15,b82,o82]
def pk16 {Z:Type} (z:Z) (k0 t0:Nat) (F:List UInt8 → Int → Option (D × Int × Int)) (args:List AV) (h:Heap) (K:AV → Heap → Z):Z:=match args with | [.dat (.str a0),.dat (.int .i64 a1),.func (.func g2) [] []]=>(cnd (Nat.beq g2 k0) (bnd z (F a0 a1) fun r=>castK z Try.prog t0 (r.1) fun w0=>K (.tuple [w0,(.dat (.int .i64 (r.2.1))),(.dat (.int .i64 (r.2.2)))]) h) z) | _=>z
def e16 (f k0 t0:Nat) (F:List UInt8 → Int → Option (D × Int × Int)):Ent1:=([f,k0],fun l h K=>pk16 False k0 t0 F (l.map sealV) h K,fun l h=>pk16 none k0 t0 F (l.map sealV) h fun v h=>some (v,h))
def enc16 (r:D × Int × Int):AV × Heap:=((.tuple [.dat (r.1),.dat (.int .i64 (r.2.1)),.dat (.int .i64 (r.2.2))]),[])
theorem e16_ok {f k0 t0:Nat} {F:List UInt8 → Int → Option (D × Int × Int)} (hF:∀ (a0:List UInt8) (a1:Int) (r:D × Int × Int),F a0 a1 = some r → CallX Try.prog [] f [.dat (.str a0),.dat (.int .i64 a1),.func (.func k0) [] []] [] (enc16 r).1 (enc16 r).2):EntryOk Try.prog (e16 f k0 t0 F):=by
  refine ⟨fun args h K=>?_,fun args h v h' hs=>call1_seal ?_⟩
  · show Par K (pk16 False k0 t0 F (args.map sealV) h K) (pk16 none k0 t0 F (args.map sealV) h fun v h=>some (v,h))
    unfold pk16
    split
    · repeat' first | exact par_leaf | exact par_no | apply par_cnd | (refine par_bnd fun _=>?_) | (refine par_cast fun _=>?_) | (refine par_ptr fun _ _=>?_)
    · exact par_no
  · change pk16 none k0 t0 F (args.map sealV) h (fun v h=>some (v,h)) = some (v,h') at hs
    generalize args.map sealV = l at hs ⊢
    unfold pk16 at hs
    split at hs
    · replace hs:=beq_inv hs
      obtain ⟨eg,hs⟩:=hs
      try subst eg
      replace hs:=bnd_inv hs
      obtain ⟨r,hr,hs⟩:=hs
      replace hs:=cast_inv hs
      cases hs
      exact (hF _ _ _ hr).plain.frame0 rfl rfl
    · cases hs
theorem enc16_inj:∀ a b,enc16 a = enc16 b → a = b:=by
  rintro ⟨_,_,_⟩ ⟨_,_,_⟩ e <;> simp_all [enc16]
def pk17 {Z:Type} (z:Z) (t0:Nat) (F:List UInt8 → Option (D × Int × Int)) (args:List AV) (h:Heap) (K:AV → Heap → Z):Z:=match args with | [.dat (.str a0)]=>(bnd z (F a0) fun r=>castK z Try.prog t0 (r.1) fun w0=>K (.tuple [w0,(.dat (.int .i64 (r.2.1))),(.dat (.int .i64 (r.2.2)))]) h) | _=>z
def e17 (f t0:Nat) (F:List UInt8 → Option (D × Int × Int)):Ent1:=([f],fun l h K=>pk17 False t0 F (l.map sealV) h K,fun l h=>pk17 none t0 F (l.map sealV) h fun v h=>some (v,h))
def enc17 (r:D × Int × Int):AV × Heap:=((.tuple [.dat (r.1),.dat (.int .i64 (r.2.1)),.dat (.int .i64 (r.2.2))]),[])
theorem e17_ok {f t0:Nat} {F:List UInt8 → Option (D × Int × Int)} (hF:∀ (a0:List UInt8) (r:D × Int × Int),F a0 = some r → CallX Try.prog [] f [.dat (.str a0)] [] (enc17 r).1 (enc17 r).2):EntryOk Try.prog (e17 f t0 F):=by
  refine ⟨fun args h K=>?_,fun args h v h' hs=>call1_seal ?_⟩
  · show Par K (pk17 False t0 F (args.map sealV) h K) (pk17 none t0 F (args.map sealV) h fun v h=>some (v,h))
    unfold pk17
    split
    · repeat' first | exact par_leaf | exact par_no | apply par_cnd | (refine par_bnd fun _=>?_) | (refine par_cast fun _=>?_) | (refine par_ptr fun _ _=>?_)
    · exact par_no
  · change pk17 none t0 F (args.map sealV) h (fun v h=>some (v,h)) = some (v,h') at hs
    generalize args.map sealV = l at hs ⊢
    unfold pk17 at hs
    split at hs
    · replace hs:=bnd_inv hs
      obtain ⟨r,hr,hs⟩:=hs
      replace hs:=cast_inv hs
      cases hs
      exact (hF _ _ hr).plain.frame0 rfl rfl
    · cases hs
theorem enc17_inj:∀ a b,enc17 a = enc17 b → a = b:=by
  rintro ⟨_,_,_⟩ ⟨_,_,_⟩ e <;> simp_all [enc17]
def pk18 {Z:Type} (z:Z) (t0 t1:Nat) (F:D → D → Option (Bool)) (args:List AV) (h:Heap) (K:AV → Heap → Z):Z:=match args with | [.dat a0,.dat a1]=>(cnd (okG t0 a0) (cnd (okG t1 a1) (bnd z (F a0 a1) fun r=>K (.dat (.bool r)) h) z) z) | _=>z
def e18 (f t0 t1:Nat) (F:D → D → Option (Bool)):Ent1:=([f],fun l h K=>pk18 False t0 t1 F (l.map sealV) h K,fun l h=>pk18 none t0 t1 F (l.map sealV) h fun v h=>some (v,h))
def enc18 (r:Bool):AV × Heap:=((.dat (.bool r)),[])
theorem e18_ok {f t0 t1:Nat} {F:D → D → Option (Bool)} (hF:∀ (a0:D) (a1:D) (r:Bool),F a0 a1 = some r → CallX Try.prog [] f [.dat (G t0 a0),.dat (G t1 a1)] [] (enc18 r).1 (enc18 r).2):EntryOk Try.prog (e18 f t0 t1 F):=by
  refine ⟨fun args h K=>?_,fun args h v h' hs=>call1_seal ?_⟩
  · show Par K (pk18 False t0 t1 F (args.map sealV) h K) (pk18 none t0 t1 F (args.map sealV) h fun v h=>some (v,h))
    unfold pk18
    split
    · repeat' first | exact par_leaf | exact par_no | apply par_cnd | (refine par_bnd fun _=>?_) | (refine par_cast fun _=>?_) | (refine par_ptr fun _ _=>?_)
    · exact par_no
  · change pk18 none t0 t1 F (args.map sealV) h (fun v h=>some (v,h)) = some (v,h') at hs
    generalize args.map sealV = l at hs ⊢
    unfold pk18 at hs
    split at hs
    · replace hs:=cnd_inv hs
      obtain ⟨ho0,hs⟩:=hs
      replace hs:=cnd_inv hs
      obtain ⟨ho1,hs⟩:=hs
      replace hs:=bnd_inv hs
      obtain ⟨r,hr,hs⟩:=hs
      cases hs
      rw [ok_eq ho0]
      rw [ok_eq ho1]
      exact (hF _ _ _ hr).plain.frame0 rfl rfl
    · cases hs
theorem enc18_inj:∀ a b,enc18 a = enc18 b → a = b:=by
  rintro _ _ e <;> simp_all [enc18]
def pk19 {Z:Type} (z:Z) (F:D → D → Option (Bool)) (args:List AV) (h:Heap) (K:AV → Heap → Z):Z:=match args with | [.dat a0,.dat a1]=>(bnd z (F a0 a1) fun r=>K (.dat (.bool r)) h) | _=>z
def e19 (f:Nat) (F:D → D → Option (Bool)):Ent1:=([f],fun l h K=>pk19 False F (l.map sealV) h K,fun l h=>pk19 none F (l.map sealV) h fun v h=>some (v,h))
def enc19 (r:Bool):AV × Heap:=((.dat (.bool r)),[])
theorem e19_ok {f:Nat} {F:D → D → Option (Bool)} (hF:∀ (a0:D) (a1:D) (r:Bool),F a0 a1 = some r → CallX Try.prog [] f [.dat a0,.dat a1] [] (enc19 r).1 (enc19 r).2):EntryOk Try.prog (e19 f F):=by
  refine ⟨fun args h K=>?_,fun args h v h' hs=>call1_seal ?_⟩
  · show Par K (pk19 False F (args.map sealV) h K) (pk19 none F (args.map sealV) h fun v h=>some (v,h))
    unfold pk19
    split
    · repeat' first | exact par_leaf | exact par_no | apply par_cnd | (refine par_bnd fun _=>?_) | (refine par_cast fun _=>?_) | (refine par_ptr fun _ _=>?_)
    · exact par_no
  · change pk19 none F (args.map sealV) h (fun v h=>some (v,h)) = some (v,h') at hs
    generalize args.map sealV = l at hs ⊢
    unfold pk19 at hs
    split at hs
    · replace hs:=bnd_inv hs
      obtain ⟨r,hr,hs⟩:=hs
      cases hs
      exact (hF _ _ _ hr).plain.frame0 rfl rfl
    · cases hs
theorem enc19_inj:∀ a b,enc19 a = enc19 b → a = b:=by
  rintro _ _ e <;> simp_all [enc19]
def pk20 {Z:Type} (z:Z) (F:Int → Option (Bool)) (args:List AV) (h:Heap) (K:AV → Heap → Z):Z:=match args with | [.dat (.int .u8 a0)]=>(bnd z (F a0) fun r=>K (.dat (.bool r)) h) | _=>z
def e20 (f:Nat) (F:Int → Option (Bool)):Ent1:=([f],fun l h K=>pk20 False F (l.map sealV) h K,fun l h=>pk20 none F (l.map sealV) h fun v h=>some (v,h))
def enc20 (r:Bool):AV × Heap:=((.dat (.bool r)),[])
theorem e20_ok {f:Nat} {F:Int → Option (Bool)} (hF:∀ (a0:Int) (r:Bool),F a0 = some r → CallX Try.prog [] f [.dat (.int .u8 a0)] [] (enc20 r).1 (enc20 r).2):EntryOk Try.prog (e20 f F):=by
  refine ⟨fun args h K=>?_,fun args h v h' hs=>call1_seal ?_⟩
  · show Par K (pk20 False F (args.map sealV) h K) (pk20 none F (args.map sealV) h fun v h=>some (v,h))
    unfold pk20
    split
    · repeat' first | exact par_leaf | exact par_no | apply par_cnd | (refine par_bnd fun _=>?_) | (refine par_cast fun _=>?_) | (refine par_ptr fun _ _=>?_)
    · exact par_no
  · change pk20 none F (args.map sealV) h (fun v h=>some (v,h)) = some (v,h') at hs
    generalize args.map sealV = l at hs ⊢
    unfold pk20 at hs
    split at hs
    · replace hs:=bnd_inv hs
      obtain ⟨r,hr,hs⟩:=hs
      cases hs
      exact (hF _ _ hr).plain.frame0 rfl rfl
    · cases hs
theorem enc20_inj:∀ a b,enc20 a = enc20 b → a = b:=by
  rintro _ _ e <;> simp_all [enc20]
def pk21 {Z:Type} (z:Z) (F:B47 → Option (B47)) (args:List AV) (h:Heap) (K:AV → Heap → Z):Z:=match args with | [.ptr (some (i0,0))]=>(k47 z h i0 fun s0=>bnd z (F s0) fun r=>gcas (r).c2 (K (.tuple []) (h.set i0 (some (.cells 47 [.dat (.str (r).c0),.dat (.int .i64 (r).c1),.dat .nils] (r).ver)))) (z) fun es0 w0=>K (.tuple []) (h.set i0 (some (.cells 47 [.dat (.str (r).c0),.dat (.int .i64 (r).c1),.own (.at i0 2 w0 34) es0] (r).ver)))) | _=>z
def e21 (f:Nat) (F:B47 → Option (B47)):Ent1:=([f],fun l h K=>pk21 False F (l.map sealV) h K,fun l h=>pk21 none F (l.map sealV) h fun v h=>some (v,h))
def enc21 (r:B47):AV × Heap:=((.tuple []),[b47 0 r])
theorem e21_ok {f:Nat} {F:B47 → Option (B47)} (hF:∀ (s0:B47) (r:B47),F s0 = some r → CallX Try.prog [true] f [.ptr (some (0,0))] [b47 0 s0] (enc21 r).1 (enc21 r).2):EntryOk Try.prog (e21 f F):=by
  refine ⟨fun args h K=>?_,fun args h v h' hs=>call1_seal ?_⟩
  · show Par K (pk21 False F (args.map sealV) h K) (pk21 none F (args.map sealV) h fun v h=>some (v,h))
    unfold pk21
    split
    · repeat' first | exact par_leaf | exact par_no | apply par_cnd | (refine par_bnd fun _=>?_) | (refine par_cast fun _=>?_) | (refine par_ptr fun _ _=>?_) | (refine par_k47 fun _=>?_) | (refine par_gcas ?_ ?_ fun _ _=>?_)
    · exact par_no
  · change pk21 none F (args.map sealV) h (fun v h=>some (v,h)) = some (v,h') at hs
    generalize args.map sealV = l at hs ⊢
    unfold pk21 at hs
    split at hs
    · replace hs:=k47_inv hs
      obtain ⟨s0,hi0,hs⟩:=hs
      replace hs:=bnd_inv hs
      obtain ⟨r,hr,hs⟩:=hs
      obtain ⟨_,_,g0,_⟩:=r
      rcases g0 with _ | _ | ⟨_,_⟩
      all_goals cases hs
      all_goals exact (hF _ _ hr).frame0 (by simp) (is:=[_]) (os:=[_]) (fun a b h1 h2=>by simp only [List.length_cons,List.length_nil] at h2; omega) rfl rfl rfl rfl rfl (all_j (all_s ⟨_,_,_,_,hi0,rfl,rfl,rfl,seenX47 rfl rfl (by simp)⟩ all_z))
    · cases hs
theorem enc21_inj:∀ a b,enc21 a = enc21 b → a = b:=by
  rintro ⟨_,_,g0,_⟩ ⟨_,_,h0,_⟩ e <;> rcases g0 with _ | _ | ⟨_,_⟩ <;> rcases h0 with _ | _ | ⟨_,_⟩ <;> simp_all [enc21,b47,o47,gcas]
def pk22 {Z:Type} (z:Z) (F:B47 → Option (Int × B47)) (args:List AV) (h:Heap) (K:AV → Heap → Z):Z:=match args with | [.ptr (some (i0,0))]=>(k47 z h i0 fun s0=>bnd z (F s0) fun r=>gcas (r.2).c2 (K (.dat (.int .i64 (r.1))) (h.set i0 (some (.cells 47 [.dat (.str (r.2).c0),.dat (.int .i64 (r.2).c1),.dat .nils] (r.2).ver)))) (z) fun es0 w0=>K (.dat (.int .i64 (r.1))) (h.set i0 (some (.cells 47 [.dat (.str (r.2).c0),.dat (.int .i64 (r.2).c1),.own (.at i0 2 w0 34) es0] (r.2).ver)))) | _=>z
def e22 (f:Nat) (F:B47 → Option (Int × B47)):Ent1:=([f],fun l h K=>pk22 False F (l.map sealV) h K,fun l h=>pk22 none F (l.map sealV) h fun v h=>some (v,h))
def enc22 (r:Int × B47):AV × Heap:=((.dat (.int .i64 (r.1))),[b47 0 (r.2)])
theorem e22_ok {f:Nat} {F:B47 → Option (Int × B47)} (hF:∀ (s0:B47) (r:Int × B47),F s0 = some r → CallX Try.prog [true] f [.ptr (some (0,0))] [b47 0 s0] (enc22 r).1 (enc22 r).2):EntryOk Try.prog (e22 f F):=by
  refine ⟨fun args h K=>?_,fun args h v h' hs=>call1_seal ?_⟩
  · show Par K (pk22 False F (args.map sealV) h K) (pk22 none F (args.map sealV) h fun v h=>some (v,h))
    unfold pk22
    split
    · repeat' first | exact par_leaf | exact par_no | apply par_cnd | (refine par_bnd fun _=>?_) | (refine par_cast fun _=>?_) | (refine par_ptr fun _ _=>?_) | (refine par_k47 fun _=>?_) | (refine par_gcas ?_ ?_ fun _ _=>?_)
    · exact par_no
  · change pk22 none F (args.map sealV) h (fun v h=>some (v,h)) = some (v,h') at hs
    generalize args.map sealV = l at hs ⊢
    unfold pk22 at hs
    split at hs
    · replace hs:=k47_inv hs
      obtain ⟨s0,hi0,hs⟩:=hs
      replace hs:=bnd_inv hs
      obtain ⟨r,hr,hs⟩:=hs
      obtain ⟨_,⟨_,_,g0,_⟩⟩:=r
      rcases g0 with _ | _ | ⟨_,_⟩
      all_goals cases hs
      all_goals exact (hF _ _ hr).frame0 (by simp) (is:=[_]) (os:=[_]) (fun a b h1 h2=>by simp only [List.length_cons,List.length_nil] at h2; omega) rfl rfl rfl rfl rfl (all_j (all_s ⟨_,_,_,_,hi0,rfl,rfl,rfl,seenX47 rfl rfl (by simp)⟩ all_z))
    · cases hs
theorem enc22_inj:∀ a b,enc22 a = enc22 b → a = b:=by
  rintro ⟨_,⟨_,_,g0,_⟩⟩ ⟨_,⟨_,_,h0,_⟩⟩ e <;> rcases g0 with _ | _ | ⟨_,_⟩ <;> rcases h0 with _ | _ | ⟨_,_⟩ <;> simp_all [enc22,b47,o47,gcas]
def pk23 {Z:Type} (z:Z) (t0:Nat) (F:B47 → D → Option (Int × B47)) (args:List AV) (h:Heap) (K:AV → Heap → Z):Z:=match args with | [.ptr (some (i0,0)),.dat a1]=>(k47 z h i0 fun s0=>cnd (okG t0 a1) (bnd z (F s0 a1) fun r=>gcas (r.2).c2 (K (.dat (.int .i64 (r.1))) (h.set i0 (some (.cells 47 [.dat (.str (r.2).c0),.dat (.int .i64 (r.2).c1),.dat .nils] (r.2).ver)))) (z) fun es0 w0=>K (.dat (.int .i64 (r.1))) (h.set i0 (some (.cells 47 [.dat (.str (r.2).c0),.dat (.int .i64 (r.2).c1),.own (.at i0 2 w0 34) es0] (r.2).ver)))) z) | _=>z
def e23 (f t0:Nat) (F:B47 → D → Option (Int × B47)):Ent1:=([f],fun l h K=>pk23 False t0 F (l.map sealV) h K,fun l h=>pk23 none t0 F (l.map sealV) h fun v h=>some (v,h))
def enc23 (r:Int × B47):AV × Heap:=((.dat (.int .i64 (r.1))),[b47 0 (r.2)])
theorem e23_ok {f t0:Nat} {F:B47 → D → Option (Int × B47)} (hF:∀ (s0:B47) (a1:D) (r:Int × B47),F s0 a1 = some r → CallX Try.prog [true] f [.ptr (some (0,0)),.dat (G t0 a1)] [b47 0 s0] (enc23 r).1 (enc23 r).2):EntryOk Try.prog (e23 f t0 F):=by
  refine ⟨fun args h K=>?_,fun args h v h' hs=>call1_seal ?_⟩
  · show Par K (pk23 False t0 F (args.map sealV) h K) (pk23 none t0 F (args.map sealV) h fun v h=>some (v,h))
    unfold pk23
    split
    · repeat' first | exact par_leaf | exact par_no | apply par_cnd | (refine par_bnd fun _=>?_) | (refine par_cast fun _=>?_) | (refine par_ptr fun _ _=>?_) | (refine par_k47 fun _=>?_) | (refine par_gcas ?_ ?_ fun _ _=>?_)
    · exact par_no
  · change pk23 none t0 F (args.map sealV) h (fun v h=>some (v,h)) = some (v,h') at hs
    generalize args.map sealV = l at hs ⊢
    unfold pk23 at hs
    split at hs
    · replace hs:=k47_inv hs
      obtain ⟨s0,hi0,hs⟩:=hs
      replace hs:=cnd_inv hs
      obtain ⟨ho1,hs⟩:=hs
      replace hs:=bnd_inv hs
      obtain ⟨r,hr,hs⟩:=hs
      obtain ⟨_,⟨_,_,g0,_⟩⟩:=r
      rcases g0 with _ | _ | ⟨_,_⟩
      all_goals cases hs
      all_goals rw [ok_eq ho1]
      all_goals exact (hF _ _ _ hr).frame0 (by simp) (is:=[_]) (os:=[_]) (fun a b h1 h2=>by simp only [List.length_cons,List.length_nil] at h2; omega) rfl rfl rfl rfl rfl (all_j (all_s ⟨_,_,_,_,hi0,rfl,rfl,rfl,seenX47 rfl rfl (by simp)⟩ all_z))
    · cases hs
theorem enc23_inj:∀ a b,enc23 a = enc23 b → a = b:=by
  rintro ⟨_,⟨_,_,g0,_⟩⟩ ⟨_,⟨_,_,h0,_⟩⟩ e <;> rcases g0 with _ | _ | ⟨_,_⟩ <;> rcases h0 with _ | _ | ⟨_,_⟩ <;> simp_all [enc23,b47,o47,gcas]
def pk24 {Z:Type} (z:Z) (F:B47 → Int → Option (Int × B47)) (args:List AV) (h:Heap) (K:AV → Heap → Z):Z:=match args with | [.ptr (some (i0,0)),.dat (.int .i64 a1)]=>(k47 z h i0 fun s0=>bnd z (F s0 a1) fun r=>gcas (r.2).c2 (K (.dat (.int .i64 (r.1))) (h.set i0 (some (.cells 47 [.dat (.str (r.2).c0),.dat (.int .i64 (r.2).c1),.dat .nils] (r.2).ver)))) (z) fun es0 w0=>K (.dat (.int .i64 (r.1))) (h.set i0 (some (.cells 47 [.dat (.str (r.2).c0),.dat (.int .i64 (r.2).c1),.own (.at i0 2 w0 34) es0] (r.2).ver)))) | _=>z
def e24 (f:Nat) (F:B47 → Int → Option (Int × B47)):Ent1:=([f],fun l h K=>pk24 False F (l.map sealV) h K,fun l h=>pk24 none F (l.map sealV) h fun v h=>some (v,h))
def enc24 (r:Int × B47):AV × Heap:=((.dat (.int .i64 (r.1))),[b47 0 (r.2)])
theorem e24_ok {f:Nat} {F:B47 → Int → Option (Int × B47)} (hF:∀ (s0:B47) (a1:Int) (r:Int × B47),F s0 a1 = some r → CallX Try.prog [true] f [.ptr (some (0,0)),.dat (.int .i64 a1)] [b47 0 s0] (enc24 r).1 (enc24 r).2):EntryOk Try.prog (e24 f F):=by
  refine ⟨fun args h K=>?_,fun args h v h' hs=>call1_seal ?_⟩
  · show Par K (pk24 False F (args.map sealV) h K) (pk24 none F (args.map sealV) h fun v h=>some (v,h))
    unfold pk24
    split
    · repeat' first | exact par_leaf | exact par_no | apply par_cnd | (refine par_bnd fun _=>?_) | (refine par_cast fun _=>?_) | (refine par_ptr fun _ _=>?_) | (refine par_k47 fun _=>?_) | (refine par_gcas ?_ ?_ fun _ _=>?_)
    · exact par_no
  · change pk24 none F (args.map sealV) h (fun v h=>some (v,h)) = some (v,h') at hs
    generalize args.map sealV = l at hs ⊢
    unfold pk24 at hs
    split at hs
    · replace hs:=k47_inv hs
      obtain ⟨s0,hi0,hs⟩:=hs
      replace hs:=bnd_inv hs
      obtain ⟨r,hr,hs⟩:=hs
      obtain ⟨_,⟨_,_,g0,_⟩⟩:=r
      rcases g0 with _ | _ | ⟨_,_⟩
      all_goals cases hs
      all_goals exact (hF _ _ _ hr).frame0 (by simp) (is:=[_]) (os:=[_]) (fun a b h1 h2=>by simp only [List.length_cons,List.length_nil] at h2; omega) rfl rfl rfl rfl rfl (all_j (all_s ⟨_,_,_,_,hi0,rfl,rfl,rfl,seenX47 rfl rfl (by simp)⟩ all_z))
    · cases hs
theorem enc24_inj:∀ a b,enc24 a = enc24 b → a = b:=by
  rintro ⟨_,⟨_,_,g0,_⟩⟩ ⟨_,⟨_,_,h0,_⟩⟩ e <;> rcases g0 with _ | _ | ⟨_,_⟩ <;> rcases h0 with _ | _ | ⟨_,_⟩ <;> simp_all [enc24,b47,o47,gcas]
def pk25 {Z:Type} (z:Z) (k0:Nat) (F:B47 → Option (List UInt8 × B47)) (args:List AV) (h:Heap) (K:AV → Heap → Z):Z:=match args with | [.ptr (some (i0,0)),.func (.func g1) [] []]=>(cnd (Nat.beq g1 k0) (k47 z h i0 fun s0=>bnd z (F s0) fun r=>gcas (r.2).c2 (K (.dat (.str (r.1))) (h.set i0 (some (.cells 47 [.dat (.str (r.2).c0),.dat (.int .i64 (r.2).c1),.dat .nils] (r.2).ver)))) (z) fun es0 w0=>K (.dat (.str (r.1))) (h.set i0 (some (.cells 47 [.dat (.str (r.2).c0),.dat (.int .i64 (r.2).c1),.own (.at i0 2 w0 34) es0] (r.2).ver)))) z) | _=>z
def e25 (f k0:Nat) (F:B47 → Option (List UInt8 × B47)):Ent1:=([f,k0],fun l h K=>pk25 False k0 F (l.map sealV) h K,fun l h=>pk25 none k0 F (l.map sealV) h fun v h=>some (v,h))
def enc25 (r:List UInt8 × B47):AV × Heap:=((.dat (.str (r.1))),[b47 0 (r.2)])
theorem e25_ok {f k0:Nat} {F:B47 → Option (List UInt8 × B47)} (hF:∀ (s0:B47) (r:List UInt8 × B47),F s0 = some r → CallX Try.prog [true] f [.ptr (some (0,0)),.func (.func k0) [] []] [b47 0 s0] (enc25 r).1 (enc25 r).2):EntryOk Try.prog (e25 f k0 F):=by
  refine ⟨fun args h K=>?_,fun args h v h' hs=>call1_seal ?_⟩
  · show Par K (pk25 False k0 F (args.map sealV) h K) (pk25 none k0 F (args.map sealV) h fun v h=>some (v,h))
    unfold pk25
    split
    · repeat' first | exact par_leaf | exact par_no | apply par_cnd | (refine par_bnd fun _=>?_) | (refine par_cast fun _=>?_) | (refine par_ptr fun _ _=>?_) | (refine par_k47 fun _=>?_) | (refine par_gcas ?_ ?_ fun _ _=>?_)
    · exact par_no
  · change pk25 none k0 F (args.map sealV) h (fun v h=>some (v,h)) = some (v,h') at hs
    generalize args.map sealV = l at hs ⊢
    unfold pk25 at hs
    split at hs
    · replace hs:=beq_inv hs
      obtain ⟨eg,hs⟩:=hs
      try subst eg
      replace hs:=k47_inv hs
      obtain ⟨s0,hi0,hs⟩:=hs
      replace hs:=bnd_inv hs
      obtain ⟨r,hr,hs⟩:=hs
      obtain ⟨_,⟨_,_,g0,_⟩⟩:=r
      rcases g0 with _ | _ | ⟨_,_⟩
      all_goals cases hs
      all_goals exact (hF _ _ hr).frame0 (by simp) (is:=[_]) (os:=[_]) (fun a b h1 h2=>by simp only [List.length_cons,List.length_nil] at h2; omega) rfl rfl rfl rfl rfl (all_j (all_s ⟨_,_,_,_,hi0,rfl,rfl,rfl,seenX47 rfl rfl (by simp)⟩ all_z))
    · cases hs
theorem enc25_inj:∀ a b,enc25 a = enc25 b → a = b:=by
  rintro ⟨_,⟨_,_,g0,_⟩⟩ ⟨_,⟨_,_,h0,_⟩⟩ e <;> rcases g0 with _ | _ | ⟨_,_⟩ <;> rcases h0 with _ | _ | ⟨_,_⟩ <;> simp_all [enc25,b47,o47,gcas]
def pk26 {Z:Type} (z:Z) (F:List UInt8 → Option (D × Int × Int)) (args:List AV) (h:Heap) (K:AV → Heap → Z):Z:=match args with | [.dat (.str a0)]=>(bnd z (F a0) fun r=>K (.tuple [(.dat (r.1)),(.dat (.int .i64 (r.2.1))),(.dat (.int .i64 (r.2.2)))]) h) | _=>z
def e26 (f:Nat) (F:List UInt8 → Option (D × Int × Int)):Ent1:=([f],fun l h K=>pk26 False F (l.map sealV) h K,fun l h=>pk26 none F (l.map sealV) h fun v h=>some (v,h))
def enc26 (r:D × Int × Int):AV × Heap:=((.tuple [.dat (r.1),.dat (.int .i64 (r.2.1)),.dat (.int .i64 (r.2.2))]),[])
theorem e26_ok {f:Nat} {F:List UInt8 → Option (D × Int × Int)} (hF:∀ (a0:List UInt8) (r:D × Int × Int),F a0 = some r → CallX Try.prog [] f [.dat (.str a0)] [] (enc26 r).1 (enc26 r).2):EntryOk Try.prog (e26 f F):=by
  refine ⟨fun args h K=>?_,fun args h v h' hs=>call1_seal ?_⟩
  · show Par K (pk26 False F (args.map sealV) h K) (pk26 none F (args.map sealV) h fun v h=>some (v,h))
    unfold pk26
    split
    · repeat' first | exact par_leaf | exact par_no | apply par_cnd | (refine par_bnd fun _=>?_) | (refine par_cast fun _=>?_) | (refine par_ptr fun _ _=>?_)
    · exact par_no
  · change pk26 none F (args.map sealV) h (fun v h=>some (v,h)) = some (v,h') at hs
    generalize args.map sealV = l at hs ⊢
    unfold pk26 at hs
    split at hs
    · replace hs:=bnd_inv hs
      obtain ⟨r,hr,hs⟩:=hs
      cases hs
      exact (hF _ _ hr).plain.frame0 rfl rfl
    · cases hs
theorem enc26_inj:∀ a b,enc26 a = enc26 b → a = b:=by
  rintro ⟨_,_,_⟩ ⟨_,_,_⟩ e <;> simp_all [enc26]
def pk27 {Z:Type} (z:Z) (F:List UInt8 → List UInt8 → Option (Bool)) (args:List AV) (h:Heap) (K:AV → Heap → Z):Z:=match args with | [.dat (.str a0),.dat (.str a1)]=>(bnd z (F a0 a1) fun r=>K (.dat (.bool r)) h) | _=>z
def e27 (f:Nat) (F:List UInt8 → List UInt8 → Option (Bool)):Ent1:=([f],fun l h K=>pk27 False F (l.map sealV) h K,fun l h=>pk27 none F (l.map sealV) h fun v h=>some (v,h))
def enc27 (r:Bool):AV × Heap:=((.dat (.bool r)),[])
theorem e27_ok {f:Nat} {F:List UInt8 → List UInt8 → Option (Bool)} (hF:∀ (a0:List UInt8) (a1:List UInt8) (r:Bool),F a0 a1 = some r → CallX Try.prog [] f [.dat (.str a0),.dat (.str a1)] [] (enc27 r).1 (enc27 r).2):EntryOk Try.prog (e27 f F):=by
  refine ⟨fun args h K=>?_,fun args h v h' hs=>call1_seal ?_⟩
  · show Par K (pk27 False F (args.map sealV) h K) (pk27 none F (args.map sealV) h fun v h=>some (v,h))
    unfold pk27
    split
    · repeat' first | exact par_leaf | exact par_no | apply par_cnd | (refine par_bnd fun _=>?_) | (refine par_cast fun _=>?_) | (refine par_ptr fun _ _=>?_)
    · exact par_no
  · change pk27 none F (args.map sealV) h (fun v h=>some (v,h)) = some (v,h') at hs
    generalize args.map sealV = l at hs ⊢
    unfold pk27 at hs
    split at hs
    · replace hs:=bnd_inv hs
      obtain ⟨r,hr,hs⟩:=hs
      cases hs
      exact (hF _ _ _ hr).plain.frame0 rfl rfl
    · cases hs
theorem enc27_inj:∀ a b,enc27 a = enc27 b → a = b:=by
  rintro _ _ e <;> simp_all [enc27]
def pk28 {Z:Type} (z:Z) (F:List UInt8 → Int → Option (Int)) (args:List AV) (h:Heap) (K:AV → Heap → Z):Z:=match args with | [.dat (.str a0),.dat (.int .u8 a1)]=>(bnd z (F a0 a1) fun r=>K (.dat (.int .i64 r)) h) | _=>z
def e28 (f:Nat) (F:List UInt8 → Int → Option (Int)):Ent1:=([f],fun l h K=>pk28 False F (l.map sealV) h K,fun l h=>pk28 none F (l.map sealV) h fun v h=>some (v,h))
def enc28 (r:Int):AV × Heap:=((.dat (.int .i64 r)),[])
theorem e28_ok {f:Nat} {F:List UInt8 → Int → Option (Int)} (hF:∀ (a0:List UInt8) (a1:Int) (r:Int),F a0 a1 = some r → CallX Try.prog [] f [.dat (.str a0),.dat (.int .u8 a1)] [] (enc28 r).1 (enc28 r).2):EntryOk Try.prog (e28 f F):=by
  refine ⟨fun args h K=>?_,fun args h v h' hs=>call1_seal ?_⟩
  · show Par K (pk28 False F (args.map sealV) h K) (pk28 none F (args.map sealV) h fun v h=>some (v,h))
    unfold pk28
    split
    · repeat' first | exact par_leaf | exact par_no | apply par_cnd | (refine par_bnd fun _=>?_) | (refine par_cast fun _=>?_) | (refine par_ptr fun _ _=>?_)
    · exact par_no
  · change pk28 none F (args.map sealV) h (fun v h=>some (v,h)) = some (v,h') at hs
    generalize args.map sealV = l at hs ⊢
    unfold pk28 at hs
    split at hs
    · replace hs:=bnd_inv hs
      obtain ⟨r,hr,hs⟩:=hs
      cases hs
      exact (hF _ _ _ hr).plain.frame0 rfl rfl
    · cases hs
theorem enc28_inj:∀ a b,enc28 a = enc28 b → a = b:=by
  rintro _ _ e <;> simp_all [enc28]
def pk29 {Z:Type} (z:Z) (F:B92 → Option (B92)) (args:List AV) (h:Heap) (K:AV → Heap → Z):Z:=match args with | [.ptr (some (i0,0))]=>(k92 z h i0 fun s0=>bnd z (F s0) fun r=>gcas (r).c1 (z) (K (.tuple []) (h.set i0 (some (.cells 92 [.ptr (some (i0,0)),.dat .nils] (r).ver)))) fun es0 w0=>K (.tuple []) (h.set i0 (some (.cells 92 [.ptr (some (i0,0)),.own (.at i0 1 w0 5) es0] (r).ver)))) | _=>z
def e29 (f:Nat) (F:B92 → Option (B92)):Ent1:=([f],fun l h K=>pk29 False F (l.map sealV) h K,fun l h=>pk29 none F (l.map sealV) h fun v h=>some (v,h))
def enc29 (r:B92):AV × Heap:=((.tuple []),[b92 0 r])
theorem e29_ok {f:Nat} {F:B92 → Option (B92)} (hF:∀ (s0:B92) (r:B92),F s0 = some r → CallX Try.prog [true] f [.ptr (some (0,0))] [b92 0 s0] (enc29 r).1 (enc29 r).2):EntryOk Try.prog (e29 f F):=by
  refine ⟨fun args h K=>?_,fun args h v h' hs=>call1_seal ?_⟩
  · show Par K (pk29 False F (args.map sealV) h K) (pk29 none F (args.map sealV) h fun v h=>some (v,h))
    unfold pk29
    split
    · repeat' first | exact par_leaf | exact par_no | apply par_cnd | (refine par_bnd fun _=>?_) | (refine par_cast fun _=>?_) | (refine par_ptr fun _ _=>?_) | (refine par_k92 fun _=>?_) | (refine par_gcas ?_ ?_ fun _ _=>?_)
    · exact par_no
  · change pk29 none F (args.map sealV) h (fun v h=>some (v,h)) = some (v,h') at hs
    generalize args.map sealV = l at hs ⊢
    unfold pk29 at hs
    split at hs
    · replace hs:=k92_inv hs
      obtain ⟨s0,hi0,hs⟩:=hs
      replace hs:=bnd_inv hs
      obtain ⟨r,hr,hs⟩:=hs
      obtain ⟨g0,_⟩:=r
      rcases g0 with _ | _ | ⟨_,_⟩
      all_goals cases hs
      all_goals exact (hF _ _ hr).frame0 (by simp) (is:=[_]) (os:=[_]) (fun a b h1 h2=>by simp only [List.length_cons,List.length_nil] at h2; omega) rfl rfl rfl rfl rfl (all_j (all_s ⟨_,_,_,_,hi0,rfl,rfl,rfl,seenX92 rfl rfl (by simp)⟩ all_z))
    · cases hs
theorem enc29_inj:∀ a b,enc29 a = enc29 b → a = b:=by
  rintro ⟨g0,_⟩ ⟨h0,_⟩ e <;> rcases g0 with _ | _ | ⟨_,_⟩ <;> rcases h0 with _ | _ | ⟨_,_⟩ <;> simp_all [enc29,b92,o92,gcas]
def pk30 {Z:Type} (z:Z) (F:B92 → Int → Option (Unit × B92)) (args:List AV) (h:Heap) (K:AV → Heap → Z):Z:=match args with | [.ptr (some (i0,0)),.dat (.int .u8 a1)]=>(k92 z h i0 fun s0=>bnd z (F s0 a1) fun r=>gcas (r.2).c1 (K .nilIface (h.set i0 (some (.cells 92 [.ptr none,.dat .nils] (r.2).ver)))) (K .nilIface (h.set i0 (some (.cells 92 [.ptr (some (i0,0)),.dat .nils] (r.2).ver)))) fun es0 w0=>K .nilIface (h.set i0 (some (.cells 92 [.ptr (some (i0,0)),.own (.at i0 1 w0 5) es0] (r.2).ver)))) | _=>z
def e30 (f:Nat) (F:B92 → Int → Option (Unit × B92)):Ent1:=([f],fun l h K=>pk30 False F (l.map sealV) h K,fun l h=>pk30 none F (l.map sealV) h fun v h=>some (v,h))
def enc30 (r:Unit × B92):AV × Heap:=((.nilIface),[b92 0 (r.2)])
theorem e30_ok {f:Nat} {F:B92 → Int → Option (Unit × B92)} (hF:∀ (s0:B92) (a1:Int) (r:Unit × B92),F s0 a1 = some r → CallX Try.prog [true] f [.ptr (some (0,0)),.dat (.int .u8 a1)] [b92 0 s0] (enc30 r).1 (enc30 r).2):EntryOk Try.prog (e30 f F):=by
  refine ⟨fun args h K=>?_,fun args h v h' hs=>call1_seal ?_⟩
  · show Par K (pk30 False F (args.map sealV) h K) (pk30 none F (args.map sealV) h fun v h=>some (v,h))
    unfold pk30
    split
    · repeat' first | exact par_leaf | exact par_no | apply par_cnd | (refine par_bnd fun _=>?_) | (refine par_cast fun _=>?_) | (refine par_ptr fun _ _=>?_) | (refine par_k92 fun _=>?_) | (refine par_gcas ?_ ?_ fun _ _=>?_)
    · exact par_no
  · change pk30 none F (args.map sealV) h (fun v h=>some (v,h)) = some (v,h') at hs
    generalize args.map sealV = l at hs ⊢
    unfold pk30 at hs
    split at hs
    · replace hs:=k92_inv hs
      obtain ⟨s0,hi0,hs⟩:=hs
      replace hs:=bnd_inv hs
      obtain ⟨r,hr,hs⟩:=hs
      obtain ⟨_,⟨g0,_⟩⟩:=r
      rcases g0 with _ | _ | ⟨_,_⟩
      all_goals cases hs
      all_goals exact (hF _ _ _ hr).frame0 (by simp) (is:=[_]) (os:=[_]) (fun a b h1 h2=>by simp only [List.length_cons,List.length_nil] at h2; omega) rfl rfl rfl rfl rfl (all_j (all_s ⟨_,_,_,_,hi0,rfl,rfl,rfl,seenX92 rfl rfl (by simp)⟩ all_z))
    · cases hs
theorem enc30_inj:∀ a b,enc30 a = enc30 b → a = b:=by
  rintro ⟨_,⟨g0,_⟩⟩ ⟨_,⟨h0,_⟩⟩ e <;> rcases g0 with _ | _ | ⟨_,_⟩ <;> rcases h0 with _ | _ | ⟨_,_⟩ <;> simp_all [enc30,b92,o92,gcas]
def pk31 {Z:Type} (z:Z) (F:B92 → Option (Int × B92)) (args:List AV) (h:Heap) (K:AV → Heap → Z):Z:=match args with | [.ptr (some (i0,0))]=>(k92 z h i0 fun s0=>bnd z (F s0) fun r=>gcas (r.2).c1 (K (.dat (.int .i64 (r.1))) (h.set i0 (some (.cells 92 [.ptr none,.dat .nils] (r.2).ver)))) (K (.dat (.int .i64 (r.1))) (h.set i0 (some (.cells 92 [.ptr (some (i0,0)),.dat .nils] (r.2).ver)))) fun es0 w0=>K (.dat (.int .i64 (r.1))) (h.set i0 (some (.cells 92 [.ptr (some (i0,0)),.own (.at i0 1 w0 5) es0] (r.2).ver)))) | _=>z
def e31 (f:Nat) (F:B92 → Option (Int × B92)):Ent1:=([f],fun l h K=>pk31 False F (l.map sealV) h K,fun l h=>pk31 none F (l.map sealV) h fun v h=>some (v,h))
def enc31 (r:Int × B92):AV × Heap:=((.dat (.int .i64 (r.1))),[b92 0 (r.2)])
theorem e31_ok {f:Nat} {F:B92 → Option (Int × B92)} (hF:∀ (s0:B92) (r:Int × B92),F s0 = some r → CallX Try.prog [true] f [.ptr (some (0,0))] [b92 0 s0] (enc31 r).1 (enc31 r).2):EntryOk Try.prog (e31 f F):=by
  refine ⟨fun args h K=>?_,fun args h v h' hs=>call1_seal ?_⟩
  · show Par K (pk31 False F (args.map sealV) h K) (pk31 none F (args.map sealV) h fun v h=>some (v,h))
    unfold pk31
    split
    · repeat' first | exact par_leaf | exact par_no | apply par_cnd | (refine par_bnd fun _=>?_) | (refine par_cast fun _=>?_) | (refine par_ptr fun _ _=>?_) | (refine par_k92 fun _=>?_) | (refine par_gcas ?_ ?_ fun _ _=>?_)
    · exact par_no
  · change pk31 none F (args.map sealV) h (fun v h=>some (v,h)) = some (v,h') at hs
    generalize args.map sealV = l at hs ⊢
    unfold pk31 at hs
    split at hs
    · replace hs:=k92_inv hs
      obtain ⟨s0,hi0,hs⟩:=hs
      replace hs:=bnd_inv hs
      obtain ⟨r,hr,hs⟩:=hs
      obtain ⟨_,⟨g0,_⟩⟩:=r
      rcases g0 with _ | _ | ⟨_,_⟩
      all_goals cases hs
      all_goals exact (hF _ _ hr).frame0 (by simp) (is:=[_]) (os:=[_]) (fun a b h1 h2=>by simp only [List.length_cons,List.length_nil] at h2; omega) rfl rfl rfl rfl rfl (all_j (all_s ⟨_,_,_,_,hi0,rfl,rfl,rfl,seenX92 rfl rfl (by simp)⟩ all_z))
    · cases hs
theorem enc31_inj:∀ a b,enc31 a = enc31 b → a = b:=by
  rintro ⟨_,⟨g0,_⟩⟩ ⟨_,⟨h0,_⟩⟩ e <;> rcases g0 with _ | _ | ⟨_,_⟩ <;> rcases h0 with _ | _ | ⟨_,_⟩ <;> simp_all [enc31,b92,o92,gcas]
def pk32 {Z:Type} (z:Z) (F:B92 → Option (List UInt8 × B92)) (args:List AV) (h:Heap) (K:AV → Heap → Z):Z:=match args with | [.ptr (some (i0,0))]=>(k92 z h i0 fun s0=>bnd z (F s0) fun r=>gcas (r.2).c1 (K (.dat (.str (r.1))) (h.set i0 (some (.cells 92 [.ptr none,.dat .nils] (r.2).ver)))) (K (.dat (.str (r.1))) (h.set i0 (some (.cells 92 [.ptr (some (i0,0)),.dat .nils] (r.2).ver)))) fun es0 w0=>K (.dat (.str (r.1))) (h.set i0 (some (.cells 92 [.ptr (some (i0,0)),.own (.at i0 1 w0 5) es0] (r.2).ver)))) | _=>z
def e32 (f:Nat) (F:B92 → Option (List UInt8 × B92)):Ent1:=([f],fun l h K=>pk32 False F (l.map sealV) h K,fun l h=>pk32 none F (l.map sealV) h fun v h=>some (v,h))
def enc32 (r:List UInt8 × B92):AV × Heap:=((.dat (.str (r.1))),[b92 0 (r.2)])
theorem e32_ok {f:Nat} {F:B92 → Option (List UInt8 × B92)} (hF:∀ (s0:B92) (r:List UInt8 × B92),F s0 = some r → CallX Try.prog [true] f [.ptr (some (0,0))] [b92 0 s0] (enc32 r).1 (enc32 r).2):EntryOk Try.prog (e32 f F):=by
  refine ⟨fun args h K=>?_,fun args h v h' hs=>call1_seal ?_⟩
  · show Par K (pk32 False F (args.map sealV) h K) (pk32 none F (args.map sealV) h fun v h=>some (v,h))
    unfold pk32
    split
    · repeat' first | exact par_leaf | exact par_no | apply par_cnd | (refine par_bnd fun _=>?_) | (refine par_cast fun _=>?_) | (refine par_ptr fun _ _=>?_) | (refine par_k92 fun _=>?_) | (refine par_gcas ?_ ?_ fun _ _=>?_)
    · exact par_no
  · change pk32 none F (args.map sealV) h (fun v h=>some (v,h)) = some (v,h') at hs
    generalize args.map sealV = l at hs ⊢
    unfold pk32 at hs
    split at hs
    · replace hs:=k92_inv hs
      obtain ⟨s0,hi0,hs⟩:=hs
      replace hs:=bnd_inv hs
      obtain ⟨r,hr,hs⟩:=hs
      obtain ⟨_,⟨g0,_⟩⟩:=r
      rcases g0 with _ | _ | ⟨_,_⟩
      all_goals cases hs
      all_goals exact (hF _ _ hr).frame0 (by simp) (is:=[_]) (os:=[_]) (fun a b h1 h2=>by simp only [List.length_cons,List.length_nil] at h2; omega) rfl rfl rfl rfl rfl (all_j (all_s ⟨_,_,_,_,hi0,rfl,rfl,rfl,seenX92 rfl rfl (by simp)⟩ all_z))
    · cases hs
theorem enc32_inj:∀ a b,enc32 a = enc32 b → a = b:=by
  rintro ⟨_,⟨g0,_⟩⟩ ⟨_,⟨h0,_⟩⟩ e <;> rcases g0 with _ | _ | ⟨_,_⟩ <;> rcases h0 with _ | _ | ⟨_,_⟩ <;> simp_all [enc32,b92,o92,gcas]
def pk33 {Z:Type} (z:Z) (F:Option (Bool)) (args:List AV) (h:Heap) (K:AV → Heap → Z):Z:=match args with | []=>(bnd z (F ) fun r=>K (.dat (.bool r)) h) | _=>z
def e33 (f:Nat) (F:Option (Bool)):Ent1:=([f],fun l h K=>pk33 False F (l.map sealV) h K,fun l h=>pk33 none F (l.map sealV) h fun v h=>some (v,h))
def enc33 (r:Bool):AV × Heap:=((.dat (.bool r)),[])
theorem e33_ok {f:Nat} {F:Option (Bool)} (hF:∀ (r:Bool),F = some r → CallX Try.prog [] f [] [] (enc33 r).1 (enc33 r).2):EntryOk Try.prog (e33 f F):=by
  refine ⟨fun args h K=>?_,fun args h v h' hs=>call1_seal ?_⟩
  · show Par K (pk33 False F (args.map sealV) h K) (pk33 none F (args.map sealV) h fun v h=>some (v,h))
    unfold pk33
    split
    · repeat' first | exact par_leaf | exact par_no | apply par_cnd | (refine par_bnd fun _=>?_) | (refine par_cast fun _=>?_) | (refine par_ptr fun _ _=>?_)
    · exact par_no
  · change pk33 none F (args.map sealV) h (fun v h=>some (v,h)) = some (v,h') at hs
    generalize args.map sealV = l at hs ⊢
    unfold pk33 at hs
    split at hs
    · replace hs:=bnd_inv hs
      obtain ⟨r,hr,hs⟩:=hs
      cases hs
      exact (hF _ hr).plain.frame0 rfl rfl
    · cases hs
def enAll (S:Fns):List Ent1:=[e0 48 34 S.s_now,e1 49 S.s_fail,e2 74 S.s_sees,e3 75 S.s_next,e4 54 S.s_word,e4 82 S.s_mark,e5 84 S.s_must,e5 83 S.s_need,e6 104 S.s_named,e7 93 S.s_name,e8 91 S.s_number,e6 50 S.s_enter,e3 55 S.s_leave,e9 71 38 38 38 S.s_bin,e10 121 S.s_gathers,e11 51 52 54 38 S.s_left_or,e12 51 53 54 38 S.s_left_and,e12 51 109 82 38 S.s_left_sum,e12 51 115 82 38 S.s_left_prod,e13 72 53 38 S.s_inner_not,e13 72 115 38 S.s_inner_neg,e14 52 38 S.s_expr1,e0 27 38 S.s_expr,e0 53 38 S.s_not,e0 73 38 S.s_compared,e0 99 54 S.s_bracketed,e0 98 38 S.s_sum,e0 109 38 S.s_prod,e0 115 38 S.s_unary,e0 117 38 S.s_prim,e0 119 38 S.s_round,e0 118 38 S.s_cases,e0 120 38 S.s_column,e0 44 54 S.s_query,e0 66 54 S.s_part,e0 86 107 S.s_item,e0 90 109 S.s_key,e0 87 65 S.s_source,e0 102 65 S.s_single,e15 85 86 S.s_list_item,e15 88 27 S.s_list_expr,e15 89 90 S.s_list_key,e15 107 93 S.s_list_name,e16 25 26 38 S.s_readE,e0 26 38 S.s_Expr1,e17 15 38 S.S_Expr,e16 42 43 54 S.s_readQ,e0 43 54 S.s_Query1,e17 23 54 S.S_Query,e18 16 38 38 S.r_SameExpr,e19 28 S.r_SameExprs,e18 56 54 54 S.r_SameQuery,e19 29 S.r_SameQueries,e19 76 S.r_SameFroms,e10 11 S.t_Word,e20 36 S.t_letter,e20 38 S.t_digit,e21 20 S.t_pass,e22 21 S.t_next,e23 22 34 S.t_put,e22 37 S.t_name,e22 39 S.t_number,e22 40 S.t_text,e22 41 S.t_mark,e24 62 S.t_form,e25 60 61 S.t_run_name,e25 60 38 S.t_run_digit,e20 61 S.t_name1,e26 13 S.t_Scan,e27 35 S.g_HasPrefix,e28 34 S.g_IndexByte,e27 59 S.g_sHasPrefix,e28 58 S.g_sIndexByte,e28 80 S.g_IBS,e29 81 S.b_copyCheck,e30 63 S.b_WriteByte,e31 64 S.b_Len,e32 65 S.b_String,ent_g_NoEscape,e33 14 S.c_alive,e10 6 S.c_Round]
def FnsOk (S:Fns):Prop:=∀ x ∈ enAll S,EntryOk Try.prog x
end
end Go.Proofs.Ytfdcjngclelnhaa
