/- Part of a proof. -/
import Derived.Test.YtfdcjngclelnhaaGreatKT
set_option linter.unusedSectionVars false
set_option linter.unusedSimpArgs false
set_option linter.unusedVariables false
namespace Go.Proofs.YtfdcjngclelnhaaGreat
open Go Go.RowKit
set_option maxRecDepth 100000
set_option maxHeartbeats 4000000
noncomputable section
def Hp:Ent1:=([151],fun args h K=>match args with | [x]=>K x h | _=>False,primSame)
theorem Q0k:EntryOk Tryz.prog Hp:=by
 refine ⟨fun args h K hk=>?_,Q6g Tryz.func151 rfl rfl (by kernel_rfl) (by kernel_rfl)⟩
 unfold Hp at hk
 dsimp only at hk
 split at hk
 ·exact ⟨_,_,rfl,hk⟩
 ·exact hk.elim
structure Q9 where
 s_now:B105 → Option (D × B105)
 s_fail:B105 → Int → Option (B105)
 s_sees:B105 → Int → List UInt8 → Option (Bool × B105)
 s_next:B105 → Option (B105)
 s_word:B105 → List UInt8 → Option (Bool × B105)
 s_mark:B105 → List UInt8 → Option (Bool × B105)
 s_must:B105 → List UInt8 → Option (B105)
 s_need:B105 → List UInt8 → Option (B105)
 s_named:B105 → Option (Bool × B105)
 s_name:B105 → Option (List UInt8 × B105)
 s_number:B105 → Option (Int × B105)
 s_enter:B105 → Option (Bool × B105)
 s_leave:B105 → Option (B105)
 s_bin:List UInt8 → D → D → Option (D)
 s_gathers:List UInt8 → Option (Bool)
 s_left_or:B105 → D → Option (D × B105)
 s_left_and:B105 → D → Option (D × B105)
 s_left_sum:B105 → D → Option (D × B105)
 s_left_prod:B105 → D → Option (D × B105)
 s_inner_not:B105 → Int → Option (D × B105)
 s_inner_neg:B105 → Int → Option (D × B105)
 s_expr1:B105 → Option (D × B105)
 s_expr:B105 → Option (D × B105)
 s_not:B105 → Option (D × B105)
 s_compared:B105 → Option (D × B105)
 s_bracketed:B105 → Option (D × B105)
 s_sum:B105 → Option (D × B105)
 s_prod:B105 → Option (D × B105)
 s_unary:B105 → Option (D × B105)
 s_prim:B105 → Option (D × B105)
 s_round:B105 → Option (D × B105)
 s_cases:B105 → Option (D × B105)
 s_column:B105 → Option (D × B105)
 s_query:B105 → Option (D × B105)
 s_part:B105 → Option (D × B105)
 s_item:B105 → Option (D × B105)
 s_key:B105 → Option (D × B105)
 s_source:B105 → Option (D × B105)
 s_single:B105 → Option (D × B105)
 s_list_item:B105 → Option (D × B105)
 s_list_expr:B105 → Option (D × B105)
 s_list_key:B105 → Option (D × B105)
 s_list_name:B105 → Option (D × B105)
 s_readE:List UInt8 → Int → Option (D × Int × Int)
 s_Expr1:B105 → Option (D × B105)
 S_Expr:List UInt8 → Option (D × Int × Int)
 s_readQ:List UInt8 → Int → Option (D × Int × Int)
 s_Query1:B105 → Option (D × B105)
 S_Query:List UInt8 → Option (D × Int × Int)
 p_bad:B74 → Int → Option (B74)
 p_is:B74 → List UInt8 → Option (Bool × B74)
 p_take:B74 → List UInt8 → Option (Bool × B74)
 p_must:B74 → List UInt8 → Option (B74)
 p_down:B74 → Option (B74)
 p_name:B74 → Option (List UInt8 × B74)
 p_int:B74 → Option (Int × B74)
 p_exprs:B74 → Option (D × B74)
 p_Expr:B74 → Option (D × B74)
 p_and:B74 → Option (D × B74)
 p_not:B74 → Option (D × B74)
 p_oneOf:B74 → D → Option (List UInt8 × B74)
 p_cmp:B74 → Option (D × B74)
 p_sum:B74 → Option (D × B74)
 p_prod:B74 → Option (D × B74)
 p_unary:B74 → Option (D × B74)
 p_prim:B74 → Option (D × B74)
 p_Query:B74 → Option (D × B74)
 p_part:B74 → Option (D × B74)
 p_src:B74 → Option (D × B74)
 p_one:B74 → Option (D × B74)
 p_End:B74 → Option (Int × Int × B74)
 p_names:B74 → Option (D × B74)
 p_ty:B74 → Option (Int × B74)
 r_bin:List UInt8 → D → D → Option (D)
 r_New:List UInt8 → Int → Option (B74)
 r_Expr:List UInt8 → Option (D × Int × Int)
 r_Query:List UInt8 → Option (D × Int × Int)
 r_SameExpr:D → D → Option (Bool)
 r_SameExprs:D → D → Option (Bool)
 r_SameQuery:D → D → Option (Bool)
 r_SameQueries:D → D → Option (Bool)
 r_SameFroms:D → D → Option (Bool)
 r_SameTexts:D → D → Option (Bool)
 t_Word:List UInt8 → Option (Bool)
 k_Word:List UInt8 → Option (Bool)
 k_Words:Option (D)
 k_blank:Int → Option (Bool)
 k_letter:Int → Option (Bool)
 k_digit:Int → Option (Bool)
 k_text:List UInt8 → Int → Option (Int × List UInt8 × Int × Int)
 k_Marks:Option (D)
 k_one:List UInt8 → Int → Option (D × Int × Int × Int)
 k_Scan:List UInt8 → Option (D × Int × Int)
 t_letter:Int → Option (Bool)
 t_digit:Int → Option (Bool)
 t_pass:B132 → Option (B132)
 t_next:B132 → Option (Int × B132)
 t_put:B132 → D → Option (Int × B132)
 t_name:B132 → Option (Int × B132)
 t_number:B132 → Option (Int × B132)
 t_text:B132 → Option (Int × B132)
 t_mark:B132 → Option (Int × B132)
 t_form:B132 → Int → Option (Int × B132)
 t_run_name:B132 → Option (List UInt8 × B132)
 t_run_digit:B132 → Option (List UInt8 × B132)
 t_name1:Int → Option (Bool)
 t_Scan:List UInt8 → Option (D × Int × Int)
 g_HasPrefix:List UInt8 → List UInt8 → Option (Bool)
 g_IndexByte:List UInt8 → Int → Option (Int)
 g_sHasPrefix:List UInt8 → List UInt8 → Option (Bool)
 g_sIndexByte:List UInt8 → Int → Option (Int)
 g_IBS:List UInt8 → Int → Option (Int)
 b_copyCheck:B167 → Option (B167)
 b_WriteByte:B167 → Int → Option (Unit × B167)
 b_Len:B167 → Option (Int × B167)
 b_String:B167 → Option (List UInt8 × B167)
 c_alive:Option (Bool)
 c_Exprs:List UInt8 → Option (Bool)
 c_Queries:List UInt8 → Option (Bool)
 s_typed:B105 → Option (Int × B105)
 s_pair:B105 → Option (D × B105)
 s_edges:B105 → Option (D × B105)
 s_col:B105 → Option (D × B105)
 s_list_col:B105 → Option (D × B105)
 s_table:B105 → Option (D × B105)
 s_schema:B105 → Option (D × B105)
 s_Schema1:B105 → Option (D × B105)
 s_readS:List UInt8 → Int → Option (D × Int × Int)
 S_Schema:List UInt8 → Option (D × Int × Int)
 p_table:B74 → Option (D × B74)
 p_Schema:B74 → Option (D × B74)
 r_Schema:List UInt8 → Option (D × Int × Int)
 r_SamePairs:D → D → Option (Bool)
 r_SameSchema:D → D → Option (Bool)
 c_Schemas:List UInt8 → Option (Bool)
def pk0 {Z:Type} (z:Z) (t0:Nat) (F:B105 → Option (D × B105)) (args:List AV) (h:Heap) (K:AV → Heap → Z):Z:=match args with | [.ptr (some (i0,0))]=>(k105 z h i0 fun s0 v0=>bnd z (F s0) fun r=>castK z Tryz.prog t0 (r.1) fun w0=>K w0 (h.set i0 (b105 (r.2) v0))) | _=>z
def e0 (f t0:Nat) (F:B105 → Option (D × B105)):Ent1:=([f],fun l h K=>pk0 False t0 F (l.map sealV) h K,fun l h=>pk0 none t0 F (l.map sealV) h fun v h=>some (v,h))
def Jj (r:D × B105):AV × Heap:=((.dat (r.1)),[b105 (r.2) 0])
theorem QR {f t0:Nat} {F:B105 → Option (D × B105)} (hF:∀ (s0:B105) (r:D × B105),F s0 = some r → CallX Tryz.prog [] f [.ptr (some (0,0))] [b105 s0 0] (Jj r).1 (Jj r).2):EntryOk Tryz.prog (e0 f t0 F):=by
 refine ⟨fun args h K=>?_,fun args h v h' hs=>Qh ?_⟩
 ·show Par K (pk0 False t0 F (args.map sealV) h K) (pk0 none t0 F (args.map sealV) h fun v h=>some (v,h))
  unfold pk0
  split
  ·repeat' first | exact Qm | exact Qb | apply Ql | (refine Qq fun _=>?_) | (refine Qn fun _=>?_) | (refine Qu fun _ _=>?_) | (refine JR fun _ _=>?_)
  ·exact Qb
 ·change pk0 none t0 F (args.map sealV) h (fun v h=>some (v,h)) = some (v,h') at hs
  generalize args.map sealV = l at hs ⊢
  unfold pk0 at hs
  split at hs
  ·replace hs:=JQ hs
   obtain ⟨s0,v0,cs0,hi0,hb0,hs⟩:=hs
   replace hs:=Qp hs
   obtain ⟨r,hr,hs⟩:=hs
   replace hs:=ZP hs
   cases hs
   exact (hF _ _ hr).plain.frame (is:=[_]) (os:=[b105 (r.2) v0]) nd1 rfl rfl rfl rfl rfl (Jn (Ji ⟨_,_,_,_,hi0,rfl,rfl,rfl,ZF hb0⟩ Jo))
  ·cases hs
theorem QP:∀ a b,Jj a = Jj b → a = b:=by
 rintro ⟨_,⟨_,_,_,_,_⟩⟩ ⟨_,⟨_,_,_,_,_⟩⟩ e <;> simp_all [Jj,b105,o105]
def pk1 {Z:Type} (z:Z) (F:B105 → Int → Option (B105)) (args:List AV) (h:Heap) (K:AV → Heap → Z):Z:=match args with | [.ptr (some (i0,0)),.dat (.int .i64 a1)]=>(k105 z h i0 fun s0 v0=>bnd z (F s0 a1) fun r=>K (.tuple []) (h.set i0 (b105 r v0))) | _=>z
def e1 (f:Nat) (F:B105 → Int → Option (B105)):Ent1:=([f],fun l h K=>pk1 False F (l.map sealV) h K,fun l h=>pk1 none F (l.map sealV) h fun v h=>some (v,h))
def Qia (r:B105):AV × Heap:=((.tuple []),[b105 r 0])
theorem QqY {f:Nat} {F:B105 → Int → Option (B105)} (hF:∀ (s0:B105) (a1:Int) (r:B105),F s0 a1 = some r → CallX Tryz.prog [] f [.ptr (some (0,0)),.dat (.int .i64 a1)] [b105 s0 0] (Qia r).1 (Qia r).2):EntryOk Tryz.prog (e1 f F):=by
 refine ⟨fun args h K=>?_,fun args h v h' hs=>Qh ?_⟩
 ·show Par K (pk1 False F (args.map sealV) h K) (pk1 none F (args.map sealV) h fun v h=>some (v,h))
  unfold pk1
  split
  ·repeat' first | exact Qm | exact Qb | apply Ql | (refine Qq fun _=>?_) | (refine Qn fun _=>?_) | (refine Qu fun _ _=>?_) | (refine JR fun _ _=>?_)
  ·exact Qb
 ·change pk1 none F (args.map sealV) h (fun v h=>some (v,h)) = some (v,h') at hs
  generalize args.map sealV = l at hs ⊢
  unfold pk1 at hs
  split at hs
  ·replace hs:=JQ hs
   obtain ⟨s0,v0,cs0,hi0,hb0,hs⟩:=hs
   replace hs:=Qp hs
   obtain ⟨r,hr,hs⟩:=hs
   cases hs
   exact (hF _ _ _ hr).plain.frame (is:=[_]) (os:=[b105 r v0]) nd1 rfl rfl rfl rfl rfl (Jn (Ji ⟨_,_,_,_,hi0,rfl,rfl,rfl,ZF hb0⟩ Jo))
  ·cases hs
theorem QdF:∀ a b,Qia a = Qia b → a = b:=by
 rintro ⟨_,_,_,_,_⟩ ⟨_,_,_,_,_⟩ e <;> simp_all [Qia,b105,o105]
def pk2 {Z:Type} (z:Z) (F:B105 → Int → List UInt8 → Option (Bool × B105)) (args:List AV) (h:Heap) (K:AV → Heap → Z):Z:=match args with | [.ptr (some (i0,0)),.dat (.int .i64 a1),.dat (.str a2)]=>(k105 z h i0 fun s0 v0=>bnd z (F s0 a1 a2) fun r=>K (.dat (.bool (r.1))) (h.set i0 (b105 (r.2) v0))) | _=>z
def e2 (f:Nat) (F:B105 → Int → List UInt8 → Option (Bool × B105)):Ent1:=([f],fun l h K=>pk2 False F (l.map sealV) h K,fun l h=>pk2 none F (l.map sealV) h fun v h=>some (v,h))
def Qi9 (r:Bool × B105):AV × Heap:=((.dat (.bool (r.1))),[b105 (r.2) 0])
theorem Qr7 {f:Nat} {F:B105 → Int → List UInt8 → Option (Bool × B105)} (hF:∀ (s0:B105) (a1:Int) (a2:List UInt8) (r:Bool × B105),F s0 a1 a2 = some r → CallX Tryz.prog [] f [.ptr (some (0,0)),.dat (.int .i64 a1),.dat (.str a2)] [b105 s0 0] (Qi9 r).1 (Qi9 r).2):EntryOk Tryz.prog (e2 f F):=by
 refine ⟨fun args h K=>?_,fun args h v h' hs=>Qh ?_⟩
 ·show Par K (pk2 False F (args.map sealV) h K) (pk2 none F (args.map sealV) h fun v h=>some (v,h))
  unfold pk2
  split
  ·repeat' first | exact Qm | exact Qb | apply Ql | (refine Qq fun _=>?_) | (refine Qn fun _=>?_) | (refine Qu fun _ _=>?_) | (refine JR fun _ _=>?_)
  ·exact Qb
 ·change pk2 none F (args.map sealV) h (fun v h=>some (v,h)) = some (v,h') at hs
  generalize args.map sealV = l at hs ⊢
  unfold pk2 at hs
  split at hs
  ·replace hs:=JQ hs
   obtain ⟨s0,v0,cs0,hi0,hb0,hs⟩:=hs
   replace hs:=Qp hs
   obtain ⟨r,hr,hs⟩:=hs
   cases hs
   exact (hF _ _ _ _ hr).plain.frame (is:=[_]) (os:=[b105 (r.2) v0]) nd1 rfl rfl rfl rfl rfl (Jn (Ji ⟨_,_,_,_,hi0,rfl,rfl,rfl,ZF hb0⟩ Jo))
  ·cases hs
theorem QoG:∀ a b,Qi9 a = Qi9 b → a = b:=by
 rintro ⟨_,⟨_,_,_,_,_⟩⟩ ⟨_,⟨_,_,_,_,_⟩⟩ e <;> simp_all [Qi9,b105,o105]
def pk3 {Z:Type} (z:Z) (F:B105 → Option (B105)) (args:List AV) (h:Heap) (K:AV → Heap → Z):Z:=match args with | [.ptr (some (i0,0))]=>(k105 z h i0 fun s0 v0=>bnd z (F s0) fun r=>K (.tuple []) (h.set i0 (b105 r v0))) | _=>z
def e3 (f:Nat) (F:B105 → Option (B105)):Ent1:=([f],fun l h K=>pk3 False F (l.map sealV) h K,fun l h=>pk3 none F (l.map sealV) h fun v h=>some (v,h))
def QcX (r:B105):AV × Heap:=((.tuple []),[b105 r 0])
theorem Qio {f:Nat} {F:B105 → Option (B105)} (hF:∀ (s0:B105) (r:B105),F s0 = some r → CallX Tryz.prog [] f [.ptr (some (0,0))] [b105 s0 0] (QcX r).1 (QcX r).2):EntryOk Tryz.prog (e3 f F):=by
 refine ⟨fun args h K=>?_,fun args h v h' hs=>Qh ?_⟩
 ·show Par K (pk3 False F (args.map sealV) h K) (pk3 none F (args.map sealV) h fun v h=>some (v,h))
  unfold pk3
  split
  ·repeat' first | exact Qm | exact Qb | apply Ql | (refine Qq fun _=>?_) | (refine Qn fun _=>?_) | (refine Qu fun _ _=>?_) | (refine JR fun _ _=>?_)
  ·exact Qb
 ·change pk3 none F (args.map sealV) h (fun v h=>some (v,h)) = some (v,h') at hs
  generalize args.map sealV = l at hs ⊢
  unfold pk3 at hs
  split at hs
  ·replace hs:=JQ hs
   obtain ⟨s0,v0,cs0,hi0,hb0,hs⟩:=hs
   replace hs:=Qp hs
   obtain ⟨r,hr,hs⟩:=hs
   cases hs
   exact (hF _ _ hr).plain.frame (is:=[_]) (os:=[b105 r v0]) nd1 rfl rfl rfl rfl rfl (Jn (Ji ⟨_,_,_,_,hi0,rfl,rfl,rfl,ZF hb0⟩ Jo))
  ·cases hs
theorem Q8n:∀ a b,QcX a = QcX b → a = b:=by
 rintro ⟨_,_,_,_,_⟩ ⟨_,_,_,_,_⟩ e <;> simp_all [QcX,b105,o105]
def pk4 {Z:Type} (z:Z) (F:B105 → List UInt8 → Option (Bool × B105)) (args:List AV) (h:Heap) (K:AV → Heap → Z):Z:=match args with | [.ptr (some (i0,0)),.dat (.str a1)]=>(k105 z h i0 fun s0 v0=>bnd z (F s0 a1) fun r=>K (.dat (.bool (r.1))) (h.set i0 (b105 (r.2) v0))) | _=>z
def e4 (f:Nat) (F:B105 → List UInt8 → Option (Bool × B105)):Ent1:=([f],fun l h K=>pk4 False F (l.map sealV) h K,fun l h=>pk4 none F (l.map sealV) h fun v h=>some (v,h))
def Qdt (r:Bool × B105):AV × Heap:=((.dat (.bool (r.1))),[b105 (r.2) 0])
theorem Qj9 {f:Nat} {F:B105 → List UInt8 → Option (Bool × B105)} (hF:∀ (s0:B105) (a1:List UInt8) (r:Bool × B105),F s0 a1 = some r → CallX Tryz.prog [] f [.ptr (some (0,0)),.dat (.str a1)] [b105 s0 0] (Qdt r).1 (Qdt r).2):EntryOk Tryz.prog (e4 f F):=by
 refine ⟨fun args h K=>?_,fun args h v h' hs=>Qh ?_⟩
 ·show Par K (pk4 False F (args.map sealV) h K) (pk4 none F (args.map sealV) h fun v h=>some (v,h))
  unfold pk4
  split
  ·repeat' first | exact Qm | exact Qb | apply Ql | (refine Qq fun _=>?_) | (refine Qn fun _=>?_) | (refine Qu fun _ _=>?_) | (refine JR fun _ _=>?_)
  ·exact Qb
 ·change pk4 none F (args.map sealV) h (fun v h=>some (v,h)) = some (v,h') at hs
  generalize args.map sealV = l at hs ⊢
  unfold pk4 at hs
  split at hs
  ·replace hs:=JQ hs
   obtain ⟨s0,v0,cs0,hi0,hb0,hs⟩:=hs
   replace hs:=Qp hs
   obtain ⟨r,hr,hs⟩:=hs
   cases hs
   exact (hF _ _ _ hr).plain.frame (is:=[_]) (os:=[b105 (r.2) v0]) nd1 rfl rfl rfl rfl rfl (Jn (Ji ⟨_,_,_,_,hi0,rfl,rfl,rfl,ZF hb0⟩ Jo))
  ·cases hs
theorem QdJ:∀ a b,Qdt a = Qdt b → a = b:=by
 rintro ⟨_,⟨_,_,_,_,_⟩⟩ ⟨_,⟨_,_,_,_,_⟩⟩ e <;> simp_all [Qdt,b105,o105]
def pk5 {Z:Type} (z:Z) (F:B105 → List UInt8 → Option (B105)) (args:List AV) (h:Heap) (K:AV → Heap → Z):Z:=match args with | [.ptr (some (i0,0)),.dat (.str a1)]=>(k105 z h i0 fun s0 v0=>bnd z (F s0 a1) fun r=>K (.tuple []) (h.set i0 (b105 r v0))) | _=>z
def e5 (f:Nat) (F:B105 → List UInt8 → Option (B105)):Ent1:=([f],fun l h K=>pk5 False F (l.map sealV) h K,fun l h=>pk5 none F (l.map sealV) h fun v h=>some (v,h))
def QcA (r:B105):AV × Heap:=((.tuple []),[b105 r 0])
theorem Qjm {f:Nat} {F:B105 → List UInt8 → Option (B105)} (hF:∀ (s0:B105) (a1:List UInt8) (r:B105),F s0 a1 = some r → CallX Tryz.prog [] f [.ptr (some (0,0)),.dat (.str a1)] [b105 s0 0] (QcA r).1 (QcA r).2):EntryOk Tryz.prog (e5 f F):=by
 refine ⟨fun args h K=>?_,fun args h v h' hs=>Qh ?_⟩
 ·show Par K (pk5 False F (args.map sealV) h K) (pk5 none F (args.map sealV) h fun v h=>some (v,h))
  unfold pk5
  split
  ·repeat' first | exact Qm | exact Qb | apply Ql | (refine Qq fun _=>?_) | (refine Qn fun _=>?_) | (refine Qu fun _ _=>?_) | (refine JR fun _ _=>?_)
  ·exact Qb
 ·change pk5 none F (args.map sealV) h (fun v h=>some (v,h)) = some (v,h') at hs
  generalize args.map sealV = l at hs ⊢
  unfold pk5 at hs
  split at hs
  ·replace hs:=JQ hs
   obtain ⟨s0,v0,cs0,hi0,hb0,hs⟩:=hs
   replace hs:=Qp hs
   obtain ⟨r,hr,hs⟩:=hs
   cases hs
   exact (hF _ _ _ hr).plain.frame (is:=[_]) (os:=[b105 r v0]) nd1 rfl rfl rfl rfl rfl (Jn (Ji ⟨_,_,_,_,hi0,rfl,rfl,rfl,ZF hb0⟩ Jo))
  ·cases hs
theorem QeZ:∀ a b,QcA a = QcA b → a = b:=by
 rintro ⟨_,_,_,_,_⟩ ⟨_,_,_,_,_⟩ e <;> simp_all [QcA,b105,o105]
def pk6 {Z:Type} (z:Z) (F:B105 → Option (Bool × B105)) (args:List AV) (h:Heap) (K:AV → Heap → Z):Z:=match args with | [.ptr (some (i0,0))]=>(k105 z h i0 fun s0 v0=>bnd z (F s0) fun r=>K (.dat (.bool (r.1))) (h.set i0 (b105 (r.2) v0))) | _=>z
def e6 (f:Nat) (F:B105 → Option (Bool × B105)):Ent1:=([f],fun l h K=>pk6 False F (l.map sealV) h K,fun l h=>pk6 none F (l.map sealV) h fun v h=>some (v,h))
def QcU (r:Bool × B105):AV × Heap:=((.dat (.bool (r.1))),[b105 (r.2) 0])
theorem Qj6 {f:Nat} {F:B105 → Option (Bool × B105)} (hF:∀ (s0:B105) (r:Bool × B105),F s0 = some r → CallX Tryz.prog [] f [.ptr (some (0,0))] [b105 s0 0] (QcU r).1 (QcU r).2):EntryOk Tryz.prog (e6 f F):=by
 refine ⟨fun args h K=>?_,fun args h v h' hs=>Qh ?_⟩
 ·show Par K (pk6 False F (args.map sealV) h K) (pk6 none F (args.map sealV) h fun v h=>some (v,h))
  unfold pk6
  split
  ·repeat' first | exact Qm | exact Qb | apply Ql | (refine Qq fun _=>?_) | (refine Qn fun _=>?_) | (refine Qu fun _ _=>?_) | (refine JR fun _ _=>?_)
  ·exact Qb
 ·change pk6 none F (args.map sealV) h (fun v h=>some (v,h)) = some (v,h') at hs
  generalize args.map sealV = l at hs ⊢
  unfold pk6 at hs
  split at hs
  ·replace hs:=JQ hs
   obtain ⟨s0,v0,cs0,hi0,hb0,hs⟩:=hs
   replace hs:=Qp hs
   obtain ⟨r,hr,hs⟩:=hs
   cases hs
   exact (hF _ _ hr).plain.frame (is:=[_]) (os:=[b105 (r.2) v0]) nd1 rfl rfl rfl rfl rfl (Jn (Ji ⟨_,_,_,_,hi0,rfl,rfl,rfl,ZF hb0⟩ Jo))
  ·cases hs
theorem QeE:∀ a b,QcU a = QcU b → a = b:=by
 rintro ⟨_,⟨_,_,_,_,_⟩⟩ ⟨_,⟨_,_,_,_,_⟩⟩ e <;> simp_all [QcU,b105,o105]
def pk7 {Z:Type} (z:Z) (F:B105 → Option (List UInt8 × B105)) (args:List AV) (h:Heap) (K:AV → Heap → Z):Z:=match args with | [.ptr (some (i0,0))]=>(k105 z h i0 fun s0 v0=>bnd z (F s0) fun r=>K (.dat (.str (r.1))) (h.set i0 (b105 (r.2) v0))) | _=>z
def e7 (f:Nat) (F:B105 → Option (List UInt8 × B105)):Ent1:=([f],fun l h K=>pk7 False F (l.map sealV) h K,fun l h=>pk7 none F (l.map sealV) h fun v h=>some (v,h))
def QfT (r:List UInt8 × B105):AV × Heap:=((.dat (.str (r.1))),[b105 (r.2) 0])
theorem Qr0 {f:Nat} {F:B105 → Option (List UInt8 × B105)} (hF:∀ (s0:B105) (r:List UInt8 × B105),F s0 = some r → CallX Tryz.prog [] f [.ptr (some (0,0))] [b105 s0 0] (QfT r).1 (QfT r).2):EntryOk Tryz.prog (e7 f F):=by
 refine ⟨fun args h K=>?_,fun args h v h' hs=>Qh ?_⟩
 ·show Par K (pk7 False F (args.map sealV) h K) (pk7 none F (args.map sealV) h fun v h=>some (v,h))
  unfold pk7
  split
  ·repeat' first | exact Qm | exact Qb | apply Ql | (refine Qq fun _=>?_) | (refine Qn fun _=>?_) | (refine Qu fun _ _=>?_) | (refine JR fun _ _=>?_)
  ·exact Qb
 ·change pk7 none F (args.map sealV) h (fun v h=>some (v,h)) = some (v,h') at hs
  generalize args.map sealV = l at hs ⊢
  unfold pk7 at hs
  split at hs
  ·replace hs:=JQ hs
   obtain ⟨s0,v0,cs0,hi0,hb0,hs⟩:=hs
   replace hs:=Qp hs
   obtain ⟨r,hr,hs⟩:=hs
   cases hs
   exact (hF _ _ hr).plain.frame (is:=[_]) (os:=[b105 (r.2) v0]) nd1 rfl rfl rfl rfl rfl (Jn (Ji ⟨_,_,_,_,hi0,rfl,rfl,rfl,ZF hb0⟩ Jo))
  ·cases hs
theorem Q9J:∀ a b,QfT a = QfT b → a = b:=by
 rintro ⟨_,⟨_,_,_,_,_⟩⟩ ⟨_,⟨_,_,_,_,_⟩⟩ e <;> simp_all [QfT,b105,o105]
def pk8 {Z:Type} (z:Z) (F:B105 → Option (Int × B105)) (args:List AV) (h:Heap) (K:AV → Heap → Z):Z:=match args with | [.ptr (some (i0,0))]=>(k105 z h i0 fun s0 v0=>bnd z (F s0) fun r=>K (.dat (.int .i64 (r.1))) (h.set i0 (b105 (r.2) v0))) | _=>z
def e8 (f:Nat) (F:B105 → Option (Int × B105)):Ent1:=([f],fun l h K=>pk8 False F (l.map sealV) h K,fun l h=>pk8 none F (l.map sealV) h fun v h=>some (v,h))
def Qdv (r:Int × B105):AV × Heap:=((.dat (.int .i64 (r.1))),[b105 (r.2) 0])
theorem QiX {f:Nat} {F:B105 → Option (Int × B105)} (hF:∀ (s0:B105) (r:Int × B105),F s0 = some r → CallX Tryz.prog [] f [.ptr (some (0,0))] [b105 s0 0] (Qdv r).1 (Qdv r).2):EntryOk Tryz.prog (e8 f F):=by
 refine ⟨fun args h K=>?_,fun args h v h' hs=>Qh ?_⟩
 ·show Par K (pk8 False F (args.map sealV) h K) (pk8 none F (args.map sealV) h fun v h=>some (v,h))
  unfold pk8
  split
  ·repeat' first | exact Qm | exact Qb | apply Ql | (refine Qq fun _=>?_) | (refine Qn fun _=>?_) | (refine Qu fun _ _=>?_) | (refine JR fun _ _=>?_)
  ·exact Qb
 ·change pk8 none F (args.map sealV) h (fun v h=>some (v,h)) = some (v,h') at hs
  generalize args.map sealV = l at hs ⊢
  unfold pk8 at hs
  split at hs
  ·replace hs:=JQ hs
   obtain ⟨s0,v0,cs0,hi0,hb0,hs⟩:=hs
   replace hs:=Qp hs
   obtain ⟨r,hr,hs⟩:=hs
   cases hs
   exact (hF _ _ hr).plain.frame (is:=[_]) (os:=[b105 (r.2) v0]) nd1 rfl rfl rfl rfl rfl (Jn (Ji ⟨_,_,_,_,hi0,rfl,rfl,rfl,ZF hb0⟩ Jo))
  ·cases hs
theorem Q4n:∀ a b,Qdv a = Qdv b → a = b:=by
 rintro ⟨_,⟨_,_,_,_,_⟩⟩ ⟨_,⟨_,_,_,_,_⟩⟩ e <;> simp_all [Qdv,b105,o105]
def pk9 {Z:Type} (z:Z) (t0 t1 t2:Nat) (F:List UInt8 → D → D → Option (D)) (args:List AV) (h:Heap) (K:AV → Heap → Z):Z:=match args with | [.dat (.str a0),.dat a1,.dat a2]=>(cnd (okG t0 a1) (cnd (okG t1 a2) (bnd z (F a0 a1 a2) fun r=>castK z Tryz.prog t2 (r) fun w0=>K w0 h) z) z) | _=>z
def e9 (f t0 t1 t2:Nat) (F:List UInt8 → D → D → Option (D)):Ent1:=([f],fun l h K=>pk9 False t0 t1 t2 F (l.map sealV) h K,fun l h=>pk9 none t0 t1 t2 F (l.map sealV) h fun v h=>some (v,h))
def Qco (r:D):AV × Heap:=((.dat r),[])
theorem QiV {f t0 t1 t2:Nat} {F:List UInt8 → D → D → Option (D)} (hF:∀ (a0:List UInt8) (a1:D) (a2:D) (r:D),F a0 a1 a2 = some r → CallX Tryz.prog [] f [.dat (.str a0),.dat (G t0 a1),.dat (G t1 a2)] [] (Qco r).1 (Qco r).2):EntryOk Tryz.prog (e9 f t0 t1 t2 F):=by
 refine ⟨fun args h K=>?_,fun args h v h' hs=>Qh ?_⟩
 ·show Par K (pk9 False t0 t1 t2 F (args.map sealV) h K) (pk9 none t0 t1 t2 F (args.map sealV) h fun v h=>some (v,h))
  unfold pk9
  split
  ·repeat' first | exact Qm | exact Qb | apply Ql | (refine Qq fun _=>?_) | (refine Qn fun _=>?_) | (refine Qu fun _ _=>?_)
  ·exact Qb
 ·change pk9 none t0 t1 t2 F (args.map sealV) h (fun v h=>some (v,h)) = some (v,h') at hs
  generalize args.map sealV = l at hs ⊢
  unfold pk9 at hs
  split at hs
  ·replace hs:=YZ hs
   obtain ⟨ho1,hs⟩:=hs
   replace hs:=YZ hs
   obtain ⟨ho2,hs⟩:=hs
   replace hs:=Qp hs
   obtain ⟨r,hr,hs⟩:=hs
   replace hs:=ZP hs
   cases hs
   rw [QaL ho1]
   rw [QaL ho2]
   exact (hF _ _ _ _ hr).plain.frame0 rfl rfl
  ·cases hs
theorem Qfu:∀ a b,Qco a = Qco b → a = b:=by
 rintro _ _ e <;> simp_all [Qco]
def QgZ {Z:Type} (z:Z) (F:List UInt8 → Option (Bool)) (args:List AV) (h:Heap) (K:AV → Heap → Z):Z:=match args with | [.dat (.str a0)]=>(bnd z (F a0) fun r=>K (.dat (.bool r)) h) | _=>z
def e10 (f:Nat) (F:List UInt8 → Option (Bool)):Ent1:=([f],fun l h K=>QgZ False F (l.map sealV) h K,fun l h=>QgZ none F (l.map sealV) h fun v h=>some (v,h))
def YB (r:Bool):AV × Heap:=((.dat (.bool r)),[])
theorem YP {f:Nat} {F:List UInt8 → Option (Bool)} (hF:∀ (a0:List UInt8) (r:Bool),F a0 = some r → CallX Tryz.prog [] f [.dat (.str a0)] [] (YB r).1 (YB r).2):EntryOk Tryz.prog (e10 f F):=by
 refine ⟨fun args h K=>?_,fun args h v h' hs=>Qh ?_⟩
 ·show Par K (QgZ False F (args.map sealV) h K) (QgZ none F (args.map sealV) h fun v h=>some (v,h))
  unfold QgZ
  split
  ·repeat' first | exact Qm | exact Qb | apply Ql | (refine Qq fun _=>?_) | (refine Qn fun _=>?_) | (refine Qu fun _ _=>?_)
  ·exact Qb
 ·change QgZ none F (args.map sealV) h (fun v h=>some (v,h)) = some (v,h') at hs
  generalize args.map sealV = l at hs ⊢
  unfold QgZ at hs
  split at hs
  ·replace hs:=Qp hs
   obtain ⟨r,hr,hs⟩:=hs
   cases hs
   exact (hF _ _ hr).plain.frame0 rfl rfl
  ·cases hs
theorem Q2m:∀ a b,YB a = YB b → a = b:=by
 rintro _ _ e <;> simp_all [YB]
def Qid {Z:Type} (z:Z) (k0 k1 t0:Nat) (F:B105 → D → Option (D × B105)) (args:List AV) (h:Heap) (K:AV → Heap → Z):Z:=match args with | [.ptr (some (i0,0)),.func (.func g1) [] [.ptr (some (ip1_0,0))],.func (.func g2) [.ptr (some (q2_0,0))] [],.dat a3]=>(cnd (Nat.beq g1 k0) (ptrK z h ip1_0 67 fun q1_0 vp1_0=>cnd (Nat.beq q1_0 i0) (cnd (Nat.beq g2 k1) (cnd (Nat.beq q2_0 i0) (cnd (Nat.blt i0 ip1_0) (k105 z h i0 fun s0 v0=>bnd z (F s0 a3) fun r=>castK z Tryz.prog t0 (r.1) fun w0=>K w0 ((h.set i0 (b105 (r.2) v0)).set ip1_0 (some (.cells 67 [.ptr (some (i0,0))] vp1_0)))) z) z) z) z) z) | _=>z
def e11 (f k0 k1 t0:Nat) (F:B105 → D → Option (D × B105)):Ent1:=([f,k0,k1],fun l h K=>Qid False k0 k1 t0 F (l.map sealV) h K,fun l h=>Qid none k0 k1 t0 F (l.map sealV) h fun v h=>some (v,h))
def Q6T (r:D × B105):AV × Heap:=((.dat (r.1)),[b105 (r.2) 0,some (.cells 67 [.ptr (some (0,0))] 0)])
theorem QmQ {f k0 k1 t0:Nat} {F:B105 → D → Option (D × B105)} (hF:∀ (s0:B105) (a3:D) (r:D × B105),F s0 a3 = some r → CallX Tryz.prog [] f [.ptr (some (0,0)),.func (.func k0) [] [.ptr (some (1,0))],.func (.func k1) [.ptr (some (0,0))] [],.dat a3] [b105 s0 0,some (.cells 67 [.ptr (some (0,0))] 0)] (Q6T r).1 (Q6T r).2):EntryOk Tryz.prog (e11 f k0 k1 t0 F):=by
 refine ⟨fun args h K=>?_,fun args h v h' hs=>Qh ?_⟩
 ·show Par K (Qid False k0 k1 t0 F (args.map sealV) h K) (Qid none k0 k1 t0 F (args.map sealV) h fun v h=>some (v,h))
  unfold Qid
  split
  ·repeat' first | exact Qm | exact Qb | apply Ql | (refine Qq fun _=>?_) | (refine Qn fun _=>?_) | (refine Qu fun _ _=>?_) | (refine JR fun _ _=>?_)
  ·exact Qb
 ·change Qid none k0 k1 t0 F (args.map sealV) h (fun v h=>some (v,h)) = some (v,h') at hs
  generalize args.map sealV = l at hs ⊢
  unfold Qid at hs
  split at hs
  ·replace hs:=J6 hs
   obtain ⟨eg,hs⟩:=hs
   try subst eg
   replace hs:=Qj2 hs
   obtain ⟨q1_0,vp1_0,hip1_0,hs⟩:=hs
   replace hs:=J6 hs
   obtain ⟨eg,hs⟩:=hs
   try subst eg
   replace hs:=J6 hs
   obtain ⟨eg,hs⟩:=hs
   try subst eg
   replace hs:=J6 hs
   obtain ⟨eg,hs⟩:=hs
   try subst eg
   replace hs:=QiJ hs
   obtain ⟨hlt0,hs⟩:=hs
   replace hs:=JQ hs
   obtain ⟨s0,v0,cs0,hi0,hb0,hs⟩:=hs
   replace hs:=Qp hs
   obtain ⟨r,hr,hs⟩:=hs
   replace hs:=ZP hs
   cases hs
   exact (hF _ _ _ hr).plain.frameG0 (is:=[_,_]) (os:=[b105 (r.2) v0,some (.cells 67 [.ptr (some (_,0))] vp1_0)]) (Qdq (Qs0 hlt0 Qs4)) rfl rfl rfl rfl rfl (Jn (Ji ⟨_,_,_,_,hi0,rfl,rfl,rfl,Qe5 hb0⟩ (Ji ⟨_,_,_,_,hip1_0,rfl,rfl,rfl,Qba rfl (by decide) ⟨by simp,rfl⟩⟩ Jo)))
  ·cases hs
theorem Qmf:∀ a b,Q6T a = Q6T b → a = b:=by
 rintro ⟨_,⟨_,_,_,_,_⟩⟩ ⟨_,⟨_,_,_,_,_⟩⟩ e <;> simp_all [Q6T,b105,o105]
def QfM {Z:Type} (z:Z) (k0 k1 t0:Nat) (F:B105 → D → Option (D × B105)) (args:List AV) (h:Heap) (K:AV → Heap → Z):Z:=match args with | [.ptr (some (i0,0)),.func (.func g1) [.ptr (some (q1_0,0))] [],.func (.func g2) [.ptr (some (q2_0,0))] [],.dat a3]=>(cnd (Nat.beq g1 k0) (cnd (Nat.beq q1_0 i0) (cnd (Nat.beq g2 k1) (cnd (Nat.beq q2_0 i0) (k105 z h i0 fun s0 v0=>bnd z (F s0 a3) fun r=>castK z Tryz.prog t0 (r.1) fun w0=>K w0 (h.set i0 (b105 (r.2) v0))) z) z) z) z) | _=>z
def e12 (f k0 k1 t0:Nat) (F:B105 → D → Option (D × B105)):Ent1:=([f,k0,k1],fun l h K=>QfM False k0 k1 t0 F (l.map sealV) h K,fun l h=>QfM none k0 k1 t0 F (l.map sealV) h fun v h=>some (v,h))
def Q1T (r:D × B105):AV × Heap:=((.dat (r.1)),[b105 (r.2) 0])
theorem Q4y {f k0 k1 t0:Nat} {F:B105 → D → Option (D × B105)} (hF:∀ (s0:B105) (a3:D) (r:D × B105),F s0 a3 = some r → CallX Tryz.prog [] f [.ptr (some (0,0)),.func (.func k0) [.ptr (some (0,0))] [],.func (.func k1) [.ptr (some (0,0))] [],.dat a3] [b105 s0 0] (Q1T r).1 (Q1T r).2):EntryOk Tryz.prog (e12 f k0 k1 t0 F):=by
 refine ⟨fun args h K=>?_,fun args h v h' hs=>Qh ?_⟩
 ·show Par K (QfM False k0 k1 t0 F (args.map sealV) h K) (QfM none k0 k1 t0 F (args.map sealV) h fun v h=>some (v,h))
  unfold QfM
  split
  ·repeat' first | exact Qm | exact Qb | apply Ql | (refine Qq fun _=>?_) | (refine Qn fun _=>?_) | (refine Qu fun _ _=>?_) | (refine JR fun _ _=>?_)
  ·exact Qb
 ·change QfM none k0 k1 t0 F (args.map sealV) h (fun v h=>some (v,h)) = some (v,h') at hs
  generalize args.map sealV = l at hs ⊢
  unfold QfM at hs
  split at hs
  ·replace hs:=J6 hs
   obtain ⟨eg,hs⟩:=hs
   try subst eg
   replace hs:=J6 hs
   obtain ⟨eg,hs⟩:=hs
   try subst eg
   replace hs:=J6 hs
   obtain ⟨eg,hs⟩:=hs
   try subst eg
   replace hs:=J6 hs
   obtain ⟨eg,hs⟩:=hs
   try subst eg
   replace hs:=JQ hs
   obtain ⟨s0,v0,cs0,hi0,hb0,hs⟩:=hs
   replace hs:=Qp hs
   obtain ⟨r,hr,hs⟩:=hs
   replace hs:=ZP hs
   cases hs
   exact (hF _ _ _ hr).plain.frame (is:=[_]) (os:=[b105 (r.2) v0]) nd1 rfl rfl rfl rfl rfl (Jn (Ji ⟨_,_,_,_,hi0,rfl,rfl,rfl,ZF hb0⟩ Jo))
  ·cases hs
theorem Q5x:∀ a b,Q1T a = Q1T b → a = b:=by
 rintro ⟨_,⟨_,_,_,_,_⟩⟩ ⟨_,⟨_,_,_,_,_⟩⟩ e <;> simp_all [Q1T,b105,o105]
def Qh4 {Z:Type} (z:Z) (k0 t0:Nat) (F:B105 → Int → Option (D × B105)) (args:List AV) (h:Heap) (K:AV → Heap → Z):Z:=match args with | [.ptr (some (i0,0)),.dat (.int .i64 a1),.func (.func g2) [.ptr (some (q2_0,0))] []]=>(cnd (Nat.beq g2 k0) (cnd (Nat.beq q2_0 i0) (k105 z h i0 fun s0 v0=>bnd z (F s0 a1) fun r=>castK z Tryz.prog t0 (r.1) fun w0=>K w0 (h.set i0 (b105 (r.2) v0))) z) z) | _=>z
def e13 (f k0 t0:Nat) (F:B105 → Int → Option (D × B105)):Ent1:=([f,k0],fun l h K=>Qh4 False k0 t0 F (l.map sealV) h K,fun l h=>Qh4 none k0 t0 F (l.map sealV) h fun v h=>some (v,h))
def Q4q (r:D × B105):AV × Heap:=((.dat (r.1)),[b105 (r.2) 0])
theorem Qc2 {f k0 t0:Nat} {F:B105 → Int → Option (D × B105)} (hF:∀ (s0:B105) (a1:Int) (r:D × B105),F s0 a1 = some r → CallX Tryz.prog [] f [.ptr (some (0,0)),.dat (.int .i64 a1),.func (.func k0) [.ptr (some (0,0))] []] [b105 s0 0] (Q4q r).1 (Q4q r).2):EntryOk Tryz.prog (e13 f k0 t0 F):=by
 refine ⟨fun args h K=>?_,fun args h v h' hs=>Qh ?_⟩
 ·show Par K (Qh4 False k0 t0 F (args.map sealV) h K) (Qh4 none k0 t0 F (args.map sealV) h fun v h=>some (v,h))
  unfold Qh4
  split
  ·repeat' first | exact Qm | exact Qb | apply Ql | (refine Qq fun _=>?_) | (refine Qn fun _=>?_) | (refine Qu fun _ _=>?_) | (refine JR fun _ _=>?_)
  ·exact Qb
 ·change Qh4 none k0 t0 F (args.map sealV) h (fun v h=>some (v,h)) = some (v,h') at hs
  generalize args.map sealV = l at hs ⊢
  unfold Qh4 at hs
  split at hs
  ·replace hs:=J6 hs
   obtain ⟨eg,hs⟩:=hs
   try subst eg
   replace hs:=J6 hs
   obtain ⟨eg,hs⟩:=hs
   try subst eg
   replace hs:=JQ hs
   obtain ⟨s0,v0,cs0,hi0,hb0,hs⟩:=hs
   replace hs:=Qp hs
   obtain ⟨r,hr,hs⟩:=hs
   replace hs:=ZP hs
   cases hs
   exact (hF _ _ _ hr).plain.frame (is:=[_]) (os:=[b105 (r.2) v0]) nd1 rfl rfl rfl rfl rfl (Jn (Ji ⟨_,_,_,_,hi0,rfl,rfl,rfl,ZF hb0⟩ Jo))
  ·cases hs
theorem QaS:∀ a b,Q4q a = Q4q b → a = b:=by
 rintro ⟨_,⟨_,_,_,_,_⟩⟩ ⟨_,⟨_,_,_,_,_⟩⟩ e <;> simp_all [Q4q,b105,o105]
def Qgv {Z:Type} (z:Z) (t0:Nat) (F:B105 → Option (D × B105)) (args:List AV) (h:Heap) (K:AV → Heap → Z):Z:=match args with | [.ptr (some (ip0,0))]=>(ptrK z h ip0 67 fun i0 vp0=>cnd (Nat.blt i0 ip0) (k105 z h i0 fun s0 v0=>bnd z (F s0) fun r=>castK z Tryz.prog t0 (r.1) fun w0=>K w0 ((h.set i0 (b105 (r.2) v0)).set ip0 (some (.cells 67 [.ptr (some (i0,0))] vp0)))) z) | _=>z
def e14 (f t0:Nat) (F:B105 → Option (D × B105)):Ent1:=([f],fun l h K=>Qgv False t0 F (l.map sealV) h K,fun l h=>Qgv none t0 F (l.map sealV) h fun v h=>some (v,h))
def Q8G (r:D × B105):AV × Heap:=((.dat (r.1)),[b105 (r.2) 0,some (.cells 67 [.ptr (some (0,0))] 0)])
theorem Qnt {f t0:Nat} {F:B105 → Option (D × B105)} (hF:∀ (s0:B105) (r:D × B105),F s0 = some r → CallX Tryz.prog [] f [.ptr (some (1,0))] [b105 s0 0,some (.cells 67 [.ptr (some (0,0))] 0)] (Q8G r).1 (Q8G r).2):EntryOk Tryz.prog (e14 f t0 F):=by
 refine ⟨fun args h K=>?_,fun args h v h' hs=>Qh ?_⟩
 ·show Par K (Qgv False t0 F (args.map sealV) h K) (Qgv none t0 F (args.map sealV) h fun v h=>some (v,h))
  unfold Qgv
  split
  ·repeat' first | exact Qm | exact Qb | apply Ql | (refine Qq fun _=>?_) | (refine Qn fun _=>?_) | (refine Qu fun _ _=>?_) | (refine JR fun _ _=>?_)
  ·exact Qb
 ·change Qgv none t0 F (args.map sealV) h (fun v h=>some (v,h)) = some (v,h') at hs
  generalize args.map sealV = l at hs ⊢
  unfold Qgv at hs
  split at hs
  ·replace hs:=Qj2 hs
   obtain ⟨i0,vp0,hip0,hs⟩:=hs
   replace hs:=QiJ hs
   obtain ⟨hlt0,hs⟩:=hs
   replace hs:=JQ hs
   obtain ⟨s0,v0,cs0,hi0,hb0,hs⟩:=hs
   replace hs:=Qp hs
   obtain ⟨r,hr,hs⟩:=hs
   replace hs:=ZP hs
   cases hs
   exact (hF _ _ hr).plain.frameG0 (is:=[_,_]) (os:=[b105 (r.2) v0,some (.cells 67 [.ptr (some (_,0))] vp0)]) (Qdq (Qs0 hlt0 Qs4)) rfl rfl rfl rfl rfl (Jn (Ji ⟨_,_,_,_,hi0,rfl,rfl,rfl,Qe5 hb0⟩ (Ji ⟨_,_,_,_,hip0,rfl,rfl,rfl,Qba rfl (by decide) ⟨by simp,rfl⟩⟩ Jo)))
  ·cases hs
theorem Qm4:∀ a b,Q8G a = Q8G b → a = b:=by
 rintro ⟨_,⟨_,_,_,_,_⟩⟩ ⟨_,⟨_,_,_,_,_⟩⟩ e <;> simp_all [Q8G,b105,o105]
def Qg3 {Z:Type} (z:Z) (k0:Nat) (F:B105 → Option (D × B105)) (args:List AV) (h:Heap) (K:AV → Heap → Z):Z:=match args with | [.ptr (some (i0,0)),.func (.func g1) [.ptr (some (q1_0,0))] []]=>(cnd (Nat.beq g1 k0) (cnd (Nat.beq q1_0 i0) (k105 z h i0 fun s0 v0=>bnd z (F s0) fun r=>K (.dat (r.1)) (h.set i0 (b105 (r.2) v0))) z) z) | _=>z
def e15 (f k0:Nat) (F:B105 → Option (D × B105)):Ent1:=([f,k0],fun l h K=>Qg3 False k0 F (l.map sealV) h K,fun l h=>Qg3 none k0 F (l.map sealV) h fun v h=>some (v,h))
def Hh (r:D × B105):AV × Heap:=((.dat (r.1)),[b105 (r.2) 0])
theorem Q00 {f k0:Nat} {F:B105 → Option (D × B105)} (hF:∀ (s0:B105) (r:D × B105),F s0 = some r → CallX Tryz.prog [] f [.ptr (some (0,0)),.func (.func k0) [.ptr (some (0,0))] []] [b105 s0 0] (Hh r).1 (Hh r).2):EntryOk Tryz.prog (e15 f k0 F):=by
 refine ⟨fun args h K=>?_,fun args h v h' hs=>Qh ?_⟩
 ·show Par K (Qg3 False k0 F (args.map sealV) h K) (Qg3 none k0 F (args.map sealV) h fun v h=>some (v,h))
  unfold Qg3
  split
  ·repeat' first | exact Qm | exact Qb | apply Ql | (refine Qq fun _=>?_) | (refine Qn fun _=>?_) | (refine Qu fun _ _=>?_) | (refine JR fun _ _=>?_)
  ·exact Qb
 ·change Qg3 none k0 F (args.map sealV) h (fun v h=>some (v,h)) = some (v,h') at hs
  generalize args.map sealV = l at hs ⊢
  unfold Qg3 at hs
  split at hs
  ·replace hs:=J6 hs
   obtain ⟨eg,hs⟩:=hs
   try subst eg
   replace hs:=J6 hs
   obtain ⟨eg,hs⟩:=hs
   try subst eg
   replace hs:=JQ hs
   obtain ⟨s0,v0,cs0,hi0,hb0,hs⟩:=hs
   replace hs:=Qp hs
   obtain ⟨r,hr,hs⟩:=hs
   cases hs
   exact (hF _ _ hr).plain.frame (is:=[_]) (os:=[b105 (r.2) v0]) nd1 rfl rfl rfl rfl rfl (Jn (Ji ⟨_,_,_,_,hi0,rfl,rfl,rfl,ZF hb0⟩ Jo))
  ·cases hs
theorem Q0l:∀ a b,Hh a = Hh b → a = b:=by
 rintro ⟨_,⟨_,_,_,_,_⟩⟩ ⟨_,⟨_,_,_,_,_⟩⟩ e <;> simp_all [Hh,b105,o105]
def QfL {Z:Type} (z:Z) (k0 t0:Nat) (F:List UInt8 → Int → Option (D × Int × Int)) (args:List AV) (h:Heap) (K:AV → Heap → Z):Z:=match args with | [.dat (.str a0),.dat (.int .i64 a1),.func (.func g2) [] []]=>(cnd (Nat.beq g2 k0) (bnd z (F a0 a1) fun r=>castK z Tryz.prog t0 (r.1) fun w0=>K (.tuple [w0,(.dat (.int .i64 (r.2.1))),(.dat (.int .i64 (r.2.2)))]) h) z) | _=>z
def e16 (f k0 t0:Nat) (F:List UInt8 → Int → Option (D × Int × Int)):Ent1:=([f,k0],fun l h K=>QfL False k0 t0 F (l.map sealV) h K,fun l h=>QfL none k0 t0 F (l.map sealV) h fun v h=>some (v,h))
def Q1E (r:D × Int × Int):AV × Heap:=((.tuple [.dat (r.1),.dat (.int .i64 (r.2.1)),.dat (.int .i64 (r.2.2))]),[])
theorem Q4u {f k0 t0:Nat} {F:List UInt8 → Int → Option (D × Int × Int)} (hF:∀ (a0:List UInt8) (a1:Int) (r:D × Int × Int),F a0 a1 = some r → CallX Tryz.prog [] f [.dat (.str a0),.dat (.int .i64 a1),.func (.func k0) [] []] [] (Q1E r).1 (Q1E r).2):EntryOk Tryz.prog (e16 f k0 t0 F):=by
 refine ⟨fun args h K=>?_,fun args h v h' hs=>Qh ?_⟩
 ·show Par K (QfL False k0 t0 F (args.map sealV) h K) (QfL none k0 t0 F (args.map sealV) h fun v h=>some (v,h))
  unfold QfL
  split
  ·repeat' first | exact Qm | exact Qb | apply Ql | (refine Qq fun _=>?_) | (refine Qn fun _=>?_) | (refine Qu fun _ _=>?_)
  ·exact Qb
 ·change QfL none k0 t0 F (args.map sealV) h (fun v h=>some (v,h)) = some (v,h') at hs
  generalize args.map sealV = l at hs ⊢
  unfold QfL at hs
  split at hs
  ·replace hs:=J6 hs
   obtain ⟨eg,hs⟩:=hs
   try subst eg
   replace hs:=Qp hs
   obtain ⟨r,hr,hs⟩:=hs
   replace hs:=ZP hs
   cases hs
   exact (hF _ _ _ hr).plain.frame0 rfl rfl
  ·cases hs
theorem QlQ:∀ a b,Q1E a = Q1E b → a = b:=by
 rintro ⟨_,_,_⟩ ⟨_,_,_⟩ e <;> simp_all [Q1E]
def Qhb {Z:Type} (z:Z) (t0:Nat) (F:List UInt8 → Option (D × Int × Int)) (args:List AV) (h:Heap) (K:AV → Heap → Z):Z:=match args with | [.dat (.str a0)]=>(bnd z (F a0) fun r=>castK z Tryz.prog t0 (r.1) fun w0=>K (.tuple [w0,(.dat (.int .i64 (r.2.1))),(.dat (.int .i64 (r.2.2)))]) h) | _=>z
def e17 (f t0:Nat) (F:List UInt8 → Option (D × Int × Int)):Ent1:=([f],fun l h K=>Qhb False t0 F (l.map sealV) h K,fun l h=>Qhb none t0 F (l.map sealV) h fun v h=>some (v,h))
def YC (r:D × Int × Int):AV × Heap:=((.tuple [.dat (r.1),.dat (.int .i64 (r.2.1)),.dat (.int .i64 (r.2.2))]),[])
theorem YT {f t0:Nat} {F:List UInt8 → Option (D × Int × Int)} (hF:∀ (a0:List UInt8) (r:D × Int × Int),F a0 = some r → CallX Tryz.prog [] f [.dat (.str a0)] [] (YC r).1 (YC r).2):EntryOk Tryz.prog (e17 f t0 F):=by
 refine ⟨fun args h K=>?_,fun args h v h' hs=>Qh ?_⟩
 ·show Par K (Qhb False t0 F (args.map sealV) h K) (Qhb none t0 F (args.map sealV) h fun v h=>some (v,h))
  unfold Qhb
  split
  ·repeat' first | exact Qm | exact Qb | apply Ql | (refine Qq fun _=>?_) | (refine Qn fun _=>?_) | (refine Qu fun _ _=>?_)
  ·exact Qb
 ·change Qhb none t0 F (args.map sealV) h (fun v h=>some (v,h)) = some (v,h') at hs
  generalize args.map sealV = l at hs ⊢
  unfold Qhb at hs
  split at hs
  ·replace hs:=Qp hs
   obtain ⟨r,hr,hs⟩:=hs
   replace hs:=ZP hs
   cases hs
   exact (hF _ _ hr).plain.frame0 rfl rfl
  ·cases hs
theorem Qbv:∀ a b,YC a = YC b → a = b:=by
 rintro ⟨_,_,_⟩ ⟨_,_,_⟩ e <;> simp_all [YC]
def Qin {Z:Type} (z:Z) (F:B74 → Int → Option (B74)) (args:List AV) (h:Heap) (K:AV → Heap → Z):Z:=match args with | [.ptr (some (i0,0)),.dat (.int .i64 a1)]=>(k74 z h i0 fun s0 v0=>bnd z (F s0 a1) fun r=>K (.tuple []) (h.set i0 (b74 r v0))) | _=>z
def e18 (f:Nat) (F:B74 → Int → Option (B74)):Ent1:=([f],fun l h K=>Qin False F (l.map sealV) h K,fun l h=>Qin none F (l.map sealV) h fun v h=>some (v,h))
def Q9s (r:B74):AV × Heap:=((.tuple []),[b74 r 0])
theorem Qno {f:Nat} {F:B74 → Int → Option (B74)} (hF:∀ (s0:B74) (a1:Int) (r:B74),F s0 a1 = some r → CallX Tryz.prog [] f [.ptr (some (0,0)),.dat (.int .i64 a1)] [b74 s0 0] (Q9s r).1 (Q9s r).2):EntryOk Tryz.prog (e18 f F):=by
 refine ⟨fun args h K=>?_,fun args h v h' hs=>Qh ?_⟩
 ·show Par K (Qin False F (args.map sealV) h K) (Qin none F (args.map sealV) h fun v h=>some (v,h))
  unfold Qin
  split
  ·repeat' first | exact Qm | exact Qb | apply Ql | (refine Qq fun _=>?_) | (refine Qn fun _=>?_) | (refine Qu fun _ _=>?_) | (refine Yu fun _ _=>?_)
  ·exact Qb
 ·change Qin none F (args.map sealV) h (fun v h=>some (v,h)) = some (v,h') at hs
  generalize args.map sealV = l at hs ⊢
  unfold Qin at hs
  split at hs
  ·replace hs:=Ys hs
   obtain ⟨s0,v0,cs0,hi0,hb0,hs⟩:=hs
   replace hs:=Qp hs
   obtain ⟨r,hr,hs⟩:=hs
   cases hs
   exact (hF _ _ _ hr).plain.frame (is:=[_]) (os:=[b74 r v0]) nd1 rfl rfl rfl rfl rfl (Jn (Ji ⟨_,_,_,_,hi0,rfl,rfl,rfl,Q0a hb0⟩ Jo))
  ·cases hs
theorem QbN:∀ a b,Q9s a = Q9s b → a = b:=by
 rintro ⟨_,_,_,_,_⟩ ⟨_,_,_,_,_⟩ e <;> simp_all [Q9s,b74,o74]
def Qgk {Z:Type} (z:Z) (F:B74 → List UInt8 → Option (Bool × B74)) (args:List AV) (h:Heap) (K:AV → Heap → Z):Z:=match args with | [.ptr (some (i0,0)),.dat (.str a1)]=>(k74 z h i0 fun s0 v0=>bnd z (F s0 a1) fun r=>K (.dat (.bool (r.1))) (h.set i0 (b74 (r.2) v0))) | _=>z
def e19 (f:Nat) (F:B74 → List UInt8 → Option (Bool × B74)):Ent1:=([f],fun l h K=>Qgk False F (l.map sealV) h K,fun l h=>Qgk none F (l.map sealV) h fun v h=>some (v,h))
def Q3B (r:Bool × B74):AV × Heap:=((.dat (.bool (r.1))),[b74 (r.2) 0])
theorem QcW {f:Nat} {F:B74 → List UInt8 → Option (Bool × B74)} (hF:∀ (s0:B74) (a1:List UInt8) (r:Bool × B74),F s0 a1 = some r → CallX Tryz.prog [] f [.ptr (some (0,0)),.dat (.str a1)] [b74 s0 0] (Q3B r).1 (Q3B r).2):EntryOk Tryz.prog (e19 f F):=by
 refine ⟨fun args h K=>?_,fun args h v h' hs=>Qh ?_⟩
 ·show Par K (Qgk False F (args.map sealV) h K) (Qgk none F (args.map sealV) h fun v h=>some (v,h))
  unfold Qgk
  split
  ·repeat' first | exact Qm | exact Qb | apply Ql | (refine Qq fun _=>?_) | (refine Qn fun _=>?_) | (refine Qu fun _ _=>?_) | (refine Yu fun _ _=>?_)
  ·exact Qb
 ·change Qgk none F (args.map sealV) h (fun v h=>some (v,h)) = some (v,h') at hs
  generalize args.map sealV = l at hs ⊢
  unfold Qgk at hs
  split at hs
  ·replace hs:=Ys hs
   obtain ⟨s0,v0,cs0,hi0,hb0,hs⟩:=hs
   replace hs:=Qp hs
   obtain ⟨r,hr,hs⟩:=hs
   cases hs
   exact (hF _ _ _ hr).plain.frame (is:=[_]) (os:=[b74 (r.2) v0]) nd1 rfl rfl rfl rfl rfl (Jn (Ji ⟨_,_,_,_,hi0,rfl,rfl,rfl,Q0a hb0⟩ Jo))
  ·cases hs
theorem Q5p:∀ a b,Q3B a = Q3B b → a = b:=by
 rintro ⟨_,⟨_,_,_,_,_⟩⟩ ⟨_,⟨_,_,_,_,_⟩⟩ e <;> simp_all [Q3B,b74,o74]
def QhB {Z:Type} (z:Z) (F:B74 → List UInt8 → Option (B74)) (args:List AV) (h:Heap) (K:AV → Heap → Z):Z:=match args with | [.ptr (some (i0,0)),.dat (.str a1)]=>(k74 z h i0 fun s0 v0=>bnd z (F s0 a1) fun r=>K (.tuple []) (h.set i0 (b74 r v0))) | _=>z
def e20 (f:Nat) (F:B74 → List UInt8 → Option (B74)):Ent1:=([f],fun l h K=>QhB False F (l.map sealV) h K,fun l h=>QhB none F (l.map sealV) h fun v h=>some (v,h))
def Q80 (r:B74):AV × Heap:=((.tuple []),[b74 r 0])
theorem Qmr {f:Nat} {F:B74 → List UInt8 → Option (B74)} (hF:∀ (s0:B74) (a1:List UInt8) (r:B74),F s0 a1 = some r → CallX Tryz.prog [] f [.ptr (some (0,0)),.dat (.str a1)] [b74 s0 0] (Q80 r).1 (Q80 r).2):EntryOk Tryz.prog (e20 f F):=by
 refine ⟨fun args h K=>?_,fun args h v h' hs=>Qh ?_⟩
 ·show Par K (QhB False F (args.map sealV) h K) (QhB none F (args.map sealV) h fun v h=>some (v,h))
  unfold QhB
  split
  ·repeat' first | exact Qm | exact Qb | apply Ql | (refine Qq fun _=>?_) | (refine Qn fun _=>?_) | (refine Qu fun _ _=>?_) | (refine Yu fun _ _=>?_)
  ·exact Qb
 ·change QhB none F (args.map sealV) h (fun v h=>some (v,h)) = some (v,h') at hs
  generalize args.map sealV = l at hs ⊢
  unfold QhB at hs
  split at hs
  ·replace hs:=Ys hs
   obtain ⟨s0,v0,cs0,hi0,hb0,hs⟩:=hs
   replace hs:=Qp hs
   obtain ⟨r,hr,hs⟩:=hs
   cases hs
   exact (hF _ _ _ hr).plain.frame (is:=[_]) (os:=[b74 r v0]) nd1 rfl rfl rfl rfl rfl (Jn (Ji ⟨_,_,_,_,hi0,rfl,rfl,rfl,Q0a hb0⟩ Jo))
  ·cases hs
theorem Qm1:∀ a b,Q80 a = Q80 b → a = b:=by
 rintro ⟨_,_,_,_,_⟩ ⟨_,_,_,_,_⟩ e <;> simp_all [Q80,b74,o74]
def Qh0 {Z:Type} (z:Z) (F:B74 → Option (B74)) (args:List AV) (h:Heap) (K:AV → Heap → Z):Z:=match args with | [.ptr (some (i0,0))]=>(k74 z h i0 fun s0 v0=>bnd z (F s0) fun r=>K (.tuple []) (h.set i0 (b74 r v0))) | _=>z
def e21 (f:Nat) (F:B74 → Option (B74)):Ent1:=([f],fun l h K=>Qh0 False F (l.map sealV) h K,fun l h=>Qh0 none F (l.map sealV) h fun v h=>some (v,h))
def Q6Y (r:B74):AV × Heap:=((.tuple []),[b74 r 0])
theorem QmP {f:Nat} {F:B74 → Option (B74)} (hF:∀ (s0:B74) (r:B74),F s0 = some r → CallX Tryz.prog [] f [.ptr (some (0,0))] [b74 s0 0] (Q6Y r).1 (Q6Y r).2):EntryOk Tryz.prog (e21 f F):=by
 refine ⟨fun args h K=>?_,fun args h v h' hs=>Qh ?_⟩
 ·show Par K (Qh0 False F (args.map sealV) h K) (Qh0 none F (args.map sealV) h fun v h=>some (v,h))
  unfold Qh0
  split
  ·repeat' first | exact Qm | exact Qb | apply Ql | (refine Qq fun _=>?_) | (refine Qn fun _=>?_) | (refine Qu fun _ _=>?_) | (refine Yu fun _ _=>?_)
  ·exact Qb
 ·change Qh0 none F (args.map sealV) h (fun v h=>some (v,h)) = some (v,h') at hs
  generalize args.map sealV = l at hs ⊢
  unfold Qh0 at hs
  split at hs
  ·replace hs:=Ys hs
   obtain ⟨s0,v0,cs0,hi0,hb0,hs⟩:=hs
   replace hs:=Qp hs
   obtain ⟨r,hr,hs⟩:=hs
   cases hs
   exact (hF _ _ hr).plain.frame (is:=[_]) (os:=[b74 r v0]) nd1 rfl rfl rfl rfl rfl (Jn (Ji ⟨_,_,_,_,hi0,rfl,rfl,rfl,Q0a hb0⟩ Jo))
  ·cases hs
theorem QlH:∀ a b,Q6Y a = Q6Y b → a = b:=by
 rintro ⟨_,_,_,_,_⟩ ⟨_,_,_,_,_⟩ e <;> simp_all [Q6Y,b74,o74]
def QhD {Z:Type} (z:Z) (F:B74 → Option (List UInt8 × B74)) (args:List AV) (h:Heap) (K:AV → Heap → Z):Z:=match args with | [.ptr (some (i0,0))]=>(k74 z h i0 fun s0 v0=>bnd z (F s0) fun r=>K (.dat (.str (r.1))) (h.set i0 (b74 (r.2) v0))) | _=>z
def e22 (f:Nat) (F:B74 → Option (List UInt8 × B74)):Ent1:=([f],fun l h K=>QhD False F (l.map sealV) h K,fun l h=>QhD none F (l.map sealV) h fun v h=>some (v,h))
def Q7h (r:List UInt8 × B74):AV × Heap:=((.dat (.str (r.1))),[b74 (r.2) 0])
theorem QoC {f:Nat} {F:B74 → Option (List UInt8 × B74)} (hF:∀ (s0:B74) (r:List UInt8 × B74),F s0 = some r → CallX Tryz.prog [] f [.ptr (some (0,0))] [b74 s0 0] (Q7h r).1 (Q7h r).2):EntryOk Tryz.prog (e22 f F):=by
 refine ⟨fun args h K=>?_,fun args h v h' hs=>Qh ?_⟩
 ·show Par K (QhD False F (args.map sealV) h K) (QhD none F (args.map sealV) h fun v h=>some (v,h))
  unfold QhD
  split
  ·repeat' first | exact Qm | exact Qb | apply Ql | (refine Qq fun _=>?_) | (refine Qn fun _=>?_) | (refine Qu fun _ _=>?_) | (refine Yu fun _ _=>?_)
  ·exact Qb
 ·change QhD none F (args.map sealV) h (fun v h=>some (v,h)) = some (v,h') at hs
  generalize args.map sealV = l at hs ⊢
  unfold QhD at hs
  split at hs
  ·replace hs:=Ys hs
   obtain ⟨s0,v0,cs0,hi0,hb0,hs⟩:=hs
   replace hs:=Qp hs
   obtain ⟨r,hr,hs⟩:=hs
   cases hs
   exact (hF _ _ hr).plain.frame (is:=[_]) (os:=[b74 (r.2) v0]) nd1 rfl rfl rfl rfl rfl (Jn (Ji ⟨_,_,_,_,hi0,rfl,rfl,rfl,Q0a hb0⟩ Jo))
  ·cases hs
theorem Q2n:∀ a b,Q7h a = Q7h b → a = b:=by
 rintro ⟨_,⟨_,_,_,_,_⟩⟩ ⟨_,⟨_,_,_,_,_⟩⟩ e <;> simp_all [Q7h,b74,o74]
def QgP {Z:Type} (z:Z) (F:B74 → Option (Int × B74)) (args:List AV) (h:Heap) (K:AV → Heap → Z):Z:=match args with | [.ptr (some (i0,0))]=>(k74 z h i0 fun s0 v0=>bnd z (F s0) fun r=>K (.dat (.int .i64 (r.1))) (h.set i0 (b74 (r.2) v0))) | _=>z
def e23 (f:Nat) (F:B74 → Option (Int × B74)):Ent1:=([f],fun l h K=>QgP False F (l.map sealV) h K,fun l h=>QgP none F (l.map sealV) h fun v h=>some (v,h))
def Q4c (r:Int × B74):AV × Heap:=((.dat (.int .i64 (r.1))),[b74 (r.2) 0])
theorem Qc5 {f:Nat} {F:B74 → Option (Int × B74)} (hF:∀ (s0:B74) (r:Int × B74),F s0 = some r → CallX Tryz.prog [] f [.ptr (some (0,0))] [b74 s0 0] (Q4c r).1 (Q4c r).2):EntryOk Tryz.prog (e23 f F):=by
 refine ⟨fun args h K=>?_,fun args h v h' hs=>Qh ?_⟩
 ·show Par K (QgP False F (args.map sealV) h K) (QgP none F (args.map sealV) h fun v h=>some (v,h))
  unfold QgP
  split
  ·repeat' first | exact Qm | exact Qb | apply Ql | (refine Qq fun _=>?_) | (refine Qn fun _=>?_) | (refine Qu fun _ _=>?_) | (refine Yu fun _ _=>?_)
  ·exact Qb
 ·change QgP none F (args.map sealV) h (fun v h=>some (v,h)) = some (v,h') at hs
  generalize args.map sealV = l at hs ⊢
  unfold QgP at hs
  split at hs
  ·replace hs:=Ys hs
   obtain ⟨s0,v0,cs0,hi0,hb0,hs⟩:=hs
   replace hs:=Qp hs
   obtain ⟨r,hr,hs⟩:=hs
   cases hs
   exact (hF _ _ hr).plain.frame (is:=[_]) (os:=[b74 (r.2) v0]) nd1 rfl rfl rfl rfl rfl (Jn (Ji ⟨_,_,_,_,hi0,rfl,rfl,rfl,Q0a hb0⟩ Jo))
  ·cases hs
theorem Q2o:∀ a b,Q4c a = Q4c b → a = b:=by
 rintro ⟨_,⟨_,_,_,_,_⟩⟩ ⟨_,⟨_,_,_,_,_⟩⟩ e <;> simp_all [Q4c,b74,o74]
def QgD {Z:Type} (z:Z) (F:B74 → Option (D × B74)) (args:List AV) (h:Heap) (K:AV → Heap → Z):Z:=match args with | [.ptr (some (i0,0))]=>(k74 z h i0 fun s0 v0=>bnd z (F s0) fun r=>K (.dat (r.1)) (h.set i0 (b74 (r.2) v0))) | _=>z
def e24 (f:Nat) (F:B74 → Option (D × B74)):Ent1:=([f],fun l h K=>QgD False F (l.map sealV) h K,fun l h=>QgD none F (l.map sealV) h fun v h=>some (v,h))
def Q3O (r:D × B74):AV × Heap:=((.dat (r.1)),[b74 (r.2) 0])
theorem QcC {f:Nat} {F:B74 → Option (D × B74)} (hF:∀ (s0:B74) (r:D × B74),F s0 = some r → CallX Tryz.prog [] f [.ptr (some (0,0))] [b74 s0 0] (Q3O r).1 (Q3O r).2):EntryOk Tryz.prog (e24 f F):=by
 refine ⟨fun args h K=>?_,fun args h v h' hs=>Qh ?_⟩
 ·show Par K (QgD False F (args.map sealV) h K) (QgD none F (args.map sealV) h fun v h=>some (v,h))
  unfold QgD
  split
  ·repeat' first | exact Qm | exact Qb | apply Ql | (refine Qq fun _=>?_) | (refine Qn fun _=>?_) | (refine Qu fun _ _=>?_) | (refine Yu fun _ _=>?_)
  ·exact Qb
 ·change QgD none F (args.map sealV) h (fun v h=>some (v,h)) = some (v,h') at hs
  generalize args.map sealV = l at hs ⊢
  unfold QgD at hs
  split at hs
  ·replace hs:=Ys hs
   obtain ⟨s0,v0,cs0,hi0,hb0,hs⟩:=hs
   replace hs:=Qp hs
   obtain ⟨r,hr,hs⟩:=hs
   cases hs
   exact (hF _ _ hr).plain.frame (is:=[_]) (os:=[b74 (r.2) v0]) nd1 rfl rfl rfl rfl rfl (Jn (Ji ⟨_,_,_,_,hi0,rfl,rfl,rfl,Q0a hb0⟩ Jo))
  ·cases hs
theorem Qbi:∀ a b,Q3O a = Q3O b → a = b:=by
 rintro ⟨_,⟨_,_,_,_,_⟩⟩ ⟨_,⟨_,_,_,_,_⟩⟩ e <;> simp_all [Q3O,b74,o74]
def Qh5 {Z:Type} (z:Z) (t0:Nat) (F:B74 → Option (D × B74)) (args:List AV) (h:Heap) (K:AV → Heap → Z):Z:=match args with | [.ptr (some (i0,0))]=>(k74 z h i0 fun s0 v0=>bnd z (F s0) fun r=>castK z Tryz.prog t0 (r.1) fun w0=>K w0 (h.set i0 (b74 (r.2) v0))) | _=>z
def e25 (f t0:Nat) (F:B74 → Option (D × B74)):Ent1:=([f],fun l h K=>Qh5 False t0 F (l.map sealV) h K,fun l h=>Qh5 none t0 F (l.map sealV) h fun v h=>some (v,h))
def Jt (r:D × B74):AV × Heap:=((.dat (r.1)),[b74 (r.2) 0])
theorem Je {f t0:Nat} {F:B74 → Option (D × B74)} (hF:∀ (s0:B74) (r:D × B74),F s0 = some r → CallX Tryz.prog [] f [.ptr (some (0,0))] [b74 s0 0] (Jt r).1 (Jt r).2):EntryOk Tryz.prog (e25 f t0 F):=by
 refine ⟨fun args h K=>?_,fun args h v h' hs=>Qh ?_⟩
 ·show Par K (Qh5 False t0 F (args.map sealV) h K) (Qh5 none t0 F (args.map sealV) h fun v h=>some (v,h))
  unfold Qh5
  split
  ·repeat' first | exact Qm | exact Qb | apply Ql | (refine Qq fun _=>?_) | (refine Qn fun _=>?_) | (refine Qu fun _ _=>?_) | (refine Yu fun _ _=>?_)
  ·exact Qb
 ·change Qh5 none t0 F (args.map sealV) h (fun v h=>some (v,h)) = some (v,h') at hs
  generalize args.map sealV = l at hs ⊢
  unfold Qh5 at hs
  split at hs
  ·replace hs:=Ys hs
   obtain ⟨s0,v0,cs0,hi0,hb0,hs⟩:=hs
   replace hs:=Qp hs
   obtain ⟨r,hr,hs⟩:=hs
   replace hs:=ZP hs
   cases hs
   exact (hF _ _ hr).plain.frame (is:=[_]) (os:=[b74 (r.2) v0]) nd1 rfl rfl rfl rfl rfl (Jn (Ji ⟨_,_,_,_,hi0,rfl,rfl,rfl,Q0a hb0⟩ Jo))
  ·cases hs
theorem QZ:∀ a b,Jt a = Jt b → a = b:=by
 rintro ⟨_,⟨_,_,_,_,_⟩⟩ ⟨_,⟨_,_,_,_,_⟩⟩ e <;> simp_all [Jt,b74,o74]
def Qgn {Z:Type} (z:Z) (F:B74 → D → Option (List UInt8 × B74)) (args:List AV) (h:Heap) (K:AV → Heap → Z):Z:=match args with | [.ptr (some (i0,0)),.dat a1]=>(k74 z h i0 fun s0 v0=>bnd z (F s0 a1) fun r=>K (.dat (.str (r.1))) (h.set i0 (b74 (r.2) v0))) | _=>z
def e26 (f:Nat) (F:B74 → D → Option (List UInt8 × B74)):Ent1:=([f],fun l h K=>Qgn False F (l.map sealV) h K,fun l h=>Qgn none F (l.map sealV) h fun v h=>some (v,h))
def Q8X (r:List UInt8 × B74):AV × Heap:=((.dat (.str (r.1))),[b74 (r.2) 0])
theorem QmG {f:Nat} {F:B74 → D → Option (List UInt8 × B74)} (hF:∀ (s0:B74) (a1:D) (r:List UInt8 × B74),F s0 a1 = some r → CallX Tryz.prog [] f [.ptr (some (0,0)),.dat a1] [b74 s0 0] (Q8X r).1 (Q8X r).2):EntryOk Tryz.prog (e26 f F):=by
 refine ⟨fun args h K=>?_,fun args h v h' hs=>Qh ?_⟩
 ·show Par K (Qgn False F (args.map sealV) h K) (Qgn none F (args.map sealV) h fun v h=>some (v,h))
  unfold Qgn
  split
  ·repeat' first | exact Qm | exact Qb | apply Ql | (refine Qq fun _=>?_) | (refine Qn fun _=>?_) | (refine Qu fun _ _=>?_) | (refine Yu fun _ _=>?_)
  ·exact Qb
 ·change Qgn none F (args.map sealV) h (fun v h=>some (v,h)) = some (v,h') at hs
  generalize args.map sealV = l at hs ⊢
  unfold Qgn at hs
  split at hs
  ·replace hs:=Ys hs
   obtain ⟨s0,v0,cs0,hi0,hb0,hs⟩:=hs
   replace hs:=Qp hs
   obtain ⟨r,hr,hs⟩:=hs
   cases hs
   exact (hF _ _ _ hr).plain.frame (is:=[_]) (os:=[b74 (r.2) v0]) nd1 rfl rfl rfl rfl rfl (Jn (Ji ⟨_,_,_,_,hi0,rfl,rfl,rfl,Q0a hb0⟩ Jo))
  ·cases hs
theorem Qkp:∀ a b,Q8X a = Q8X b → a = b:=by
 rintro ⟨_,⟨_,_,_,_,_⟩⟩ ⟨_,⟨_,_,_,_,_⟩⟩ e <;> simp_all [Q8X,b74,o74]
def Qhw {Z:Type} (z:Z) (F:B74 → Option (Int × Int × B74)) (args:List AV) (h:Heap) (K:AV → Heap → Z):Z:=match args with | [.ptr (some (i0,0))]=>(k74 z h i0 fun s0 v0=>bnd z (F s0) fun r=>K (.tuple [(.dat (.int .i64 (r.1))),(.dat (.int .i64 (r.2.1)))]) (h.set i0 (b74 (r.2.2) v0))) | _=>z
def e27 (f:Nat) (F:B74 → Option (Int × Int × B74)):Ent1:=([f],fun l h K=>Qhw False F (l.map sealV) h K,fun l h=>Qhw none F (l.map sealV) h fun v h=>some (v,h))
def Q83 (r:Int × Int × B74):AV × Heap:=((.tuple [.dat (.int .i64 (r.1)),.dat (.int .i64 (r.2.1))]),[b74 (r.2.2) 0])
theorem Qmy {f:Nat} {F:B74 → Option (Int × Int × B74)} (hF:∀ (s0:B74) (r:Int × Int × B74),F s0 = some r → CallX Tryz.prog [] f [.ptr (some (0,0))] [b74 s0 0] (Q83 r).1 (Q83 r).2):EntryOk Tryz.prog (e27 f F):=by
 refine ⟨fun args h K=>?_,fun args h v h' hs=>Qh ?_⟩
 ·show Par K (Qhw False F (args.map sealV) h K) (Qhw none F (args.map sealV) h fun v h=>some (v,h))
  unfold Qhw
  split
  ·repeat' first | exact Qm | exact Qb | apply Ql | (refine Qq fun _=>?_) | (refine Qn fun _=>?_) | (refine Qu fun _ _=>?_) | (refine Yu fun _ _=>?_)
  ·exact Qb
 ·change Qhw none F (args.map sealV) h (fun v h=>some (v,h)) = some (v,h') at hs
  generalize args.map sealV = l at hs ⊢
  unfold Qhw at hs
  split at hs
  ·replace hs:=Ys hs
   obtain ⟨s0,v0,cs0,hi0,hb0,hs⟩:=hs
   replace hs:=Qp hs
   obtain ⟨r,hr,hs⟩:=hs
   cases hs
   exact (hF _ _ hr).plain.frame (is:=[_]) (os:=[b74 (r.2.2) v0]) nd1 rfl rfl rfl rfl rfl (Jn (Ji ⟨_,_,_,_,hi0,rfl,rfl,rfl,Q0a hb0⟩ Jo))
  ·cases hs
theorem Q4Z:∀ a b,Q83 a = Q83 b → a = b:=by
 rintro ⟨_,_,⟨_,_,_,_,_⟩⟩ ⟨_,_,⟨_,_,_,_,_⟩⟩ e <;> simp_all [Q83,b74,o74]
def Qh6 {Z:Type} (z:Z) (F:List UInt8 → Int → Option (B74)) (args:List AV) (h:Heap) (K:AV → Heap → Z):Z:=match args with | [.dat (.str a0),.dat (.int .i64 a1)]=>(bnd z (F a0 a1) fun r=>K (.ptr (some (h.length + 0,0))) (h ++ [b74 r 0])) | _=>z
def e28 (f:Nat) (F:List UInt8 → Int → Option (B74)):Ent1:=([f],fun l h K=>Qh6 False F (l.map sealV) h K,fun l h=>Qh6 none F (l.map sealV) h fun v h=>some (v,h))
def Q9L (r:B74):AV × Heap:=((.ptr (some (0,0))),[b74 r 0])
theorem Qpi {f:Nat} {F:List UInt8 → Int → Option (B74)} (hF:∀ (a0:List UInt8) (a1:Int) (r:B74),F a0 a1 = some r → CallX Tryz.prog [] f [.dat (.str a0),.dat (.int .i64 a1)] [] (Q9L r).1 (Q9L r).2):EntryOk Tryz.prog (e28 f F):=by
 refine ⟨fun args h K=>?_,fun args h v h' hs=>Qh ?_⟩
 ·show Par K (Qh6 False F (args.map sealV) h K) (Qh6 none F (args.map sealV) h fun v h=>some (v,h))
  unfold Qh6
  split
  ·repeat' first | exact Qm | exact Qb | apply Ql | (refine Qq fun _=>?_) | (refine Qn fun _=>?_) | (refine Qu fun _ _=>?_)
  ·exact Qb
 ·change Qh6 none F (args.map sealV) h (fun v h=>some (v,h)) = some (v,h') at hs
  generalize args.map sealV = l at hs ⊢
  unfold Qh6 at hs
  split at hs
  ·replace hs:=Qp hs
   obtain ⟨r,hr,hs⟩:=hs
   cases hs
   exact (hF _ _ _ hr).plain.frameG (is:=[]) (os:=[]) (news:=[b74 r 0]) (fun a b h1 h2=>by simp only [List.length_cons,List.length_nil] at h2; omega) rfl rfl rfl rfl rfl (Jn Jo) (Jn (Ji ⟨_,_,rfl,rfl,rfl⟩ Jo))
  ·cases hs
theorem QkJ:∀ a b,Q9L a = Q9L b → a = b:=by
 rintro ⟨_,_,_,_,_⟩ ⟨_,_,_,_,_⟩ e <;> simp_all [Q9L,b74,o74]
def QfY {Z:Type} (z:Z) (t0 t1:Nat) (F:D → D → Option (Bool)) (args:List AV) (h:Heap) (K:AV → Heap → Z):Z:=match args with | [.dat a0,.dat a1]=>(cnd (okG t0 a0) (cnd (okG t1 a1) (bnd z (F a0 a1) fun r=>K (.dat (.bool r)) h) z) z) | _=>z
def e29 (f t0 t1:Nat) (F:D → D → Option (Bool)):Ent1:=([f],fun l h K=>QfY False t0 t1 F (l.map sealV) h K,fun l h=>QfY none t0 t1 F (l.map sealV) h fun v h=>some (v,h))
def Q1V (r:Bool):AV × Heap:=((.dat (.bool r)),[])
theorem Q5j {f t0 t1:Nat} {F:D → D → Option (Bool)} (hF:∀ (a0:D) (a1:D) (r:Bool),F a0 a1 = some r → CallX Tryz.prog [] f [.dat (G t0 a0),.dat (G t1 a1)] [] (Q1V r).1 (Q1V r).2):EntryOk Tryz.prog (e29 f t0 t1 F):=by
 refine ⟨fun args h K=>?_,fun args h v h' hs=>Qh ?_⟩
 ·show Par K (QfY False t0 t1 F (args.map sealV) h K) (QfY none t0 t1 F (args.map sealV) h fun v h=>some (v,h))
  unfold QfY
  split
  ·repeat' first | exact Qm | exact Qb | apply Ql | (refine Qq fun _=>?_) | (refine Qn fun _=>?_) | (refine Qu fun _ _=>?_)
  ·exact Qb
 ·change QfY none t0 t1 F (args.map sealV) h (fun v h=>some (v,h)) = some (v,h') at hs
  generalize args.map sealV = l at hs ⊢
  unfold QfY at hs
  split at hs
  ·replace hs:=YZ hs
   obtain ⟨ho0,hs⟩:=hs
   replace hs:=YZ hs
   obtain ⟨ho1,hs⟩:=hs
   replace hs:=Qp hs
   obtain ⟨r,hr,hs⟩:=hs
   cases hs
   rw [QaL ho0]
   rw [QaL ho1]
   exact (hF _ _ _ hr).plain.frame0 rfl rfl
  ·cases hs
theorem Q4K:∀ a b,Q1V a = Q1V b → a = b:=by
 rintro _ _ e <;> simp_all [Q1V]
def QfO {Z:Type} (z:Z) (F:D → D → Option (Bool)) (args:List AV) (h:Heap) (K:AV → Heap → Z):Z:=match args with | [.dat a0,.dat a1]=>(bnd z (F a0 a1) fun r=>K (.dat (.bool r)) h) | _=>z
def e30 (f:Nat) (F:D → D → Option (Bool)):Ent1:=([f],fun l h K=>QfO False F (l.map sealV) h K,fun l h=>QfO none F (l.map sealV) h fun v h=>some (v,h))
def Hl (r:Bool):AV × Heap:=((.dat (.bool r)),[])
theorem Q0d {f:Nat} {F:D → D → Option (Bool)} (hF:∀ (a0:D) (a1:D) (r:Bool),F a0 a1 = some r → CallX Tryz.prog [] f [.dat a0,.dat a1] [] (Hl r).1 (Hl r).2):EntryOk Tryz.prog (e30 f F):=by
 refine ⟨fun args h K=>?_,fun args h v h' hs=>Qh ?_⟩
 ·show Par K (QfO False F (args.map sealV) h K) (QfO none F (args.map sealV) h fun v h=>some (v,h))
  unfold QfO
  split
  ·repeat' first | exact Qm | exact Qb | apply Ql | (refine Qq fun _=>?_) | (refine Qn fun _=>?_) | (refine Qu fun _ _=>?_)
  ·exact Qb
 ·change QfO none F (args.map sealV) h (fun v h=>some (v,h)) = some (v,h') at hs
  generalize args.map sealV = l at hs ⊢
  unfold QfO at hs
  split at hs
  ·replace hs:=Qp hs
   obtain ⟨r,hr,hs⟩:=hs
   cases hs
   exact (hF _ _ _ hr).plain.frame0 rfl rfl
  ·cases hs
theorem Q0m:∀ a b,Hl a = Hl b → a = b:=by
 rintro _ _ e <;> simp_all [Hl]
def QgY {Z:Type} (z:Z) (F:Option (D)) (args:List AV) (h:Heap) (K:AV → Heap → Z):Z:=match args with | []=>(bnd z (F ) fun r=>K (.dat r) h) | _=>z
def e31 (f:Nat) (F:Option (D)):Ent1:=([f],fun l h K=>QgY False F (l.map sealV) h K,fun l h=>QgY none F (l.map sealV) h fun v h=>some (v,h))
def Q3q (r:D):AV × Heap:=((.dat r),[])
theorem Qcj {f:Nat} {F:Option (D)} (hF:∀ (r:D),F = some r → CallX Tryz.prog [] f [] [] (Q3q r).1 (Q3q r).2):EntryOk Tryz.prog (e31 f F):=by
 refine ⟨fun args h K=>?_,fun args h v h' hs=>Qh ?_⟩
 ·show Par K (QgY False F (args.map sealV) h K) (QgY none F (args.map sealV) h fun v h=>some (v,h))
  unfold QgY
  split
  ·repeat' first | exact Qm | exact Qb | apply Ql | (refine Qq fun _=>?_) | (refine Qn fun _=>?_) | (refine Qu fun _ _=>?_)
  ·exact Qb
 ·change QgY none F (args.map sealV) h (fun v h=>some (v,h)) = some (v,h') at hs
  generalize args.map sealV = l at hs ⊢
  unfold QgY at hs
  split at hs
  ·replace hs:=Qp hs
   obtain ⟨r,hr,hs⟩:=hs
   cases hs
   exact (hF _ hr).plain.frame0 rfl rfl
  ·cases hs
theorem QaR:∀ a b,Q3q a = Q3q b → a = b:=by
 rintro _ _ e <;> simp_all [Q3q]
def QfJ {Z:Type} (z:Z) (F:Int → Option (Bool)) (args:List AV) (h:Heap) (K:AV → Heap → Z):Z:=match args with | [.dat (.int .u8 a0)]=>(bnd z (F a0) fun r=>K (.dat (.bool r)) h) | _=>z
def e32 (f:Nat) (F:Int → Option (Bool)):Ent1:=([f],fun l h K=>QfJ False F (l.map sealV) h K,fun l h=>QfJ none F (l.map sealV) h fun v h=>some (v,h))
def Yz (r:Bool):AV × Heap:=((.dat (.bool r)),[])
theorem YQ {f:Nat} {F:Int → Option (Bool)} (hF:∀ (a0:Int) (r:Bool),F a0 = some r → CallX Tryz.prog [] f [.dat (.int .u8 a0)] [] (Yz r).1 (Yz r).2):EntryOk Tryz.prog (e32 f F):=by
 refine ⟨fun args h K=>?_,fun args h v h' hs=>Qh ?_⟩
 ·show Par K (QfJ False F (args.map sealV) h K) (QfJ none F (args.map sealV) h fun v h=>some (v,h))
  unfold QfJ
  split
  ·repeat' first | exact Qm | exact Qb | apply Ql | (refine Qq fun _=>?_) | (refine Qn fun _=>?_) | (refine Qu fun _ _=>?_)
  ·exact Qb
 ·change QfJ none F (args.map sealV) h (fun v h=>some (v,h)) = some (v,h') at hs
  generalize args.map sealV = l at hs ⊢
  unfold QfJ at hs
  split at hs
  ·replace hs:=Qp hs
   obtain ⟨r,hr,hs⟩:=hs
   cases hs
   exact (hF _ _ hr).plain.frame0 rfl rfl
  ·cases hs
theorem Hb:∀ a b,Yz a = Yz b → a = b:=by
 rintro _ _ e <;> simp_all [Yz]
def Qif {Z:Type} (z:Z) (F:List UInt8 → Int → Option (Int × List UInt8 × Int × Int)) (args:List AV) (h:Heap) (K:AV → Heap → Z):Z:=match args with | [.dat (.str a0),.dat (.int .i64 a1)]=>(bnd z (F a0 a1) fun r=>K (.tuple [(.dat (.int .i64 (r.1))),(.dat (.str (r.2.1))),(.dat (.int .i64 (r.2.2.1))),(.dat (.int .i64 (r.2.2.2)))]) h) | _=>z
def e33 (f:Nat) (F:List UInt8 → Int → Option (Int × List UInt8 × Int × Int)):Ent1:=([f],fun l h K=>Qif False F (l.map sealV) h K,fun l h=>Qif none F (l.map sealV) h fun v h=>some (v,h))
def Q7X (r:Int × List UInt8 × Int × Int):AV × Heap:=((.tuple [.dat (.int .i64 (r.1)),.dat (.str (r.2.1)),.dat (.int .i64 (r.2.2.1)),.dat (.int .i64 (r.2.2.2))]),[])
theorem QmO {f:Nat} {F:List UInt8 → Int → Option (Int × List UInt8 × Int × Int)} (hF:∀ (a0:List UInt8) (a1:Int) (r:Int × List UInt8 × Int × Int),F a0 a1 = some r → CallX Tryz.prog [] f [.dat (.str a0),.dat (.int .i64 a1)] [] (Q7X r).1 (Q7X r).2):EntryOk Tryz.prog (e33 f F):=by
 refine ⟨fun args h K=>?_,fun args h v h' hs=>Qh ?_⟩
 ·show Par K (Qif False F (args.map sealV) h K) (Qif none F (args.map sealV) h fun v h=>some (v,h))
  unfold Qif
  split
  ·repeat' first | exact Qm | exact Qb | apply Ql | (refine Qq fun _=>?_) | (refine Qn fun _=>?_) | (refine Qu fun _ _=>?_)
  ·exact Qb
 ·change Qif none F (args.map sealV) h (fun v h=>some (v,h)) = some (v,h') at hs
  generalize args.map sealV = l at hs ⊢
  unfold Qif at hs
  split at hs
  ·replace hs:=Qp hs
   obtain ⟨r,hr,hs⟩:=hs
   cases hs
   exact (hF _ _ _ hr).plain.frame0 rfl rfl
  ·cases hs
theorem Qkf:∀ a b,Q7X a = Q7X b → a = b:=by
 rintro ⟨_,_,_,_⟩ ⟨_,_,_,_⟩ e <;> simp_all [Q7X]
def QhL {Z:Type} (z:Z) (t0:Nat) (F:List UInt8 → Int → Option (D × Int × Int × Int)) (args:List AV) (h:Heap) (K:AV → Heap → Z):Z:=match args with | [.dat (.str a0),.dat (.int .i64 a1)]=>(bnd z (F a0 a1) fun r=>castK z Tryz.prog t0 (r.1) fun w0=>K (.tuple [w0,(.dat (.int .i64 (r.2.1))),(.dat (.int .i64 (r.2.2.1))),(.dat (.int .i64 (r.2.2.2)))]) h) | _=>z
def e34 (f t0:Nat) (F:List UInt8 → Int → Option (D × Int × Int × Int)):Ent1:=([f],fun l h K=>QhL False t0 F (l.map sealV) h K,fun l h=>QhL none t0 F (l.map sealV) h fun v h=>some (v,h))
def Q7e (r:D × Int × Int × Int):AV × Heap:=((.tuple [.dat (r.1),.dat (.int .i64 (r.2.1)),.dat (.int .i64 (r.2.2.1)),.dat (.int .i64 (r.2.2.2))]),[])
theorem QpA {f t0:Nat} {F:List UInt8 → Int → Option (D × Int × Int × Int)} (hF:∀ (a0:List UInt8) (a1:Int) (r:D × Int × Int × Int),F a0 a1 = some r → CallX Tryz.prog [] f [.dat (.str a0),.dat (.int .i64 a1)] [] (Q7e r).1 (Q7e r).2):EntryOk Tryz.prog (e34 f t0 F):=by
 refine ⟨fun args h K=>?_,fun args h v h' hs=>Qh ?_⟩
 ·show Par K (QhL False t0 F (args.map sealV) h K) (QhL none t0 F (args.map sealV) h fun v h=>some (v,h))
  unfold QhL
  split
  ·repeat' first | exact Qm | exact Qb | apply Ql | (refine Qq fun _=>?_) | (refine Qn fun _=>?_) | (refine Qu fun _ _=>?_)
  ·exact Qb
 ·change QhL none t0 F (args.map sealV) h (fun v h=>some (v,h)) = some (v,h') at hs
  generalize args.map sealV = l at hs ⊢
  unfold QhL at hs
  split at hs
  ·replace hs:=Qp hs
   obtain ⟨r,hr,hs⟩:=hs
   replace hs:=ZP hs
   cases hs
   exact (hF _ _ _ hr).plain.frame0 rfl rfl
  ·cases hs
theorem Qlu:∀ a b,Q7e a = Q7e b → a = b:=by
 rintro ⟨_,_,_,_⟩ ⟨_,_,_,_⟩ e <;> simp_all [Q7e]
def Qgm {Z:Type} (z:Z) (F:List UInt8 → Option (D × Int × Int)) (args:List AV) (h:Heap) (K:AV → Heap → Z):Z:=match args with | [.dat (.str a0)]=>(bnd z (F a0) fun r=>K (.tuple [(.dat (r.1)),(.dat (.int .i64 (r.2.1))),(.dat (.int .i64 (r.2.2)))]) h) | _=>z
def e35 (f:Nat) (F:List UInt8 → Option (D × Int × Int)):Ent1:=([f],fun l h K=>Qgm False F (l.map sealV) h K,fun l h=>Qgm none F (l.map sealV) h fun v h=>some (v,h))
def Q4r (r:D × Int × Int):AV × Heap:=((.tuple [.dat (r.1),.dat (.int .i64 (r.2.1)),.dat (.int .i64 (r.2.2))]),[])
theorem QcE {f:Nat} {F:List UInt8 → Option (D × Int × Int)} (hF:∀ (a0:List UInt8) (r:D × Int × Int),F a0 = some r → CallX Tryz.prog [] f [.dat (.str a0)] [] (Q4r r).1 (Q4r r).2):EntryOk Tryz.prog (e35 f F):=by
 refine ⟨fun args h K=>?_,fun args h v h' hs=>Qh ?_⟩
 ·show Par K (Qgm False F (args.map sealV) h K) (Qgm none F (args.map sealV) h fun v h=>some (v,h))
  unfold Qgm
  split
  ·repeat' first | exact Qm | exact Qb | apply Ql | (refine Qq fun _=>?_) | (refine Qn fun _=>?_) | (refine Qu fun _ _=>?_)
  ·exact Qb
 ·change Qgm none F (args.map sealV) h (fun v h=>some (v,h)) = some (v,h') at hs
  generalize args.map sealV = l at hs ⊢
  unfold Qgm at hs
  split at hs
  ·replace hs:=Qp hs
   obtain ⟨r,hr,hs⟩:=hs
   cases hs
   exact (hF _ _ hr).plain.frame0 rfl rfl
  ·cases hs
theorem QbT:∀ a b,Q4r a = Q4r b → a = b:=by
 rintro ⟨_,_,_⟩ ⟨_,_,_⟩ e <;> simp_all [Q4r]
def QhJ {Z:Type} (z:Z) (F:B132 → Option (B132)) (args:List AV) (h:Heap) (K:AV → Heap → Z):Z:=match args with | [.ptr (some (i0,0))]=>(k132 z h i0 fun s0=>bnd z (F s0) fun r=>gcas (r).c2 (K (.tuple []) (h.set i0 (some (.cells 132 [.dat (.str (r).c0),.dat (.int .i64 (r).c1),.dat .nils] (r).ver)))) (z) fun es0 w0=>K (.tuple []) (h.set i0 (some (.cells 132 [.dat (.str (r).c0),.dat (.int .i64 (r).c1),.own (.at i0 2 w0 107) es0] (r).ver)))) | _=>z
def e36 (f:Nat) (F:B132 → Option (B132)):Ent1:=([f],fun l h K=>QhJ False F (l.map sealV) h K,fun l h=>QhJ none F (l.map sealV) h fun v h=>some (v,h))
def Q5J (r:B132):AV × Heap:=((.tuple []),[b132 0 r])
theorem QmT {f:Nat} {F:B132 → Option (B132)} (hF:∀ (s0:B132) (r:B132),F s0 = some r → CallX Tryz.prog [true] f [.ptr (some (0,0))] [b132 0 s0] (Q5J r).1 (Q5J r).2):EntryOk Tryz.prog (e36 f F):=by
 refine ⟨fun args h K=>?_,fun args h v h' hs=>Qh ?_⟩
 ·show Par K (QhJ False F (args.map sealV) h K) (QhJ none F (args.map sealV) h fun v h=>some (v,h))
  unfold QhJ
  split
  ·repeat' first | exact Qm | exact Qb | apply Ql | (refine Qq fun _=>?_) | (refine Qn fun _=>?_) | (refine Qu fun _ _=>?_) | (refine Q1s fun _=>?_) | (refine Y5 ?_ ?_ fun _ _=>?_)
  ·exact Qb
 ·change QhJ none F (args.map sealV) h (fun v h=>some (v,h)) = some (v,h') at hs
  generalize args.map sealV = l at hs ⊢
  unfold QhJ at hs
  split at hs
  ·replace hs:=Q1Q hs
   obtain ⟨s0,hi0,hs⟩:=hs
   replace hs:=Qp hs
   obtain ⟨r,hr,hs⟩:=hs
   obtain ⟨_,_,g0,_⟩:=r
   rcases g0 with _ | _ | ⟨_,_⟩
   all_goals cases hs
   all_goals exact (hF _ _ hr).frame0 (by simp) (is:=[_]) (os:=[_]) (fun a b h1 h2=>by simp only [List.length_cons,List.length_nil] at h2; omega) rfl rfl rfl rfl rfl (Jn (Ji ⟨_,_,_,_,hi0,rfl,rfl,rfl,Q1r rfl rfl (by simp)⟩ Jo))
  ·cases hs
theorem QbF:∀ a b,Q5J a = Q5J b → a = b:=by
 rintro ⟨_,_,g0,_⟩ ⟨_,_,h0,_⟩ e <;> rcases g0 with _ | _ | ⟨_,_⟩ <;> rcases h0 with _ | _ | ⟨_,_⟩ <;> simp_all [Q5J,b132,o132,gcas]
def Qik {Z:Type} (z:Z) (F:B132 → Option (Int × B132)) (args:List AV) (h:Heap) (K:AV → Heap → Z):Z:=match args with | [.ptr (some (i0,0))]=>(k132 z h i0 fun s0=>bnd z (F s0) fun r=>gcas (r.2).c2 (K (.dat (.int .i64 (r.1))) (h.set i0 (some (.cells 132 [.dat (.str (r.2).c0),.dat (.int .i64 (r.2).c1),.dat .nils] (r.2).ver)))) (z) fun es0 w0=>K (.dat (.int .i64 (r.1))) (h.set i0 (some (.cells 132 [.dat (.str (r.2).c0),.dat (.int .i64 (r.2).c1),.own (.at i0 2 w0 107) es0] (r.2).ver)))) | _=>z
def e37 (f:Nat) (F:B132 → Option (Int × B132)):Ent1:=([f],fun l h K=>Qik False F (l.map sealV) h K,fun l h=>Qik none F (l.map sealV) h fun v h=>some (v,h))
def ZW (r:Int × B132):AV × Heap:=((.dat (.int .i64 (r.1))),[b132 0 (r.2)])
theorem HZ {f:Nat} {F:B132 → Option (Int × B132)} (hF:∀ (s0:B132) (r:Int × B132),F s0 = some r → CallX Tryz.prog [true] f [.ptr (some (0,0))] [b132 0 s0] (ZW r).1 (ZW r).2):EntryOk Tryz.prog (e37 f F):=by
 refine ⟨fun args h K=>?_,fun args h v h' hs=>Qh ?_⟩
 ·show Par K (Qik False F (args.map sealV) h K) (Qik none F (args.map sealV) h fun v h=>some (v,h))
  unfold Qik
  split
  ·repeat' first | exact Qm | exact Qb | apply Ql | (refine Qq fun _=>?_) | (refine Qn fun _=>?_) | (refine Qu fun _ _=>?_) | (refine Q1s fun _=>?_) | (refine Y5 ?_ ?_ fun _ _=>?_)
  ·exact Qb
 ·change Qik none F (args.map sealV) h (fun v h=>some (v,h)) = some (v,h') at hs
  generalize args.map sealV = l at hs ⊢
  unfold Qik at hs
  split at hs
  ·replace hs:=Q1Q hs
   obtain ⟨s0,hi0,hs⟩:=hs
   replace hs:=Qp hs
   obtain ⟨r,hr,hs⟩:=hs
   obtain ⟨_,⟨_,_,g0,_⟩⟩:=r
   rcases g0 with _ | _ | ⟨_,_⟩
   all_goals cases hs
   all_goals exact (hF _ _ hr).frame0 (by simp) (is:=[_]) (os:=[_]) (fun a b h1 h2=>by simp only [List.length_cons,List.length_nil] at h2; omega) rfl rfl rfl rfl rfl (Jn (Ji ⟨_,_,_,_,hi0,rfl,rfl,rfl,Q1r rfl rfl (by simp)⟩ Jo))
  ·cases hs
theorem QS:∀ a b,ZW a = ZW b → a = b:=by
 rintro ⟨_,⟨_,_,g0,_⟩⟩ ⟨_,⟨_,_,h0,_⟩⟩ e <;> rcases g0 with _ | _ | ⟨_,_⟩ <;> rcases h0 with _ | _ | ⟨_,_⟩ <;> simp_all [ZW,b132,o132,gcas]
def QfS {Z:Type} (z:Z) (t0:Nat) (F:B132 → D → Option (Int × B132)) (args:List AV) (h:Heap) (K:AV → Heap → Z):Z:=match args with | [.ptr (some (i0,0)),.dat a1]=>(k132 z h i0 fun s0=>cnd (okG t0 a1) (bnd z (F s0 a1) fun r=>gcas (r.2).c2 (K (.dat (.int .i64 (r.1))) (h.set i0 (some (.cells 132 [.dat (.str (r.2).c0),.dat (.int .i64 (r.2).c1),.dat .nils] (r.2).ver)))) (z) fun es0 w0=>K (.dat (.int .i64 (r.1))) (h.set i0 (some (.cells 132 [.dat (.str (r.2).c0),.dat (.int .i64 (r.2).c1),.own (.at i0 2 w0 107) es0] (r.2).ver)))) z) | _=>z
def e38 (f t0:Nat) (F:B132 → D → Option (Int × B132)):Ent1:=([f],fun l h K=>QfS False t0 F (l.map sealV) h K,fun l h=>QfS none t0 F (l.map sealV) h fun v h=>some (v,h))
def Q5P (r:Int × B132):AV × Heap:=((.dat (.int .i64 (r.1))),[b132 0 (r.2)])
theorem Qn9 {f t0:Nat} {F:B132 → D → Option (Int × B132)} (hF:∀ (s0:B132) (a1:D) (r:Int × B132),F s0 a1 = some r → CallX Tryz.prog [true] f [.ptr (some (0,0)),.dat (G t0 a1)] [b132 0 s0] (Q5P r).1 (Q5P r).2):EntryOk Tryz.prog (e38 f t0 F):=by
 refine ⟨fun args h K=>?_,fun args h v h' hs=>Qh ?_⟩
 ·show Par K (QfS False t0 F (args.map sealV) h K) (QfS none t0 F (args.map sealV) h fun v h=>some (v,h))
  unfold QfS
  split
  ·repeat' first | exact Qm | exact Qb | apply Ql | (refine Qq fun _=>?_) | (refine Qn fun _=>?_) | (refine Qu fun _ _=>?_) | (refine Q1s fun _=>?_) | (refine Y5 ?_ ?_ fun _ _=>?_)
  ·exact Qb
 ·change QfS none t0 F (args.map sealV) h (fun v h=>some (v,h)) = some (v,h') at hs
  generalize args.map sealV = l at hs ⊢
  unfold QfS at hs
  split at hs
  ·replace hs:=Q1Q hs
   obtain ⟨s0,hi0,hs⟩:=hs
   replace hs:=YZ hs
   obtain ⟨ho1,hs⟩:=hs
   replace hs:=Qp hs
   obtain ⟨r,hr,hs⟩:=hs
   obtain ⟨_,⟨_,_,g0,_⟩⟩:=r
   rcases g0 with _ | _ | ⟨_,_⟩
   all_goals cases hs
   all_goals rw [QaL ho1]
   all_goals exact (hF _ _ _ hr).frame0 (by simp) (is:=[_]) (os:=[_]) (fun a b h1 h2=>by simp only [List.length_cons,List.length_nil] at h2; omega) rfl rfl rfl rfl rfl (Jn (Ji ⟨_,_,_,_,hi0,rfl,rfl,rfl,Q1r rfl rfl (by simp)⟩ Jo))
  ·cases hs
theorem Q4O:∀ a b,Q5P a = Q5P b → a = b:=by
 rintro ⟨_,⟨_,_,g0,_⟩⟩ ⟨_,⟨_,_,h0,_⟩⟩ e <;> rcases g0 with _ | _ | ⟨_,_⟩ <;> rcases h0 with _ | _ | ⟨_,_⟩ <;> simp_all [Q5P,b132,o132,gcas]
def Qhq {Z:Type} (z:Z) (F:B132 → Int → Option (Int × B132)) (args:List AV) (h:Heap) (K:AV → Heap → Z):Z:=match args with | [.ptr (some (i0,0)),.dat (.int .i64 a1)]=>(k132 z h i0 fun s0=>bnd z (F s0 a1) fun r=>gcas (r.2).c2 (K (.dat (.int .i64 (r.1))) (h.set i0 (some (.cells 132 [.dat (.str (r.2).c0),.dat (.int .i64 (r.2).c1),.dat .nils] (r.2).ver)))) (z) fun es0 w0=>K (.dat (.int .i64 (r.1))) (h.set i0 (some (.cells 132 [.dat (.str (r.2).c0),.dat (.int .i64 (r.2).c1),.own (.at i0 2 w0 107) es0] (r.2).ver)))) | _=>z
def e39 (f:Nat) (F:B132 → Int → Option (Int × B132)):Ent1:=([f],fun l h K=>Qhq False F (l.map sealV) h K,fun l h=>Qhq none F (l.map sealV) h fun v h=>some (v,h))
def Q6a (r:Int × B132):AV × Heap:=((.dat (.int .i64 (r.1))),[b132 0 (r.2)])
theorem Qns {f:Nat} {F:B132 → Int → Option (Int × B132)} (hF:∀ (s0:B132) (a1:Int) (r:Int × B132),F s0 a1 = some r → CallX Tryz.prog [true] f [.ptr (some (0,0)),.dat (.int .i64 a1)] [b132 0 s0] (Q6a r).1 (Q6a r).2):EntryOk Tryz.prog (e39 f F):=by
 refine ⟨fun args h K=>?_,fun args h v h' hs=>Qh ?_⟩
 ·show Par K (Qhq False F (args.map sealV) h K) (Qhq none F (args.map sealV) h fun v h=>some (v,h))
  unfold Qhq
  split
  ·repeat' first | exact Qm | exact Qb | apply Ql | (refine Qq fun _=>?_) | (refine Qn fun _=>?_) | (refine Qu fun _ _=>?_) | (refine Q1s fun _=>?_) | (refine Y5 ?_ ?_ fun _ _=>?_)
  ·exact Qb
 ·change Qhq none F (args.map sealV) h (fun v h=>some (v,h)) = some (v,h') at hs
  generalize args.map sealV = l at hs ⊢
  unfold Qhq at hs
  split at hs
  ·replace hs:=Q1Q hs
   obtain ⟨s0,hi0,hs⟩:=hs
   replace hs:=Qp hs
   obtain ⟨r,hr,hs⟩:=hs
   obtain ⟨_,⟨_,_,g0,_⟩⟩:=r
   rcases g0 with _ | _ | ⟨_,_⟩
   all_goals cases hs
   all_goals exact (hF _ _ _ hr).frame0 (by simp) (is:=[_]) (os:=[_]) (fun a b h1 h2=>by simp only [List.length_cons,List.length_nil] at h2; omega) rfl rfl rfl rfl rfl (Jn (Ji ⟨_,_,_,_,hi0,rfl,rfl,rfl,Q1r rfl rfl (by simp)⟩ Jo))
  ·cases hs
theorem QbO:∀ a b,Q6a a = Q6a b → a = b:=by
 rintro ⟨_,⟨_,_,g0,_⟩⟩ ⟨_,⟨_,_,h0,_⟩⟩ e <;> rcases g0 with _ | _ | ⟨_,_⟩ <;> rcases h0 with _ | _ | ⟨_,_⟩ <;> simp_all [Q6a,b132,o132,gcas]
def Qgo {Z:Type} (z:Z) (k0:Nat) (F:B132 → Option (List UInt8 × B132)) (args:List AV) (h:Heap) (K:AV → Heap → Z):Z:=match args with | [.ptr (some (i0,0)),.func (.func g1) [] []]=>(cnd (Nat.beq g1 k0) (k132 z h i0 fun s0=>bnd z (F s0) fun r=>gcas (r.2).c2 (K (.dat (.str (r.1))) (h.set i0 (some (.cells 132 [.dat (.str (r.2).c0),.dat (.int .i64 (r.2).c1),.dat .nils] (r.2).ver)))) (z) fun es0 w0=>K (.dat (.str (r.1))) (h.set i0 (some (.cells 132 [.dat (.str (r.2).c0),.dat (.int .i64 (r.2).c1),.own (.at i0 2 w0 107) es0] (r.2).ver)))) z) | _=>z
def e40 (f k0:Nat) (F:B132 → Option (List UInt8 × B132)):Ent1:=([f,k0],fun l h K=>Qgo False k0 F (l.map sealV) h K,fun l h=>Qgo none k0 F (l.map sealV) h fun v h=>some (v,h))
def Q1u (r:List UInt8 × B132):AV × Heap:=((.dat (.str (r.1))),[b132 0 (r.2)])
theorem Qdl {f k0:Nat} {F:B132 → Option (List UInt8 × B132)} (hF:∀ (s0:B132) (r:List UInt8 × B132),F s0 = some r → CallX Tryz.prog [true] f [.ptr (some (0,0)),.func (.func k0) [] []] [b132 0 s0] (Q1u r).1 (Q1u r).2):EntryOk Tryz.prog (e40 f k0 F):=by
 refine ⟨fun args h K=>?_,fun args h v h' hs=>Qh ?_⟩
 ·show Par K (Qgo False k0 F (args.map sealV) h K) (Qgo none k0 F (args.map sealV) h fun v h=>some (v,h))
  unfold Qgo
  split
  ·repeat' first | exact Qm | exact Qb | apply Ql | (refine Qq fun _=>?_) | (refine Qn fun _=>?_) | (refine Qu fun _ _=>?_) | (refine Q1s fun _=>?_) | (refine Y5 ?_ ?_ fun _ _=>?_)
  ·exact Qb
 ·change Qgo none k0 F (args.map sealV) h (fun v h=>some (v,h)) = some (v,h') at hs
  generalize args.map sealV = l at hs ⊢
  unfold Qgo at hs
  split at hs
  ·replace hs:=J6 hs
   obtain ⟨eg,hs⟩:=hs
   try subst eg
   replace hs:=Q1Q hs
   obtain ⟨s0,hi0,hs⟩:=hs
   replace hs:=Qp hs
   obtain ⟨r,hr,hs⟩:=hs
   obtain ⟨_,⟨_,_,g0,_⟩⟩:=r
   rcases g0 with _ | _ | ⟨_,_⟩
   all_goals cases hs
   all_goals exact (hF _ _ hr).frame0 (by simp) (is:=[_]) (os:=[_]) (fun a b h1 h2=>by simp only [List.length_cons,List.length_nil] at h2; omega) rfl rfl rfl rfl rfl (Jn (Ji ⟨_,_,_,_,hi0,rfl,rfl,rfl,Q1r rfl rfl (by simp)⟩ Jo))
  ·cases hs
theorem Q2p:∀ a b,Q1u a = Q1u b → a = b:=by
 rintro ⟨_,⟨_,_,g0,_⟩⟩ ⟨_,⟨_,_,h0,_⟩⟩ e <;> rcases g0 with _ | _ | ⟨_,_⟩ <;> rcases h0 with _ | _ | ⟨_,_⟩ <;> simp_all [Q1u,b132,o132,gcas]
def Qhr {Z:Type} (z:Z) (F:List UInt8 → List UInt8 → Option (Bool)) (args:List AV) (h:Heap) (K:AV → Heap → Z):Z:=match args with | [.dat (.str a0),.dat (.str a1)]=>(bnd z (F a0 a1) fun r=>K (.dat (.bool r)) h) | _=>z
def e41 (f:Nat) (F:List UInt8 → List UInt8 → Option (Bool)):Ent1:=([f],fun l h K=>Qhr False F (l.map sealV) h K,fun l h=>Qhr none F (l.map sealV) h fun v h=>some (v,h))
def Q3Y (r:Bool):AV × Heap:=((.dat (.bool r)),[])
theorem Qcs {f:Nat} {F:List UInt8 → List UInt8 → Option (Bool)} (hF:∀ (a0:List UInt8) (a1:List UInt8) (r:Bool),F a0 a1 = some r → CallX Tryz.prog [] f [.dat (.str a0),.dat (.str a1)] [] (Q3Y r).1 (Q3Y r).2):EntryOk Tryz.prog (e41 f F):=by
 refine ⟨fun args h K=>?_,fun args h v h' hs=>Qh ?_⟩
 ·show Par K (Qhr False F (args.map sealV) h K) (Qhr none F (args.map sealV) h fun v h=>some (v,h))
  unfold Qhr
  split
  ·repeat' first | exact Qm | exact Qb | apply Ql | (refine Qq fun _=>?_) | (refine Qn fun _=>?_) | (refine Qu fun _ _=>?_)
  ·exact Qb
 ·change Qhr none F (args.map sealV) h (fun v h=>some (v,h)) = some (v,h') at hs
  generalize args.map sealV = l at hs ⊢
  unfold Qhr at hs
  split at hs
  ·replace hs:=Qp hs
   obtain ⟨r,hr,hs⟩:=hs
   cases hs
   exact (hF _ _ _ hr).plain.frame0 rfl rfl
  ·cases hs
theorem Qbw:∀ a b,Q3Y a = Q3Y b → a = b:=by
 rintro _ _ e <;> simp_all [Q3Y]
def Qhs {Z:Type} (z:Z) (F:List UInt8 → Int → Option (Int)) (args:List AV) (h:Heap) (K:AV → Heap → Z):Z:=match args with | [.dat (.str a0),.dat (.int .u8 a1)]=>(bnd z (F a0 a1) fun r=>K (.dat (.int .i64 r)) h) | _=>z
def e42 (f:Nat) (F:List UInt8 → Int → Option (Int)):Ent1:=([f],fun l h K=>Qhs False F (l.map sealV) h K,fun l h=>Qhs none F (l.map sealV) h fun v h=>some (v,h))
def Q3L (r:Int):AV × Heap:=((.dat (.int .i64 r)),[])
theorem Q4D {f:Nat} {F:List UInt8 → Int → Option (Int)} (hF:∀ (a0:List UInt8) (a1:Int) (r:Int),F a0 a1 = some r → CallX Tryz.prog [] f [.dat (.str a0),.dat (.int .u8 a1)] [] (Q3L r).1 (Q3L r).2):EntryOk Tryz.prog (e42 f F):=by
 refine ⟨fun args h K=>?_,fun args h v h' hs=>Qh ?_⟩
 ·show Par K (Qhs False F (args.map sealV) h K) (Qhs none F (args.map sealV) h fun v h=>some (v,h))
  unfold Qhs
  split
  ·repeat' first | exact Qm | exact Qb | apply Ql | (refine Qq fun _=>?_) | (refine Qn fun _=>?_) | (refine Qu fun _ _=>?_)
  ·exact Qb
 ·change Qhs none F (args.map sealV) h (fun v h=>some (v,h)) = some (v,h') at hs
  generalize args.map sealV = l at hs ⊢
  unfold Qhs at hs
  split at hs
  ·replace hs:=Qp hs
   obtain ⟨r,hr,hs⟩:=hs
   cases hs
   exact (hF _ _ _ hr).plain.frame0 rfl rfl
  ·cases hs
theorem QbP:∀ a b,Q3L a = Q3L b → a = b:=by
 rintro _ _ e <;> simp_all [Q3L]
def Qhx {Z:Type} (z:Z) (F:B167 → Option (B167)) (args:List AV) (h:Heap) (K:AV → Heap → Z):Z:=match args with | [.ptr (some (i0,0))]=>(k167 z h i0 fun s0=>bnd z (F s0) fun r=>gcas (r).c1 (z) (K (.tuple []) (h.set i0 (some (.cells 167 [.ptr (some (i0,0)),.dat .nils] (r).ver)))) fun es0 w0=>K (.tuple []) (h.set i0 (some (.cells 167 [.ptr (some (i0,0)),.own (.at i0 1 w0 5) es0] (r).ver)))) | _=>z
def e43 (f:Nat) (F:B167 → Option (B167)):Ent1:=([f],fun l h K=>Qhx False F (l.map sealV) h K,fun l h=>Qhx none F (l.map sealV) h fun v h=>some (v,h))
def Q4o (r:B167):AV × Heap:=((.tuple []),[b167 0 r])
theorem QmB {f:Nat} {F:B167 → Option (B167)} (hF:∀ (s0:B167) (r:B167),F s0 = some r → CallX Tryz.prog [true] f [.ptr (some (0,0))] [b167 0 s0] (Q4o r).1 (Q4o r).2):EntryOk Tryz.prog (e43 f F):=by
 refine ⟨fun args h K=>?_,fun args h v h' hs=>Qh ?_⟩
 ·show Par K (Qhx False F (args.map sealV) h K) (Qhx none F (args.map sealV) h fun v h=>some (v,h))
  unfold Qhx
  split
  ·repeat' first | exact Qm | exact Qb | apply Ql | (refine Qq fun _=>?_) | (refine Qn fun _=>?_) | (refine Qu fun _ _=>?_) | (refine Q4l fun _=>?_) | (refine Y5 ?_ ?_ fun _ _=>?_)
  ·exact Qb
 ·change Qhx none F (args.map sealV) h (fun v h=>some (v,h)) = some (v,h') at hs
  generalize args.map sealV = l at hs ⊢
  unfold Qhx at hs
  split at hs
  ·replace hs:=Q3T hs
   obtain ⟨s0,hi0,hs⟩:=hs
   replace hs:=Qp hs
   obtain ⟨r,hr,hs⟩:=hs
   obtain ⟨g0,_⟩:=r
   rcases g0 with _ | _ | ⟨_,_⟩
   all_goals cases hs
   all_goals exact (hF _ _ hr).frame0 (by simp) (is:=[_]) (os:=[_]) (fun a b h1 h2=>by simp only [List.length_cons,List.length_nil] at h2; omega) rfl rfl rfl rfl rfl (Jn (Ji ⟨_,_,_,_,hi0,rfl,rfl,rfl,Q48 rfl rfl (by simp)⟩ Jo))
  ·cases hs
theorem QbH:∀ a b,Q4o a = Q4o b → a = b:=by
 rintro ⟨g0,_⟩ ⟨h0,_⟩ e <;> rcases g0 with _ | _ | ⟨_,_⟩ <;> rcases h0 with _ | _ | ⟨_,_⟩ <;> simp_all [Q4o,b167,o167,gcas]
def Qgd {Z:Type} (z:Z) (F:B167 → Int → Option (Unit × B167)) (args:List AV) (h:Heap) (K:AV → Heap → Z):Z:=match args with | [.ptr (some (i0,0)),.dat (.int .u8 a1)]=>(k167 z h i0 fun s0=>bnd z (F s0 a1) fun r=>gcas (r.2).c1 (K .nilIface (h.set i0 (some (.cells 167 [.ptr none,.dat .nils] (r.2).ver)))) (K .nilIface (h.set i0 (some (.cells 167 [.ptr (some (i0,0)),.dat .nils] (r.2).ver)))) fun es0 w0=>K .nilIface (h.set i0 (some (.cells 167 [.ptr (some (i0,0)),.own (.at i0 1 w0 5) es0] (r.2).ver)))) | _=>z
def e44 (f:Nat) (F:B167 → Int → Option (Unit × B167)):Ent1:=([f],fun l h K=>Qgd False F (l.map sealV) h K,fun l h=>Qgd none F (l.map sealV) h fun v h=>some (v,h))
def Q4h (r:Unit × B167):AV × Heap:=((.nilIface),[b167 0 (r.2)])
theorem Qnp {f:Nat} {F:B167 → Int → Option (Unit × B167)} (hF:∀ (s0:B167) (a1:Int) (r:Unit × B167),F s0 a1 = some r → CallX Tryz.prog [true] f [.ptr (some (0,0)),.dat (.int .u8 a1)] [b167 0 s0] (Q4h r).1 (Q4h r).2):EntryOk Tryz.prog (e44 f F):=by
 refine ⟨fun args h K=>?_,fun args h v h' hs=>Qh ?_⟩
 ·show Par K (Qgd False F (args.map sealV) h K) (Qgd none F (args.map sealV) h fun v h=>some (v,h))
  unfold Qgd
  split
  ·repeat' first | exact Qm | exact Qb | apply Ql | (refine Qq fun _=>?_) | (refine Qn fun _=>?_) | (refine Qu fun _ _=>?_) | (refine Q4l fun _=>?_) | (refine Y5 ?_ ?_ fun _ _=>?_)
  ·exact Qb
 ·change Qgd none F (args.map sealV) h (fun v h=>some (v,h)) = some (v,h') at hs
  generalize args.map sealV = l at hs ⊢
  unfold Qgd at hs
  split at hs
  ·replace hs:=Q3T hs
   obtain ⟨s0,hi0,hs⟩:=hs
   replace hs:=Qp hs
   obtain ⟨r,hr,hs⟩:=hs
   obtain ⟨_,⟨g0,_⟩⟩:=r
   rcases g0 with _ | _ | ⟨_,_⟩
   all_goals cases hs
   all_goals exact (hF _ _ _ hr).frame0 (by simp) (is:=[_]) (os:=[_]) (fun a b h1 h2=>by simp only [List.length_cons,List.length_nil] at h2; omega) rfl rfl rfl rfl rfl (Jn (Ji ⟨_,_,_,_,hi0,rfl,rfl,rfl,Q48 rfl rfl (by simp)⟩ Jo))
  ·cases hs
theorem Qc0:∀ a b,Q4h a = Q4h b → a = b:=by
 rintro ⟨_,⟨g0,_⟩⟩ ⟨_,⟨h0,_⟩⟩ e <;> rcases g0 with _ | _ | ⟨_,_⟩ <;> rcases h0 with _ | _ | ⟨_,_⟩ <;> simp_all [Q4h,b167,o167,gcas]
def Qh1 {Z:Type} (z:Z) (F:B167 → Option (Int × B167)) (args:List AV) (h:Heap) (K:AV → Heap → Z):Z:=match args with | [.ptr (some (i0,0))]=>(k167 z h i0 fun s0=>bnd z (F s0) fun r=>gcas (r.2).c1 (K (.dat (.int .i64 (r.1))) (h.set i0 (some (.cells 167 [.ptr none,.dat .nils] (r.2).ver)))) (K (.dat (.int .i64 (r.1))) (h.set i0 (some (.cells 167 [.ptr (some (i0,0)),.dat .nils] (r.2).ver)))) fun es0 w0=>K (.dat (.int .i64 (r.1))) (h.set i0 (some (.cells 167 [.ptr (some (i0,0)),.own (.at i0 1 w0 5) es0] (r.2).ver)))) | _=>z
def e45 (f:Nat) (F:B167 → Option (Int × B167)):Ent1:=([f],fun l h K=>Qh1 False F (l.map sealV) h K,fun l h=>Qh1 none F (l.map sealV) h fun v h=>some (v,h))
def Q3v (r:Int × B167):AV × Heap:=((.dat (.int .i64 (r.1))),[b167 0 (r.2)])
theorem Qmx {f:Nat} {F:B167 → Option (Int × B167)} (hF:∀ (s0:B167) (r:Int × B167),F s0 = some r → CallX Tryz.prog [true] f [.ptr (some (0,0))] [b167 0 s0] (Q3v r).1 (Q3v r).2):EntryOk Tryz.prog (e45 f F):=by
 refine ⟨fun args h K=>?_,fun args h v h' hs=>Qh ?_⟩
 ·show Par K (Qh1 False F (args.map sealV) h K) (Qh1 none F (args.map sealV) h fun v h=>some (v,h))
  unfold Qh1
  split
  ·repeat' first | exact Qm | exact Qb | apply Ql | (refine Qq fun _=>?_) | (refine Qn fun _=>?_) | (refine Qu fun _ _=>?_) | (refine Q4l fun _=>?_) | (refine Y5 ?_ ?_ fun _ _=>?_)
  ·exact Qb
 ·change Qh1 none F (args.map sealV) h (fun v h=>some (v,h)) = some (v,h') at hs
  generalize args.map sealV = l at hs ⊢
  unfold Qh1 at hs
  split at hs
  ·replace hs:=Q3T hs
   obtain ⟨s0,hi0,hs⟩:=hs
   replace hs:=Qp hs
   obtain ⟨r,hr,hs⟩:=hs
   obtain ⟨_,⟨g0,_⟩⟩:=r
   rcases g0 with _ | _ | ⟨_,_⟩
   all_goals cases hs
   all_goals exact (hF _ _ hr).frame0 (by simp) (is:=[_]) (os:=[_]) (fun a b h1 h2=>by simp only [List.length_cons,List.length_nil] at h2; omega) rfl rfl rfl rfl rfl (Jn (Ji ⟨_,_,_,_,hi0,rfl,rfl,rfl,Q48 rfl rfl (by simp)⟩ Jo))
  ·cases hs
theorem Qbx:∀ a b,Q3v a = Q3v b → a = b:=by
 rintro ⟨_,⟨g0,_⟩⟩ ⟨_,⟨h0,_⟩⟩ e <;> rcases g0 with _ | _ | ⟨_,_⟩ <;> rcases h0 with _ | _ | ⟨_,_⟩ <;> simp_all [Q3v,b167,o167,gcas]
def QhT {Z:Type} (z:Z) (F:B167 → Option (List UInt8 × B167)) (args:List AV) (h:Heap) (K:AV → Heap → Z):Z:=match args with | [.ptr (some (i0,0))]=>(k167 z h i0 fun s0=>bnd z (F s0) fun r=>gcas (r.2).c1 (K (.dat (.str (r.1))) (h.set i0 (some (.cells 167 [.ptr none,.dat .nils] (r.2).ver)))) (K (.dat (.str (r.1))) (h.set i0 (some (.cells 167 [.ptr (some (i0,0)),.dat .nils] (r.2).ver)))) fun es0 w0=>K (.dat (.str (r.1))) (h.set i0 (some (.cells 167 [.ptr (some (i0,0)),.own (.at i0 1 w0 5) es0] (r.2).ver)))) | _=>z
def e46 (f:Nat) (F:B167 → Option (List UInt8 × B167)):Ent1:=([f],fun l h K=>QhT False F (l.map sealV) h K,fun l h=>QhT none F (l.map sealV) h fun v h=>some (v,h))
def Q4b (r:List UInt8 × B167):AV × Heap:=((.dat (.str (r.1))),[b167 0 (r.2)])
theorem Qnc {f:Nat} {F:B167 → Option (List UInt8 × B167)} (hF:∀ (s0:B167) (r:List UInt8 × B167),F s0 = some r → CallX Tryz.prog [true] f [.ptr (some (0,0))] [b167 0 s0] (Q4b r).1 (Q4b r).2):EntryOk Tryz.prog (e46 f F):=by
 refine ⟨fun args h K=>?_,fun args h v h' hs=>Qh ?_⟩
 ·show Par K (QhT False F (args.map sealV) h K) (QhT none F (args.map sealV) h fun v h=>some (v,h))
  unfold QhT
  split
  ·repeat' first | exact Qm | exact Qb | apply Ql | (refine Qq fun _=>?_) | (refine Qn fun _=>?_) | (refine Qu fun _ _=>?_) | (refine Q4l fun _=>?_) | (refine Y5 ?_ ?_ fun _ _=>?_)
  ·exact Qb
 ·change QhT none F (args.map sealV) h (fun v h=>some (v,h)) = some (v,h') at hs
  generalize args.map sealV = l at hs ⊢
  unfold QhT at hs
  split at hs
  ·replace hs:=Q3T hs
   obtain ⟨s0,hi0,hs⟩:=hs
   replace hs:=Qp hs
   obtain ⟨r,hr,hs⟩:=hs
   obtain ⟨_,⟨g0,_⟩⟩:=r
   rcases g0 with _ | _ | ⟨_,_⟩
   all_goals cases hs
   all_goals exact (hF _ _ hr).frame0 (by simp) (is:=[_]) (os:=[_]) (fun a b h1 h2=>by simp only [List.length_cons,List.length_nil] at h2; omega) rfl rfl rfl rfl rfl (Jn (Ji ⟨_,_,_,_,hi0,rfl,rfl,rfl,Q48 rfl rfl (by simp)⟩ Jo))
  ·cases hs
theorem Qbl:∀ a b,Q4b a = Q4b b → a = b:=by
 rintro ⟨_,⟨g0,_⟩⟩ ⟨_,⟨h0,_⟩⟩ e <;> rcases g0 with _ | _ | ⟨_,_⟩ <;> rcases h0 with _ | _ | ⟨_,_⟩ <;> simp_all [Q4b,b167,o167,gcas]
def QgM {Z:Type} (z:Z) (F:Option (Bool)) (args:List AV) (h:Heap) (K:AV → Heap → Z):Z:=match args with | []=>(bnd z (F ) fun r=>K (.dat (.bool r)) h) | _=>z
def e47 (f:Nat) (F:Option (Bool)):Ent1:=([f],fun l h K=>QgM False F (l.map sealV) h K,fun l h=>QgM none F (l.map sealV) h fun v h=>some (v,h))
def Qrc (r:Bool):AV × Heap:=((.dat (.bool r)),[])
theorem Qml {f:Nat} {F:Option (Bool)} (hF:∀ (r:Bool),F = some r → CallX Tryz.prog [] f [] [] (Qrc r).1 (Qrc r).2):EntryOk Tryz.prog (e47 f F):=by
 refine ⟨fun args h K=>?_,fun args h v h' hs=>Qh ?_⟩
 ·show Par K (QgM False F (args.map sealV) h K) (QgM none F (args.map sealV) h fun v h=>some (v,h))
  unfold QgM
  split
  ·repeat' first | exact Qm | exact Qb | apply Ql | (refine Qq fun _=>?_) | (refine Qn fun _=>?_) | (refine Qu fun _ _=>?_)
  ·exact Qb
 ·change QgM none F (args.map sealV) h (fun v h=>some (v,h)) = some (v,h') at hs
  generalize args.map sealV = l at hs ⊢
  unfold QgM at hs
  split at hs
  ·replace hs:=Qp hs
   obtain ⟨r,hr,hs⟩:=hs
   cases hs
   exact (hF _ hr).plain.frame0 rfl rfl
  ·cases hs
def Qgx {Z:Type} (z:Z) (F:B105 → Option (D × B105)) (args:List AV) (h:Heap) (K:AV → Heap → Z):Z:=match args with | [.ptr (some (i0,0))]=>(k105 z h i0 fun s0 v0=>bnd z (F s0) fun r=>K (.dat (r.1)) (h.set i0 (b105 (r.2) v0))) | _=>z
def e48 (f:Nat) (F:B105 → Option (D × B105)):Ent1:=([f],fun l h K=>Qgx False F (l.map sealV) h K,fun l h=>Qgx none F (l.map sealV) h fun v h=>some (v,h))
def Q9F (r:D × B105):AV × Heap:=((.dat (r.1)),[b105 (r.2) 0])
theorem Qoq {f:Nat} {F:B105 → Option (D × B105)} (hF:∀ (s0:B105) (r:D × B105),F s0 = some r → CallX Tryz.prog [] f [.ptr (some (0,0))] [b105 s0 0] (Q9F r).1 (Q9F r).2):EntryOk Tryz.prog (e48 f F):=by
 refine ⟨fun args h K=>?_,fun args h v h' hs=>Qh ?_⟩
 ·show Par K (Qgx False F (args.map sealV) h K) (Qgx none F (args.map sealV) h fun v h=>some (v,h))
  unfold Qgx
  split
  ·repeat' first | exact Qm | exact Qb | apply Ql | (refine Qq fun _=>?_) | (refine Qn fun _=>?_) | (refine Qu fun _ _=>?_) | (refine JR fun _ _=>?_)
  ·exact Qb
 ·change Qgx none F (args.map sealV) h (fun v h=>some (v,h)) = some (v,h') at hs
  generalize args.map sealV = l at hs ⊢
  unfold Qgx at hs
  split at hs
  ·replace hs:=JQ hs
   obtain ⟨s0,v0,cs0,hi0,hb0,hs⟩:=hs
   replace hs:=Qp hs
   obtain ⟨r,hr,hs⟩:=hs
   cases hs
   exact (hF _ _ hr).plain.frame (is:=[_]) (os:=[b105 (r.2) v0]) nd1 rfl rfl rfl rfl rfl (Jn (Ji ⟨_,_,_,_,hi0,rfl,rfl,rfl,ZF hb0⟩ Jo))
  ·cases hs
theorem QkB:∀ a b,Q9F a = Q9F b → a = b:=by
 rintro ⟨_,⟨_,_,_,_,_⟩⟩ ⟨_,⟨_,_,_,_,_⟩⟩ e <;> simp_all [Q9F,b105,o105]
def Qg (S:Q9):List Ent1:=[e0 43 107 S.s_now,e1 44 S.s_fail,e2 82 S.s_sees,e3 83 S.s_next,e4 49 S.s_word,e4 87 S.s_mark,e5 88 S.s_must,e5 71 S.s_need,e6 102 S.s_named,e7 66 S.s_name,e8 70 S.s_number,e6 45 S.s_enter,e3 50 S.s_leave,e9 79 26 26 26 S.s_bin,e10 158 S.s_gathers,e11 46 47 49 26 S.s_left_or,e12 46 48 49 26 S.s_left_and,e12 46 138 87 26 S.s_left_sum,e12 46 148 87 26 S.s_left_prod,e13 80 48 26 S.s_inner_not,e13 80 148 26 S.s_inner_neg,e14 47 26 S.s_expr1,e0 22 26 S.s_expr,e0 48 26 S.s_not,e0 81 26 S.s_compared,e0 116 38 S.s_bracketed,e0 115 26 S.s_sum,e0 138 26 S.s_prod,e0 148 26 S.s_unary,e0 152 26 S.s_prim,e0 155 26 S.s_round,e0 154 26 S.s_cases,e0 156 26 S.s_column,e0 30 38 S.s_query,e0 57 38 S.s_part,e0 90 83 S.s_item,e0 94 85 S.s_key,e0 91 65 S.s_source,e0 122 65 S.s_single,e15 89 90 S.s_list_item,e15 92 22 S.s_list_expr,e15 93 94 S.s_list_key,e15 65 66 S.s_list_name,e16 20 21 26 S.s_readE,e0 21 26 S.s_Expr1,e17 8 26 S.S_Expr,e16 28 29 38 S.s_readQ,e0 29 38 S.s_Query1,e17 11 38 S.S_Query,e18 56 S.p_bad,e19 59 S.p_is,e19 54 S.p_take,e20 60 S.p_must,e21 52 S.p_down,e22 73 S.p_name,e23 75 S.p_int,e24 96 S.p_exprs,e25 24 26 S.p_Expr,e25 53 26 S.p_and,e25 86 26 S.p_not,e26 140 S.p_oneOf,e25 121 26 S.p_cmp,e25 139 26 S.p_sum,e25 149 26 S.p_prod,e25 153 26 S.p_unary,e25 157 26 S.p_prim,e25 31 38 S.p_Query,e25 58 38 S.p_part,e25 95 65 S.p_src,e25 123 65 S.p_one,e27 25 S.p_End,e24 72 S.p_names,e23 106 S.p_ty,e9 55 26 26 26 S.r_bin,e28 23 S.r_New,e17 9 26 S.r_Expr,e17 12 38 S.r_Query,e29 10 26 26 S.r_SameExpr,e30 26 S.r_SameExprs,e29 13 38 38 S.r_SameQuery,e30 27 S.r_SameQueries,e30 32 S.r_SameFroms,e30 36 S.r_SameTexts,e10 128 S.t_Word,e10 105 S.k_Word,e31 129 S.k_Words,e32 84 S.k_blank,e32 117 S.k_letter,e32 118 S.k_digit,e33 119 S.k_text,e31 120 S.k_Marks,e34 85 107 S.k_one,e35 51 S.k_Scan,e32 109 S.t_letter,e32 111 S.t_digit,e36 76 S.t_pass,e37 77 S.t_next,e38 78 107 S.t_put,e37 110 S.t_name,e37 112 S.t_number,e37 113 S.t_text,e37 114 S.t_mark,e39 134 S.t_form,e40 132 133 S.t_run_name,e40 132 111 S.t_run_digit,e32 133 S.t_name1,e35 42 S.t_Scan,e41 108 S.g_HasPrefix,e42 107 S.g_IndexByte,e41 131 S.g_sHasPrefix,e42 130 S.g_sIndexByte,e42 146 S.g_IBS,e43 147 S.b_copyCheck,e44 135 S.b_WriteByte,e45 136 S.b_Len,e46 137 S.b_String,Hp,e47 7 S.c_alive,e10 3 S.c_Exprs,e10 4 S.c_Queries,e8 124 S.s_typed,e0 69 126 S.s_pair,e48 67 S.s_edges,e0 104 101 S.s_col,e15 103 104 S.s_list_col,e0 68 99 S.s_table,e0 39 58 S.s_schema,e0 38 58 S.s_Schema1,e16 37 38 58 S.s_readS,e17 17 58 S.S_Schema,e25 74 99 S.p_table,e25 40 58 S.p_Schema,e17 18 58 S.r_Schema,e30 41 S.r_SamePairs,e29 19 58 58 S.r_SameSchema,e10 6 S.c_Schemas]
def Qf (S:Q9):Prop:=∀ x ∈ Qg S,EntryOk Tryz.prog x
end
end Go.Proofs.YtfdcjngclelnhaaGreat
