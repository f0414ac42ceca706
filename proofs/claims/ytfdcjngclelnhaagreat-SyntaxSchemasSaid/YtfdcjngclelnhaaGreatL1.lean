/- Part of a proof. -/
import Derived.Test.YtfdcjngclelnhaaGreatKA
import Derived.Test.YtfdcjngclelnhaaGreatKE
import Derived.Test.YtfdcjngclelnhaaGreatA
set_option linter.unusedSectionVars false
set_option linter.unusedSimpArgs false
set_option linter.unusedVariables false
namespace Go.Proofs.YtfdcjngclelnhaaGreat
open Go Go.RowKit
variable [mode:Inhabited ModeT]
def Own.eqv:Own → Own → Bool
 | .full,.full=>true
 | .tip a,.tip b=>a == b
 | .at a b c d,.at a' b' c' d'=>a == a' && b == b' && c == c' && d == d'
 | _,_=>false
theorem Own.eqv_ok {a b:Own} (h:a.eqv b = true):a = b:=by
 cases a <;> cases b <;> simp_all [Own.eqv]
def Qoy:Fn → Fn → Bool
 | .func a,.func b=>a == b
 | _,_=>false
theorem QnC {a b:Fn} (h:Qoy a b = true):a = b:=by
 cases a <;> cases b <;> simp_all [Qoy]
mutual
def AV.eqv:AV → AV → Bool
 | .dat a,.dat b=>a.same b
 | .own g es,.own g' es'=>g.eqv g' && D.sameL es es'
 | .ptr none,.ptr none=>true
 | .ptr (some a),.ptr (some b)=>a.1 == b.1 && a.2 == b.2
 | .ep cs o,.ep cs' o'=>o == o' && D.sameL cs cs'
 | .func f a c,.func f' a' c'=>Qoy f f' && AV.eqvL a a' && AV.eqvL c c'
 | .nilFunc,.nilFunc=>true
 | .iface t v,.iface t' v'=>t == t' && v.eqv v'
 | .nilIface,.nilIface=>true
 | .agg a,.agg b=>AV.eqvL a b
 | .tuple a,.tuple b=>AV.eqvL a b
 | .sdata a b c d es,.sdata a' b' c' d' es'=>a == a' && b == b' && c == c' && d == d' && D.sameL es es'
 | .fp a b c,.fp a' b' c'=>a == a' && b == b' && c == c'
 | .row a b c d e,.row a' b' c' d' e'=>a == a' && b == b' && c == c' && d == d' && e == e'
 | .mapv none,.mapv none=>true
 | .mapv (some a),.mapv (some b)=>a == b
 | .any,.any=>true
 | _,_=>false
def AV.eqvL:List AV → List AV → Bool
 | [],[]=>true
 | a :: r,b :: q=>a.eqv b && AV.eqvL r q
 | _,_=>false
end
mutual
theorem AV.eqv_ok:∀ {a b:AV},a.eqv b = true → a = b
 | .dat a,b,h=>by cases b <;> simp only [AV.eqv,reduceCtorEq] at h; rw [D.same_ok h]
 | .own g es,b,h=>by
  cases b <;> simp only [AV.eqv,reduceCtorEq,Bool.and_eq_true] at h
  rw [Own.eqv_ok h.1,D.sameL_ok h.2]
 | .ptr none,b,h=>by
  cases b with
  | ptr o=>cases o <;> simp_all [AV.eqv]
  | _=>simp [AV.eqv] at h
 | .ptr (some (a1,a2)),b,h=>by
  cases b with
  | ptr o =>
   cases o with
   | none=>simp [AV.eqv] at h
   | some b=>obtain ⟨b1,b2⟩:=b; simp [AV.eqv] at h; rw [h.1,h.2]
  | _=>simp [AV.eqv] at h
 | .ep cs o,b,h=>by
  cases b <;> simp only [AV.eqv,reduceCtorEq,Bool.and_eq_true,beq_iff_eq] at h
  rw [h.1,D.sameL_ok h.2]
 | .func f a c,b,h=>by
  cases b <;> simp only [AV.eqv,reduceCtorEq,Bool.and_eq_true] at h
  rw [QnC h.1.1,AV.eqvL_ok h.1.2,AV.eqvL_ok h.2]
 | .nilFunc,b,h=>by cases b <;> simp [AV.eqv] at h ⊢
 | .iface t v,b,h=>by
  cases b <;> simp only [AV.eqv,reduceCtorEq,Bool.and_eq_true,beq_iff_eq] at h
  rw [h.1,AV.eqv_ok h.2]
 | .nilIface,b,h=>by cases b <;> simp [AV.eqv] at h ⊢
 | .agg a,b,h=>by cases b <;> simp only [AV.eqv,reduceCtorEq] at h; rw [AV.eqvL_ok h]
 | .tuple a,b,h=>by cases b <;> simp only [AV.eqv,reduceCtorEq] at h; rw [AV.eqvL_ok h]
 | .sdata a1 a2 a3 a4 es,b,h=>by
  cases b <;> simp only [AV.eqv,reduceCtorEq,Bool.and_eq_true,beq_iff_eq] at h
  rw [h.1.1.1.1,h.1.1.1.2,h.1.1.2,h.1.2,D.sameL_ok h.2]
 | .fp a1 a2 a3,b,h=>by cases b <;> simp_all [AV.eqv]
 | .row a1 a2 a3 a4 a5,b,h=>by cases b <;> simp_all [AV.eqv]
 | .mapv none,b,h=>by
  cases b with
  | mapv o=>cases o <;> simp_all [AV.eqv]
  | _=>simp [AV.eqv] at h
 | .mapv (some a),b,h=>by
  cases b with
  | mapv o=>cases o <;> simp_all [AV.eqv]
  | _=>simp [AV.eqv] at h
 | .any,b,h=>by cases b <;> simp [AV.eqv] at h ⊢
theorem AV.eqvL_ok:∀ {a b:List AV},AV.eqvL a b = true → a = b
 | [],[],_=>rfl
 | a :: r,b :: q,h=>by
  simp only [AV.eqvL,Bool.and_eq_true] at h
  rw [AV.eqv_ok h.1,AV.eqvL_ok h.2]
 | [],_ :: _,h=>by simp [AV.eqvL] at h
 | _ :: _,[],h=>by simp [AV.eqvL] at h
end
def Q2k:List Nat → List Nat → Bool
 | [],[]=>true
 | a :: r,b :: q=>a == b && Q2k r q
 | _,_=>false
theorem Q6J:∀ {a b:List Nat},Q2k a b = true → a = b
 | [],[],_=>rfl
 | a :: r,b :: q,h=>by
  simp only [Q2k,Bool.and_eq_true,beq_iff_eq] at h
  rw [h.1,Q6J h.2]
 | [],_ :: _,h=>by simp [Q2k] at h
 | _ :: _,[],h=>by simp [Q2k] at h
def Qb3:List (D × AV × Nat) → List (D × AV × Nat) → Bool
 | [],[]=>true
 | (k,v,n) :: r,(k',v',n') :: q=>k.same k' && v.eqv v' && n == n' && Qb3 r q
 | _,_=>false
theorem QdP:∀ {a b:List (D × AV × Nat)},Qb3 a b = true → a = b
 | [],[],_=>rfl
 | (k,v,n) :: r,(k',v',n') :: q,h=>by
  simp only [Qb3,Bool.and_eq_true,beq_iff_eq] at h
  rw [D.same_ok h.1.1.1,AV.eqv_ok h.1.1.2,h.1.2,QdP h.2]
 | [],_ :: _,h=>by simp [Qb3] at h
 | _ :: _,[],h=>by simp [Qb3] at h
def Q4j:Option Nat → Option Nat → Bool
 | none,none=>true
 | some a,some b=>a == b
 | _,_=>false
theorem Qgi:∀ {a b:Option Nat},Q4j a b = true → a = b
 | none,none,_=>rfl
 | some a,some b,h=>by simp [Q4j] at h; rw [h]
 | none,some _,h=>by simp [Q4j] at h
 | some _,none,h=>by simp [Q4j] at h
def AObj.eqv:AObj → AObj → Bool
 | .cells e cs v,.cells e' cs' v'=>e == e' && v == v' && AV.eqvL cs cs'
 | .tip a b c,.tip a' b' c'=>a == a' && b == b' && c == c'
 | .free e cs v l f x,.free e' cs' v' l' f' x'=>e == e' && v == v' && l == l' && f == f' && x == x' && AV.eqvL cs cs'
 | .mp es c l,.mp es' c' l'=>c == c' && l == l' && Qb3 es es'
 | .sit s p,.sit s' p'=>p == p' && s == s'
 | .mit m s l n,.mit m' s' l' n'=>Q4j m m' && s == s' && Q2k l l' && n == n'
 | _,_=>false
theorem AObj.eqv_ok {a b:AObj} (h:a.eqv b = true):a = b:=by
 cases a <;> cases b <;> simp only [AObj.eqv,reduceCtorEq,Bool.and_eq_true,beq_iff_eq] at h
 ·rw [h.1.1,h.1.2,AV.eqvL_ok h.2]
 ·rw [h.1.1,h.1.2,h.2]
 ·rw [h.1.1.1.1.1,h.1.1.1.1.2,h.1.1.1.2,h.1.1.2,h.1.2,AV.eqvL_ok h.2]
 ·rw [h.1.1,h.1.2,QdP h.2]
 ·rw [h.1,h.2]
 ·rw [Qgi h.1.1.1,h.1.1.2,Q6J h.1.2,h.2]
def Y0:Heap → Heap → Bool
 | [],[]=>true
 | none :: r,none :: q=>Y0 r q
 | some a :: r,some b :: q=>a.eqv b && Y0 r q
 | _,_=>false
theorem Q11:∀ {a b:Heap},Y0 a b = true → a = b
 | [],[],_=>rfl
 | none :: r,none :: q,h=>by
  simp only [Y0] at h
  rw [Q11 h]
 | some a :: r,some b :: q,h=>by
  simp only [Y0,Bool.and_eq_true] at h
  rw [AObj.eqv_ok h.1,Q11 h.2]
 | [],_ :: _,h=>by simp [Y0] at h
 | _ :: _,[],h=>by simp [Y0] at h
 | none :: _,some _ :: _,h=>by simp [Y0] at h
 | some _ :: _,none :: _,h=>by simp [Y0] at h
structure Hq where
 whatever:Bool
 args:List AV
 heap:Heap
 v:AV
 heap':Heap
def Hw (r:Option (AV × Heap)) (m:Hq):Bool :=
 match r with
 | some (v,h)=>v.eqv m.v && Y0 h m.heap'
 | none=>false
theorem Q97 {r:Option (AV × Heap)} {m:Hq} (h:Hw r m = true):r = some (m.v,m.heap'):=by
 unfold Hw at h
 split at h
 ·simp only [Bool.and_eq_true] at h
  rw [AV.eqv_ok h.1,Q11 h.2]
 ·cases h
def QqC (m:Hq):Bool:=!m.whatever || (m.args.all AV.plain && m.v.plain && m.heap.isEmpty && m.heap'.isEmpty)
def Qo1 (args:List AV) (h:Heap):List Hq → Option (AV × Heap)
 | []=>none
 | m :: r=>if m.whatever then (if AV.eqvL args m.args then some (m.v,h) else Qo1 args h r)
  else (if AV.eqvL args m.args && Y0 h m.heap then some (m.v,m.heap') else Qo1 args h r)
abbrev Tab:=List (FuncId × List Hq)
def Qje (f:FuncId):Tab → Option (List Hq)
 | []=>none
 | (g,l) :: r=>if f == g then some l else Qje f r
def Qci (t:Tab) (prim:FuncId → Option Prim):FuncId → Option Prim:=fun f =>
 match Qje f t with
 | some l=>some fun args h=>Qo1 args h l
 | none=>prim f
section
variable {P:Program}
def Q5Q (P:Program) (prim:FuncId → Option Prim) (k:Nat):CallF:=enterA P (fun _=>none) (run P prim k)
theorem Q6Z (hP:ProgOk P) {prim:FuncId → Option Prim} (hprim:PrimsOk P prim) (k:Nat):CallOk P (Q5Q P prim k):=Qfl hP (by intro f p h; cases h) (Qh3 hP hprim k)
def Good (P:Program) (f:FuncId) (m:Hq):Prop:=QqC m = true ∧ ∃ (prim:FuncId → Option Prim) (k:Nat),PrimsOk P prim ∧ Q5Q P prim k f m.args m.heap = some (m.v,m.heap')
theorem Good.of {prim:FuncId → Option Prim} (hp:PrimsOk P prim) (k:Nat) {f:FuncId} {m:Hq} (h:(QqC m && Hw (Q5Q P prim k f m.args m.heap) m) = true):Good P f m:=by
 simp only [Bool.and_eq_true] at h
 exact ⟨h.1,prim,k,hp,Q97 h.2⟩
def Qjl (P:Program) (f:FuncId):List Hq → Prop
 | []=>True
 | m :: r=>Good P f m ∧ Qjl P f r
def QiR (P:Program):Tab → Prop
 | []=>True
 | (f,l) :: r=>Qjl P f l ∧ QiR P r
theorem Qd3 {f:FuncId} {args:List AV} {h:Heap}:∀ {l:List Hq},Qjl P f l → ∀ {v h'},Qo1 args h l = some (v,h') → ∃ m,Good P f m ∧ m.args = args ∧ m.v = v ∧ (m.whatever = true ∧ h' = h ∨ m.heap = h ∧ m.heap' = h')
 | [],_,_,_,hs=>nomatch hs
 | m :: r,hg,v,h',hs=>by
  unfold Qo1 at hs
  split at hs
  ·rename_i hw
   split at hs
   ·rename_i he
    cases hs
    exact ⟨m,hg.1,(AV.eqvL_ok he).symm,rfl,Or.inl ⟨hw,rfl⟩⟩
   ·exact Qd3 hg.2 hs
  ·split at hs
   ·rename_i he
    simp only [Bool.and_eq_true] at he
    cases hs
    exact ⟨m,hg.1,(AV.eqvL_ok he.1).symm,rfl,Or.inr ⟨(Q11 he.2).symm,rfl⟩⟩
   ·exact Qd3 hg.2 hs
theorem Qe8 {f:FuncId}:∀ {t:Tab},QiR P t → ∀ {l},Qje f t = some l → Qjl P f l
 | [],_,_,hs=>nomatch hs
 | (g,l0) :: r,hg,l,hs=>by
  unfold Qje at hs
  split at hs
  ·rename_i he
   cases hs
   rw [eq_of_beq he]
   exact hg.1
  ·exact Qe8 hg.2 hs
mutual
theorem D.same_self:∀ a:D,a.same a = true
 | .bool a=>by simp [D.same]
 | .int k n=>by simp [D.same]
 | .str a=>by simp [D.same]
 | .nils=>rfl
 | .slice es=>by simp only [D.same]; exact D.sameL_self es
 | .agg es=>by simp only [D.same]; exact D.sameL_self es
theorem D.sameL_self:∀ a:List D,D.sameL a a = true
 | []=>rfl
 | a :: r=>by simp only [D.sameL,Bool.and_eq_true]; exact ⟨D.same_self a,D.sameL_self r⟩
end
theorem QhM:∀ {v:AV},v.plain = true → v.eqv v = true
 | .dat d,_=>by simp only [AV.eqv]; exact D.same_self d
 | .tuple vs,h=>by
  simp only [AV.eqv]
  simp only [AV.plain] at h
  induction vs with
  | nil=>rfl
  | cons x r ih =>
   simp only [List.all_cons,Bool.and_eq_true] at h
   simp only [AV.eqvL,Bool.and_eq_true]
   refine ⟨?_,ih h.2⟩
   cases x with
   | dat d=>simp only [AV.eqv]; exact D.same_self d
   | _=>cases h.1
theorem QaV:∀ {l:List AV},l.all AV.plain = true → AV.eqvL l l = true
 | [],_=>rfl
 | v :: r,h=>by
  simp only [List.all_cons,Bool.and_eq_true] at h
  simp only [AV.eqvL,Bool.and_eq_true]
  exact ⟨QhM h.1,QaV h.2⟩
theorem QfR (hP:ProgOk P) {t:Tab} {prim:FuncId → Option Prim} (hp:PrimsOk P prim) (hg:QiR P t):PrimsOk P (Qci t prim):=by
 intro f p hf
 unfold Qci at hf
 split at hf
 ·rename_i l hl
  cases hf
  intro args h v h' hs
  obtain ⟨m,hgm,ha,hv,hh⟩:=Qd3 (Qe8 hg hl) hs
  obtain ⟨hfit,pr,k,hpr,hc⟩:=hgm
  rcases hh with ⟨hw,rfl⟩ | ⟨rfl,rfl⟩
  ·simp only [QqC,hw,Bool.not_true,Bool.false_or,Bool.and_eq_true,List.isEmpty_iff] at hfit
   obtain ⟨⟨⟨q1,q2⟩,q3⟩,q4⟩:=hfit
   subst ha; subst hv
   rw [q3,q4] at hc
   have:=CallFOk.ofCallC (P:=P) (f:=f) (p:=fun a b=>if AV.eqvL a m.args then some (m.v,b) else none) fun a b v' b' hs=>by
    split at hs
    ·rename_i he
     cases hs
     rw [AV.eqvL_ok he]
     exact ⟨rfl,q1,q2,_,Q6Z hP hpr k,hc⟩
    ·cases hs
   exact this m.args h' m.v h' (if_pos (QaV q1))
  ·subst ha; subst hv
   exact Q6Z hP hpr k f _ _ _ _ hc
 ·exact hp f p hf
end
end Go.Proofs.YtfdcjngclelnhaaGreat
namespace Go.Proofs.YtfdcjngclelnhaaGreat
set_option maxRecDepth 1000000
open Go Go.RowKit
def Q90:FuncId → Option Prim:=fun f=>if f == 146 then some primIndexByte else if f == 151 then some primSame else none
theorem Qej:PrimsOk Tryz.prog Q90:=fun f p h=>by
 unfold Q90 at h
 split at h
 ·rename_i e
  cases h
  rw [eq_of_beq e]
  exact Q0q Tryz.func146 rfl rfl (by kernel_rfl) (by kernel_rfl)
 ·split at h
  ·rename_i e
   cases h
   rw [eq_of_beq e]
   exact Q6g Tryz.func151 rfl rfl (by kernel_rfl) (by kernel_rfl)
  ·cases h
def QrK:List UInt8:=[115,107,105,112,59,32,115,105,112,59]
def QjY:AV:=.tuple [.dat (.agg [.nils,.nils,.nils]),.dat (.int .i64 6),.dat (.int .i64 10)]
def kScript:Hq:=⟨true,[.dat (.str QrK)],[],QjY,[]⟩
theorem Qgy:Hw (Q5Q Tryz.prog Q90 100000 14 kScript.args []) kScript = true:=by kernel_rfl
end Go.Proofs.YtfdcjngclelnhaaGreat
namespace Go.Proofs.YtfdcjngclelnhaaGreat
open Go
structure Tok where
 kind:Int
 text:List UInt8
 n:Int
 at_:Int
inductive Out (α:Type) where
 | ok (v:α) (i:Nat)
 | err (at_ e:Int)
def Out.bind {α β:Type} (x:Out α) (f:α → Nat → Out β):Out β :=
 match x with
 | .ok v i=>f v i
 | .err a e=>.err a e
def Qrx:Tok:=⟨0,[],0,0⟩
def tk (T:List Tok) (i:Nat):Tok:=T.getD i Qrx
def Q1l {α:Type} (T:List Tok) (i:Nat) (e:Int):Out α:=.err (tk T i).at_ e
def ex (kind n:Int) (s t:List UInt8) (kids q:D):D:=.agg [.int .i64 kind,.int .i64 n,.str s,.str t,kids,q]
def qu (kind:Int) (distinct:Bool) (items froms wheres group having order:D) (limit:Int) (kids:D):D :=
 .agg [.int .i64 kind,.bool distinct,items,froms,wheres,group,having,order,.int .i64 limit,kids]
def frm (kind:Int) (table:List UInt8) (visible:Bool) (as_:List UInt8) (q kids on:D):D:=.agg [.int .i64 kind,.str table,.bool visible,.str as_,q,kids,on]
def itm (x:D) (name:List UInt8):D:=.agg (x.cells ++ [.str name])
def ky (x:D) (desc:Bool):D:=.agg (x.cells ++ [.bool desc])
def Z5 (x:D):D:=.slice [x]
def ZO (m:List UInt8) (a b:D):D:=ex 10 0 m [] (.slice [a,b]) .nils
def Q5l:List UInt8:=[110,117,108,108]
def Qg4:List UInt8:=[116,114,117,101]
def Qda:List UInt8:=[102,97,108,115,101]
def QgT:List UInt8:=[99,97,115,101]
def Qpy:List UInt8:=[119,104,101,110]
def QrN:List UInt8:=[116,104,101,110]
def Qrf:List UInt8:=[101,108,115,101]
def Qsp:List UInt8:=[101,110,100]
def Q7G:List UInt8:=[101,120,105,115,116,115]
def QeV:List UInt8:=[115,101,108,101,99,116]
def Q0Q:List UInt8:=[99,111,117,110,116]
def Qja:List UInt8:=[115,117,109]
def QiB:List UInt8:=[109,105,110]
def Qj5:List UInt8:=[109,97,120]
def Qbb:List UInt8:=[110,111,116]
def Qsw:List UInt8:=[105,115]
def QjL:List UInt8:=[105,110]
def Qdz:List UInt8:=[97,110,100]
def Qoa:List UInt8:=[111,114]
def Q3Q:List UInt8:=[117,110,105,111,110]
def Qr4:List UInt8:=[97,108,108]
def Q4m:List UInt8:=[101,120,99,101,112,116]
def Q1z:List UInt8:=[105,110,116,101,114,115,101,99,116]
def QgV:List UInt8:=[100,105,115,116,105,110,99,116]
def Qds:List UInt8:=[102,114,111,109]
def Qql:List UInt8:=[119,104,101,114,101]
def Qqo:List UInt8:=[103,114,111,117,112]
def Qse:List UInt8:=[98,121]
def Qp4:List UInt8:=[104,97,118,105,110,103]
def Qj1:List UInt8:=[111,114,100,101,114]
def Qis:List UInt8:=[108,105,109,105,116]
def Qg8:List UInt8:=[97,115]
def Qh7:List UInt8:=[100,101,115,99]
def Qd6:List UInt8:=[108,101,102,116]
def Q4E:List UInt8:=[106,111,105,110]
def Qjy:List UInt8:=[111,110]
def QkS:List UInt8:=[118,105,115,105,98,108,101]
def Qc {α β:Type} (f:Nat → Out α) (g:α → Nat → Out β):Nat → Out β:=fun i=>(f i).bind g
def Qx {α:Type} (v:α):Nat → Out α:=fun i=>.ok v i
def JI (T:List Tok) (k:Int) (s:List UInt8) (i:Nat):Bool:=(tk T i).kind == k && (tk T i).text == s
def JJ {α:Type} (T:List Tok) (k:Int) (s:List UInt8) (A Z:Nat → Out α):Nat → Out α:=fun i=>if JI T k s i then A (i + 1) else Z i
def Q78 {α:Type} (T:List Tok) (k:Int) (s:List UInt8) (A Z:Nat → Out α):Nat → Out α:=fun i=>if JI T k s i then A i else Z i
def QG (T:List Tok) (k:Int) (s:List UInt8):Nat → Out Unit:=fun i=>if JI T k s i then .ok () (i + 1) else Q1l T i 10
def YX (T:List Tok) (d:Nat):Nat → Out Unit:=fun i=>if 40 < d + 1 then Q1l T i 9 else .ok () i
def Yf (T:List Tok) (k:Int):List (List UInt8) → Nat → Option (List UInt8)
 | [],_=>none
 | w :: r,i=>if JI T k w i then some w else Yf T k r i
def JX (isW:List UInt8 → Bool) (T:List Tok):Nat → Out (List UInt8):=fun i=>if (tk T i).kind == 1 && !isW (tk T i).text then .ok (tk T i).text (i + 1) else Q1l T i 10
def HM (T:List Tok):Nat → Out Int:=fun i=>if (tk T i).kind == 2 then .ok (tk T i).n (i + 1) else Q1l T i 10
def YU (op:Nat → Option (List UInt8)) (rest:Nat → Out D):Nat → D → Nat → Out D
 | 0,x,i=>.ok x i
 | r + 1,x,i=>match op i with
  | some m=>(rest (i + 1)).bind fun y=>YU op rest r (ZO m x y)
  | none=>.ok x i
def Z6 (T:List Tok) (rest:Nat → Out D):Nat → List D → Nat → Out D
 | 0,l=>Qx (.slice l)
 | r + 1,l=>JJ T 4 [44] (Qc rest fun y=>Z6 T rest r (l ++ [y])) (Qx (.slice l))
def Ye (T:List Tok) (one:Nat → Out D) (r:Nat):Nat → Out D:=Qc one fun x=>Z6 T one r [x]
structure Qf9 where
 expr:Nat → Nat → Out D
 ands:Nat → Nat → Out D
 nots:Nat → Nat → Out D
 sum:Nat → Nat → Out D
 prod:Nat → Nat → Out D
 unary:Nat → Nat → Out D
 query:Nat → Nat → Out D
 part:Nat → Nat → Out D
section
variable (isW:List UInt8 → Bool) (T:List Tok) (R:Qf9) (r:Nat)
def JF (d:Nat):Nat → Out D:=Qc (QG T 4 [40]) fun _=>Qc (R.query d) fun q=>Qc (QG T 4 [41]) fun _=>Qx q
def Q5y (d:Nat):Nat → Out D :=
 Qc (QG T 1 Qpy) fun _=>Qc (R.expr d) fun a=>Qc (QG T 1 QrN) fun _=>Qc (R.expr d) fun b =>
 Qc (QG T 1 Qrf) fun _=>Qc (R.expr d) fun c=>Qc (QG T 1 Qsp) fun _=>Qx (ex 11 0 [] [] (.slice [a,b,c]) .nils)
def Q4S (d:Nat):Nat → Out D :=
 Q78 T 1 QeV (Qc (R.query d) fun q=>Qc (QG T 4 [41]) fun _=>Qx (ex 14 0 [] [] .nils (Z5 q)))
  (Qc (R.expr d) fun x=>Qc (QG T 4 [41]) fun _=>Qx x)
def Yy (s:List UInt8):Bool:=s == Q0Q || s == Qja || s == QiB || s == Qj5
def Qhp (s:List UInt8):Nat → Out D:=JJ T 4 [46] (Qc (JX isW T) fun t=>Qx (ex 5 0 t s .nils .nils)) (Qx (ex 5 0 s [] .nils .nils))
def Qfb (d:Nat) (s:List UInt8):Nat → Out D:=Qc (R.expr d) fun x=>Qc (QG T 4 [41]) fun _=>Qx (ex 15 0 s [] (Z5 x) .nils)
def QoT (d:Nat) (s:List UInt8):Nat → Out D :=
 if s == Q0Q then JJ T 4 [42] (Qc (QG T 4 [41]) fun _=>Qx (ex 15 0 s [] .nils .nils)) (Qfb T R d s) else Qfb T R d s
def Q2t (d:Nat):Nat → Out D:=Qc (JX isW T) fun s=>if Yy s then JJ T 4 [40] (QoT T R d s) (Qhp isW T s) else Qhp isW T s
def Q1H (d:Nat):Nat → Out D:=fun i =>
 if (tk T i).kind == 2 then .ok (ex 3 (tk T i).n [] [] .nils .nils) (i + 1)
 else if (tk T i).kind == 3 then .ok (ex 4 0 (tk T i).text [] .nils .nils) (i + 1)
 else JJ T 1 Q5l (Qx (ex 1 0 [] [] .nils .nils)) (JJ T 1 Qg4 (Qx (ex 2 1 [] [] .nils .nils)) (JJ T 1 Qda (Qx (ex 2 0 [] [] .nils .nils))
  (JJ T 4 [58] (Qc (JX isW T) fun s=>Qx (ex 6 0 s [] .nils .nils)) (JJ T 1 QgT (Q5y T R d)
  (JJ T 1 Q7G (Qc (JF T R d) fun q=>Qx (ex 12 0 [] [] .nils (Z5 q))) (JJ T 4 [40] (Q4S T R d) (Q2t isW T R d))))))) i
def unaryF (d:Nat):Nat → Out D :=
 JJ T 4 [45] (Qc (YX T d) fun _=>Qc (R.unary (d + 1)) fun x=>Qx (ex 7 0 [] [] (Z5 x) .nils)) (Q1H isW T R d)
def opsProd:List (List UInt8):=[[42],[47],[37]]
def opsSum:List (List UInt8):=[[43],[45],[124,124]]
def opsCmp:List (List UInt8):=[[61],[60,62],[60],[60,61],[62],[62,61]]
def prodF (d:Nat):Nat → Out D:=Qc (unaryF isW T R d) fun x=>YU (Yf T 4 opsProd) (R.unary d) r x
def sumF (d:Nat):Nat → Out D:=Qc (prodF isW T R r d) fun x=>YU (Yf T 4 opsSum) (R.prod d) r x
def isF (x:D):Nat → Out D :=
 JJ T 1 Qbb (Qc (QG T 1 Q5l) fun _=>Qx (ex 9 1 [] [] (Z5 x) .nils)) (Qc (QG T 1 Q5l) fun _=>Qx (ex 9 0 [] [] (Z5 x) .nils))
def Q5A (d:Nat) (x:D):Nat → Out D :=
 JJ T 1 Qsw (isF T x) (JJ T 1 Qbb (Qc (QG T 1 QjL) fun _=>Qc (JF T R d) fun q=>Qx (ex 13 1 [] [] (Z5 x) (Z5 q)))
  (JJ T 1 QjL (Qc (JF T R d) fun q=>Qx (ex 13 0 [] [] (Z5 x) (Z5 q))) (Qx x)))
def QdZ (d:Nat) (x:D):Nat → Out D:=fun i=>match Yf T 4 opsCmp i with
  | some m=>(R.sum d (i + 1)).bind fun y=>Qx (ZO m x y)
  | none=>Q5A T R d x i
def QpS (d:Nat):Nat → Out D:=Qc (sumF isW T R r d) fun x=>QdZ T R d x
def notF (d:Nat):Nat → Out D :=
 JJ T 1 Qbb (Qc (YX T d) fun _=>Qc (R.nots (d + 1)) fun x=>Qx (ex 8 0 [] [] (Z5 x) .nils)) (QpS isW T R r d)
def andF (d:Nat):Nat → Out D:=Qc (notF isW T R r d) fun x=>YU (Yf T 1 [Qdz]) (R.nots d) r x
def orF (d:Nat):Nat → Out D:=Qc (andF isW T R r d) fun x=>YU (Yf T 1 [Qoa]) (R.ands d) r x
def exprF (d:Nat):Nat → Out D:=Qc (YX T d) fun _=>orF isW T R r (d + 1)
def Q84 (d:Nat):Nat → Out D:=Qc (R.expr d) fun x=>Qc (QG T 1 Qg8) fun _=>Qc (JX isW T) fun s=>Qx (itm x s)
def Q9Y (d:Nat):Nat → Out D:=Qc (R.expr d) fun x=>JJ T 1 Qh7 (Qx (ky x true)) (Qx (ky x false))
def Yb (d:Nat):Nat → Out D :=
 JJ T 4 [40] (Qc (R.query d) fun q=>Qc (QG T 4 [41]) fun _=>Qc (QG T 1 Qg8) fun _=>Qc (JX isW T) fun s=>Qx (frm 2 [] false s (Z5 q) .nils .nils))
  (Qc (JX isW T) fun s=>Qc (JJ T 1 QkS (Qx true) (Qx false)) fun v =>
   JJ T 1 Qg8 (Qc (JX isW T) fun t=>Qx (frm 1 s v t .nils .nils .nils)) (Qx (frm 1 s v s .nils .nils .nils)))
def JU (d:Nat):Nat → D → Nat → Out D
 | 0,x=>Qx x
 | k + 1,x =>
  let go (kind:Int):Nat → Out D:=Qc (Yb isW T R d) fun y=>Qc (QG T 1 Qjy) fun _=>Qc (R.expr d) fun e=>JU d k (frm kind [] false [] .nils (.slice [x,y]) (Z5 e))
  JJ T 1 Qd6 (Qc (QG T 1 Q4E) fun _=>go 4) (JJ T 1 Q4E (go 3) (Qx x))
def Q0K (d:Nat):Nat → Out D:=Qc (Yb isW T R d) fun x=>JU isW T R d r x
def Q4v (w:List UInt8) (f:Nat → Out D):Nat → Out D:=JJ T 1 w (Qc f fun x=>Qx (Z5 x)) (Qx .nils)
def QcT (d:Nat):Nat → Out (D × D) :=
 JJ T 1 Qqo (Qc (QG T 1 Qse) fun _=>Qc (Ye T (R.expr d) r) fun g=>Qc (Q4v T Qp4 (R.expr d)) fun h=>Qx (g,h)) (Qx (.nils,.nils))
def QcM (d:Nat):Nat → Out D:=JJ T 1 Qj1 (Qc (QG T 1 Qse) fun _=>Ye T (Q9Y T R d) r) (Qx .nils)
def Q0h:Nat → Out Int:=JJ T 1 Qis (HM T) (Qx (-1))
def Qf8 (d:Nat) (dist:Bool) (items froms wheres group having:D):Nat → Out D :=
 Qc (QcM T R r d) fun order=>Qc (Q0h T) fun limit=>Qx (qu 1 dist items froms wheres group having order limit .nils)
def Qfr (d:Nat) (dist:Bool) (items froms wheres:D):Nat → Out D:=Qc (QcT T R r d) fun gh=>Qf8 T R r d dist items froms wheres gh.1 gh.2
def Q61 (d:Nat) (dist:Bool) (items froms:D):Nat → Out D:=Qc (Q4v T Qql (R.expr d)) fun wheres=>Qfr T R r d dist items froms wheres
def QiP (d:Nat) (dist:Bool):Nat → Out D:=Qc (Ye T (Q84 isW T R d) r) fun items=>Qc (Q4v T Qds (Q0K isW T R r d)) fun froms=>Q61 T R r d dist items froms
def Q6G (d:Nat):Nat → Out D:=Qc (QG T 1 QeV) fun _=>Qc (JJ T 1 QgV (Qx true) (Qx false)) fun dist=>QiP isW T R r d dist
def Q6O (d:Nat):Nat → Out D:=JJ T 4 [40] (Qc (R.query d) fun q=>Qc (QG T 4 [41]) fun _=>Qx q) (Q6G isW T R r d)
def JY (part:Nat → Out D):Nat → D → Nat → Out D
 | 0,x=>Qx x
 | k + 1,x =>
  let go (kind:Int):Nat → Out D:=Qc part fun y=>JY part k (qu kind false .nils .nils .nils .nils .nils .nils (-1) (.slice [x,y]))
  JJ T 1 Q3Q (JJ T 1 Qr4 (go 3) (go 2)) (JJ T 1 Q4m (go 4) (JJ T 1 Q1z (go 5) (Qx x)))
def queryF (d:Nat):Nat → Out D:=Qc (YX T d) fun _=>Qc (Q6O isW T R r (d + 1)) fun x=>JY T (R.part (d + 1)) r x
end
def Qsc:Qf9:=⟨fun _ _=>.err 0 0,fun _ _=>.err 0 0,fun _ _=>.err 0 0,fun _ _=>.err 0 0,fun _ _=>.err 0 0,fun _ _=>.err 0 0,fun _ _=>.err 0 0,fun _ _=>.err 0 0⟩
def Qj (isW:List UInt8 → Bool) (T:List Tok):Nat → Qf9
 | 0=>Qsc
 | r + 1 =>
  let R:=Qj isW T r
  { expr:=exprF isW T R (r + 1),ands:=andF isW T R (r + 1),nots:=notF isW T R (r + 1),sum:=sumF isW T R (r + 1),prod:=prodF isW T R (r + 1),unary:=unaryF isW T R,query:=queryF isW T R (r + 1),part:=Q6O isW T R (r + 1) }
def Q2w (T:List Tok) (f:Nat → Out D):Out D:=(f 0).bind fun v i=>if (tk T i).kind == 0 then .ok v i else Q1l T i 10
theorem Zf {α β:Type} {T:List Tok} {k:Int} {s:List UInt8} {A Z:Nat → Out α} {g:α → Nat → Out β}:Qc (JJ T k s A Z) g = JJ T k s (Qc A g) (Qc Z g):=by
 funext i; unfold Qc JJ; split <;> rfl
theorem QW {α β:Type} {v:α} {g:α → Nat → Out β}:Qc (Qx v) g = g v:=rfl
theorem QY {α β γ:Type} {f:Nat → Out α} {g:α → Nat → Out β} {k:β → Nat → Out γ}:Qc (Qc f g) k = Qc f fun v=>Qc (g v) k:=by
 funext i; unfold Qc; cases f i <;> rfl
end Go.Proofs.YtfdcjngclelnhaaGreat
