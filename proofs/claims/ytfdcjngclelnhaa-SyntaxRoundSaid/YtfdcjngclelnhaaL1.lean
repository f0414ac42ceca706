/- Part of a proof. -/
import Derived.Test.YtfdcjngclelnhaaKT
import Derived.Test.YtfdcjngclelnhaaKA
import Derived.Test.YtfdcjngclelnhaaA
set_option linter.unusedSectionVars false
set_option linter.unusedSimpArgs false
set_option linter.unusedVariables false
namespace Go.Proofs.Ytfdcjngclelnhaa
open Go Go.RowKit
theorem law_callsE {P:Program} (hP:ProgOk P) {f:FuncId} {fn:Func} {body:Code} (hf:P.funcs[f]? = some fn) (hb:fn.body = some body) {args:List AV} {vargs:Array Value} {W:World} (hargs:DenL (K0 W) args vargs.toList)
    (hc:CallE P f args [] (.dat (.bool true)) []):Calls P f vargs W fun e W'=>e = .returned (.bool true) ∧ Below W.heap.size W W':=by
  have h3:=hc (K0 W) (fun _=>none) (fun _=>True) W vargs hargs (fit0 W)
  have hname : (fn.name == "runtime.NumGoroutine") = false := by
    have:=List.all_eq_true.1 hP.named fn (Array.mem_toList_iff.2 (Array.mem_of_getElem? hf))
    simpa [hb] using this
  have hcf:(callFunc f vargs).run P W = .ok (.enter f vargs) W:=by
    simp only [callFunc,Sem.run_bind,run_program,Result.andThen_ok,hf,hname,hb,Option.isNone_some,Bool.false_eq_true,if_false,Sem.run_pure]
  rw [hcf] at h3
  refine Calls.mono h3 fun e W' hr=>?_
  cases e with
  | returned v =>
    obtain ⟨K',hh,_,e1,e2,e3⟩:=hr
    cases e2 with | dat e2=>?_
    cases e2
    obtain ⟨ow,hok⟩:=e3.ok
    have hbel:=hok.below
    rw [e1.base] at hbel
    exact ⟨rfl,hbel.below⟩
  | panicked c=>exact hr.elim
  | outgrown=>exact hr.elim
theorem callE_of1 {P:Program} {f:FuncId} {args:List AV} {v:AV} (h:Call1 P f args [] v []):CallE P f args [] v []:=fun K HF V w vargs hargs hk=>by
  refine CallGives.mono (h.2 K HF V w vargs hargs hk) fun u w' ⟨K',h1,h2,h3⟩=>⟨K',[],rfl,h1,h2,h3⟩
end Go.Proofs.Ytfdcjngclelnhaa
namespace Go.Proofs.Ytfdcjngclelnhaa
open Go Go.RowKit
variable [mode:Inhabited ModeT]
def Own.eqv:Own → Own → Bool
  | .full,.full=>true
  | .tip a,.tip b=>a == b
  | .at a b c d,.at a' b' c' d'=>a == a' && b == b' && c == c' && d == d'
  | _,_=>false
theorem Own.eqv_ok {a b:Own} (h:a.eqv b = true):a = b:=by
  cases a <;> cases b <;> simp_all [Own.eqv]
def fnEqv:Fn → Fn → Bool
  | .func a,.func b=>a == b
  | _,_=>false
theorem fnEqv_ok {a b:Fn} (h:fnEqv a b = true):a = b:=by
  cases a <;> cases b <;> simp_all [fnEqv]
mutual
def AV.eqv:AV → AV → Bool
  | .dat a,.dat b=>a.same b
  | .own g es,.own g' es'=>g.eqv g' && D.sameL es es'
  | .ptr none,.ptr none=>true
  | .ptr (some a),.ptr (some b)=>a.1 == b.1 && a.2 == b.2
  | .ep cs o,.ep cs' o'=>o == o' && D.sameL cs cs'
  | .func f a c,.func f' a' c'=>fnEqv f f' && AV.eqvL a a' && AV.eqvL c c'
  | .nilFunc,.nilFunc=>true
  | .iface t v,.iface t' v'=>t == t' && v.eqv v'
  | .nilIface,.nilIface=>true
  | .agg a,.agg b=>AV.eqvL a b
  | .tuple a,.tuple b=>AV.eqvL a b
  | .sdata a b c d es,.sdata a' b' c' d' es'=>a == a' && b == b' && c == c' && d == d' && D.sameL es es'
  | .fp a b c,.fp a' b' c'=>a == a' && b == b' && c == c'
  | .row a b c d e,.row a' b' c' d' e'=>a == a' && b == b' && c == c' && d == d' && e == e'
  | .mapv none,.mapv none=>true
  | .mapv (some a),.mapv (some b)=>a == b
  | .any,.any=>true
  | _,_=>false
def AV.eqvL:List AV → List AV → Bool
  | [],[]=>true
  | a :: r,b :: q=>a.eqv b && AV.eqvL r q
  | _,_=>false
end
mutual
theorem AV.eqv_ok:∀ {a b:AV},a.eqv b = true → a = b
  | .dat a,b,h=>by cases b <;> simp only [AV.eqv,reduceCtorEq] at h; rw [D.same_ok h]
  | .own g es,b,h=>by
    cases b <;> simp only [AV.eqv,reduceCtorEq,Bool.and_eq_true] at h
    rw [Own.eqv_ok h.1,D.sameL_ok h.2]
  | .ptr none,b,h=>by
    cases b with
    | ptr o=>cases o <;> simp_all [AV.eqv]
    | _=>simp [AV.eqv] at h
  | .ptr (some (a1,a2)),b,h=>by
    cases b with
    | ptr o =>
      cases o with
      | none=>simp [AV.eqv] at h
      | some b=>obtain ⟨b1,b2⟩:=b; simp [AV.eqv] at h; rw [h.1,h.2]
    | _=>simp [AV.eqv] at h
  | .ep cs o,b,h=>by
    cases b <;> simp only [AV.eqv,reduceCtorEq,Bool.and_eq_true,beq_iff_eq] at h
    rw [h.1,D.sameL_ok h.2]
  | .func f a c,b,h=>by
    cases b <;> simp only [AV.eqv,reduceCtorEq,Bool.and_eq_true] at h
    rw [fnEqv_ok h.1.1,AV.eqvL_ok h.1.2,AV.eqvL_ok h.2]
  | .nilFunc,b,h=>by cases b <;> simp [AV.eqv] at h ⊢
  | .iface t v,b,h=>by
    cases b <;> simp only [AV.eqv,reduceCtorEq,Bool.and_eq_true,beq_iff_eq] at h
    rw [h.1,AV.eqv_ok h.2]
  | .nilIface,b,h=>by cases b <;> simp [AV.eqv] at h ⊢
  | .agg a,b,h=>by cases b <;> simp only [AV.eqv,reduceCtorEq] at h; rw [AV.eqvL_ok h]
  | .tuple a,b,h=>by cases b <;> simp only [AV.eqv,reduceCtorEq] at h; rw [AV.eqvL_ok h]
  | .sdata a1 a2 a3 a4 es,b,h=>by
    cases b <;> simp only [AV.eqv,reduceCtorEq,Bool.and_eq_true,beq_iff_eq] at h
    rw [h.1.1.1.1,h.1.1.1.2,h.1.1.2,h.1.2,D.sameL_ok h.2]
  | .fp a1 a2 a3,b,h=>by cases b <;> simp_all [AV.eqv]
  | .row a1 a2 a3 a4 a5,b,h=>by cases b <;> simp_all [AV.eqv]
  | .mapv none,b,h=>by
    cases b with
    | mapv o=>cases o <;> simp_all [AV.eqv]
    | _=>simp [AV.eqv] at h
  | .mapv (some a),b,h=>by
    cases b with
    | mapv o=>cases o <;> simp_all [AV.eqv]
    | _=>simp [AV.eqv] at h
  | .any,b,h=>by cases b <;> simp [AV.eqv] at h ⊢
theorem AV.eqvL_ok:∀ {a b:List AV},AV.eqvL a b = true → a = b
  | [],[],_=>rfl
  | a :: r,b :: q,h=>by
    simp only [AV.eqvL,Bool.and_eq_true] at h
    rw [AV.eqv_ok h.1,AV.eqvL_ok h.2]
  | [],_ :: _,h=>by simp [AV.eqvL] at h
  | _ :: _,[],h=>by simp [AV.eqvL] at h
end
def natsEqv:List Nat → List Nat → Bool
  | [],[]=>true
  | a :: r,b :: q=>a == b && natsEqv r q
  | _,_=>false
theorem natsEqv_ok:∀ {a b:List Nat},natsEqv a b = true → a = b
  | [],[],_=>rfl
  | a :: r,b :: q,h=>by
    simp only [natsEqv,Bool.and_eq_true,beq_iff_eq] at h
    rw [h.1,natsEqv_ok h.2]
  | [],_ :: _,h=>by simp [natsEqv] at h
  | _ :: _,[],h=>by simp [natsEqv] at h
def mpEqv:List (D × AV × Nat) → List (D × AV × Nat) → Bool
  | [],[]=>true
  | (k,v,n) :: r,(k',v',n') :: q=>k.same k' && v.eqv v' && n == n' && mpEqv r q
  | _,_=>false
theorem mpEqv_ok:∀ {a b:List (D × AV × Nat)},mpEqv a b = true → a = b
  | [],[],_=>rfl
  | (k,v,n) :: r,(k',v',n') :: q,h=>by
    simp only [mpEqv,Bool.and_eq_true,beq_iff_eq] at h
    rw [D.same_ok h.1.1.1,AV.eqv_ok h.1.1.2,h.1.2,mpEqv_ok h.2]
  | [],_ :: _,h=>by simp [mpEqv] at h
  | _ :: _,[],h=>by simp [mpEqv] at h
def onatEqv:Option Nat → Option Nat → Bool
  | none,none=>true
  | some a,some b=>a == b
  | _,_=>false
theorem onatEqv_ok:∀ {a b:Option Nat},onatEqv a b = true → a = b
  | none,none,_=>rfl
  | some a,some b,h=>by simp [onatEqv] at h; rw [h]
  | none,some _,h=>by simp [onatEqv] at h
  | some _,none,h=>by simp [onatEqv] at h
def AObj.eqv:AObj → AObj → Bool
  | .cells e cs v,.cells e' cs' v'=>e == e' && v == v' && AV.eqvL cs cs'
  | .tip a b c,.tip a' b' c'=>a == a' && b == b' && c == c'
  | .free e cs v l f x,.free e' cs' v' l' f' x'=>e == e' && v == v' && l == l' && f == f' && x == x' && AV.eqvL cs cs'
  | .mp es c l,.mp es' c' l'=>c == c' && l == l' && mpEqv es es'
  | .sit s p,.sit s' p'=>p == p' && s == s'
  | .mit m s l n,.mit m' s' l' n'=>onatEqv m m' && s == s' && natsEqv l l' && n == n'
  | _,_=>false
theorem AObj.eqv_ok {a b:AObj} (h:a.eqv b = true):a = b:=by
  cases a <;> cases b <;> simp only [AObj.eqv,reduceCtorEq,Bool.and_eq_true,beq_iff_eq] at h
  · rw [h.1.1,h.1.2,AV.eqvL_ok h.2]
  · rw [h.1.1,h.1.2,h.2]
  · rw [h.1.1.1.1.1,h.1.1.1.1.2,h.1.1.1.2,h.1.1.2,h.1.2,AV.eqvL_ok h.2]
  · rw [h.1.1,h.1.2,mpEqv_ok h.2]
  · rw [h.1,h.2]
  · rw [onatEqv_ok h.1.1.1,h.1.1.2,natsEqv_ok h.1.2,h.2]
def heapEqv:Heap → Heap → Bool
  | [],[]=>true
  | none :: r,none :: q=>heapEqv r q
  | some a :: r,some b :: q=>a.eqv b && heapEqv r q
  | _,_=>false
theorem heapEqv_ok:∀ {a b:Heap},heapEqv a b = true → a = b
  | [],[],_=>rfl
  | none :: r,none :: q,h=>by
    simp only [heapEqv] at h
    rw [heapEqv_ok h]
  | some a :: r,some b :: q,h=>by
    simp only [heapEqv,Bool.and_eq_true] at h
    rw [AObj.eqv_ok h.1,heapEqv_ok h.2]
  | [],_ :: _,h=>by simp [heapEqv] at h
  | _ :: _,[],h=>by simp [heapEqv] at h
  | none :: _,some _ :: _,h=>by simp [heapEqv] at h
  | some _ :: _,none :: _,h=>by simp [heapEqv] at h
structure Known where
  whatever:Bool
  args:List AV
  heap:Heap
  v:AV
  heap':Heap
def comesTo (r:Option (AV × Heap)) (m:Known):Bool :=
  match r with
  | some (v,h)=>v.eqv m.v && heapEqv h m.heap'
  | none=>false
theorem comesTo_ok {r:Option (AV × Heap)} {m:Known} (h:comesTo r m = true):r = some (m.v,m.heap'):=by
  unfold comesTo at h
  split at h
  · simp only [Bool.and_eq_true] at h
    rw [AV.eqv_ok h.1,heapEqv_ok h.2]
  · cases h
def fitK (m:Known):Bool:=!m.whatever || (m.args.all AV.plain && m.v.plain && m.heap.isEmpty && m.heap'.isEmpty)
def seek (args:List AV) (h:Heap):List Known → Option (AV × Heap)
  | []=>none
  | m :: r=>if m.whatever then (if AV.eqvL args m.args then some (m.v,h) else seek args h r)
    else (if AV.eqvL args m.args && heapEqv h m.heap then some (m.v,m.heap') else seek args h r)
abbrev Tab:=List (FuncId × List Known)
def tabAt (f:FuncId):Tab → Option (List Known)
  | []=>none
  | (g,l) :: r=>if f == g then some l else tabAt f r
def withTab (t:Tab) (prim:FuncId → Option Prim):FuncId → Option Prim:=fun f =>
  match tabAt f t with
  | some l=>some fun args h=>seek args h l
  | none=>prim f
section
variable {P:Program}
def callB (P:Program) (prim:FuncId → Option Prim) (k:Nat):CallF:=enterA P (fun _=>none) (run P prim k)
theorem callB_ok (hP:ProgOk P) {prim:FuncId → Option Prim} (hprim:PrimsOk P prim) (k:Nat):CallOk P (callB P prim k):=enter_ok hP (by intro f p h; cases h) (run_ok hP hprim k)
def Good (P:Program) (f:FuncId) (m:Known):Prop:=fitK m = true ∧ ∃ (prim:FuncId → Option Prim) (k:Nat),PrimsOk P prim ∧ callB P prim k f m.args m.heap = some (m.v,m.heap')
theorem Good.of {prim:FuncId → Option Prim} (hp:PrimsOk P prim) (k:Nat) {f:FuncId} {m:Known} (h:(fitK m && comesTo (callB P prim k f m.args m.heap) m) = true):Good P f m:=by
  simp only [Bool.and_eq_true] at h
  exact ⟨h.1,prim,k,hp,comesTo_ok h.2⟩
def GoodL (P:Program) (f:FuncId):List Known → Prop
  | []=>True
  | m :: r=>Good P f m ∧ GoodL P f r
def GoodT (P:Program):Tab → Prop
  | []=>True
  | (f,l) :: r=>GoodL P f l ∧ GoodT P r
theorem seek_ok {f:FuncId} {args:List AV} {h:Heap}:∀ {l:List Known},GoodL P f l → ∀ {v h'},seek args h l = some (v,h') → ∃ m,Good P f m ∧ m.args = args ∧ m.v = v ∧ (m.whatever = true ∧ h' = h ∨ m.heap = h ∧ m.heap' = h')
  | [],_,_,_,hs=>nomatch hs
  | m :: r,hg,v,h',hs=>by
    unfold seek at hs
    split at hs
    · rename_i hw
      split at hs
      · rename_i he
        cases hs
        exact ⟨m,hg.1,(AV.eqvL_ok he).symm,rfl,Or.inl ⟨hw,rfl⟩⟩
      · exact seek_ok hg.2 hs
    · split at hs
      · rename_i he
        simp only [Bool.and_eq_true] at he
        cases hs
        exact ⟨m,hg.1,(AV.eqvL_ok he.1).symm,rfl,Or.inr ⟨(heapEqv_ok he.2).symm,rfl⟩⟩
      · exact seek_ok hg.2 hs
theorem tabAt_ok {f:FuncId}:∀ {t:Tab},GoodT P t → ∀ {l},tabAt f t = some l → GoodL P f l
  | [],_,_,hs=>nomatch hs
  | (g,l0) :: r,hg,l,hs=>by
    unfold tabAt at hs
    split at hs
    · rename_i he
      cases hs
      rw [eq_of_beq he]
      exact hg.1
    · exact tabAt_ok hg.2 hs
mutual
theorem D.same_self:∀ a:D,a.same a = true
  | .bool a=>by simp [D.same]
  | .int k n=>by simp [D.same]
  | .str a=>by simp [D.same]
  | .nils=>rfl
  | .slice es=>by simp only [D.same]; exact D.sameL_self es
  | .agg es=>by simp only [D.same]; exact D.sameL_self es
theorem D.sameL_self:∀ a:List D,D.sameL a a = true
  | []=>rfl
  | a :: r=>by simp only [D.sameL,Bool.and_eq_true]; exact ⟨D.same_self a,D.sameL_self r⟩
end
theorem plain_self:∀ {v:AV},v.plain = true → v.eqv v = true
  | .dat d,_=>by simp only [AV.eqv]; exact D.same_self d
  | .tuple vs,h=>by
    simp only [AV.eqv]
    simp only [AV.plain] at h
    induction vs with
    | nil=>rfl
    | cons x r ih =>
      simp only [List.all_cons,Bool.and_eq_true] at h
      simp only [AV.eqvL,Bool.and_eq_true]
      refine ⟨?_,ih h.2⟩
      cases x with
      | dat d=>simp only [AV.eqv]; exact D.same_self d
      | _=>cases h.1
theorem seek_self:∀ {l:List AV},l.all AV.plain = true → AV.eqvL l l = true
  | [],_=>rfl
  | v :: r,h=>by
    simp only [List.all_cons,Bool.and_eq_true] at h
    simp only [AV.eqvL,Bool.and_eq_true]
    exact ⟨plain_self h.1,seek_self h.2⟩
theorem withTab_ok (hP:ProgOk P) {t:Tab} {prim:FuncId → Option Prim} (hp:PrimsOk P prim) (hg:GoodT P t):PrimsOk P (withTab t prim):=by
  intro f p hf
  unfold withTab at hf
  split at hf
  · rename_i l hl
    cases hf
    intro args h v h' hs
    obtain ⟨m,hgm,ha,hv,hh⟩:=seek_ok (tabAt_ok hg hl) hs
    obtain ⟨hfit,pr,k,hpr,hc⟩:=hgm
    rcases hh with ⟨hw,rfl⟩ | ⟨rfl,rfl⟩
    · simp only [fitK,hw,Bool.not_true,Bool.false_or,Bool.and_eq_true,List.isEmpty_iff] at hfit
      obtain ⟨⟨⟨q1,q2⟩,q3⟩,q4⟩:=hfit
      subst ha; subst hv
      rw [q3,q4] at hc
      have:=CallFOk.ofCallC (P:=P) (f:=f) (p:=fun a b=>if AV.eqvL a m.args then some (m.v,b) else none) fun a b v' b' hs=>by
        split at hs
        · rename_i he
          cases hs
          rw [AV.eqvL_ok he]
          exact ⟨rfl,q1,q2,_,callB_ok hP hpr k,hc⟩
        · cases hs
      exact this m.args h' m.v h' (if_pos (seek_self q1))
    · subst ha; subst hv
      exact callB_ok hP hpr k f _ _ _ _ hc
  · exact hp f p hf
end
end Go.Proofs.Ytfdcjngclelnhaa
namespace Go.Proofs.Ytfdcjngclelnhaa
set_option maxRecDepth 1000000
open Go Go.RowKit
def primN:FuncId → Option Prim:=fun f=>if f == 80 then some primIndexByte else if f == 101 then some primSame else none
theorem primN_ok:PrimsOk Try.prog primN:=fun f p h=>by
  unfold primN at h
  split at h
  · rename_i e
    cases h
    rw [eq_of_beq e]
    exact primIndexByte_ok Try.func80 rfl rfl (by kernel_rfl) (by kernel_rfl)
  · split at h
    · rename_i e
      cases h
      rw [eq_of_beq e]
      exact primSame_ok Try.func101 rfl rfl (by kernel_rfl) (by kernel_rfl)
    · cases h
def t_skip:List UInt8:=[115,107,105,112,59,32,115,105,112,59]
def scriptOut:AV:=.tuple [.dat (.agg [.nils,.nils,.nils]),.dat (.int .i64 6),.dat (.int .i64 10)]
def kScript:Known:=⟨true,[.dat (.str t_skip)],[],scriptOut,[]⟩
theorem script_run:comesTo (callB Try.prog primN 100000 24 kScript.args []) kScript = true:=by kernel_rfl
end Go.Proofs.Ytfdcjngclelnhaa
namespace Go.Proofs.Ytfdcjngclelnhaa
open Go
structure Tok where
  kind:Int
  text:List UInt8
  n:Int
  at_:Int
inductive Out (α:Type) where
  | ok (v:α) (i:Nat)
  | err (at_ e:Int)
def Out.bind {α β:Type} (x:Out α) (f:α → Nat → Out β):Out β :=
  match x with
  | .ok v i=>f v i
  | .err a e=>.err a e
def endTok:Tok:=⟨0,[],0,0⟩
def tk (T:List Tok) (i:Nat):Tok:=T.getD i endTok
def noGo {α:Type} (T:List Tok) (i:Nat) (e:Int):Out α:=.err (tk T i).at_ e
def ex (kind n:Int) (s t:List UInt8) (kids q:D):D:=.agg [.int .i64 kind,.int .i64 n,.str s,.str t,kids,q]
def qu (kind:Int) (distinct:Bool) (items froms wheres group having order:D) (limit:Int) (kids:D):D :=
  .agg [.int .i64 kind,.bool distinct,items,froms,wheres,group,having,order,.int .i64 limit,kids]
def frm (kind:Int) (table:List UInt8) (visible:Bool) (as_:List UInt8) (q kids on:D):D:=.agg [.int .i64 kind,.str table,.bool visible,.str as_,q,kids,on]
def itm (x:D) (name:List UInt8):D:=.agg (x.cells ++ [.str name])
def ky (x:D) (desc:Bool):D:=.agg (x.cells ++ [.bool desc])
def one1 (x:D):D:=.slice [x]
def binX (m:List UInt8) (a b:D):D:=ex 10 0 m [] (.slice [a,b]) .nils
def w_null:List UInt8:=[110,117,108,108]
def w_true:List UInt8:=[116,114,117,101]
def w_false:List UInt8:=[102,97,108,115,101]
def w_case:List UInt8:=[99,97,115,101]
def w_when:List UInt8:=[119,104,101,110]
def w_then:List UInt8:=[116,104,101,110]
def w_else:List UInt8:=[101,108,115,101]
def w_end:List UInt8:=[101,110,100]
def w_exists:List UInt8:=[101,120,105,115,116,115]
def w_select:List UInt8:=[115,101,108,101,99,116]
def w_count:List UInt8:=[99,111,117,110,116]
def w_sum:List UInt8:=[115,117,109]
def w_min:List UInt8:=[109,105,110]
def w_max:List UInt8:=[109,97,120]
def w_not:List UInt8:=[110,111,116]
def w_is:List UInt8:=[105,115]
def w_in:List UInt8:=[105,110]
def w_and:List UInt8:=[97,110,100]
def w_or:List UInt8:=[111,114]
def w_union:List UInt8:=[117,110,105,111,110]
def w_all:List UInt8:=[97,108,108]
def w_except:List UInt8:=[101,120,99,101,112,116]
def w_intersect:List UInt8:=[105,110,116,101,114,115,101,99,116]
def w_distinct:List UInt8:=[100,105,115,116,105,110,99,116]
def w_from:List UInt8:=[102,114,111,109]
def w_where:List UInt8:=[119,104,101,114,101]
def w_group:List UInt8:=[103,114,111,117,112]
def w_by:List UInt8:=[98,121]
def w_having:List UInt8:=[104,97,118,105,110,103]
def w_order:List UInt8:=[111,114,100,101,114]
def w_limit:List UInt8:=[108,105,109,105,116]
def w_as:List UInt8:=[97,115]
def w_desc:List UInt8:=[100,101,115,99]
def w_left:List UInt8:=[108,101,102,116]
def w_join:List UInt8:=[106,111,105,110]
def w_on:List UInt8:=[111,110]
def w_visible:List UInt8:=[118,105,115,105,98,108,101]
def seqO {α β:Type} (f:Nat → Out α) (g:α → Nat → Out β):Nat → Out β:=fun i=>(f i).bind g
def retO {α:Type} (v:α):Nat → Out α:=fun i=>.ok v i
def pSees (T:List Tok) (k:Int) (s:List UInt8) (i:Nat):Bool:=(tk T i).kind == k && (tk T i).text == s
def ifO {α:Type} (T:List Tok) (k:Int) (s:List UInt8) (A Z:Nat → Out α):Nat → Out α:=fun i=>if pSees T k s i then A (i + 1) else Z i
def seeO {α:Type} (T:List Tok) (k:Int) (s:List UInt8) (A Z:Nat → Out α):Nat → Out α:=fun i=>if pSees T k s i then A i else Z i
def pMust (T:List Tok) (k:Int) (s:List UInt8):Nat → Out Unit:=fun i=>if pSees T k s i then .ok () (i + 1) else noGo T i 10
def pDeep (T:List Tok) (d:Nat):Nat → Out Unit:=fun i=>if 40 < d + 1 then noGo T i 9 else .ok () i
def opIn (T:List Tok) (k:Int):List (List UInt8) → Nat → Option (List UInt8)
  | [],_=>none
  | w :: r,i=>if pSees T k w i then some w else opIn T k r i
def pName (isW:List UInt8 → Bool) (T:List Tok):Nat → Out (List UInt8):=fun i=>if (tk T i).kind == 1 && !isW (tk T i).text then .ok (tk T i).text (i + 1) else noGo T i 10
def pNumber (T:List Tok):Nat → Out Int:=fun i=>if (tk T i).kind == 2 then .ok (tk T i).n (i + 1) else noGo T i 10
def pLoop (op:Nat → Option (List UInt8)) (rest:Nat → Out D):Nat → D → Nat → Out D
  | 0,x,i=>.ok x i
  | r + 1,x,i=>match op i with
    | some m=>(rest (i + 1)).bind fun y=>pLoop op rest r (binX m x y)
    | none=>.ok x i
def pMore (T:List Tok) (rest:Nat → Out D):Nat → List D → Nat → Out D
  | 0,l=>retO (.slice l)
  | r + 1,l=>ifO T 4 [44] (seqO rest fun y=>pMore T rest r (l ++ [y])) (retO (.slice l))
def pList (T:List Tok) (one:Nat → Out D) (r:Nat):Nat → Out D:=seqO one fun x=>pMore T one r [x]
structure Recs where
  expr:Nat → Nat → Out D
  ands:Nat → Nat → Out D
  nots:Nat → Nat → Out D
  sum:Nat → Nat → Out D
  prod:Nat → Nat → Out D
  unary:Nat → Nat → Out D
  query:Nat → Nat → Out D
  part:Nat → Nat → Out D
section
variable (isW:List UInt8 → Bool) (T:List Tok) (R:Recs) (r:Nat)
def bracketedF (d:Nat):Nat → Out D:=seqO (pMust T 4 [40]) fun _=>seqO (R.query d) fun q=>seqO (pMust T 4 [41]) fun _=>retO q
def casesF (d:Nat):Nat → Out D :=
  seqO (pMust T 1 w_when) fun _=>seqO (R.expr d) fun a=>seqO (pMust T 1 w_then) fun _=>seqO (R.expr d) fun b =>
  seqO (pMust T 1 w_else) fun _=>seqO (R.expr d) fun c=>seqO (pMust T 1 w_end) fun _=>retO (ex 11 0 [] [] (.slice [a,b,c]) .nils)
def roundF (d:Nat):Nat → Out D :=
  seeO T 1 w_select (seqO (R.query d) fun q=>seqO (pMust T 4 [41]) fun _=>retO (ex 14 0 [] [] .nils (one1 q)))
    (seqO (R.expr d) fun x=>seqO (pMust T 4 [41]) fun _=>retO x)
def gathersB (s:List UInt8):Bool:=s == w_count || s == w_sum || s == w_min || s == w_max
def dotF (s:List UInt8):Nat → Out D:=ifO T 4 [46] (seqO (pName isW T) fun t=>retO (ex 5 0 t s .nils .nils)) (retO (ex 5 0 s [] .nils .nils))
def agg1F (d:Nat) (s:List UInt8):Nat → Out D:=seqO (R.expr d) fun x=>seqO (pMust T 4 [41]) fun _=>retO (ex 15 0 s [] (one1 x) .nils)
def aggF (d:Nat) (s:List UInt8):Nat → Out D :=
  if s == w_count then ifO T 4 [42] (seqO (pMust T 4 [41]) fun _=>retO (ex 15 0 s [] .nils .nils)) (agg1F T R d s) else agg1F T R d s
def columnF (d:Nat):Nat → Out D:=seqO (pName isW T) fun s=>if gathersB s then ifO T 4 [40] (aggF T R d s) (dotF isW T s) else dotF isW T s
def primF (d:Nat):Nat → Out D:=fun i =>
  if (tk T i).kind == 2 then .ok (ex 3 (tk T i).n [] [] .nils .nils) (i + 1)
  else if (tk T i).kind == 3 then .ok (ex 4 0 (tk T i).text [] .nils .nils) (i + 1)
  else ifO T 1 w_null (retO (ex 1 0 [] [] .nils .nils)) (ifO T 1 w_true (retO (ex 2 1 [] [] .nils .nils)) (ifO T 1 w_false (retO (ex 2 0 [] [] .nils .nils))
    (ifO T 4 [58] (seqO (pName isW T) fun s=>retO (ex 6 0 s [] .nils .nils)) (ifO T 1 w_case (casesF T R d)
    (ifO T 1 w_exists (seqO (bracketedF T R d) fun q=>retO (ex 12 0 [] [] .nils (one1 q))) (ifO T 4 [40] (roundF T R d) (columnF isW T R d))))))) i
def unaryF (d:Nat):Nat → Out D :=
  ifO T 4 [45] (seqO (pDeep T d) fun _=>seqO (R.unary (d + 1)) fun x=>retO (ex 7 0 [] [] (one1 x) .nils)) (primF isW T R d)
def opsProd:List (List UInt8):=[[42],[47],[37]]
def opsSum:List (List UInt8):=[[43],[45],[124,124]]
def opsCmp:List (List UInt8):=[[61],[60,62],[60],[60,61],[62],[62,61]]
def prodF (d:Nat):Nat → Out D:=seqO (unaryF isW T R d) fun x=>pLoop (opIn T 4 opsProd) (R.unary d) r x
def sumF (d:Nat):Nat → Out D:=seqO (prodF isW T R r d) fun x=>pLoop (opIn T 4 opsSum) (R.prod d) r x
def isF (x:D):Nat → Out D :=
  ifO T 1 w_not (seqO (pMust T 1 w_null) fun _=>retO (ex 9 1 [] [] (one1 x) .nils)) (seqO (pMust T 1 w_null) fun _=>retO (ex 9 0 [] [] (one1 x) .nils))
def cmp2F (d:Nat) (x:D):Nat → Out D :=
  ifO T 1 w_is (isF T x) (ifO T 1 w_not (seqO (pMust T 1 w_in) fun _=>seqO (bracketedF T R d) fun q=>retO (ex 13 1 [] [] (one1 x) (one1 q)))
    (ifO T 1 w_in (seqO (bracketedF T R d) fun q=>retO (ex 13 0 [] [] (one1 x) (one1 q))) (retO x)))
def cmp1F (d:Nat) (x:D):Nat → Out D:=fun i=>match opIn T 4 opsCmp i with
    | some m=>(R.sum d (i + 1)).bind fun y=>retO (binX m x y)
    | none=>cmp2F T R d x i
def cmpF (d:Nat):Nat → Out D:=seqO (sumF isW T R r d) fun x=>cmp1F T R d x
def notF (d:Nat):Nat → Out D :=
  ifO T 1 w_not (seqO (pDeep T d) fun _=>seqO (R.nots (d + 1)) fun x=>retO (ex 8 0 [] [] (one1 x) .nils)) (cmpF isW T R r d)
def andF (d:Nat):Nat → Out D:=seqO (notF isW T R r d) fun x=>pLoop (opIn T 1 [w_and]) (R.nots d) r x
def orF (d:Nat):Nat → Out D:=seqO (andF isW T R r d) fun x=>pLoop (opIn T 1 [w_or]) (R.ands d) r x
def exprF (d:Nat):Nat → Out D:=seqO (pDeep T d) fun _=>orF isW T R r (d + 1)
def itemF (d:Nat):Nat → Out D:=seqO (R.expr d) fun x=>seqO (pMust T 1 w_as) fun _=>seqO (pName isW T) fun s=>retO (itm x s)
def keyF (d:Nat):Nat → Out D:=seqO (R.expr d) fun x=>ifO T 1 w_desc (retO (ky x true)) (retO (ky x false))
def singleF (d:Nat):Nat → Out D :=
  ifO T 4 [40] (seqO (R.query d) fun q=>seqO (pMust T 4 [41]) fun _=>seqO (pMust T 1 w_as) fun _=>seqO (pName isW T) fun s=>retO (frm 2 [] false s (one1 q) .nils .nils))
    (seqO (pName isW T) fun s=>seqO (ifO T 1 w_visible (retO true) (retO false)) fun v =>
      ifO T 1 w_as (seqO (pName isW T) fun t=>retO (frm 1 s v t .nils .nils .nils)) (retO (frm 1 s v s .nils .nils .nils)))
def srcLoop (d:Nat):Nat → D → Nat → Out D
  | 0,x=>retO x
  | k + 1,x =>
    let go (kind:Int):Nat → Out D:=seqO (singleF isW T R d) fun y=>seqO (pMust T 1 w_on) fun _=>seqO (R.expr d) fun e=>srcLoop d k (frm kind [] false [] .nils (.slice [x,y]) (one1 e))
    ifO T 1 w_left (seqO (pMust T 1 w_join) fun _=>go 4) (ifO T 1 w_join (go 3) (retO x))
def sourceF (d:Nat):Nat → Out D:=seqO (singleF isW T R d) fun x=>srcLoop isW T R d r x
def optF (w:List UInt8) (f:Nat → Out D):Nat → Out D:=ifO T 1 w (seqO f fun x=>retO (one1 x)) (retO .nils)
def groupF (d:Nat):Nat → Out (D × D) :=
  ifO T 1 w_group (seqO (pMust T 1 w_by) fun _=>seqO (pList T (R.expr d) r) fun g=>seqO (optF T w_having (R.expr d)) fun h=>retO (g,h)) (retO (.nils,.nils))
def orderF (d:Nat):Nat → Out D:=ifO T 1 w_order (seqO (pMust T 1 w_by) fun _=>pList T (keyF T R d) r) (retO .nils)
def limitF:Nat → Out Int:=ifO T 1 w_limit (pNumber T) (retO (-1))
def sel3F (d:Nat) (dist:Bool) (items froms wheres group having:D):Nat → Out D :=
  seqO (orderF T R r d) fun order=>seqO (limitF T) fun limit=>retO (qu 1 dist items froms wheres group having order limit .nils)
def sel2F (d:Nat) (dist:Bool) (items froms wheres:D):Nat → Out D:=seqO (groupF T R r d) fun gh=>sel3F T R r d dist items froms wheres gh.1 gh.2
def sel1F (d:Nat) (dist:Bool) (items froms:D):Nat → Out D:=seqO (optF T w_where (R.expr d)) fun wheres=>sel2F T R r d dist items froms wheres
def sel0F (d:Nat) (dist:Bool):Nat → Out D:=seqO (pList T (itemF isW T R d) r) fun items=>seqO (optF T w_from (sourceF isW T R r d)) fun froms=>sel1F T R r d dist items froms
def selectF (d:Nat):Nat → Out D:=seqO (pMust T 1 w_select) fun _=>seqO (ifO T 1 w_distinct (retO true) (retO false)) fun dist=>sel0F isW T R r d dist
def partF (d:Nat):Nat → Out D:=ifO T 4 [40] (seqO (R.query d) fun q=>seqO (pMust T 4 [41]) fun _=>retO q) (selectF isW T R r d)
def quLoop (part:Nat → Out D):Nat → D → Nat → Out D
  | 0,x=>retO x
  | k + 1,x =>
    let go (kind:Int):Nat → Out D:=seqO part fun y=>quLoop part k (qu kind false .nils .nils .nils .nils .nils .nils (-1) (.slice [x,y]))
    ifO T 1 w_union (ifO T 1 w_all (go 3) (go 2)) (ifO T 1 w_except (go 4) (ifO T 1 w_intersect (go 5) (retO x)))
def queryF (d:Nat):Nat → Out D:=seqO (pDeep T d) fun _=>seqO (partF isW T R r (d + 1)) fun x=>quLoop T (R.part (d + 1)) r x
end
def recs0:Recs:=⟨fun _ _=>.err 0 0,fun _ _=>.err 0 0,fun _ _=>.err 0 0,fun _ _=>.err 0 0,fun _ _=>.err 0 0,fun _ _=>.err 0 0,fun _ _=>.err 0 0,fun _ _=>.err 0 0⟩
def recs (isW:List UInt8 → Bool) (T:List Tok):Nat → Recs
  | 0=>recs0
  | r + 1 =>
    let R:=recs isW T r
    { expr:=exprF isW T R (r + 1),ands:=andF isW T R (r + 1),nots:=notF isW T R (r + 1),sum:=sumF isW T R (r + 1),prod:=prodF isW T R (r + 1),unary:=unaryF isW T R,query:=queryF isW T R (r + 1),part:=partF isW T R (r + 1) }
def readAll (T:List Tok) (f:Nat → Out D):Out D:=(f 0).bind fun v i=>if (tk T i).kind == 0 then .ok v i else noGo T i 10
theorem seq_if {α β:Type} {T:List Tok} {k:Int} {s:List UInt8} {A Z:Nat → Out α} {g:α → Nat → Out β}:seqO (ifO T k s A Z) g = ifO T k s (seqO A g) (seqO Z g):=by
  funext i; unfold seqO ifO; split <;> rfl
theorem seq_ret {α β:Type} {v:α} {g:α → Nat → Out β}:seqO (retO v) g = g v:=rfl
theorem seq_seq {α β γ:Type} {f:Nat → Out α} {g:α → Nat → Out β} {k:β → Nat → Out γ}:seqO (seqO f g) k = seqO f fun v=>seqO (g v) k:=by
  funext i; unfold seqO; cases f i <;> rfl
end Go.Proofs.Ytfdcjngclelnhaa
