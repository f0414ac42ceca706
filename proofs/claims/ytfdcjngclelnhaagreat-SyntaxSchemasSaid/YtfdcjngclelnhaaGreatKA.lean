/- Part of a proof. -/
import Derived.Test.YtfdcjngclelnhaaGreatE6
import Derived.Lib.Bytealg
set_option linter.unusedSectionVars false
set_option linter.unusedSimpArgs false
set_option linter.unusedVariables false
namespace Go.Proofs.YtfdcjngclelnhaaGreat
open Go Go.RowKit
variable [mode:Inhabited ModeT]
def idxByte (c:UInt8):List UInt8 → Nat → Int
 | [],_=>-1
 | b :: l,i=>if b == c then (i:Int) else idxByte c l (i + 1)
theorem Q9E (c:UInt8):∀ (l:List UInt8) (i:Nat),idxByte c l i = if Lib.indexByte l c = -1 then -1 else Lib.indexByte l c + i
 | [],i=>by simp [idxByte,Lib.indexByte]
 | b :: l,i=>by
  have hge:=Lib.indexByte_ge l c
  simp only [idxByte,Lib.indexByte]
  split
  ·simp
  ·rw [Q9E c l (i + 1)]
   by_cases h:Lib.indexByte l c = -1
   ·simp [h]
   ·have h2:(Lib.indexByte l c == -1) = false:=by simpa using h
    rw [if_neg h,h2]
    simp only [Bool.false_eq_true,if_false]
    rw [if_neg (by omega)]
    omega
def primIndexByte:Prim:=fun args h=>match args with
 | [.dat (.str s),.dat (.int .u8 c)]=>some (.dat (.int .i64 (idxByte c.toNat.toUInt8 s 0)),h)
 | _=>none
def primSame:Prim:=fun args h=>match args with
 | [x]=>some (x,h)
 | _=>none
section
variable {P:Program} {f:FuncId} {fn:Func}
theorem QaZ {p : Prim} {e : Array Value → Sem Value} (hf : P.funcs[f]? = some fn) (hname : (fn.name == "runtime.NumGoroutine") = false) (hb : fn.body.isNone = true) (hn : Extern.findNext fn = none) (he : Extern.find fn = some e)
  (h:∀ args h v h',p args h = some (v,h') → h' = h ∧ ∀ (K:KW) (w:World) (vargs:Array Value),DenL K args vargs.toList → ∃ u,(e vargs).run P w = .ok u w ∧ Den K v u):CallFOk P f p:=by
 intro args hp v h' hs
 obtain ⟨rfl,h2⟩:=h args hp v h' hs
 refine ⟨Nat.le_refl _,fun K HF V w vargs hargs hk=>?_⟩
 obtain ⟨u,h3,h4⟩:=h2 K w vargs hargs
 rw [run_callFunc_extern hf hname hb hn he,h3,Result.andThen_ok]
 exact ⟨K,Kext.refl K,h4,hk.start⟩
theorem Q0q (hf : P.funcs[f]? = some fn) (hname : (fn.name == "runtime.NumGoroutine") = false) (hb : fn.body.isNone = true) (hn : Extern.findNext fn = none) (he : Extern.find fn = some Extern.BytealgIndexByte.indexByte) : CallFOk P f primIndexByte := by
 refine QaZ hf hname hb hn he fun args h v h' hs=>?_
 unfold primIndexByte at hs
 split at hs
 ·rename_i s c
  cases hs
  refine ⟨rfl,fun K w vargs hargs=>?_⟩
  obtain ⟨a,b,rfl,ha,hb'⟩:=Qfs hargs
  cases ha with | dat ha=>?_
  cases hb' with | dat hb'=>?_
  cases ha; cases hb'
  refine ⟨_,Lib.run_indexByteString (P:=P) ⟨s.toArray⟩ c w,?_⟩
  have:Lib.indexByte s c.toNat.toUInt8 = idxByte c.toNat.toUInt8 s 0:=by
   rw [Q9E]
   split
   ·rename_i h; exact h
   ·simp
  rw [← this]
  exact .dat (.int _ _)
 ·exact nomatch hs
theorem Q6g (hf : P.funcs[f]? = some fn) (hname : (fn.name == "runtime.NumGoroutine") = false) (hb : fn.body.isNone = true) (hn : Extern.findNext fn = none) (he : Extern.find fn = some Extern.AbiNoEscape.same) : CallFOk P f primSame := by
 refine QaZ hf hname hb hn he fun args h v h' hs=>?_
 unfold primSame at hs
 split at hs
 ·cases hs
  refine ⟨rfl,fun K w vargs hargs=>?_⟩
  obtain ⟨a,rfl,ha⟩:=Q7s hargs
  exact ⟨a,rfl,ha⟩
 ·exact nomatch hs
def K0 (W:World):KW:={ base:=.all W,imm:=W.cell?,blk:=fun _=>none,key:=fun _=>none,row:=fun _ _=>none }
theorem QsE (W:World):Fit (K0 W) [] (fun _=>none) (fun _=>True) W :=
 { ok:=⟨fun _=>none,{ imm:=fun _ _ h=>h,below:=BelowB.refl _,box:=fun id e cs ver h=>by simp [comb] at h,tip:=fun id e n sz h=>by simp [comb] at h,more:=fun id e n sz h=>by simp [comb] at h,fresh:=fun id _=>⟨by simp [comb],rfl,fun _=>rfl,fun _ _=>rfl⟩,ver:=fun id e cs ver h=>by simp [comb] at h,own:=(by intro b k h; cases h),fr:=fun id o h=>by simp [comb] at h,freshr:=fun _ _ _=>rfl }⟩
   hf:=by intro i o h; cases h
   vlen:=fun _ _=>trivial }
def AV.isDat:AV → Bool
 | .dat _=>true
 | _=>false
def AV.plain:AV → Bool
 | .dat _=>true
 | .tuple vs=>vs.all AV.isDat
 | _=>false
theorem Q57 {K K':KW} (hi:∀ a v,K.imm a = some v → K'.imm a = some v) {v:AV} {u:Value} (h:Den K v u) (hp:v.plain = true):Den K' v u:=by
 cases h with
 | dat h=>exact .dat (h.mono hi)
 | tuple cs vs hl h =>
  refine .tuple cs vs hl fun j x v h1 h2=>?_
  have hx:x.isDat = true:=List.all_eq_true.1 hp x (List.mem_of_getElem? h1)
  have:=h j x v h1 h2
  cases this with
  | dat h=>exact .dat (h.mono hi)
  | _=>cases hx
 | _=>cases hp
theorem QgF {K K':KW} (hi:∀ a v,K.imm a = some v → K'.imm a = some v) {vs:List AV} {us:List Value} (h:DenL K vs us) (hp:vs.all AV.plain = true):DenL K' vs us:=by
 induction h with
 | nil=>exact .nil
 | cons hd _ ih =>
  simp only [List.all_cons,Bool.and_eq_true] at hp
  exact .cons (Q57 hi hd hp.1) (ih hp.2)
theorem OkW.tell {K:KW} {h:Nat → Option AObj} {V:Nat → Prop} {w:World} {ow:Nat → Option OKey} (hk:OkW K h V w ow) {imm':Imm} (hext:Kext K { K with imm:=imm' }) (hc:∀ a c,imm' a = some c → w.cell? a = some c)
  (ho:∀ b k,ow b = some k → ∀ off sp,imm' ⟨b,off,sp⟩ = K.imm ⟨b,off,sp⟩):OkW { K with imm:=imm' } h V w ow:=by
 have hfree:∀ r n k,Free K w r n → ow r.b = some k → Free { K with imm:=imm' } w r n:=fun r n k hf hb =>
  ⟨hf.blk,fun off sp hle=>(ho _ _ hb off sp).trans (hf.imm off sp hle),hf.base⟩
 refine ⟨hc,hk.below,fun id e cs ver hid=>?_,fun id e n sz hid=>?_,hk.more,hk.fresh,hk.ver,hk.own,fun id o hid ho'=>(hk.fr id o hid ho').mono hext (fun _=>rfl) fun b hb=>⟨rfl,hb,fun off sp h=>(ho _ _ hb off sp).trans h⟩,hk.freshr⟩
 ·obtain ⟨b,vs,hbox⟩:=hk.box id e cs ver hid
  exact ⟨b,vs,hbox.blk,hbox.own,hbox.base,hbox.heap,fun off sp=>(ho _ _ hbox.own off sp).trans (hbox.imm off sp),hbox.den.mono hext,
   fun i c hi=>(hbox.cell i c hi).mono hext (Nat.le_refl _) fun r n v hf hb=>⟨hfree r n _ hf hb,hb⟩,hbox.under⟩
 ·obtain ⟨r,h1,h2,h3,h4,h5⟩:=hk.tip id e n sz hid
  exact ⟨r,h1,h2,h3,hfree r n _ h4 h5,h5⟩
theorem CallGives.mono {nx:Result Next} {R R':Value → World → Prop} (h:CallGives P nx R) (hr:∀ u w,R u w → R' u w):CallGives P nx R':=by
 unfold CallGives at h ⊢
 split at h
 ·exact hr _ _ h
 ·refine Calls.mono h fun e w' h1=>?_
  split at h1
  ·exact hr _ _ h1
  ·exact h1.elim
 ·exact h.elim
theorem CallFOk.ofCallC {p:Prim}
  (h:∀ args h v h',p args h = some (v,h') → h' = h ∧ args.all AV.plain = true ∧ v.plain = true ∧ ∃ callf,CallOk P callf ∧ callf f args [] = some (v,[])):CallFOk P f p:=by
 intro args hp v h' hs
 obtain ⟨rfl,hpa,hpv,callf,hcall,hc⟩:=h args hp v h' hs
 refine ⟨Nat.le_refl _,fun K HF V w vargs hargs hk=>?_⟩
 obtain ⟨_,h2⟩:=hcall f args [] _ _ hc
 obtain ⟨ow,hok⟩:=hk.ok
 let K2:KW:={ base:=.all w,imm:=K.imm,blk:=fun _=>none,key:=fun _=>none,row:=fun _ _=>none }
 have hfit:Fit K2 [] (fun _=>none) (fun _=>True) w :=
  { ok:=⟨fun _=>none,{ imm:=hok.imm,below:=BelowB.refl _,box:=fun id e cs ver h=>by simp [comb] at h,tip:=fun id e n sz h=>by simp [comb] at h,more:=fun id e n sz h=>by simp [comb] at h,fresh:=fun id _=>⟨by simp [comb],rfl,fun _=>rfl,fun _ _=>rfl⟩,ver:=fun id e cs ver h=>by simp [comb] at h,own:=(by intro b k h; cases h),fr:=fun id o h=>by simp [comb] at h,freshr:=fun _ _ _=>rfl }⟩
    hf:=by intro i o h; cases h
    vlen:=fun _ _=>trivial }
 have h3:=h2 K2 (fun _=>none) (fun _=>True) w vargs (QgF (K:=K) (K':=K2) (fun _ _ h=>h) hargs hpa) hfit
 refine CallGives.mono h3 fun u w' hr=>?_
 obtain ⟨K',e1,e2,e3⟩:=hr
 obtain ⟨ow',hok'⟩:=e3.ok
 have hbel:Below w.heap.size w w':=by have:=hok'.below; rw [e1.base] at this; exact this.below
 have hsame:∀ b k,ow b = some k → w'.heap[b]? = w.heap[b]?:=fun b k hb=>hbel.block b (hok.own b k hb)
 have hext:Kext K { K with imm:=K'.imm }:=⟨rfl,e1.imm,fun _ _ h=>h,fun _ _ h=>h,fun a ha=>e1.old a (Nat.lt_of_lt_of_le (K.base.lt _ ha) hok.below.size),fun _ _ _ h=>h⟩
 have hk1:OkW K (comb h' HF) V w' ow:=hok.world (hok.below.trans (.inl hbel)) hbel.size hsame fun a c ha=>hok'.imm a c (e1.imm a c ha)
 have hk2:=hk1.tell hext hok'.imm fun b k hb off sp=>e1.old _ (hok.own b k hb)
 refine ⟨_,hext,Q57 (K:=K') (K':={ K with imm:=K'.imm }) (fun _ _ h=>h) e2 hpv,⟨ow,hk2.virgin fun i hi=>hi.1⟩,hk.hf,fun i hi=>⟨hk.vlen i hi,(by intro e; cases e),Or.inr hi⟩⟩
end
end Go.Proofs.YtfdcjngclelnhaaGreat
namespace Go.Proofs.YtfdcjngclelnhaaGreat
open Go Go.RowKit
variable [mode:Inhabited ModeT]
def cnd {Z:Type} (b:Bool) (t f:Z):Z:=match b with | true=>t | false=>f
def bnd {α Z:Type} (z:Z) (o:Option α) (K:α → Z):Z:=match o with | none=>z | some a=>K a
abbrev Kv:=AV → Heap → Prop
abbrev PrimK:=List AV → Heap → Kv → Prop
noncomputable def nthA (l:List AV):Nat → AV:=List.rec (fun _=>undefA) (fun a _ ih i=>Nat.rec a (fun j _=>ih j) i) l
noncomputable def setN (l:List AV):Nat → AV → List AV:=List.rec (fun _ _=>[]) (fun a r ih i v=>Nat.rec (v :: r) (fun j _=>a :: ih j v) i) l
def live?:AV → Option AV
 | .any=>none
 | v=>some v
noncomputable def evX (ts:List AV):Operand → Option AV
 | .tmp t=>live? (nthA ts t)
 | .const v=>cstV v
 | .global _=>none
 | .func f=>some (.func (.func f) [] [])
noncomputable def evL (ts:List AV):List Operand → Option (List AV)
 | []=>some []
 | x :: r=>match evX ts x with
  | some a=>(evL ts r).map (a :: ·)
  | none=>none
noncomputable def evP (ts:List AV):List (Nat × Operand) → Option (List (Nat × AV))
 | []=>some []
 | (i,x) :: r=>match evX ts x with
  | some a=>(evP ts r).map ((i,a) :: ·)
  | none=>none
def asI (k:IntKind):D → Option Int
 | .int k' n=>if k' = k then some n else none
 | _=>none
def asS:D → Option (List UInt8)
 | .str s=>some s
 | _=>none
def asB:D → Option Bool
 | .bool b=>some b
 | _=>none
def asL:D → Option (List D)
 | .nils=>some []
 | .slice es=>some es
 | _=>none
inductive CTy where
 | i (k:IntKind)
 | s
 | b
 | o
noncomputable def ctys (P:Program) (n:Nat):TypeId → List CTy:=Nat.rec (fun _=>[]) (fun _ ih t=>match P.underlying t with
 | some (.int k)=>[.i k]
 | some .string=>[.s]
 | some .bool=>[.b]
 | some (.struct fs)=>fs.toList.flatMap fun f=>ih f.type
 | some (.array len e)=>(List.replicate len (ih e)).flatten
 | some _=>[.o]
 | none=>[]) n
def okD:CTy → D → Bool
 | .i k,.int k' _=>k' == k
 | .s,.str _=>true
 | .b,.bool _=>true
 | .o,d=>d.flat
 | _,_=>false
def okC:List CTy → List D → Bool
 | [],[]=>true
 | c :: r,d :: q=>okD c d && okC r q
 | _,_=>false
noncomputable def okT (P:Program) (t:TypeId) (d:D):Bool:=match d with
 | .agg ds=>okC (ctys P 8 t) ds
 | _=>false
def cel (d:D) (i:Nat):D:=d.cells.getD i (.bool false)
def cI (d:D) (i:Nat):Int:=match cel d i with | .int _ n=>n | _=>0
def cS (d:D) (i:Nat):List UInt8:=match cel d i with | .str s=>s | _=>[]
def cB (d:D) (i:Nat):Bool:=match cel d i with | .bool b=>b | _=>false
noncomputable def expC (l:List CTy) (d:D):Nat → List D:=List.rec (fun _=>[]) (fun c _ ih i=>(match c with
 | .i k=>.int k (cI d i)
 | .s=>.str (cS d i)
 | .b=>.bool (cB d i)
 | .o=>cel d i) :: ih (i + 1)) l
noncomputable def cells (P:Program) (t:TypeId) (d:D):List D:=expC (ctys P 8 t) d 0
noncomputable def castK {Z:Type} (z:Z) (P:Program) (t:TypeId) (d:D) (K:AV → Z):Z :=
 match P.underlying t with
 | some (.int k)=>bnd z (asI k d) fun n=>K (.dat (.int k n))
 | some .string=>bnd z (asS d) fun s=>K (.dat (.str s))
 | some .bool=>bnd z (asB d) fun b=>K (.dat (.bool b))
 | some (.struct _)=>cnd (okT P t d) (K (.dat (.agg (cells P t d)))) z
 | some (.array _ _)=>cnd (okT P t d) (K (.dat (.agg (cells P t d)))) z
 | some _=>K (.dat d)
 | none=>z
def cells1:AV → List D
 | .dat d=>[d]
 | _=>[]
def dflt (o:Option (AV × Heap)) (K:Kv):Prop:=bnd False o fun r=>K r.1 r.2
noncomputable def binK (P:Program) (op:BinOp) (t:TypeId) (x y:AV) (h:Heap) (K:Kv):Prop :=
 match x,y with
 | .dat (.int k a),.dat (.int k' b)=>match op with
  | .quo=>if k = k' then cnd (b == 0) False (K (.dat (.int k (k.wrap (a.tdiv b)))) h) else False
  | .rem=>if k = k' then cnd (b == 0) False (K (.dat (.int k (a.tmod b))) h) else False
  | .shl=>cnd (decide (b < 0)) False (K (.dat (.int k (k.wrap (a * 2 ^ (min b.toNat k.bits))))) h)
  | .shr=>cnd (decide (b < 0)) False (K (.dat (.int k (a.fdiv (2 ^ (min b.toNat k.bits))))) h)
  | _=>dflt (keep h (binA P op t x y)) K
 | .dat (.str a),.dat (.str b)=>match op with
  | .add=>cnd (decide (a.length + b.length ≤ 9223372036854775807)) (K (.dat (.str (a ++ b))) h) False
  | _=>dflt (keep h (binA P op t x y)) K
 | .any,_=>False
 | _,.any=>False
 | _,_=>match op with
  | .eql=>bnd False (eqA P t x y) fun b=>K (.dat (.bool b)) h
  | .neq=>bnd False (eqA P t x y) fun b=>K (.dat (.bool (!b))) h
  | _=>False
def elemsK:AV → Option (List D)
 | .dat d=>asL d
 | .own _ es=>some es
 | _=>none
def atD (es:List D) (i:Int):Option D:=if i < 0 then none else es[i.toNat]?
noncomputable def indexAddrK (P:Program) (t:TypeId) (x i:AV) (h:Heap) (K:Kv):Prop :=
 match i with
 | .dat (.int _ i)=>match P.underlying t with
  | some (.slice elem)=>match x with
   | .row _ _ _ _ _=>dflt (keep h (indexAddrA P t x (.dat (.int .i64 i)))) K
   | x=>match sizeA P elem with
    | some n=>bnd False (elemsK x) fun es=>bnd False (atD es i) fun e=>match isAggA P elem with
     | some true=>cnd (okT P elem e) (let cs:=cells P elem e; if cs.length = n then K (.ep cs 0) h else False) False
     | some false=>if n = 1 then cnd e.flat (castK False P elem e fun v=>K (.ep (cells1 v) 0) h) False else False
     | none=>False
    | none=>False
  | _=>dflt (keep h (indexAddrA P t x (.dat (.int .i64 i)))) K
 | _=>False
noncomputable def indexK (P:Program) (t:TypeId) (x i:AV) (h:Heap) (K:Kv):Prop :=
 match i with
 | .dat (.int _ i)=>match P.underlying t,x with
  | some .string,.dat (.str s)=>cnd (decide (i < 0)) False (bnd False s[i.toNat]? fun b=>K (.dat (.int .u8 b.toNat)) h)
  | some (.array len elem),.dat (.agg ds)=>match sizeA P elem,isAggA P elem with
   | some n,some false=>cnd (decide (0 ≤ i) && decide (i < len)) (bnd False ds[i.toNat * n]? fun d=>castK False P elem d fun v=>K v h) False
   | _,_=>dflt (keep h (indexA P t x (.dat (.int .i64 i)))) K
  | _,_=>dflt (keep h (indexA P t x (.dat (.int .i64 i)))) K
 | _=>False
noncomputable def boundK (ts:List AV) (o:Option Operand) (dflt top:Nat) (K:Nat → Prop):Prop :=
 match o with
 | none=>K dflt
 | some x=>match evX ts x with
  | some (.dat (.int _ i))=>cnd (decide (0 ≤ i) && decide (i ≤ top)) (K i.toNat) False
  | _=>False
noncomputable def sliceK (P:Program) (t:TypeId) (x:AV) (lo hi mx:Option Operand) (ts:List AV) (h:Heap) (K:Kv):Prop :=
 match P.underlying t,x,mx with
 | some .string,.dat (.str s),none=>boundK ts hi s.length s.length fun b=>boundK ts lo 0 b fun a=>K (.dat (.str ((s.drop a).take (b - a)))) h
 | some (.slice elem),.dat (.slice es),none=>match sizeA P elem with
  | some n=>cnd (sized n es) (boundK ts hi es.length es.length fun b=>boundK ts lo 0 b fun a=>K (.dat (.slice ((es.drop a).take (b - a)))) h) False
  | none=>False
 | _,_,_=>dflt (keep h (sliceA P t x lo hi mx ts)) K
noncomputable def lenK (P:Program) (t:TypeId) (x:AV) (h:Heap) (K:Kv):Prop :=
 match P.underlying t,x with
 | some (.slice _),.dat d=>bnd False (asL d) fun es=>K (.dat (.int .i64 es.length)) h
 | _,x=>dflt ((lenA P t x).map fun v=>(v,h)) K
def flatK (v:AV) (Z:Prop):Prop :=
 match v with
 | .dat d=>cnd d.flat Z False
 | .agg _=>False
 | .tuple _=>False
 | _=>Z
def flatsK:List AV → Prop → Prop
 | [],Z=>Z
 | v :: r,Z=>flatK v (flatsK r Z)
def fitsK (sz:Nat) (agg:Bool):List D → Prop → Prop
 | [],Z=>Z
 | d :: r,Z=>match agg with
  | true=>match d with
   | .agg cs=>if cs.length = sz then flatsK (cs.map .dat) (fitsK sz agg r Z) else False
   | _=>False
  | false=>if sz = 1 then cnd d.flat (fitsK sz agg r Z) False else False
noncomputable def moreK (sz:Nat) (agg:Bool) (x:AV) (K:List D → Prop):Prop :=
 match x with
 | .dat (.str s)=>if sz = 1 then K (s.map fun b=>.int .u8 b.toNat) else False
 | .dat d=>bnd False (asL d) fun es=>cnd (es.all (fitsD sz)) (K es) False
 | .own _ es=>fitsK sz agg es (K es)
 | _=>False
def appendT (place:Option Nat) (h:Heap) (elem:TypeId) (info:TypeInfo) (s:AV) (xs:List D):Option (AV × Heap) :=
 if xs.isEmpty then (match elems s with | some _ => some (s, h) | none => none) else
               match s with
               | .own (.tip id) es=>match h[id]? with
                | some (some (.tip e n sz)) =>
                 if n = es.length ∧ e = elem ∧ sz = info.size ∧ roomOk (n + xs.length) info.bytes = true then some (.own (.tip id) (es ++ xs),h.set id (some (.tip e (n + xs.length) sz))) else none
                | _=>none
               | .own (.at b off v e) es=>match h[b]? with
                | some (some (.cells be cs ver))=>match cs[off]? with
                 | some (.own (.at b' off' v' e') es') =>
                  if b' = b ∧ off' = off ∧ v' = v ∧ e' = e ∧ e = elem ∧ es'.length = es.length ∧ es.length ≠ 0 ∧ sized info.size es = true ∧ roomOk (es.length + xs.length) info.bytes = true then
                   match allocObj place (h.set b (some (.cells be (cs.set off (.dat (.slice es'))) ver))) (.tip elem (es.length + xs.length) info.size) with
                   | some (id,h')=>some (.own (.tip id) (es ++ xs),h')
                   | none=>none
                  else none
                 | _=>none
                | _=>none
               | .own .full es =>
                if sized info.size es = true ∧ roomOk (es.length + xs.length) info.bytes = true then
                 match allocObj place h (.tip elem (es.length + xs.length) info.size) with
                 | some (id,h')=>some (.own (.tip id) (es ++ xs),h')
                 | none=>none
                else none
               | .dat .nils =>
                if roomOk xs.length info.bytes = true then
                 match allocObj place h (.tip elem xs.length info.size) with
                 | some (id,h')=>some (.own (.tip id) xs,h')
                 | none=>none
                else none
               | _=>none
def intoFreeK (P:Program) (ts:List TypeId) (s:AV):Bool :=
 match (match ts with | t :: _=>freeSlice P t | _=>false) with
 | false=>(match s with | .row _ _ _ _ _=>true | _=>false)
 | true=>intoFree P ts s
noncomputable def appendK (P:Program) (ts:List TypeId) (place:Option Nat) (s x:AV) (h:Heap) (K:Kv):Prop :=
 match intoFreeK P ts s with
 | true=>dflt (appendA P ts place s x h) K
 | false =>
 match ts with
 | sType :: xType :: _=>match P.underlying sType,P.underlying xType with
  | some (.slice elem),some xd=>match (match xd with | .int _=>true | _=>false),P.info? elem,isAggA P elem with
   | false,some info,some agg=>if info.size = 0 ∨ info.zero.map (fun v=>v.cells.size) ≠ some info.size then False else
    moreK info.size agg x fun xs =>
     cnd xs.isEmpty (match elems s with | some _=>K s h | none=>False)
     (match s with
     | .own (.tip id) es=>match h[id]? with
      | some (some (.tip e n sz))=>if e = elem ∧ sz = info.size then
        cnd (n == es.length) (cnd (roomOk (n + xs.length) info.bytes) (K (.own (.tip id) (es ++ xs)) (h.set id (some (.tip e (n + xs.length) sz)))) False) False else False
      | _=>False
     | .own .full es=>cnd (sized info.size es) (cnd (roomOk (es.length + xs.length) info.bytes)
       (match allocObj place h (.tip elem (es.length + xs.length) info.size) with
       | some (id,h')=>K (.own (.tip id) (es ++ xs)) h'
       | none=>False) False) False
     | .dat .nils=>cnd (roomOk xs.length info.bytes)
       (match allocObj place h (.tip elem xs.length info.size) with
       | some (id,h')=>K (.own (.tip id) xs) h'
       | none=>False) False
     | .own (.at b off v e) es=>match h[b]? with
      | some (some (.cells be cs ver))=>match cs[off]? with
       | some (.own (.at b' off' v' e') es')=>if b' = b ∧ off' = off ∧ e' = e ∧ e = elem then
         cnd (Nat.beq v' v) (cnd (Nat.beq es'.length es.length) (cnd es.isEmpty False (cnd (sized info.size es) (cnd (roomOk (es.length + xs.length) info.bytes)
          (match allocObj place (h.set b (some (.cells be (cs.set off (.dat (.slice es'))) ver))) (.tip elem (es.length + xs.length) info.size) with
          | some (id,h')=>K (.own (.tip id) (es ++ xs)) h'
          | none=>False) False) False)) False) False else False
       | _=>False
      | _=>False
     | s=>dflt (appendT place h elem info s xs) K)
   | _,_,_=>False
  | _,_=>False
 | _=>False
noncomputable def convK (P:Program) (src dst:TypeId) (x:AV) (h:Heap) (K:Kv):Prop :=
 match P.underlying src,P.underlying dst,x with
 | some (.slice e),some .string,.dat d=>match P.underlying e with
  | some (.int .u8)=>bnd False (asL d) fun es=>bnd False (bytesOf es) fun s=>K (.dat (.str s)) h
  | _=>False
 | some (.slice e),some .string,.own _ es=>match P.underlying e with
  | some (.int .u8)=>bnd False (bytesOf es) fun s=>K (.dat (.str s)) h
  | _=>False
 | _,_,.ptr o=>dflt (keep h (convPtr P src dst (.ptr o) h)) K
 | _,_,x=>dflt (keep h (convA P src dst x)) K
def cellsK (n:Nat) (agg:Bool) (v:AV) (K:List AV → Prop):Prop :=
 match agg with
 | true=>match v with
  | .dat (.agg ds)=>if ds.length = n then K (ds.map .dat) else False
  | .agg cs=>if cs.length = n then K cs else False
  | _=>False
 | false=>if n = 1 then flatK v (K [v]) else False
noncomputable def fillK (place:Nat → Option (Nat × Nat × Bool)) (cs:List AV):List (Nat × AV) → (List AV → Prop) → Prop
 | [],K=>K cs
 | (i,v) :: rest,K=>match place i with
  | none=>False
  | some (off,size,agg)=>cellsK size agg v fun vs=>if off + size ≤ cs.length then fillK place (spliceL cs off vs) rest K else False
def fieldPl (P:Program):List Field → Option (List (Nat × Nat × Bool))
 | []=>some []
 | f :: r=>match sizeA P f.type,isAggA P f.type with
  | some n,some a=>(fieldPl P r).map ((f.offset,n,a) :: ·)
  | _,_=>none
noncomputable def buildK (P:Program) (t:TypeId) (parts:List (Nat × AV)) (h:Heap) (K:Kv):Prop :=
 match zeroA P t,P.underlying t with
 | some z,some (.struct fields)=>match fieldPl P fields.toList with
  | some pl=>fillK (fun i=>pl[i]?) z.cells parts fun cs=>K (mkAgg cs) h
  | none=>False
 | some z,some (.array _ elem)=>match sizeA P elem,isAggA P elem with
  | some n,some a=>fillK (fun i=>some (i * n,n,a)) z.cells parts fun cs=>K (mkAgg cs) h
  | _,_=>False
 | _,_=>False
noncomputable def fillSK (sz:Nat) (agg:Bool) (es:List D):List (Nat × AV) → (List D → Prop) → Prop
 | [],K=>K es
 | (i,v) :: rest,K=>match v.toD with
  | some d=>cellsK sz agg (.dat d) fun _=>if i < es.length then fillSK sz agg (es.set i d) rest K else False
  | none=>False
noncomputable def buildSliceK (P:Program) (t:TypeId) (len:Nat) (parts:List (Nat × AV)) (h:Heap) (K:Kv):Prop :=
 match P.underlying t with
 | some (.slice elem)=>match sizeA P elem,zeroA P elem,isAggA P elem with
  | some n,some z,some a=>match z.toD with
   | some zd=>if len * n ≤ 2 ^ 24 ∧ zd.cells.length = n ∧ n ≠ 0 then fillSK n a (List.replicate len zd) parts fun es=>K (.own .full es) h else False
   | none=>False
  | _,_,_=>False
 | _=>False
def settleK1 (h:Heap) (id off ver:Nat) (old:Option AV) (v:AV) (K:AV → Heap → Prop):Prop :=
 match v with
 | .own (.tip i) es=>match h[i]? with
  | some (some (.tip e n _))=>if i ≠ id then cnd (Nat.beq n es.length) (K (.own (.at id off ver e) es) (h.set i none)) False else K (.dat (.slice es)) h
  | _=>K (.dat (.slice es)) h
 | .own (.at i o v e) es=>match old with
  | some (.own (.at i' o' v' e') es')=>if i = id ∧ o = off ∧ i' = id ∧ o' = off ∧ e = e' then cnd (Nat.beq v v' && Nat.beq es.length es'.length) (K (.own (.at i o v e) es) h) False else K (.dat (.slice es)) h
  | _=>K (.dat (.slice es)) h
 | v=>K v h
def settleK (id:Nat) (cs:List AV):Nat → Nat → Heap → List AV → (List AV → Heap → Prop) → Prop
 | _,_,h,[],K=>K [] h
 | off,ver,h,v :: r,K=>settleK1 h id off ver cs[off]? v fun v' h'=>settleK id cs (off + 1) (ver + 1) h' r fun r' h''=>K (v' :: r') h''
noncomputable def storeK (P:Program) (t:TypeId) (x v:AV) (h:Heap) (K:Kv):Prop :=
 match x,sizeA P t,isAggA P t with
 | .ptr (some (id,off)),some n,some a=>match h[id]? with
  | some (some (.cells e cs ver))=>cellsK n a v fun vs=>flatsK vs (if off + n ≤ cs.length then
    settleK id cs off ver h vs fun ws h'=>if undersL (id + 1) ws = true then K undefA (h'.set id (some (.cells e (spliceL cs off ws) (ver + n)))) else False else False)
  | _=>False
 | x,_,_=>dflt ((storeA P t x v h).map fun h'=>(undefA,h')) K
noncomputable def newVarK (P:Program) (place:Option Nat) (h:Heap) (t:TypeId) (v:AV) (K:Kv):Prop :=
 match sizeA P t,isAggA P t with
 | some n,some a=>cellsK n a v fun vs=>dflt (newVarA place h t vs) K
 | _,_=>False
noncomputable def unsafeStringK (P:Program) (pt:TypeId) (p n:AV) (h:Heap) (K:Kv):Prop :=
 match p,n with
 | .sdata b off v e es,.dat (.int _ n)=>cnd (decide (n < 0)) False (cnd (n == 0) (K (.dat (.str [])) h) (match h[b]?,P.underlying pt with
  | some (some (.cells _ cs _)),some (.pointer u)=>(match cs[off]? with
   | some (.own (.at b' off' v' e') es')=>cnd (Nat.beq b' b && Nat.beq off' off && Nat.beq v' v && Nat.beq e' e && Nat.beq es'.length es.length && Nat.beq (P.cellsOf e) 1 && decide (n.toNat ≤ es.length) && sameLayout P P.depth e u && decide (n ≤ 9223372036854775807)) (bnd False (bytesOf (es.take n.toNat)) fun s=>K (.dat (.str s)) h) False
   | _=>False)
  | _,_=>False))
 | p,n=>dflt (keep h (unsafeStringA P pt p n h)) K
abbrev CallK:=FuncId → Option PrimK
noncomputable def callK (P:Program) (ck:CallK) (place:Option Nat) (c:Call) (ts:List AV) (h:Heap) (K:Kv):Prop :=
 match evL ts c.args.toList with
 | none=>False
 | some args=>match c.callee with
  | .builtin b=>match b,c.argTypes.toList,args with
   | .len,t :: _,x :: _=>lenK P t x h K
   | .append,tl,s :: x :: _=>appendK P tl place s x h K
   | .unsafeSliceData,_,[.own (.at b off v e') es]=>cnd es.isEmpty False (K (.sdata b off v e' es) h)
   | .unsafeString,pt :: _,[p,n]=>unsafeStringK P pt p n h K
   | b,tl,args=>dflt (builtinA P b tl place args h) K
  | .value x=>match evX ts x with
   | some (.func (.func f) first captured)=>match ck f with
    | some p=>p (first ++ args ++ captured) h K
    | none=>False
   | _=>False
  | .invoke _ _=>False
noncomputable def stepK (P:Program) (ck:CallK) (place:Option Nat) (op:Op) (ts:List AV) (h:Heap) (K:Kv):Prop :=
 match op with
 | .move x | .assign x=>bnd False (evX ts x) fun v=>K v h
 | .pick c a b=>match evX ts c with
  | some (.dat (.bool t))=>cnd t (bnd False (evX ts a) fun v=>K v h) (bnd False (evX ts b) fun v=>K v h)
  | _=>False
 | .alloc t=>match zeroA P t with
  | some z=>dflt (newVarA place h t z.cells) K
  | none=>False
 | .box t x=>match evX ts x with
  | some v=>newVarK P place h t v K
  | none=>False
 | .build t parts=>match evP ts parts.toList with
  | some ps=>buildK P t ps h K
  | none=>False
 | .buildSlice t len parts=>match evP ts parts.toList with
  | some ps=>if freeSlice P t then dflt (buildSliceF P place h t len ps) K else buildSliceK P t len ps h K
  | none=>False
 | .load t x=>match evX ts x with
  | some p=>bnd False (loadA P t p h) fun v=>K v h
  | none=>False
 | .store t x y=>match evX ts x,evX ts y with
  | some p,some v=>storeK P t p v h K
  | _,_=>False
 | .nilCheck x=>match evX ts x with
  | some v=>bnd False (nilCheckA v) fun v=>K v h
  | none=>False
 | .binOp op t x y _=>match evX ts x,evX ts y with
  | some a,some b=>binK P op t a b h K
  | _,_=>False
 | .unOp op _ x=>match evX ts x with
  | some a=>bnd False (unA op a) fun v=>K v h
  | none=>False
 | .convert s d x=>match evX ts x with
  | some a=>convK P s d a h K
  | none=>False
 | .makeFunc fn first captured=>match evL ts first.toList,evL ts captured.toList with
  | some a,some c=>K (.func fn a c) h
  | _,_=>False
 | .slice t x lo hi mx=>match evX ts x with
  | some a=>sliceK P t a lo hi mx ts h K
  | none=>False
 | .fieldAddr t x f=>match evX ts x with
  | some a=>bnd False (fieldAddrA P t a f) fun v=>K v h
  | none=>False
 | .field t x f=>match evX ts x with
  | some a=>bnd False (fieldA P t a f) fun v=>K v h
  | none=>False
 | .indexAddr t x i=>match evX ts x,evX ts i with
  | some a,some b=>indexAddrK P t a b h K
  | _,_=>False
 | .index t x i=>match evX ts x,evX ts i with
  | some a,some b=>indexK P t a b h K
  | _,_=>False
 | .extract x i=>match evX ts x with
  | some (.tuple vs)=>bnd False vs[i]? fun v=>K v h
  | _=>False
 | .call c=>callK P ck place c ts h K
 | .makeMap t reserve=>dflt (stepOp P (fun _ _ _=>none) place (.makeMap t reserve) ts h) K
 | .makeSlice t len cap=>match evX ts len,evX ts cap with
  | some l,some c=>dflt (makeSliceA P place h t l c) K
  | _,_=>False
 | .lookup t x i commaOk=>match evX ts x,evX ts i with
  | some a,some b=>bnd False (lookupA P t a b commaOk h) fun v=>K v h
  | _,_=>False
 | .mapUpdate t x i v=>match evX ts x,evX ts i,evX ts v with
  | some a,some b,some c=>dflt ((mapUpdateA P t a b c h).map fun h'=>(undefA,h')) K
  | _,_,_=>False
 | .range t x=>match evX ts x with
  | some a=>dflt (rangeA P place t a h) K
  | none=>False
 | .next it isS=>match evX ts it with
  | some a=>dflt (nextA a isS h) K
  | none=>False
 | _=>False
noncomputable def wantK (ops:Array Oper) (o:Oper) (ts:List AV) (K:Bool → List AV → Prop):Prop :=
 match o.guard with
 | none=>K true ts
 | some (j,want)=>match (ops[j]?).bind (·.dst) with
  | some d=>match ts[d]? with
   | some (.dat (.bool b))=>match b with
    | true=>K (true == want) (setN ts d (.dat (.bool true)))
    | false=>K (false == want) (setN ts d (.dat (.bool false)))
   | some (.tuple _)=>K false ts
   | _=>False
  | none=>False
noncomputable def putN (ts:List AV) (dst:Option Tmp) (v:AV):List AV :=
 match dst with
 | some d=>setN ts d v
 | none=>ts
noncomputable def regTK (P:Program) (ck:CallK) (ops:Array Oper):List Oper → List AV → Heap → (List AV → Heap → Prop) → Prop
 | [],ts,h,K=>K ts h
 | o :: r,ts,h,K=>wantK ops o ts fun w ts=>match w with
  | true=>stepK P ck none o.op ts h fun v h=>regTK P ck ops r (putN ts o.dst v) h K
  | false=>regTK P ck ops r (putN ts o.dst undefA) h K
noncomputable def footK (op:Op) (ts:List AV) (h:Heap):Option (List Nat) :=
 match op with
 | .load _ x=>(evX ts x).map AV.ids
 | .store _ x y=>match evX ts x,evX ts y with
  | some a,some b=>some (a.ids ++ b.ids)
  | _,_=>none
 | .convert _ _ x=>(evX ts x).map AV.ids
 | .lookup _ x _ _=>(evX ts x).map AV.ids
 | .mapUpdate _ x _ v=>match evX ts x,evX ts v with
  | some a,some b=>some (a.ids ++ b.ids)
  | _,_=>none
 | .range _ x=>(evX ts x).map AV.ids
 | .next x _=>(evX ts x).map fun a=>reachA h (h.length * h.length + 100) a.ids []
 | .call c=>match c.callee with
  | .builtin _=>(evL ts c.args.toList).map idsL
  | _=>(evL ts (Op.call c).operands.toList).map fun vs=>reachA h (h.length * h.length + 100) (idsL vs) []
 | _=>some []
noncomputable def footOfK (o:Oper) (w:Bool) (ts:List AV) (h:Heap):Option (List Nat):=match w with | true=>footK o.op ts h | false=>some []
noncomputable def regDK (P:Program) (ck:CallK) (ops:Array Oper) (N:Nat):List Oper → Nat → List Nat → List Done → List AV → Heap → (List AV → Heap → Prop) → Prop
 | [],_,_,_,ts,h,K=>K ts h
 | o :: r,at_,masks,done,ts,h,K=>wantK ops o ts fun w ts =>
  match footOfK o w ts h with
  | none=>False
  | some F0 => match leaveN o.op with
   | _ + 1=>False
   | 0 =>
    let p:=placeOf o.op w at_
    let F:=p.toList ++ F0
    let hr:=restrictA F 0 h
    let K':Kv:=fun v h' =>
     let d:Done:=⟨readsOf ops o,o.dst,F,writesIn o.op F hr h'⟩
     if h'.length = N ∧ holesA F 0 h' = true ∧ checkOne (masks.headD 0) d 0 done = true ∧ edgesA o done.length = true then
      regDK P ck ops N r (nextAt o.op at_) masks.tail (done ++ [d]) (putN ts o.dst v) (setIds h h' d.writes) K
     else False
    match w with
    | true=>stepK P ck p o.op ts hr K'
    | false=>K' undefA hr
noncomputable def regK (P:Program) (ck:CallK) (ops:Array Oper) (draw:Bool) (ts:List AV) (h:Heap) (K:List AV → Heap → Prop):Prop :=
 match draw with
 | false=>regTK P ck ops ops.toList ts h K
 | true =>
  let h':=h ++ List.replicate (countBoxes ops.toList) none
  regDK P ck ops h'.length ops.toList h.length (masksA ops.toList []) [] ts h' K
abbrev Pth:=List Nat
def subR (body:Code):Pth → Code
 | []=>body
 | i :: r=>match subR body r with
  | .seq a b=>match i with | 0=>a | _=>b
  | .cond _ a b=>match i with | 0=>a | _=>b
  | .block _ b=>b
  | .loop b=>b
  | .scope b=>b
  | c=>c
def labelAt:Code → Nat → Pth → Option Pth
 | .seq a b,l,p=>match a with
  | .label l'=>if l' == l then some (1 :: p) else labelAt b l (1 :: p)
  | a=>match findLabel a l with
   | none=>labelAt b l (1 :: p)
   | some _=>none
 | _,_,_=>none
inductive Ctl where
 | «at» (p:Pth)
 | on (p:Pth)
 | out (e:Ex) (p:Pth)
structure Hook where
 dead:List Nat
 base:Nat
 dull:Bool
 go:List AV → Heap → Prop
def dullO:Option AObj → Option AObj
 | some (.cells e cs v)=>some (.cells e (cs.map sealC) v)
 | o=>o
def dullH (b:Bool) (h:Heap):Heap:=match b with | true=>h.map dullO | false=>h
noncomputable def killA:List Nat → List AV → List AV
 | [],ts=>ts
 | i :: r,ts=>killA r (setN ts i .any)
def trimOk (n:Nat) (ts:List AV) (h:Heap):Bool:=Nat.ble n h.length && (undersL n ts && (h.take n).all (limOk n))
noncomputable def trimN (ts:List AV) (h:Heap) (f:Nat):Nat → Nat:=Nat.rec (fun n=>n) (fun _ ih n=>match trimOk n ts h with | true=>n | false=>ih (n + 1)) f
noncomputable def Hook.run (k:Hook) (ts:List AV) (h:Heap):Prop :=
 let ts':=killA k.dead ts
 let h:=dullH k.dull h
 let n:=trimN ts' h (h.length - k.base) k.base
 match trimOk n ts' h with
 | true=>k.go ts' (h.take n)
 | false=>k.go ts' h
def peq:Pth → Pth → Bool
 | [],[]=>true
 | i :: p,j :: q=>match Nat.beq i j with | true=>peq p q | false=>false
 | _,_=>false
def hkT:List (Pth × Hook) → Pth → Option Hook
 | [],_=>none
 | (q,k) :: r,p=>match peq p q with | true=>some k | false=>hkT r p
def fnIds:List AV → List Nat
 | []=>[]
 | .func (.func g) _ _ :: r=>g :: fnIds r
 | _ :: r=>fnIds r
def selK:List (List Nat × PrimK) → List Nat → PrimK
 | [],_=>fun _ _ _=>False
 | (k,p) :: r,q=>match peq k q with | true=>p | false=>selK r q
def tab (l:List (List Nat × PrimK)):CallK:=fun f=>some fun args h K=>selK l (f :: fnIds args) args h K
def ptrK {Z:Type} (z:Z) (h:Heap) (i t:Nat) (K:Nat → Nat → Z):Z :=
 match h[i]? with
 | some (some (.cells e [.ptr (some (a,0))] v))=>match Nat.beq e t with
  | true=>K a v
  | false=>z
 | _=>z
noncomputable def mkT (n:Nat) (l:List (Nat × AV)):List AV:=List.rec (List.replicate n .any) (fun x _ ih=>setN ih x.1 x.2) l
noncomputable def exec (P:Program) (ck:CallK) (body:Code) (hk:Pth → Option Hook) (fin:Ex → List AV → Heap → Prop) (n:Nat):Ctl → List AV → Heap → Prop :=
 Nat.rec (fun _ _ _=>False) (fun _ ih c ts h =>
  match c with
  | .at p=>match hk p with
   | some k=>k.run ts h
   | none=>ih (.on p) ts h
  | .on p=>match subR body p with
   | .skip=>ih (.out .normal p) ts h
   | .label _=>ih (.out .normal p) ts h
   | .region _ ops draw=>regK P ck ops draw ts h fun ts h=>ih (.out .normal p) ts h
   | .seq _ _=>ih (.at (0 :: p)) ts h
   | .cond (.tmp t) _ _=>match ts[t]? with
    | some (.dat (.bool b))=>match b with
     | true=>ih (.at (0 :: p)) (setN ts t (.dat (.bool true))) h
     | false=>ih (.at (1 :: p)) (setN ts t (.dat (.bool false))) h
    | _=>False
   | .cond x _ _=>match evX ts x with
    | some (.dat (.bool b))=>cnd b (ih (.at (0 :: p)) ts h) (ih (.at (1 :: p)) ts h)
    | _=>False
   | .block _ _=>ih (.at (0 :: p)) ts h
   | .loop _=>ih (.at (0 :: p)) ts h
   | .scope _=>ih (.at (0 :: p)) ts h
   | .exit id=>ih (.out (.exit id) p) ts h
   | .goto l=>ih (.out (.goto l) p) ts h
   | .ret=>ih (.out .ret p) ts h
   | _=>False
  | .out e []=>fin e ts h
  | .out e (i :: p)=>match subR body p with
   | .seq _ _=>match i,e with
    | 0,.normal=>ih (.at (1 :: p)) ts h
    | _,e=>ih (.out e p) ts h
   | .cond _ _ _=>ih (.out e p) ts h
   | .block id _=>match e with
    | .exit j=>if j = id then ih (.out .normal p) ts h else ih (.out (.exit j) p) ts h
    | e=>ih (.out e p) ts h
   | .loop _=>match e with
    | .normal=>ih (.at p) ts h
    | e=>ih (.out e p) ts h
   | .scope b=>match e with
    | .goto l=>match labelAt b l (0 :: p) with
     | some q=>ih (.at q) ts h
     | none=>False
    | e=>ih (.out e p) ts h
   | _=>False) n
def boxK {Z:Type} (z:Z) (h:Heap) (i:Nat) (t:TypeId) (K:List AV → Nat → Z):Z :=
 match h[i]? with
 | some (some (.cells e cs v))=>match Nat.beq e t with
  | true=>K (cs.map sealC) v
  | false=>z
 | _=>z
def sealB:Option AObj → Option AObj
 | some (.cells e cs _)=>some (.cells e (cs.map sealC) 0)
 | o=>o
noncomputable def resultK (P:Program) (ts:List AV) (h:Heap):ResultVar → Option AV
 | .tmp t=>live? (nthA ts t)
 | .cell a t=>(live? (nthA ts a)).bind fun x=>loadA P t x h
noncomputable def resultsK (P:Program) (ts:List AV) (h:Heap):List ResultVar → Option (List AV)
 | []=>some []
 | r :: l=>match resultK P ts h r with
  | some v=>(resultsK P ts h l).map (v :: ·)
  | none=>none
noncomputable def startT (fn:Func) (args:List AV):List AV:=args.map sealV ++ List.replicate (fn.ntmps - args.length) undefA
end Go.Proofs.YtfdcjngclelnhaaGreat
