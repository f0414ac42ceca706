/- Part of a proof. -/
import Derived.Test.YtfdcjngclelnhaaGreatA
import Derived.Below
set_option linter.unusedSectionVars false
set_option linter.unusedSimpArgs false
set_option linter.unusedVariables false
namespace Go.Proofs.YtfdcjngclelnhaaGreat
open Go Go.RowKit
abbrev Imm:=Addr → Option Value
inductive DenD (imm:Imm):D → Value → Prop where
 | bool (b:Bool):DenD imm (.bool b) (.bool b)
 | int (k:IntKind) (n:Int):DenD imm (.int k n) (.int k n)
 | str (s:List UInt8):DenD imm (.str s) (.string ⟨s.toArray⟩)
 | nils:DenD imm .nils (.slice none 0 0)
 | slice (es:List D) (a:Addr) (cap b o sz:Nat) (vs:List Value) (hcap:es.length ≤ cap) (ha:es ≠ [] → a = ⟨b,o,none⟩) (hsz:∀ e,e ∈ es → e.cells.length = sz)
   (hl:vs.length = (es.flatMap D.cells).length) (hv:∀ (j:Nat) (v:Value),vs[j]? = some v → imm ⟨b,o + j,none⟩ = some v)
   (h:∀ (j:Nat) (d:D) (v:Value),(es.flatMap D.cells)[j]? = some d → vs[j]? = some v → DenD imm d v):DenD imm (.slice es) (.slice (some a) es.length cap)
 | agg (cs:List D) (vs:Array Value) (hl:vs.toList.length = cs.length) (h:∀ (j:Nat) (d:D) (v:Value),cs[j]? = some d → vs.toList[j]? = some v → DenD imm d v):DenD imm (.agg cs) (.agg vs)
inductive DenDL (imm:Imm):List D → List Value → Prop where
 | nil:DenDL imm [] []
 | cons {d:D} {v:Value} {ds:List D} {vs:List Value}:DenD imm d v → DenDL imm ds vs → DenDL imm (d :: ds) (v :: vs)
theorem DenDL.of_index {imm:Imm}:∀ {ds:List D} {vs:List Value},vs.length = ds.length → (∀ (j:Nat) (d:D) (v:Value),ds[j]? = some d → vs[j]? = some v → DenD imm d v) → DenDL imm ds vs
 | [],[],_,_=>.nil
 | [],_ :: _,h,_=>by simp at h
 | _ :: _,[],h,_=>by simp at h
 | d :: ds,v :: vs,h,hi=>.cons (hi 0 d v rfl rfl) (DenDL.of_index (by simpa using h) fun j d' v' h1 h2=>hi (j + 1) d' v' (by simpa using h1) (by simpa using h2))
theorem DenDL.length {imm:Imm} {ds:List D} {vs:List Value} (h:DenDL imm ds vs):vs.length = ds.length:=by induction h <;> simp [*]
theorem DenDL.index {imm:Imm} {ds:List D} {vs:List Value} (h:DenDL imm ds vs):∀ (j:Nat) (d:D) (v:Value),ds[j]? = some d → vs[j]? = some v → DenD imm d v:=by
 induction h with
 | nil=>intro j d v h; simp at h
 | cons hd _ ih =>
  intro j d v h1 h2
  cases j with
  | zero=>simp at h1 h2; subst h1; subst h2; exact hd
  | succ j=>exact ih j d v (by simpa using h1) (by simpa using h2)
theorem DenDL.append {imm:Imm} {a b:List D} {v w:List Value} (h:DenDL imm a v) (k:DenDL imm b w):DenDL imm (a ++ b) (v ++ w):=by
 induction h with
 | nil=>simpa using k
 | cons hd _ ih=>exact .cons hd ih
theorem DenDL.drop {imm:Imm}:∀ (n:Nat) {a:List D} {v:List Value},DenDL imm a v → DenDL imm (a.drop n) (v.drop n)
 | 0,_,_,h=>by simpa using h
 | _ + 1,_,_,.nil=>by simpa using DenDL.nil
 | n + 1,_,_,.cons _ h=>by simpa using DenDL.drop n h
theorem DenDL.take {imm:Imm}:∀ (n:Nat) {a:List D} {v:List Value},DenDL imm a v → DenDL imm (a.take n) (v.take n)
 | 0,_,_,_=>by simpa using DenDL.nil
 | _ + 1,_,_,.nil=>by simpa using DenDL.nil
 | n + 1,_,_,.cons hd h=>by simpa using DenDL.cons hd (DenDL.take n h)
theorem DenD.mono {imm imm':Imm} (hi:∀ a v,imm a = some v → imm' a = some v) {d:D} {v:Value} (h:DenD imm d v):DenD imm' d v:=by
 induction h with
 | bool b=>exact .bool b
 | int k n=>exact .int k n
 | str s=>exact .str s
 | nils=>exact .nils
 | slice es a cap b o sz vs hcap ha hsz hl hv _ ih=>exact .slice es a cap b o sz vs hcap ha hsz hl (fun j v h=>hi _ _ (hv j v h)) ih
 | agg cs vs hl _ ih=>exact .agg cs vs hl ih
theorem DenDL.mono {imm imm':Imm} (hi:∀ a v,imm a = some v → imm' a = some v) {d:List D} {v:List Value} (h:DenDL imm d v):DenDL imm' d v:=by
 induction h with
 | nil=>exact .nil
 | cons hd _ ih=>exact .cons (hd.mono hi) ih
def Cells (imm:Imm) (b o sz:Nat) (es:List D):Prop :=
 (∀ e,e ∈ es → e.cells.length = sz) ∧ ∃ vs:List Value,DenDL imm (es.flatMap D.cells) vs ∧ ∀ (j:Nat) (v:Value),vs[j]? = some v → imm ⟨b,o + j,none⟩ = some v
theorem Cells.mono {imm imm':Imm} (hi:∀ a v,imm a = some v → imm' a = some v) {b o sz:Nat} {es:List D} (h:Cells imm b o sz es):Cells imm' b o sz es:=by
 obtain ⟨h1,vs,h2,h3⟩:=h
 exact ⟨h1,vs,h2.mono hi,fun j v hv=>hi _ _ (h3 j v hv)⟩
theorem QX {sz:Nat}:∀ {es:List D},(∀ e,e ∈ es → e.cells.length = sz) → (es.flatMap D.cells).length = es.length * sz
 | [],_=>by simp
 | e :: es,h=>by
  have h1:=h e (by simp)
  have h2:=QX (es:=es) fun x hx=>h x (by simp [hx])
  simp only [List.flatMap_cons,List.length_append,List.length_cons,h1,h2,Nat.succ_mul]; omega
theorem DenD.slice_cells {imm:Imm} {es:List D} {v:Value} (h:DenD imm (.slice es) v) :
  ∃ a cap b o sz,v = .slice (some a) es.length cap ∧ es.length ≤ cap ∧ (es ≠ [] → a = ⟨b,o,none⟩) ∧ Cells imm b o sz es:=by
 cases h with
 | slice _ a cap b o sz vs hcap ha hsz hl hv h=>exact ⟨a,cap,b,o,sz,rfl,hcap,ha,hsz,vs,DenDL.of_index hl h,hv⟩
theorem DenD.of_cells {imm:Imm} {es:List D} {a:Addr} {cap b o sz:Nat} (hcap:es.length ≤ cap) (ha:es ≠ [] → a = ⟨b,o,none⟩) (h:Cells imm b o sz es):DenD imm (.slice es) (.slice (some a) es.length cap):=by
 obtain ⟨h1,vs,h2,h3⟩:=h
 exact .slice es a cap b o sz vs hcap ha h1 h2.length h3 h2.index
theorem DenD.agg_list {imm:Imm} {cs:List D} {v:Value} (h:DenD imm (.agg cs) v):∃ vs,v = .agg vs ∧ DenDL imm cs vs.toList:=by
 cases h with
 | agg _ vs hl h=>exact ⟨vs,rfl,DenDL.of_index hl h⟩
theorem DenD.of_agg {imm:Imm} {cs:List D} {vs:Array Value} (h:DenDL imm cs vs.toList):DenD imm (.agg cs) (.agg vs):=.agg cs vs h.length h.index
theorem Cells.drop {imm:Imm} {b o sz:Nat} {es:List D} (n:Nat) (h:Cells imm b o sz es) (hn:n ≤ es.length):Cells imm b (o + n * sz) sz (es.drop n):=by
 obtain ⟨h1,vs,h2,h3⟩:=h
 refine ⟨fun e he=>h1 e (List.mem_of_mem_drop he),vs.drop (n * sz),?_,fun j v hv=>?_⟩
 ·have:(es.drop n).flatMap D.cells = (es.flatMap D.cells).drop (n * sz):=by
   have e:es.flatMap D.cells = (es.take n).flatMap D.cells ++ (es.drop n).flatMap D.cells:=by rw [← List.flatMap_append,List.take_append_drop]
   have hl:((es.take n).flatMap D.cells).length = n * sz:=by rw [QX fun x hx=>h1 x (List.mem_of_mem_take hx)]; simp [Nat.min_eq_left hn]
   rw [e,List.drop_append_of_le_length (by omega),← hl,List.drop_length,List.nil_append]
  rw [this]; exact h2.drop _
 ·rw [List.getElem?_drop] at hv
  have:=h3 _ v hv
  rwa [← Nat.add_assoc] at this
theorem Cells.take {imm:Imm} {b o sz:Nat} {es:List D} (n:Nat) (h:Cells imm b o sz es) (hn:n ≤ es.length):Cells imm b o sz (es.take n):=by
 obtain ⟨h1,vs,h2,h3⟩:=h
 refine ⟨fun e he=>h1 e (List.mem_of_mem_take he),vs.take (n * sz),?_,fun j v hv=>?_⟩
 ·have:(es.take n).flatMap D.cells = (es.flatMap D.cells).take (n * sz):=by
   have e:es.flatMap D.cells = (es.take n).flatMap D.cells ++ (es.drop n).flatMap D.cells:=by rw [← List.flatMap_append,List.take_append_drop]
   have hl:((es.take n).flatMap D.cells).length = n * sz:=by rw [QX fun x hx=>h1 x (List.mem_of_mem_take hx)]; simp [Nat.min_eq_left hn]
   rw [e,List.take_append_of_le_length (by omega),← hl,List.take_length]
  rw [this]; exact h2.take _
 ·rw [List.getElem?_take] at hv
  split at hv
  ·exact h3 _ v hv
  ·exact nomatch hv
theorem Cells.elem {imm:Imm} {b o sz:Nat} {es:List D} (h:Cells imm b o sz es) {i:Nat} {e:D} (he:es[i]? = some e) :
  e.cells.length = sz ∧ ∃ vs,DenDL imm e.cells vs ∧ ∀ (j:Nat) (v:Value),vs[j]? = some v → imm ⟨b,o + i * sz + j,none⟩ = some v:=by
 have hi:i < es.length:=by
  rcases Nat.lt_or_ge i es.length with h | h
  ·exact h
  ·rw [List.getElem?_eq_none h] at he; exact nomatch he
 have h':=h.drop i (by omega)
 obtain ⟨h1,vs,h2,h3⟩:=h'
 have hd:es.drop i = e :: es.drop (i + 1):=by
  rw [List.drop_eq_getElem_cons hi]
  congr 1
  rw [List.getElem?_eq_getElem hi] at he
  exact Option.some.inj he
 have hsz:e.cells.length = sz:=h1 e (by rw [hd]; simp)
 refine ⟨hsz,vs.take sz,?_,fun j v hv=>?_⟩
 ·have:=h2.take sz
  rw [hd,List.flatMap_cons,List.take_append_of_le_length (by omega),← hsz,List.take_length] at this
  rw [← hsz]; exact this
 ·rw [List.getElem?_take] at hv
  split at hv
  ·exact h3 _ v hv
  ·exact nomatch hv
inductive Key where
 | tip (id n:Nat)
 | at (id off ver:Nat)
structure KRow where
 b:Nat
 cap:Nat
 sz:Nat
 e:TypeId
structure RRow where
 b:Nat
 o:Nat
 n:Nat
structure Base where
 w:World
 old:Nat → Prop
 lt:∀ b,old b → b < w.heap.size
structure BelowB (B:Base) (w:World):Prop where
 os:w.os = B.w.os
 tape:w.tape = B.w.tape
 output:w.output = B.w.output
 size:B.w.heap.size ≤ w.heap.size
 block:∀ k,B.old k → w.heap[k]? = B.w.heap[k]?
theorem BelowB.trans {B:Base} {b c:World} (h:BelowB B b) (k:Below b.heap.size b c ∨ (c.os = b.os ∧ c.tape = b.tape ∧ c.output = b.output ∧ b.heap.size ≤ c.heap.size ∧ ∀ k,B.old k → c.heap[k]? = b.heap[k]?)):BelowB B c:=by
 rcases k with k | ⟨k1,k2,k3,k4,k5⟩
 ·exact ⟨k.os.trans h.os,k.tape.trans h.tape,k.output.trans h.output,Nat.le_trans h.size k.size,fun i hi=>(k.block i (Nat.lt_of_lt_of_le (B.lt i hi) h.size)).trans (h.block i hi)⟩
 ·exact ⟨k1.trans h.os,k2.trans h.tape,k3.trans h.output,Nat.le_trans h.size k4,fun i hi=>(k5 i hi).trans (h.block i hi)⟩
theorem BelowB.step {B:Base} {b c:World} (h:BelowB B b) (k1:c.os = b.os) (k2:c.tape = b.tape) (k3:c.output = b.output) (k:b.heap.size ≤ c.heap.size ∧ ∀ k,B.old k → c.heap[k]? = b.heap[k]?):BelowB B c :=
 h.trans (.inr ⟨k1,k2,k3,k.1,k.2⟩)
theorem BelowB.alloc {B:Base} {w:World} (h:BelowB B w) (o:Obj):BelowB B (w.alloc o) :=
 h.trans (.inl ((Below.refl _ _).alloc (Nat.le_refl _) o))
def Base.all (w:World):Base:=⟨w,fun b=>b < w.heap.size,fun _ h=>h⟩
theorem BelowB.refl (B:Base):BelowB B B.w:=⟨rfl,rfl,rfl,Nat.le_refl _,fun _ _=>rfl⟩
theorem BelowB.below {w w':World} (h:BelowB (.all w) w'):Below w.heap.size w w':=⟨h.os,h.tape,h.output,h.size,h.block⟩
structure KW where
 base:Base
 imm:Imm
 blk:Nat → Option Nat
 key:Key → Option KRow
 row:Nat → Nat → Option RRow
structure Kext (K K':KW):Prop where
 base:K'.base = K.base
 imm:∀ a v,K.imm a = some v → K'.imm a = some v
 blk:∀ i b,K.blk i = some b → K'.blk i = some b
 key:∀ k r,K.key k = some r → K'.key k = some r
 old:∀ a,K.base.old a.block → K'.imm a = K.imm a
 row:∀ i v r,K.row i v = some r → K'.row i v = some r
theorem Kext.refl (K:KW):Kext K K:=⟨rfl,fun _ _ h=>h,fun _ _ h=>h,fun _ _ h=>h,fun _ _=>rfl,fun _ _ _ h=>h⟩
theorem Kext.trans {a b c:KW} (h:Kext a b) (k:Kext b c):Kext a c :=
 ⟨k.base.trans h.base,fun x y z=>k.imm x y (h.imm x y z),fun x y z=>k.blk x y (h.blk x y z),fun x y z=>k.key x y (h.key x y z),fun x z=>(k.old x (h.base ▸ z)).trans (h.old x z),fun x y r z=>k.row x y r (h.row x y r z)⟩
inductive Den (K:KW):AV → Value → Prop where
 | dat {d:D} {v:Value} (h:DenD K.imm d v):Den K (.dat d) v
 | full (es:List D) (a:Addr) (b o sz:Nat) (ha:es ≠ [] → a = ⟨b,o,none⟩) (h:Cells K.imm b o sz es):Den K (.own .full es) (.slice (some a) es.length es.length)
 | tip (id:Nat) (es:List D) (r:KRow) (hr:K.key (.tip id es.length) = some r) (hcap:es.length ≤ r.cap) (h:Cells K.imm r.b 0 r.sz es):Den K (.own (.tip id) es) (.slice (some ⟨r.b,0,none⟩) es.length r.cap)
 | at (id off ver:Nat) (es:List D) (r:KRow) (hr:K.key (.at id off ver) = some r) (hcap:es.length ≤ r.cap) (h:Cells K.imm r.b 0 r.sz es):Den K (.own (.at id off ver r.e) es) (.slice (some ⟨r.b,0,none⟩) es.length r.cap)
 | pnil:Den K (.ptr none) (.pointer none)
 | ptr (id off b:Nat) (h:K.blk id = some b):Den K (.ptr (some (id,off))) (.pointer (some ⟨b,off,none⟩))
 | ep (cs:List D) (off b o:Nat) (vs:List Value) (h:DenDL K.imm cs vs) (hv:∀ (j:Nat) (v:Value),vs[j]? = some v → K.imm ⟨b,o + j,none⟩ = some v):Den K (.ep cs off) (.pointer (some ⟨b,o + off,none⟩))
 | func (fn:Fn) (a c:List AV) (va vc:Array Value) (hla:va.toList.length = a.length) (ha:∀ (j:Nat) (x:AV) (v:Value),a[j]? = some x → va.toList[j]? = some v → Den K x v)
   (hlc:vc.toList.length = c.length) (hc:∀ (j:Nat) (x:AV) (v:Value),c[j]? = some x → vc.toList[j]? = some v → Den K x v):Den K (.func fn a c) (.func fn va vc)
 | nilFunc:Den K .nilFunc .nilFunc
 | iface (t:TypeId) {x:AV} {v:Value} (h:Den K x v):Den K (.iface t x) (.iface t v)
 | nilIface:Den K .nilIface .nilIface
 | agg (cs:List AV) (vs:Array Value) (hl:vs.toList.length = cs.length) (h:∀ (j:Nat) (x:AV) (v:Value),cs[j]? = some x → vs.toList[j]? = some v → Den K x v):Den K (.agg cs) (.agg vs)
 | tuple (cs:List AV) (vs:Array Value) (hl:vs.toList.length = cs.length) (h:∀ (j:Nat) (x:AV) (v:Value),cs[j]? = some x → vs.toList[j]? = some v → Den K x v):Den K (.tuple cs) (.tuple vs)
 | sdata (id off ver:Nat) (es:List D) (r:KRow) (hr:K.key (.at id off ver) = some r) (hcap:es.length ≤ r.cap) (h:Cells K.imm r.b 0 r.sz es):Den K (.sdata id off ver r.e es) (.pointer (some ⟨r.b,0,none⟩))
 | fp (id ver off:Nat) (r:RRow) (hr:K.row id ver = some r):Den K (.fp id ver off) (.pointer (some ⟨r.b,r.o + off,none⟩))
 | row (id ver off len sz:Nat) (r:RRow) (hr:K.row id ver = some r) (hs:sz ≠ 0) (hle:off + len * sz ≤ r.n):Den K (.row id ver off len sz) (.slice (some ⟨r.b,r.o + off,none⟩) len ((r.n - off) / sz))
 | mapnil:Den K (.mapv none) (.map none)
 | mapv (id b:Nat) (h:K.blk id = some b):Den K (.mapv (some id)) (.map (some b))
 | any (v:Value) (h:v.oneCell' = true):Den K .any v
inductive DenL (K:KW):List AV → List Value → Prop where
 | nil:DenL K [] []
 | cons {x:AV} {v:Value} {xs:List AV} {vs:List Value}:Den K x v → DenL K xs vs → DenL K (x :: xs) (v :: vs)
section
variable {K K':KW}
theorem DenL.of_index:∀ {ds:List AV} {vs:List Value},vs.length = ds.length → (∀ (j:Nat) (d:AV) (v:Value),ds[j]? = some d → vs[j]? = some v → Den K d v) → DenL K ds vs
 | [],[],_,_=>.nil
 | [],_ :: _,h,_=>by simp at h
 | _ :: _,[],h,_=>by simp at h
 | d :: ds,v :: vs,h,hi=>.cons (hi 0 d v rfl rfl) (DenL.of_index (by simpa using h) fun j d' v' h1 h2=>hi (j + 1) d' v' (by simpa using h1) (by simpa using h2))
theorem DenL.length {ds:List AV} {vs:List Value} (h:DenL K ds vs):vs.length = ds.length:=by induction h <;> simp [*]
theorem DenL.index {ds:List AV} {vs:List Value} (h:DenL K ds vs):∀ (j:Nat) (d:AV) (v:Value),ds[j]? = some d → vs[j]? = some v → Den K d v:=by
 induction h with
 | nil=>intro j d v h; simp at h
 | cons hd _ ih =>
  intro j d v h1 h2
  cases j with
  | zero=>simp at h1 h2; subst h1; subst h2; exact hd
  | succ j=>exact ih j d v (by simpa using h1) (by simpa using h2)
theorem DenL.get {ds:List AV} {vs:List Value} (h:DenL K ds vs) {j:Nat} {d:AV} (hd:ds[j]? = some d):∃ v,vs[j]? = some v ∧ Den K d v:=by
 have hj:j < ds.length:=by
  rcases Nat.lt_or_ge j ds.length with h | h
  ·exact h
  ·rw [List.getElem?_eq_none h] at hd; exact nomatch hd
 have hv:vs[j]? = some (vs[j]'(by rw [h.length]; exact hj)):=List.getElem?_eq_getElem _
 exact ⟨_,hv,h.index j d _ hd hv⟩
theorem DenL.append {a b:List AV} {v w:List Value} (h:DenL K a v) (k:DenL K b w):DenL K (a ++ b) (v ++ w):=by
 induction h with
 | nil=>simpa using k
 | cons hd _ ih=>exact .cons hd ih
theorem DenL.drop:∀ (n:Nat) {a:List AV} {v:List Value},DenL K a v → DenL K (a.drop n) (v.drop n)
 | 0,_,_,h=>by simpa using h
 | _ + 1,_,_,.nil=>by simpa using DenL.nil
 | n + 1,_,_,.cons _ h=>by simpa using DenL.drop n h
theorem DenL.take:∀ (n:Nat) {a:List AV} {v:List Value},DenL K a v → DenL K (a.take n) (v.take n)
 | 0,_,_,_=>by simpa using DenL.nil
 | _ + 1,_,_,.nil=>by simpa using DenL.nil
 | n + 1,_,_,.cons hd h=>by simpa using DenL.cons hd (DenL.take n h)
theorem DenL.set:∀ (n:Nat) {a:List AV} {v:List Value} {x:AV} {y:Value},DenL K a v → Den K x y → DenL K (a.set n x) (v.set n y)
 | 0,_,_,_,_,.nil,_=>by simpa using DenL.nil
 | 0,_,_,_,_,.cons _ h,hx=>by simpa using DenL.cons hx h
 | _ + 1,_,_,_,_,.nil,_=>by simpa using DenL.nil
 | n + 1,_,_,_,_,.cons hd h,hx=>by simpa using DenL.cons hd (DenL.set n h hx)
theorem DenL.replicate {x:AV} {v:Value} (h:Den K x v):∀ n,DenL K (List.replicate n x) (List.replicate n v)
 | 0=>.nil
 | n + 1=>by simpa [List.replicate_succ] using DenL.cons h (DenL.replicate h n)
theorem Den.mono (hk:Kext K K') {x:AV} {v:Value} (h:Den K x v):Den K' x v:=by
 induction h with
 | dat h=>exact .dat (h.mono hk.imm)
 | full es a b o sz ha h=>exact .full es a b o sz ha (h.mono hk.imm)
 | tip id es r hr hcap h=>exact .tip id es r (hk.key _ _ hr) hcap (h.mono hk.imm)
 | «at» id off ver es r hr hcap h=>exact .at id off ver es r (hk.key _ _ hr) hcap (h.mono hk.imm)
 | pnil=>exact .pnil
 | ptr id off b h=>exact .ptr id off b (hk.blk _ _ h)
 | ep cs off b o vs h hv=>exact .ep cs off b o vs (h.mono hk.imm) fun j v hj=>hk.imm _ _ (hv j v hj)
 | func fn a c va vc hla _ hlc _ iha ihc=>exact .func fn a c va vc hla iha hlc ihc
 | nilFunc=>exact .nilFunc
 | iface t _ ih=>exact .iface t ih
 | nilIface=>exact .nilIface
 | agg cs vs hl _ ih=>exact .agg cs vs hl ih
 | tuple cs vs hl _ ih=>exact .tuple cs vs hl ih
 | sdata id off ver es r hr hcap h=>exact .sdata id off ver es r (hk.key _ _ hr) hcap (h.mono hk.imm)
 | fp id ver off r hr=>exact .fp id ver off r (hk.row _ _ _ hr)
 | row id ver off len sz r hr hs hle=>exact .row id ver off len sz r (hk.row _ _ _ hr) hs hle
 | mapnil=>exact .mapnil
 | mapv id b h=>exact .mapv id b (hk.blk _ _ h)
 | any v h=>exact .any v h
theorem DenL.mono (hk:Kext K K') {x:List AV} {v:List Value} (h:DenL K x v):DenL K' x v:=by
 induction h with
 | nil=>exact .nil
 | cons hd _ ih=>exact .cons (hd.mono hk) ih
theorem DenL.of_dat {ds:List D} {vs:List Value} (h:DenDL K.imm ds vs):DenL K (ds.map .dat) vs:=by
 induction h with
 | nil=>exact .nil
 | cons hd _ ih=>exact .cons (.dat hd) ih
theorem Den.agg_list {cs:List AV} {v:Value} (h:Den K (.agg cs) v):∃ vs,v = .agg vs ∧ DenL K cs vs.toList:=by
 cases h with
 | agg _ vs hl h=>exact ⟨vs,rfl,DenL.of_index hl h⟩
theorem Den.of_agg {cs:List AV} {vs:Array Value} (h:DenL K cs vs.toList):Den K (.agg cs) (.agg vs):=.agg cs vs h.length h.index
theorem Den.tuple_list {cs:List AV} {v:Value} (h:Den K (.tuple cs) v):∃ vs,v = .tuple vs ∧ DenL K cs vs.toList:=by
 cases h with
 | tuple _ vs hl h=>exact ⟨vs,rfl,DenL.of_index hl h⟩
theorem Den.of_tuple {cs:List AV} {vs:Array Value} (h:DenL K cs vs.toList):Den K (.tuple cs) (.tuple vs):=.tuple cs vs h.length h.index
theorem Den.func_list {fn:Fn} {a c:List AV} {v:Value} (h:Den K (.func fn a c) v):∃ va vc,v = .func fn va vc ∧ DenL K a va.toList ∧ DenL K c vc.toList:=by
 cases h with
 | func _ _ _ va vc hla ha hlc hc=>exact ⟨va,vc,rfl,DenL.of_index hla ha,DenL.of_index hlc hc⟩
theorem Den.of_func {fn:Fn} {a c:List AV} {va vc:Array Value} (ha:DenL K a va.toList) (hc:DenL K c vc.toList):Den K (.func fn a c) (.func fn va vc) :=
 .func fn a c va vc ha.length ha.index hc.length hc.index
theorem Q0z:Den K undefA undef:=Den.of_tuple (vs:=#[]) .nil
theorem Q1U:∀ {cs:List AV} {ds:List D},allDat cs = some ds → cs = ds.map .dat
 | [],ds,h=>by simp [allDat] at h; subst h; rfl
 | c :: cs,ds,h=>by
  cases c <;> simp [allDat] at h
  obtain ⟨r,hr,rfl⟩:=h
  simp [Q1U hr]
theorem H4:∀ {ds:List D} {vs:List Value},DenL K (ds.map .dat) vs → DenDL K.imm ds vs
 | [],_,.nil=>.nil
 | _ :: _,_,.cons (.dat h) k=>.cons h (H4 k)
theorem Yk {cs:List AV} {vs:Array Value} (h:DenL K cs vs.toList):Den K (mkAgg cs) (.agg vs):=by
 unfold mkAgg
 split
 ·rename_i ds hd
  rw [Q1U hd] at h
  exact .dat (.of_agg (H4 h))
 ·exact .of_agg h
theorem Den.cells {x:AV} {v:Value} (h:Den K x v):DenL K x.cells v.cells.toList:=by
 cases h with
 | dat h =>
  cases h with
  | agg cs vs hl h=>exact DenL.of_dat (DenDL.of_index hl h)
  | slice es a cap b o sz vs hcap ha hsz hl hv h=>exact .cons (.dat (.slice es a cap b o sz vs hcap ha hsz hl hv h)) .nil
  | bool b=>exact .cons (.dat (.bool b)) .nil
  | int k n=>exact .cons (.dat (.int k n)) .nil
  | str s=>exact .cons (.dat (.str s)) .nil
  | nils=>exact .cons (.dat .nils) .nil
 | agg cs vs hl h=>exact DenL.of_index hl h
 | full es a b o sz ha h=>exact .cons (.full es a b o sz ha h) .nil
 | tip id es r hr hcap h=>exact .cons (.tip id es r hr hcap h) .nil
 | «at» id off ver es r hr hcap h=>exact .cons (.at id off ver es r hr hcap h) .nil
 | pnil=>exact .cons .pnil .nil
 | ptr id off b h=>exact .cons (.ptr id off b h) .nil
 | ep cs off b o vs h hv=>exact .cons (.ep cs off b o vs h hv) .nil
 | func fn a c va vc hla ha hlc hc=>exact .cons (.func fn a c va vc hla ha hlc hc) .nil
 | nilFunc=>exact .cons .nilFunc .nil
 | iface t h=>exact .cons (.iface t h) .nil
 | nilIface=>exact .cons .nilIface .nil
 | tuple cs vs hl h=>exact .cons (.tuple cs vs hl h) .nil
 | sdata id off ver es r hr hcap h=>exact .cons (.sdata id off ver es r hr hcap h) .nil
 | fp id ver off r hr=>exact .cons (.fp id ver off r hr) .nil
 | row id ver off len sz r hr hs hle=>exact .cons (.row id ver off len sz r hr hs hle) .nil
 | mapnil=>exact .cons .mapnil .nil
 | mapv id b h=>exact .cons (.mapv id b h) .nil
 | any v h=>exact (by cases v <;> first | exact .cons (.any _ h) .nil | simp [Value.oneCell'] at h)
theorem Z0 {g:Own} {es:List D} {v:Value} (h:Den K (.own g es) v):DenD K.imm (.slice es) v:=by
 cases h with
 | full es a b o sz ha h=>exact .of_cells (Nat.le_refl _) ha h
 | tip id es r hr hcap h=>exact .of_cells hcap (fun _=>rfl) h
 | «at» id off ver es r hr hcap h=>exact .of_cells hcap (fun _=>rfl) h
theorem Zi {x:AV} {v:Value} (h:Den K x v):Den K (sealC x) v:=by
 cases x <;> simp only [sealC] <;> first | exact h | exact .dat (Z0 h)
theorem JS {f:AV → AV} (hf:∀ x v,Den K x v → Den K (f x) v) {xs:List AV} {vs:List Value} (h:DenL K xs vs):DenL K (xs.map f) vs:=by
 induction h with
 | nil=>exact .nil
 | cons hd _ ih=>exact .cons (hf _ _ hd) ih
theorem H8 {x:AV} {v:Value} (h:Den K x v):Den K (sealV x) v:=by
 cases x <;> simp only [sealV] <;> first | exact h | exact .dat (Z0 h) | skip
 obtain ⟨vs,rfl,hl⟩:=h.agg_list
 exact Yk (JS (fun _ _=>Zi) hl)
theorem Qbe {x:AV} {v:Value} (h:Den K x v):Den K (sealR x) v:=by
 unfold sealR
 split
 ·obtain ⟨vs,rfl,hl⟩:=h.tuple_list
  exact Den.of_tuple (JS (fun _ _=>H8) hl)
 ·exact H8 h
theorem QpL {x:AV} {v:Value} {d:D} (h:Den K x v) (hd:x.toD = some d):DenD K.imm d v:=by
 unfold AV.toD at hd
 have hs:=H8 h
 split at hd
 ·rename_i d' he
  rw [he] at hs
  cases hd
  cases hs with
  | dat h=>exact h
 ·exact nomatch hd
theorem Yl {x:AV} {v:Value} {es:List D} (h:Den K x v) (he:elems x = some es) :
  ∃ a cap,v = .slice a es.length cap ∧ es.length ≤ cap ∧ ∃ b o sz,(es ≠ [] → a = some ⟨b,o,none⟩) ∧ Cells K.imm b o sz es:=by
 cases x <;> simp [elems] at he
 ·rename_i d
  cases h with
  | dat h =>
   cases d <;> simp at he
   ·subst he; cases h; exact ⟨none,0,rfl,by simp,0,0,0,by simp,by simp,[],.nil,by simp⟩
   ·subst he
    obtain ⟨a,cap,b,o,sz,rfl,h1,h2,h3⟩:=h.slice_cells
    exact ⟨some a,cap,rfl,h1,b,o,sz,fun h=>by rw [h2 h],h3⟩
 ·subst he
  obtain ⟨a,cap,b,o,sz,rfl,h1,h2,h3⟩:=(Z0 h).slice_cells
  exact ⟨some a,cap,rfl,h1,b,o,sz,fun h=>by rw [h2 h],h3⟩
end
theorem Qob (s:ByteArray):(⟨s.data.toList.toArray⟩:ByteArray) = s:=by cases s; simp
theorem QeM {K:KW} {v:Value} {a:AV} (h:cst1 v = some a):Den K a v:=by
 unfold cst1 at h
 split at h <;> first
  | (cases h; exact .dat (.bool _))
  | (cases h; exact .dat (.int _ _))
  | (cases h; rename_i s; have:=DenD.str (imm:=K.imm) s.data.toList; rw [Qob] at this; exact .dat this)
  | (cases h; exact .pnil)
  | (cases h; exact .dat .nils)
  | (cases h; exact .nilFunc)
  | (cases h; exact .nilIface)
  | (cases h; exact .mapnil)
  | exact nomatch h
theorem Qf0 {K:KW}:∀ {vs:List Value} {as:List AV},cstL vs = some as → DenL K as vs
 | [],as,h=>by simp [cstL] at h; subst h; exact .nil
 | v :: vs,as,h=>by
  simp only [cstL] at h
  split at h
  ·rename_i a ha
   simp at h
   obtain ⟨r,hr,rfl⟩:=h
   exact .cons (QeM ha) (Qf0 hr)
  ·exact nomatch h
theorem QeJ {K:KW} {v:Value} {a:AV} (h:cstV v = some a):Den K a v:=by
 unfold cstV at h
 split at h
 ·simp at h
  obtain ⟨r,hr,rfl⟩:=h
  exact Yk (Qf0 hr)
 ·exact QeM h
end Go.Proofs.YtfdcjngclelnhaaGreat
namespace Go.Proofs.YtfdcjngclelnhaaGreat
open Go Go.RowKit
inductive OKey where
 | box (id:Nat)
 | tip (id:Nat)
 | at (id off ver:Nat)
 | fr (id:Nat)
structure Free (K:KW) (w:World) (r:KRow) (n:Nat):Prop where
 blk:∃ vs lo hi,w.heap[r.b]? = some (.cells vs r.e (lo,hi)) ∧ r.cap * r.sz ≤ vs.size ∧ hi ≤ n * r.sz
 imm:∀ off sp,n * r.sz ≤ off → K.imm ⟨r.b,off,sp⟩ = none
 base:¬ K.base.old r.b
def CellOk (K:KW) (w:World) (ow:Nat → Option OKey) (id i ver:Nat):AV → Prop
 | .own (.tip _) _=>False
 | .own (.at id' off' v' e) es=>id' = id ∧ off' = i ∧ v' < ver ∧ ∃ r,K.key (.at id i v') = some r ∧ r.e = e ∧ Free K w r es.length ∧ ow r.b = some (.at id i v')
 | _=>True
structure BoxOk (K:KW) (w:World) (ow:Nat → Option OKey) (id:Nat) (e:TypeId) (cs:List AV) (ver b:Nat) (vs:Array Value):Prop where
 blk:K.blk id = some b
 own:ow b = some (.box id)
 base:¬ K.base.old b
 heap:w.heap[b]? = some (.cells vs e (0,0))
 imm:∀ off sp,K.imm ⟨b,off,sp⟩ = none
 den:DenL K cs vs.toList
 cell:∀ i c,cs[i]? = some c → CellOk K w ow id i ver c
 under:undersL (id + 1) cs = true
inductive EntL (K:KW):List (D × AV × Nat) → List MapEntry → Prop where
 | nil:EntL K [] []
 | cons {k:D} {v:AV} {n:Nat} {key val:Value} {es:List (D × AV × Nat)} {ms:List MapEntry}:DenD K.imm k key → Den K v val → EntL K es ms → EntL K ((k,v,n) :: es) ({ key:=key,val:=val,born:=n } :: ms)
theorem EntL.mono {K K':KW} (hk:Kext K K') {es:List (D × AV × Nat)} {ms:List MapEntry} (h:EntL K es ms):EntL K' es ms:=by
 induction h with
 | nil=>exact .nil
 | cons h1 h2 _ ih=>exact .cons (h1.mono hk.imm) (h2.mono hk) ih
inductive FreeAt (K:KW) (id:Nat):AObj → Nat → Obj → Prop where
 | free (e:TypeId) (cs:List AV) (ver lim fz:Nat) (ex:Bool) (r:RRow) (vs:Array Value) (lo hi:Nat) (hr:K.row id ver = some r) (hsz:vs.size = r.o + r.n) (hle:cs.length ≤ r.n) (hd:DenL K cs ((vs.toList.drop r.o).take cs.length)) (hu:undersL lim cs = true)
   (hv:∀ v,ver < v → K.row id v = none) (hfz:hi ≤ r.o + fz) (hex:ex = true → r.o = 0 ∧ r.n = cs.length) (hcl:cs.all AV.isCell = true):FreeAt K id (.free e cs ver lim fz ex) r.b (.cells vs e (lo,hi))
 | mp (es:List (D × AV × Nat)) (clock lim b:Nat) (ms:Array MapEntry) (hb:K.blk id = some b) (hd:EntL K es ms.toList) (hu:undersL lim (es.map fun e=>e.2.1) = true):FreeAt K id (.mp es clock lim) b (.map ms clock)
 | sit (s:List UInt8) (QJ b:Nat) (hb:K.blk id = some b):FreeAt K id (.sit s QJ) b (.stringIter ⟨s.toArray⟩ QJ)
 | mit0 (b since last:Nat) (seen:List Nat) (hb:K.blk id = some b):FreeAt K id (.mit none since seen last) b (.mapIter none since seen.toArray last)
 | mit (m b bm since last:Nat) (seen:List Nat) (hb:K.blk id = some b) (hm:K.blk m = some bm):FreeAt K id (.mit (some m) since seen last) b (.mapIter (some bm) since seen.toArray last)
def AObj.isFr:AObj → Bool
 | .cells _ _ _=>false
 | .tip _ _ _=>false
 | _=>true
def FreeOk (K:KW) (w:World) (ow:Nat → Option OKey) (id:Nat) (o:AObj):Prop :=
 ∃ b obj,FreeAt K id o b obj ∧ w.heap[b]? = some obj ∧ ow b = some (.fr id) ∧ ¬ K.base.old b ∧ ∀ off sp,K.imm ⟨b,off,sp⟩ = none
structure OkW (K:KW) (h:Nat → Option AObj) (V:Nat → Prop) (w:World) (ow:Nat → Option OKey):Prop where
 imm:∀ a c,K.imm a = some c → w.cell? a = some c
 below:BelowB K.base w
 box:∀ id e cs ver,h id = some (.cells e cs ver) → ∃ b vs,BoxOk K w ow id e cs ver b vs
 tip:∀ id e n sz,h id = some (.tip e n sz) → ∃ r,K.key (.tip id n) = some r ∧ r.e = e ∧ r.sz = sz ∧ Free K w r n ∧ ow r.b = some (.tip id)
 more:∀ id e n sz,h id = some (.tip e n sz) → ∀ n',n < n' → K.key (.tip id n') = none
 fresh:∀ id,V id → h id = none ∧ K.blk id = none ∧ (∀ n,K.key (.tip id n) = none) ∧ ∀ off v,K.key (.at id off v) = none
 ver:∀ id e cs ver,h id = some (.cells e cs ver) → ∀ off v,ver ≤ v → K.key (.at id off v) = none
 own:∀ b k,ow b = some k → b < w.heap.size
 fr:∀ id o,h id = some o → o.isFr = true → FreeOk K w ow id o
 freshr:∀ id,V id → ∀ v,K.row id v = none
theorem FreeAt.mono {K K':KW} {id:Nat} (hk:Kext K K') (hrow:∀ v,K'.row id v = K.row id v) {o:AObj} {b:Nat} {obj:Obj} (h:FreeAt K id o b obj):FreeAt K' id o b obj:=by
 cases h with
 | free e cs ver lim fz ex r vs lo hi hr hsz hle hd hu hv hfz hex hcl=>exact .free e cs ver lim fz ex r vs lo hi ((hrow _).trans hr) hsz hle (hd.mono hk) hu (fun v h=>(hrow v).trans (hv v h)) hfz hex hcl
 | mp es clock lim b ms hb hd hu=>exact .mp es clock lim b ms (hk.blk _ _ hb) (hd.mono hk) hu
 | sit s QJ b hb=>exact .sit s QJ b (hk.blk _ _ hb)
 | mit0 b since last seen hb=>exact .mit0 b since last seen (hk.blk _ _ hb)
 | mit m b bm since last seen hb hm=>exact .mit m b bm since last seen (hk.blk _ _ hb) (hk.blk _ _ hm)
theorem FreeOk.mono {K K':KW} {w w':World} {ow ow':Nat → Option OKey} {id:Nat} {o:AObj} (h:FreeOk K w ow id o) (hk:Kext K K') (hrow:∀ v,K'.row id v = K.row id v)
  (hb:∀ b,ow b = some (.fr id) → w'.heap[b]? = w.heap[b]? ∧ ow' b = some (.fr id) ∧ ∀ off sp,K.imm ⟨b,off,sp⟩ = none → K'.imm ⟨b,off,sp⟩ = none):FreeOk K' w' ow' id o:=by
 obtain ⟨b,obj,h1,h2,h3,h4,h5⟩:=h
 obtain ⟨g1,g2,g3⟩:=hb b h3
 exact ⟨b,obj,h1.mono hk hrow,g1.trans h2,g2,hk.base ▸ h4,fun off sp=>g3 off sp (h5 off sp)⟩
def Ok (K:KW) (h:Nat → Option AObj) (V:Nat → Prop) (w:World):Prop:=∃ ow,OkW K h V w ow
theorem Q7V (w:World) (o:Obj) (b:Nat) (h:b < w.heap.size):(w.alloc o).heap[b]? = w.heap[b]?:=by
 show (w.heap.push o)[b]? = _
 simp only [Array.getElem?_push,if_neg (Nat.ne_of_lt h)]
theorem Z8 (w:World) (o:Obj):(w.alloc o).heap[w.heap.size]? = some o:=by
 show (w.heap.push o)[w.heap.size]? = _
 simp
theorem Q3j (w:World) (o:Obj):(w.alloc o).heap.size = w.heap.size + 1:=by simp
theorem ZD {w:World} {b:Nat} {o:Obj} (h:w.heap[b]? = some o):b < w.heap.size:=by
 rcases Nat.lt_or_ge b w.heap.size with h' | h'
 ·exact h'
 ·rw [Array.getElem?_eq_none h'] at h; exact nomatch h
theorem Zd {w:World} {a:Addr} {v:Value} (h:w.cell? a = some v):∃ vs e f,w.heap[a.block]? = some (.cells vs e f) ∧ a.spot = none ∧ vs[a.off]? = some v:=by
 unfold World.cell? at h
 split at h
 ·rename_i c e f hc
  split at h
  ·exact nomatch h
  ·rename_i hs; refine ⟨c,e,f,hc,?_,h⟩; simpa using hs
 ·exact nomatch h
theorem HI {w:World} {b off:Nat} {vs:Array Value} {e:TypeId} {f:Nat × Nat} (h:w.heap[b]? = some (.cells vs e f)):w.cell? ⟨b,off,none⟩ = vs[off]?:=by
 simp [World.cell?,h]
theorem ZU {w w':World} {a:Addr} (h:w'.heap[a.block]? = w.heap[a.block]?):w'.cell? a = w.cell? a:=by
 simp only [World.cell?,h]
theorem Free.heap {K:KW} {w w':World} {r:KRow} {n:Nat} (h:Free K w r n) (hb:w'.heap[r.b]? = w.heap[r.b]?):Free K w' r n:=by
 obtain ⟨⟨vs,lo,hi,h1,h2⟩,h3,h4⟩:=h
 exact ⟨⟨vs,lo,hi,hb ▸ h1,h2⟩,h3,h4⟩
theorem Free.lt {K:KW} {w:World} {r:KRow} {n:Nat} (h:Free K w r n):r.b < w.heap.size:=by
 obtain ⟨⟨vs,lo,hi,h1,h2⟩,h3,h4⟩:=h
 exact ZD h1
theorem OkW.world {K:KW} {h:Nat → Option AObj} {V:Nat → Prop} {w w':World} {ow:Nat → Option OKey} (hk:OkW K h V w ow)
  (hb:BelowB K.base w') (hsz:w.heap.size ≤ w'.heap.size) (hown:∀ b k,ow b = some k → w'.heap[b]? = w.heap[b]?)
  (hi:∀ a c,K.imm a = some c → w'.cell? a = some c):OkW K h V w' ow where
 imm:=hi
 below:=hb
 box:=fun id e cs ver hid=>by
  obtain ⟨b,vs,hbox⟩:=hk.box id e cs ver hid
  refine ⟨b,vs,hbox.blk,hbox.own,hbox.base,?_,hbox.imm,hbox.den,fun i c hc=>?_,hbox.under⟩
  ·rw [hown _ _ hbox.own]; exact hbox.heap
  ·have:=hbox.cell i c hc
   unfold CellOk at this ⊢
   split at this
   ·exact this
   ·obtain ⟨h1,h2,h3,r,h4,h5,h6,h7⟩:=this
    exact ⟨h1,h2,h3,r,h4,h5,h6.heap (hown _ _ h7),h7⟩
   ·trivial
 tip:=fun id e n sz hid=>by
  obtain ⟨r,h1,h2,h3,h4,h5⟩:=hk.tip id e n sz hid
  exact ⟨r,h1,h2,h3,h4.heap (hown _ _ h5),h5⟩
 more:=hk.more
 fresh:=hk.fresh
 ver:=hk.ver
 own:=fun b k hb=>Nat.lt_of_lt_of_le (hk.own b k hb) hsz
 fr:=fun id o hid ho=>(hk.fr id o hid ho).mono (Kext.refl K) (fun _=>rfl) fun b hb=>⟨hown b _ hb,hb,fun _ _ h=>h⟩
 freshr:=hk.freshr
theorem OkW.base_le {K:KW} {h:Nat → Option AObj} {V:Nat → Prop} {w:World} {ow:Nat → Option OKey} (hk:OkW K h V w ow):¬ K.base.old w.heap.size:=fun h=>Nat.lt_irrefl _ (Nat.lt_of_lt_of_le (K.base.lt _ h) hk.below.size)
theorem OkW.push {K:KW} {h:Nat → Option AObj} {V:Nat → Prop} {w:World} {ow:Nat → Option OKey} (hk:OkW K h V w ow) (o:Obj):OkW K h V (w.alloc o) ow :=
 hk.world (hk.below.alloc o) (by rw [Q3j]; omega) (fun b k hb=>Q7V _ _ _ (hk.own b k hb)) fun a c ha=>by
  have:=hk.imm a c ha
  obtain ⟨vs,e,f,h1,_⟩:=Zd this
  rw [ZU (Q7V _ _ _ (ZD h1))]; exact this
theorem OkW.drew {K:KW} {h:Nat → Option AObj} {V:Nat → Prop} {w:World} {ow:Nat → Option OKey} (hk:OkW K h V w ow):OkW K h V w.drew ow :=
 hk.world (hk.below.step rfl rfl rfl ⟨Nat.le_refl _,fun _ _=>rfl⟩) (Nat.le_refl _) (fun _ _ _=>rfl) fun a c ha=>hk.imm a c ha
theorem Ok.drew {K:KW} {h:Nat → Option AObj} {V:Nat → Prop} {w:World} (hk:Ok K h V w):Ok K h V w.drew:=by
 obtain ⟨ow,hk⟩:=hk
 exact ⟨ow,hk.drew⟩
theorem OkW.virgin {K:KW} {h:Nat → Option AObj} {V V':Nat → Prop} {w:World} {ow:Nat → Option OKey} (hk:OkW K h V w ow) (hv:∀ id,V' id → V id):OkW K h V' w ow :=
 ⟨hk.imm,hk.below,hk.box,hk.tip,hk.more,fun id h=>hk.fresh id (hv id h),hk.ver,hk.own,hk.fr,fun id h=>hk.freshr id (hv id h)⟩
theorem Ok.virgin {K:KW} {h:Nat → Option AObj} {V V':Nat → Prop} {w:World} (hk:Ok K h V w) (hv:∀ id,V' id → V id):Ok K h V' w:=by
 obtain ⟨ow,hk⟩:=hk
 exact ⟨ow,hk.virgin hv⟩
def withImm (K:KW) (b m:Nat) (vs:Array Value):KW :=
 { K with imm:=fun a=>if a.block = b ∧ a.spot = none ∧ a.off < m then vs[a.off]? else K.imm a }
theorem Q0X {K:KW} {b m:Nat} {vs:Array Value} {off:Nat} (h:off < m):(withImm K b m vs).imm ⟨b,off,none⟩ = vs[off]?:=by simp [withImm,h]
theorem HD {K:KW} {b m:Nat} {vs:Array Value} {a:Addr} (h:a.block ≠ b):(withImm K b m vs).imm a = K.imm a:=by simp [withImm,h]
theorem Q2N {K:KW} {b m:Nat} {vs:Array Value} {off:Nat} {sp:Option Nat} (h:m ≤ off):(withImm K b m vs).imm ⟨b,off,sp⟩ = K.imm ⟨b,off,sp⟩:=by
 simp only [withImm]; rw [if_neg (by simp; omega)]
theorem Kext.withImm {K:KW} {b m:Nat} {vs:Array Value} (hb:¬ K.base.old b) (h:∀ off v,off < m → K.imm ⟨b,off,none⟩ = some v → vs[off]? = some v):Kext K (withImm K b m vs) where
 base:=rfl
 imm:=fun a v ha=>by
  simp only [YtfdcjngclelnhaaGreat.withImm]
  split
  ·rename_i hc
   obtain ⟨h1,h2,h3⟩:=hc
   obtain ⟨ab,ao,asp⟩:=a
   simp only at h1 h2 h3
   subst h1; subst h2
   exact h _ _ h3 ha
  ·exact ha
 blk:=fun _ _ h=>h
 key:=fun _ _ h=>h
 old:=fun a ha=>HD (by intro e; exact hb (e ▸ ha))
 row:=fun _ _ _ h=>h
theorem CellOk.mono {K K':KW} {w w':World} {ow ow':Nat → Option OKey} {id i ver ver':Nat} {c:AV} (hk:Kext K K') (h:CellOk K w ow id i ver c) (hv:ver ≤ ver')
  (hf:∀ r n v,Free K w r n → ow r.b = some (.at id i v) → Free K' w' r n ∧ ow' r.b = some (.at id i v)):CellOk K' w' ow' id i ver' c:=by
 unfold CellOk at h ⊢
 split at h
 ·exact h
 ·obtain ⟨h1,h2,h3,r,h4,h5,h6,h7⟩:=h
  obtain ⟨h8,h9⟩:=hf _ _ _ h6 h7
  exact ⟨h1,h2,by omega,r,hk.key _ _ h4,h5,h8,h9⟩
 ·trivial
theorem OkW.told {K:KW} {h:Nat → Option AObj} {V:Nat → Prop} {w:World} {ow:Nat → Option OKey} (hk:OkW K h V w ow) {b m:Nat} {vs:Array Value} {e:TypeId} {f:Nat × Nat}
  (hb:w.heap[b]? = some (.cells vs e f)) (hn:ow b = none) (hbase:¬ K.base.old b):OkW (withImm K b m vs) h V w ow ∧ Kext K (withImm K b m vs):=by
 have hext:Kext K (withImm K b m vs):=Kext.withImm hbase fun off v _ hv=>by
  have:=hk.imm _ _ hv
  rwa [HI hb] at this
 have hne:∀ b' k,ow b' = some k → b' ≠ b:=fun b' k h1 h2=>by rw [h2,hn] at h1; exact nomatch h1
 have hfree:∀ r n k,Free K w r n → ow r.b = some k → Free (withImm K b m vs) w r n:=fun r n k hf ho =>
  ⟨hf.blk,fun off sp ho'=>by rw [HD (hne _ _ ho)]; exact hf.imm off sp ho',hf.base⟩
 refine ⟨⟨fun a c ha=>?_,hk.below,fun id e cs ver hid=>?_,fun id e n sz hid=>?_,hk.more,hk.fresh,hk.ver,hk.own,fun id o hid ho=>(hk.fr id o hid ho).mono hext (fun _=>rfl) fun b' hb'=>⟨rfl,hb',fun off sp h=>by rw [HD (hne _ _ hb')]; exact h⟩,hk.freshr⟩,hext⟩
 ·simp only [withImm] at ha
  split at ha
  ·rename_i hc
   obtain ⟨h1,h2,h3⟩:=hc
   obtain ⟨ab,ao,asp⟩:=a
   simp only at h1 h2 h3 ha
   subst h1; subst h2
   rw [HI hb]; exact ha
  ·exact hk.imm a c ha
 ·obtain ⟨b',vs',hbox⟩:=hk.box id e cs ver hid
  exact ⟨b',vs',hbox.blk,hbox.own,hbox.base,hbox.heap,fun off sp=>by rw [HD (hne _ _ hbox.own)]; exact hbox.imm off sp,hbox.den.mono hext,
   fun i c hc=>(hbox.cell i c hc).mono hext (Nat.le_refl _) fun r n v hf ho=>⟨hfree r n _ hf ho,ho⟩,hbox.under⟩
 ·obtain ⟨r,h1,h2,h3,h4,h5⟩:=hk.tip id e n sz hid
  exact ⟨r,h1,h2,h3,hfree r n _ h4 h5,h5⟩
theorem OkW.row {K:KW} {h:Nat → Option AObj} {V:Nat → Prop} {w:World} {ow:Nat → Option OKey} (hk:OkW K h V w ow) (vs:Array Value) (e:TypeId) :
  OkW (withImm K w.heap.size vs.size vs) h V (w.alloc (.cells vs e)) ow ∧ Kext K (withImm K w.heap.size vs.size vs):=by
 have hn:ow w.heap.size = none:=by
  cases ho:ow w.heap.size with
  | none=>rfl
  | some k=>have:=hk.own _ _ ho; omega
 exact (hk.push (.cells vs e)).told (Z8 w _) hn hk.base_le
def withBlk (K:KW) (id b:Nat):KW:={ K with blk:=fun i=>if i = id then some b else K.blk i }
def withKey (K:KW) (k:Key → Option KRow):KW:={ K with key:=fun x=>match k x with | some r=>some r | none=>K.key x }
def withTip (K:KW) (id n:Nat) (r:KRow):KW:=withKey K fun | .tip i m=>if i = id ∧ m = n then some r else none | _=>none
def withAt (K:KW) (id off ver:Nat) (r:KRow):KW:=withKey K fun | .at i o v=>if i = id ∧ o = off ∧ v = ver then some r else none | _=>none
theorem Qdk {K:KW} {id b:Nat} (h:K.blk id = none):Kext K (withBlk K id b) where
 base:=rfl
 imm:=fun _ _ h=>h
 blk:=fun i b' hb=>by
  simp only [withBlk]
  split
  ·rename_i e; rw [e,h] at hb; exact nomatch hb
  ·exact hb
 key:=fun _ _ h=>h
 old:=fun _ _=>rfl
 row:=fun _ _ _ h=>h
theorem QcR {K:KW} {id n:Nat} {r:KRow} (h:K.key (.tip id n) = none):Kext K (withTip K id n r) where
 base:=rfl
 imm:=fun _ _ h=>h
 blk:=fun _ _ h=>h
 key:=fun k r' hr=>by
  cases k with
  | tip i m =>
   simp only [withTip,withKey]
   by_cases e:i = id ∧ m = n
   ·obtain ⟨rfl,rfl⟩:=e; rw [h] at hr; exact nomatch hr
   ·simpa [e] using hr
  | «at» i o v=>simpa [withTip,withKey] using hr
 old:=fun _ _=>rfl
 row:=fun _ _ _ h=>h
theorem Qea {K:KW} {id off ver:Nat} {r:KRow} (h:K.key (.at id off ver) = none):Kext K (withAt K id off ver r) where
 base:=rfl
 imm:=fun _ _ h=>h
 blk:=fun _ _ h=>h
 key:=fun k r' hr=>by
  cases k with
  | tip i m=>simpa [withAt,withKey] using hr
  | «at» i o v =>
   simp only [withAt,withKey]
   by_cases e:i = id ∧ o = off ∧ v = ver
   ·obtain ⟨rfl,rfl,rfl⟩:=e; rw [h] at hr; exact nomatch hr
   ·simpa [e] using hr
 old:=fun _ _=>rfl
 row:=fun _ _ _ h=>h
theorem Q26 {K:KW} {id n:Nat} {r:KRow}:(withTip K id n r).key (.tip id n) = some r:=by simp [withTip,withKey]
theorem Q8N {K:KW} {id off ver:Nat} {r:KRow}:(withAt K id off ver r).key (.at id off ver) = some r:=by simp [withAt,withKey]
def upd (h:Nat → Option AObj) (id:Nat) (o:Option AObj):Nat → Option AObj:=fun i=>if i = id then o else h i
theorem Qk (h:Nat → Option AObj) (id:Nat) (o:Option AObj):upd h id o id = o:=by simp [upd]
theorem Qw {h:Nat → Option AObj} {id i:Nat} {o:Option AObj} (hi:i ≠ id):upd h id o i = h i:=by simp [upd,hi]
theorem OkW.newBox {K:KW} {h:Nat → Option AObj} {V:Nat → Prop} {w:World} {ow:Nat → Option OKey} (hk:OkW K h V w ow) {id:Nat} (hv:V id) {e:TypeId} {cs:List AV} {vs:Array Value}
  (hd:DenL K cs vs.toList) (hc:∀ (i:Nat) (c:AV),cs[i]? = some c → (∀ j es,c ≠ AV.own (.tip j) es) ∧ ∀ a b d f es,c ≠ AV.own (.at a b d f) es) (hu:undersL (id + 1) cs = true) :
  ∃ ow',OkW (withBlk K id w.heap.size) (upd h id (some (.cells e cs 0))) (fun i=>V i ∧ i ≠ id) (w.alloc (.cells vs e)) ow' ∧ Kext K (withBlk K id w.heap.size):=by
 obtain ⟨f1,f2,f3,f4⟩:=hk.fresh id hv
 have hext:=Qdk (b:=w.heap.size) f2
 have hp:=hk.push (.cells vs e)
 have hne:∀ b' k,ow b' = some k → b' ≠ w.heap.size:=fun b' k h1=>by have:=hk.own b' k h1; omega
 let ow':Nat → Option OKey:=fun b=>if b = w.heap.size then some (.box id) else ow b
 have how:∀ b' k,ow b' = some k → ow' b' = some k:=fun b' k h1=>by simp [ow',hne b' k h1,h1]
 refine ⟨ow',⟨hp.imm,hp.below,fun id' e' cs' ver' hid=>?_,fun id' e' n sz hid=>?_,fun id' e' n sz hid=>?_,fun id' hv'=>?_,fun id' e' cs' ver' hid=>?_,fun b k hb=>?_,fun id' o hid ho=>?_,fun id' hv'=>hk.freshr id' hv'.1⟩,hext⟩
 ·by_cases hi:id' = id
  ·subst hi
   rw [Qk] at hid
   cases hid
   refine ⟨w.heap.size,vs,by simp [withBlk],by simp [ow'],hk.base_le,Z8 _ _,fun off sp=>?_,hd.mono hext,fun i c hi=>?_,hu⟩
   ·cases hm:K.imm ⟨w.heap.size,off,sp⟩ with
    | none=>exact hm
    | some v =>
     have:=hk.imm _ _ hm
     obtain ⟨vs,e,f,h1,_⟩:=Zd this
     have:=ZD h1
     simp at this
   ·have:=hc i c hi
    unfold CellOk
    split
    ·rename_i j es; exact this.1 j es rfl
    ·rename_i a b d f es; exact (this.2 a b d f es rfl).elim
    ·trivial
  ·rw [Qw hi] at hid
   obtain ⟨b,vs',hbox⟩:=hp.box id' e' cs' ver' hid
   refine ⟨b,vs',hext.blk _ _ hbox.blk,how _ _ hbox.own,hbox.base,hbox.heap,hbox.imm,hbox.den.mono hext,fun i c hi=>?_,hbox.under⟩
   exact (hbox.cell i c hi).mono hext (Nat.le_refl _) fun r n v hf ho=>⟨⟨hf.blk,hf.imm,hf.base⟩,how _ _ ho⟩
 ·by_cases hi:id' = id
  ·subst hi; rw [Qk] at hid; exact nomatch hid
  ·rw [Qw hi] at hid
   obtain ⟨r,h1,h2,h3,h4,h5⟩:=hp.tip id' e' n sz hid
   exact ⟨r,h1,h2,h3,⟨h4.blk,h4.imm,h4.base⟩,how _ _ h5⟩
 ·by_cases hi:id' = id
  ·subst hi; rw [Qk] at hid; exact nomatch hid
  ·rw [Qw hi] at hid; exact hk.more id' e' n sz hid
 ·obtain ⟨g1,g2,g3,g4⟩:=hk.fresh id' hv'.1
  exact ⟨by rw [Qw hv'.2]; exact g1,by simp [withBlk,hv'.2,g2],g3,g4⟩
 ·by_cases hi:id' = id
  ·subst hi; rw [Qk] at hid; cases hid; exact fun off v _=>f4 off v
  ·rw [Qw hi] at hid; exact hk.ver id' e' cs' ver' hid
 ·simp only [ow'] at hb
  rw [Q3j]
  split at hb
  ·omega
  ·have:=hk.own b k hb; omega
 ·by_cases hi:id' = id
  ·subst hi; rw [Qk] at hid; cases hid; cases ho
  ·rw [Qw hi] at hid
   exact (hp.fr id' o hid ho).mono hext (fun _=>rfl) fun b hb=>⟨rfl,how _ _ hb,fun _ _ h=>h⟩
end Go.Proofs.YtfdcjngclelnhaaGreat
