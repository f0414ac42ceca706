/- The evaluator: pure data, abstract values, abstract heaps, and a run of the model's own code over them. Nothing is proved here. -/
import Derived.Calls
import Derived.Scope
import Derived.Orders
set_option linter.unusedSectionVars false
set_option linter.unusedSimpArgs false
set_option linter.unusedVariables false
namespace Go.Proofs.YtobhpbnlbgbjaaaGreatDoor
open Go

inductive D where
  | bool (b : Bool)
  | int (k : IntKind) (n : Int)
  | str (s : List UInt8)
  /-- the nil slice -/
  | nils
  | slice (es : List D)
  | agg (cs : List D)

/-- who may append in place: full: nobody (the capacity is the length); tip: it grows, a mark in the heap tells its length; at: it grows, and lies in a box -/
inductive Own where
  | full
  | tip (id : Nat)
  | at (id off ver : Nat) (e : TypeId)

inductive AV where
  | dat (d : D)
  | own (g : Own) (es : List D)
  | ptr (o : Option (Nat × Nat))
  | ep (cs : List D) (off : Nat)
  | func (fn : Fn) (first captured : List AV)
  | nilFunc
  | iface (t : TypeId) (v : AV)
  | nilIface
  | agg (cs : List AV)
  | tuple (vs : List AV)
  /-- where the elements of a growing slice lie -/
  | sdata (id off ver : Nat) (e : TypeId) (es : List D)
  /-- where a free box's cell lies, at a version of the box -/
  | fp (id ver off : Nat)
  /-- a slice of a free box's cells, from one on; sz: an element's cells; its capacity reaches to the block's end -/
  | row (id ver off len sz : Nat)
  | mapv (o : Option Nat)
  /-- whatever stands in one cell: it is not looked at -/
  | any

inductive AObj where
  | cells (e : TypeId) (cs : List AV) (ver : Nat)
  | tip (e : TypeId) (n sz : Nat)
  /-- cells that may be written by whoever points there; ver: how often it grew; lim: above all boxes that it names; fz: so many may not be written any more; ex: these are the block's cells, all of them -/
  | free (e : TypeId) (cs : List AV) (ver lim fz : Nat) (ex : Bool)
  /-- a map: keys, values, when each was put in -/
  | mp (es : List (D × AV × Nat)) (clock lim : Nat)
  | sit (s : List UInt8) (pos : Nat)
  | mit (m : Option Nat) (since : Nat) (seen : List Nat) (last : Nat)

/-- free: are a type's variables, and slices of it, free boxes? still: do a function's results stay as they are? quiet: is it looked at what a call of it turned? leave: how many new boxes may a call of it leave in a region that draws its order? -/
structure ModeT where
  free : TypeId → Bool
  still : FuncId → Bool
  quiet : FuncId → Bool
  leave : FuncId → Nat
variable [mode : Inhabited ModeT]
def isFree (t : TypeId) : Bool := mode.default.free t
def isQuiet (f : FuncId) : Bool := mode.default.quiet f
def isStill (f : FuncId) : Bool := mode.default.still f

abbrev Heap := List (Option AObj)

structure St where
  tmps : List AV
  heap : Heap

inductive Ex where
  | normal
  | exit (id : Nat)
  | goto (l : Nat)
  | ret

def undefA : AV := .tuple []

def D.cells : D → List D
  | .agg cs => cs
  | d => [d]

def allDat : List AV → Option (List D)
  | [] => some []
  | .dat d :: r => (allDat r).map (d :: ·)
  | _ :: _ => none

def mkAgg (cs : List AV) : AV :=
  match allDat cs with
  | some ds => .dat (.agg ds)
  | none => .agg cs

def AV.cells : AV → List AV
  | .dat (.agg ds) => ds.map .dat
  | .agg cs => cs
  | v => [v]

/-- may it stand in one cell? -/
def AV.isCell : AV → Bool
  | .dat (.agg _) => false
  | .agg _ => false
  | .tuple _ => false
  | _ => true

mutual
def AV.under (n : Nat) : AV → Bool
  | .own (.tip i) _ => decide (i < n)
  | .own (.at i _ _ _) _ => decide (i < n)
  | .sdata i _ _ _ _ => decide (i < n)
  | .fp i _ _ => decide (i < n)
  | .row i _ _ _ _ => decide (i < n)
  | .mapv (some i) => decide (i < n)
  | .ptr (some (i, _)) => decide (i < n)
  | .func _ a c => undersL n a && undersL n c
  | .iface _ v => v.under n
  | .agg cs => undersL n cs
  | .tuple vs => undersL n vs
  | _ => true
def undersL (n : Nat) : List AV → Bool
  | [] => true
  | v :: r => v.under n && undersL n r
end

def sealC : AV → AV
  | .own _ es => .dat (.slice es)
  | v => v
def sealV : AV → AV
  | .own _ es => .dat (.slice es)
  | .agg cs => mkAgg (cs.map sealC)
  | v => v
def sealR : AV → AV
  | .tuple vs => .tuple (vs.map sealV)
  | v => sealV v

/-- a value that may stand inside a slice -/
def AV.toD (v : AV) : Option D :=
  match sealV v with
  | .dat d => some d
  | _ => none

def cst1 : Value → Option AV
  | .bool b => some (.dat (.bool b))
  | .int k n => some (.dat (.int k n))
  | .string s => some (.dat (.str s.data.toList))
  | .pointer none => some (.ptr none)
  | .slice none 0 0 => some (.dat .nils)
  | .nilFunc => some .nilFunc
  | .nilIface => some .nilIface
  | .map none => some (.mapv none)
  | _ => none

def cstL : List Value → Option (List AV)
  | [] => some []
  | v :: r => match cst1 v with
    | some a => (cstL r).map (a :: ·)
    | none => none

def cstV : Value → Option AV
  | .agg cs => (cstL cs.toList).map mkAgg
  | v => cst1 v

def evalX (ts : List AV) : Operand → Option AV
  | .tmp t => some (ts.getD t undefA)
  | .const v => cstV v
  | .global _ => none
  | .func f => some (.func (.func f) [] [])

def evalL (ts : List AV) : List Operand → Option (List AV)
  | [] => some []
  | x :: r => match evalX ts x with
    | some a => (evalL ts r).map (a :: ·)
    | none => none

def allocObj (place : Option Nat) (h : Heap) (o : AObj) : Option (Nat × Heap) :=
  match place with
  | none => some (h.length, h ++ [some o])
  | some r => match h[r]? with
    | some none => some (r, h.set r (some o))
    | _ => none

def sealT : AV → AV
  | .own .full es => .own .full es
  | .own _ es => .dat (.slice es)
  | v => v

/-- above all boxes that these cells name: a bound that was, or the heap's end -/
def limA (h : Heap) (lim : Nat) (ws : List AV) : Option Nat := if undersL lim ws = true then some lim else if undersL h.length ws = true then some (max lim h.length) else none

/-- a new free box -/
def newFree (place : Option Nat) (h : Heap) (e : TypeId) (cs : List AV) (ex : Bool) : Option (Nat × Heap) :=
  match limA h 0 cs with
  | some lim => if cs.all AV.isCell = true then allocObj place h (.free e cs 0 lim 0 ex) else none
  | none => none

/-- a new variable of these cells -/
def newVarA (place : Option Nat) (h : Heap) (e : TypeId) (cs : List AV) : Option (AV × Heap) :=
  if isFree e then (match newFree place h e cs true with | some (id, h') => some (.fp id 0 0, h') | none => none) else
  match allocObj place h (.cells e (cs.map sealT) 0) with
  | some (id, h') => if undersL (id + 1) (cs.map sealT) then some (.ptr (some (id, 0)), h') else none
  | none => none

def zeroA (P : Program) (t : TypeId) : Option AV := ((P.info? t).bind (·.zero)).bind cstV

def sizeA (P : Program) (t : TypeId) : Option Nat := (P.info? t).map (·.size)

def isAggA (P : Program) (t : TypeId) : Option Bool :=
  match P.underlying t with
  | some (.struct _) | some (.array _ _) => some true
  | some _ => some false
  | none => none

/-- part of a row of cells, as a value of a type -/
def partA (P : Program) (t : TypeId) (cs : List AV) (off : Nat) : Option AV :=
  match isAggA P t, sizeA P t with
  | some true, some n => if off + n ≤ cs.length then some (mkAgg ((cs.drop off).take n)) else none
  | some false, some _ => cs[off]?
  | _, _ => none

def loadA (P : Program) (t : TypeId) (x : AV) (h : Heap) : Option AV :=
  match x with
  | .ptr (some (id, off)) => match h[id]? with
    | some (some (.cells _ cs _)) => partA P t cs off
    | _ => none
  | .fp id ver off => match h[id]? with
    | some (some (.free _ cs v _ _ _)) => if v = ver then partA P t cs off else none
    | _ => none
  | .ep cs off => partA P t (cs.map .dat) off
  | _ => none

def spliceL (cs : List AV) (off : Nat) (vs : List AV) : List AV := cs.take off ++ vs ++ cs.drop (off + vs.length)

/-- a cell is stored at (id, off): a growing slice settles there, if its mark fits -/
def settle (h : Heap) (id off ver : Nat) (old : Option AV) : AV → AV × Heap
  | .own (.tip i) es => match h[i]? with
    | some (some (.tip e n _)) => if n = es.length ∧ i ≠ id then (.own (.at id off ver e) es, h.set i none) else (.dat (.slice es), h)
    | _ => (.dat (.slice es), h)
  | .own (.at i o v e) es => match old with
    | some (.own (.at i' o' v' e') es') => if i = id ∧ o = off ∧ i' = id ∧ o' = off ∧ v = v' ∧ e = e' ∧ es.length = es'.length then (.own (.at i o v e) es, h) else (.dat (.slice es), h)
    | _ => (.dat (.slice es), h)
  | .own .full es => (.own .full es, h)
  | v => (v, h)

/-- cells stored from 'off' on; each takes a version of its own -/
def settleL (id : Nat) (cs : List AV) : Nat → Nat → Heap → List AV → List AV × Heap
  | _, _, h, [] => ([], h)
  | off, ver, h, v :: r =>
    let (v', h') := settle h id off ver cs[off]? v
    let (r', h'') := settleL id cs (off + 1) (ver + 1) h' r
    (v' :: r', h'')

def storeA (P : Program) (t : TypeId) (x v' : AV) (h : Heap) : Option Heap :=
  match x, sizeA P t with
  | .ptr (some (id, off)), some n => match h[id]? with
    | some (some (.cells e cs ver)) =>
      let vs := v'.cells
      if vs.length = n ∧ off + n ≤ cs.length ∧ vs.all AV.isCell = true then
        let (ws, h') := settleL id cs off ver h vs
        if undersL (id + 1) ws = true then some (h'.set id (some (.cells e (spliceL cs off ws) (ver + n)))) else none
      else none
    | _ => none
  | .fp id ver off, some n => match h[id]? with
    | some (some (.free e cs v lim fz ex)) =>
      if v = ver ∧ v'.cells.length = n ∧ off + n ≤ cs.length ∧ v'.cells.all AV.isCell = true ∧ fz ≤ off then
        (match limA h lim v'.cells with
         | some lim' => some (h.set id (some (.free e (spliceL cs off v'.cells) v lim' fz ex)))
         | none => none)
      else none
    | _ => none
  | _, _ => none

/-- fill: the parts of a composite literal, at their places -/
def fillA (place : Nat → Option (Nat × Nat)) (cs : List AV) : List (Nat × AV) → Option (List AV)
  | [] => some cs
  | (i, v) :: rest => match place i with
    | none => none
    | some (off, size) =>
      let vs := v.cells
      if vs.length = size ∧ off + size ≤ cs.length then fillA place (spliceL cs off vs) rest else none

def evalParts (ts : List AV) : List (Nat × Operand) → Option (List (Nat × AV))
  | [] => some []
  | (i, x) :: r => match evalX ts x with
    | some a => (evalParts ts r).map ((i, a) :: ·)
    | none => none

def fieldPlaces (P : Program) : List Field → Option (List (Nat × Nat))
  | [] => some []
  | f :: r => match sizeA P f.type with
    | some n => (fieldPlaces P r).map ((f.offset, n) :: ·)
    | none => none

def buildA (P : Program) (t : TypeId) (parts : List (Nat × AV)) : Option AV :=
  match zeroA P t, P.underlying t with
  | some z, some (.struct fields) => match fieldPlaces P fields.toList with
    | some pl => (fillA (fun i => pl[i]?) z.cells parts).map mkAgg
    | none => none
  | some z, some (.array _ elem) => match sizeA P elem with
    | some n => (fillA (fun i => some (i * n, n)) z.cells parts).map mkAgg
    | none => none
  | _, _ => none

/-- a slice literal: each place is given once, in the order of the text, or is zero -/
def fillS (sz : Nat) (es : List D) : List (Nat × AV) → Option (List D)
  | [] => some es
  | (i, v) :: rest => match v.toD with
    | some d => if d.cells.length = sz ∧ i < es.length then fillS sz (es.set i d) rest else none
    | none => none

def buildSliceA (P : Program) (t : TypeId) (len : Nat) (parts : List (Nat × AV)) : Option AV :=
  match P.underlying t with
  | some (.slice elem) => match sizeA P elem, zeroA P elem with
    | some n, some z => match z.toD with
      | some zd => if len * n ≤ 2 ^ 24 ∧ zd.cells.length = n ∧ n ≠ 0 then (fillS n (List.replicate len zd) parts).map (.own .full) else none
      | none => none
    | _, _ => none
  | _ => none

/-- the same, in a free box: each place is given once, or is zero -/
def fillF (sz : Nat) (cs : List AV) : List (Nat × AV) → Option (List AV)
  | [] => some cs
  | (i, v) :: rest => if v.cells.length = sz ∧ v.cells.all AV.isCell = true ∧ (i + 1) * sz ≤ cs.length then fillF sz (spliceL cs (i * sz) v.cells) rest else none

def repL (zs : List AV) : Nat → List AV
  | 0 => []
  | n + 1 => zs ++ repL zs n

def buildSliceF (P : Program) (place : Option Nat) (h : Heap) (t : TypeId) (len : Nat) (parts : List (Nat × AV)) : Option (AV × Heap) :=
  match P.underlying t with
  | some (.slice elem) => match sizeA P elem, zeroA P elem with
    | some n, some z => if len * n ≤ 2 ^ 24 ∧ z.cells.length = n ∧ n ≠ 0 then
        (match fillF n (repL z.cells len) parts with
         | some cs => (match newFree place h elem cs true with
           | some (id, h') => some (.row id 0 0 len n, h')
           | none => none)
         | none => none)
      else none
    | _, _ => none
  | _ => none

def freeSlice (P : Program) (t : TypeId) : Bool := match P.underlying t with | some (.slice e) => isFree e | _ => false

def makeSliceA (P : Program) (place : Option Nat) (h : Heap) (t : TypeId) (len cap : AV) : Option (AV × Heap) :=
  match P.underlying t, len, cap with
  | some (.slice elem), .dat (.int _ l), .dat (.int _ c) => match sizeA P elem, zeroA P elem, P.info? elem with
    | some n, some z, some info => if 0 ≤ l ∧ l ≤ c ∧ c * n ≤ 2 ^ 24 ∧ c * info.bytes ≤ 2 ^ 46 ∧ c ≤ 2 ^ 46 ∧ z.cells.length = n ∧ n ≠ 0 ∧ isFree elem = true then
        (match newFree place h elem (repL z.cells c.toNat) true with
         | some (id, h') => some (.row id 0 0 l.toNat n, h')
         | none => none)
      else none
    | _, _, _ => none
  | _, _, _ => none

/-- a slice's cells, as they are now -/
def cellsOf (h : Heap) (sz : Nat) : AV → Option (List AV)
  | .dat .nils => some []
  | .dat (.slice es) => if es.all (fun e => e.cells.length == sz && e.cells.all fun | .agg _ => false | _ => true) then some ((es.flatMap D.cells).map .dat) else none
  | .own _ es => if es.all (fun e => e.cells.length == sz && e.cells.all fun | .agg _ => false | _ => true) then some ((es.flatMap D.cells).map .dat) else none
  | .row id ver off len n => match h[id]? with
    | some (some (.free _ cs v _ _ _)) => if v = ver ∧ n = sz ∧ off + len * sz ≤ cs.length then some ((cs.drop off).take (len * sz)) else none
    | _ => none
  | .dat (.str s) => if sz = 1 then some (s.map fun b => .dat (.int .u8 b.toNat)) else none
  | _ => none

def elems : AV → Option (List D)
  | .dat .nils => some []
  | .dat (.slice es) => some es
  | .own _ es => some es
  | _ => none

def sized (sz : Nat) (es : List D) : Bool :=
  match es with
  | [] => true
  | e :: _ => e.cells.length == sz

/-- append's bound: what is asked for stays below 2^48 bytes -/
def roomOk (need bytes : Nat) : Bool := decide ((2 * need) * bytes ≤ 2 ^ 48 ∧ need ≤ 2 ^ 47)

def D.flat : D → Bool
  | .agg _ => false
  | _ => true

def fitsD (sz : Nat) (e : D) : Bool := e.cells.length == sz && e.cells.all D.flat

/-- what is appended, as elements of this size -/
def moreA (sz : Nat) : AV → Option (List D)
  | .dat .nils => some []
  | .dat (.slice es) => if es.all (fitsD sz) then some es else none
  | .own _ es => if es.all (fitsD sz) then some es else none
  | .dat (.str s) => if sz = 1 then some (s.map fun b => .int .u8 b.toNat) else none
  | _ => none

/-- append onto a free box's slice, or where nothing is -/
def appendF (P : Program) (argTypes : List TypeId) (place : Option Nat) (s x : AV) (h : Heap) : Option (AV × Heap) :=
  match argTypes with
  | sType :: xType :: _ => match P.underlying sType, P.underlying xType with
    | some (.slice elem), some xd => match (match xd with | .int _ => true | _ => false), (P.info? elem) with
      | false, some info => match cellsOf h info.size x with
        | some xs =>
          if info.size = 0 then none else
          if xs.isEmpty then some (s, h) else
          if info.zero.map (fun v => v.cells.size) ≠ some info.size then none else
          if xs.length % info.size ≠ 0 then none else
          match s with
          | .row id ver off len n => match h[id]? with
            | some (some (.free e cs v lim fz _)) =>
              if v = ver ∧ n = info.size ∧ e = elem ∧ off + len * n ≤ cs.length ∧ fz ≤ off + len * n ∧ roomOk (len + xs.length / n) info.bytes = true then
                (match limA h lim xs with
                 | some lim' => some (.row id (ver + 1) 0 (len + xs.length / n) n, h.set id (some (.free e ((cs.drop off).take (len * n) ++ xs) (ver + 1) lim' (fz - off) false)))
                 | none => none)
              else none
            | _ => none
          | _ =>
            if roomOk (xs.length / info.size) info.bytes = true then
              (match newFree place h elem xs false with
               | some (id, h') => some (.row id 0 0 (xs.length / info.size) info.size, h')
               | none => none)
            else none
        | none => none
      | _, _ => none
    | _, _ => none
  | _ => none

/-- is it appended to in a free box? -/
def intoFree (P : Program) (argTypes : List TypeId) : AV → Bool
  | .row _ _ _ _ _ => true
  | .dat .nils => (match argTypes with | t :: _ => (match P.underlying t with | some (.slice e) => isFree e | _ => false) | _ => false)
  | .own .full [] => (match argTypes with | t :: _ => (match P.underlying t with | some (.slice e) => isFree e | _ => false) | _ => false)
  | _ => false

def appendA (P : Program) (argTypes : List TypeId) (place : Option Nat) (s x : AV) (h : Heap) : Option (AV × Heap) :=
  if intoFree P argTypes s then appendF P argTypes place s x h else
  match argTypes with
  | sType :: xType :: _ => match P.underlying sType, P.underlying xType with
    | some (.slice elem), some xd => match (match xd with | .int _ => true | _ => false), (P.info? elem) with
      | false, some info => match moreA info.size x with
        | some xs =>
          if info.size = 0 then none else
          if xs.isEmpty then (match elems s with | some _ => some (s, h) | none => none) else
          if info.zero.map (fun v => v.cells.size) ≠ some info.size then none else
          match s with
          | .own (.tip id) es => match h[id]? with
            | some (some (.tip e n sz)) =>
              if n = es.length ∧ e = elem ∧ sz = info.size ∧ roomOk (n + xs.length) info.bytes = true then some (.own (.tip id) (es ++ xs), h.set id (some (.tip e (n + xs.length) sz))) else none
            | _ => none
          | .own (.at b off v e) es => match h[b]? with
            | some (some (.cells be cs ver)) => match cs[off]? with
              | some (.own (.at b' off' v' e') es') =>
                if b' = b ∧ off' = off ∧ v' = v ∧ e' = e ∧ e = elem ∧ es'.length = es.length ∧ es.length ≠ 0 ∧ sized info.size es = true ∧ roomOk (es.length + xs.length) info.bytes = true then
                  match allocObj place (h.set b (some (.cells be (cs.set off (.dat (.slice es'))) ver))) (.tip elem (es.length + xs.length) info.size) with
                  | some (id, h') => some (.own (.tip id) (es ++ xs), h')
                  | none => none
                else none
              | _ => none
            | _ => none
          | .own .full es =>
            if sized info.size es = true ∧ roomOk (es.length + xs.length) info.bytes = true then
              match allocObj place h (.tip elem (es.length + xs.length) info.size) with
              | some (id, h') => some (.own (.tip id) (es ++ xs), h')
              | none => none
            else none
          | .dat .nils =>
            if roomOk xs.length info.bytes = true then
              match allocObj place h (.tip elem xs.length info.size) with
              | some (id, h') => some (.own (.tip id) xs, h')
              | none => none
            else none
          | _ => none
        | none => none
      | _, _ => none
    | _, _ => none
  | _ => none

def intOp (op : BinOp) (k : IntKind) (a b : Int) : Option D :=
  match op with
  | .add => some (.int k (k.wrap (a + b)))
  | .sub => some (.int k (k.wrap (a - b)))
  | .mul => some (.int k (k.wrap (a * b)))
  | .quo => if b = 0 then none else some (.int k (k.wrap (a.tdiv b)))
  | .rem => if b = 0 then none else some (.int k (a.tmod b))
  | .and => some (.int k (k.wrap (BitVec.ofInt k.bits a &&& BitVec.ofInt k.bits b).toNat))
  | .or => some (.int k (k.wrap (BitVec.ofInt k.bits a ||| BitVec.ofInt k.bits b).toNat))
  | .xor => some (.int k (k.wrap (BitVec.ofInt k.bits a ^^^ BitVec.ofInt k.bits b).toNat))
  | .andNot => some (.int k (k.wrap (BitVec.ofInt k.bits a &&& ~~~BitVec.ofInt k.bits b).toNat))
  | .eql => some (.bool (a == b))
  | .neq => some (.bool (a != b))
  | .lss => some (.bool (decide (a < b)))
  | .leq => some (.bool (decide (a ≤ b)))
  | .gtr => some (.bool (decide (a > b)))
  | .geq => some (.bool (decide (a ≥ b)))
  | _ => none

def shiftOp (op : BinOp) (k : IntKind) (a b : Int) : Option D :=
  if b < 0 then none else
  match op with
  | .shl => some (.int k (k.wrap (a * 2 ^ (min b.toNat k.bits))))
  | .shr => some (.int k (a.fdiv (2 ^ (min b.toNat k.bits))))
  | _ => none

def strOp (op : BinOp) (a b : List UInt8) : Option D :=
  match op with
  | .add => if a.length + b.length ≤ 9223372036854775807 then some (.str (a ++ b)) else none
  | .eql => some (.bool (a == b))
  | .neq => some (.bool (!(a == b)))
  | .lss => some (.bool (Op.bytesLess a b))
  | .leq => some (.bool (Op.bytesLess a b || a == b))
  | .gtr => some (.bool (!(Op.bytesLess a b || a == b)))
  | .geq => some (.bool (!Op.bytesLess a b))
  | _ => none

/-- a part of a struct's data -/
def partD (P : Program) (t : TypeId) (cs : List D) (off : Nat) : Option D :=
  match isAggA P t, sizeA P t with
  | some true, some n => if off + n ≤ cs.length then some (.agg ((cs.drop off).take n)) else none
  | some false, some _ => cs[off]?
  | _, _ => none

/-- '==' of data of a type, by fields -/
def eqFieldsD (P : Program) (eq : TypeId → D → D → Option Bool) (xs ys : List D) : List Field → Option Bool
  | [] => some true
  | f :: r =>
    if f.name = "_" then none else
    match partD P f.type xs f.offset, partD P f.type ys f.offset with
    | some a, some b => match eq f.type a b with
      | some true => eqFieldsD P eq xs ys r
      | some false => some false
      | none => none
    | _, _ => none

def eqD (P : Program) : Nat → TypeId → D → D → Option Bool
  | 0, _, _, _ => none
  | d + 1, t, x, y =>
    match P.underlying t, x, y with
    | some .bool, .bool a, .bool b => some (a == b)
    | some (.int _), .int k a, .int k' b => if k = k' then some (a == b) else none
    | some .string, .str a, .str b => some (a == b)
    | some (.struct fields), .agg xs, .agg ys => if P.stoodInHeld t then none else eqFieldsD P (eqD P d) xs ys fields.toList
    | _, _, _ => none

def eqA (P : Program) (t : TypeId) (x y : AV) : Option Bool :=
  match P.underlying t, x, y with
  | some .bool, .dat (.bool a), .dat (.bool b) => some (a == b)
  | some (.struct _), .dat (.agg a), .dat (.agg b) => if P.eqGuardType P.depth t then none else eqD P 8 t (.agg a) (.agg b)
  | some (.pointer _), .ptr none, .ptr b => some b.isNone
  | some (.pointer _), .ptr (some _), .ptr none => some false
  | some (.pointer e), .ptr (some a), .ptr (some b) => if a.1 = b.1 ∧ sizeA P e ≠ some 0 ∧ (sizeA P e).isSome then some (a == b) else none
  | some (.pointer _), .ep _ _, .ptr none => some false
  | some (.slice _), .dat .nils, .dat .nils => some true
  | some (.slice _), .own _ _, .dat .nils => some false
  | some (.slice _), .row _ _ _ _ _, .dat .nils => some false
  | some (.pointer _), .fp _ _ _, .ptr none => some false
  | some (.pointer e), .fp i v o, .fp i' v' o' => if i = i' ∧ v = v' ∧ sizeA P e ≠ some 0 ∧ (sizeA P e).isSome then some (o == o') else none
  | some (.map _ _), .mapv o, .mapv none => some o.isNone
  | some (.slice _), .dat (.slice _), .dat .nils => some false
  | some (.func _ _ _), .nilFunc, .nilFunc => some true
  | some (.func _ _ _), .func _ _ _, .nilFunc => some false
  | _, _, _ => none

def binA (P : Program) (op : BinOp) (t : TypeId) (x y : AV) : Option AV :=
  match x, y with
  | .dat (.int k a), .dat (.int k' b) =>
    match op with
    | .shl | .shr => (shiftOp op k a b).map .dat
    | op => if k = k' then (intOp op k a b).map .dat else none
  | .dat (.str a), .dat (.str b) => (strOp op a b).map .dat
  | .any, _ => none
  | _, .any => none
  | x, y => match op with
    | .eql => (eqA P t x y).map fun b => .dat (.bool b)
    | .neq => (eqA P t x y).map fun b => .dat (.bool (!b))
    | _ => none

def unA (op : UnOp) (x : AV) : Option AV :=
  match op, x with
  | .neg, .dat (.int k n) => some (.dat (.int k (k.wrap (0 - n))))
  | .not, .dat (.bool b) => some (.dat (.bool (!b)))
  | _, _ => none

def bytesOf : List D → Option (List UInt8)
  | [] => some []
  | .int .u8 n :: r => (bytesOf r).map (UInt8.ofNat n.toNat :: ·)
  | _ :: _ => none

def convPtr (P : Program) (src dst : TypeId) (x : AV) (h : Heap) : Option AV :=
  match P.underlying src, P.underlying dst, x with
  | some (.pointer _), some .unsafePointer, .ptr none => some (.ptr none)
  | some (.pointer t), some .unsafePointer, .ptr (some (id, off)) => match h[id]? with
    | some (some (.cells _ cs _)) => if off < cs.length ∧ sizeA P t ≠ some 0 ∧ (sizeA P t).isSome then some x else none
    | _ => none
  | some .unsafePointer, some (.pointer _), .ptr none => some (.ptr none)
  | some .unsafePointer, some (.pointer u), .ptr (some (id, off)) => match h[id]? with
    | some (some (.cells e cs _)) => if (sizeA P u).isSome ∧ liesAt P P.depth e (cs.length / P.cellsOf e) off u 1 = true then some x else none
    | _ => none
  | _, _, _ => none

def convA (P : Program) (src dst : TypeId) (x : AV) : Option AV :=
  match P.underlying src, P.underlying dst, x with
  | some _, some (.int k), .dat (.int _ n) => some (.dat (.int k (k.wrap n)))
  | some _, some .string, .dat (.str s) => some (.dat (.str s))
  | some (.slice e), some .string, x => match P.underlying e, elems x with
    | some (.int .u8), some es => (bytesOf es).map fun s => .dat (.str s)
    | _, _ => none
  | some .string, some (.slice e), .dat (.str s) => match P.underlying e, sizeA P e with
    | some (.int .u8), some 1 => some (.dat (.slice (s.map fun b => .int .u8 b.toNat)))
    | _, _ => none
  | _, _, _ => none

def fieldAddrA (P : Program) (t : TypeId) (x : AV) (f : Nat) : Option AV :=
  match P.underlying t with
  | some (.struct fields) => match fields[f]? with
    | some fd => match sizeA P fd.type with
      | some (_ + 1) => match x with
        | .ptr (some (id, off)) => some (.ptr (some (id, off + fd.offset)))
        | .fp id ver off => some (.fp id ver (off + fd.offset))
        | .ep cs off => some (.ep cs (off + fd.offset))
        | _ => none
      | _ => none
    | none => none
  | _ => none

def fieldA (P : Program) (t : TypeId) (x : AV) (f : Nat) : Option AV :=
  match P.underlying t with
  | some (.struct fields) => match fields[f]? with
    | some fd => match x with
      | .dat (.agg ds) => partA P fd.type (ds.map .dat) fd.offset
      | .agg cs => partA P fd.type cs fd.offset
      | _ => none
    | none => none
  | _ => none

def indexAddrA (P : Program) (t : TypeId) (x i : AV) : Option AV :=
  match i with
  | .dat (.int _ i) =>
    if i < 0 then none else
    match P.underlying t with
    | some (.slice elem) => match x with
      | .row id ver off len n => if sizeA P elem = some n ∧ i < len then some (.fp id ver (off + i.toNat * n)) else none
      | x => match sizeA P elem, elems x with
        | some n, some es => match es[i.toNat]? with
          | some e => if e.cells.length = n then some (.ep e.cells 0) else none
          | none => none
        | _, _ => none
    | some (.array len elem) => match sizeA P elem with
      | some n =>
        if i < len then
          match x with
          | .ptr (some (id, off)) => some (.ptr (some (id, off + i.toNat * n)))
          | .fp id ver off => some (.fp id ver (off + i.toNat * n))
          | .ep cs off => some (.ep cs (off + i.toNat * n))
          | _ => none
        else none
      | none => none
    | _ => none
  | _ => none

def indexA (P : Program) (t : TypeId) (x i : AV) : Option AV :=
  match i with
  | .dat (.int _ i) =>
    if i < 0 then none else
    match P.underlying t, x with
    | some .string, .dat (.str s) => match s[i.toNat]? with
      | some b => some (.dat (.int .u8 b.toNat))
      | none => none
    | some (.array len elem), x => match sizeA P elem with
      | some n =>
        if i < len then
          match x with
          | .dat (.agg ds) => partA P elem (ds.map .dat) (i.toNat * n)
          | .agg cs => partA P elem cs (i.toNat * n)
          | _ => none
        else none
      | none => none
    | _, _ => none
  | _ => none

/-- a bound of a slice expression: none is the default -/
def boundA (ts : List AV) (o : Option Operand) (dflt top : Nat) : Option Nat :=
  match o with
  | none => some dflt
  | some x => match evalX ts x with
    | some (.dat (.int _ i)) => if 0 ≤ i ∧ i ≤ top then some i.toNat else none
    | _ => none

def sliceA (P : Program) (t : TypeId) (x : AV) (lo hi mx : Option Operand) (ts : List AV) : Option AV :=
  match P.underlying t, x with
  | some .string, .dat (.str s) =>
    if mx.isSome then none else
    match boundA ts hi s.length s.length with
    | some h => match boundA ts lo 0 h with
      | some l => some (.dat (.str ((s.drop l).take (h - l))))
      | none => none
    | none => none
  | some (.slice elem), .row id ver off len n => if sizeA P elem ≠ some n then none else
    match mx with
    | none => match boundA ts hi len len with
      | some h => match boundA ts lo 0 h with
        | some l => if l = 0 then some (.row id ver off h n) else if l < h then some (.row id ver (off + l * n) (h - l) n) else some (.dat (.slice []))
        | none => none
      | none => none
    | some m => match hi with
      | none => none
      | some hx => match boundA ts (some m) 0 len with
        | some mm => match boundA ts (some hx) 0 mm with
          | some h => match boundA ts lo 0 h with
            | some l => if l = mm then some (.own .full []) else none
            | none => none
          | none => none
        | none => none
  | some (.slice elem), x => match sizeA P elem, elems x with
    | some n, some es =>
      if sized n es = true then
        match mx with
        | none => match boundA ts hi es.length es.length with
          | some h => match boundA ts lo 0 h with
            | some l =>
              let r := (es.drop l).take (h - l)
              match x with
              | .dat .nils => some (.dat .nils)
              | .own .full _ => if h = es.length then some (.own .full r) else some (.dat (.slice r))
              | _ => some (.dat (.slice r))
            | none => none
          | none => none
        | some m => match hi with
          | none => none
          | some hx => match boundA ts (some m) 0 es.length with
            | some mm => match boundA ts (some hx) 0 mm with
              | some h => match boundA ts lo 0 h with
                | some l =>
                  let r := (es.drop l).take (h - l)
                  match x with
                  | .dat .nils => some (.dat .nils)
                  | .own .full _ => if h = mm then some (.own .full r) else some (.dat (.slice r))
                  | _ => if h = mm then some (.own .full r) else some (.dat (.slice r))
                | none => none
              | none => none
            | none => none
      else none
    | _, _ => none
  | _, _ => none

def lenA (P : Program) (t : TypeId) (x : AV) : Option AV :=
  match P.underlying t, x with
  | some .string, .dat (.str s) => some (.dat (.int .i64 s.length))
  | some (.slice _), .row _ _ _ len _ => some (.dat (.int .i64 len))
  | some (.slice _), x => (elems x).map fun es => .dat (.int .i64 es.length)
  | some (.array n _), _ => some (.dat (.int .i64 n))
  | some (.map _ _), .mapv none => some (.dat (.int .i64 0))
  | _, _ => none

/-- are two keys the same? -/
def keyEq : D → D → Option Bool
  | .int k a, .int k' b => if k = k' then some (a == b) else none
  | .str a, .str b => some (a == b)
  | .bool a, .bool b => some (a == b)
  | _, _ => none

def findA (k : D) : List (D × AV × Nat) → Nat → Option (Option (Nat × AV))
  | [], _ => some none
  | (k', v, _) :: r, i => match keyEq k k' with
    | some true => some (some (i, v))
    | some false => findA k r (i + 1)
    | none => none

/-- a key of a type, as it may stand in a map -/
def keyOk (P : Program) (t : TypeId) : D → Bool
  | .int k _ => match P.underlying t with | some (.int k') => k == k' | _ => false
  | .str _ => match P.underlying t with | some .string => true | _ => false
  | .bool _ => match P.underlying t with | some .bool => true | _ => false
  | _ => false

def lookupA (P : Program) (t : TypeId) (x i : AV) (commaOk : Bool) (h : Heap) : Option AV :=
  match P.underlying t, i with
  | some (.map kt et), .dat k => if keyOk P kt k then
      (match (match x with
          | .mapv none => some []
          | .mapv (some id) => (match h[id]? with | some (some (.mp es _ _)) => some es | _ => none)
          | _ => none) with
       | some es => (match findA k es 0 with
         | some (some (_, v)) => some (if commaOk then .tuple [v, .dat (.bool true)] else v)
         | some none => (zeroA P et).map fun z => if commaOk then .tuple [z, .dat (.bool false)] else z
         | none => none)
       | none => none)
    else none
  | _, _ => none

def setVal (v : AV) : List (D × AV × Nat) → Nat → List (D × AV × Nat)
  | [], _ => []
  | (k, _, b) :: r, 0 => (k, v, b) :: r
  | e :: r, i + 1 => e :: setVal v r i

def mapUpdateA (P : Program) (t : TypeId) (x i v : AV) (h : Heap) : Option Heap :=
  match P.underlying t, x, i with
  | some (.map kt _), .mapv (some id), .dat k => if keyOk P kt k then
      (match h[id]? with
       | some (some (.mp es clock lim)) => (match findA k es 0, limA h lim [v] with
         | some (some (j, _)), some lim' => some (h.set id (some (.mp (setVal v es j) clock lim')))
         | some none, some lim' => some (h.set id (some (.mp (es ++ [(k, v, clock)]) (clock + 1) lim')))
         | _, _ => none)
       | _ => none)
    else none
  | _, _, _ => none

/-- an iterator over a text, or over a map -/
def rangeA (P : Program) (place : Option Nat) (t : TypeId) (x : AV) (h : Heap) : Option (AV × Heap) :=
  match (match P.underlying t, x with
      | some .string, .dat (.str s) => some (AObj.sit s 0)
      | some (.map _ _), .mapv none => some (AObj.mit none 0 [] 0)
      | some (.map _ _), .mapv (some id) => (match h[id]? with
        | some (some (.mp _ clock _)) => some (AObj.mit (some id) clock [] clock)
        | _ => none)
      | _, _ => none) with
  | some o => match allocObj place h o with
    | some (id, h') => some (.ptr (some (id, 0)), h')
    | none => none
  | none => none

/-- the next byte of a text; a map is over if nothing is in it -/
def nextA (x : AV) (isString : Bool) (h : Heap) : Option (AV × Heap) :=
  match x, isString with
  | .ptr (some (id, 0)), true => match h[id]? with
    | some (some (.sit s pos)) => match s[pos]? with
      | some b => if b.toNat < 128 then some (.tuple [.dat (.bool true), .dat (.int .i64 pos), .dat (.int .i32 b.toNat)], h.set id (some (.sit s (pos + 1)))) else none
      | none => some (.tuple [.dat (.bool false)], h)
    | _ => none
  | .ptr (some (id, 0)), false => match h[id]? with
    | some (some (.mit none _ _ _)) => some (.tuple [.dat (.bool false)], h)
    | some (some (.mit (some m) _ _ _)) => match h[m]? with
      | some (some (.mp [] _ _)) => some (.tuple [.dat (.bool false)], h)
      | _ => none
    | _ => none
  | _, _ => none

def mm2 (isMax : Bool) : AV → AV → Option AV
  | .dat (.int k x), .dat (.int _ y) => some (.dat (.int k (if isMax then (if y > x then y else x) else (if y < x then y else x))))
  | _, _ => none

def minMaxA (isMax : Bool) : AV → List AV → Option AV
  | a, [] => some a
  | a, b :: r => match mm2 isMax a b with
    | some c => minMaxA isMax c r
    | none => none

def keep (h : Heap) (v : Option AV) : Option (AV × Heap) := v.map fun a => (a, h)

/-- unsafe.String of a growing slice's bytes -/
def unsafeStringA (P : Program) (pt : TypeId) (p n : AV) (h : Heap) : Option AV :=
  match p, n with
  | .ptr none, .dat (.int _ 0) => some (.dat (.str []))
  | .sdata b off v e es, .dat (.int _ n) =>
    if n < 0 then none else
    if n = 0 then some (.dat (.str [])) else
    match h[b]?, P.underlying pt with
    | some (some (.cells _ cs _)), some (.pointer u) => match cs[off]? with
      | some (.own (.at b' off' v' e') es') =>
        if b' = b ∧ off' = off ∧ v' = v ∧ e' = e ∧ es'.length = es.length ∧ P.cellsOf e = 1 ∧ n.toNat ≤ es.length ∧ sameLayout P P.depth e u = true ∧ n ≤ 9223372036854775807 then (bytesOf (es.take n.toNat)).map fun s => .dat (.str s) else none
      | _ => none
    | _, _ => none
  | _, _ => none

def builtinA (P : Program) (b : Builtin) (argTypes : List TypeId) (place : Option Nat) (args : List AV) (h : Heap) : Option (AV × Heap) :=
  match b, argTypes, args with
  | .len, t :: _, x :: _ => (lenA P t x).map fun v => (v, h)
  | .append, ts, s :: x :: _ => appendA P ts place s x h
  | .unsafeSliceData, _, [.dat .nils] => some (.ptr none, h)
  | .unsafeSliceData, _, [.own (.at b off v e') (e :: es)] => some (.sdata b off v e' (e :: es), h)
  | .unsafeString, pt :: _, [p, n] => keep h (unsafeStringA P pt p n h)
  | .min, _, a :: r => keep h (minMaxA false a r)
  | .max, _, a :: r => keep h (minMaxA true a r)
  | _, _, _ => none

def nilCheckA (x : AV) : Option AV :=
  match x with
  | .ptr none => none
  | .nilIface => none
  | .nilFunc => none
  | .any => none
  | .func (.func f) a c => some (.func (.func f) a c)
  | .func _ _ _ => none
  | x => some x

abbrev CallF := FuncId → List AV → Heap → Option (AV × Heap)

def callA (P : Program) (callf : CallF) (place : Option Nat) (c : Call) (ts : List AV) (h : Heap) : Option (AV × Heap) :=
  match evalL ts c.args.toList with
  | none => none
  | some args => match c.callee with
    | .builtin b => builtinA P b c.argTypes.toList place args h
    | .value x => match evalX ts x with
      | some (.func (.func f) first captured) => callf f (first ++ args ++ captured) h
      | _ => none
    | .invoke _ _ => none

def stepOp (P : Program) (callf : CallF) (place : Option Nat) (op : Op) (ts : List AV) (h : Heap) : Option (AV × Heap) :=
  match op with
  | .move x | .assign x => keep h (evalX ts x)
  | .pick c a b => match evalX ts c with
    | some (.dat (.bool t)) => keep h (if t then evalX ts a else evalX ts b)
    | _ => none
  | .alloc t => match zeroA P t with
    | some z => newVarA place h t z.cells
    | none => none
  | .box t x => match evalX ts x with
    | some v => newVarA place h t v.cells
    | none => none
  | .build t parts => match evalParts ts parts.toList with
    | some ps => keep h (buildA P t ps)
    | none => none
  | .buildSlice t len parts => match evalParts ts parts.toList with
    | some ps => if freeSlice P t then buildSliceF P place h t len ps else keep h (buildSliceA P t len ps)
    | none => none
  | .load t x => match evalX ts x with
    | some p => keep h (loadA P t p h)
    | none => none
  | .store t x y => match evalX ts x, evalX ts y with
    | some p, some v => (storeA P t p v h).map fun h' => (undefA, h')
    | _, _ => none
  | .nilCheck x => match evalX ts x with
    | some v => keep h (nilCheckA v)
    | none => none
  | .binOp op t x y _ => match evalX ts x, evalX ts y with
    | some a, some b => keep h (binA P op t a b)
    | _, _ => none
  | .unOp op _ x => match evalX ts x with
    | some a => keep h (unA op a)
    | none => none
  | .convert s d x => match evalX ts x with
    | some (.ptr o) => keep h (convPtr P s d (.ptr o) h)
    | some a => keep h (convA P s d a)
    | none => none
  | .makeFunc fn first captured => match evalL ts first.toList, evalL ts captured.toList with
    | some a, some c => some (.func fn a c, h)
    | _, _ => none
  | .slice t x lo hi mx => match evalX ts x with
    | some a => keep h (sliceA P t a lo hi mx ts)
    | none => none
  | .fieldAddr t x f => match evalX ts x with
    | some a => keep h (fieldAddrA P t a f)
    | none => none
  | .field t x f => match evalX ts x with
    | some a => keep h (fieldA P t a f)
    | none => none
  | .indexAddr t x i => match evalX ts x, evalX ts i with
    | some a, some b => keep h (indexAddrA P t a b)
    | _, _ => none
  | .index t x i => match evalX ts x, evalX ts i with
    | some a, some b => keep h (indexA P t a b)
    | _, _ => none
  | .extract x i => match evalX ts x with
    | some (.tuple vs) => keep h vs[i]?
    | _ => none
  | .makeMap t reserve => match reserve, P.underlying t with
    | none, some (.map _ _) => (match allocObj place h (.mp [] 0 0) with | some (id, h') => some (.mapv (some id), h') | none => none)
    | _, _ => none
  | .makeSlice t len cap => match evalX ts len, evalX ts cap with
    | some l, some c => makeSliceA P place h t l c
    | _, _ => none
  | .lookup t x i commaOk => match evalX ts x, evalX ts i with
    | some a, some b => keep h (lookupA P t a b commaOk h)
    | _, _ => none
  | .mapUpdate t x i v => match evalX ts x, evalX ts i, evalX ts v with
    | some a, some b, some c => (mapUpdateA P t a b c h).map fun h' => (undefA, h')
    | _, _, _ => none
  | .range t x => match evalX ts x with
    | some a => rangeA P place t a h
    | none => none
  | .next it isS => match evalX ts it with
    | some a => nextA a isS h
    | none => none
  | .call c => callA P callf place c ts h
  | _ => none

def putA (ts : List AV) (dst : Option Tmp) (v : AV) : List AV :=
  match dst with
  | some d => ts.set d v
  | none => ts

/-- is an operation wanted? -/
def wantedA (ops : Array Oper) (o : Oper) (ts : List AV) : Option Bool :=
  match o.guard with
  | none => some true
  | some (j, want) => match (ops[j]?).bind (·.dst) with
    | some d => match ts[d]? with
      | some (.dat (.bool b)) => some (b == want)
      | some (.tuple _) => some false
      | _ => none
    | none => none

def oneOp (P : Program) (callf : CallF) (ops : Array Oper) (place : Option Nat) (o : Oper) (ts : List AV) (h : Heap) : Option (AV × Heap) :=
  match wantedA ops o ts with
  | some true => stepOp P callf place o.op ts h
  | some false => some (undefA, h)
  | none => none

def regionT (P : Program) (callf : CallF) (ops : Array Oper) : List Oper → St → Option St
  | [], s => some s
  | o :: r, s => match oneOp P callf ops none o s.tmps s.heap with
    | some (v, h) => regionT P callf ops r ⟨putA s.tmps o.dst v, h⟩
    | none => none

/- REGIONS THAT DRAW THEIR ORDER: run in the text's order, each operation over what it can reach alone; it is then asked that what is not ordered doesn't meet. -/

mutual
/-- the boxes that a value names -/
def AV.ids : AV → List Nat
  | .own (.tip i) _ => [i]
  | .own (.at i _ _ _) _ => [i]
  | .sdata i _ _ _ _ => [i]
  | .fp i _ _ => [i]
  | .row i _ _ _ _ => [i]
  | .mapv (some i) => [i]
  | .ptr (some (i, _)) => [i]
  | .func _ a c => idsL a ++ idsL c
  | .iface _ v => v.ids
  | .agg cs => idsL cs
  | .tuple vs => idsL vs
  | _ => []
def idsL : List AV → List Nat
  | [] => []
  | v :: r => v.ids ++ idsL r
end

/-- all that can be reached from some boxes; depth: how many steps -/
def reachA (h : Heap) : Nat → List Nat → List Nat → List Nat
  | 0, _, acc => acc
  | _ + 1, [], acc => acc
  | d + 1, i :: r, acc =>
    if acc.contains i then reachA h d r acc else
    match h[i]? with
    | some (some (.cells _ cs _)) => reachA h d (idsL cs ++ r) (i :: acc)
    | some (some (.free _ cs _ _ _ _)) => reachA h d (idsL cs ++ r) (i :: acc)
    | some (some (.mp es _ _)) => reachA h d (idsL (es.map fun e => e.2.1) ++ r) (i :: acc)
    | some (some (.mit (some m) _ _ _)) => reachA h d (m :: r) (i :: acc)
    | _ => reachA h d r (i :: acc)

def restrictA (F : List Nat) : Nat → Heap → Heap
  | _, [] => []
  | i, o :: r => (if F.contains i then o else none) :: restrictA F (i + 1) r

def holesA (F : List Nat) : Nat → Heap → Bool
  | _, [] => true
  | i, o :: r => (F.contains i || o.isNone) && holesA F (i + 1) r

/-- does an operation make a box of its own? -/
def makesBox : Op → Bool
  | .alloc _ | .box _ _ => true
  | .buildSlice _ _ _ => true
  | .makeMap _ _ => true
  | .makeSlice _ _ _ => true
  | .range _ _ => true
  | .call c => match c.callee with | .builtin .append => true | _ => false
  | _ => false

def onlyReads : Op → Bool
  | .load _ _ => true
  | .convert _ _ _ => true
  | .lookup _ _ _ _ => true
  | .call c => match c.callee with
    | .builtin .len => true
    | .builtin .unsafeSliceData => true
    | _ => false
  | _ => false

/-- which boxes an operation may look at -/
def footA (op : Op) (ts : List AV) (h : Heap) : Option (List Nat) :=
  match op with
  | .load _ x => match evalX ts x with
    | some a => some a.ids
    | none => none
  | .store _ x y => match evalX ts x, evalX ts y with
    | some a, some b => some (a.ids ++ b.ids)
    | _, _ => none
  | .convert _ _ x => match evalX ts x with
    | some a => some a.ids
    | none => none
  | .lookup _ x _ _ => match evalX ts x with
    | some a => some a.ids
    | none => none
  | .mapUpdate _ x _ v => match evalX ts x, evalX ts v with
    | some a, some b => some (a.ids ++ b.ids)
    | _, _ => none
  | .range _ x => match evalX ts x with
    | some a => some a.ids
    | none => none
  | .next x _ => match evalX ts x with
    | some a => some (reachA h (h.length * h.length + 100) a.ids [])
    | none => none
  | .call c => match c.callee with
    | .builtin _ => (evalL ts c.args.toList).map idsL
    | _ => (evalL ts (Op.call c).operands.toList).map fun vs => reachA h (h.length * h.length + 100) (idsL vs) []
  | _ => some []

structure Done where
  reads : List Tmp
  dst : Option Tmp
  foot : List Nat
  writes : List Nat

def setIds (h h' : Heap) : List Nat → Heap
  | [] => h
  | i :: r => setIds (match h'[i]? with | some o => h.set i o | none => h) h' r

def readsOf (ops : Array Oper) (o : Oper) : List Tmp :=
  (o.op.operands.toList.filterMap fun | .tmp t => some t | _ => none) ++
  (match o.guard with
   | some (g, _) => ((ops[g]?).bind (·.dst)).toList
   | none => [])

def apartL (a b : List Nat) : Bool := a.all fun i => !b.contains i

def apartD (a b : Done) : Bool :=
  apartL a.writes b.foot && apartL b.writes a.foot &&
  (match a.dst with | some d => !b.reads.contains d && b.dst != some d | none => true) &&
  (match b.dst with | some d => !a.reads.contains d | none => true)

/-- for each operation the set of those that come before it in whatever order: as the bits of a number -/
def masksA : List Oper → List Nat → List Nat
  | [], acc => acc
  | o :: r, acc => masksA r (acc ++ [o.after.toList.foldl (fun s e => if Region.binds .any e then s ||| 2 ^ e.on ||| acc.getD e.on 0 else s) 0])

def checkOne (m : Nat) (d : Done) : Nat → List Done → Bool
  | _, [] => true
  | i, e :: r => (m.testBit i || apartD e d) && checkOne m d (i + 1) r

/-- what must come before stands before -/
def edgesA (o : Oper) (n : Nat) : Bool := o.after.toList.all fun e => !Region.binds .any e || decide (e.on < n)

def placeOf (op : Op) (w : Bool) (at_ : Nat) : Option Nat := if makesBox op && w then some at_ else none

def leaveN : Op → Nat
  | .call c => (match c.callee with | .value (.func f) => mode.default.leave f | _ => 0)
  | _ => 0

def nextAt (op : Op) (at_ : Nat) : Nat := if makesBox op then at_ + 1 else at_ + leaveN op

/-- the places of an operation's own boxes -/
def slotsOf (op : Op) (w : Bool) (at_ : Nat) : List Nat := (placeOf op w at_).toList ++ (if makesBox op then [] else List.range' at_ (leaveN op))

def footOf (o : Oper) (w : Bool) (s : St) : Option (List Nat) := if w then footA o.op s.tmps s.heap else some []

def writesOf (op : Op) (F : List Nat) : List Nat := if onlyReads op then [] else F

/- is a box as it was? -/

mutual
def D.same : D → D → Bool
  | .bool a, .bool b => a == b
  | .int k n, .int k' n' => decide (k = k') && decide (n = n')
  | .str a, .str b => a == b
  | .nils, .nils => true
  | .slice es, .slice es' => D.sameL es es'
  | .agg es, .agg es' => D.sameL es es'
  | _, _ => false
def D.sameL : List D → List D → Bool
  | [], [] => true
  | a :: r, b :: q => D.same a b && D.sameL r q
  | _, _ => false
end

def AV.same : AV → AV → Bool
  | .dat a, .dat b => a.same b
  | .fp a b c, .fp a' b' c' => a == a' && b == b' && c == c'
  | .row a b c d e, .row a' b' c' d' e' => a == a' && b == b' && c == c' && d == d' && e == e'
  | .ptr none, .ptr none => true
  | .mapv none, .mapv none => true
  | .mapv (some a), .mapv (some b) => a == b
  | .nilFunc, .nilFunc => true
  | .nilIface, .nilIface => true
  | _, _ => false

def sameL : List AV → List AV → Bool
  | [], [] => true
  | a :: r, b :: q => a.same b && sameL r q
  | _, _ => false

def AObj.same : AObj → AObj → Bool
  | .free e cs v l f x, .free e' cs' v' l' f' x' => e == e' && v == v' && l == l' && f == f' && x == x' && sameL cs cs'
  | _, _ => false

def sameAt (h h' : Heap) (i : Nat) : Bool :=
  match h[i]?, h'[i]? with
  | some (some a), some (some b) => a.same b
  | _, _ => false

def quietOp : Op → Bool
  | .call c => (match c.callee with | .value (.func f) => isQuiet f | _ => false)
  | _ => false

/-- what it may have turned -/
def writesIn (op : Op) (F : List Nat) (h h' : Heap) : List Nat := if onlyReads op then [] else if quietOp op then F.filter (fun i => !sameAt h h' i) else F

/-! ### Boxes under other names -/

/-- those from n on, c of them, are moved to s and on, and the other way round -/
def mvI (n c s i : Nat) : Nat := if n ≤ i ∧ i < n + c then s + (i - n) else if s ≤ i ∧ i < s + c then n + (i - s) else i

mutual
def AV.mov (p : Nat → Nat) : AV → AV
  | .dat d => .dat d
  | .own .full es => .own .full es
  | .own (.tip i) es => .own (.tip (p i)) es
  | .own (.at i o v e) es => .own (.at (p i) o v e) es
  | .ptr none => .ptr none
  | .ptr (some (i, o)) => .ptr (some (p i, o))
  | .ep cs o => .ep cs o
  | .func fn a c => .func fn (AV.movL p a) (AV.movL p c)
  | .nilFunc => .nilFunc
  | .iface t v => .iface t (v.mov p)
  | .nilIface => .nilIface
  | .agg cs => .agg (AV.movL p cs)
  | .tuple vs => .tuple (AV.movL p vs)
  | .sdata i o v e es => .sdata (p i) o v e es
  | .fp i v o => .fp (p i) v o
  | .row i v o l s => .row (p i) v o l s
  | .mapv none => .mapv none
  | .mapv (some i) => .mapv (some (p i))
  | .any => .any
def AV.movL (p : Nat → Nat) : List AV → List AV
  | [] => []
  | v :: r => v.mov p :: AV.movL p r
end

def movLim (n m lim : Nat) : Nat := if lim ≤ n then lim else m

def AObj.mov (p : Nat → Nat) (n m : Nat) : AObj → AObj
  | .cells e cs v => .cells e (AV.movL p cs) v
  | .tip e k sz => .tip e k sz
  | .free e cs v lim fz ex => .free e (AV.movL p cs) v (movLim n m lim) fz ex
  | .mp es c lim => .mp (es.map fun x => (x.1, x.2.1.mov p, x.2.2)) c (movLim n m lim)
  | .sit s q => .sit s q
  | .mit none s l k => .mit none s l k
  | .mit (some i) s l k => .mit (some (p i)) s l k

/-- a box's names lie where they may -/
def ordOk (i : Nat) : AObj → Bool
  | .cells _ cs _ => undersL (i + 1) cs
  | .free _ cs _ lim _ _ => undersL lim cs
  | .mp es _ lim => undersL lim (es.map fun e => e.2.1)
  | _ => true

def ordAll : Nat → Heap → Bool
  | _, [] => true
  | i, none :: r => ordAll (i + 1) r
  | i, some o :: r => ordOk i o && ordAll (i + 1) r

def movH (N c s : Nat) (h : Heap) : Heap := h.map fun o => o.map (AObj.mov (mvI N c s) N (s + c))
def putM (N c s : Nat) (h : Heap) : Heap := h.take s ++ h.drop N ++ (h.take N).drop (s + c)

/-- a call that leaves new boxes (at most L) behind N of them: they are moved to places kept for them, from s on -/
def settleC (N L s : Nat) (v : AV) (h : Heap) : Option (AV × Heap) :=
  if h.length = N then some (v, h) else
  if N < h.length ∧ h.length - N ≤ L ∧ s + L ≤ N ∧ ordAll 0 (putM N (h.length - N) s (movH N (h.length - N) s h)) = true then
    some (v.mov (mvI N (h.length - N) s), putM N (h.length - N) s (movH N (h.length - N) s h))
  else none

/-- one operation of such a region, over what it can reach alone -/
def doneOp (P : Program) (callf : CallF) (ops : Array Oper) (N : Nat) (o : Oper) (at_ m : Nat) (done : List Done) (s : St) : Option (Done × AV × Heap) :=
  match wantedA ops o s.tmps with
  | none => none
  | some w => match footOf o w s with
    | none => none
    | some F0 => match oneOp P callf ops (placeOf o.op w at_) o s.tmps (restrictA (slotsOf o.op w at_ ++ F0) 0 s.heap) with
      | none => none
      | some (v0, h0) => match settleC N (if makesBox o.op then 0 else leaveN o.op) at_ v0 h0 with
        | none => none
        | some (v, h') =>
          if h'.length = N ∧ holesA (slotsOf o.op w at_ ++ F0) 0 h' = true ∧
              checkOne m ⟨readsOf ops o, o.dst, slotsOf o.op w at_ ++ F0, writesIn o.op (slotsOf o.op w at_ ++ F0) (restrictA (slotsOf o.op w at_ ++ F0) 0 s.heap) h'⟩ 0 done = true ∧ edgesA o done.length = true then
            some (⟨readsOf ops o, o.dst, slotsOf o.op w at_ ++ F0, writesIn o.op (slotsOf o.op w at_ ++ F0) (restrictA (slotsOf o.op w at_ ++ F0) 0 s.heap) h'⟩, v, h')
          else none

/-- N: the heap's length; at_: the next box's place -/
def regionD (P : Program) (callf : CallF) (ops : Array Oper) (N : Nat) : List Oper → Nat → List Nat → List Done → St → Option St
  | [], _, _, _, s => some s
  | o :: r, at_, masks, done, s => match doneOp P callf ops N o at_ (masks.headD 0) done s with
    | some (d, v, h') => regionD P callf ops N r (nextAt o.op at_) masks.tail (done ++ [d]) ⟨putA s.tmps o.dst v, setIds s.heap h' d.writes⟩
    | none => none

def countBoxes : List Oper → Nat
  | [] => 0
  | o :: r => (if makesBox o.op then 1 else leaveN o.op) + countBoxes r

def regionDraw (P : Program) (callf : CallF) (ops : Array Oper) (s : St) : Option St :=
  let m := countBoxes ops.toList
  let h := s.heap ++ List.replicate m none
  regionD P callf ops h.length ops.toList s.heap.length (masksA ops.toList []) [] ⟨s.tmps, h⟩

def resultA (P : Program) (ts : List AV) (h : Heap) : ResultVar → Option AV
  | .tmp t => some (ts.getD t undefA)
  | .cell a t => loadA P t (ts.getD a undefA) h

def resultsA (P : Program) (ts : List AV) (h : Heap) : List ResultVar → Option (List AV)
  | [] => some []
  | r :: l => match resultA P ts h r with
    | some v => (resultsA P ts h l).map (v :: ·)
    | none => none

def tupleA : List AV → AV
  | [v] => v
  | vs => .tuple vs

/-- does a box name those below alone? -/
def limOk (n : Nat) : Option AObj → Bool
  | some (.free _ _ _ lim _ _) => decide (lim ≤ n)
  | some (.mp _ _ lim) => decide (lim ≤ n)
  | some (.mit (some m) _ _ _) => decide (m < n)
  | _ => true

/-- what a call leaves: its own boxes are let go, if neither the result nor a box that stays names one -/
def finishA (n : Nat) (v : AV) (h : Heap) : AV × Heap := if v.under n && (h.take n).all (limOk n) then (v, h.take n) else (v, h)

def scopeLoop (r : Code → St → Option (Ex × St)) (body : Code) : Nat → Code → St → Option (Ex × St)
  | 0, _, _ => none
  | n + 1, cur, s => match r cur s with
    | some (.goto l, s') => match findLabel body l with
      | some rest => scopeLoop r body n rest s'
      | none => some (.goto l, s')
    | x => x

def headOf (sz : Nat) (ds : List D) : D :=
  if sz = 1 then (match ds with | .agg cs :: _ => .agg [.agg cs] | d :: _ => d | [] => .agg []) else .agg (ds.take sz)

def chunkD (sz : Nat) : Nat → List D → List D
  | 0, _ => []
  | n + 1, ds => headOf sz ds :: chunkD sz n (ds.drop sz)

def stillL (f : AV → Heap → AV × Heap) : List AV → Heap → List AV × Heap
  | [], h => ([], h)
  | v :: r, h => match f v h with
    | (v', h1) => match stillL f r h1 with
      | (r', h2) => (v' :: r', h2)

/-- what a value names stays as it is from now on: its boxes are let go -/
def stillV : Nat → AV → Heap → AV × Heap
  | 0, v, h => (v, h)
  | d + 1, v, h => match v with
    | .row id ver off len sz => match h[id]? with
      | some (some (.free _ cs w _ _ _)) =>
        if w = ver ∧ off + len * sz ≤ cs.length then
          (match stillL (stillV d) ((cs.drop off).take (len * sz)) (h.set id none) with
           | (ws, h') => (match allDat ws with
             | some ds => (.dat (.slice (chunkD sz len ds)), h')
             | none => (v, h')))
        else (v, h)
      | _ => (v, h)
    | .agg cs => (match stillL (stillV d) cs h with | (ws, h') => (mkAgg ws, h'))
    | .tuple cs => (match stillL (stillV d) cs h with | (ws, h') => (.tuple ws, h'))
    | v => (v, h)

/-- what a call leaves -/
def leaveA (f : FuncId) (n : Nat) (v : AV) (h : Heap) : AV × Heap :=
  if isStill f then (match stillV 20 v h with | (v', h') => finishA n (sealR v') h') else finishA n (sealR v) h

abbrev Prim := List AV → Heap → Option (AV × Heap)

def enterA (P : Program) (prim : FuncId → Option Prim) (r : Code → St → Option (Ex × St)) : CallF := fun f args h =>
  match prim f with
  | some p => p args h
  | none => match P.funcs[f]? with
    | none => none
    | some fn => match fn.body with
      | none => none
      | some body =>
        match r body ⟨args.map sealV ++ List.replicate (fn.ntmps - args.length) undefA, h⟩ with
        | some (.normal, s) | some (.ret, s) => match resultsA P s.tmps s.heap fn.results.toList with
          | some vs => some (leaveA f h.length (tupleA vs) s.heap)
          | none => none
        | _ => none

def run (P : Program) (prim : FuncId → Option Prim) : Nat → Code → St → Option (Ex × St)
  | 0, _, _ => none
  | k + 1, c, s => match c with
    | .skip => some (.normal, s)
    | .label _ => some (.normal, s)
    | .region _ ops draw =>
      if draw then (regionDraw P (enterA P prim (run P prim k)) ops s).map fun s' => (.normal, s')
      else (regionT P (enterA P prim (run P prim k)) ops ops.toList s).map fun s' => (.normal, s')
    | .seq a b => match run P prim k a s with
      | some (.normal, s') => run P prim k b s'
      | x => x
    | .cond x a b => match evalX s.tmps x with
      | some (.dat (.bool t)) => run P prim k (if t then a else b) s
      | _ => none
    | .block id b => match run P prim k b s with
      | some (.exit i, s') => if i = id then some (.normal, s') else some (.exit i, s')
      | x => x
    | .loop b => match run P prim k b s with
      | some (.normal, s') => run P prim k (.loop b) s'
      | x => x
    | .exit id => some (.exit id, s)
    | .goto l => some (.goto l, s)
    | .scope b => scopeLoop (run P prim k) b k b s
    | .ret => some (.ret, s)
    | _ => none

def call (P : Program) (prim : FuncId → Option Prim) (k : Nat) : CallF := enterA P prim (run P prim k)

end Go.Proofs.YtobhpbnlbgbjaaaGreatDoor
