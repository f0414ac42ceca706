/- Worlds that fit an abstract heap, and what the steps of memory do to that. -/
import Derived.Calls
import Derived.Scope
import Derived.Orders
import Derived.Below
namespace Go.Proofs.Ytfdcjngclelnhaa
open Go

inductive D where
  | bool (b : Bool)
  | int (k : IntKind) (n : Int)
  | str (s : List UInt8)
  /-- the nil slice -/
  | nils
  | slice (es : List D)
  | agg (cs : List D)

/-- who may append in place: full: nobody (the capacity is the length); tip: it grows, a mark in the heap tells its length; at: it grows, and lies in a box -/
inductive Own where
  | full
  | tip (id : Nat)
  | at (id off ver : Nat) (e : TypeId)

inductive AV where
  | dat (d : D)
  | own (g : Own) (es : List D)
  | ptr (o : Option (Nat × Nat))
  | ep (cs : List D) (off : Nat)
  | func (fn : Fn) (first captured : List AV)
  | nilFunc
  | iface (t : TypeId) (v : AV)
  | nilIface
  | agg (cs : List AV)
  | tuple (vs : List AV)
  /-- where the elements of a growing slice lie -/
  | sdata (id off ver : Nat) (e : TypeId) (es : List D)

inductive AObj where
  | cells (e : TypeId) (cs : List AV) (ver : Nat)
  | tip (e : TypeId) (n sz : Nat)

abbrev Heap := List (Option AObj)

structure St where
  tmps : List AV
  heap : Heap

inductive Ex where
  | normal
  | exit (id : Nat)
  | goto (l : Nat)
  | ret

def undefA : AV := .tuple []

def D.cells : D → List D
  | .agg cs => cs
  | d => [d]

def allDat : List AV → Option (List D)
  | [] => some []
  | .dat d :: r => (allDat r).map (d :: ·)
  | _ :: _ => none

def mkAgg (cs : List AV) : AV :=
  match allDat cs with
  | some ds => .dat (.agg ds)
  | none => .agg cs

def AV.cells : AV → List AV
  | .dat (.agg ds) => ds.map .dat
  | .agg cs => cs
  | v => [v]

/-- may it stand in one cell? -/
def AV.isCell : AV → Bool
  | .dat (.agg _) => false
  | .agg _ => false
  | .tuple _ => false
  | _ => true

mutual
def AV.under (n : Nat) : AV → Bool
  | .own (.tip i) _ => decide (i < n)
  | .own (.at i _ _ _) _ => decide (i < n)
  | .sdata i _ _ _ _ => decide (i < n)
  | .ptr (some (i, _)) => decide (i < n)
  | .func _ a c => undersL n a && undersL n c
  | .iface _ v => v.under n
  | .agg cs => undersL n cs
  | .tuple vs => undersL n vs
  | _ => true
def undersL (n : Nat) : List AV → Bool
  | [] => true
  | v :: r => v.under n && undersL n r
end

def sealC : AV → AV
  | .own _ es => .dat (.slice es)
  | v => v
def sealV : AV → AV
  | .own _ es => .dat (.slice es)
  | .agg cs => mkAgg (cs.map sealC)
  | v => v
def sealR : AV → AV
  | .tuple vs => .tuple (vs.map sealV)
  | v => sealV v

/-- a value that may stand inside a slice -/
def AV.toD (v : AV) : Option D :=
  match sealV v with
  | .dat d => some d
  | _ => none

def cst1 : Value → Option AV
  | .bool b => some (.dat (.bool b))
  | .int k n => some (.dat (.int k n))
  | .string s => some (.dat (.str s.data.toList))
  | .pointer none => some (.ptr none)
  | .slice none 0 0 => some (.dat .nils)
  | .nilFunc => some .nilFunc
  | .nilIface => some .nilIface
  | _ => none

def cstL : List Value → Option (List AV)
  | [] => some []
  | v :: r => match cst1 v with
    | some a => (cstL r).map (a :: ·)
    | none => none

def cstV : Value → Option AV
  | .agg cs => (cstL cs.toList).map mkAgg
  | v => cst1 v

def evalX (ts : List AV) : Operand → Option AV
  | .tmp t => some (ts.getD t undefA)
  | .const v => cstV v
  | .global _ => none
  | .func f => some (.func (.func f) [] [])

def evalL (ts : List AV) : List Operand → Option (List AV)
  | [] => some []
  | x :: r => match evalX ts x with
    | some a => (evalL ts r).map (a :: ·)
    | none => none

def allocObj (place : Option Nat) (h : Heap) (o : AObj) : Option (Nat × Heap) :=
  match place with
  | none => some (h.length, h ++ [some o])
  | some r => match h[r]? with
    | some none => some (r, h.set r (some o))
    | _ => none

def sealT : AV → AV
  | .own .full es => .own .full es
  | .own _ es => .dat (.slice es)
  | v => v

/-- a new variable of these cells -/
def newVarA (place : Option Nat) (h : Heap) (e : TypeId) (cs : List AV) : Option (AV × Heap) :=
  match allocObj place h (.cells e (cs.map sealT) 0) with
  | some (id, h') => if undersL (id + 1) (cs.map sealT) then some (.ptr (some (id, 0)), h') else none
  | none => none

def zeroA (P : Program) (t : TypeId) : Option AV := ((P.info? t).bind (·.zero)).bind cstV

def sizeA (P : Program) (t : TypeId) : Option Nat := (P.info? t).map (·.size)

def isAggA (P : Program) (t : TypeId) : Option Bool :=
  match P.underlying t with
  | some (.struct _) | some (.array _ _) => some true
  | some _ => some false
  | none => none

/-- part of a row of cells, as a value of a type -/
def partA (P : Program) (t : TypeId) (cs : List AV) (off : Nat) : Option AV :=
  match isAggA P t, sizeA P t with
  | some true, some n => if off + n ≤ cs.length then some (mkAgg ((cs.drop off).take n)) else none
  | some false, some _ => cs[off]?
  | _, _ => none

def loadA (P : Program) (t : TypeId) (x : AV) (h : Heap) : Option AV :=
  match x with
  | .ptr (some (id, off)) => match h[id]? with
    | some (some (.cells _ cs _)) => partA P t cs off
    | _ => none
  | .ep cs off => partA P t (cs.map .dat) off
  | _ => none

def spliceL (cs : List AV) (off : Nat) (vs : List AV) : List AV := cs.take off ++ vs ++ cs.drop (off + vs.length)

/-- a cell is stored at (id, off): a growing slice settles there, if its mark fits -/
def settle (h : Heap) (id off ver : Nat) (old : Option AV) : AV → AV × Heap
  | .own (.tip i) es => match h[i]? with
    | some (some (.tip e n _)) => if n = es.length ∧ i ≠ id then (.own (.at id off ver e) es, h.set i none) else (.dat (.slice es), h)
    | _ => (.dat (.slice es), h)
  | .own (.at i o v e) es => match old with
    | some (.own (.at i' o' v' e') es') => if i = id ∧ o = off ∧ i' = id ∧ o' = off ∧ v = v' ∧ e = e' ∧ es.length = es'.length then (.own (.at i o v e) es, h) else (.dat (.slice es), h)
    | _ => (.dat (.slice es), h)
  | .own .full es => (.own .full es, h)
  | v => (v, h)

/-- cells stored from 'off' on; each takes a version of its own -/
def settleL (id : Nat) (cs : List AV) : Nat → Nat → Heap → List AV → List AV × Heap
  | _, _, h, [] => ([], h)
  | off, ver, h, v :: r =>
    let (v', h') := settle h id off ver cs[off]? v
    let (r', h'') := settleL id cs (off + 1) (ver + 1) h' r
    (v' :: r', h'')

def storeA (P : Program) (t : TypeId) (x v : AV) (h : Heap) : Option Heap :=
  match x, sizeA P t with
  | .ptr (some (id, off)), some n => match h[id]? with
    | some (some (.cells e cs ver)) =>
      let vs := v.cells
      if vs.length = n ∧ off + n ≤ cs.length ∧ vs.all AV.isCell = true then
        let (ws, h') := settleL id cs off ver h vs
        if undersL (id + 1) ws = true then some (h'.set id (some (.cells e (spliceL cs off ws) (ver + n)))) else none
      else none
    | _ => none
  | _, _ => none

/-- fill: the parts of a composite literal, at their places -/
def fillA (place : Nat → Option (Nat × Nat)) (cs : List AV) : List (Nat × AV) → Option (List AV)
  | [] => some cs
  | (i, v) :: rest => match place i with
    | none => none
    | some (off, size) =>
      let vs := v.cells
      if vs.length = size ∧ off + size ≤ cs.length then fillA place (spliceL cs off vs) rest else none

def evalParts (ts : List AV) : List (Nat × Operand) → Option (List (Nat × AV))
  | [] => some []
  | (i, x) :: r => match evalX ts x with
    | some a => (evalParts ts r).map ((i, a) :: ·)
    | none => none

def fieldPlaces (P : Program) : List Field → Option (List (Nat × Nat))
  | [] => some []
  | f :: r => match sizeA P f.type with
    | some n => (fieldPlaces P r).map ((f.offset, n) :: ·)
    | none => none

def buildA (P : Program) (t : TypeId) (parts : List (Nat × AV)) : Option AV :=
  match zeroA P t, P.underlying t with
  | some z, some (.struct fields) => match fieldPlaces P fields.toList with
    | some pl => (fillA (fun i => pl[i]?) z.cells parts).map mkAgg
    | none => none
  | some z, some (.array _ elem) => match sizeA P elem with
    | some n => (fillA (fun i => some (i * n, n)) z.cells parts).map mkAgg
    | none => none
  | _, _ => none

/-- a slice literal: each place is given once, in the order of the text, or is zero -/
def fillS (sz : Nat) (es : List D) : List (Nat × AV) → Option (List D)
  | [] => some es
  | (i, v) :: rest => match v.toD with
    | some d => if d.cells.length = sz ∧ i < es.length then fillS sz (es.set i d) rest else none
    | none => none

def buildSliceA (P : Program) (t : TypeId) (len : Nat) (parts : List (Nat × AV)) : Option AV :=
  match P.underlying t with
  | some (.slice elem) => match sizeA P elem, zeroA P elem with
    | some n, some z => match z.toD with
      | some zd => if len * n ≤ 2 ^ 24 ∧ zd.cells.length = n ∧ n ≠ 0 then (fillS n (List.replicate len zd) parts).map (.own .full) else none
      | none => none
    | _, _ => none
  | _ => none

def elems : AV → Option (List D)
  | .dat .nils => some []
  | .dat (.slice es) => some es
  | .own _ es => some es
  | _ => none

def sized (sz : Nat) (es : List D) : Bool :=
  match es with
  | [] => true
  | e :: _ => e.cells.length == sz

/-- append's bound: what is asked for stays below 2^48 bytes -/
def roomOk (need bytes : Nat) : Bool := decide ((2 * need) * bytes ≤ 2 ^ 48 ∧ need ≤ 2 ^ 47)

def D.flat : D → Bool
  | .agg _ => false
  | _ => true

def fitsD (sz : Nat) (e : D) : Bool := e.cells.length == sz && e.cells.all D.flat

/-- what is appended, as elements of this size -/
def moreA (sz : Nat) : AV → Option (List D)
  | .dat .nils => some []
  | .dat (.slice es) => if es.all (fitsD sz) then some es else none
  | .own _ es => if es.all (fitsD sz) then some es else none
  | .dat (.str s) => if sz = 1 then some (s.map fun b => .int .u8 b.toNat) else none
  | _ => none

def appendA (P : Program) (argTypes : List TypeId) (place : Option Nat) (s x : AV) (h : Heap) : Option (AV × Heap) :=
  match argTypes with
  | sType :: xType :: _ => match P.underlying sType, P.underlying xType with
    | some (.slice elem), some xd => match (match xd with | .int _ => true | _ => false), (P.info? elem) with
      | false, some info => match moreA info.size x with
        | some xs =>
          if info.size = 0 then none else
          if xs.isEmpty then (match elems s with | some _ => some (s, h) | none => none) else
          if info.zero.map (fun v => v.cells.size) ≠ some info.size then none else
          match s with
          | .own (.tip id) es => match h[id]? with
            | some (some (.tip e n sz)) =>
              if n = es.length ∧ e = elem ∧ sz = info.size ∧ roomOk (n + xs.length) info.bytes = true then some (.own (.tip id) (es ++ xs), h.set id (some (.tip e (n + xs.length) sz))) else none
            | _ => none
          | .own (.at b off v e) es => match h[b]? with
            | some (some (.cells be cs ver)) => match cs[off]? with
              | some (.own (.at b' off' v' e') es') =>
                if b' = b ∧ off' = off ∧ v' = v ∧ e' = e ∧ e = elem ∧ es'.length = es.length ∧ es.length ≠ 0 ∧ sized info.size es = true ∧ roomOk (es.length + xs.length) info.bytes = true then
                  match allocObj place (h.set b (some (.cells be (cs.set off (.dat (.slice es'))) ver))) (.tip elem (es.length + xs.length) info.size) with
                  | some (id, h') => some (.own (.tip id) (es ++ xs), h')
                  | none => none
                else none
              | _ => none
            | _ => none
          | .own .full es =>
            if sized info.size es = true ∧ roomOk (es.length + xs.length) info.bytes = true then
              match allocObj place h (.tip elem (es.length + xs.length) info.size) with
              | some (id, h') => some (.own (.tip id) (es ++ xs), h')
              | none => none
            else none
          | .dat .nils =>
            if roomOk xs.length info.bytes = true then
              match allocObj place h (.tip elem xs.length info.size) with
              | some (id, h') => some (.own (.tip id) xs, h')
              | none => none
            else none
          | _ => none
        | none => none
      | _, _ => none
    | _, _ => none
  | _ => none

def intOp (op : BinOp) (k : IntKind) (a b : Int) : Option D :=
  match op with
  | .add => some (.int k (k.wrap (a + b)))
  | .sub => some (.int k (k.wrap (a - b)))
  | .mul => some (.int k (k.wrap (a * b)))
  | .quo => if b = 0 then none else some (.int k (k.wrap (a.tdiv b)))
  | .rem => if b = 0 then none else some (.int k (a.tmod b))
  | .and => some (.int k (k.wrap (BitVec.ofInt k.bits a &&& BitVec.ofInt k.bits b).toNat))
  | .or => some (.int k (k.wrap (BitVec.ofInt k.bits a ||| BitVec.ofInt k.bits b).toNat))
  | .xor => some (.int k (k.wrap (BitVec.ofInt k.bits a ^^^ BitVec.ofInt k.bits b).toNat))
  | .andNot => some (.int k (k.wrap (BitVec.ofInt k.bits a &&& ~~~BitVec.ofInt k.bits b).toNat))
  | .eql => some (.bool (a == b))
  | .neq => some (.bool (a != b))
  | .lss => some (.bool (decide (a < b)))
  | .leq => some (.bool (decide (a ≤ b)))
  | .gtr => some (.bool (decide (a > b)))
  | .geq => some (.bool (decide (a ≥ b)))
  | _ => none

def shiftOp (op : BinOp) (k : IntKind) (a b : Int) : Option D :=
  if b < 0 then none else
  match op with
  | .shl => some (.int k (k.wrap (a * 2 ^ (min b.toNat k.bits))))
  | .shr => some (.int k (a.fdiv (2 ^ (min b.toNat k.bits))))
  | _ => none

def strOp (op : BinOp) (a b : List UInt8) : Option D :=
  match op with
  | .add => if a.length + b.length ≤ 9223372036854775807 then some (.str (a ++ b)) else none
  | .eql => some (.bool (a == b))
  | .neq => some (.bool (!(a == b)))
  | .lss => some (.bool (Op.bytesLess a b))
  | .leq => some (.bool (Op.bytesLess a b || a == b))
  | .gtr => some (.bool (!(Op.bytesLess a b || a == b)))
  | .geq => some (.bool (!Op.bytesLess a b))
  | _ => none

/-- a part of a struct's data -/
def partD (P : Program) (t : TypeId) (cs : List D) (off : Nat) : Option D :=
  match isAggA P t, sizeA P t with
  | some true, some n => if off + n ≤ cs.length then some (.agg ((cs.drop off).take n)) else none
  | some false, some _ => cs[off]?
  | _, _ => none

/-- '==' of data of a type, by fields -/
def eqFieldsD (P : Program) (eq : TypeId → D → D → Option Bool) (xs ys : List D) : List Field → Option Bool
  | [] => some true
  | f :: r =>
    if f.name = "_" then none else
    match partD P f.type xs f.offset, partD P f.type ys f.offset with
    | some a, some b => match eq f.type a b with
      | some true => eqFieldsD P eq xs ys r
      | some false => some false
      | none => none
    | _, _ => none

def eqD (P : Program) : Nat → TypeId → D → D → Option Bool
  | 0, _, _, _ => none
  | d + 1, t, x, y =>
    match P.underlying t, x, y with
    | some .bool, .bool a, .bool b => some (a == b)
    | some (.int _), .int k a, .int k' b => if k = k' then some (a == b) else none
    | some .string, .str a, .str b => some (a == b)
    | some (.struct fields), .agg xs, .agg ys => if P.stoodInHeld t then none else eqFieldsD P (eqD P d) xs ys fields.toList
    | _, _, _ => none

def eqA (P : Program) (t : TypeId) (x y : AV) : Option Bool :=
  match P.underlying t, x, y with
  | some .bool, .dat (.bool a), .dat (.bool b) => some (a == b)
  | some (.struct _), .dat (.agg a), .dat (.agg b) => if P.eqGuardType P.depth t then none else eqD P 8 t (.agg a) (.agg b)
  | some (.pointer _), .ptr none, .ptr b => some b.isNone
  | some (.pointer _), .ptr (some _), .ptr none => some false
  | some (.pointer e), .ptr (some a), .ptr (some b) => if a.1 = b.1 ∧ sizeA P e ≠ some 0 ∧ (sizeA P e).isSome then some (a == b) else none
  | some (.pointer _), .ep _ _, .ptr none => some false
  | some (.slice _), .dat .nils, .dat .nils => some true
  | some (.slice _), .own _ _, .dat .nils => some false
  | some (.slice _), .dat (.slice _), .dat .nils => some false
  | some (.func _ _ _), .nilFunc, .nilFunc => some true
  | some (.func _ _ _), .func _ _ _, .nilFunc => some false
  | _, _, _ => none

def binA (P : Program) (op : BinOp) (t : TypeId) (x y : AV) : Option AV :=
  match x, y with
  | .dat (.int k a), .dat (.int k' b) =>
    match op with
    | .shl | .shr => (shiftOp op k a b).map .dat
    | op => if k = k' then (intOp op k a b).map .dat else none
  | .dat (.str a), .dat (.str b) => (strOp op a b).map .dat
  | x, y => match op with
    | .eql => (eqA P t x y).map fun b => .dat (.bool b)
    | .neq => (eqA P t x y).map fun b => .dat (.bool (!b))
    | _ => none

def unA (op : UnOp) (x : AV) : Option AV :=
  match op, x with
  | .neg, .dat (.int k n) => some (.dat (.int k (k.wrap (0 - n))))
  | .not, .dat (.bool b) => some (.dat (.bool (!b)))
  | _, _ => none

def bytesOf : List D → Option (List UInt8)
  | [] => some []
  | .int .u8 n :: r => (bytesOf r).map (UInt8.ofNat n.toNat :: ·)
  | _ :: _ => none

def convPtr (P : Program) (src dst : TypeId) (x : AV) (h : Heap) : Option AV :=
  match P.underlying src, P.underlying dst, x with
  | some (.pointer _), some .unsafePointer, .ptr none => some (.ptr none)
  | some (.pointer t), some .unsafePointer, .ptr (some (id, off)) => match h[id]? with
    | some (some (.cells _ cs _)) => if off < cs.length ∧ sizeA P t ≠ some 0 ∧ (sizeA P t).isSome then some x else none
    | _ => none
  | some .unsafePointer, some (.pointer _), .ptr none => some (.ptr none)
  | some .unsafePointer, some (.pointer u), .ptr (some (id, off)) => match h[id]? with
    | some (some (.cells e cs _)) => if (sizeA P u).isSome ∧ liesAt P P.depth e (cs.length / P.cellsOf e) off u 1 = true then some x else none
    | _ => none
  | _, _, _ => none

def convA (P : Program) (src dst : TypeId) (x : AV) : Option AV :=
  match P.underlying src, P.underlying dst, x with
  | some _, some (.int k), .dat (.int _ n) => some (.dat (.int k (k.wrap n)))
  | some _, some .string, .dat (.str s) => some (.dat (.str s))
  | some (.slice e), some .string, x => match P.underlying e, elems x with
    | some (.int .u8), some es => (bytesOf es).map fun s => .dat (.str s)
    | _, _ => none
  | some .string, some (.slice e), .dat (.str s) => match P.underlying e, sizeA P e with
    | some (.int .u8), some 1 => some (.dat (.slice (s.map fun b => .int .u8 b.toNat)))
    | _, _ => none
  | _, _, _ => none

def fieldAddrA (P : Program) (t : TypeId) (x : AV) (f : Nat) : Option AV :=
  match P.underlying t with
  | some (.struct fields) => match fields[f]? with
    | some fd => match sizeA P fd.type with
      | some (_ + 1) => match x with
        | .ptr (some (id, off)) => some (.ptr (some (id, off + fd.offset)))
        | .ep cs off => some (.ep cs (off + fd.offset))
        | _ => none
      | _ => none
    | none => none
  | _ => none

def fieldA (P : Program) (t : TypeId) (x : AV) (f : Nat) : Option AV :=
  match P.underlying t with
  | some (.struct fields) => match fields[f]? with
    | some fd => match x with
      | .dat (.agg ds) => partA P fd.type (ds.map .dat) fd.offset
      | .agg cs => partA P fd.type cs fd.offset
      | _ => none
    | none => none
  | _ => none

def indexAddrA (P : Program) (t : TypeId) (x i : AV) : Option AV :=
  match i with
  | .dat (.int _ i) =>
    if i < 0 then none else
    match P.underlying t with
    | some (.slice elem) => match sizeA P elem, elems x with
      | some n, some es => match es[i.toNat]? with
        | some e => if e.cells.length = n then some (.ep e.cells 0) else none
        | none => none
      | _, _ => none
    | some (.array len elem) => match sizeA P elem with
      | some n =>
        if i < len then
          match x with
          | .ptr (some (id, off)) => some (.ptr (some (id, off + i.toNat * n)))
          | .ep cs off => some (.ep cs (off + i.toNat * n))
          | _ => none
        else none
      | none => none
    | _ => none
  | _ => none

def indexA (P : Program) (t : TypeId) (x i : AV) : Option AV :=
  match i with
  | .dat (.int _ i) =>
    if i < 0 then none else
    match P.underlying t, x with
    | some .string, .dat (.str s) => match s[i.toNat]? with
      | some b => some (.dat (.int .u8 b.toNat))
      | none => none
    | some (.array len elem), x => match sizeA P elem with
      | some n =>
        if i < len then
          match x with
          | .dat (.agg ds) => partA P elem (ds.map .dat) (i.toNat * n)
          | .agg cs => partA P elem cs (i.toNat * n)
          | _ => none
        else none
      | none => none
    | _, _ => none
  | _ => none

/-- a bound of a slice expression: none is the default -/
def boundA (ts : List AV) (o : Option Operand) (dflt top : Nat) : Option Nat :=
  match o with
  | none => some dflt
  | some x => match evalX ts x with
    | some (.dat (.int _ i)) => if 0 ≤ i ∧ i ≤ top then some i.toNat else none
    | _ => none

def sliceA (P : Program) (t : TypeId) (x : AV) (lo hi mx : Option Operand) (ts : List AV) : Option AV :=
  match P.underlying t, x with
  | some .string, .dat (.str s) =>
    if mx.isSome then none else
    match boundA ts hi s.length s.length with
    | some h => match boundA ts lo 0 h with
      | some l => some (.dat (.str ((s.drop l).take (h - l))))
      | none => none
    | none => none
  | some (.slice elem), x => match sizeA P elem, elems x with
    | some n, some es =>
      if sized n es = true then
        match mx with
        | none => match boundA ts hi es.length es.length with
          | some h => match boundA ts lo 0 h with
            | some l =>
              let r := (es.drop l).take (h - l)
              match x with
              | .dat .nils => some (.dat .nils)
              | .own .full _ => if h = es.length then some (.own .full r) else some (.dat (.slice r))
              | _ => some (.dat (.slice r))
            | none => none
          | none => none
        | some m => match hi with
          | none => none
          | some hx => match boundA ts (some m) 0 es.length with
            | some mm => match boundA ts (some hx) 0 mm with
              | some h => match boundA ts lo 0 h with
                | some l =>
                  let r := (es.drop l).take (h - l)
                  match x with
                  | .dat .nils => some (.dat .nils)
                  | .own .full _ => if h = mm then some (.own .full r) else some (.dat (.slice r))
                  | _ => some (.dat (.slice r))
                | none => none
              | none => none
            | none => none
      else none
    | _, _ => none
  | _, _ => none

def lenA (P : Program) (t : TypeId) (x : AV) : Option AV :=
  match P.underlying t, x with
  | some .string, .dat (.str s) => some (.dat (.int .i64 s.length))
  | some (.slice _), x => (elems x).map fun es => .dat (.int .i64 es.length)
  | some (.array n _), _ => some (.dat (.int .i64 n))
  | _, _ => none

def mm2 (isMax : Bool) : AV → AV → Option AV
  | .dat (.int k x), .dat (.int _ y) => some (.dat (.int k (if isMax then (if y > x then y else x) else (if y < x then y else x))))
  | _, _ => none

def minMaxA (isMax : Bool) : AV → List AV → Option AV
  | a, [] => some a
  | a, b :: r => match mm2 isMax a b with
    | some c => minMaxA isMax c r
    | none => none

def keep (h : Heap) (v : Option AV) : Option (AV × Heap) := v.map fun a => (a, h)

/-- unsafe.String of a growing slice's bytes -/
def unsafeStringA (P : Program) (pt : TypeId) (p n : AV) (h : Heap) : Option AV :=
  match p, n with
  | .ptr none, .dat (.int _ 0) => some (.dat (.str []))
  | .sdata b off v e es, .dat (.int _ n) =>
    if n < 0 then none else
    if n = 0 then some (.dat (.str [])) else
    match h[b]?, P.underlying pt with
    | some (some (.cells _ cs _)), some (.pointer u) => match cs[off]? with
      | some (.own (.at b' off' v' e') es') =>
        if b' = b ∧ off' = off ∧ v' = v ∧ e' = e ∧ es'.length = es.length ∧ P.cellsOf e = 1 ∧ n.toNat ≤ es.length ∧ sameLayout P P.depth e u = true ∧ n ≤ 9223372036854775807 then (bytesOf (es.take n.toNat)).map fun s => .dat (.str s) else none
      | _ => none
    | _, _ => none
  | _, _ => none

def builtinA (P : Program) (b : Builtin) (argTypes : List TypeId) (place : Option Nat) (args : List AV) (h : Heap) : Option (AV × Heap) :=
  match b, argTypes, args with
  | .len, t :: _, x :: _ => (lenA P t x).map fun v => (v, h)
  | .append, ts, s :: x :: _ => appendA P ts place s x h
  | .unsafeSliceData, _, [.dat .nils] => some (.ptr none, h)
  | .unsafeSliceData, _, [.own (.at b off v e') (e :: es)] => some (.sdata b off v e' (e :: es), h)
  | .unsafeString, pt :: _, [p, n] => keep h (unsafeStringA P pt p n h)
  | .min, _, a :: r => keep h (minMaxA false a r)
  | .max, _, a :: r => keep h (minMaxA true a r)
  | _, _, _ => none

def nilCheckA (x : AV) : Option AV :=
  match x with
  | .ptr none => none
  | .nilIface => none
  | .nilFunc => none
  | .func (.func f) a c => some (.func (.func f) a c)
  | .func _ _ _ => none
  | x => some x

abbrev CallF := FuncId → List AV → Heap → Option (AV × Heap)

def callA (P : Program) (callf : CallF) (place : Option Nat) (c : Call) (ts : List AV) (h : Heap) : Option (AV × Heap) :=
  match evalL ts c.args.toList with
  | none => none
  | some args => match c.callee with
    | .builtin b => builtinA P b c.argTypes.toList place args h
    | .value x => match evalX ts x with
      | some (.func (.func f) first captured) => callf f (first ++ args ++ captured) h
      | _ => none
    | .invoke _ _ => none

def stepOp (P : Program) (callf : CallF) (place : Option Nat) (op : Op) (ts : List AV) (h : Heap) : Option (AV × Heap) :=
  match op with
  | .move x | .assign x => keep h (evalX ts x)
  | .pick c a b => match evalX ts c with
    | some (.dat (.bool t)) => keep h (if t then evalX ts a else evalX ts b)
    | _ => none
  | .alloc t => match zeroA P t with
    | some z => newVarA place h t z.cells
    | none => none
  | .box t x => match evalX ts x with
    | some v => newVarA place h t v.cells
    | none => none
  | .build t parts => match evalParts ts parts.toList with
    | some ps => keep h (buildA P t ps)
    | none => none
  | .buildSlice t len parts => match evalParts ts parts.toList with
    | some ps => keep h (buildSliceA P t len ps)
    | none => none
  | .load t x => match evalX ts x with
    | some p => keep h (loadA P t p h)
    | none => none
  | .store t x y => match evalX ts x, evalX ts y with
    | some p, some v => (storeA P t p v h).map fun h' => (undefA, h')
    | _, _ => none
  | .nilCheck x => match evalX ts x with
    | some v => keep h (nilCheckA v)
    | none => none
  | .binOp op t x y _ => match evalX ts x, evalX ts y with
    | some a, some b => keep h (binA P op t a b)
    | _, _ => none
  | .unOp op _ x => match evalX ts x with
    | some a => keep h (unA op a)
    | none => none
  | .convert s d x => match evalX ts x with
    | some (.ptr o) => keep h (convPtr P s d (.ptr o) h)
    | some a => keep h (convA P s d a)
    | none => none
  | .makeFunc fn first captured => match evalL ts first.toList, evalL ts captured.toList with
    | some a, some c => some (.func fn a c, h)
    | _, _ => none
  | .slice t x lo hi mx => match evalX ts x with
    | some a => keep h (sliceA P t a lo hi mx ts)
    | none => none
  | .fieldAddr t x f => match evalX ts x with
    | some a => keep h (fieldAddrA P t a f)
    | none => none
  | .field t x f => match evalX ts x with
    | some a => keep h (fieldA P t a f)
    | none => none
  | .indexAddr t x i => match evalX ts x, evalX ts i with
    | some a, some b => keep h (indexAddrA P t a b)
    | _, _ => none
  | .index t x i => match evalX ts x, evalX ts i with
    | some a, some b => keep h (indexA P t a b)
    | _, _ => none
  | .extract x i => match evalX ts x with
    | some (.tuple vs) => keep h vs[i]?
    | _ => none
  | .call c => callA P callf place c ts h
  | _ => none

def putA (ts : List AV) (dst : Option Tmp) (v : AV) : List AV :=
  match dst with
  | some d => ts.set d v
  | none => ts

/-- is an operation wanted? -/
def wantedA (ops : Array Oper) (o : Oper) (ts : List AV) : Option Bool :=
  match o.guard with
  | none => some true
  | some (j, want) => match (ops[j]?).bind (·.dst) with
    | some d => match ts[d]? with
      | some (.dat (.bool b)) => some (b == want)
      | some (.tuple _) => some false
      | _ => none
    | none => none

def oneOp (P : Program) (callf : CallF) (ops : Array Oper) (place : Option Nat) (o : Oper) (ts : List AV) (h : Heap) : Option (AV × Heap) :=
  match wantedA ops o ts with
  | some true => stepOp P callf place o.op ts h
  | some false => some (undefA, h)
  | none => none

def regionT (P : Program) (callf : CallF) (ops : Array Oper) : List Oper → St → Option St
  | [], s => some s
  | o :: r, s => match oneOp P callf ops none o s.tmps s.heap with
    | some (v, h) => regionT P callf ops r ⟨putA s.tmps o.dst v, h⟩
    | none => none

/- REGIONS THAT DRAW THEIR ORDER: run in the text's order, each operation over what it can reach alone; it is then asked that what is not ordered doesn't meet. -/

mutual
/-- the boxes that a value names -/
def AV.ids : AV → List Nat
  | .own (.tip i) _ => [i]
  | .own (.at i _ _ _) _ => [i]
  | .sdata i _ _ _ _ => [i]
  | .ptr (some (i, _)) => [i]
  | .func _ a c => idsL a ++ idsL c
  | .iface _ v => v.ids
  | .agg cs => idsL cs
  | .tuple vs => idsL vs
  | _ => []
def idsL : List AV → List Nat
  | [] => []
  | v :: r => v.ids ++ idsL r
end

/-- all that can be reached from some boxes; depth: how many steps -/
def reachA (h : Heap) : Nat → List Nat → List Nat → List Nat
  | 0, _, acc => acc
  | _ + 1, [], acc => acc
  | d + 1, i :: r, acc =>
    if acc.contains i then reachA h d r acc else
    match h[i]? with
    | some (some (.cells _ cs _)) => reachA h d (idsL cs ++ r) (i :: acc)
    | _ => reachA h d r (i :: acc)

def restrictA (F : List Nat) : Nat → Heap → Heap
  | _, [] => []
  | i, o :: r => (if F.contains i then o else none) :: restrictA F (i + 1) r

def holesA (F : List Nat) : Nat → Heap → Bool
  | _, [] => true
  | i, o :: r => (F.contains i || o.isNone) && holesA F (i + 1) r

/-- does an operation make a box of its own? -/
def makesBox : Op → Bool
  | .alloc _ | .box _ _ => true
  | .call c => match c.callee with | .builtin .append => true | _ => false
  | _ => false

def onlyReads : Op → Bool
  | .load _ _ => true
  | .convert _ _ _ => true
  | .call c => match c.callee with
    | .builtin .len => true
    | .builtin .unsafeSliceData => true
    | _ => false
  | _ => false

/-- which boxes an operation may look at -/
def footA (op : Op) (ts : List AV) (h : Heap) : Option (List Nat) :=
  match op with
  | .load _ x => match evalX ts x with
    | some a => some a.ids
    | none => none
  | .store _ x y => match evalX ts x, evalX ts y with
    | some a, some b => some (a.ids ++ b.ids)
    | _, _ => none
  | .convert _ _ x => match evalX ts x with
    | some a => some a.ids
    | none => none
  | .call c => match c.callee with
    | .builtin _ => (evalL ts c.args.toList).map idsL
    | _ => (evalL ts (Op.call c).operands.toList).map fun vs => reachA h (h.length * h.length + 100) (idsL vs) []
  | _ => some []

structure Done where
  reads : List Tmp
  dst : Option Tmp
  foot : List Nat
  writes : List Nat

def setIds (h h' : Heap) : List Nat → Heap
  | [] => h
  | i :: r => setIds (match h'[i]? with | some o => h.set i o | none => h) h' r

def readsOf (ops : Array Oper) (o : Oper) : List Tmp :=
  (o.op.operands.toList.filterMap fun | .tmp t => some t | _ => none) ++
  (match o.guard with
   | some (g, _) => ((ops[g]?).bind (·.dst)).toList
   | none => [])

def apartL (a b : List Nat) : Bool := a.all fun i => !b.contains i

def apartD (a b : Done) : Bool :=
  apartL a.writes b.foot && apartL b.writes a.foot &&
  (match a.dst with | some d => !b.reads.contains d && b.dst != some d | none => true) &&
  (match b.dst with | some d => !a.reads.contains d | none => true)

/-- for each operation the set of those that come before it in whatever order: as the bits of a number -/
def masksA : List Oper → List Nat → List Nat
  | [], acc => acc
  | o :: r, acc => masksA r (acc ++ [o.after.toList.foldl (fun s e => if Region.binds .any e then s ||| 2 ^ e.on ||| acc.getD e.on 0 else s) 0])

def checkOne (m : Nat) (d : Done) : Nat → List Done → Bool
  | _, [] => true
  | i, e :: r => (m.testBit i || apartD e d) && checkOne m d (i + 1) r

/-- what must come before stands before -/
def edgesA (o : Oper) (n : Nat) : Bool := o.after.toList.all fun e => !Region.binds .any e || decide (e.on < n)

def placeOf (op : Op) (w : Bool) (at_ : Nat) : Option Nat := if makesBox op && w then some at_ else none

def nextAt (op : Op) (at_ : Nat) : Nat := if makesBox op then at_ + 1 else at_

def footOf (o : Oper) (w : Bool) (s : St) : Option (List Nat) := if w then footA o.op s.tmps s.heap else some []

def writesOf (op : Op) (F : List Nat) : List Nat := if onlyReads op then [] else F

/-- one operation of such a region, over what it can reach alone -/
def doneOp (P : Program) (callf : CallF) (ops : Array Oper) (N : Nat) (o : Oper) (at_ m : Nat) (done : List Done) (s : St) : Option (Done × AV × Heap) :=
  match wantedA ops o s.tmps with
  | none => none
  | some w => match footOf o w s with
    | none => none
    | some F0 => match oneOp P callf ops (placeOf o.op w at_) o s.tmps (restrictA ((placeOf o.op w at_).toList ++ F0) 0 s.heap) with
      | none => none
      | some (v, h') =>
        if h'.length = N ∧ holesA ((placeOf o.op w at_).toList ++ F0) 0 h' = true ∧
            checkOne m ⟨readsOf ops o, o.dst, (placeOf o.op w at_).toList ++ F0, writesOf o.op ((placeOf o.op w at_).toList ++ F0)⟩ 0 done = true ∧ edgesA o done.length = true then
          some (⟨readsOf ops o, o.dst, (placeOf o.op w at_).toList ++ F0, writesOf o.op ((placeOf o.op w at_).toList ++ F0)⟩, v, h')
        else none

/-- N: the heap's length; at_: the next box's place -/
def regionD (P : Program) (callf : CallF) (ops : Array Oper) (N : Nat) : List Oper → Nat → List Nat → List Done → St → Option St
  | [], _, _, _, s => some s
  | o :: r, at_, masks, done, s => match doneOp P callf ops N o at_ (masks.headD 0) done s with
    | some (d, v, h') => regionD P callf ops N r (nextAt o.op at_) masks.tail (done ++ [d]) ⟨putA s.tmps o.dst v, setIds s.heap h' d.writes⟩
    | none => none

def countBoxes : List Oper → Nat
  | [] => 0
  | o :: r => (if makesBox o.op then 1 else 0) + countBoxes r

def regionDraw (P : Program) (callf : CallF) (ops : Array Oper) (s : St) : Option St :=
  let m := countBoxes ops.toList
  let h := s.heap ++ List.replicate m none
  regionD P callf ops h.length ops.toList s.heap.length (masksA ops.toList []) [] ⟨s.tmps, h⟩

def resultA (P : Program) (ts : List AV) (h : Heap) : ResultVar → Option AV
  | .tmp t => some (ts.getD t undefA)
  | .cell a t => loadA P t (ts.getD a undefA) h

def resultsA (P : Program) (ts : List AV) (h : Heap) : List ResultVar → Option (List AV)
  | [] => some []
  | r :: l => match resultA P ts h r with
    | some v => (resultsA P ts h l).map (v :: ·)
    | none => none

def tupleA : List AV → AV
  | [v] => v
  | vs => .tuple vs

/-- what a call leaves: its own boxes are let go, if the result names none -/
def finishA (n : Nat) (v : AV) (h : Heap) : AV × Heap := if v.under n then (v, h.take n) else (v, h)

def scopeLoop (r : Code → St → Option (Ex × St)) (body : Code) : Nat → Code → St → Option (Ex × St)
  | 0, _, _ => none
  | n + 1, cur, s => match r cur s with
    | some (.goto l, s') => match findLabel body l with
      | some rest => scopeLoop r body n rest s'
      | none => some (.goto l, s')
    | x => x

abbrev Prim := List AV → Heap → Option (AV × Heap)

def enterA (P : Program) (prim : FuncId → Option Prim) (r : Code → St → Option (Ex × St)) : CallF := fun f args h =>
  match prim f with
  | some p => p args h
  | none => match P.funcs[f]? with
    | none => none
    | some fn => match fn.body with
      | none => none
      | some body =>
        match r body ⟨args.map sealV ++ List.replicate (fn.ntmps - args.length) undefA, h⟩ with
        | some (.normal, s) | some (.ret, s) => match resultsA P s.tmps s.heap fn.results.toList with
          | some vs => some (finishA h.length (sealR (tupleA vs)) s.heap)
          | none => none
        | _ => none

def run (P : Program) (prim : FuncId → Option Prim) : Nat → Code → St → Option (Ex × St)
  | 0, _, _ => none
  | k + 1, c, s => match c with
    | .skip => some (.normal, s)
    | .label _ => some (.normal, s)
    | .region _ ops draw =>
      if draw then (regionDraw P (enterA P prim (run P prim k)) ops s).map fun s' => (.normal, s')
      else (regionT P (enterA P prim (run P prim k)) ops ops.toList s).map fun s' => (.normal, s')
    | .seq a b => match run P prim k a s with
      | some (.normal, s') => run P prim k b s'
      | x => x
    | .cond x a b => match evalX s.tmps x with
      | some (.dat (.bool t)) => run P prim k (if t then a else b) s
      | _ => none
    | .block id b => match run P prim k b s with
      | some (.exit i, s') => if i = id then some (.normal, s') else some (.exit i, s')
      | x => x
    | .loop b => match run P prim k b s with
      | some (.normal, s') => run P prim k (.loop b) s'
      | x => x
    | .exit id => some (.exit id, s)
    | .goto l => some (.goto l, s)
    | .scope b => scopeLoop (run P prim k) b k b s
    | .ret => some (.ret, s)
    | _ => none

def call (P : Program) (prim : FuncId → Option Prim) (k : Nat) : CallF := enterA P prim (run P prim k)

end Go.Proofs.Ytfdcjngclelnhaa

namespace Go.Proofs.Ytfdcjngclelnhaa
open Go Go.RowKit

abbrev Imm := Addr → Option Value

inductive DenD (imm : Imm) : D → Value → Prop where
  | bool (b : Bool) : DenD imm (.bool b) (.bool b)
  | int (k : IntKind) (n : Int) : DenD imm (.int k n) (.int k n)
  | str (s : List UInt8) : DenD imm (.str s) (.string ⟨s.toArray⟩)
  | nils : DenD imm .nils (.slice none 0 0)
  | slice (es : List D) (a : Addr) (cap b o sz : Nat) (vs : List Value) (hcap : es.length ≤ cap) (ha : es ≠ [] → a = ⟨b, o, none⟩) (hsz : ∀ e, e ∈ es → e.cells.length = sz)
      (hl : vs.length = (es.flatMap D.cells).length) (hv : ∀ (j : Nat) (v : Value), vs[j]? = some v → imm ⟨b, o + j, none⟩ = some v)
      (h : ∀ (j : Nat) (d : D) (v : Value), (es.flatMap D.cells)[j]? = some d → vs[j]? = some v → DenD imm d v) : DenD imm (.slice es) (.slice (some a) es.length cap)
  | agg (cs : List D) (vs : Array Value) (hl : vs.toList.length = cs.length) (h : ∀ (j : Nat) (d : D) (v : Value), cs[j]? = some d → vs.toList[j]? = some v → DenD imm d v) : DenD imm (.agg cs) (.agg vs)

/-- lists of data and of values, place by place -/
inductive DenDL (imm : Imm) : List D → List Value → Prop where
  | nil : DenDL imm [] []
  | cons {d : D} {v : Value} {ds : List D} {vs : List Value} : DenD imm d v → DenDL imm ds vs → DenDL imm (d :: ds) (v :: vs)

theorem DenDL.of_index {imm : Imm} : ∀ {ds : List D} {vs : List Value}, vs.length = ds.length → (∀ (j : Nat) (d : D) (v : Value), ds[j]? = some d → vs[j]? = some v → DenD imm d v) → DenDL imm ds vs
  | [], [], _, _ => .nil
  | [], _ :: _, h, _ => by simp at h
  | _ :: _, [], h, _ => by simp at h
  | d :: ds, v :: vs, h, hi => .cons (hi 0 d v rfl rfl) (DenDL.of_index (by simpa using h) fun j d' v' h1 h2 => hi (j + 1) d' v' (by simpa using h1) (by simpa using h2))

theorem DenDL.length {imm : Imm} {ds : List D} {vs : List Value} (h : DenDL imm ds vs) : vs.length = ds.length := by induction h <;> simp [*]

theorem DenDL.index {imm : Imm} {ds : List D} {vs : List Value} (h : DenDL imm ds vs) : ∀ (j : Nat) (d : D) (v : Value), ds[j]? = some d → vs[j]? = some v → DenD imm d v := by
  induction h with
  | nil => intro j d v h; simp at h
  | cons hd _ ih =>
    intro j d v h1 h2
    cases j with
    | zero => simp at h1 h2; subst h1; subst h2; exact hd
    | succ j => exact ih j d v (by simpa using h1) (by simpa using h2)

theorem DenDL.append {imm : Imm} {a b : List D} {v w : List Value} (h : DenDL imm a v) (k : DenDL imm b w) : DenDL imm (a ++ b) (v ++ w) := by
  induction h with
  | nil => simpa using k
  | cons hd _ ih => exact .cons hd ih

theorem DenDL.drop {imm : Imm} : ∀ (n : Nat) {a : List D} {v : List Value}, DenDL imm a v → DenDL imm (a.drop n) (v.drop n)
  | 0, _, _, h => by simpa using h
  | _ + 1, _, _, .nil => by simpa using DenDL.nil
  | n + 1, _, _, .cons _ h => by simpa using DenDL.drop n h

theorem DenDL.take {imm : Imm} : ∀ (n : Nat) {a : List D} {v : List Value}, DenDL imm a v → DenDL imm (a.take n) (v.take n)
  | 0, _, _, _ => by simpa using DenDL.nil
  | _ + 1, _, _, .nil => by simpa using DenDL.nil
  | n + 1, _, _, .cons hd h => by simpa using DenDL.cons hd (DenDL.take n h)

theorem DenD.mono {imm imm' : Imm} (hi : ∀ a v, imm a = some v → imm' a = some v) {d : D} {v : Value} (h : DenD imm d v) : DenD imm' d v := by
  induction h with
  | bool b => exact .bool b
  | int k n => exact .int k n
  | str s => exact .str s
  | nils => exact .nils
  | slice es a cap b o sz vs hcap ha hsz hl hv _ ih => exact .slice es a cap b o sz vs hcap ha hsz hl (fun j v h => hi _ _ (hv j v h)) ih
  | agg cs vs hl _ ih => exact .agg cs vs hl ih

theorem DenDL.mono {imm imm' : Imm} (hi : ∀ a v, imm a = some v → imm' a = some v) {d : List D} {v : List Value} (h : DenDL imm d v) : DenDL imm' d v := by
  induction h with
  | nil => exact .nil
  | cons hd _ ih => exact .cons (hd.mono hi) ih

/-- elements that lie one behind the other, each of this many cells -/
def Cells (imm : Imm) (b o sz : Nat) (es : List D) : Prop :=
  (∀ e, e ∈ es → e.cells.length = sz) ∧ ∃ vs : List Value, DenDL imm (es.flatMap D.cells) vs ∧ ∀ (j : Nat) (v : Value), vs[j]? = some v → imm ⟨b, o + j, none⟩ = some v

theorem Cells.mono {imm imm' : Imm} (hi : ∀ a v, imm a = some v → imm' a = some v) {b o sz : Nat} {es : List D} (h : Cells imm b o sz es) : Cells imm' b o sz es := by
  obtain ⟨h1, vs, h2, h3⟩ := h
  exact ⟨h1, vs, h2.mono hi, fun j v hv => hi _ _ (h3 j v hv)⟩

theorem flat_length {sz : Nat} : ∀ {es : List D}, (∀ e, e ∈ es → e.cells.length = sz) → (es.flatMap D.cells).length = es.length * sz
  | [], _ => by simp
  | e :: es, h => by
    have h1 := h e (by simp)
    have h2 := flat_length (es := es) fun x hx => h x (by simp [hx])
    simp only [List.flatMap_cons, List.length_append, List.length_cons, h1, h2, Nat.succ_mul]; omega

theorem DenD.slice_cells {imm : Imm} {es : List D} {v : Value} (h : DenD imm (.slice es) v) :
    ∃ a cap b o sz, v = .slice (some a) es.length cap ∧ es.length ≤ cap ∧ (es ≠ [] → a = ⟨b, o, none⟩) ∧ Cells imm b o sz es := by
  cases h with
  | slice _ a cap b o sz vs hcap ha hsz hl hv h => exact ⟨a, cap, b, o, sz, rfl, hcap, ha, hsz, vs, DenDL.of_index hl h, hv⟩

theorem DenD.of_cells {imm : Imm} {es : List D} {a : Addr} {cap b o sz : Nat} (hcap : es.length ≤ cap) (ha : es ≠ [] → a = ⟨b, o, none⟩) (h : Cells imm b o sz es) : DenD imm (.slice es) (.slice (some a) es.length cap) := by
  obtain ⟨h1, vs, h2, h3⟩ := h
  exact .slice es a cap b o sz vs hcap ha h1 h2.length h3 h2.index

theorem DenD.agg_list {imm : Imm} {cs : List D} {v : Value} (h : DenD imm (.agg cs) v) : ∃ vs, v = .agg vs ∧ DenDL imm cs vs.toList := by
  cases h with
  | agg _ vs hl h => exact ⟨vs, rfl, DenDL.of_index hl h⟩

theorem DenD.of_agg {imm : Imm} {cs : List D} {vs : Array Value} (h : DenDL imm cs vs.toList) : DenD imm (.agg cs) (.agg vs) := .agg cs vs h.length h.index

/-- elements from one on, and so many of them -/
theorem Cells.drop {imm : Imm} {b o sz : Nat} {es : List D} (n : Nat) (h : Cells imm b o sz es) (hn : n ≤ es.length) : Cells imm b (o + n * sz) sz (es.drop n) := by
  obtain ⟨h1, vs, h2, h3⟩ := h
  refine ⟨fun e he => h1 e (List.mem_of_mem_drop he), vs.drop (n * sz), ?_, fun j v hv => ?_⟩
  · have : (es.drop n).flatMap D.cells = (es.flatMap D.cells).drop (n * sz) := by
      have e : es.flatMap D.cells = (es.take n).flatMap D.cells ++ (es.drop n).flatMap D.cells := by rw [← List.flatMap_append, List.take_append_drop]
      have hl : ((es.take n).flatMap D.cells).length = n * sz := by rw [flat_length fun x hx => h1 x (List.mem_of_mem_take hx)]; simp [Nat.min_eq_left hn]
      rw [e, List.drop_append_of_le_length (by omega), ← hl, List.drop_length, List.nil_append]
    rw [this]; exact h2.drop _
  · rw [List.getElem?_drop] at hv
    have := h3 _ v hv
    rwa [← Nat.add_assoc] at this

theorem Cells.take {imm : Imm} {b o sz : Nat} {es : List D} (n : Nat) (h : Cells imm b o sz es) (hn : n ≤ es.length) : Cells imm b o sz (es.take n) := by
  obtain ⟨h1, vs, h2, h3⟩ := h
  refine ⟨fun e he => h1 e (List.mem_of_mem_take he), vs.take (n * sz), ?_, fun j v hv => ?_⟩
  · have : (es.take n).flatMap D.cells = (es.flatMap D.cells).take (n * sz) := by
      have e : es.flatMap D.cells = (es.take n).flatMap D.cells ++ (es.drop n).flatMap D.cells := by rw [← List.flatMap_append, List.take_append_drop]
      have hl : ((es.take n).flatMap D.cells).length = n * sz := by rw [flat_length fun x hx => h1 x (List.mem_of_mem_take hx)]; simp [Nat.min_eq_left hn]
      rw [e, List.take_append_of_le_length (by omega), ← hl, List.take_length]
    rw [this]; exact h2.take _
  · rw [List.getElem?_take] at hv
    split at hv
    · exact h3 _ v hv
    · exact nomatch hv

/-- where one element lies -/
theorem Cells.elem {imm : Imm} {b o sz : Nat} {es : List D} (h : Cells imm b o sz es) {i : Nat} {e : D} (he : es[i]? = some e) :
    e.cells.length = sz ∧ ∃ vs, DenDL imm e.cells vs ∧ ∀ (j : Nat) (v : Value), vs[j]? = some v → imm ⟨b, o + i * sz + j, none⟩ = some v := by
  have hi : i < es.length := by
    rcases Nat.lt_or_ge i es.length with h | h
    · exact h
    · rw [List.getElem?_eq_none h] at he; exact nomatch he
  have h' := h.drop i (by omega)
  obtain ⟨h1, vs, h2, h3⟩ := h'
  have hd : es.drop i = e :: es.drop (i + 1) := by
    rw [List.drop_eq_getElem_cons hi]
    congr 1
    rw [List.getElem?_eq_getElem hi] at he
    exact Option.some.inj he
  have hsz : e.cells.length = sz := h1 e (by rw [hd]; simp)
  refine ⟨hsz, vs.take sz, ?_, fun j v hv => ?_⟩
  · have := h2.take sz
    rw [hd, List.flatMap_cons, List.take_append_of_le_length (by omega), ← hsz, List.take_length] at this
    rw [← hsz]; exact this
  · rw [List.getElem?_take] at hv
    split at hv
    · exact h3 _ v hv
    · exact nomatch hv

inductive Key where
  | tip (id n : Nat)
  | at (id off ver : Nat)

/-- a growing slice's row: its block, the capacity, an element's cells, the block's element type -/
structure KRow where
  b : Nat
  cap : Nat
  sz : Nat
  e : TypeId

structure KW where
  base : World
  imm : Imm
  blk : Nat → Option Nat
  key : Key → Option KRow

structure Kext (K K' : KW) : Prop where
  base : K'.base = K.base
  imm : ∀ a v, K.imm a = some v → K'.imm a = some v
  blk : ∀ i b, K.blk i = some b → K'.blk i = some b
  key : ∀ k r, K.key k = some r → K'.key k = some r
  old : ∀ a, a.block < K.base.heap.size → K'.imm a = K.imm a

theorem Kext.refl (K : KW) : Kext K K := ⟨rfl, fun _ _ h => h, fun _ _ h => h, fun _ _ h => h, fun _ _ => rfl⟩
theorem Kext.trans {a b c : KW} (h : Kext a b) (k : Kext b c) : Kext a c :=
  ⟨k.base.trans h.base, fun x y z => k.imm x y (h.imm x y z), fun x y z => k.blk x y (h.blk x y z), fun x y z => k.key x y (h.key x y z), fun x z => (k.old x (h.base ▸ z)).trans (h.old x z)⟩

inductive Den (K : KW) : AV → Value → Prop where
  | dat {d : D} {v : Value} (h : DenD K.imm d v) : Den K (.dat d) v
  | full (es : List D) (a : Addr) (b o sz : Nat) (ha : es ≠ [] → a = ⟨b, o, none⟩) (h : Cells K.imm b o sz es) : Den K (.own .full es) (.slice (some a) es.length es.length)
  | tip (id : Nat) (es : List D) (r : KRow) (hr : K.key (.tip id es.length) = some r) (hcap : es.length ≤ r.cap) (h : Cells K.imm r.b 0 r.sz es) : Den K (.own (.tip id) es) (.slice (some ⟨r.b, 0, none⟩) es.length r.cap)
  | at (id off ver : Nat) (es : List D) (r : KRow) (hr : K.key (.at id off ver) = some r) (hcap : es.length ≤ r.cap) (h : Cells K.imm r.b 0 r.sz es) : Den K (.own (.at id off ver r.e) es) (.slice (some ⟨r.b, 0, none⟩) es.length r.cap)
  | pnil : Den K (.ptr none) (.pointer none)
  | ptr (id off b : Nat) (h : K.blk id = some b) : Den K (.ptr (some (id, off))) (.pointer (some ⟨b, off, none⟩))
  | ep (cs : List D) (off b o : Nat) (vs : List Value) (h : DenDL K.imm cs vs) (hv : ∀ (j : Nat) (v : Value), vs[j]? = some v → K.imm ⟨b, o + j, none⟩ = some v) : Den K (.ep cs off) (.pointer (some ⟨b, o + off, none⟩))
  | func (fn : Fn) (a c : List AV) (va vc : Array Value) (hla : va.toList.length = a.length) (ha : ∀ (j : Nat) (x : AV) (v : Value), a[j]? = some x → va.toList[j]? = some v → Den K x v)
      (hlc : vc.toList.length = c.length) (hc : ∀ (j : Nat) (x : AV) (v : Value), c[j]? = some x → vc.toList[j]? = some v → Den K x v) : Den K (.func fn a c) (.func fn va vc)
  | nilFunc : Den K .nilFunc .nilFunc
  | iface (t : TypeId) {x : AV} {v : Value} (h : Den K x v) : Den K (.iface t x) (.iface t v)
  | nilIface : Den K .nilIface .nilIface
  | agg (cs : List AV) (vs : Array Value) (hl : vs.toList.length = cs.length) (h : ∀ (j : Nat) (x : AV) (v : Value), cs[j]? = some x → vs.toList[j]? = some v → Den K x v) : Den K (.agg cs) (.agg vs)
  | tuple (cs : List AV) (vs : Array Value) (hl : vs.toList.length = cs.length) (h : ∀ (j : Nat) (x : AV) (v : Value), cs[j]? = some x → vs.toList[j]? = some v → Den K x v) : Den K (.tuple cs) (.tuple vs)
  | sdata (id off ver : Nat) (es : List D) (r : KRow) (hr : K.key (.at id off ver) = some r) (hcap : es.length ≤ r.cap) (h : Cells K.imm r.b 0 r.sz es) : Den K (.sdata id off ver r.e es) (.pointer (some ⟨r.b, 0, none⟩))

inductive DenL (K : KW) : List AV → List Value → Prop where
  | nil : DenL K [] []
  | cons {x : AV} {v : Value} {xs : List AV} {vs : List Value} : Den K x v → DenL K xs vs → DenL K (x :: xs) (v :: vs)

section
variable {K K' : KW}

theorem DenL.of_index : ∀ {ds : List AV} {vs : List Value}, vs.length = ds.length → (∀ (j : Nat) (d : AV) (v : Value), ds[j]? = some d → vs[j]? = some v → Den K d v) → DenL K ds vs
  | [], [], _, _ => .nil
  | [], _ :: _, h, _ => by simp at h
  | _ :: _, [], h, _ => by simp at h
  | d :: ds, v :: vs, h, hi => .cons (hi 0 d v rfl rfl) (DenL.of_index (by simpa using h) fun j d' v' h1 h2 => hi (j + 1) d' v' (by simpa using h1) (by simpa using h2))

theorem DenL.length {ds : List AV} {vs : List Value} (h : DenL K ds vs) : vs.length = ds.length := by induction h <;> simp [*]

theorem DenL.index {ds : List AV} {vs : List Value} (h : DenL K ds vs) : ∀ (j : Nat) (d : AV) (v : Value), ds[j]? = some d → vs[j]? = some v → Den K d v := by
  induction h with
  | nil => intro j d v h; simp at h
  | cons hd _ ih =>
    intro j d v h1 h2
    cases j with
    | zero => simp at h1 h2; subst h1; subst h2; exact hd
    | succ j => exact ih j d v (by simpa using h1) (by simpa using h2)

theorem DenL.get {ds : List AV} {vs : List Value} (h : DenL K ds vs) {j : Nat} {d : AV} (hd : ds[j]? = some d) : ∃ v, vs[j]? = some v ∧ Den K d v := by
  have hj : j < ds.length := by
    rcases Nat.lt_or_ge j ds.length with h | h
    · exact h
    · rw [List.getElem?_eq_none h] at hd; exact nomatch hd
  have hv : vs[j]? = some (vs[j]'(by rw [h.length]; exact hj)) := List.getElem?_eq_getElem _
  exact ⟨_, hv, h.index j d _ hd hv⟩

theorem DenL.append {a b : List AV} {v w : List Value} (h : DenL K a v) (k : DenL K b w) : DenL K (a ++ b) (v ++ w) := by
  induction h with
  | nil => simpa using k
  | cons hd _ ih => exact .cons hd ih

theorem DenL.drop : ∀ (n : Nat) {a : List AV} {v : List Value}, DenL K a v → DenL K (a.drop n) (v.drop n)
  | 0, _, _, h => by simpa using h
  | _ + 1, _, _, .nil => by simpa using DenL.nil
  | n + 1, _, _, .cons _ h => by simpa using DenL.drop n h

theorem DenL.take : ∀ (n : Nat) {a : List AV} {v : List Value}, DenL K a v → DenL K (a.take n) (v.take n)
  | 0, _, _, _ => by simpa using DenL.nil
  | _ + 1, _, _, .nil => by simpa using DenL.nil
  | n + 1, _, _, .cons hd h => by simpa using DenL.cons hd (DenL.take n h)

theorem DenL.set : ∀ (n : Nat) {a : List AV} {v : List Value} {x : AV} {y : Value}, DenL K a v → Den K x y → DenL K (a.set n x) (v.set n y)
  | 0, _, _, _, _, .nil, _ => by simpa using DenL.nil
  | 0, _, _, _, _, .cons _ h, hx => by simpa using DenL.cons hx h
  | _ + 1, _, _, _, _, .nil, _ => by simpa using DenL.nil
  | n + 1, _, _, _, _, .cons hd h, hx => by simpa using DenL.cons hd (DenL.set n h hx)

theorem DenL.replicate {x : AV} {v : Value} (h : Den K x v) : ∀ n, DenL K (List.replicate n x) (List.replicate n v)
  | 0 => .nil
  | n + 1 => by simpa [List.replicate_succ] using DenL.cons h (DenL.replicate h n)

theorem Den.mono (hk : Kext K K') {x : AV} {v : Value} (h : Den K x v) : Den K' x v := by
  induction h with
  | dat h => exact .dat (h.mono hk.imm)
  | full es a b o sz ha h => exact .full es a b o sz ha (h.mono hk.imm)
  | tip id es r hr hcap h => exact .tip id es r (hk.key _ _ hr) hcap (h.mono hk.imm)
  | «at» id off ver es r hr hcap h => exact .at id off ver es r (hk.key _ _ hr) hcap (h.mono hk.imm)
  | pnil => exact .pnil
  | ptr id off b h => exact .ptr id off b (hk.blk _ _ h)
  | ep cs off b o vs h hv => exact .ep cs off b o vs (h.mono hk.imm) fun j v hj => hk.imm _ _ (hv j v hj)
  | func fn a c va vc hla _ hlc _ iha ihc => exact .func fn a c va vc hla iha hlc ihc
  | nilFunc => exact .nilFunc
  | iface t _ ih => exact .iface t ih
  | nilIface => exact .nilIface
  | agg cs vs hl _ ih => exact .agg cs vs hl ih
  | tuple cs vs hl _ ih => exact .tuple cs vs hl ih
  | sdata id off ver es r hr hcap h => exact .sdata id off ver es r (hk.key _ _ hr) hcap (h.mono hk.imm)

theorem DenL.mono (hk : Kext K K') {x : List AV} {v : List Value} (h : DenL K x v) : DenL K' x v := by
  induction h with
  | nil => exact .nil
  | cons hd _ ih => exact .cons (hd.mono hk) ih

theorem DenL.of_dat {ds : List D} {vs : List Value} (h : DenDL K.imm ds vs) : DenL K (ds.map .dat) vs := by
  induction h with
  | nil => exact .nil
  | cons hd _ ih => exact .cons (.dat hd) ih

theorem Den.agg_list {cs : List AV} {v : Value} (h : Den K (.agg cs) v) : ∃ vs, v = .agg vs ∧ DenL K cs vs.toList := by
  cases h with
  | agg _ vs hl h => exact ⟨vs, rfl, DenL.of_index hl h⟩

theorem Den.of_agg {cs : List AV} {vs : Array Value} (h : DenL K cs vs.toList) : Den K (.agg cs) (.agg vs) := .agg cs vs h.length h.index

theorem Den.tuple_list {cs : List AV} {v : Value} (h : Den K (.tuple cs) v) : ∃ vs, v = .tuple vs ∧ DenL K cs vs.toList := by
  cases h with
  | tuple _ vs hl h => exact ⟨vs, rfl, DenL.of_index hl h⟩

theorem Den.of_tuple {cs : List AV} {vs : Array Value} (h : DenL K cs vs.toList) : Den K (.tuple cs) (.tuple vs) := .tuple cs vs h.length h.index

theorem Den.func_list {fn : Fn} {a c : List AV} {v : Value} (h : Den K (.func fn a c) v) : ∃ va vc, v = .func fn va vc ∧ DenL K a va.toList ∧ DenL K c vc.toList := by
  cases h with
  | func _ _ _ va vc hla ha hlc hc => exact ⟨va, vc, rfl, DenL.of_index hla ha, DenL.of_index hlc hc⟩

theorem Den.of_func {fn : Fn} {a c : List AV} {va vc : Array Value} (ha : DenL K a va.toList) (hc : DenL K c vc.toList) : Den K (.func fn a c) (.func fn va vc) :=
  .func fn a c va vc ha.length ha.index hc.length hc.index

theorem den_undef : Den K undefA undef := Den.of_tuple (vs := #[]) .nil

theorem allDat_some : ∀ {cs : List AV} {ds : List D}, allDat cs = some ds → cs = ds.map .dat
  | [], ds, h => by simp [allDat] at h; subst h; rfl
  | c :: cs, ds, h => by
    cases c <;> simp [allDat] at h
    obtain ⟨r, hr, rfl⟩ := h
    simp [allDat_some hr]

theorem denDL_of_map : ∀ {ds : List D} {vs : List Value}, DenL K (ds.map .dat) vs → DenDL K.imm ds vs
  | [], _, .nil => .nil
  | _ :: _, _, .cons (.dat h) k => .cons h (denDL_of_map k)

theorem den_mkAgg {cs : List AV} {vs : Array Value} (h : DenL K cs vs.toList) : Den K (mkAgg cs) (.agg vs) := by
  unfold mkAgg
  split
  · rename_i ds hd
    rw [allDat_some hd] at h
    exact .dat (.of_agg (denDL_of_map h))
  · exact .of_agg h

/-- the cells of a value -/
theorem Den.cells {x : AV} {v : Value} (h : Den K x v) : DenL K x.cells v.cells.toList := by
  cases h with
  | dat h =>
    cases h with
    | agg cs vs hl h => exact DenL.of_dat (DenDL.of_index hl h)
    | slice es a cap b o sz vs hcap ha hsz hl hv h => exact .cons (.dat (.slice es a cap b o sz vs hcap ha hsz hl hv h)) .nil
    | bool b => exact .cons (.dat (.bool b)) .nil
    | int k n => exact .cons (.dat (.int k n)) .nil
    | str s => exact .cons (.dat (.str s)) .nil
    | nils => exact .cons (.dat .nils) .nil
  | agg cs vs hl h => exact DenL.of_index hl h
  | full es a b o sz ha h => exact .cons (.full es a b o sz ha h) .nil
  | tip id es r hr hcap h => exact .cons (.tip id es r hr hcap h) .nil
  | «at» id off ver es r hr hcap h => exact .cons (.at id off ver es r hr hcap h) .nil
  | pnil => exact .cons .pnil .nil
  | ptr id off b h => exact .cons (.ptr id off b h) .nil
  | ep cs off b o vs h hv => exact .cons (.ep cs off b o vs h hv) .nil
  | func fn a c va vc hla ha hlc hc => exact .cons (.func fn a c va vc hla ha hlc hc) .nil
  | nilFunc => exact .cons .nilFunc .nil
  | iface t h => exact .cons (.iface t h) .nil
  | nilIface => exact .cons .nilIface .nil
  | tuple cs vs hl h => exact .cons (.tuple cs vs hl h) .nil
  | sdata id off ver es r hr hcap h => exact .cons (.sdata id off ver es r hr hcap h) .nil

theorem den_sealOwn {g : Own} {es : List D} {v : Value} (h : Den K (.own g es) v) : DenD K.imm (.slice es) v := by
  cases h with
  | full es a b o sz ha h => exact .of_cells (Nat.le_refl _) ha h
  | tip id es r hr hcap h => exact .of_cells hcap (fun _ => rfl) h
  | «at» id off ver es r hr hcap h => exact .of_cells hcap (fun _ => rfl) h

theorem den_sealC {x : AV} {v : Value} (h : Den K x v) : Den K (sealC x) v := by
  cases x <;> simp only [sealC] <;> first | exact h | exact .dat (den_sealOwn h)

theorem denL_map {f : AV → AV} (hf : ∀ x v, Den K x v → Den K (f x) v) {xs : List AV} {vs : List Value} (h : DenL K xs vs) : DenL K (xs.map f) vs := by
  induction h with
  | nil => exact .nil
  | cons hd _ ih => exact .cons (hf _ _ hd) ih

theorem den_sealV {x : AV} {v : Value} (h : Den K x v) : Den K (sealV x) v := by
  cases x <;> simp only [sealV] <;> first | exact h | exact .dat (den_sealOwn h) | skip
  obtain ⟨vs, rfl, hl⟩ := h.agg_list
  exact den_mkAgg (denL_map (fun _ _ => den_sealC) hl)

theorem den_sealR {x : AV} {v : Value} (h : Den K x v) : Den K (sealR x) v := by
  unfold sealR
  split
  · obtain ⟨vs, rfl, hl⟩ := h.tuple_list
    exact Den.of_tuple (denL_map (fun _ _ => den_sealV) hl)
  · exact den_sealV h

theorem den_toD {x : AV} {v : Value} {d : D} (h : Den K x v) (hd : x.toD = some d) : DenD K.imm d v := by
  unfold AV.toD at hd
  have hs := den_sealV h
  split at hd
  · rename_i d' he
    rw [he] at hs
    cases hd
    cases hs with
    | dat h => exact h
  · exact nomatch hd

theorem den_elems {x : AV} {v : Value} {es : List D} (h : Den K x v) (he : elems x = some es) :
    ∃ a cap, v = .slice a es.length cap ∧ es.length ≤ cap ∧ ∃ b o sz, (es ≠ [] → a = some ⟨b, o, none⟩) ∧ Cells K.imm b o sz es := by
  cases x <;> simp [elems] at he
  · rename_i d
    cases h with
    | dat h =>
      cases d <;> simp at he
      · subst he; cases h; exact ⟨none, 0, rfl, by simp, 0, 0, 0, by simp, by simp, [], .nil, by simp⟩
      · subst he
        obtain ⟨a, cap, b, o, sz, rfl, h1, h2, h3⟩ := h.slice_cells
        exact ⟨some a, cap, rfl, h1, b, o, sz, fun h => by rw [h2 h], h3⟩
  · subst he
    obtain ⟨a, cap, b, o, sz, rfl, h1, h2, h3⟩ := (den_sealOwn h).slice_cells
    exact ⟨some a, cap, rfl, h1, b, o, sz, fun h => by rw [h2 h], h3⟩

end

theorem bytes_eq (s : ByteArray) : (⟨s.data.toList.toArray⟩ : ByteArray) = s := by cases s; simp

theorem den_cst1 {K : KW} {v : Value} {a : AV} (h : cst1 v = some a) : Den K a v := by
  unfold cst1 at h
  split at h <;> first
    | (cases h; exact .dat (.bool _))
    | (cases h; exact .dat (.int _ _))
    | (cases h; rename_i s; have := DenD.str (imm := K.imm) s.data.toList; rw [bytes_eq] at this; exact .dat this)
    | (cases h; exact .pnil)
    | (cases h; exact .dat .nils)
    | (cases h; exact .nilFunc)
    | (cases h; exact .nilIface)
    | exact nomatch h

theorem den_cstL {K : KW} : ∀ {vs : List Value} {as : List AV}, cstL vs = some as → DenL K as vs
  | [], as, h => by simp [cstL] at h; subst h; exact .nil
  | v :: vs, as, h => by
    simp only [cstL] at h
    split at h
    · rename_i a ha
      simp at h
      obtain ⟨r, hr, rfl⟩ := h
      exact .cons (den_cst1 ha) (den_cstL hr)
    · exact nomatch h

theorem den_cstV {K : KW} {v : Value} {a : AV} (h : cstV v = some a) : Den K a v := by
  unfold cstV at h
  split at h
  · simp at h
    obtain ⟨r, hr, rfl⟩ := h
    exact den_mkAgg (den_cstL hr)
  · exact den_cst1 h

end Go.Proofs.Ytfdcjngclelnhaa

namespace Go.Proofs.Ytfdcjngclelnhaa
open Go Go.RowKit

inductive OKey where
  | box (id : Nat)
  | tip (id : Nat)
  | at (id off ver : Nat)

/-- behind n elements the row's block is free: nobody reads there -/
structure Free (K : KW) (w : World) (r : KRow) (n : Nat) : Prop where
  blk : ∃ vs lo hi, w.heap[r.b]? = some (.cells vs r.e (lo, hi)) ∧ r.cap * r.sz ≤ vs.size ∧ hi ≤ n * r.sz
  imm : ∀ off sp, n * r.sz ≤ off → K.imm ⟨r.b, off, sp⟩ = none
  base : K.base.heap.size ≤ r.b

def CellOk (K : KW) (w : World) (ow : Nat → Option OKey) (id i ver : Nat) : AV → Prop
  | .own (.tip _) _ => False
  | .own (.at id' off' v' e) es => id' = id ∧ off' = i ∧ v' < ver ∧ ∃ r, K.key (.at id i v') = some r ∧ r.e = e ∧ Free K w r es.length ∧ ow r.b = some (.at id i v')
  | _ => True

structure BoxOk (K : KW) (w : World) (ow : Nat → Option OKey) (id : Nat) (e : TypeId) (cs : List AV) (ver b : Nat) (vs : Array Value) : Prop where
  blk : K.blk id = some b
  own : ow b = some (.box id)
  base : K.base.heap.size ≤ b
  heap : w.heap[b]? = some (.cells vs e (0, 0))
  imm : ∀ off sp, K.imm ⟨b, off, sp⟩ = none
  den : DenL K cs vs.toList
  cell : ∀ i c, cs[i]? = some c → CellOk K w ow id i ver c
  under : undersL (id + 1) cs = true

structure OkW (K : KW) (h : Nat → Option AObj) (V : Nat → Prop) (w : World) (ow : Nat → Option OKey) : Prop where
  imm : ∀ a c, K.imm a = some c → w.cell? a = some c
  below : Below K.base.heap.size K.base w
  box : ∀ id e cs ver, h id = some (.cells e cs ver) → ∃ b vs, BoxOk K w ow id e cs ver b vs
  tip : ∀ id e n sz, h id = some (.tip e n sz) → ∃ r, K.key (.tip id n) = some r ∧ r.e = e ∧ r.sz = sz ∧ Free K w r n ∧ ow r.b = some (.tip id)
  more : ∀ id e n sz, h id = some (.tip e n sz) → ∀ n', n < n' → K.key (.tip id n') = none
  fresh : ∀ id, V id → h id = none ∧ K.blk id = none ∧ (∀ n, K.key (.tip id n) = none) ∧ ∀ off v, K.key (.at id off v) = none
  ver : ∀ id e cs ver, h id = some (.cells e cs ver) → ∀ off v, ver ≤ v → K.key (.at id off v) = none
  own : ∀ b k, ow b = some k → b < w.heap.size

def Ok (K : KW) (h : Nat → Option AObj) (V : Nat → Prop) (w : World) : Prop := ∃ ow, OkW K h V w ow

theorem heap_pushW (w : World) (o : Obj) (b : Nat) (h : b < w.heap.size) : (w.alloc o).heap[b]? = w.heap[b]? := by
  show (w.heap.push o)[b]? = _
  simp only [Array.getElem?_push, if_neg (Nat.ne_of_lt h)]

theorem heap_pushW_new (w : World) (o : Obj) : (w.alloc o).heap[w.heap.size]? = some o := by
  show (w.heap.push o)[w.heap.size]? = _
  simp

theorem size_pushW (w : World) (o : Obj) : (w.alloc o).heap.size = w.heap.size + 1 := by simp

theorem lt_of_heap {w : World} {b : Nat} {o : Obj} (h : w.heap[b]? = some o) : b < w.heap.size := by
  rcases Nat.lt_or_ge b w.heap.size with h' | h'
  · exact h'
  · rw [Array.getElem?_eq_none h'] at h; exact nomatch h

theorem cell_block {w : World} {a : Addr} {v : Value} (h : w.cell? a = some v) : ∃ vs e f, w.heap[a.block]? = some (.cells vs e f) ∧ a.spot = none ∧ vs[a.off]? = some v := by
  unfold World.cell? at h
  split at h
  · rename_i c e f hc
    split at h
    · exact nomatch h
    · rename_i hs; refine ⟨c, e, f, hc, ?_, h⟩; simpa using hs
  · exact nomatch h

theorem cell_of {w : World} {b off : Nat} {vs : Array Value} {e : TypeId} {f : Nat × Nat} (h : w.heap[b]? = some (.cells vs e f)) : w.cell? ⟨b, off, none⟩ = vs[off]? := by
  simp [World.cell?, h]

theorem cell_same {w w' : World} {a : Addr} (h : w'.heap[a.block]? = w.heap[a.block]?) : w'.cell? a = w.cell? a := by
  simp only [World.cell?, h]

theorem Free.heap {K : KW} {w w' : World} {r : KRow} {n : Nat} (h : Free K w r n) (hb : w'.heap[r.b]? = w.heap[r.b]?) : Free K w' r n := by
  obtain ⟨⟨vs, lo, hi, h1, h2⟩, h3, h4⟩ := h
  exact ⟨⟨vs, lo, hi, hb ▸ h1, h2⟩, h3, h4⟩

theorem Free.lt {K : KW} {w : World} {r : KRow} {n : Nat} (h : Free K w r n) : r.b < w.heap.size := by
  obtain ⟨⟨vs, lo, hi, h1, h2⟩, h3, h4⟩ := h
  exact lt_of_heap h1

/-- the world may turn where nobody owns and nothing is told -/
theorem OkW.world {K : KW} {h : Nat → Option AObj} {V : Nat → Prop} {w w' : World} {ow : Nat → Option OKey} (hk : OkW K h V w ow)
    (hb : Below K.base.heap.size K.base w') (hsz : w.heap.size ≤ w'.heap.size) (hown : ∀ b k, ow b = some k → w'.heap[b]? = w.heap[b]?)
    (hi : ∀ a c, K.imm a = some c → w'.cell? a = some c) : OkW K h V w' ow where
  imm := hi
  below := hb
  box := fun id e cs ver hid => by
    obtain ⟨b, vs, hbox⟩ := hk.box id e cs ver hid
    refine ⟨b, vs, hbox.blk, hbox.own, hbox.base, ?_, hbox.imm, hbox.den, fun i c hc => ?_, hbox.under⟩
    · rw [hown _ _ hbox.own]; exact hbox.heap
    · have := hbox.cell i c hc
      unfold CellOk at this ⊢
      split at this
      · exact this
      · obtain ⟨h1, h2, h3, r, h4, h5, h6, h7⟩ := this
        exact ⟨h1, h2, h3, r, h4, h5, h6.heap (hown _ _ h7), h7⟩
      · trivial
  tip := fun id e n sz hid => by
    obtain ⟨r, h1, h2, h3, h4, h5⟩ := hk.tip id e n sz hid
    exact ⟨r, h1, h2, h3, h4.heap (hown _ _ h5), h5⟩
  more := hk.more
  fresh := hk.fresh
  ver := hk.ver
  own := fun b k hb => Nat.lt_of_lt_of_le (hk.own b k hb) hsz

theorem OkW.base_le {K : KW} {h : Nat → Option AObj} {V : Nat → Prop} {w : World} {ow : Nat → Option OKey} (hk : OkW K h V w ow) : K.base.heap.size ≤ w.heap.size := hk.below.size

theorem OkW.push {K : KW} {h : Nat → Option AObj} {V : Nat → Prop} {w : World} {ow : Nat → Option OKey} (hk : OkW K h V w ow) (o : Obj) : OkW K h V (w.alloc o) ow :=
  hk.world (hk.below.alloc hk.base_le o) (by rw [size_pushW]; omega) (fun b k hb => heap_pushW _ _ _ (hk.own b k hb)) fun a c ha => by
    have := hk.imm a c ha
    obtain ⟨vs, e, f, h1, _⟩ := cell_block this
    rw [cell_same (heap_pushW _ _ _ (lt_of_heap h1))]; exact this

theorem OkW.drew {K : KW} {h : Nat → Option AObj} {V : Nat → Prop} {w : World} {ow : Nat → Option OKey} (hk : OkW K h V w ow) : OkW K h V w.drew ow :=
  hk.world (hk.below.trans ⟨rfl, rfl, rfl, Nat.le_refl _, fun _ _ => rfl⟩) (Nat.le_refl _) (fun _ _ _ => rfl) fun a c ha => hk.imm a c ha

theorem Ok.drew {K : KW} {h : Nat → Option AObj} {V : Nat → Prop} {w : World} (hk : Ok K h V w) : Ok K h V w.drew := by
  obtain ⟨ow, hk⟩ := hk
  exact ⟨ow, hk.drew⟩

theorem OkW.virgin {K : KW} {h : Nat → Option AObj} {V V' : Nat → Prop} {w : World} {ow : Nat → Option OKey} (hk : OkW K h V w ow) (hv : ∀ id, V' id → V id) : OkW K h V' w ow :=
  ⟨hk.imm, hk.below, hk.box, hk.tip, hk.more, fun id h => hk.fresh id (hv id h), hk.ver, hk.own⟩

theorem Ok.virgin {K : KW} {h : Nat → Option AObj} {V V' : Nat → Prop} {w : World} (hk : Ok K h V w) (hv : ∀ id, V' id → V id) : Ok K h V' w := by
  obtain ⟨ow, hk⟩ := hk
  exact ⟨ow, hk.virgin hv⟩

/-- what is told of a block's first m cells -/
def withImm (K : KW) (b m : Nat) (vs : Array Value) : KW :=
  { K with imm := fun a => if a.block = b ∧ a.spot = none ∧ a.off < m then vs[a.off]? else K.imm a }

theorem withImm_in {K : KW} {b m : Nat} {vs : Array Value} {off : Nat} (h : off < m) : (withImm K b m vs).imm ⟨b, off, none⟩ = vs[off]? := by simp [withImm, h]

theorem withImm_out {K : KW} {b m : Nat} {vs : Array Value} {a : Addr} (h : a.block ≠ b) : (withImm K b m vs).imm a = K.imm a := by simp [withImm, h]

theorem withImm_above {K : KW} {b m : Nat} {vs : Array Value} {off : Nat} {sp : Option Nat} (h : m ≤ off) : (withImm K b m vs).imm ⟨b, off, sp⟩ = K.imm ⟨b, off, sp⟩ := by
  simp only [withImm]; rw [if_neg (by simp; omega)]

theorem Kext.withImm {K : KW} {b m : Nat} {vs : Array Value} (hb : K.base.heap.size ≤ b) (h : ∀ off v, off < m → K.imm ⟨b, off, none⟩ = some v → vs[off]? = some v) : Kext K (withImm K b m vs) where
  base := rfl
  imm := fun a v ha => by
    simp only [Ytfdcjngclelnhaa.withImm]
    split
    · rename_i hc
      obtain ⟨h1, h2, h3⟩ := hc
      obtain ⟨ab, ao, asp⟩ := a
      simp only at h1 h2 h3
      subst h1; subst h2
      exact h _ _ h3 ha
    · exact ha
  blk := fun _ _ h => h
  key := fun _ _ h => h
  old := fun a ha => withImm_out (by omega)

theorem CellOk.mono {K K' : KW} {w w' : World} {ow ow' : Nat → Option OKey} {id i ver ver' : Nat} {c : AV} (hk : Kext K K') (h : CellOk K w ow id i ver c) (hv : ver ≤ ver')
    (hf : ∀ r n v, Free K w r n → ow r.b = some (.at id i v) → Free K' w' r n ∧ ow' r.b = some (.at id i v)) : CellOk K' w' ow' id i ver' c := by
  unfold CellOk at h ⊢
  split at h
  · exact h
  · obtain ⟨h1, h2, h3, r, h4, h5, h6, h7⟩ := h
    obtain ⟨h8, h9⟩ := hf _ _ _ h6 h7
    exact ⟨h1, h2, by omega, r, hk.key _ _ h4, h5, h8, h9⟩
  · trivial

/-- the first m cells of a block that nobody owns stay as they are from now on -/
theorem OkW.told {K : KW} {h : Nat → Option AObj} {V : Nat → Prop} {w : World} {ow : Nat → Option OKey} (hk : OkW K h V w ow) {b m : Nat} {vs : Array Value} {e : TypeId} {f : Nat × Nat}
    (hb : w.heap[b]? = some (.cells vs e f)) (hn : ow b = none) (hbase : K.base.heap.size ≤ b) : OkW (withImm K b m vs) h V w ow ∧ Kext K (withImm K b m vs) := by
  have hext : Kext K (withImm K b m vs) := Kext.withImm hbase fun off v _ hv => by
    have := hk.imm _ _ hv
    rwa [cell_of hb] at this
  have hne : ∀ b' k, ow b' = some k → b' ≠ b := fun b' k h1 h2 => by rw [h2, hn] at h1; exact nomatch h1
  have hfree : ∀ r n k, Free K w r n → ow r.b = some k → Free (withImm K b m vs) w r n := fun r n k hf ho =>
    ⟨hf.blk, fun off sp ho' => by rw [withImm_out (hne _ _ ho)]; exact hf.imm off sp ho', hf.base⟩
  refine ⟨⟨fun a c ha => ?_, hk.below, fun id e cs ver hid => ?_, fun id e n sz hid => ?_, hk.more, hk.fresh, hk.ver, hk.own⟩, hext⟩
  · simp only [withImm] at ha
    split at ha
    · rename_i hc
      obtain ⟨h1, h2, h3⟩ := hc
      obtain ⟨ab, ao, asp⟩ := a
      simp only at h1 h2 h3 ha
      subst h1; subst h2
      rw [cell_of hb]; exact ha
    · exact hk.imm a c ha
  · obtain ⟨b', vs', hbox⟩ := hk.box id e cs ver hid
    exact ⟨b', vs', hbox.blk, hbox.own, hbox.base, hbox.heap, fun off sp => by rw [withImm_out (hne _ _ hbox.own)]; exact hbox.imm off sp, hbox.den.mono hext,
      fun i c hc => (hbox.cell i c hc).mono hext (Nat.le_refl _) fun r n v hf ho => ⟨hfree r n _ hf ho, ho⟩, hbox.under⟩
  · obtain ⟨r, h1, h2, h3, h4, h5⟩ := hk.tip id e n sz hid
    exact ⟨r, h1, h2, h3, hfree r n _ h4 h5, h5⟩

/-- a new block, all of whose cells stay as they are -/
theorem OkW.row {K : KW} {h : Nat → Option AObj} {V : Nat → Prop} {w : World} {ow : Nat → Option OKey} (hk : OkW K h V w ow) (vs : Array Value) (e : TypeId) :
    OkW (withImm K w.heap.size vs.size vs) h V (w.alloc (.cells vs e)) ow ∧ Kext K (withImm K w.heap.size vs.size vs) := by
  have hn : ow w.heap.size = none := by
    cases ho : ow w.heap.size with
    | none => rfl
    | some k => have := hk.own _ _ ho; omega
  exact (hk.push (.cells vs e)).told (heap_pushW_new w _) hn hk.base_le

def withBlk (K : KW) (id b : Nat) : KW := { K with blk := fun i => if i = id then some b else K.blk i }
def withKey (K : KW) (k : Key → Option KRow) : KW := { K with key := fun x => match k x with | some r => some r | none => K.key x }
def withTip (K : KW) (id n : Nat) (r : KRow) : KW := withKey K fun | .tip i m => if i = id ∧ m = n then some r else none | _ => none
def withAt (K : KW) (id off ver : Nat) (r : KRow) : KW := withKey K fun | .at i o v => if i = id ∧ o = off ∧ v = ver then some r else none | _ => none

theorem kext_withBlk {K : KW} {id b : Nat} (h : K.blk id = none) : Kext K (withBlk K id b) where
  base := rfl
  imm := fun _ _ h => h
  blk := fun i b' hb => by
    simp only [withBlk]
    split
    · rename_i e; rw [e, h] at hb; exact nomatch hb
    · exact hb
  key := fun _ _ h => h
  old := fun _ _ => rfl

theorem kext_withTip {K : KW} {id n : Nat} {r : KRow} (h : K.key (.tip id n) = none) : Kext K (withTip K id n r) where
  base := rfl
  imm := fun _ _ h => h
  blk := fun _ _ h => h
  key := fun k r' hr => by
    cases k with
    | tip i m =>
      simp only [withTip, withKey]
      by_cases e : i = id ∧ m = n
      · obtain ⟨rfl, rfl⟩ := e; rw [h] at hr; exact nomatch hr
      · simpa [e] using hr
    | «at» i o v => simpa [withTip, withKey] using hr
  old := fun _ _ => rfl

theorem kext_withAt {K : KW} {id off ver : Nat} {r : KRow} (h : K.key (.at id off ver) = none) : Kext K (withAt K id off ver r) where
  base := rfl
  imm := fun _ _ h => h
  blk := fun _ _ h => h
  key := fun k r' hr => by
    cases k with
    | tip i m => simpa [withAt, withKey] using hr
    | «at» i o v =>
      simp only [withAt, withKey]
      by_cases e : i = id ∧ o = off ∧ v = ver
      · obtain ⟨rfl, rfl, rfl⟩ := e; rw [h] at hr; exact nomatch hr
      · simpa [e] using hr
  old := fun _ _ => rfl

theorem withTip_key {K : KW} {id n : Nat} {r : KRow} : (withTip K id n r).key (.tip id n) = some r := by simp [withTip, withKey]
theorem withAt_key {K : KW} {id off ver : Nat} {r : KRow} : (withAt K id off ver r).key (.at id off ver) = some r := by simp [withAt, withKey]

def upd (h : Nat → Option AObj) (id : Nat) (o : Option AObj) : Nat → Option AObj := fun i => if i = id then o else h i

theorem upd_same (h : Nat → Option AObj) (id : Nat) (o : Option AObj) : upd h id o id = o := by simp [upd]
theorem upd_ne {h : Nat → Option AObj} {id i : Nat} {o : Option AObj} (hi : i ≠ id) : upd h id o i = h i := by simp [upd, hi]

theorem Free.ext {K K' : KW} {w : World} {r : KRow} {n : Nat} (h : Free K w r n) (hb : K'.base = K.base) (hi : ∀ off sp, n * r.sz ≤ off → K'.imm ⟨r.b, off, sp⟩ = none) : Free K' w r n :=
  ⟨h.blk, hi, hb ▸ h.base⟩

/-- a new box -/
theorem OkW.newBox {K : KW} {h : Nat → Option AObj} {V : Nat → Prop} {w : World} {ow : Nat → Option OKey} (hk : OkW K h V w ow) {id : Nat} (hv : V id) {e : TypeId} {cs : List AV} {vs : Array Value}
    (hd : DenL K cs vs.toList) (hc : ∀ (i : Nat) (c : AV), cs[i]? = some c → (∀ j es, c ≠ AV.own (.tip j) es) ∧ ∀ a b d f es, c ≠ AV.own (.at a b d f) es) (hu : undersL (id + 1) cs = true) :
    ∃ ow', OkW (withBlk K id w.heap.size) (upd h id (some (.cells e cs 0))) (fun i => V i ∧ i ≠ id) (w.alloc (.cells vs e)) ow' ∧ Kext K (withBlk K id w.heap.size) := by
  obtain ⟨f1, f2, f3, f4⟩ := hk.fresh id hv
  have hext := kext_withBlk (b := w.heap.size) f2
  have hp := hk.push (.cells vs e)
  have hne : ∀ b' k, ow b' = some k → b' ≠ w.heap.size := fun b' k h1 => by have := hk.own b' k h1; omega
  let ow' : Nat → Option OKey := fun b => if b = w.heap.size then some (.box id) else ow b
  have how : ∀ b' k, ow b' = some k → ow' b' = some k := fun b' k h1 => by simp [ow', hne b' k h1, h1]
  refine ⟨ow', ⟨hp.imm, hp.below, fun id' e' cs' ver' hid => ?_, fun id' e' n sz hid => ?_, fun id' e' n sz hid => ?_, fun id' hv' => ?_, fun id' e' cs' ver' hid => ?_, fun b k hb => ?_⟩, hext⟩
  · by_cases hi : id' = id
    · subst hi
      rw [upd_same] at hid
      cases hid
      refine ⟨w.heap.size, vs, by simp [withBlk], by simp [ow'], hk.base_le, heap_pushW_new _ _, fun off sp => ?_, hd.mono hext, fun i c hi => ?_, hu⟩
      · cases hm : K.imm ⟨w.heap.size, off, sp⟩ with
        | none => exact hm
        | some v =>
          have := hk.imm _ _ hm
          obtain ⟨vs, e, f, h1, _⟩ := cell_block this
          have := lt_of_heap h1
          simp at this
      · have := hc i c hi
        unfold CellOk
        split
        · rename_i j es; exact this.1 j es rfl
        · rename_i a b d f es; exact (this.2 a b d f es rfl).elim
        · trivial
    · rw [upd_ne hi] at hid
      obtain ⟨b, vs', hbox⟩ := hp.box id' e' cs' ver' hid
      refine ⟨b, vs', hext.blk _ _ hbox.blk, how _ _ hbox.own, hbox.base, hbox.heap, hbox.imm, hbox.den.mono hext, fun i c hi => ?_, hbox.under⟩
      exact (hbox.cell i c hi).mono hext (Nat.le_refl _) fun r n v hf ho => ⟨⟨hf.blk, hf.imm, hf.base⟩, how _ _ ho⟩
  · by_cases hi : id' = id
    · subst hi; rw [upd_same] at hid; exact nomatch hid
    · rw [upd_ne hi] at hid
      obtain ⟨r, h1, h2, h3, h4, h5⟩ := hp.tip id' e' n sz hid
      exact ⟨r, h1, h2, h3, ⟨h4.blk, h4.imm, h4.base⟩, how _ _ h5⟩
  · by_cases hi : id' = id
    · subst hi; rw [upd_same] at hid; exact nomatch hid
    · rw [upd_ne hi] at hid; exact hk.more id' e' n sz hid
  · obtain ⟨g1, g2, g3, g4⟩ := hk.fresh id' hv'.1
    exact ⟨by rw [upd_ne hv'.2]; exact g1, by simp [withBlk, hv'.2, g2], g3, g4⟩
  · by_cases hi : id' = id
    · subst hi; rw [upd_same] at hid; cases hid; exact fun off v _ => f4 off v
    · rw [upd_ne hi] at hid; exact hk.ver id' e' cs' ver' hid
  · simp only [ow'] at hb
    rw [size_pushW]
    split at hb
    · omega
    · have := hk.own b k hb; omega

end Go.Proofs.Ytfdcjngclelnhaa
