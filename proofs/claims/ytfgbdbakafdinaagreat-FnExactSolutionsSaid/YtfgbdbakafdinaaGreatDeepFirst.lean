/- An evaluator over abstract values, and that its single operations are the model's. -/
import GoSem.Dispatch
import Derived.RowKit3
import Derived.Below
import Derived.Laws.OwnMore
import Derived.Laws.CopyRow
import Derived.ArgAppend
import Derived.Calls
import Derived.Laws.Tables
import Derived.Laws.MakeOwn
import Derived.Laws.StructEq
import Derived.Laws.Cover3
import Derived.Laws.Slices

section
/- An evaluator over abstract values: definitions alone (no program in sight, no proofs). Values: slices that are only read stand by their elements ('lst'), slices and variables that are written lie in own blocks ('sl', 'ptr'). -/
namespace Go.Ev

inductive AV where
  | junk
  | int (k : IntKind) (n : Int)
  | bool (b : Bool)
  | str (s : List UInt8)
  | nilp
  | ptr (id ver ix off : Nat)
  | rp (cells : List AV) (off : Nat)
  | sl (id sz ver off len : Nat)
  | lst (perm : Bool) (sz : Nat) (nil : Bool) (xs : List AV)
  | fn (f : FuncId) (first caps : List AV)
  | nilf
  | iface (t : TypeId) (v : AV)
  | nili
  | agg (xs : List AV)
  | tup (xs : List AV)
  deriving Inhabited

/-- An own block: its elements' type, the cells of one, the elements known (from the first on). -/
structure Blk where
  ty : TypeId
  sz : Nat
  els : List AV
  deriving Inhabited

abbrev Heap := List Blk
abbrev Fr := List (Nat × AV)

def Fr.get : Fr → Nat → AV
  | [], _ => .junk
  | (m, v) :: r, n => if m = n then v else Fr.get r n

def prune (live : List Nat) (fr : Fr) : Fr := live.map fun n => (n, fr.get n)

inductive Opd where
  | t (n : Nat)
  | c (v : AV)
  deriving Inhabited

def Opd.ev (g : Nat → AV) : Opd → AV
  | .t n => g n
  | .c v => v

def cellsOf : AV → List AV
  | .agg xs => xs
  | v => [v]

def storable : AV → Bool
  | .junk | .tup _ => false
  | _ => true

def mkEl (agg : Bool) (cs : List AV) : Option AV :=
  if agg then some (.agg cs) else match cs with
    | [c] => some c
    | _ => none

def mapO {α β : Type} (f : α → Option β) : List α → Option (List β)
  | [] => some []
  | x :: r => match f x with
    | some y => match mapO f r with
      | some ys => some (y :: ys)
      | none => none
    | none => none

inductive SK where
  | int | bool | str
  deriving Inhabited, DecidableEq

inductive EqI where
  | scal (k : SK)        -- scalars of Go (ints, bools, strings)
  | flat (ks : List SK)  -- a struct whose cells are such scalars
  | slc                  -- a slice against nil
  | ifc                  -- an interface against the constant nil
  | other
  deriving Inhabited, DecidableEq

/-- How a call is made: on the caller's own blocks; apart, its results only read; apart, its results the caller's own. -/
inductive CK where
  | inl | ro | own
  deriving Inhabited, DecidableEq

inductive MK where
  | mv (x : Opd)
  | pick (c a b : Opd)
  | alloc (ty sz : Nat) (z : AV)
  | box (ty sz : Nat) (x : Opd)
  | rbox (sz : Nat) (x : Opd)
  | build (zero : List AV) (parts : List (Nat × Nat × Opd))
  | bsl (ty sz : Nat) (zs : List AV) (parts : List (Nat × Opd))
  | rbsl (sz : Nat) (zs : List AV) (parts : List (Nat × Opd))
  | load (agg : Bool) (sz : Nat) (a : Opd)
  | store (sz : Nat) (a x : Opd)
  | nilchk (x : Opd)
  | bin (op : BinOp) (eq : EqI) (x y : Opd)
  | un (op : UnOp) (x : Opd)
  | cvt (k : IntKind) (x : Opd)
  | faddr (off : Nat) (x : Opd)
  | fld (agg : Bool) (off sz : Nat) (x : Opd)
  | iaddr (sz : Nat) (x i : Opd)
  | iaddrA (n sz : Nat) (x i : Opd)
  | idxS (x i : Opd)
  | idxA (agg : Bool) (n sz : Nat) (x i : Opd)
  | slc (sz : Nat) (x : Opd) (lo hi mx : Option Opd)
  | slcx (sz : Nat) (x : Opd) (lo hi : Option Opd)
  | slcS (x : Opd) (lo hi : Option Opd)
  | slcA (n sz : Nat) (x : Opd) (lo hi : Option Opd)
  | ext (i : Nat) (x : Opd)
  | mkfn (f : FuncId) (first caps : List Opd)
  | mksl (ty sz bytes : Nat) (z : AV) (l c : Opd)
  | mkif (t : TypeId) (x : Opd)
  | len (str : Bool) (x : Opd)
  | append (ty sz bytes : Nat) (s x : Opd) (away : List Nat)
  | copy (sz : Nat) (d s : Opd)
  | clear (sz : Nat) (z : AV) (x : Opd)
  | mm (mx : Bool) (xs : List Opd)
  | call (k : CK) (f : Opd) (args : List Opd)
  | bad
  deriving Inhabited

/-- What is told beside an operation: memory that is only read; of an append, the pointers that lead elsewhere; how a call is made. -/
structure An where
  ro : Bool
  away : List Nat
  ck : CK
  deriving Inhabited

structure MOp where
  dst : Option Nat
  guard : Option (Nat × Bool)
  k : MK
  deriving Inhabited

/-- The elements of a slice that can be read. -/
def elemsOf (A : Heap) : AV → Option (List AV)
  | .lst _ _ _ xs => some xs
  | .sl id _ ver off len => match A[id]? with
    | some b => if ver = b.els.length ∧ off + len ≤ ver then some ((b.els.drop off).take len) else none
    | none => none
  | .str s => some (s.map fun b => .int .u8 b.toNat)
  | _ => none

/-- Of a readable slice: do its elements have so many cells each? (nothing is asked of an empty one) -/
def szOk (sz : Nat) : AV → Bool
  | .lst _ s _ xs => xs.isEmpty || s == sz
  | .sl _ s _ _ _ => s == sz
  | .str _ => sz == 1
  | _ => false

def intBin (op : BinOp) (k : IntKind) (a b : Int) : Option AV :=
  match op with
  | .add => some (.int k (k.wrap (a + b)))
  | .sub => some (.int k (k.wrap (a - b)))
  | .mul => some (.int k (k.wrap (a * b)))
  | .quo => if b = 0 then none else some (.int k (k.wrap (a.tdiv b)))
  | .rem => if b = 0 then none else some (.int k (a.tmod b))
  | .and => some (.int k (k.wrap (BitVec.ofInt k.bits a &&& BitVec.ofInt k.bits b).toNat))
  | .or => some (.int k (k.wrap (BitVec.ofInt k.bits a ||| BitVec.ofInt k.bits b).toNat))
  | .xor => some (.int k (k.wrap (BitVec.ofInt k.bits a ^^^ BitVec.ofInt k.bits b).toNat))
  | .eql => some (.bool (decide (a = b)))
  | .neq => some (.bool (!decide (a = b)))
  | .lss => some (.bool (decide (a < b)))
  | .leq => some (.bool (decide (a ≤ b)))
  | .gtr => some (.bool (decide (a > b)))
  | .geq => some (.bool (decide (a ≥ b)))
  | _ => none

def strBin (op : BinOp) (a b : List UInt8) : Option AV :=
  match op with
  | .add => if a.length + b.length < 2 ^ 63 then some (.str (a ++ b)) else none
  | .eql => some (.bool (a == b))
  | .neq => some (.bool (!(a == b)))
  | .lss => some (.bool (Op.bytesLess a b))
  | .leq => some (.bool (Op.bytesLess a b || a == b))
  | .gtr => some (.bool (!(Op.bytesLess a b || a == b)))
  | .geq => some (.bool (!Op.bytesLess a b))
  | _ => none

def scalEq : SK → AV → AV → Option Bool
  | .int, .int k a, .int k' b => if k = k' then some (decide (a = b)) else none
  | .bool, .bool a, .bool b => some (a == b)
  | .str, .str a, .str b => some (a == b)
  | _, _, _ => none

def cellsEq : List SK → List AV → List AV → Option Bool
  | [], [], [] => some true
  | k :: ks, x :: xs, y :: ys => match scalEq k x y with
    | some true => cellsEq ks xs ys
    | some false => some false
    | none => none
  | _, _, _ => none

def isNilSl : AV → Option Bool
  | .lst _ _ nil _ => some nil
  | .sl .. => some false
  | _ => none

def isNilConst : AV → Bool
  | .lst _ _ true _ => true
  | _ => false

def evEq (eq : EqI) (x y : AV) : Option Bool :=
  match eq with
  | .scal k => scalEq k x y
  | .flat ks => match x, y with
    | .agg xs, .agg ys => cellsEq ks xs ys
    | _, _ => none
  | .slc => if isNilConst y then isNilSl x else none
  | .ifc => match x, y with
    | .iface _ _, .nili => some false
    | .nili, .nili => some true
    | _, _ => none
  | .other => none

def evBin (op : BinOp) (eq : EqI) (x y : AV) : Option AV :=
  match op, x, y with
  | .shl, .int k a, .int _ b => if b < 0 then none else some (.int k (k.wrap (a * 2 ^ (min b.toNat k.bits))))
  | .shr, .int k a, .int _ b => if b < 0 then none else some (.int k (a.fdiv (2 ^ (min b.toNat k.bits))))
  | op, .int k a, .int k' b => if k = k' then intBin op k a b else none
  | op, .str a, .str b => strBin op a b
  | .eql, x, y => match evEq eq x y with
    | some b => some (.bool b)
    | none => none
  | .neq, x, y => match evEq eq x y with
    | some b => some (.bool (!b))
    | none => none
  | _, _, _ => none

def evUn (op : UnOp) (x : AV) : Option AV :=
  match op, x with
  | .not, .bool b => some (.bool !b)
  | .neg, .int k n => some (.int k (k.wrap (0 - n)))
  | _, _ => none

def fillA (cs : List AV) : List (Nat × Nat × AV) → Option (List AV)
  | [] => some cs
  | (off, sz, v) :: r =>
    if storable v ∧ (cellsOf v).length = sz ∧ off + sz ≤ cs.length then
      fillA (cs.take off ++ cellsOf v ++ cs.drop (off + sz)) r
    else none

def setEls (sz : Nat) (els : List AV) : List (Nat × AV) → Option (List AV)
  | [] => some els
  | (i, v) :: r =>
    if storable v ∧ (cellsOf v).length = sz ∧ i < els.length then setEls sz (els.set i v) r else none

/-- A value that holds no own block's address and no borrowed memory: it stays good for ever. -/
def permA : AV → Bool
  | .int .. | .bool _ | .str _ | .nilp | .nilf | .nili => true
  | .lst p _ _ _ => p
  | .agg xs => permL xs
  | .iface _ v => permA v
  | _ => false
where permL : List AV → Bool
  | [] => true
  | x :: r => permA x && permL r

def permAll (xs : List AV) : Bool := xs.all permA

def loadFrom (agg : Bool) (sz off : Nat) (cs : List AV) : Option AV :=
  if off + sz ≤ cs.length then mkEl agg ((cs.drop off).take sz) else none

def bound (g : Nat → AV) (dflt : Nat) : Option Opd → Option Int
  | none => some dflt
  | some o => match o.ev g with
    | .int _ i => some i
    | _ => none

def appEls (ty : TypeId) (A : Heap) (sz bytes : Nat) (s : AV) (xs : List AV) : Option (AV × Heap) :=
  match s with
  | .sl id s' ver off len => match A[id]? with
    | some b =>
      if ver = b.els.length ∧ off + len ≤ ver ∧ s' = sz ∧ (len + xs.length) * bytes ≤ 140737488355328 then
        if off + len + xs.length ≤ ver then
          some (.sl id sz ver off (len + xs.length), A.set id ⟨b.ty, b.sz, b.els.take (off + len) ++ xs ++ b.els.drop (off + len + xs.length)⟩)
        else if off = 0 ∧ len = ver ∧ b.ty = ty then
          some (.sl id sz (ver + xs.length) 0 (len + xs.length), A.set id ⟨b.ty, b.sz, b.els ++ xs⟩)
        else none
      else none
    | none => none
  | .lst p sz' nil ys =>
    if xs.isEmpty then some (.lst p sz' nil ys, A)
    else if nil && ys.isEmpty && decide (xs.length * bytes ≤ 140737488355328) then
      some (.sl A.length sz xs.length 0 xs.length, A ++ [⟨ty, sz, xs⟩])
    else none
  | _ => none

/-- May an own slice be cut at h? Up to its length; of a slice whose block is known so far, up to what is known. -/
def hiOk (A : Heap) (id ver off len : Nat) (h : Int) : Bool :=
  decide (h ≤ len) || (match A[id]? with
    | some b => ver == b.els.length && decide ((off : Int) + h ≤ ver)
    | none => false)

/-- Does a pointer lead elsewhere than into a slice's block? -/
def awayFrom (s : AV) : AV → Bool
  | .rp .. => true
  | .ptr id _ _ _ => match s with
    | .sl id' _ _ _ _ => id != id'
    | .lst .. => true
    | _ => false
  | _ => false

def minmax (mx : Bool) : AV → List AV → Option AV
  | x, [] => some x
  | .int k x, .int _ y :: r => minmax mx (.int k (if mx then (if y > x then y else x) else (if y < x then y else x))) r
  | _, _ => none

/-- One operation that is no call of a Go function. -/
def evM (m : MK) (g : Nat → AV) (A : Heap) : Option (AV × Heap) :=
  match m with
  | .mv x => some (x.ev g, A)
  | .pick c a b => match c.ev g with
    | .bool t => some (if t then a.ev g else b.ev g, A)
    | _ => none
  | .alloc ty sz z => some (.ptr A.length 1 0 0, A ++ [⟨ty, sz, [z]⟩])
  | .box ty sz x =>
    if storable (x.ev g) ∧ (cellsOf (x.ev g)).length = sz then some (.ptr A.length 1 0 0, A ++ [⟨ty, sz, [x.ev g]⟩]) else none
  | .rbox sz x =>
    if storable (x.ev g) ∧ (cellsOf (x.ev g)).length = sz then some (.rp (cellsOf (x.ev g)) 0, A) else none
  | .build zero parts => match fillA zero (parts.map fun p => (p.1, p.2.1, p.2.2.ev g)) with
    | some cs => some (.agg cs, A)
    | none => none
  | .bsl ty sz zs parts => match setEls sz zs (parts.map fun p => (p.1, p.2.ev g)) with
    | some els => some (.sl A.length sz els.length 0 els.length, A ++ [⟨ty, sz, els⟩])
    | none => none
  | .rbsl sz zs parts => match setEls sz zs (parts.map fun p => (p.1, p.2.ev g)) with
    | some els => some (.lst (permAll els) sz false els, A)
    | none => none
  | .load agg sz a => match a.ev g with
    | .ptr id ver ix off => match A[id]? with
      | some b => if ver = b.els.length then
          match b.els[ix]? with
          | some e => match loadFrom agg sz off (cellsOf e) with
            | some v => some (v, A)
            | none => none
          | none => none
        else none
      | none => none
    | .rp cs off => match loadFrom agg sz off cs with
      | some v => some (v, A)
      | none => none
    | _ => none
  | .store sz a x => match a.ev g with
    | .ptr id ver ix off => match A[id]? with
      | some b => match b.els[ix]? with
        | some e =>
          if ver = b.els.length ∧ storable (x.ev g) ∧ (cellsOf (x.ev g)).length = sz ∧ off + sz ≤ (cellsOf e).length then
            match mkEl (e matches .agg _) ((cellsOf e).take off ++ cellsOf (x.ev g) ++ (cellsOf e).drop (off + sz)) with
            | some e' => some (.junk, A.set id ⟨b.ty, b.sz, b.els.set ix e'⟩)
            | none => none
          else none
        | none => none
      | none => none
    | _ => none
  | .nilchk x => match x.ev g with
    | .ptr id ver ix off => some (.ptr id ver ix off, A)
    | .rp cs off => some (.rp cs off, A)
    | .fn f a b => some (.fn f a b, A)
    | _ => none
  | .bin op eq x y => match evBin op eq (x.ev g) (y.ev g) with
    | some v => some (v, A)
    | none => none
  | .un op x => match evUn op (x.ev g) with
    | some v => some (v, A)
    | none => none
  | .cvt k x => match x.ev g with
    | .int _ n => some (.int k (k.wrap n), A)
    | _ => none
  | .faddr off x => match x.ev g with
    | .ptr id ver ix o => some (.ptr id ver ix (o + off), A)
    | .rp cs o => some (.rp cs (o + off), A)
    | _ => none
  | .fld agg off sz x => match x.ev g with
    | .agg cs => match loadFrom agg sz off cs with
      | some v => some (v, A)
      | none => none
    | _ => none
  | .iaddr sz x i => match i.ev g with
    | .int _ n => match x.ev g with
      | .sl id s ver off len => if s = sz ∧ 0 ≤ n ∧ n < len then some (.ptr id ver (off + n.toNat) 0, A) else none
      | .lst _ s _ xs => if 0 ≤ n then
          match xs[n.toNat]? with
          | some e => if s = sz then some (.rp (cellsOf e) 0, A) else none
          | none => none
        else none
      | _ => none
    | _ => none
  | .iaddrA n sz x i => match i.ev g with
    | .int _ j => if 0 ≤ j ∧ j < n then
        match x.ev g with
        | .ptr id ver ix o => some (.ptr id ver ix (o + j.toNat * sz), A)
        | .rp cs o => some (.rp cs (o + j.toNat * sz), A)
        | _ => none
      else none
    | _ => none
  | .idxS x i => match x.ev g, i.ev g with
    | .str s, .int _ n => if 0 ≤ n then
        match s[n.toNat]? with
        | some b => some (.int .u8 b.toNat, A)
        | none => none
      else none
    | _, _ => none
  | .idxA agg n sz x i => match x.ev g, i.ev g with
    | .agg cs, .int _ j => if 0 ≤ j ∧ j < n then
        match loadFrom agg sz (j.toNat * sz) cs with
        | some v => some (v, A)
        | none => none
      else none
    | _, _ => none
  | .slc sz x lo hi mx => match x.ev g with
    | .sl id s ver off len => match bound g 0 lo, bound g len hi with
      | some l, some h =>
        if s = sz ∧ 0 ≤ l ∧ l ≤ h ∧ h ≤ len then
          match mx with
          | none => some (.sl id s ver (off + l.toNat) (h.toNat - l.toNat), A)
          | some m => match m.ev g with
            | .int _ q => if h ≤ q ∧ q ≤ len then some (.junk, A) else none
            | _ => none
        else none
      | _, _ => none
    | .lst p s nil xs => match bound g 0 lo, bound g xs.length hi with
      | some l, some h =>
        if (s = sz ∨ xs = []) ∧ 0 ≤ l ∧ l ≤ h ∧ h ≤ xs.length then
          match mx with
          | none => some (.lst p s nil ((xs.drop l.toNat).take (h.toNat - l.toNat)), A)
          | some m => match m.ev g with
            | .int _ q => if h ≤ q ∧ q ≤ xs.length then some (.junk, A) else none
            | _ => none
        else none
      | _, _ => none
    | _ => none
  | .slcx sz x lo hi => match x.ev g with
    | .sl id s ver off len => match bound g 0 lo, bound g len hi with
      | some l, some h =>
        if s = sz ∧ 0 ≤ l ∧ l ≤ h ∧ hiOk A id ver off len h = true then some (.sl id s ver (off + l.toNat) (h.toNat - l.toNat), A) else none
      | _, _ => none
    | _ => none
  | .slcS x lo hi => match x.ev g with
    | .str s => match bound g 0 lo, bound g s.length hi with
      | some l, some h =>
        if 0 ≤ l ∧ l ≤ h ∧ h ≤ s.length then some (.str ((s.drop l.toNat).take (h.toNat - l.toNat)), A) else none
      | _, _ => none
    | _ => none
  | .slcA n sz x lo hi => match x.ev g with
    | .rp cs o => match bound g 0 lo, bound g n hi with
      | some l, some h =>
        if sz = 1 ∧ o = 0 ∧ cs.length = n ∧ 0 ≤ l ∧ l ≤ h ∧ h ≤ n then
          some (.lst false sz false ((cs.drop l.toNat).take (h.toNat - l.toNat)), A) else none
      | _, _ => none
    | _ => none
  | .ext i x => match x.ev g with
    | .tup vs => match vs[i]? with
      | some v => some (v, A)
      | none => none
    | _ => none
  | .mkfn f first caps => some (.fn f (first.map (·.ev g)) (caps.map (·.ev g)), A)
  | .mksl ty sz bytes z l c => match l.ev g, c.ev g with
    | .int _ n, .int _ m =>
      if 0 ≤ n ∧ n ≤ m ∧ m * bytes ≤ 140737488355328 ∧ m ≤ 9223372036854775807 then
        some (.sl A.length sz n.toNat 0 n.toNat, A ++ [⟨ty, sz, List.replicate n.toNat z⟩]) else none
    | _, _ => none
  | .mkif t x => some (.iface t (x.ev g), A)
  | .len str x => match x.ev g with
    | .lst _ _ _ xs => if str then none else some (.int .i64 xs.length, A)
    | .str s => if str then some (.int .i64 s.length, A) else none
    | .sl _ _ _ _ len => if str then none else some (.int .i64 len, A)
    | _ => none
  | .append ty sz bytes s x _ => match elemsOf A (x.ev g) with
    | some xs => if szOk sz (x.ev g) then appEls ty A sz bytes (s.ev g) xs else none
    | none => none
  | .copy sz d s => match d.ev g with
    | .sl id s' ver off len => match A[id]?, elemsOf A (s.ev g) with
      | some b, some xs =>
        if ver = b.els.length ∧ s' = sz ∧ off + len ≤ ver ∧ szOk sz (s.ev g) then
          some (.int .i64 ((min xs.length len : Nat) : Int), A.set id ⟨b.ty, b.sz, b.els.take off ++ xs.take len ++ b.els.drop (off + min xs.length len)⟩)
        else none
      | _, _ => none
    | _ => none
  | .clear sz z x => match x.ev g with
    | .sl id s' ver off len => match A[id]? with
      | some b =>
        if ver = b.els.length ∧ off + len ≤ ver ∧ s' = sz then
          some (.tup [], A.set id ⟨b.ty, b.sz, b.els.take off ++ List.replicate len z ++ b.els.drop (off + len)⟩)
        else none
      | none => none
    | .lst _ _ _ [] => some (.tup [], A)
    | _ => none
  | .mm mx xs => match xs.map (·.ev g) with
    | x :: r => match minmax mx x r with
      | some v => some (v, A)
      | none => none
    | [] => none
  | .call _ _ _ => none
  | .bad => none

/-! ### handing over: what a callee is lent, what it gives back -/

def borrow (A : Heap) : Nat → AV → Option AV
  | 0, _ => none
  | d + 1, v => match v with
    | .junk => none
    | .int k n => some (.int k n)
    | .bool b => some (.bool b)
    | .str s => some (.str s)
    | .nilp => some .nilp
    | .nilf => some .nilf
    | .nili => some .nili
    | .lst p sz nil xs => if p then some (.lst p sz nil xs) else
      match mapO (borrow A d) xs with
      | some ys => some (.lst false sz nil ys)
      | none => none
    | .sl id sz ver off len => match A[id]? with
      | some b => if ver = b.els.length ∧ off + len ≤ ver then
          match mapO (borrow A d) ((b.els.drop off).take len) with
          | some ys => some (.lst false sz false ys)
          | none => none
        else none
      | none => none
    | .ptr id ver ix off => match A[id]? with
      | some b => if ver = b.els.length then
          match b.els[ix]? with
          | some e => match mapO (borrow A d) (cellsOf e) with
            | some cs => some (.rp cs off)
            | none => none
          | none => none
        else none
      | none => none
    | .rp cs off => match mapO (borrow A d) cs with
      | some ys => some (.rp ys off)
      | none => none
    | .fn f a b => match mapO (borrow A d) a, mapO (borrow A d) b with
      | some a', some b' => some (.fn f a' b')
      | _, _ => none
    | .iface t x => match borrow A d x with
      | some y => some (.iface t y)
      | none => none
    | .agg xs => match mapO (borrow A d) xs with
      | some ys => some (.agg ys)
      | none => none
    | .tup _ => none

def giveBack (A : Heap) : Nat → AV → Option AV
  | 0, _ => none
  | d + 1, v => match v with
    | .int k n => some (.int k n)
    | .bool b => some (.bool b)
    | .str s => some (.str s)
    | .nilp => some .nilp
    | .nilf => some .nilf
    | .nili => some .nili
    | .lst p sz nil xs => if p then some (.lst p sz nil xs) else none
    | .sl id sz ver off len => match A[id]? with
      | some b => if ver = b.els.length ∧ off + len ≤ ver then
          match mapO (giveBack A d) ((b.els.drop off).take len) with
          | some ys => some (.lst true sz false ys)
          | none => none
        else none
      | none => none
    | .iface t x => match giveBack A d x with
      | some y => some (.iface t y)
      | none => none
    | .agg xs => match mapO (giveBack A d) xs with
      | some ys => some (.agg ys)
      | none => none
    | _ => none

def giveBackT (A : Heap) (d : Nat) : AV → Option AV
  | .tup xs => match mapO (giveBack A d) xs with
    | some ys => some (.tup ys)
    | none => none
  | v => giveBack A d v

/-- A value out of a run apart, among the caller's blocks: its own blocks' numbers go up. -/
def embed (n : Nat) : Nat → AV → Option AV
  | 0, _ => none
  | d + 1, v => match v with
    | .int k m => some (.int k m)
    | .bool b => some (.bool b)
    | .str s => some (.str s)
    | .nilp => some .nilp
    | .nilf => some .nilf
    | .nili => some .nili
    | .lst p sz nil xs => if p then some (.lst p sz nil xs) else some .junk
    | .sl id sz ver off len => some (.sl (id + n) sz ver off len)
    | .ptr id ver ix off => some (.ptr (id + n) ver ix off)
    | .iface t x => match embed n d x with
      | some y => some (.iface t y)
      | none => none
    | .agg xs => match mapO (embed n d) xs with
      | some ys => some (.agg ys)
      | none => none
    | .tup xs => match mapO (embed n d) xs with
      | some ys => some (.tup ys)
      | none => none
    | _ => some .junk

def embedB (n d : Nat) (b : Blk) : Option Blk :=
  match mapO (embed n d) b.els with
  | some els => some ⟨b.ty, b.sz, els⟩
  | none => none

def depth : Nat := 8

/-! ### code -/

inductive MC where
  | skip
  | reg (ops : List MOp) (live : List Nat)
  | seq (a b : MC)
  | cond (c : Opd) (a b : MC)
  | block (id : Nat) (c : MC)
  | loop (c : MC)
  | exit (id : Nat)
  | ret
  deriving Inhabited

inductive Ex where
  | norm
  | exit (id : Nat)
  | ret
  deriving Inhabited

inductive MRes where
  | t (n : Nat)
  | cell (agg : Bool) (sz : Nat) (n : Nat)
  deriving Inhabited

structure MFunc where
  body : MC
  res : List MRes
  deriving Inhabited

inductive Ent where
  | code (f : MFunc)
  | ext (spec : List AV → Option AV)

abbrev Tab := FuncId → Option Ent
abbrev CallF := FuncId → List AV → Heap → Option (AV × Heap)

def guardOk (g : Nat → AV) : Option (Nat × Bool) → Option Bool
  | none => some true
  | some (n, want) => match g n with
    | .bool b => some (b == want)
    | .tup [] => some false
    | _ => none

def putd (dst : Option Nat) (v : AV) (fr : Fr) : Fr :=
  match dst with
  | some d => (d, v) :: fr
  | none => fr

def doCall (call : CallF) (k : CK) (f : FuncId) (args : List AV) (A : Heap) : Option (AV × Heap) :=
  match k with
  | .inl => call f args A
  | .ro => match mapO (borrow A depth) args with
    | some args' => match call f args' [] with
      | some (v, A1) => match giveBackT A1 depth v with
        | some r => some (r, A)
        | none => none
      | none => none
    | none => none
  | .own => match mapO (borrow A depth) args with
    | some args' => match call f args' [] with
      | some (v, A1) => match embed A.length depth v, mapO (embedB A.length depth) A1 with
        | some r, some A2 => some (r, A ++ A2)
        | _, _ => none
      | none => none
    | none => none

def evK (call : CallF) (k : MK) (g : Nat → AV) (A : Heap) : Option (AV × Heap) :=
  match k with
  | .call k f args => match f.ev g with
    | .fn f first caps => doCall call k f (first ++ args.map (·.ev g) ++ caps) A
    | _ => none
  | k => evM k g A

def evV (call : CallF) (o : MOp) (g : Nat → AV) (A : Heap) : Option (AV × Heap) :=
  match guardOk g o.guard with
  | some true => evK call o.k g A
  | some false => some (.tup [], A)
  | none => none

/-- Of an append that is done: the pointers named lead elsewhere. -/
def chk (o : MOp) (g : Nat → AV) : Bool :=
  match o.k with
  | .append _ _ _ s _ away => (guardOk g o.guard != some true) || away.all fun n => awayFrom (s.ev g) (g n)
  | _ => true

def evU (call : CallF) (o : MOp) (fr : Fr) (A : Heap) : Option (Fr × Heap) :=
  match evV call o fr.get A with
  | some (v, A') => some (putd o.dst v fr, A')
  | none => none

def evOp (call : CallF) (o : MOp) (fr : Fr) (A : Heap) : Option (Fr × Heap) :=
  if chk o fr.get then evU call o fr A else none

def evOps (call : CallF) : List MOp → Fr → Heap → Option (Fr × Heap)
  | [], fr, A => some (fr, A)
  | o :: r, fr, A => match evOp call o fr A with
    | some (fr', A') => evOps call r fr' A'
    | none => none

abbrev Outc := Option (Ex × Fr × Heap)

def loopN (body : Fr → Heap → Outc) : Nat → Fr → Heap → Outc
  | 0, _, _ => none
  | n + 1, fr, A => match body fr A with
    | some (.norm, fr', A') => loopN body n fr' A'
    | r => r

def evC (call : CallF) (n : Nat) : MC → Fr → Heap → Outc
  | .skip, fr, A => some (.norm, fr, A)
  | .reg ops live, fr, A => match evOps call ops fr A with
    | some (fr', A') => some (.norm, prune live fr', A')
    | none => none
  | .seq a b, fr, A => match evC call n a fr A with
    | some (.norm, fr', A') => evC call n b fr' A'
    | r => r
  | .cond c a b, fr, A => match c.ev fr.get with
    | .bool true => evC call n a fr A
    | .bool false => evC call n b fr A
    | _ => none
  | .block id c, fr, A => match evC call n c fr A with
    | some (.exit id', fr', A') => if id' = id then some (.norm, fr', A') else some (.exit id', fr', A')
    | r => r
  | .loop c, fr, A => loopN (evC call n c) n fr A
  | .exit id, fr, A => some (.exit id, fr, A)
  | .ret, fr, A => some (.ret, fr, A)

def evRes (fr : Fr) (A : Heap) : MRes → Option AV
  | .t n => some (fr.get n)
  | .cell agg sz n => match fr.get n with
    | .ptr id ver ix off => match A[id]? with
      | some b => if ver = b.els.length then
          match b.els[ix]? with
          | some e => loadFrom agg sz off (cellsOf e)
          | none => none
        else none
      | none => none
    | .rp cs off => loadFrom agg sz off cs
    | _ => none

def one : List AV → AV
  | [v] => v
  | vs => .tup vs

def params : Nat → List AV → Fr
  | _, [] => []
  | n, v :: r => (n, v) :: params (n + 1) r

def runBody (call : CallF) (n : Nat) (f : MFunc) (args : List AV) (A : Heap) : Option (AV × Heap) :=
  match evC call n f.body (params 0 args) A with
  | some (.norm, fr, A') => match mapO (evRes fr A') f.res with
    | some vs => some (one vs, A')
    | none => none
  | some (.ret, fr, A') => match mapO (evRes fr A') f.res with
    | some vs => some (one vs, A')
    | none => none
  | _ => none

def permT : AV → Bool
  | .tup rs => permAll rs
  | r => permA r

def evF (T : Tab) : Nat → CallF
  | 0 => fun _ _ _ => none
  | k + 1 => fun f args A => match T f with
    | some (.code m) => runBody (evF T k) k m args A
    | some (.ext spec) => match mapO (borrow A depth) args with
      | some args' => match spec args' with
        | some r => if permT r then some (r, A) else none
        | none => none
      | none => none
    | none => none

end Go.Ev
end

section
/- What an abstract value says of a value of the model in a world, and what stays true when the world goes on. -/
set_option linter.unusedVariables false
set_option linter.unusedSimpArgs false
namespace Go.Ev

def flatE (xs : List AV) : List AV := xs.flatMap cellsOf

structure BI where
  r : Nat
  n : Nat
  sz : Nat
  cap : Nat

abbrev Info := List BI
def Has (I : Info) (b : Nat) : Prop := ∃ bi ∈ I, bi.r = b

inductive VRel (O : Nat → Prop) (I : Info) (w : World) : AV → Value → Prop
  | junk (v : Value) : VRel O I w .junk v
  | int (k : IntKind) (n : Int) : VRel O I w (.int k n) (.int k n)
  | bool (b : Bool) : VRel O I w (.bool b) (.bool b)
  | str (s : List UInt8) : VRel O I w (.str s) (.string ⟨s.toArray⟩)
  | nilp : VRel O I w .nilp (.pointer none)
  | nilf : VRel O I w .nilf .nilFunc
  | nili : VRel O I w .nili .nilIface
  | ptr (id ver ix off : Nat) (a : Addr) (bi : BI) (hi : I[id]? = some bi) (hv : ver ≤ bi.n)
      (h : ver = bi.n → a = ⟨bi.r, ix * bi.sz + off, none⟩) : VRel O I w (.ptr id ver ix off) (.pointer (some a))
  | rp (cs : List AV) (off b o : Nat) (vals : Nat → Value) (hb : ¬ Has I b) (hl : b < w.heap.size)
      (hc : ∀ j, j < cs.length → w.cell? ⟨b, o + j, none⟩ = some (vals j))
      (hv : ∀ (j : Nat) (h : j < cs.length), VRel O I w cs[j] (vals j)) (h1 : ∀ j, j < cs.length → (vals j).oneCell' = true) :
      VRel O I w (.rp cs off) (.pointer (some ⟨b, o + off, none⟩))
  | sl (id sz ver off len : Nat) (a : Addr) (c : Nat) (bi : BI) (hi : I[id]? = some bi) (hv : ver ≤ bi.n) (hs : bi.sz = sz) (hl : len ≤ c)
      (h : ver = bi.n → c = bi.cap - off ∧ (off < bi.cap → a = ⟨bi.r, off * bi.sz, none⟩)) : VRel O I w (.sl id sz ver off len) (.slice (some a) len c)
  | lstn (p : Bool) (sz : Nat) : VRel O I w (.lst p sz true []) (.slice none 0 0)
  | lst (p : Bool) (sz : Nat) (xs : List AV) (a : Addr) (c : Nat) (vals : Nat → Value) (hp : p = true → permAll xs = true) (hcap : xs.length ≤ c)
      (ha : xs ≠ [] → a.spot = none ∧ ¬ Has I a.block ∧ a.block < w.heap.size ∧ (p = true → ¬ O a.block))
      (hu : ∀ e ∈ xs, (cellsOf e).length = sz)
      (hc : ∀ k, k < (flatE xs).length → w.cell? ⟨a.block, a.off + k, none⟩ = some (vals k))
      (hv : ∀ (k : Nat) (h : k < (flatE xs).length), VRel O I w (flatE xs)[k] (vals k)) (h1 : ∀ k, k < (flatE xs).length → (vals k).oneCell' = true) :
      VRel O I w (.lst p sz false xs) (.slice (some a) xs.length c)
  | fn (f : FuncId) (first caps : List AV) (fl cl : List Value) (hf : fl.length = first.length) (hc : cl.length = caps.length)
      (h1 : ∀ (i : Nat) (h : i < first.length), VRel O I w first[i] (fl.getD i undef)) (h2 : ∀ (i : Nat) (h : i < caps.length), VRel O I w caps[i] (cl.getD i undef)) :
      VRel O I w (.fn f first caps) (.func (.func f) fl.toArray cl.toArray)
  | iface (t : TypeId) (x : AV) (v : Value) (h : VRel O I w x v) : VRel O I w (.iface t x) (.iface t v)
  | agg (xs : List AV) (vl : List Value) (hl : vl.length = xs.length) (h : ∀ (i : Nat) (h : i < xs.length), VRel O I w xs[i] (vl.getD i undef))
      (h1 : ∀ v ∈ vl, v.oneCell' = true) : VRel O I w (.agg xs) (.agg vl.toArray)
  | tup (xs : List AV) (vl : List Value) (hl : vl.length = xs.length) (h : ∀ (i : Nat) (h : i < xs.length), VRel O I w xs[i] (vl.getD i undef)) :
      VRel O I w (.tup xs) (.tuple vl.toArray)

/-- Lists of values, one by one. -/
def VRels (O : Nat → Prop) (I : Info) (w : World) (xs : List AV) (vl : List Value) : Prop :=
  vl.length = xs.length ∧ ∀ (i : Nat) (_ : i < xs.length), VRel O I w xs[i] (vl.getD i undef)

structure Ext (I : Info) (w : World) (I' : Info) (w' : World) : Prop where
  os : w'.os = w.os
  tape : w'.tape = w.tape
  output : w'.output = w.output
  size : w.heap.size ≤ w'.heap.size
  block : ∀ b, b < w.heap.size → ¬ Has I b → w'.heap[b]? = w.heap[b]?
  own : ∀ b, Has I' b → Has I b ∨ w.heap.size ≤ b
  info : ∀ (id : Nat) (bi : BI), I[id]? = some bi → ∃ bi' : BI, I'[id]? = some bi' ∧ bi'.sz = bi.sz ∧ bi.n ≤ bi'.n ∧ (bi'.n = bi.n → bi' = bi)

theorem Ext.refl (I : Info) (w : World) : Ext I w I w :=
  ⟨rfl, rfl, rfl, Nat.le_refl _, fun _ _ _ => rfl, fun _ h => .inl h, fun _ bi h => ⟨bi, h, rfl, Nat.le_refl _, fun _ => rfl⟩⟩

theorem Ext.trans {I I' I'' : Info} {w w' w'' : World} (h : Ext I w I' w') (k : Ext I' w' I'' w'') : Ext I w I'' w'' where
  os := k.os.trans h.os
  tape := k.tape.trans h.tape
  output := k.output.trans h.output
  size := Nat.le_trans h.size k.size
  block := fun b hb hn => by
    rw [k.block b (Nat.lt_of_lt_of_le hb h.size) (fun h' => ?_), h.block b hb hn]
    rcases h.own b h' with h1 | h1
    · exact hn h1
    · omega
  own := fun b hb => by
    rcases k.own b hb with h1 | h1
    · exact h.own b h1
    · exact .inr (Nat.le_trans h.size h1)
  info := fun id bi hi => by
    obtain ⟨b1, h1, s1, n1, e1⟩ := h.info id bi hi
    obtain ⟨b2, h2, s2, n2, e2⟩ := k.info id b1 h1
    refine ⟨b2, h2, s2.trans s1, Nat.le_trans n1 n2, fun e => ?_⟩
    have := e2 (by omega)
    subst this
    exact e1 e

/-- A draw alone. -/
theorem Ext.drew (I : Info) (w : World) (n : Nat) : Ext I w I { w with drawn := n } :=
  ⟨rfl, rfl, rfl, Nat.le_refl _, fun _ _ _ => rfl, fun _ h => .inl h, fun _ bi h => ⟨bi, h, rfl, Nat.le_refl _, fun _ => rfl⟩⟩

theorem Ext.hasNot {I I' : Info} {w w' : World} (h : Ext I w I' w') {b : Nat} (hb : b < w.heap.size) (hn : ¬ Has I b) : ¬ Has I' b := fun hh => by
  rcases h.own b hh with h1 | h1
  · exact hn h1
  · omega

theorem Ext.cell {I I' : Info} {w w' : World} (h : Ext I w I' w') {a : Addr} (hb : a.block < w.heap.size) (hn : ¬ Has I a.block) : w'.cell? a = w.cell? a :=
  World.cell?_of_block (h.block _ hb hn)

theorem VRel.mono {O : Nat → Prop} {I I' : Info} {w w' : World} (h : Ext I w I' w') {x : AV} {v : Value} (hx : VRel O I w x v) : VRel O I' w' x v := by
  induction hx with
  | junk v => exact .junk v
  | int k n => exact .int k n
  | bool b => exact .bool b
  | str s => exact .str s
  | nilp => exact .nilp
  | nilf => exact .nilf
  | nili => exact .nili
  | ptr id ver ix off a bi hi hv hh =>
    obtain ⟨b', h1, h2, h3, h4⟩ := h.info _ _ hi
    refine .ptr id ver ix off a b' h1 (Nat.le_trans hv h3) fun e => ?_
    have := h4 (by omega)
    subst this
    exact hh e
  | rp cs off b o vals hb hl hc hv h1 ih =>
    exact .rp cs off b o vals (h.hasNot hl hb) (Nat.lt_of_lt_of_le hl h.size) (fun j hj => by rw [h.cell hl hb]; exact hc j hj) ih h1
  | sl id sz ver off len a c bi hi hv hs hl hh =>
    obtain ⟨b', h1, h2, h3, h4⟩ := h.info _ _ hi
    refine .sl id sz ver off len a c b' h1 (Nat.le_trans hv h3) (h2.trans hs) hl fun e => ?_
    have := h4 (by omega)
    subst this
    exact hh e
  | lstn p sz => exact .lstn p sz
  | lst p sz xs a c vals hp hcap ha hu hc hv h1 ih =>
    refine .lst p sz xs a c vals hp hcap (fun hne => ?_) hu (fun k hk => ?_) ih h1
    · obtain ⟨a1, a2, a3, a4⟩ := ha hne
      exact ⟨a1, h.hasNot a3 a2, Nat.lt_of_lt_of_le a3 h.size, a4⟩
    · have hne : xs ≠ [] := by rintro rfl; simp [flatE] at hk
      obtain ⟨a1, a2, a3, a4⟩ := ha hne
      rw [h.cell (a := ⟨a.block, a.off + k, none⟩) a3 a2]
      exact hc k hk
  | fn f first caps fl cl hf hc h1 h2 ih1 ih2 => exact .fn f first caps fl cl hf hc ih1 ih2
  | iface t x v _ ih => exact .iface t x v ih
  | agg xs vl hl _ h1 ih => exact .agg xs vl hl ih h1
  | tup xs vl hl _ ih => exact .tup xs vl hl ih

theorem VRels.mono {O : Nat → Prop} {I I' : Info} {w w' : World} (h : Ext I w I' w') {xs : List AV} {vl : List Value} (hx : VRels O I w xs vl) : VRels O I' w' xs vl :=
  ⟨hx.1, fun i hi => (hx.2 i hi).mono h⟩

structure BRel (O : Nat → Prop) (I : Info) (w : World) (b : Blk) (bi : BI) : Prop where
  n : bi.n = b.els.length
  sz : bi.sz = b.sz
  pos : 0 < b.sz
  cap : b.els.length ≤ bi.cap
  capm : bi.cap ≤ 9223372036854775807
  uni : ∀ e ∈ b.els, (cellsOf e).length = b.sz
  row : ∃ cs : Array Value, w.heap[bi.r]? = some (.cells cs b.ty (0, 0)) ∧ cs.size = bi.cap * b.sz ∧
    ∀ (k : Nat) (h : k < (flatE b.els).length), ∃ u, cs[k]? = some u ∧ VRel O I w (flatE b.els)[k] u ∧ u.oneCell' = true

structure SRel (O : Nat → Prop) (I : Info) (A : Heap) (w : World) : Prop where
  len : I.length = A.length
  blk : ∀ (id : Nat) (b : Blk) (bi : BI), A[id]? = some b → I[id]? = some bi → BRel O I w b bi
  inj : ∀ (i j : Nat) (bi bj : BI), I[i]? = some bi → I[j]? = some bj → bi.r = bj.r → i = j
  lt : ∀ (id : Nat) (bi : BI), I[id]? = some bi → bi.r < w.heap.size
  out : ∀ b, Has I b → ¬ O b
  olt : ∀ b, O b → b < w.heap.size

theorem SRel.get {O : Nat → Prop} {I : Info} {A : Heap} {w : World} (h : SRel O I A w) {id : Nat} {b : Blk} (hb : A[id]? = some b) : ∃ bi, I[id]? = some bi ∧ BRel O I w b bi := by
  have : id < I.length := by rw [h.len]; exact (List.getElem?_eq_some_iff.1 hb).1
  exact ⟨I[id], List.getElem?_eq_getElem this, h.blk id b _ hb (List.getElem?_eq_getElem this)⟩

theorem has_of {I : Info} {id : Nat} {bi : BI} (h : I[id]? = some bi) : Has I bi.r := ⟨bi, List.mem_of_getElem? h, rfl⟩

/-! ### flat cells -/

theorem flatE_append (xs ys : List AV) : flatE (xs ++ ys) = flatE xs ++ flatE ys := by simp [flatE]

theorem flatE_length {sz : Nat} : ∀ {xs : List AV} (h : ∀ e ∈ xs, (cellsOf e).length = sz), (flatE xs).length = xs.length * sz
  | [], _ => by simp [flatE]
  | x :: r, h => by
    have h1 := h x (by simp)
    have h2 := flatE_length (xs := r) (fun e he => h e (by simp [he]))
    simp only [flatE, List.flatMap_cons, List.length_append, List.length_cons] at h2 ⊢
    rw [h1, h2, Nat.add_mul]
    omega

theorem flatE_take {sz : Nat} : ∀ {xs : List AV} (h : ∀ e ∈ xs, (cellsOf e).length = sz) (n : Nat), flatE (xs.take n) = (flatE xs).take (n * sz)
  | [], _, n => by simp [flatE]
  | x :: r, h, 0 => by simp [flatE]
  | x :: r, h, n + 1 => by
    have h1 := h x (by simp)
    have h2 := flatE_take (xs := r) (fun e he => h e (by simp [he])) n
    simp only [flatE, List.take_succ_cons, List.flatMap_cons] at h2 ⊢
    have e : (n + 1) * sz = (cellsOf x).length + n * sz := by rw [h1, Nat.add_mul]; omega
    rw [h2, e, List.take_length_add_append]

theorem flatE_drop {sz : Nat} : ∀ {xs : List AV} (h : ∀ e ∈ xs, (cellsOf e).length = sz) (n : Nat), flatE (xs.drop n) = (flatE xs).drop (n * sz)
  | [], _, n => by simp [flatE]
  | x :: r, h, 0 => by simp [flatE]
  | x :: r, h, n + 1 => by
    have h1 := h x (by simp)
    have h2 := flatE_drop (xs := r) (fun e he => h e (by simp [he])) n
    simp only [flatE, List.drop_succ_cons, List.flatMap_cons] at h2 ⊢
    have e : (n + 1) * sz = (cellsOf x).length + n * sz := by rw [h1, Nat.add_mul]; omega
    rw [h2, e, List.drop_length_add_append]

theorem flatE_get {sz : Nat} {xs : List AV} (h : ∀ e ∈ xs, (cellsOf e).length = sz) {i : Nat} {e : AV} (he : xs[i]? = some e) (j : Nat) (hj : j < sz) :
    (flatE xs)[i * sz + j]? = (cellsOf e)[j]? := by
  obtain ⟨hi, rfl⟩ := List.getElem?_eq_some_iff.1 he
  have h1 : (flatE xs)[i * sz + j]? = (flatE (xs.drop i))[j]? := by
    rw [flatE_drop h, List.getElem?_drop]
  rw [h1, List.drop_eq_getElem_cons hi]
  simp only [flatE, List.flatMap_cons]
  rw [List.getElem?_append_left (by rw [h _ (List.getElem_mem hi)]; exact hj)]

theorem flatE_set {sz : Nat} {xs : List AV} (h : ∀ e ∈ xs, (cellsOf e).length = sz) {i : Nat} {e : AV} (he : i < xs.length) :
    flatE (xs.set i e) = (flatE xs).take (i * sz) ++ cellsOf e ++ (flatE xs).drop ((i + 1) * sz) := by
  rw [List.set_eq_take_append_cons_drop, if_pos he, flatE_append, flatE_take h]
  have : flatE (e :: xs.drop (i + 1)) = cellsOf e ++ flatE (xs.drop (i + 1)) := by simp [flatE]
  rw [this, flatE_drop h, List.append_assoc]

end Go.Ev
end

section
/- The state's steps: a new block of one's own, a new block that is only read, an own block rewritten. -/
set_option linter.unusedVariables false
set_option linter.unusedSimpArgs false
namespace Go.Ev

theorem heap_push_old (w : World) (o : Obj) (k : Nat) (h : k < w.heap.size) : (w.heap.push o)[k]? = w.heap[k]? := by
  rw [Array.getElem?_push, if_neg (by omega)]

theorem Ext.push_ro (I : Info) (w : World) (o : Obj) (n : Nat) : Ext I w I { w with heap := w.heap.push o, drawn := n } where
  os := rfl
  tape := rfl
  output := rfl
  size := by simp
  block := fun b hb _ => heap_push_old w o b hb
  own := fun _ h => .inl h
  info := fun _ bi h => ⟨bi, h, rfl, Nat.le_refl _, fun _ => rfl⟩

theorem BRel.mono {O : Nat → Prop} {I I' : Info} {w w' : World} {b : Blk} {bi : BI} (h : BRel O I w b bi) (he : Ext I w I' w') (hb : w'.heap[bi.r]? = w.heap[bi.r]?) : BRel O I' w' b bi := by
  refine ⟨h.n, h.sz, h.pos, h.cap, h.capm, h.uni, ?_⟩
  obtain ⟨cs, h1, h2, h3⟩ := h.row
  exact ⟨cs, hb.trans h1, h2, fun k hk => let ⟨u, e, r, o⟩ := h3 k hk; ⟨u, e, r.mono he, o⟩⟩

/-- The state stands where the world only grows and the own blocks stay. -/
theorem SRel.grow {O : Nat → Prop} {I : Info} {A : Heap} {w w' : World} (h : SRel O I A w) (he : Ext I w I w') (hb : ∀ b, Has I b → w'.heap[b]? = w.heap[b]?) : SRel O I A w' where
  len := h.len
  blk := fun id b bi hA hI => (h.blk id b bi hA hI).mono he (hb _ (has_of hI))
  inj := h.inj
  lt := fun id bi hI => Nat.lt_of_lt_of_le (h.lt id bi hI) he.size
  out := h.out
  olt := fun b hO => Nat.lt_of_lt_of_le (h.olt b hO) he.size

theorem SRel.has_lt {O : Nat → Prop} {I : Info} {A : Heap} {w : World} (h : SRel O I A w) {b : Nat} (hb : Has I b) : b < w.heap.size := by
  obtain ⟨bi, hm, rfl⟩ := hb
  obtain ⟨i, hi⟩ := List.getElem?_of_mem hm
  exact h.lt i bi hi

theorem SRel.push_ro {O : Nat → Prop} {I : Info} {A : Heap} {w : World} (h : SRel O I A w) (o : Obj) (n : Nat) : SRel O I A { w with heap := w.heap.push o, drawn := n } :=
  h.grow (Ext.push_ro I w o n) fun b hb => heap_push_old w o b (h.has_lt hb)

theorem SRel.drew {O : Nat → Prop} {I : Info} {A : Heap} {w : World} (h : SRel O I A w) (n : Nat) : SRel O I A { w with drawn := n } :=
  h.grow (Ext.drew I w n) fun _ _ => rfl

/-- What is in a new row. -/
def RowRel (O : Nat → Prop) (I : Info) (w : World) (els : List AV) (cs : Array Value) : Prop :=
  ∀ (k : Nat) (h : k < (flatE els).length), ∃ u, cs[k]? = some u ∧ VRel O I w (flatE els)[k] u ∧ u.oneCell' = true

theorem Ext.push_own (I : Info) (w : World) (o : Obj) (n : Nat) (bi : BI) (hr : bi.r = w.heap.size) : Ext I w (I ++ [bi]) { w with heap := w.heap.push o, drawn := n } where
  os := rfl
  tape := rfl
  output := rfl
  size := by simp
  block := fun b hb _ => heap_push_old w o b hb
  own := fun b ⟨x, hx, hb⟩ => by
    rcases List.mem_append.1 hx with hx | hx
    · exact .inl ⟨x, hx, hb⟩
    · simp at hx; subst hx; right; omega
  info := fun id b h => ⟨b, by rw [List.getElem?_append_left (List.getElem?_eq_some_iff.1 h).1]; exact h, rfl, Nat.le_refl _, fun _ => rfl⟩

theorem SRel.push_own {O : Nat → Prop} {I : Info} {A : Heap} {w : World} (h : SRel O I A w) {ty sz cap : Nat} {els : List AV} {cs : Array Value} (n : Nat)
    (hpos : 0 < sz) (hcap : els.length ≤ cap) (hcm : cap ≤ 9223372036854775807) (hu : ∀ e ∈ els, (cellsOf e).length = sz) (hcs : cs.size = cap * sz) (hr : RowRel O I w els cs) :
    SRel O (I ++ [⟨w.heap.size, els.length, sz, cap⟩]) (A ++ [⟨ty, sz, els⟩]) { w with heap := w.heap.push (.cells cs ty), drawn := n } := by
  have he := Ext.push_own I w (.cells cs ty) n ⟨w.heap.size, els.length, sz, cap⟩ rfl
  refine ⟨by simp [h.len], ?_, ?_, ?_, ?_, ?_⟩
  · intro id b bi hA hI
    by_cases hid : id < A.length
    · rw [List.getElem?_append_left hid] at hA
      rw [List.getElem?_append_left (by rw [h.len]; exact hid)] at hI
      exact (h.blk id b bi hA hI).mono he (heap_push_old w _ _ (h.lt id bi hI))
    · have hl : id < (A ++ [(⟨ty, sz, els⟩ : Blk)]).length := (List.getElem?_eq_some_iff.1 hA).1
      have hid' : id = A.length := by simp at hl; omega
      subst hid'
      rw [List.getElem?_append_right (Nat.le_refl _), Nat.sub_self] at hA
      rw [List.getElem?_append_right (by rw [h.len]; exact Nat.le_refl _), h.len, Nat.sub_self] at hI
      simp at hA hI
      subst hA hI
      exact ⟨rfl, rfl, hpos, hcap, hcm, hu, cs, by simp, hcs, fun k hk => let ⟨u, e, r, o⟩ := hr k hk; ⟨u, e, r.mono he, o⟩⟩
  · intro i j bi bj hi hj e
    by_cases h1 : i < I.length
    · rw [List.getElem?_append_left h1] at hi
      by_cases h2 : j < I.length
      · rw [List.getElem?_append_left h2] at hj
        exact h.inj i j bi bj hi hj e
      · rw [List.getElem?_append_right (by omega)] at hj
        have h3 : j - I.length = 0 := by have := (List.getElem?_eq_some_iff.1 hj).1; simp at this; omega
        rw [h3] at hj
        simp at hj
        subst hj
        have := h.lt i bi hi
        simp at e
        omega
    · rw [List.getElem?_append_right (by omega)] at hi
      have h3 : i - I.length = 0 := by have := (List.getElem?_eq_some_iff.1 hi).1; simp at this; omega
      rw [h3] at hi
      simp at hi
      subst hi
      by_cases h2 : j < I.length
      · rw [List.getElem?_append_left h2] at hj
        have := h.lt j bj hj
        simp at e
        omega
      · rw [List.getElem?_append_right (by omega)] at hj
        have h4 : j - I.length = 0 := by have := (List.getElem?_eq_some_iff.1 hj).1; simp at this; omega
        omega
  · intro id bi hI
    by_cases h1 : id < I.length
    · rw [List.getElem?_append_left h1] at hI
      have := h.lt id bi hI
      simp
      omega
    · rw [List.getElem?_append_right (by omega)] at hI
      have h3 : id - I.length = 0 := by have := (List.getElem?_eq_some_iff.1 hI).1; simp at this; omega
      rw [h3] at hI
      simp at hI
      subst hI
      simp
  · rintro b ⟨x, hx, rfl⟩
    rcases List.mem_append.1 hx with hx | hx
    · exact h.out _ ⟨x, hx, rfl⟩
    · simp at hx
      subst hx
      intro hO
      have := h.olt _ hO
      simp at this
  · intro b hO
    have := h.olt b hO
    simp
    omega

/-- An own block is rewritten (where it lies, or in a new row). -/
theorem upd_own {O : Nat → Prop} {I : Info} {A : Heap} {w w' : World} (h : SRel O I A w) {id : Nat} {b : Blk} {bi : BI} (hA : A[id]? = some b) (hI : I[id]? = some bi)
    {els : List AV} {cs : Array Value} {r cap : Nat}
    (hos : w'.os = w.os) (htape : w'.tape = w.tape) (hout : w'.output = w.output) (hsize : w.heap.size ≤ w'.heap.size)
    (hold : ∀ k, k < w.heap.size → k ≠ bi.r → w'.heap[k]? = w.heap[k]?)
    (hr : r = bi.r ∨ (w.heap.size ≤ r ∧ r < w'.heap.size))
    (hrow : w'.heap[r]? = some (.cells cs b.ty (0, 0))) (hcs : cs.size = cap * b.sz) (hcm : cap ≤ 9223372036854775807)
    (hu : ∀ e ∈ els, (cellsOf e).length = b.sz) (hcap : els.length ≤ cap) (hrel : RowRel O I w els cs)
    (hn : b.els.length ≤ els.length) (hsame : els.length = b.els.length → r = bi.r ∧ cap = bi.cap) :
    SRel O (I.set id ⟨r, els.length, b.sz, cap⟩) (A.set id ⟨b.ty, b.sz, els⟩) w' ∧ Ext I w (I.set id ⟨r, els.length, b.sz, cap⟩) w' := by
  have hb := h.blk id b bi hA hI
  have hidI : id < I.length := (List.getElem?_eq_some_iff.1 hI).1
  have hidA : id < A.length := (List.getElem?_eq_some_iff.1 hA).1
  have hget : ∀ j, (I.set id (⟨r, els.length, b.sz, cap⟩ : BI))[j]? = if id = j then some ⟨r, els.length, b.sz, cap⟩ else I[j]? := by
    intro j
    rw [List.getElem?_set]
    by_cases e : id = j
    · subst e; simp [hidI]
    · simp [e]
  have hgetA : ∀ j, (A.set id (⟨b.ty, b.sz, els⟩ : Blk))[j]? = if id = j then some ⟨b.ty, b.sz, els⟩ else A[j]? := by
    intro j
    rw [List.getElem?_set]
    by_cases e : id = j
    · subst e; simp [hidA]
    · simp [e]
  have he : Ext I w (I.set id ⟨r, els.length, b.sz, cap⟩) w' := by
    refine ⟨hos, htape, hout, hsize, ?_, ?_, ?_⟩
    · intro k hk hn
      exact hold k hk (fun e => hn (e ▸ has_of hI))
    · rintro k ⟨x, hx, rfl⟩
      obtain ⟨j, hj⟩ := List.getElem?_of_mem hx
      rw [hget] at hj
      split at hj
      · cases hj
        rcases hr with hr | hr
        · exact .inl (by simpa [hr] using has_of hI)
        · exact .inr hr.1
      · exact .inl (has_of hj)
    · intro j bj hj
      by_cases e : id = j
      · subst e
        rw [hI] at hj
        cases hj
        refine ⟨_, by rw [hget, if_pos rfl], hb.sz.symm, by have := hb.n; simp; omega, fun e => ?_⟩
        have h1 := hb.n
        have h2 := hb.sz
        simp at e
        obtain ⟨e1, e2⟩ := hsame (by omega)
        cases bi
        simp_all
      · exact ⟨bj, by rw [hget, if_neg e]; exact hj, rfl, Nat.le_refl _, fun _ => rfl⟩
  refine ⟨⟨by simp [h.len], ?_, ?_, ?_, ?_, ?_⟩, he⟩
  · intro j bj bij hAj hIj
    rw [hget] at hIj
    rw [hgetA] at hAj
    by_cases e : id = j
    · rw [if_pos e] at hIj hAj
      cases hIj
      cases hAj
      exact ⟨rfl, rfl, hb.pos, hcap, hcm, hu, cs, hrow, hcs, fun k hk => let ⟨u, e, r, o⟩ := hrel k hk; ⟨u, e, r.mono he, o⟩⟩
    · rw [if_neg e] at hIj hAj
      refine (h.blk j bj bij hAj hIj).mono he (hold _ (h.lt j bij hIj) fun e' => e ?_)
      exact (h.inj j id bij bi hIj hI e').symm
  · intro i j b1 b2 hi hj e
    rw [hget] at hi hj
    by_cases e1 : id = i
    · by_cases e2 : id = j
      · omega
      · rw [if_pos e1] at hi
        rw [if_neg e2] at hj
        cases hi
        have := h.lt j b2 hj
        rcases hr with hr | hr
        · simp [hr] at e
          exact e1 ▸ (h.inj id j bi b2 hI hj e)
        · simp at e
          omega
    · rw [if_neg e1] at hi
      by_cases e2 : id = j
      · rw [if_pos e2] at hj
        cases hj
        have := h.lt i b1 hi
        rcases hr with hr | hr
        · simp [hr] at e
          exact e2 ▸ (h.inj i id b1 bi hi hI e)
        · simp at e
          omega
      · rw [if_neg e2] at hj
        exact h.inj i j b1 b2 hi hj e
  · intro j bj hj
    rw [hget] at hj
    split at hj
    · cases hj
      rcases hr with hr | hr
      · simp [hr]
        exact Nat.lt_of_lt_of_le (h.lt id bi hI) hsize
      · exact hr.2
    · exact Nat.lt_of_lt_of_le (h.lt j bj hj) hsize
  · rintro k ⟨x, hx, rfl⟩ hO
    obtain ⟨j, hj⟩ := List.getElem?_of_mem hx
    rw [hget] at hj
    split at hj
    · cases hj
      rcases hr with hr | hr
      · exact h.out _ (has_of hI) (by simpa [hr] using hO)
      · have := h.olt _ hO
        simp at this
        omega
    · exact h.out _ (has_of hj) hO
  · intro k hO
    exact Nat.lt_of_lt_of_le (h.olt k hO) hsize

end Go.Ev
end

section
/- Operands and single operations: what the evaluator answers is what the model does. First part: operands, moves, numbers, memory that is read. -/
set_option linter.unusedVariables false
set_option linter.unusedSimpArgs false
namespace Go.Ev

/-! ### constants and operands -/

def cVal0 : Value → Option AV
  | .bool b => some (.bool b)
  | .int k n => some (.int k n)
  | .string s => some (.str s.data.toList)
  | .pointer none => some .nilp
  | .slice none 0 0 => some (.lst true 0 true [])
  | .nilFunc => some .nilf
  | .nilIface => some .nili
  | _ => none

def cVal : Value → Option AV
  | .agg cs => match mapO cVal0 cs.toList with
    | some xs => some (.agg xs)
    | none => none
  | .tuple vs => if vs.size = 0 then some (.tup []) else none
  | v => cVal0 v

def cOpd : Operand → Option Opd
  | .tmp t => some (.t t)
  | .const v => match cVal v with
    | some a => some (.c a)
    | none => none
  | .func f => some (.c (.fn f [] []))
  | .global _ => none

theorem mapO_some {α β : Type} {f : α → Option β} : ∀ {xs : List α} {ys : List β}, mapO f xs = some ys → ys.length = xs.length ∧ ∀ (i : Nat) (h : i < xs.length) (h' : i < ys.length), f xs[i] = some ys[i]
  | [], ys, h => by simp [mapO] at h; subst h; simp
  | x :: r, ys, h => by
    simp only [mapO] at h
    split at h
    · rename_i y hy
      split at h
      · rename_i zs hz
        cases h
        obtain ⟨h1, h2⟩ := mapO_some hz
        refine ⟨by simp [h1], fun i hi hi' => ?_⟩
        cases i with
        | zero => simpa using hy
        | succ i => simpa using h2 i (by simpa using hi) (by simpa using hi')
      · cases h
    · cases h

theorem cVal0_rel {O : Nat → Prop} {I : Info} {w : World} {v : Value} {x : AV} (h : cVal0 v = some x) : VRel O I w x v ∧ v.oneCell' = true := by
  unfold cVal0 at h
  split at h <;> cases h
  · exact ⟨.bool _, rfl⟩
  · exact ⟨.int _ _, rfl⟩
  · rename_i s
    exact ⟨by have := VRel.str (O := O) (I := I) (w := w) s.data.toList; rwa [Array.toArray_toList] at this, rfl⟩
  · exact ⟨.nilp, rfl⟩
  · exact ⟨.lstn _ _, rfl⟩
  · exact ⟨.nilf, rfl⟩
  · exact ⟨.nili, rfl⟩

theorem cVal_rel {O : Nat → Prop} {I : Info} {w : World} {v : Value} {x : AV} (h : cVal v = some x) : VRel O I w x v := by
  unfold cVal at h
  split at h
  · rename_i cs
    split at h
    · rename_i xs hx
      cases h
      obtain ⟨h1, h2⟩ := mapO_some hx
      have := VRel.agg (O := O) (I := I) (w := w) xs cs.toList h1.symm (fun i hi => ?_) (fun v hv => ?_)
      · rwa [Array.toArray_toList] at this
      · have hi' : i < cs.toList.length := by omega
        rw [List.getD_eq_getElem?_getD, List.getElem?_eq_getElem hi']
        exact (cVal0_rel (h2 i hi' hi)).1
      · obtain ⟨i, hi, rfl⟩ := List.getElem_of_mem hv
        exact (cVal0_rel (O := O) (I := I) (w := w) (h2 i hi (by omega))).2
    · cases h
  · rename_i vs
    split at h
    · rename_i h0
      cases h
      have : vs = #[] := by simpa using h0
      subst this
      exact VRel.tup [] [] rfl (fun i hi => by simp at hi)
    · cases h
  · exact (cVal0_rel h).1

/-- The registers. -/
def RRel (O : Nat → Prop) (I : Info) (w : World) (g : Nat → AV) (a : Act) : Prop := ∀ t, VRel O I w (g t) (a.tmps.getD t undef)

theorem RRel.mono {O : Nat → Prop} {I I' : Info} {w w' : World} {g : Nat → AV} {a : Act} (h : RRel O I w g a) (he : Ext I w I' w') : RRel O I' w' g a := fun t => (h t).mono he

theorem opd_rel {O : Nat → Prop} {I : Info} {w : World} {g : Nat → AV} {a : Act} (h : RRel O I w g a) {x : Operand} {y : Opd} (hx : cOpd x = some y) : VRel O I w (y.ev g) (a.eval x) := by
  unfold cOpd at hx
  split at hx
  · cases hx; exact h _
  · split at hx
    · rename_i hv
      cases hx
      exact cVal_rel hv
    · cases hx
  · cases hx
    exact .fn _ [] [] [] [] rfl rfl (fun i hi => by simp at hi) (fun i hi => by simp at hi)
  · cases hx

/-! ### reading a relation backwards -/

section
variable {O : Nat → Prop} {I : Info} {w : World} {v : Value}

theorem rel_int {k : IntKind} {n : Int} (h : VRel O I w (.int k n) v) : v = .int k n := by cases h; rfl
theorem rel_bool {b : Bool} (h : VRel O I w (.bool b) v) : v = .bool b := by cases h; rfl
theorem rel_str {s : List UInt8} (h : VRel O I w (.str s) v) : v = .string ⟨s.toArray⟩ := by cases h; rfl
theorem rel_nilp (h : VRel O I w .nilp v) : v = .pointer none := by cases h; rfl
theorem rel_nilf (h : VRel O I w .nilf v) : v = .nilFunc := by cases h; rfl
theorem rel_nili (h : VRel O I w .nili v) : v = .nilIface := by cases h; rfl
theorem rel_tup0 (h : VRel O I w (.tup []) v) : v = undef := by
  cases h with
  | tup _ vl hl _ => simp at hl; subst hl; rfl

/-- The cells of a value that can be stored. -/
theorem rel_cells {x : AV} (h : VRel O I w x v) (hs : storable x = true) :
    v.cells.size = (cellsOf x).length ∧ (∀ (i : Nat) (hi : i < (cellsOf x).length), ∃ u, v.cells[i]? = some u ∧ VRel O I w (cellsOf x)[i] u ∧ u.oneCell' = true) := by
  have one : ∀ {x : AV} {v : Value}, VRel O I w x v → cellsOf x = [x] → v.cells = #[v] → v.oneCell' = true →
      v.cells.size = (cellsOf x).length ∧ (∀ (i : Nat) (hi : i < (cellsOf x).length), ∃ u, v.cells[i]? = some u ∧ VRel O I w (cellsOf x)[i] u ∧ u.oneCell' = true) := by
    intro x v h e1 e2 e3
    refine ⟨by simp [e1, e2], fun i hi => ?_⟩
    have h0 : i = 0 := by simp [e1] at hi; omega
    subst h0
    refine ⟨v, by simp [e2], ?_, e3⟩
    simp only [e1, List.getElem_cons_zero]
    exact h
  cases h with
  | junk v => simp [storable] at hs
  | tup => simp [storable] at hs
  | agg xs vl hl hr h1 =>
    refine ⟨by simp [Value.cells, cellsOf, hl], fun i hi => ?_⟩
    have hi' : i < vl.length := by simp [cellsOf] at hi; omega
    refine ⟨vl[i], by simp [Value.cells, hi'], ?_, h1 _ (List.getElem_mem _)⟩
    have := hr i (by simpa [cellsOf] using hi)
    rwa [List.getD_eq_getElem?_getD, List.getElem?_eq_getElem hi'] at this
  | int k n => exact one (.int k n) rfl rfl rfl
  | bool b => exact one (.bool b) rfl rfl rfl
  | str s => exact one (.str s) rfl rfl rfl
  | nilp => exact one .nilp rfl rfl rfl
  | nilf => exact one .nilf rfl rfl rfl
  | nili => exact one .nili rfl rfl rfl
  | ptr id ver ix off a bi hi hv hh => exact one (.ptr id ver ix off a bi hi hv hh) rfl rfl rfl
  | rp cs off b o vals hb hl hc hv h1 => exact one (.rp cs off b o vals hb hl hc hv h1) rfl rfl rfl
  | sl id sz ver off len a c bi hi hv hss hl hh => exact one (.sl id sz ver off len a c bi hi hv hss hl hh) rfl rfl rfl
  | lstn p sz => exact one (.lstn p sz) rfl rfl rfl
  | lst p sz xs a c vals hp hcap ha hu hc hv h1 => exact one (.lst p sz xs a c vals hp hcap ha hu hc hv h1) rfl rfl rfl
  | fn f first caps fl cl hf hc h1 h2 => exact one (.fn f first caps fl cl hf hc h1 h2) rfl rfl rfl
  | iface t x v h => exact one (.iface t x v h) rfl rfl rfl

end
end Go.Ev
end

section
/- Single operations, first part: registers, new memory, loads and stores. -/
set_option linter.unusedVariables false
set_option linter.unusedSimpArgs false
namespace Go.Ev

def OpOk (P : Program) (O : Nat → Prop) (I : Info) (A : Heap) (w : World) (s : Sem Next) (v : AV) (A' : Heap) : Prop :=
  ∃ I' w' u, (s.run P w = .ok (.value u) w' ∨ (s.run P w = .ok .skip w' ∧ u = undef)) ∧ VRel O I' w' v u ∧ SRel O I' A' w' ∧ Ext I w I' w'

section
variable {P : Program} {O : Nat → Prop} {I : Info} {A : Heap} {w : World}

theorem OpOk.val {s : Sem Value} {u : Value} {w' : World} {v : AV} {A' : Heap} {I' : Info} (h : s.run P w = .ok u w') (hv : VRel O I' w' v u) (hS : SRel O I' A' w') (he : Ext I w I' w') :
    OpOk P O I A w (do pure (.value (← s))) v A' :=
  ⟨I', w', u, .inl (by simp [h]), hv, hS, he⟩

theorem OpOk.quiet {s : Sem Value} {u : Value} {v : AV} (hS : SRel O I A w) (h : s.run P w = .ok u w) (hv : VRel O I w v u) :
    OpOk P O I A w (do pure (.value (← s))) v A :=
  .val h hv hS (Ext.refl _ _)

theorem OpOk.now {u : Value} {v : AV} (hS : SRel O I A w) (hv : VRel O I w v u) : OpOk P O I A w (pure (.value u)) v A :=
  ⟨I, w, u, .inl rfl, hv, hS, Ext.refl _ _⟩

/-! ### new memory -/

theorem rowRel_one {x : AV} {v : Value} (h : VRel O I w x v) (hs : storable x = true) : RowRel O I w [x] v.cells := by
  intro k hk
  have e : flatE [x] = cellsOf x := by simp [flatE]
  have hk' : k < (cellsOf x).length := by rw [← e]; exact hk
  obtain ⟨u, h1, h2, h3⟩ := (rel_cells h hs).2 k hk'
  refine ⟨u, h1, ?_, h3⟩
  have : (flatE [x])[k] = (cellsOf x)[k] := by simp [e]
  rw [this]
  exact h2

theorem run_newVar (t : TypeId) (v : Value) : (newVar t v).run P w = .ok ⟨w.heap.size, 0, none⟩ { w with heap := w.heap.push (.cells v.cells t) } := by
  simp [newVar, newRow]

theorem newVar_ok (hS : SRel O I A w) {x : AV} {v : Value} (h : VRel O I w x v) (hs : storable x = true) {ty sz : Nat} (hsz : (cellsOf x).length = sz) (hpos : 0 < sz) :
    ∃ I' w', (newVar ty v).run P w = .ok ⟨w.heap.size, 0, none⟩ w' ∧ VRel O I' w' (.ptr A.length 1 0 0) (.pointer (some ⟨w.heap.size, 0, none⟩)) ∧ SRel O I' (A ++ [⟨ty, sz, [x]⟩]) w' ∧ Ext I w I' w' := by
  have h2 := SRel.push_own (ty := ty) (cap := 1) (els := [x]) (cs := v.cells) hS w.drawn hpos (by simp) (by omega) (by simpa using hsz) (by rw [(rel_cells h hs).1, hsz]; omega) (rowRel_one h hs)
  refine ⟨_, _, run_newVar ty v, ?_, h2, Ext.push_own I w _ w.drawn _ rfl⟩
  refine .ptr _ _ _ _ _ ⟨w.heap.size, 1, sz, 1⟩ ?_ (Nat.le_refl _) (fun _ => by simp)
  rw [← hS.len, List.getElem?_append_right (Nat.le_refl _)]
  simp

theorem newVar_ro (hS : SRel O I A w) {x : AV} {v : Value} (h : VRel O I w x v) (hs : storable x = true) (ty : TypeId) :
    ∃ w', (newVar ty v).run P w = .ok ⟨w.heap.size, 0, none⟩ w' ∧ VRel O I w' (.rp (cellsOf x) 0) (.pointer (some ⟨w.heap.size, 0, none⟩)) ∧ SRel O I A w' ∧ Ext I w I w' := by
  have he := Ext.push_ro I w (.cells v.cells ty) w.drawn
  refine ⟨_, run_newVar ty v, ?_, hS.push_ro _ w.drawn, he⟩
  have hc := (rel_cells h hs)
  have hb : ∀ j (hj : j < (cellsOf x).length), ∃ u, v.cells[j]? = some u ∧ VRel O I w (cellsOf x)[j] u ∧ u.oneCell' = true := hc.2
  have hget : ∀ j, j < (cellsOf x).length → v.cells[j]? = some (v.cells.getD j undef) := by
    intro j hj
    obtain ⟨u, h1, _, _⟩ := hb j hj
    rw [Array.getD_eq_getD_getElem?, h1]
    rfl
  have := VRel.rp (O := O) (I := I) (w := { w with heap := w.heap.push (.cells v.cells ty), drawn := w.drawn }) (cellsOf x) 0 w.heap.size 0 (fun j => v.cells.getD j undef)
    (fun hh => Nat.lt_irrefl _ (hS.has_lt hh)) (by simp) (fun j hj => ?_) (fun j hj => ?_) (fun j hj => ?_)
  · simpa using this
  · rw [← hget j hj]
    simp [World.cell?]
  · obtain ⟨u, h1, h2, h3⟩ := hb j hj
    have : v.cells.getD j undef = u := by simp [Array.getD_eq_getD_getElem?, h1]
    rw [this]
    exact h2.mono he
  · obtain ⟨u, h1, h2, h3⟩ := hb j hj
    have : v.cells.getD j undef = u := by simp [Array.getD_eq_getD_getElem?, h1]
    rw [this]
    exact h3

theorem alloc_ok (hS : SRel O I A w) {T : TypeId} {i : TypeInfo} {z : Value} {zc : AV} (hi : P.info? T = some i) (hz : i.zero = some z) (hc : cVal z = some zc)
    (hsz : (cellsOf zc).length = i.size) (hpos : 0 < i.size) (hst : storable zc = true) :
    OpOk P O I A w (do pure (.value (← Instr.alloc T true (.tuple #[])))) (.ptr A.length 1 0 0) (A ++ [⟨T, i.size, [zc]⟩]) := by
  obtain ⟨I', w', h1, h2, h3, h4⟩ := newVar_ok (P := P) (ty := T) hS (cVal_rel (O := O) (I := I) (w := w) hc) hst hsz hpos
  refine .val (u := .pointer (some ⟨w.heap.size, 0, none⟩)) (w' := w') ?_ h2 h3 h4
  simp [Instr.alloc, zeroValue, typeInfo, hi, hz, h1]

theorem box_ok (hS : SRel O I A w) {T sz : Nat} {x : AV} {v : Value} (h : VRel O I w x v) (hst : storable x = true) (hsz : (cellsOf x).length = sz) (hpos : 0 < sz) :
    OpOk P O I A w (do pure (.value (← Instr.box T v))) (.ptr A.length 1 0 0) (A ++ [⟨T, sz, [x]⟩]) := by
  obtain ⟨I', w', h1, h2, h3, h4⟩ := newVar_ok (P := P) (ty := T) hS h hst hsz hpos
  refine .val (u := .pointer (some ⟨w.heap.size, 0, none⟩)) (w' := w') ?_ h2 h3 h4
  simp [Instr.box, h1]

theorem rbox_ok (hS : SRel O I A w) {T : TypeId} {x : AV} {v : Value} (h : VRel O I w x v) (hst : storable x = true) :
    OpOk P O I A w (do pure (.value (← Instr.box T v))) (.rp (cellsOf x) 0) A := by
  obtain ⟨w', h1, h2, h3, h4⟩ := newVar_ro (P := P) hS h hst T
  refine .val (u := .pointer (some ⟨w.heap.size, 0, none⟩)) (w' := w') ?_ h2 h3 h4
  simp [Instr.box, h1]

/-! ### filling -/

theorem vrels_take {xs : List AV} {vl : List Value} (h : VRels O I w xs vl) (n : Nat) : VRels O I w (xs.take n) (vl.take n) := by
  refine ⟨by simp [h.1], fun i hi => ?_⟩
  have hi' : i < n ∧ i < xs.length := by simp at hi; omega
  have := h.2 i hi'.2
  simpa [List.getElem_take, List.getElem?_take, hi'.1] using this

theorem vrels_drop {xs : List AV} {vl : List Value} (h : VRels O I w xs vl) (n : Nat) : VRels O I w (xs.drop n) (vl.drop n) := by
  refine ⟨by simp [h.1], fun i hi => ?_⟩
  have hi' : n + i < xs.length := by simp at hi; omega
  have := h.2 (n + i) hi'
  simpa [List.getElem_drop, List.getElem?_drop] using this

theorem vrels_append {xs ys : List AV} {vl ul : List Value} (h : VRels O I w xs vl) (k : VRels O I w ys ul) : VRels O I w (xs ++ ys) (vl ++ ul) := by
  refine ⟨by simp [h.1, k.1], fun i hi => ?_⟩
  by_cases hx : i < xs.length
  · have := h.2 i hx
    rw [List.getElem_append_left hx, List.getD_eq_getElem?_getD, List.getElem?_append_left (by rw [h.1]; exact hx), ← List.getD_eq_getElem?_getD]
    exact this
  · have hx' : xs.length ≤ i := by omega
    have := k.2 (i - xs.length) (by simp at hi; omega)
    rw [List.getElem_append_right hx', List.getD_eq_getElem?_getD, List.getElem?_append_right (by rw [h.1]; exact hx'), h.1, ← List.getD_eq_getElem?_getD]
    exact this

theorem vrels_cells {x : AV} {v : Value} (h : VRel O I w x v) (hs : storable x = true) : VRels O I w (cellsOf x) v.cells.toList ∧ ∀ u ∈ v.cells.toList, u.oneCell' = true := by
  obtain ⟨h1, h2⟩ := rel_cells h hs
  refine ⟨⟨by simpa using h1, fun i hi => ?_⟩, fun u hu => ?_⟩
  · obtain ⟨u, e, r, _⟩ := h2 i hi
    simpa [List.getD_eq_getElem?_getD, e] using r
  · obtain ⟨i, hi, rfl⟩ := List.getElem_of_mem hu
    obtain ⟨u, e, _, o⟩ := h2 i (by rw [← h1]; simpa using hi)
    have : v.cells[i]? = some v.cells.toList[i] := by simp
    rw [this] at e
    cases e
    exact o

/-- The fold that writes a part's cells. -/
theorem fold_set (vs : List Value) (off : Nat) (cs : Array Value) (h : off + vs.length ≤ cs.size) :
    ((vs.toArray.zipIdx.foldl (fun (cs : Array Value) (x : Value × Nat) => cs.setIfInBounds (off + x.2) x.1) cs)).toList = cs.toList.take off ++ vs ++ cs.toList.drop (off + vs.length) := by
  have key : ∀ (vs : List Value) (n : Nat) (cs : Array Value), off + n + vs.length ≤ cs.size →
      ((vs.zipIdx n).foldl (fun (cs : Array Value) (x : Value × Nat) => cs.setIfInBounds (off + x.2) x.1) cs).toList = cs.toList.take (off + n) ++ vs ++ cs.toList.drop (off + n + vs.length) := by
    intro vs
    induction vs with
    | nil => intro n cs h; simp
    | cons v r ih =>
      intro n cs h
      simp only [List.zipIdx_cons, List.foldl_cons]
      rw [ih (n + 1) _ (by simp at h ⊢; omega)]
      have e := list_seg_step cs.toList (off + n) v r (by simp at h ⊢; omega)
      simpa [Array.toList_setIfInBounds, Nat.add_assoc, Nat.add_comm, Nat.add_left_comm] using e
  have := key vs 0 cs (by simpa using h)
  rw [← Array.foldl_toList]
  simpa using this

theorem fill_ok (place : Nat → Option (Nat × Nat)) : ∀ (parts : List (Nat × AV)) (vparts : List (Nat × Value)) (aparts : List (Nat × Nat × AV)) (cs : List AV) (vl : List Value) (out : List AV),
    vparts.map (·.1) = parts.map (·.1) → (∀ (i : Nat) (h : i < parts.length) (h' : i < vparts.length), VRel O I w parts[i].2 vparts[i].2) →
    (parts.length = aparts.length ∧ ∀ (i : Nat) (h : i < parts.length) (h' : i < aparts.length), place parts[i].1 = some (aparts[i].1, aparts[i].2.1) ∧ parts[i].2 = aparts[i].2.2) →
    VRels O I w cs vl → (∀ v ∈ vl, v.oneCell' = true) → fillA cs aparts = some out →
    ∃ ul, Instr.fill place vl.toArray vparts = some ul.toArray ∧ VRels O I w out ul ∧ ∀ v ∈ ul, v.oneCell' = true
  | [], vparts, aparts, cs, vl, out, h1, h2, h3, h4, h5, h6 => by
    have e1 : vparts = [] := by simpa using h1
    have e2 : aparts = [] := by have := h3.1; simpa using this.symm
    subst e1 e2
    simp only [fillA] at h6
    cases h6
    exact ⟨vl, rfl, h4, h5⟩
  | (i, x) :: parts, vparts, aparts, cs, vl, out, h1, h2, h3, h4, h5, h6 => by
    cases vparts with
    | nil => simp at h1
    | cons p vparts =>
      obtain ⟨i', v⟩ := p
      simp only [List.map_cons, List.cons.injEq] at h1
      obtain ⟨rfl, h1⟩ := h1
      cases aparts with
      | nil => simp at h3
      | cons q aparts =>
        obtain ⟨off, sz, x'⟩ := q
        obtain ⟨hp, hx⟩ := h3.2 0 (by simp) (by simp)
        simp at hp hx
        subst hx
        simp only [fillA] at h6
        split at h6
        · rename_i hc
          obtain ⟨c1, c2, c3⟩ := hc
          have hv : VRel O I w x v := h2 0 (by simp) (by simp)
          obtain ⟨hcell, hone⟩ := vrels_cells hv c1
          have hsize : v.cells.size = sz := by have := hcell.1; simp at this; omega
          have hlen := h4.1
          have e := fold_set v.cells.toList off vl.toArray (by simp [hsize]; omega)
          have ih := fill_ok place parts vparts aparts (cs.take off ++ cellsOf x ++ cs.drop (off + sz)) (vl.take off ++ v.cells.toList ++ vl.drop (off + sz)) out h1
            (fun j h h' => h2 (j + 1) (by simpa using h) (by simpa using h'))
            ⟨by have := h3.1; simpa using this, fun j h h' => h3.2 (j + 1) (by simpa using h) (by simpa using h')⟩
            (vrels_append (vrels_append (vrels_take h4 _) hcell) (vrels_drop h4 _))
            (fun u hu => by
              simp only [List.mem_append] at hu
              rcases hu with (hu | hu) | hu
              · exact h5 u (List.mem_of_mem_take hu)
              · exact hone u hu
              · exact h5 u (List.mem_of_mem_drop hu)) h6
          obtain ⟨ul, g1, g2, g3⟩ := ih
          refine ⟨ul, ?_, g2, g3⟩
          simp only [Instr.fill, hp]
          rw [if_neg (by simp [hsize]; omega)]
          have e' : (v.cells.zipIdx.foldl (fun (cs : Array Value) (x : Value × Nat) => cs.setIfInBounds (off + x.2) x.1) vl.toArray) = (vl.take off ++ v.cells.toList ++ vl.drop (off + sz)).toArray := by
            apply Array.ext'
            have : v.cells.toList.toArray = v.cells := by simp
            rw [this] at e
            rw [e]
            simp [hsize]
          rw [← g1, ← e']
        · cases h6

end
end Go.Ev
end

section
/- Single operations, second part: literals, loads and stores, registers alone. -/
set_option linter.unusedVariables false
set_option linter.unusedSimpArgs false
namespace Go.Ev

section
variable {P : Program} {O : Nat → Prop} {I : Info} {A : Heap} {w : World}

/-! ### rows -/

theorem RowRel.mono {I' : Info} {w' : World} {els : List AV} {cs : Array Value} (h : RowRel O I w els cs) (he : Ext I w I' w') : RowRel O I' w' els cs :=
  fun k hk => let ⟨u, e, r, o⟩ := h k hk; ⟨u, e, r.mono he, o⟩

theorem rowRel_of {els : List AV} {vl : List Value} {rest : List Value} (h : VRels O I w (flatE els) vl) (h1 : ∀ v ∈ vl, v.oneCell' = true) : RowRel O I w els (vl ++ rest).toArray := by
  intro k hk
  have hk' : k < vl.length := by rw [h.1]; exact hk
  refine ⟨vl[k], by simp [List.getElem?_append_left hk', hk'], ?_, h1 _ (List.getElem_mem _)⟩
  have := h.2 k hk
  rwa [List.getD_eq_getElem?_getD, List.getElem?_eq_getElem hk'] at this

theorem rowRel_take {els : List AV} {cs : Array Value} (h : RowRel O I w els cs) :
    VRels O I w (flatE els) (cs.toList.take (flatE els).length) ∧ (∀ v ∈ cs.toList.take (flatE els).length, v.oneCell' = true) ∧ (flatE els).length ≤ cs.size := by
  have hle : (flatE els).length ≤ cs.size := by
    by_cases h0 : (flatE els).length = 0
    · omega
    · obtain ⟨u, e, _⟩ := h ((flatE els).length - 1) (by omega)
      have := (Array.getElem?_eq_some_iff.1 e).1
      omega
  refine ⟨⟨by simp; omega, fun i hi => ?_⟩, fun v hv => ?_, hle⟩
  · obtain ⟨u, e, r, _⟩ := h i hi
    have e' : (cs.toList.take (flatE els).length)[i]? = some u := by rw [List.getElem?_take, if_pos hi]; simpa using e
    rw [List.getD_eq_getElem?_getD, e']
    exact r
  · obtain ⟨i, hi, rfl⟩ := List.getElem_of_mem hv
    have hi' : i < (flatE els).length := by simp at hi; omega
    obtain ⟨u, e, _, o⟩ := h i hi'
    have e' : (cs.toList.take (flatE els).length)[i]? = some u := by rw [List.getElem?_take, if_pos hi']; simpa using e
    rw [List.getElem?_eq_getElem hi] at e'
    cases e'
    exact o

/-- A piece of a row is written anew (at its end it may go on). -/
theorem rowRel_seg {els els' : List AV} {cs : Array Value} {p : Nat} {ys : List AV} {vs : List Value} (h : RowRel O I w els cs) (hp : p ≤ (flatE els).length)
    (he : flatE els' = (flatE els).take p ++ ys ++ (flatE els).drop (p + ys.length)) (hy : VRels O I w ys vs) (h1 : ∀ v ∈ vs, v.oneCell' = true) :
    RowRel O I w els' (cs.toList.take p ++ vs ++ cs.toList.drop (p + vs.length)).toArray := by
  have hle := (rowRel_take h).2.2
  have hpc : (cs.toList.take p).length = p := by simp; omega
  have hpf : ((flatE els).take p).length = p := by simp; omega
  intro k hk
  have hk2 := hk
  rw [he] at hk2
  simp only [List.length_append, hpf, List.length_drop] at hk2
  have get : (flatE els')[k] = ((flatE els).take p ++ ys ++ (flatE els).drop (p + ys.length))[k]'(by rw [← he]; exact hk) := by simp [he]
  rw [get]
  rcases Nat.lt_or_ge k p with hc | hc
  · obtain ⟨u, e, r, o⟩ := h k (by omega)
    refine ⟨u, ?_, ?_, o⟩
    · simp only [List.getElem?_toArray, List.append_assoc]
      rw [List.getElem?_append_left (by omega), List.getElem?_take, if_pos hc]
      simpa using e
    · simp only [List.append_assoc]
      rw [List.getElem_append_left (by omega), List.getElem_take]
      exact r
  · rcases Nat.lt_or_ge k (p + ys.length) with hd | hd
    · have hi : k - p < ys.length := by omega
      have hv := hy.2 (k - p) hi
      have hi' : k - p < vs.length := by rw [hy.1]; exact hi
      rw [List.getD_eq_getElem?_getD, List.getElem?_eq_getElem hi'] at hv
      refine ⟨vs[k - p], ?_, ?_, h1 _ (List.getElem_mem _)⟩
      · simp only [List.getElem?_toArray, List.append_assoc]
        rw [List.getElem?_append_right (by omega), hpc, List.getElem?_append_left hi']
        simp [hi']
      · simp only [List.append_assoc]
        rw [List.getElem_append_right (by omega)]
        simp only [hpf]
        rw [List.getElem_append_left hi]
        exact hv
    · obtain ⟨u, e, r, o⟩ := h k (by omega)
      refine ⟨u, ?_, ?_, o⟩
      · simp only [List.getElem?_toArray, List.append_assoc]
        rw [List.getElem?_append_right (by omega), hpc, List.getElem?_append_right (by rw [hy.1]; omega), List.getElem?_drop, hy.1]
        have : p + ys.length + (k - p - ys.length) = k := by omega
        rw [this]
        simpa using e
      · simp only [List.append_assoc]
        rw [List.getElem_append_right (by omega)]
        simp only [hpf]
        rw [List.getElem_append_right (by omega)]
        simp only [List.getElem_drop]
        have : p + ys.length + (k - p - ys.length) = k := by omega
        simp only [this]
        exact r

theorem BRel.rows {b : Blk} {bi : BI} (h : BRel O I w b bi) : ∃ cs : Array Value, w.heap[bi.r]? = some (.cells cs b.ty (0, 0)) ∧ cs.size = bi.cap * b.sz ∧ RowRel O I w b.els cs := h.row

theorem cell_row {r : Nat} {cs : Array Value} {ty : TypeId} {fr : Nat × Nat} (h : w.heap[r]? = some (.cells cs ty fr)) (k : Nat) : w.cell? ⟨r, k, none⟩ = cs[k]? := by
  simp [World.cell?, h]

/-! ### loads -/

/-- Some cells of an element, as they lie. -/
theorem BRel.cells {b : Blk} {bi : BI} (h : BRel O I w b bi) {ix : Nat} {e : AV} (he : b.els[ix]? = some e) {off n : Nat} (hn : off + n ≤ (cellsOf e).length) :
    ∃ ul : List Value, ul.length = n ∧ (∀ j u, ul[j]? = some u → w.cell? ⟨bi.r, ix * bi.sz + off + j, none⟩ = some u) ∧ VRels O I w (((cellsOf e).drop off).take n) ul ∧ ∀ u ∈ ul, u.oneCell' = true := by
  obtain ⟨cs, hr, hs, hrow⟩ := h.rows
  have hix := (List.getElem?_eq_some_iff.1 he).1
  have hmem : e ∈ b.els := List.mem_of_getElem? he
  have hce := h.uni e hmem
  have hfl := flatE_length h.uni
  have key : ∀ j, j < n → ∃ u, cs[ix * b.sz + off + j]? = some u ∧ VRel O I w (((cellsOf e).drop off).take n)[j]! u ∧ u.oneCell' = true := by
    intro j hj
    have hlt : ix * b.sz + (off + j) < (flatE b.els).length := by
      rw [hfl]
      have : (ix + 1) * b.sz ≤ b.els.length * b.sz := Nat.mul_le_mul_right _ hix
      rw [Nat.add_mul] at this
      omega
    obtain ⟨u, e1, r1, o1⟩ := hrow _ hlt
    refine ⟨u, by rw [← e1]; congr 1; omega, ?_, o1⟩
    have hg := flatE_get h.uni he (off + j) (by omega)
    rw [List.getElem?_eq_getElem hlt] at hg
    have : (((cellsOf e).drop off).take n)[j]! = (flatE b.els)[ix * b.sz + (off + j)] := by
      rw [List.getElem!_eq_getElem?_getD, List.getElem?_take, if_pos hj, List.getElem?_drop, ← hg]
      rfl
    rw [this]
    exact r1
  refine ⟨(List.range n).map fun j => cs.getD (ix * b.sz + off + j) undef, by simp, ?_, ⟨by simp; omega, ?_⟩, ?_⟩
  · intro j u hu
    have hj : j < n := by have := (List.getElem?_eq_some_iff.1 hu).1; simpa using this
    obtain ⟨u', e1, _, _⟩ := key j hj
    rw [cell_row hr, h.sz, e1]
    simp [hj, Array.getD_eq_getD_getElem?, e1] at hu
    rw [hu]
  · intro i hi
    have hin : i < n := by simp at hi; omega
    obtain ⟨u', e1, r1, _⟩ := key i hin
    have : ((List.range n).map fun j => cs.getD (ix * b.sz + off + j) undef).getD i undef = u' := by
      simp [List.getD_eq_getElem?_getD, hin, Array.getD_eq_getD_getElem?, e1]
    rw [this]
    rwa [getElem!_pos _ i hi] at r1
  · intro u hu
    obtain ⟨j, hj, rfl⟩ := List.mem_map.1 hu
    obtain ⟨u', e1, _, o1⟩ := key j (by simpa using hj)
    simpa [Array.getD_eq_getD_getElem?, e1] using o1

theorem mkEl_rel {agg : Bool} {cs : List AV} {v : AV} {ul : List Value} (h : mkEl agg cs = some v) (hr : VRels O I w cs ul) (h1 : ∀ u ∈ ul, u.oneCell' = true) :
    (agg = true ∧ VRel O I w v (.agg ul.toArray)) ∨ (agg = false ∧ ∃ u, ul = [u] ∧ VRel O I w v u) := by
  unfold mkEl at h
  split at h
  · rename_i ha
    cases h
    exact .inl ⟨ha, .agg _ _ hr.1 hr.2 h1⟩
  · rename_i ha
    split at h
    · rename_i c
      cases h
      right
      have hl := hr.1
      match ul, hl with
      | [u], _ => exact ⟨by simpa using ha, u, rfl, by have := hr.2 0 (by simp); simpa using this⟩
    · cases h

/-- The type's facts that a load wants. -/
def isAggD : TypeDesc → Bool
  | .struct _ | .array _ _ => true
  | _ => false

def LoadT (P : Program) (T : TypeId) (agg : Bool) (sz : Nat) : Prop :=
  ∃ d i, P.underlying T = some d ∧ P.info? T = some i ∧ i.size = sz ∧ agg = isAggD d

theorem run_isAgg {T : TypeId} {d : TypeDesc} (h : P.underlying T = some d) : (isAgg T).run P w = .ok (isAggD d) w := by
  simp only [isAgg, Sem.run_bind, run_underlying h, Result.andThen_ok]
  cases d <;> rfl

theorem run_loadVar {T : TypeId} {agg : Bool} {sz : Nat} (h : LoadT P T agg sz) {a : Addr} {ul : List Value} (hl : ul.length = sz) (hc : ∀ j u, ul[j]? = some u → w.cell? (a.add j) = some u) :
    (agg = true → (loadVar T a).run P w = .ok (.agg ul.toArray) w) ∧ (agg = false → ∀ u, ul = [u] → (loadVar T a).run P w = .ok u w) := by
  obtain ⟨d, i, hd, hi, hs, ha⟩ := h
  constructor
  · intro hg
    have hrun := run_loadCells_list (P := P) w a ul hc
    rw [hl] at hrun
    simp [loadVar, run_isAgg hd, ← ha, hg, sizeOf, typeInfo, hi, hs, hrun]
  · rintro hg u rfl
    have := hc 0 u rfl
    have e : a.add 0 = a := by simp [Addr.add]
    rw [e] at this
    simp [loadVar, run_isAgg hd, ← ha, hg, this]

theorem load_ok (hS : SRel O I A w) {T : TypeId} {agg : Bool} {sz : Nat} (hT : LoadT P T agg sz) {a : AV} {va : Value} (hv : VRel O I w a va) {id ver ix off : Nat} (ha : a = .ptr id ver ix off)
    {b : Blk} (hb : A[id]? = some b) (hver : ver = b.els.length) {e : AV} (he : b.els[ix]? = some e) {v : AV} (hl : loadFrom agg sz off (cellsOf e) = some v) :
    OpOk P O I A w (do pure (.value (← Instr.loadAt T va))) v A := by
  subst ha
  obtain ⟨bi, hbi, hB⟩ := hS.get hb
  cases hv with
  | ptr _ _ _ _ ad bi' hi hvv hp =>
    rw [hbi] at hi
    cases hi
    have hva := hp (by rw [hB.n]; exact hver)
    subst hva
    unfold loadFrom at hl
    split at hl
    · rename_i hle
      obtain ⟨ul, h2, h3, h4, h5⟩ := hB.cells he hle
      obtain ⟨ra, rb⟩ := run_loadVar (P := P) (w := w) hT (a := ⟨bi.r, ix * bi.sz + off, none⟩) h2 (fun j u hu => by rw [Addr.add_lit]; exact h3 j u hu)
      rcases mkEl_rel hl h4 h5 with ⟨hg, hr⟩ | ⟨hg, u, rfl, hr⟩
      · exact .quiet hS (by simp [Instr.loadAt, Instr.sureAddr, ra hg]) hr
      · exact .quiet hS (by simp [Instr.loadAt, Instr.sureAddr, rb hg u rfl]) hr
    · cases hl

theorem loadR_ok (hS : SRel O I A w) {T : TypeId} {agg : Bool} {sz : Nat} (hT : LoadT P T agg sz) {a : AV} {va : Value} (hv : VRel O I w a va) {cs : List AV} {off : Nat} (ha : a = .rp cs off)
    {v : AV} (hl : loadFrom agg sz off cs = some v) : OpOk P O I A w (do pure (.value (← Instr.loadAt T va))) v A := by
  subst ha
  cases hv with
  | rp _ _ b o vals hb hlt hc hvv h1 =>
    unfold loadFrom at hl
    split at hl
    · rename_i hle
      obtain ⟨ra, rb⟩ := run_loadVar (P := P) (w := w) hT (a := ⟨b, o + off, none⟩) (ul := (List.range sz).map fun j => vals (off + j)) (by simp) (fun j u hu => by
        have hj : j < sz := by have := (List.getElem?_eq_some_iff.1 hu).1; simpa using this
        rw [Addr.add_lit, Nat.add_assoc, hc (off + j) (by omega)]
        simp [hj] at hu
        rw [hu])
      have hR : VRels O I w ((cs.drop off).take sz) ((List.range sz).map fun j => vals (off + j)) := by
        refine ⟨by simp; omega, fun i hi => ?_⟩
        have hi' : i < sz := by simp at hi; omega
        simpa [List.getElem_take, List.getElem_drop, hi'] using hvv (off + i) (by omega)
      have h5 : ∀ u ∈ (List.range sz).map fun j => vals (off + j), u.oneCell' = true := by
        intro u hu
        obtain ⟨j, hj, rfl⟩ := List.mem_map.1 hu
        exact h1 _ (by simp at hj; omega)
      rcases mkEl_rel hl hR h5 with ⟨hg, hr⟩ | ⟨hg, u, hu, hr⟩
      · exact .quiet hS (by simp only [Instr.loadAt, Instr.sureAddr, Sem.run_bind, Sem.run_pure, Result.andThen_ok, ra hg]) hr
      · exact .quiet hS (by simp only [Instr.loadAt, Instr.sureAddr, Sem.run_bind, Sem.run_pure, Result.andThen_ok, rb hg u hu]) hr
    · cases hl

/-! ### stores -/

theorem setRow_old {r : Nat} {cs : Array Value} (k : Nat) (h : k ≠ r) : (w.setRow r cs).heap[k]? = w.heap[k]? := by
  simp only [World.setRow, Array.getElem?_modify]
  rw [if_neg (by omega)]

theorem setRow_size {r : Nat} {cs : Array Value} : (w.setRow r cs).heap.size = w.heap.size := by simp [World.setRow]

/-- An own block is rewritten in place, with as many elements. -/
theorem inplace (hS : SRel O I A w) {id : Nat} {b : Blk} {bi : BI} (hA : A[id]? = some b) (hI : I[id]? = some bi) {cs : Array Value} (hr : w.heap[bi.r]? = some (.cells cs b.ty (0, 0)))
    {els : List AV} {cs' : Array Value} (hsz : cs'.size = cs.size) (hlen : els.length = b.els.length) (hu : ∀ e ∈ els, (cellsOf e).length = b.sz) (hrel : RowRel O I w els cs') :
    ∃ I', SRel O I' (A.set id ⟨b.ty, b.sz, els⟩) (w.setRow bi.r cs') ∧ Ext I w I' (w.setRow bi.r cs') := by
  have hB := hS.blk id b bi hA hI
  obtain ⟨cs0, hr0, hs0, _⟩ := hB.rows
  rw [hr] at hr0
  cases hr0
  have := upd_own (els := els) (cs := cs') (r := bi.r) (cap := bi.cap) (w' := w.setRow bi.r cs') hS hA hI rfl rfl rfl (by rw [setRow_size]; exact Nat.le_refl _) (fun k _ hk => setRow_old k hk) (.inl rfl)
    (setRow_heap w bi.r cs cs' b.ty (0, 0) hr) (by omega) hB.capm hu (by have := hB.cap; omega) hrel (by omega) (fun _ => ⟨rfl, rfl⟩)
  exact ⟨_, this.1, this.2⟩

theorem uni_set {els : List AV} {sz ix : Nat} {e : AV} (h : ∀ e ∈ els, (cellsOf e).length = sz) (he : (cellsOf e).length = sz) : ∀ x ∈ els.set ix e, (cellsOf x).length = sz := by
  intro x hx
  rcases List.mem_or_eq_of_mem_set hx with h1 | h1
  · exact h x h1
  · rw [h1]; exact he

theorem flatE_slice {sz : Nat} {xs : List AV} (h : ∀ e ∈ xs, (cellsOf e).length = sz) {i : Nat} {e : AV} (he : xs[i]? = some e) : ((flatE xs).drop (i * sz)).take sz = cellsOf e := by
  obtain ⟨hi, rfl⟩ := List.getElem?_eq_some_iff.1 he
  rw [← flatE_drop h, List.drop_eq_getElem_cons hi]
  have e1 := h _ (List.getElem_mem hi)
  simp only [flatE, List.flatMap_cons]
  rw [List.take_append_of_le_length (by omega), List.take_of_length_le (by omega)]

theorem seg_in {α : Type} (F y : List α) (ix bsz off sz : Nat) (h1 : off + sz ≤ bsz) (h2 : y.length = sz) :
    F.take (ix * bsz) ++ (((F.drop (ix * bsz)).take bsz).take off ++ y ++ ((F.drop (ix * bsz)).take bsz).drop (off + sz)) ++ F.drop ((ix + 1) * bsz) =
      F.take (ix * bsz + off) ++ y ++ F.drop (ix * bsz + off + y.length) := by
  have e1 : F.take (ix * bsz + off) = F.take (ix * bsz) ++ (F.drop (ix * bsz)).take off := by rw [List.take_add]
  have e2 : ((F.drop (ix * bsz)).take bsz).take off = (F.drop (ix * bsz)).take off := by rw [List.take_take, Nat.min_eq_left (by omega)]
  have e3 : ((F.drop (ix * bsz)).take bsz).drop (off + sz) ++ F.drop ((ix + 1) * bsz) = F.drop (ix * bsz + off + y.length) := by
    have : F.drop ((ix + 1) * bsz) = ((F.drop (ix * bsz)).drop bsz) := by rw [List.drop_drop, Nat.add_mul]; congr 1; omega
    have h3 : ((F.drop (ix * bsz)).take bsz).drop (off + sz) = ((F.drop (ix * bsz)).drop (off + sz)).take (bsz - (off + sz)) := by rw [List.drop_take]
    have h4 : (F.drop (ix * bsz)).drop bsz = ((F.drop (ix * bsz)).drop (off + sz)).drop (bsz - (off + sz)) := by rw [List.drop_drop (i := bsz - (off + sz))]; congr 1; omega
    rw [this, h3, h4, List.take_append_drop, List.drop_drop]
    congr 1
    omega
  rw [e1, e2, ← e3]
  simp only [List.append_assoc]

theorem store_ok (hS : SRel O I A w) {T : TypeId} {i : TypeInfo} {sz : Nat} (hi : P.info? T = some i) (hsz : i.size = sz) {a : AV} {va : Value} (hv : VRel O I w a va) {id ver ix off : Nat} (ha : a = .ptr id ver ix off)
    {b : Blk} (hb : A[id]? = some b) (hver : ver = b.els.length) {e : AV} (he : b.els[ix]? = some e) {x : AV} {vx : Value} (hx : VRel O I w x vx) (hst : storable x = true) (hxl : (cellsOf x).length = sz)
    (hle : off + sz ≤ (cellsOf e).length) {agg : Bool} {e' : AV} (hm : mkEl agg ((cellsOf e).take off ++ cellsOf x ++ (cellsOf e).drop (off + sz)) = some e') :
    OpOk P O I A w (do Instr.storeAt T va vx; pure .skip) .junk (A.set id ⟨b.ty, b.sz, b.els.set ix e'⟩) := by
  subst ha
  obtain ⟨bi, hbi, hB⟩ := hS.get hb
  cases hv with
  | ptr _ _ _ _ ad bi' hi' hvv hp =>
    rw [hbi] at hi'
    cases hi'
    have hva := hp (by rw [hB.n]; exact hver)
    subst hva
    obtain ⟨cs, hr, hs, hrow⟩ := hB.rows
    have hix := (List.getElem?_eq_some_iff.1 he).1
    have hce := hB.uni e (List.mem_of_getElem? he)
    obtain ⟨hcell, hone⟩ := vrels_cells hx hst
    have hvl : vx.cells.toList.length = sz := by rw [hcell.1]; exact hxl
    have hfl := flatE_length hB.uni
    have hmul : (ix + 1) * b.sz ≤ b.els.length * b.sz := Nat.mul_le_mul_right _ hix
    rw [Nat.add_mul] at hmul
    have hcap : b.els.length * b.sz ≤ bi.cap * b.sz := Nat.mul_le_mul_right _ hB.cap
    have hrun := run_storeCells_at P bi.r (ix * b.sz + off) b.ty vx.cells.toList 0 cs w hr (by rw [hvl, hs]; omega) hone
    have he' : cellsOf e' = (cellsOf e).take off ++ cellsOf x ++ (cellsOf e).drop (off + sz) := by
      unfold mkEl at hm
      split at hm
      · cases hm; rfl
      · split at hm
        · rename_i c hc
          cases hm
          have hlen1 : ((cellsOf e).take off ++ cellsOf x ++ (cellsOf e).drop (off + sz)).length = 1 := by rw [hc]; rfl
          -- the one cell is x's own
          have hmem : e' ∈ (cellsOf e).take off ++ cellsOf x ++ (cellsOf e).drop (off + sz) := by rw [hc]; simp
          rw [hc]
          have hsc : ∀ (z : AV), z = e' → cellsOf z = [z] ∨ ∃ ys, z = .agg ys := by
            intro z _
            cases z <;> simp [cellsOf]
          rcases hsc e' rfl with h | ⟨ys, h⟩
          · exact h
          · exfalso
            subst h
            -- an aggregate is no cell of a row
            have hrel : ∃ u, VRel O I w (.agg ys) u ∧ u.oneCell' = true := by
              simp only [List.mem_append] at hmem
              rcases hmem with (hmem | hmem) | hmem
              · obtain ⟨ul, _, _, h4, h5⟩ := hB.cells he (off := 0) (n := (cellsOf e).length) (by omega)
                simp at h4
                obtain ⟨j, hj, hje⟩ := List.getElem_of_mem (List.mem_of_mem_take hmem)
                have := h4.2 j hj
                rw [hje] at this
                have hj' : j < ul.length := by rw [h4.1]; exact hj
                refine ⟨ul[j], ?_, h5 _ (List.getElem_mem _)⟩
                rwa [List.getD_eq_getElem?_getD, List.getElem?_eq_getElem hj'] at this
              · obtain ⟨j, hj, hje⟩ := List.getElem_of_mem hmem
                obtain ⟨u, _, r1, o1⟩ := (rel_cells hx hst).2 j hj
                rw [hje] at r1
                exact ⟨u, r1, o1⟩
              · obtain ⟨ul, _, _, h4, h5⟩ := hB.cells he (off := 0) (n := (cellsOf e).length) (by omega)
                simp at h4
                obtain ⟨j, hj, hje⟩ := List.getElem_of_mem (List.mem_of_mem_drop hmem)
                have := h4.2 j hj
                rw [hje] at this
                have hj' : j < ul.length := by rw [h4.1]; exact hj
                refine ⟨ul[j], ?_, h5 _ (List.getElem_mem _)⟩
                rwa [List.getD_eq_getElem?_getD, List.getElem?_eq_getElem hj'] at this
            obtain ⟨u, hu, ho⟩ := hrel
            cases hu
            simp [Value.oneCell'] at ho
        · cases hm
    have hel : (cellsOf e').length = b.sz := by rw [he']; simp; omega
    have hflat : flatE (b.els.set ix e') = (flatE b.els).take (ix * b.sz + off) ++ cellsOf x ++ (flatE b.els).drop (ix * b.sz + off + (cellsOf x).length) := by
      rw [flatE_set hB.uni hix, he', ← flatE_slice hB.uni he]
      exact seg_in _ _ _ _ _ _ (by omega) (by omega)
    obtain ⟨I', hS', hE'⟩ := inplace (els := b.els.set ix e') (cs' := (cs.toList.take (ix * b.sz + off) ++ vx.cells.toList ++ cs.toList.drop (ix * b.sz + off + vx.cells.toList.length)).toArray) hS hb hbi hr
      (by simp only [List.size_toArray, List.length_append, List.length_take, List.length_drop, Array.length_toList] at hvl ⊢; omega) (by simp) (uni_set hB.uni hel)
      (rowRel_seg hrow (by omega) hflat hcell hone)
    refine ⟨I', _, undef, .inr ⟨?_, rfl⟩, .junk _, hS', hE'⟩
    have hsz2 : vx.cells.size = sz := by simpa using hvl
    simp only [Nat.add_zero] at hrun
    simp [Instr.storeAt, Instr.sureAddr, storeVar, sizeOf, typeInfo, hi, hsz, hsz2, hrun, hB.sz]

end
end Go.Ev
end

section
/- Single operations, third part: aggregates and slices built, slices made. -/
set_option linter.unusedVariables false
set_option linter.unusedSimpArgs false
namespace Go.Ev

section
variable {P : Program} {O : Nat → Prop} {I : Info} {A : Heap} {w : World}

/-! ### build -/

def placesOf (P : Program) (T : TypeId) : Option (Nat → Option (Nat × Nat)) :=
  match P.underlying T with
  | some (.array _ e) => match P.info? e with
    | some ie => some fun i => some (i * ie.size, ie.size)
    | none => none
  | some (.struct fields) => match fields.toList.mapM (fun f => (P.info? f.type).map fun i => (f.offset, i.size)) with
    | some places => some fun i => places[i]?
    | none => none
  | _ => none

theorem built_of {T : TypeId} {it : TypeInfo} {z : Value} {pl : Nat → Option (Nat × Nat)} (hi : P.info? T = some it) (hz : it.zero = some z) (hp : placesOf P T = some pl) (parts : List (Nat × Value)) :
    P.built T parts = Instr.fill pl z.cells parts := by
  unfold placesOf at hp
  unfold Program.built
  rw [hi]
  split at hp
  · rename_i e he
    split at hp
    · rename_i ie hie
      cases hp
      simp [he, hz, hie]
    · cases hp
  · rename_i fields he
    split at hp
    · rename_i places hpl
      cases hp
      have : fields.toList.mapM (fun f => (P.info? f.type).map fun i => (f.offset, i.size)) = some places := hpl
      simp only [he, hz, this]
      congr 1
      funext i
      simp
    · cases hp
  · cases hp

/-- The parts of a literal, operand by operand. -/
def cParts (pl : Nat → Option (Nat × Nat)) (parts : List (Nat × Operand)) : Option (List (Nat × Nat × Opd)) :=
  mapO (fun p => match pl p.1, cOpd p.2 with
    | some (off, sz), some y => some (off, sz, y)
    | _, _ => none) parts

theorem cParts_get {pl : Nat → Option (Nat × Nat)} {parts : List (Nat × Operand)} {out : List (Nat × Nat × Opd)} (h : cParts pl parts = some out) :
    out.length = parts.length ∧ ∀ (i : Nat) (h : i < parts.length) (h' : i < out.length), pl parts[i].1 = some (out[i].1, out[i].2.1) ∧ cOpd parts[i].2 = some out[i].2.2 := by
  obtain ⟨h1, h2⟩ := mapO_some h
  refine ⟨h1, fun i hi hi' => ?_⟩
  have := h2 i hi hi'
  split at this
  · rename_i off sz y e1 e2
    cases this' : out[i] with
    | mk a b =>
      rw [this'] at this
      cases this
      exact ⟨e1, e2⟩
  · cases this

theorem fillAll_ok {g : Nat → AV} {a : Act} (hR : RRel O I w g a) {pl : Nat → Option (Nat × Nat)} {parts : List (Nat × Operand)} {out : List (Nat × Nat × Opd)} (h : cParts pl parts = some out)
    {zs : List AV} {vl : List Value} (hz : VRels O I w zs vl) (h1 : ∀ v ∈ vl, v.oneCell' = true) {cs : List AV} (hf : fillA zs (out.map fun p => (p.1, p.2.1, p.2.2.ev g)) = some cs) :
    ∃ ul, Instr.fill pl vl.toArray (parts.map fun p => (p.1, a.eval p.2)) = some ul.toArray ∧ VRels O I w cs ul ∧ ∀ v ∈ ul, v.oneCell' = true := by
  obtain ⟨hl, hp⟩ := cParts_get h
  refine fill_ok (O := O) (I := I) (w := w) pl ((parts.zip out).map fun p => (p.1.1, p.2.2.2.ev g)) _ (out.map fun p => (p.1, p.2.1, p.2.2.ev g)) zs vl cs ?_ ?_ ?_ hz h1 hf
  · apply List.ext_getElem
    · simp [hl]
    · intro i h1 h2
      simp
  · intro i h1 h2
    simp only [List.getElem_map, List.getElem_zip]
    have hi : i < parts.length := by simpa using h2
    exact opd_rel hR (hp i hi (by omega)).2
  · refine ⟨by simp [hl], fun i h1 h2 => ?_⟩
    simp only [List.getElem_map, List.getElem_zip]
    have hi : i < parts.length := by simp at h1; omega
    exact ⟨(hp i hi (by omega)).1, trivial⟩

theorem build_ok {g : Nat → AV} {a : Act} (hS : SRel O I A w) (hR : RRel O I w g a) {T : TypeId} {it : TypeInfo} {z : Value} {zs : List AV} {pl : Nat → Option (Nat × Nat)} (hi : P.info? T = some it) (hz : it.zero = some z)
    (hc : cVal z = some (.agg zs)) (hp : placesOf P T = some pl) {parts : Array (Nat × Operand)} {out : List (Nat × Nat × Opd)} (h : cParts pl parts.toList = some out) {cs : List AV}
    (hf : fillA zs (out.map fun p => (p.1, p.2.1, p.2.2.ev g)) = some cs) :
    OpOk P O I A w (do pure (.value (← Instr.build T (parts.map fun (i, x) => (i, a.eval x))))) (.agg cs) A := by
  obtain ⟨hcell, hone⟩ := vrels_cells (cVal_rel (O := O) (I := I) (w := w) hc) rfl
  obtain ⟨ul, h1, h2, h3⟩ := fillAll_ok hR h hcell hone hf
  refine .quiet hS (run_build (P := P) w T _ ul.toArray ?_) (.agg cs ul h2.1 h2.2 h3)
  rw [built_of hi hz hp]
  rw [← h1]
  simp

/-! ### slices out of literals -/

theorem flatE_rep_get {zc : AV} {sz : Nat} (hz : (cellsOf zc).length = sz) (hp : 0 < sz) : ∀ (n k : Nat), k < n * sz → (flatE (List.replicate n zc))[k]? = (cellsOf zc)[k % sz]?
  | 0, k, h => by omega
  | n + 1, k, h => by
    have e : flatE (List.replicate (n + 1) zc) = cellsOf zc ++ flatE (List.replicate n zc) := by simp [flatE, List.replicate_succ]
    rw [e]
    rcases Nat.lt_or_ge k sz with c | c
    · rw [List.getElem?_append_left (by omega), Nat.mod_eq_of_lt c]
    · rw [List.getElem?_append_right (by omega), hz, flatE_rep_get hz hp n (k - sz) (by rw [Nat.add_mul] at h; omega), ← Nat.mod_eq_sub_mod c]

theorem uni_rep {zc : AV} {sz n : Nat} (hz : (cellsOf zc).length = sz) : ∀ e ∈ List.replicate n zc, (cellsOf e).length = sz := by
  intro e he
  rw [List.eq_of_mem_replicate he]
  exact hz

theorem made_rel {zc : AV} {z : Value} (h : VRel O I w zc z) (hst : storable zc = true) {sz : Nat} (hz : (cellsOf zc).length = sz) (hp : 0 < sz) (n : Nat) :
    VRels O I w (flatE (List.replicate n zc)) (madeCells z.cells (n * sz)).toList ∧ ∀ v ∈ (madeCells z.cells (n * sz)).toList, v.oneCell' = true := by
  obtain ⟨h1, h2⟩ := rel_cells h hst
  have hs : z.cells.size = sz := by omega
  have key : ∀ k, k < n * sz → ∃ u, (madeCells z.cells (n * sz)).toList[k]? = some u ∧ z.cells[k % sz]? = some u := by
    intro k hk
    have hm : k % sz < sz := Nat.mod_lt _ hp
    refine ⟨z.cells[k % sz]'(by omega), ?_, by simp [hs, hm]⟩
    simp [madeCells, hk, hs, hm]
  refine ⟨⟨?_, fun k hk => ?_⟩, fun v hv => ?_⟩
  · rw [flatE_length (uni_rep hz)]
    simp [madeCells]
  · have hk' : k < n * sz := by rw [flatE_length (uni_rep hz)] at hk; simpa using hk
    obtain ⟨u, e1, e2⟩ := key k hk'
    have hm : k % sz < (cellsOf zc).length := by rw [hz]; exact Nat.mod_lt _ hp
    obtain ⟨u', e3, r, _⟩ := h2 (k % sz) hm
    rw [e2] at e3
    cases e3
    have hg := flatE_rep_get hz hp n k hk'
    rw [List.getElem?_eq_getElem hk, List.getElem?_eq_getElem hm] at hg
    rw [List.getD_eq_getElem?_getD, e1]
    rw [Option.some.inj hg]
    exact r
  · obtain ⟨k, hk, rfl⟩ := List.getElem_of_mem hv
    have hk' : k < n * sz := by simpa [madeCells] using hk
    obtain ⟨u, e1, e2⟩ := key k hk'
    rw [List.getElem?_eq_getElem hk] at e1
    cases e1
    obtain ⟨u', e3, _, o⟩ := h2 (k % sz) (by rw [hz]; exact Nat.mod_lt _ hp)
    rw [e2] at e3
    cases e3
    exact o

theorem setEls_fill {sz : Nat} : ∀ (parts : List (Nat × AV)) (els out : List AV), (∀ e ∈ els, (cellsOf e).length = sz) → setEls sz els parts = some out →
    fillA (flatE els) (parts.map fun p => (p.1 * sz, sz, p.2)) = some (flatE out) ∧ (∀ e ∈ out, (cellsOf e).length = sz) ∧ out.length = els.length
  | [], els, out, hu, h => by
    simp only [setEls] at h
    cases h
    exact ⟨rfl, hu, rfl⟩
  | (i, v) :: r, els, out, hu, h => by
    simp only [setEls] at h
    split at h
    · rename_i hc
      obtain ⟨c1, c2, c3⟩ := hc
      obtain ⟨g1, g2, g3⟩ := setEls_fill r (els.set i v) out (uni_set hu c2) h
      refine ⟨?_, g2, by simpa using g3⟩
      have hmul : (i + 1) * sz ≤ els.length * sz := Nat.mul_le_mul_right _ c3
      have hadd : (i + 1) * sz = i * sz + sz := by rw [Nat.add_mul]; omega
      simp only [List.map_cons, fillA]
      rw [if_pos ⟨c1, c2, by rw [flatE_length hu]; omega⟩, ← g1, flatE_set hu c3, hadd]
    · cases h

def cPartsS (parts : List (Nat × Operand)) : Option (List (Nat × Opd)) :=
  mapO (fun p => match cOpd p.2 with
    | some y => some (p.1, y)
    | none => none) parts

theorem litCells (hS : SRel O I A w) {g : Nat → AV} {a : Act} (hR : RRel O I w g a) {zc : AV} {z : Value} (hz : VRel O I w zc z) (hst : storable zc = true) {sz : Nat} (hsz : (cellsOf zc).length = sz) (hpos : 0 < sz)
    {parts : List (Nat × Operand)} {out : List (Nat × Opd)} (h : cPartsS parts = some out) {n : Nat} {els : List AV} (hf : setEls sz (List.replicate n zc) (out.map fun p => (p.1, p.2.ev g)) = some els) :
    ∃ ul : List Value, Instr.fill (fun i => some (i * sz, sz)) (madeCells z.cells (n * sz)) (parts.map fun p => (p.1, a.eval p.2)) = some ul.toArray ∧ VRels O I w (flatE els) ul ∧ (∀ v ∈ ul, v.oneCell' = true) ∧
      (∀ e ∈ els, (cellsOf e).length = sz) ∧ els.length = n := by
  obtain ⟨h1, h2, h3⟩ := setEls_fill _ _ _ (uni_rep hsz) hf
  obtain ⟨m1, m2⟩ := made_rel hz hst hsz hpos n
  have hp : cParts (fun i => some (i * sz, sz)) parts = some (out.map fun p => (p.1 * sz, sz, p.2)) := by
    clear hf h1
    induction parts generalizing out with
    | nil => simp [cPartsS, mapO] at h; subst h; simp [cParts, mapO]
    | cons p r ih =>
      simp only [cPartsS, mapO] at h
      split at h
      · rename_i y hy
        split at h
        · rename_i ys hys
          cases h
          split at hy
          · rename_i q hq
            cases hy
            have := ih hys
            simp only [cParts] at this
            simp only [cParts, mapO, hq, this, List.map_cons]
          · cases hy
        · cases h
      · cases h
  have := fillAll_ok (O := O) (I := I) (w := w) hR hp (zs := flatE (List.replicate n zc)) (vl := (madeCells z.cells (n * sz)).toList) m1 m2 (cs := flatE els) (by rw [List.map_map]; rw [List.map_map] at h1; exact h1)
  obtain ⟨ul, g1, g2, g3⟩ := this
  exact ⟨ul, by simpa using g1, g2, g3, h2, by simpa using h3⟩

theorem run_buildSlice {T e : TypeId} {i : TypeInfo} {z : Value} (ht : P.underlying T = some (.slice e)) (hi : P.info? e = some i) (hz : i.zero = some z) {n : Nat} (hn : n * i.size ≤ 2 ^ 24)
    {parts : Array (Nat × Value)} {cells : Array Value} (hf : Instr.fill (fun k => some (k * i.size, i.size)) (madeCells z.cells (n * i.size)) parts.toList = some cells) :
    (Instr.buildSlice T n parts).run P w = .ok (.slice (some ⟨w.heap.size, 0, none⟩) n n) { w with heap := w.heap.push (.cells cells e) } := by
  have h2 : ¬ (n * i.size > 2 ^ 24) := by omega
  by_cases h0 : n * i.size = 0
  · have e0 : madeCells z.cells (n * i.size) = (Array.range (n * i.size)).map ((#[] : Array Value)[· % (#[] : Array Value).size]!) := by simp [madeCells, h0]
    rw [e0] at hf
    simp only [Instr.buildSlice, Sem.run_bind, run_underlying ht, Result.andThen_ok, sizeOf, typeInfo, run_program, hi, Sem.run_pure, if_neg h2, if_pos h0, hf]
    simp [newRow, hf]
  · have hf' : Instr.fill (fun k => some (k * i.size, i.size)) ((Array.range (n * i.size)).map (z.cells[· % z.cells.size]!)) parts.toList = some cells := hf
    simp only [Instr.buildSlice, Sem.run_bind, run_underlying ht, Result.andThen_ok, sizeOf, typeInfo, run_program, hi, Sem.run_pure, if_neg h2, if_neg h0, zeroValue, hz, hf']
    simp [newRow, hf']

theorem bsl_ok (hS : SRel O I A w) {g : Nat → AV} {a : Act} (hR : RRel O I w g a) {T e : TypeId} {i : TypeInfo} {z : Value} {zc : AV} (ht : P.underlying T = some (.slice e)) (hi : P.info? e = some i) (hz : i.zero = some z)
    (hc : cVal z = some zc) (hst : storable zc = true) (hsz : (cellsOf zc).length = i.size) (hpos : 0 < i.size) {n : Nat} (hn : n * i.size ≤ 2 ^ 24)
    {parts : Array (Nat × Operand)} {out : List (Nat × Opd)} (h : cPartsS parts.toList = some out) {els : List AV} (hf : setEls i.size (List.replicate n zc) (out.map fun p => (p.1, p.2.ev g)) = some els) :
    OpOk P O I A w (do pure (.value (← Instr.buildSlice T n (parts.map fun (i, x) => (i, a.eval x))))) (.sl A.length i.size els.length 0 els.length) (A ++ [⟨e, i.size, els⟩]) := by
  obtain ⟨ul, h1, h2, h3, h4, h5⟩ := litCells hS hR (cVal_rel (O := O) (I := I) (w := w) hc) hst hsz hpos h hf
  have hrun := run_buildSlice (w := w) ht hi hz hn (parts := parts.map fun (i, x) => (i, a.eval x)) (cells := ul.toArray) (by rw [← h1]; simp)
  have hul : ul.length = n * i.size := by rw [h2.1, flatE_length h4, h5]
  have hn64 : n ≤ 9223372036854775807 := by
    have : n * 1 ≤ n * i.size := Nat.mul_le_mul_left _ hpos
    omega
  have hS' := SRel.push_own (ty := e) (cap := n) (els := els) (cs := ul.toArray) hS w.drawn hpos (by omega) hn64 h4 (by simpa using hul) (by have := rowRel_of (rest := []) h2 h3; simpa using this)
  refine .val hrun ?_ hS' (Ext.push_own I w _ w.drawn _ rfl)
  have hR := VRel.sl (O := O) (I := I ++ [⟨w.heap.size, els.length, i.size, n⟩]) (w := { w with heap := w.heap.push (.cells ul.toArray e), drawn := w.drawn }) A.length i.size els.length 0 els.length ⟨w.heap.size, 0, none⟩ n ⟨w.heap.size, els.length, i.size, n⟩ ?_ (Nat.le_refl _) rfl (by omega) (fun _ => ⟨by simp, fun _ => by simp⟩)
  · rw [h5] at hR ⊢
    exact hR
  rw [← hS.len, List.getElem?_append_right (Nat.le_refl _)]
  simp

theorem rbsl_ok (hS : SRel O I A w) {g : Nat → AV} {a : Act} (hR : RRel O I w g a) {T e : TypeId} {i : TypeInfo} {z : Value} {zc : AV} (ht : P.underlying T = some (.slice e)) (hi : P.info? e = some i) (hz : i.zero = some z)
    (hc : cVal z = some zc) (hst : storable zc = true) (hsz : (cellsOf zc).length = i.size) (hpos : 0 < i.size) {n : Nat} (hn : n * i.size ≤ 2 ^ 24)
    {parts : Array (Nat × Operand)} {out : List (Nat × Opd)} (h : cPartsS parts.toList = some out) {els : List AV} (hf : setEls i.size (List.replicate n zc) (out.map fun p => (p.1, p.2.ev g)) = some els) :
    OpOk P O I A w (do pure (.value (← Instr.buildSlice T n (parts.map fun (i, x) => (i, a.eval x))))) (.lst (permAll els) i.size false els) A := by
  obtain ⟨ul, h1, h2, h3, h4, h5⟩ := litCells hS hR (cVal_rel (O := O) (I := I) (w := w) hc) hst hsz hpos h hf
  have hrun := run_buildSlice (w := w) ht hi hz hn (parts := parts.map fun (i, x) => (i, a.eval x)) (cells := ul.toArray) (by rw [← h1]; simp)
  have he := Ext.push_ro I w (.cells ul.toArray e) w.drawn
  refine .val hrun ?_ (hS.push_ro _ w.drawn) he
  have hrow := (rowRel_of (rest := []) h2 h3)
  rw [List.append_nil] at hrow
  have := VRel.lst (O := O) (I := I) (w := { w with heap := w.heap.push (.cells ul.toArray e), drawn := w.drawn }) (permAll els) i.size els ⟨w.heap.size, 0, none⟩ n (fun k => ul.getD k undef) (fun h => h) (by omega)
    (fun _ => ⟨rfl, fun hh => Nat.lt_irrefl _ (hS.has_lt hh), by simp, fun _ hO => Nat.lt_irrefl _ (hS.olt _ hO)⟩) h4 (fun k hk => ?_) (fun k hk => ?_) (fun k hk => ?_)
  · rw [h5] at this
    exact this
  · have hk' : k < ul.length := by rw [h2.1]; exact hk
    simp [World.cell?, hk', List.getD_eq_getElem?_getD]
  · exact (h2.2 k hk).mono he
  · have hk' : k < ul.length := by rw [h2.1]; exact hk
    rw [List.getD_eq_getElem?_getD, List.getElem?_eq_getElem hk']
    exact h3 _ (List.getElem_mem _)

/-! ### make -/

theorem mksl_ok (hS : SRel O I A w) {T e : TypeId} {i : TypeInfo} {z : Value} {zc : AV} (ht : P.underlying T = some (.slice e)) (hi : P.info? e = some i) (hz : i.zero = some z) (hc : cVal z = some zc)
    (hst : storable zc = true) (hsz : (cellsOf zc).length = i.size) (hpos : 0 < i.size) {kl kc : IntKind} {n m : Int} (h0 : 0 ≤ n) (h1 : n ≤ m) (h2 : m * i.bytes ≤ 140737488355328) (h3 : m ≤ 9223372036854775807) :
    OpOk P O I A w (do pure (.value (← Instr.makeSlice T (.int kl n) (.int kc m)))) (.sl A.length i.size n.toNat 0 n.toNat) (A ++ [⟨e, i.size, List.replicate n.toNat zc⟩]) := by
  have hrun := run_make (P := P) w T e i z ht hi hz kl kc n m h0 h1 (by rw [Int.mul_comm]; omega) h3
  have hz' := cVal_rel (O := O) (I := I) (w := w) hc
  obtain ⟨m1, m2⟩ := made_rel hz' hst hsz hpos m.toNat
  have hrow : RowRel O I w (List.replicate n.toNat zc) (madeCells z.cells (m.toNat * i.size)) := by
    have hfull : RowRel O I w (List.replicate m.toNat zc) (madeCells z.cells (m.toNat * i.size)) := by have := rowRel_of (rest := []) m1 m2; simpa using this
    intro k hk
    rw [flatE_length (uni_rep hsz)] at hk
    simp at hk
    have hk2 : k < m.toNat * i.size := Nat.lt_of_lt_of_le hk (Nat.mul_le_mul_right _ (by omega))
    have hk3 : k < (flatE (List.replicate m.toNat zc)).length := by rw [flatE_length (uni_rep hsz)]; simpa using hk2
    obtain ⟨u, e1, r1, o1⟩ := hfull k hk3
    refine ⟨u, e1, ?_, o1⟩
    have g1 := flatE_rep_get hsz hpos n.toNat k hk
    have g2 := flatE_rep_get hsz hpos m.toNat k hk2
    rw [← g2, List.getElem?_eq_getElem hk3, List.getElem?_eq_getElem (by rw [flatE_length (uni_rep hsz)]; simpa using hk)] at g1
    rw [Option.some.inj g1]
    exact r1
  have hS' := SRel.push_own (ty := e) (cap := m.toNat) (els := List.replicate n.toNat zc) (cs := madeCells z.cells (m.toNat * i.size)) hS w.drawn hpos (by simp; omega) (by omega) (uni_rep hsz) (by simp [madeCells]) hrow
  have hS'' : SRel O (I ++ [⟨w.heap.size, n.toNat, i.size, m.toNat⟩]) (A ++ [⟨e, i.size, List.replicate n.toNat zc⟩]) (w.alloc (.cells (madeCells z.cells (m.toNat * i.size)) e)) := by simpa using hS'
  refine .val hrun ?_ hS'' (Ext.push_own I w _ w.drawn _ rfl)
  refine .sl _ _ _ _ _ _ _ ⟨w.heap.size, n.toNat, i.size, m.toNat⟩ ?_ (Nat.le_refl _) rfl (by omega) (fun _ => ⟨by simp, fun _ => by simp⟩)
  rw [← hS.len, List.getElem?_append_right (Nat.le_refl _)]
  simp

end
end Go.Ev
end

section
/- Single operations, fourth part: operators. -/
set_option linter.unusedVariables false
set_option linter.unusedSimpArgs false
namespace Go.Ev

section
variable {P : Program} {O : Nat → Prop} {I : Info} {A : Heap} {w : World}

theorem intBin_ok {op : BinOp} (h1 : op ≠ .shl) (h2 : op ≠ .shr) {k : IntKind} {a b : Int} {v : AV} (h : intBin op k a b = some v) (T : TypeId) (x y : Operand) :
    ∃ u, (do eqGuard op T x y (.int k a) (.int k b); binOp op T (.int k a) (.int k b) : Sem Value).run P w = .ok u w ∧ VRel O I w v u := by
  have hg : (eqGuard op T x y (.int k a) (.int k b)).run P w = .ok () w := by cases op <;> rfl
  simp only [Sem.run_bind, hg, Result.andThen_ok]
  cases op <;> simp only [intBin] at h <;> first
    | (cases h; refine ⟨_, ?_, .int _ _⟩; simp [binOp, Op.intArith]; done)
    | (split at h
       · cases h
       · rename_i hb
         cases h
         refine ⟨_, ?_, .int _ _⟩
         simp [binOp, Op.intDiv, hb]
         done)
    | (cases h; refine ⟨_, ?_, .int _ _⟩; simp [binOp, Op.intBits]; done)
    | (cases h; refine ⟨_, ?_, .bool _⟩; simp [binOp, Op.intCmp]; done)
    | (cases h; refine ⟨_, ?_, .bool _⟩; simp [binOp, Op.intCmp]; rfl)
    | (cases h)
    | (exact absurd rfl h1)
    | (exact absurd rfl h2)

theorem ba_toList (s : List UInt8) : (⟨s.toArray⟩ : ByteArray).toList = s := by rw [ByteArray.toList_eq]

theorem ba_append (s t : List UInt8) : ((⟨s.toArray⟩ : ByteArray) ++ ⟨t.toArray⟩) = ⟨(s ++ t).toArray⟩ := by
  apply ByteArray.ext
  simp [ByteArray.data_append]

theorem ba_size (s : List UInt8) : (⟨s.toArray⟩ : ByteArray).size = s.length := rfl

theorem strBin_ok {op : BinOp} {a b : List UInt8} {v : AV} (h : strBin op a b = some v) (T : TypeId) (x y : Operand) :
    ∃ u, (do eqGuard op T x y (.string ⟨a.toArray⟩) (.string ⟨b.toArray⟩); binOp op T (.string ⟨a.toArray⟩) (.string ⟨b.toArray⟩) : Sem Value).run P w = .ok u w ∧ VRel O I w v u := by
  have hg : (eqGuard op T x y (.string ⟨a.toArray⟩) (.string ⟨b.toArray⟩)).run P w = .ok () w := by cases op <;> rfl
  simp only [Sem.run_bind, hg, Result.andThen_ok]
  have hb : binOp op T (.string ⟨a.toArray⟩) (.string ⟨b.toArray⟩) = Op.stringOp op ⟨a.toArray⟩ ⟨b.toArray⟩ := by cases op <;> rfl
  rw [hb]
  cases op <;> simp only [strBin] at h <;> first
    | (split at h
       · rename_i hl
         cases h
         refine ⟨.string ⟨(a ++ b).toArray⟩, ?_, .str _⟩
         have hn : ¬ (((a.length + b.length : Nat) : Int) > IntKind.i64.max) := by
           have : IntKind.i64.max = 9223372036854775807 := by decide
           omega
         simp only [Op.stringOp, ba_size, if_neg hn, ba_append]
         rfl
       · cases h)
    | (cases h; exact ⟨_, by simp only [Op.stringOp, ba_toList]; rfl, .bool _⟩)
    | (cases h)

/-! ### equality -/

def scalT (P : Program) (T : TypeId) : Option SK :=
  match P.underlying T with
  | some (.int _) => some .int
  | some .bool => some .bool
  | some .string => some .str
  | _ => none

def flatFields (P : Program) : Nat → List Field → Option (List SK)
  | _, [] => some []
  | off, f :: r =>
    if f.name != "_" && f.offset == off then
      match scalT P f.type, flatFields P (off + 1) r with
      | some k, some ks => some (k :: ks)
      | _, _ => none
    else none

theorem part_scal {T : TypeId} {k : SK} (h : scalT P T = some k) {xs : Array Value} {off : Nat} {v : Value} (hx : xs[off]? = some v) : (part T xs off).run P w = .ok v w := by
  unfold scalT at h
  have hd : ∃ d, P.underlying T = some d ∧ isAggD d = false := by
    split at h <;> first | (rename_i e; exact ⟨_, e, rfl⟩) | cases h
  obtain ⟨d, h1, h2⟩ := hd
  simp [part, run_isAgg h1, h2, hx]

theorem scalEq_run {T : TypeId} {k : SK} (hT : scalT P T = some k) {x y : AV} {b : Bool} (h : scalEq k x y = some b) {vx vy : Value} (hx : VRel O I w x vx) (hy : VRel O I w y vy) (d : Nat) :
    (Op.equalIn (d + 1) T vx vy).run P w = .ok b w := by
  unfold scalEq at h
  split at h
  · rename_i k1 a k2 c
    split at h
    · rename_i hk
      subst hk
      cases h
      unfold scalT at hT
      split at hT <;> cases hT
      rename_i kk e
      rw [rel_int hx, rel_int hy, run_equalIn_int w d T k1 kk a c e]
      rfl
    · cases h
  · cases h
    unfold scalT at hT
    split at hT <;> cases hT
    rename_i e
    rw [rel_bool hx, rel_bool hy, run_equalIn_bool' w d T _ _ e]
  · cases h
    unfold scalT at hT
    split at hT <;> cases hT
    rename_i e
    rw [rel_str hx, rel_str hy, run_equalIn_string w d T _ _ e, ba_toList, ba_toList]
  · cases h

theorem eqFields_run : ∀ (fs : List Field) (off : Nat) (ks : List SK) (xs ys : List AV) (vx vy : List Value) (b : Bool) (d : Nat), flatFields P off fs = some ks → cellsEq ks (xs.drop off) (ys.drop off) = some b →
    VRels O I w xs vx → VRels O I w ys vy → (Op.eqFields (d + 1) vx.toArray vy.toArray fs).run P w = .ok b w
  | [], off, ks, xs, ys, vx, vy, b, d, h1, h2, h3, h4 => by
    simp only [flatFields] at h1
    cases h1
    unfold cellsEq at h2
    split at h2
    · cases h2; simp [Op.eqFields]
    · rename_i e _ _; cases e
    · cases h2
  | f :: fs, off, ks, xs, ys, vx, vy, b, d, h1, h2, h3, h4 => by
    simp only [flatFields] at h1
    split at h1
    · rename_i hc
      simp only [Bool.and_eq_true, bne_iff_ne, beq_iff_eq] at hc
      split at h1
      · rename_i k ks' hk hks
        cases h1
        cases hx : xs.drop off with
        | nil => rw [hx] at h2; simp [cellsEq] at h2
        | cons x xr =>
          cases hy : ys.drop off with
          | nil => rw [hx, hy] at h2; simp [cellsEq] at h2
          | cons y yr =>
            rw [hx, hy] at h2
            have ex : xs[off]? = some x := by have : (xs.drop off)[0]? = some x := by rw [hx]; rfl
                                              simpa using this
            have ey : ys[off]? = some y := by have : (ys.drop off)[0]? = some y := by rw [hy]; rfl
                                              simpa using this
            obtain ⟨lx, rfl⟩ := List.getElem?_eq_some_iff.1 ex
            obtain ⟨ly, rfl⟩ := List.getElem?_eq_some_iff.1 ey
            have rx := h3.2 off lx
            have ry := h4.2 off ly
            have lx' : off < vx.length := by rw [h3.1]; exact lx
            have ly' : off < vy.length := by rw [h4.1]; exact ly
            rw [List.getD_eq_getElem?_getD, List.getElem?_eq_getElem lx'] at rx
            rw [List.getD_eq_getElem?_getD, List.getElem?_eq_getElem ly'] at ry
            simp only [Option.getD_some] at rx ry
            have px := part_scal (w := w) hk (xs := vx.toArray) (off := f.offset) (v := vx[off]) (by rw [hc.2]; simp [lx'])
            have py := part_scal (w := w) hk (xs := vy.toArray) (off := f.offset) (v := vy[off]) (by rw [hc.2]; simp [ly'])
            simp only [cellsEq] at h2
            have dx : xr = xs.drop (off + 1) := by have := congrArg List.tail hx; simpa [List.tail_drop] using this.symm
            have dy : yr = ys.drop (off + 1) := by have := congrArg List.tail hy; simpa [List.tail_drop] using this.symm
            split at h2
            · rename_i hs
              have he := scalEq_run hk hs rx ry d
              have ih := eqFields_run fs (off + 1) ks' xs ys vx vy b d hks (by rw [← dx, ← dy]; exact h2) h3 h4
              simp only [Op.eqFields, if_pos hc.1, Sem.run_bind, px, py, he, Result.andThen_ok]
              simpa using ih
            · rename_i hs
              cases h2
              have he := scalEq_run hk hs rx ry d
              simp only [Op.eqFields, if_pos hc.1, Sem.run_bind, px, py, he, Result.andThen_ok]
              simp
            · cases h2
      · cases h1
    · cases h1

/-- What the type of an equality and its right operand allow. -/
def EqT (P : Program) (T : TypeId) (y : Operand) : EqI → Prop
  | .scal k => scalT P T = some k
  | .flat ks => ∃ fs, P.underlying T = some (.struct fs) ∧ flatFields P 0 fs.toList = some ks ∧ P.stoodInHeld T = false ∧ P.eqGuardType P.depth T = false
  | .slc => ∃ e, P.underlying T = some (.slice e)
  | .ifc => (∃ ms, P.underlying T = some (.interface ms)) ∧ ∃ c, y = .const c
  | .other => True

theorem run_eq_ifc1 (d : Nat) {T : TypeId} {ms : Array (String × TypeId)} (hm : P.underlying T = some (.interface ms)) {t : TypeId} {v : Value} : (Op.equalIn (d + 1) T (.iface t v) .nilIface).run P w = .ok false w := by
  simp [Op.equalIn, run_underlying hm]

theorem run_eq_ifc2 (d : Nat) {T : TypeId} {ms : Array (String × TypeId)} (hm : P.underlying T = some (.interface ms)) : (Op.equalIn (d + 1) T .nilIface .nilIface).run P w = .ok true w := by
  simp [Op.equalIn, run_underlying hm]

theorem eq_ok (hS : SRel O I A w) {T : TypeId} {x y : Operand} {eq : EqI} (hT : EqT P T y eq) {ax ay : AV} {b : Bool} (h : evEq eq ax ay = some b) {vx vy : Value} (hx : VRel O I w ax vx) (hy : VRel O I w ay vy) :
    (∀ op, (eqGuard op T x y vx vy).run P w = .ok () w) ∧ (binOp .eql T vx vy).run P w = .ok (.bool b) w ∧ (binOp .neq T vx vy).run P w = .ok (.bool (!b)) w := by
  have fin : ∀ {vx vy : Value}, binOp .eql T vx vy = (do pure (.bool (← Op.equal T vx vy))) → binOp .neq T vx vy = (do pure (.bool (!(← Op.equal T vx vy)))) → (Op.equal T vx vy).run P w = .ok b w →
      (binOp .eql T vx vy).run P w = .ok (.bool b) w ∧ (binOp .neq T vx vy).run P w = .ok (.bool (!b)) w := by
    intro vx vy h1 h2 h3
    rw [h1, h2]
    simp [h3]
  unfold evEq at h
  split at h
  · rename_i k
    have hr := scalEq_run hT h hx hy 9999
    unfold scalEq at h
    split at h
    · rename_i k1 a k2 c
      split at h
      · rename_i hk
        subst hk
        cases h
        rw [rel_int hx, rel_int hy]
        refine ⟨fun op => by cases op <;> rfl, ?_, ?_⟩
        · show (if k1 ≠ k1 then stuck "BinOp: operands of different kinds" else Op.intCmp .eql a c : Sem Value).run P w = _
          rw [if_neg (by simp)]; rfl
        · show (if k1 ≠ k1 then stuck "BinOp: operands of different kinds" else Op.intCmp .neq a c : Sem Value).run P w = _
          rw [if_neg (by simp)]; rfl
      · cases h
    · cases h
      rw [rel_bool hx, rel_bool hy] at hr ⊢
      exact ⟨fun op => by cases op <;> rfl, fin rfl rfl hr⟩
    · cases h
      rw [rel_str hx, rel_str hy] at hr ⊢
      refine ⟨fun op => by cases op <;> rfl, ?_, ?_⟩
      · show (Op.stringOp .eql _ _).run P w = _
        simp only [Op.stringOp, ba_toList]; rfl
      · show (Op.stringOp .neq _ _).run P w = _
        simp only [Op.stringOp, ba_toList]; rfl
    · cases h
  · rename_i ks
    split at h
    · rename_i xs ys
      obtain ⟨fs, h1, h2, h3, h4⟩ := hT
      cases hx with
      | agg _ vl hl hr ho =>
        cases hy with
        | agg _ ul kl kr ko =>
          refine ⟨fun op => run_eqGuard_agg w op T x y _ _ h4, fin rfl rfl ?_⟩
          have hf : P.fieldsOf T = fs := by simp [Program.fieldsOf, h1]
          have := eqFields_run (P := P) fs.toList 0 ks xs ys vl ul b 9998 h2 (by simpa using h) ⟨hl, hr⟩ ⟨kl, kr⟩
          show (Op.equalIn (9999 + 1) T _ _).run P w = _
          rw [run_equalIn_struct w 9999 T _ _ (by rw [hf]; exact h1) h3, hf]
          exact this
    · cases h
  · split at h
    · rename_i hn
      obtain ⟨e, he⟩ := hT
      unfold isNilConst at hn
      split at hn
      · cases hy with
        | lstn p sz =>
          unfold isNilSl at h
          split at h
          · cases h
            cases hx with
            | lstn p sz => exact ⟨fun op => by cases op <;> rfl, fin rfl rfl (by rw [run_equal_slice_nil w T e none 0 0 he]; rfl)⟩
            | lst p sz xs a c vals hp hcap ha hu hc hv h1 => exact ⟨fun op => by cases op <;> rfl, fin rfl rfl (by rw [run_equal_slice_nil w T e (some a) _ c he]; rfl)⟩
          · cases h
            cases hx with
            | sl _ _ _ _ _ ad c => exact ⟨fun op => by cases op <;> rfl, fin rfl rfl (by rw [run_equal_slice_nil w T e (some ad) _ _ he]; rfl)⟩
          · cases h
      · cases hn
    · cases h
  · obtain ⟨⟨ms, hm⟩, c, rfl⟩ := hT
    split at h
    · cases h
      cases hx with
      | iface t xx v hxx =>
        rw [rel_nili hy]
        refine ⟨fun op => by cases op <;> rfl, fin rfl rfl ?_⟩
        exact run_eq_ifc1 9999 hm
    · cases h
      rw [rel_nili hx, rel_nili hy]
      refine ⟨fun op => by rw [eqGuard_nil_constR]; rfl, fin rfl rfl ?_⟩
      exact run_eq_ifc2 9999 hm
    · cases h
  · cases h

theorem bin_ok (hS : SRel O I A w) {op : BinOp} {eq : EqI} {T : TypeId} {x y : Operand} (hT : EqT P T y eq) {ax ay : AV} {v : AV} (h : evBin op eq ax ay = some v) {vx vy : Value} (hx : VRel O I w ax vx) (hy : VRel O I w ay vy) :
    OpOk P O I A w (do pure (.value (← (do eqGuard op T x y vx vy; binOp op T vx vy : Sem Value)))) v A := by
  unfold evBin at h
  split at h
  · rename_i k a k' b
    rw [rel_int hx, rel_int hy]
    split at h
    · cases h
    · rename_i hb
      cases h
      refine .quiet hS ?_ (.int _ _)
      have hg : (eqGuard .shl T x y (.int k a) (.int k' b)).run P w = .ok () w := rfl
      have h2 : (binOp .shl T (.int k a) (.int k' b)).run P w = .ok (.int k (k.wrap (a * 2 ^ (min b.toNat k.bits)))) w := by
        show (Op.shift .shl k a k' b).run P w = _
        unfold Op.shift
        rw [if_neg hb]
        rfl
      rw [Sem.run_bind, hg, Result.andThen_ok, h2]
  · rename_i k a k' b
    rw [rel_int hx, rel_int hy]
    split at h
    · cases h
    · rename_i hb
      cases h
      refine .quiet hS ?_ (.int _ _)
      have hg : (eqGuard .shr T x y (.int k a) (.int k' b)).run P w = .ok () w := rfl
      have h2 : (binOp .shr T (.int k a) (.int k' b)).run P w = .ok (.int k (a.fdiv (2 ^ (min b.toNat k.bits)))) w := by
        show (Op.shift .shr k a k' b).run P w = _
        unfold Op.shift
        rw [if_neg hb]
        rfl
      rw [Sem.run_bind, hg, Result.andThen_ok, h2]
  · rename_i k a k' b n1 n2
    rw [rel_int hx, rel_int hy]
    split at h
    · rename_i hk
      subst hk
      obtain ⟨u, hr, hv⟩ := intBin_ok (P := P) (O := O) (I := I) (w := w) (fun e => n1 e) (fun e => n2 e) h T x y
      exact .quiet hS hr hv
    · cases h
  · rename_i a b
    rw [rel_str hx, rel_str hy]
    obtain ⟨u, hr, hv⟩ := strBin_ok (P := P) (O := O) (I := I) (w := w) h T x y
    exact .quiet hS hr hv
  · split at h
    · rename_i b hb
      cases h
      obtain ⟨hg, he, _⟩ := eq_ok (P := P) (x := x) hS hT hb hx hy
      refine .quiet hS (u := .bool b) ?_ (.bool _)
      rw [Sem.run_bind, hg, Result.andThen_ok, he]
    · cases h
  · split at h
    · rename_i b hb
      cases h
      obtain ⟨hg, _, he⟩ := eq_ok (P := P) (x := x) hS hT hb hx hy
      refine .quiet hS (u := .bool (!b)) ?_ (.bool _)
      rw [Sem.run_bind, hg, Result.andThen_ok, he]
    · cases h
  · cases h

end
end Go.Ev
end

section
/- Single operations, fifth part: fields, indexes, slices of slices, function values. -/
set_option linter.unusedVariables false
set_option linter.unusedSimpArgs false
namespace Go.Ev

section
variable {P : Program} {O : Nat → Prop} {I : Info} {A : Heap} {w : World}

theorem nilchk_ok (hS : SRel O I A w) {a : AV} {va : Value} (hv : VRel O I w a va) {o : Oper} {ρ : Operand → Value} {x : Operand} (ho : o.op = .nilCheck x) (hx : ρ x = va)
    (ha : (∃ id ver ix off, a = .ptr id ver ix off) ∨ (∃ cs off, a = .rp cs off) ∨ ∃ f b c, a = .fn f b c) : OpOk P O I A w (execOp ρ o) a A := by
  refine ⟨I, w, va, .inl ?_, hv, hS, Ext.refl _ _⟩
  unfold execOp
  rw [ho]
  simp only [hx]
  rcases ha with ⟨id, ver, ix, off, rfl⟩ | ⟨cs, off, rfl⟩ | ⟨f, b, c, rfl⟩
  · cases hv; rfl
  · cases hv; rfl
  · cases hv; rfl

theorem un_ok (hS : SRel O I A w) {op : UnOp} {a v : AV} (h : evUn op a = some v) {va : Value} (hv : VRel O I w a va) : OpOk P O I A w (do pure (.value (← Op.unary op va))) v A := by
  unfold evUn at h
  split at h
  · cases h
    rw [rel_bool hv]
    exact .quiet hS rfl (.bool _)
  · cases h
    rw [rel_int hv]
    refine .quiet hS ?_ (.int _ _)
    rfl
  · cases h

theorem cvt_ok (hS : SRel O I A w) {src dst : TypeId} {d : TypeDesc} {k : IntKind} (hs : P.underlying src = some d) (hd : P.underlying dst = some (.int k)) {k' : IntKind} {n : Int} {va : Value} (hv : VRel O I w (.int k' n) va) :
    OpOk P O I A w (do pure (.value (← convert src dst va))) (.int k (k.wrap n)) A := by
  rw [rel_int hv]
  refine .quiet hS ?_ (.int _ _)
  simp only [convert, Sem.run_bind, run_underlying hs, run_underlying hd, Result.andThen_ok]
  cases d <;> rfl

theorem faddr_ok (hS : SRel O I A w) {T : TypeId} {fs : Array Field} {n : Nat} {f : Field} {i : TypeInfo} (ht : P.underlying T = some (.struct fs)) (hf : fs[n]? = some f) (hi : P.info? f.type = some i) (hp : i.size ≠ 0)
    {a v : AV} {va : Value} (hv : VRel O I w a va)
    (ha : (∃ id ver ix off, a = .ptr id ver ix off ∧ v = .ptr id ver ix (off + f.offset)) ∨ (∃ cs off, a = .rp cs off ∧ v = .rp cs (off + f.offset))) :
    OpOk P O I A w (do pure (.value (← Instr.fieldAt T va n))) v A := by
  have key : ∀ (ad : Addr), va = .pointer (some ad) → (Instr.fieldAt T va n).run P w = .ok (.pointer (some (ad.add f.offset))) w := by
    intro ad e
    subst e
    simp [Instr.fieldAt, run_underlying ht, hf, Instr.sureAddr, fieldPlace, sizeOf, typeInfo, hi, hp]
  rcases ha with ⟨id, ver, ix, off, rfl, rfl⟩ | ⟨cs, off, rfl, rfl⟩
  · cases hv with
    | ptr _ _ _ _ ad bi hi' hvv hp' =>
      refine .quiet hS (key _ rfl) (.ptr _ _ _ _ _ bi hi' hvv (fun e => ?_))
      rw [hp' e, Addr.add_lit, Nat.add_assoc]
  · cases hv with
    | rp _ _ b o vals hb hlt hc hvv h1 =>
      have := key _ rfl
      rw [Addr.add_lit, Nat.add_assoc] at this
      exact .quiet hS this (.rp _ _ b o vals hb hlt hc hvv h1)

theorem fld_ok (hS : SRel O I A w) {T : TypeId} {fs : Array Field} {n : Nat} {f : Field} {agg : Bool} {sz : Nat} (ht : P.underlying T = some (.struct fs)) (hf : fs[n]? = some f) (hl : LoadT P f.type agg sz)
    (h1 : agg = false → sz = 1) {cs : List AV} {va : Value} (hv : VRel O I w (.agg cs) va) {v : AV} (h : loadFrom agg sz f.offset cs = some v) : OpOk P O I A w (do pure (.value (← Instr.field T va n))) v A := by
  obtain ⟨d, i, hd, hi, hs, ha⟩ := hl
  cases hv with
  | agg _ vl hlen hr ho =>
    unfold loadFrom at h
    split at h
    · rename_i hle
      have hR : VRels O I w ((cs.drop f.offset).take sz) ((vl.drop f.offset).take sz) := vrels_take (vrels_drop ⟨hlen, hr⟩ _) _
      have h5 : ∀ u ∈ (vl.drop f.offset).take sz, u.oneCell' = true := fun u hu => ho u (List.mem_of_mem_drop (List.mem_of_mem_take hu))
      have hpart : ∀ u, ((agg = true ∧ u = .agg ((vl.drop f.offset).take sz).toArray) ∨ (agg = false ∧ (vl.drop f.offset).take sz = [u])) → (Instr.field T (.agg vl.toArray) n).run P w = .ok u w := by
        intro u hu
        rcases hu with ⟨hg, rfl⟩ | ⟨hg, hu⟩
        · have : (vl.toArray.extract f.offset (f.offset + sz)) = ((vl.drop f.offset).take sz).toArray := by simp [List.extract_toArray]
          simp [Instr.field, run_underlying ht, hf, asAgg, part, run_isAgg hd, ← ha, hg, sizeOf, typeInfo, hi, hs, this]
        · have e1 : vl[f.offset]? = some u := by
            have : ((vl.drop f.offset).take sz)[0]? = some u := by rw [hu]; rfl
            rw [List.getElem?_take, if_pos (by have := h1 hg; omega), List.getElem?_drop] at this
            simpa using this
          simp [Instr.field, run_underlying ht, hf, asAgg, part, run_isAgg hd, ← ha, hg, e1]
      rcases mkEl_rel h hR h5 with ⟨hg, hr'⟩ | ⟨hg, u, hu, hr'⟩
      · exact .quiet hS (hpart _ (.inl ⟨hg, rfl⟩)) hr'
      · exact .quiet hS (hpart u (.inr ⟨hg, hu⟩)) hr'
    · cases h

/-! ### indexes -/

theorem run_indexAt_slice {T e : TypeId} {i : TypeInfo} (ht : P.underlying T = some (.slice e)) (hi : P.info? e = some i) {a : Addr} {len cap : Nat} {k : IntKind} {n : Int} (h0 : 0 ≤ n) (h1 : n < len) :
    (Instr.indexAt T (.slice (some a) len cap) (.int k n)).run P w = .ok (.pointer (some (a.add (n.toNat * i.size)))) w := by
  simp [Instr.indexAt, asIntOf, run_underlying ht, h0, h1, sizeOf, typeInfo, hi]

theorem run_indexAt_array {T e : TypeId} {len : Nat} {i : TypeInfo} (ht : P.underlying T = some (.array len e)) (hi : P.info? e = some i) {a : Addr} {k : IntKind} {n : Int} (h0 : 0 ≤ n) (h1 : n < len) :
    (Instr.indexAt T (.pointer (some a)) (.int k n)).run P w = .ok (.pointer (some (a.add (n.toNat * i.size)))) w := by
  simp [Instr.indexAt, asIntOf, run_underlying ht, Instr.sureAddr, h0, h1, sizeOf, typeInfo, hi]

theorem iaddr_ok (hS : SRel O I A w) {T e : TypeId} {i : TypeInfo} (ht : P.underlying T = some (.slice e)) (hi : P.info? e = some i) {id sz ver off len : Nat} {va : Value} (hv : VRel O I w (.sl id sz ver off len) va)
    (hsz : sz = i.size) {k : IntKind} {n : Int} (h0 : 0 ≤ n) (h1 : n < len) {vn : Value} (hn : VRel O I w (.int k n) vn) :
    OpOk P O I A w (do pure (.value (← Instr.indexAt T va vn))) (.ptr id ver (off + n.toNat) 0) A := by
  rw [rel_int hn]
  cases hv with
  | sl _ _ _ _ _ ad c bi hi' hvv hs hl hh =>
    refine .quiet hS (run_indexAt_slice ht hi h0 h1) (.ptr _ _ _ _ _ bi hi' hvv (fun e => ?_))
    obtain ⟨hc, had⟩ := hh e
    rw [had (by omega), Addr.add_lit, hs, hsz, Nat.add_mul, Nat.add_zero]

theorem iaddrR_ok (hS : SRel O I A w) {T e : TypeId} {i : TypeInfo} (ht : P.underlying T = some (.slice e)) (hi : P.info? e = some i) {p nil : Bool} {sz : Nat} {xs : List AV} {va : Value} (hv : VRel O I w (.lst p sz nil xs) va)
    (hsz : sz = i.size) {k : IntKind} {n : Int} (h0 : 0 ≤ n) {x : AV} (hx : xs[n.toNat]? = some x) {vn : Value} (hn : VRel O I w (.int k n) vn) :
    OpOk P O I A w (do pure (.value (← Instr.indexAt T va vn))) (.rp (cellsOf x) 0) A := by
  rw [rel_int hn]
  have hlt := (List.getElem?_eq_some_iff.1 hx).1
  cases hv with
  | lstn p sz => simp at hx
  | lst _ _ _ a c vals hp hcap ha hu hc hvv h1 =>
    have hne : xs ≠ [] := by rintro rfl; simp at hx
    obtain ⟨a1, a2, a3, a4⟩ := ha hne
    have hcx := hu x (List.mem_of_getElem? hx)
    have hfl := flatE_length hu
    have hmul : (n.toNat + 1) * sz ≤ xs.length * sz := Nat.mul_le_mul_right _ hlt
    rw [Nat.add_mul] at hmul
    have haddr : a.add (n.toNat * i.size) = ⟨a.block, a.off + n.toNat * sz, none⟩ := by
      cases a with
      | mk ab ao as =>
        simp at a1
        subst a1 hsz
        exact Addr.add_lit _ _ _
    have := run_indexAt_slice (P := P) (w := w) ht hi (a := a) (len := xs.length) (cap := c) (k := k) h0 (by omega)
    rw [haddr] at this
    refine .quiet hS this ?_
    have hget : ∀ (j : Nat) (hj : j < (cellsOf x).length), ∃ h : n.toNat * sz + j < (flatE xs).length, (flatE xs)[n.toNat * sz + j] = (cellsOf x)[j] := by
      intro j hj
      have hlt' : n.toNat * sz + j < (flatE xs).length := by omega
      have hg := flatE_get hu hx j (by omega)
      rw [List.getElem?_eq_getElem hlt', List.getElem?_eq_getElem hj] at hg
      exact ⟨hlt', Option.some.inj hg⟩
    have hR := VRel.rp (O := O) (I := I) (w := w) (cellsOf x) 0 a.block (a.off + n.toNat * sz) (fun j => vals (n.toNat * sz + j)) a2 a3 (fun j hj => ?_) (fun j hj => ?_) (fun j hj => ?_)
    · exact hR
    · have := hc (n.toNat * sz + j) (by omega)
      rwa [← Nat.add_assoc] at this
    · obtain ⟨h2, h3⟩ := hget j hj
      rw [← h3]
      exact hvv _ h2
    · exact h1 _ (by omega)

theorem iaddrA_ok (hS : SRel O I A w) {T e : TypeId} {len : Nat} {i : TypeInfo} (ht : P.underlying T = some (.array len e)) (hi : P.info? e = some i) {a v : AV} {va : Value} (hv : VRel O I w a va) {k : IntKind} {n : Int} (h0 : 0 ≤ n) (h1 : n < len)
    {vn : Value} (hn : VRel O I w (.int k n) vn)
    (ha : (∃ id ver ix off, a = .ptr id ver ix off ∧ v = .ptr id ver ix (off + n.toNat * i.size)) ∨ (∃ cs off, a = .rp cs off ∧ v = .rp cs (off + n.toNat * i.size))) :
    OpOk P O I A w (do pure (.value (← Instr.indexAt T va vn))) v A := by
  rw [rel_int hn]
  rcases ha with ⟨id, ver, ix, off, rfl, rfl⟩ | ⟨cs, off, rfl, rfl⟩
  · cases hv with
    | ptr _ _ _ _ ad bi hi' hvv hp =>
      refine .quiet hS (run_indexAt_array ht hi h0 h1) (.ptr _ _ _ _ _ bi hi' hvv (fun e => ?_))
      rw [hp e, Addr.add_lit, Nat.add_assoc]
  · cases hv with
    | rp _ _ b o vals hb hlt hc hvv h1' =>
      have := run_indexAt_array (P := P) (w := w) ht hi (a := ⟨b, o + off, none⟩) (k := k) h0 h1
      rw [Addr.add_lit, Nat.add_assoc] at this
      exact .quiet hS this (.rp _ _ b o vals hb hlt hc hvv h1')

theorem idxS_ok (hS : SRel O I A w) {T : TypeId} (ht : P.underlying T = some .string) {s : List UInt8} {va vn : Value} (hv : VRel O I w (.str s) va) {k : IntKind} {n : Int} (hn : VRel O I w (.int k n) vn) (h0 : 0 ≤ n) {b : UInt8}
    (hb : s[n.toNat]? = some b) : OpOk P O I A w (do pure (.value (← Instr.index T va vn))) (.int .u8 b.toNat) A := by
  rw [rel_int hn, rel_str hv]
  refine .quiet hS ?_ (.int _ _)
  have : (⟨s.toArray⟩ : ByteArray)[n.toNat]? = some b := by
    obtain ⟨h1, rfl⟩ := List.getElem?_eq_some_iff.1 hb
    rw [getElem?_pos (⟨s.toArray⟩ : ByteArray) n.toNat (by simpa [ByteArray.size] using h1)]
    rfl
  simp [Instr.index, asIntOf, run_underlying ht, h0, this]

end
end Go.Ev
end

section
/- Single operations, sixth part: cuts of slices, tuples, function values, lengths. -/
set_option linter.unusedVariables false
set_option linter.unusedSimpArgs false
namespace Go.Ev

section
variable {P : Program} {O : Nat → Prop} {I : Info} {A : Heap} {w : World}

theorem idxA_ok (hS : SRel O I A w) {T e : TypeId} {len : Nat} {agg : Bool} {sz : Nat} (ht : P.underlying T = some (.array len e)) (hl : LoadT P e agg sz) (h1 : agg = false → sz = 1)
    {cs : List AV} {va vn : Value} (hv : VRel O I w (.agg cs) va) {k : IntKind} {n : Int} (hn : VRel O I w (.int k n) vn) (h0 : 0 ≤ n) (hlt : n < len) {v : AV} (h : loadFrom agg sz (n.toNat * sz) cs = some v) :
    OpOk P O I A w (do pure (.value (← Instr.index T va vn))) v A := by
  obtain ⟨d, i, hd, hi, hs, ha⟩ := hl
  rw [rel_int hn]
  cases hv with
  | agg _ vl hlen hr ho =>
    unfold loadFrom at h
    split at h
    · rename_i hle
      have hR : VRels O I w ((cs.drop (n.toNat * sz)).take sz) ((vl.drop (n.toNat * sz)).take sz) := vrels_take (vrels_drop ⟨hlen, hr⟩ _) _
      have h5 : ∀ u ∈ (vl.drop (n.toNat * sz)).take sz, u.oneCell' = true := fun u hu => ho u (List.mem_of_mem_drop (List.mem_of_mem_take hu))
      have hpart : ∀ u, ((agg = true ∧ u = .agg ((vl.drop (n.toNat * sz)).take sz).toArray) ∨ (agg = false ∧ (vl.drop (n.toNat * sz)).take sz = [u])) → (Instr.index T (.agg vl.toArray) (.int k n)).run P w = .ok u w := by
        intro u hu
        rcases hu with ⟨hg, rfl⟩ | ⟨hg, hu⟩
        · have : (vl.toArray.extract (n.toNat * sz) (n.toNat * sz + sz)) = ((vl.drop (n.toNat * sz)).take sz).toArray := by simp [List.extract_toArray]
          simp [Instr.index, asIntOf, run_underlying ht, h0, hlt, part, run_isAgg hd, ← ha, hg, sizeOf, typeInfo, hi, hs, this]
        · have e1 : vl[n.toNat * sz]? = some u := by
            have : ((vl.drop (n.toNat * sz)).take sz)[0]? = some u := by rw [hu]; rfl
            rw [List.getElem?_take, if_pos (by have := h1 hg; omega), List.getElem?_drop] at this
            simpa using this
          simp [Instr.index, asIntOf, run_underlying ht, h0, hlt, part, run_isAgg hd, ← ha, hg, sizeOf, typeInfo, hi, hs, e1]
      rcases mkEl_rel h hR h5 with ⟨hg, hr'⟩ | ⟨hg, u, hu, hr'⟩
      · exact .quiet hS (hpart _ (.inl ⟨hg, rfl⟩)) hr'
      · exact .quiet hS (hpart u (.inr ⟨hg, hu⟩)) hr'
    · cases h

/-- A bound, as the model has it. -/
def BoundRel (b : Option Int) (v : Option Value) : Prop :=
  match b, v with
  | none, none => True
  | some n, some u => ∃ k, u = .int k n
  | _, _ => False

theorem run_sliceBounds (isSlice : Bool) {len cap : Nat} {lo hi : Option Int} {vlo vhi : Option Value} (h1 : BoundRel lo vlo) (h2 : BoundRel hi vhi) (hc : len ≤ cap) {l h : Int} (e1 : l = lo.getD 0) (e2 : h = hi.getD len)
    (h0 : 0 ≤ l) (hlh : l ≤ h) (hcap : h ≤ cap) :
    (Instr.sliceBounds isSlice len cap vlo vhi none).run P w = .ok (l.toNat, h.toNat, cap) w := by
  have hh : 0 ≤ h := by omega
  have m1 : max h 0 = h := by omega
  cases hi with
  | none =>
    cases vhi with
    | some u => exact h2.elim
    | none =>
      simp at e2
      subst e2
      cases lo with
      | none =>
        cases vlo with
        | some u => exact h1.elim
        | none =>
          simp at e1
          subst e1
          simp [Instr.sliceBounds]
      | some n =>
        cases vlo with
        | none => exact h1.elim
        | some u =>
          obtain ⟨k, rfl⟩ := h1
          simp at e1
          subst e1
          simp [Instr.sliceBounds, Instr.sliceBound, asIntOf, h0, hlh]
  | some m =>
    cases vhi with
    | none => exact h2.elim
    | some u =>
      obtain ⟨k, rfl⟩ := h2
      simp at e2
      subst e2
      cases lo with
      | none =>
        cases vlo with
        | some u => exact h1.elim
        | none =>
          simp at e1
          subst e1
          simp [Instr.sliceBounds, Instr.sliceBound, asIntOf, hh, hcap]
      | some n =>
        cases vlo with
        | none => exact h1.elim
        | some u =>
          obtain ⟨k', rfl⟩ := h1
          simp at e1
          subst e1
          simp [Instr.sliceBounds, Instr.sliceBound, asIntOf, hh, hcap, h0, m1, hlh]

theorem run_sliceBounds3 {len cap : Nat} {lo hi : Option Int} {vlo vhi : Option Value} (h1 : BoundRel lo vlo) (h2 : BoundRel hi vhi) (hs : hi.isSome = true) {l h q : Int} {km : IntKind} (e1 : l = lo.getD 0) (e2 : h = hi.getD len)
    (h0 : 0 ≤ l) (hlh : l ≤ h) (hq : h ≤ q) (hcap : q ≤ cap) :
    (Instr.sliceBounds true len cap vlo vhi (some (.int km q))).run P w = .ok (l.toNat, h.toNat, q.toNat) w := by
  have hh : 0 ≤ h := by omega
  have hq0 : 0 ≤ q := by omega
  have m1 : max h 0 = h := by omega
  have m2 : max q 0 = q := by omega
  cases hi with
  | none => cases hs
  | some m =>
    cases vhi with
    | none => exact h2.elim
    | some u =>
      obtain ⟨k, rfl⟩ := h2
      simp at e2
      subst e2
      cases lo with
      | none =>
        cases vlo with
        | some u => exact h1.elim
        | none =>
          simp at e1
          subst e1
          simp [Instr.sliceBounds, Instr.sliceBound, asIntOf, hh, hcap, hq0, hq, m1, m2]
      | some n =>
        cases vlo with
        | none => exact h1.elim
        | some u =>
          obtain ⟨k', rfl⟩ := h1
          simp at e1
          subst e1
          simp [Instr.sliceBounds, Instr.sliceBound, asIntOf, hh, hcap, hq0, hq, h0, m1, m2, hlh]

theorem run_slice_of {T e : TypeId} {i : TypeInfo} (ht : P.underlying T = some (.slice e)) (hi : P.info? e = some i) {a : Option Addr} {len cap l h m : Nat} {lo hi' mx : Option Value}
    (hb : (Instr.sliceBounds true len cap lo hi' mx).run P w = .ok (l, h, m) w) :
    (Instr.sliceAt T (.slice a len cap) lo hi' mx).run P w = .ok (.slice (if m = l then a else a.map (·.add (l * i.size))) (h - l) (m - l)) w := by
  simp [Instr.sliceAt, Instr.slice, run_underlying ht, hb, sizeOf, typeInfo, hi]

theorem slc_ok (hS : SRel O I A w) {T e : TypeId} {i : TypeInfo} (ht : P.underlying T = some (.slice e)) (hi : P.info? e = some i) {id sz ver off len : Nat} {va : Value} (hv : VRel O I w (.sl id sz ver off len) va)
    (hsz : sz = i.size) {lo hi' : Option Int} {vlo vhi : Option Value} (h1 : BoundRel lo vlo) (h2 : BoundRel hi' vhi)
    {l h : Int} (e1 : l = lo.getD 0) (e2 : h = hi'.getD len) (h0 : 0 ≤ l) (hlh : l ≤ h) (hcap : hiOk A id ver off len h = true) :
    OpOk P O I A w (do pure (.value (← Instr.sliceAt T va vlo vhi none))) (.sl id sz ver (off + l.toNat) (h.toNat - l.toNat)) A := by
  cases hv with
  | sl _ _ _ _ _ ad c bi hbi hvv hs hl hh =>
    have hhc : h ≤ c := by
      unfold hiOk at hcap
      simp only [Bool.or_eq_true, decide_eq_true_eq] at hcap
      rcases hcap with hcap | hcap
      · omega
      · split at hcap
        · rename_i b hb
          simp only [Bool.and_eq_true, beq_iff_eq, decide_eq_true_eq] at hcap
          have hB := hS.blk id b bi hb hbi
          have h1 := hB.n
          have h2 := hB.cap
          obtain ⟨hc, _⟩ := hh (by omega)
          omega
        · cases hcap
    have hrun := run_slice_of (P := P) (w := w) ht hi (a := some ad) (run_sliceBounds (P := P) (w := w) true h1 h2 (len := len) (cap := c) hl e1 e2 h0 hlh (by omega))
    by_cases hm : c = l.toNat
    · rw [if_pos hm] at hrun
      refine .quiet hS hrun (.sl _ _ _ _ _ _ _ bi hbi hvv hs (by omega) (fun e => ?_))
      obtain ⟨hc, had⟩ := hh e
      exact ⟨by omega, fun hlt => by omega⟩
    · rw [if_neg hm] at hrun
      refine .quiet hS hrun (.sl _ _ _ _ _ _ _ bi hbi hvv hs (by omega) (fun e => ?_))
      obtain ⟨hc, had⟩ := hh e
      refine ⟨by omega, fun hlt => ?_⟩
      rw [had (by omega)]
      show (⟨bi.r, off * bi.sz, none⟩ : Addr).add (l.toNat * i.size) = _
      rw [Addr.add_lit, hs, hsz, Nat.add_mul]

theorem slcJ_ok (hS : SRel O I A w) {T e : TypeId} {i : TypeInfo} (ht : P.underlying T = some (.slice e)) (hi : P.info? e = some i) {va : Value} {len cap : Nat} {a : Option Addr} (hv : va = .slice a len cap)
    {lo hi' : Option Int} {vlo vhi : Option Value} (h1 : BoundRel lo vlo) (h2 : BoundRel hi' vhi) (hs : hi'.isSome = true)
    {l h q : Int} {km : IntKind} (e1 : l = lo.getD 0) (e2 : h = hi'.getD len) (h0 : 0 ≤ l) (hlh : l ≤ h) (hq : h ≤ q) (hcap : q ≤ cap) :
    OpOk P O I A w (do pure (.value (← Instr.sliceAt T va vlo vhi (some (.int km q))))) .junk A := by
  subst hv
  exact .quiet hS (run_slice_of (P := P) (w := w) ht hi (run_sliceBounds3 (P := P) (w := w) h1 h2 hs e1 e2 h0 hlh hq hcap)) (.junk _)

theorem flatE_seg {sz : Nat} {xs : List AV} (h : ∀ e ∈ xs, (cellsOf e).length = sz) (l n : Nat) : flatE ((xs.drop l).take n) = ((flatE xs).drop (l * sz)).take (n * sz) := by
  rw [flatE_take (fun e he => h e (List.mem_of_mem_drop he)), flatE_drop h]

theorem permAll_seg {xs : List AV} (h : permAll xs = true) (l n : Nat) : permAll ((xs.drop l).take n) = true := by
  unfold permAll at h ⊢
  rw [List.all_eq_true] at h ⊢
  exact fun x hx => h x (List.mem_of_mem_drop (List.mem_of_mem_take hx))

theorem lst_seg {p : Bool} {sz : Nat} {xs : List AV} {a : Addr} {c : Nat} (hv : VRel O I w (.lst p sz false xs) (.slice (some a) xs.length c)) {l h : Nat} (hlh : l ≤ h) (hh : h ≤ xs.length) :
    VRel O I w (.lst p sz false ((xs.drop l).take (h - l))) (.slice (if c = l then some a else (some a).map (·.add (l * sz))) (h - l) (c - l)) := by
  cases hv with
  | lst _ _ _ _ _ vals hp hcap ha hu hc hvv h1 =>
    have hlen : ((xs.drop l).take (h - l)).length = h - l := by simp; omega
    have hfl := flatE_length hu
    have hmul : h * sz ≤ xs.length * sz := Nat.mul_le_mul_right _ hh
    have hadd : l * sz + (h - l) * sz = h * sz := by rw [← Nat.add_mul]; congr 1; omega
    by_cases hm : c = l
    · have e : (xs.drop l).take (h - l) = [] := by
        have : h - l = 0 := by omega
        rw [this]; rfl
      have := VRel.lst (O := O) (I := I) (w := w) p sz [] a (c - l) vals (fun _ => rfl) (by simp) (fun h => absurd rfl h) (by simp) (by simp [flatE]) (by simp [flatE]) (by simp [flatE])
      rw [e, if_pos hm]
      have e2 : h - l = 0 := by omega
      rw [e2]
      simpa using this
    · rw [if_neg hm]
      by_cases hne : xs = []
      · subst hne
        have e2 : h - l = 0 := by simp at hh; omega
        have := VRel.lst (O := O) (I := I) (w := w) p sz [] (a.add (l * sz)) (c - l) vals (fun _ => rfl) (by simp) (fun h => absurd rfl h) (by simp) (by simp [flatE]) (by simp [flatE]) (by simp [flatE])
        rw [e2]
        simpa using this
      · obtain ⟨a1, a2, a3, a4⟩ := ha hne
        have haddr : a.add (l * sz) = ⟨a.block, a.off + l * sz, none⟩ := by
          cases a with
          | mk ab ao as =>
            simp at a1
            subst a1
            exact Addr.add_lit _ _ _
        have hfe := flatE_seg hu l (h - l)
        have hR := VRel.lst (O := O) (I := I) (w := w) p sz ((xs.drop l).take (h - l)) ⟨a.block, a.off + l * sz, none⟩ (c - l) (fun k => vals (l * sz + k)) (fun hpp => permAll_seg (hp hpp) _ _) (by rw [hlen]; omega)
          (fun _ => ⟨rfl, a2, a3, a4⟩) (fun x hx => hu x (List.mem_of_mem_drop (List.mem_of_mem_take hx))) (fun k hk => ?_) (fun k hk => ?_) (fun k hk => ?_)
        · rw [hlen] at hR
          simpa [haddr] using hR
        · rw [hfe] at hk
          simp at hk
          have := hc (l * sz + k) (by omega)
          rwa [← Nat.add_assoc] at this
        · rw [hfe] at hk
          simp at hk
          have := hvv (l * sz + k) (by omega)
          have e : (flatE ((xs.drop l).take (h - l)))[k]? = (flatE xs)[l * sz + k]? := by
            rw [hfe, List.getElem?_take, if_pos (by omega), List.getElem?_drop]
          rw [List.getElem?_eq_getElem (by rw [hfe]; simp; omega), List.getElem?_eq_getElem (by omega)] at e
          rw [Option.some.inj e]
          exact this
        · rw [hfe] at hk
          simp at hk
          exact h1 _ (by omega)

theorem slcR_ok (hS : SRel O I A w) {T e : TypeId} {i : TypeInfo} (ht : P.underlying T = some (.slice e)) (hi : P.info? e = some i) {p nil : Bool} {sz : Nat} {xs : List AV} {va : Value} (hv : VRel O I w (.lst p sz nil xs) va)
    (hsz : sz = i.size ∨ xs = []) {lo hi' : Option Int} {vlo vhi : Option Value} (h1 : BoundRel lo vlo) (h2 : BoundRel hi' vhi)
    {l h : Int} (e1 : l = lo.getD 0) (e2 : h = hi'.getD xs.length) (h0 : 0 ≤ l) (hlh : l ≤ h) (hcap : h ≤ xs.length) :
    OpOk P O I A w (do pure (.value (← Instr.sliceAt T va vlo vhi none))) (.lst p sz nil ((xs.drop l.toNat).take (h.toNat - l.toNat))) A := by
  cases hv' : nil with
  | true =>
    subst hv'
    cases hv with
    | lstn p sz =>
      have : l = 0 ∧ h = 0 := by simp at hcap; omega
      obtain ⟨rfl, rfl⟩ := this
      have hrun := run_slice_of (P := P) (w := w) ht hi (a := none) (run_sliceBounds (P := P) (w := w) true h1 h2 (len := 0) (cap := 0) (by omega) e1 e2 h0 hlh (by omega))
      exact .quiet hS hrun (by simpa using VRel.lstn p sz)
  | false =>
    subst hv'
    have hvc := hv
    cases hv with
    | lst _ _ _ a c vals hp hcap' ha hu hc hvv h1' =>
      have hrun := run_slice_of (P := P) (w := w) ht hi (a := some a) (run_sliceBounds (P := P) (w := w) true h1 h2 (len := xs.length) (cap := c) hcap' e1 e2 h0 hlh (by omega))
      refine .quiet hS hrun ?_
      have := lst_seg hvc (l := l.toNat) (h := h.toNat) (by omega) (by omega)
      rcases hsz with hsz | hsz
      · rw [← hsz]
        exact this
      · subst hsz
        have hz : h = 0 ∧ l = 0 := by simp at hcap; omega
        obtain ⟨rfl, rfl⟩ := hz
        have key : ∀ (ad : Addr) (cc : Nat), VRel O I w (.lst p sz false []) (.slice (some ad) 0 cc) := fun ad cc =>
          VRel.lst (O := O) (I := I) (w := w) p sz [] ad cc vals (fun _ => rfl) (by simp) (fun h => absurd rfl h) (by simp) (by simp [flatE]) (by simp [flatE]) (by simp [flatE])
        by_cases hc0 : c = Int.toNat 0
        · rw [if_pos hc0]
          exact key _ _
        · rw [if_neg hc0]
          exact key _ _

theorem slcS_ok (hS : SRel O I A w) {T : TypeId} (ht : P.underlying T = some .string) {s : List UInt8} {va : Value} (hv : VRel O I w (.str s) va) {lo hi' : Option Int} {vlo vhi : Option Value} (h1 : BoundRel lo vlo) (h2 : BoundRel hi' vhi)
    {l h : Int} (e1 : l = lo.getD 0) (e2 : h = hi'.getD s.length) (h0 : 0 ≤ l) (hlh : l ≤ h) (hcap : h ≤ s.length) :
    OpOk P O I A w (do pure (.value (← Instr.sliceAt T va vlo vhi none))) (.str ((s.drop l.toNat).take (h.toNat - l.toNat))) A := by
  rw [rel_str hv]
  have hb := run_sliceBounds (P := P) (w := w) false h1 h2 (len := s.length) (cap := s.length) (Nat.le_refl _) e1 e2 h0 hlh hcap
  have hrun : (Instr.sliceAt T (.string ⟨s.toArray⟩) vlo vhi none).run P w = .ok (.string ((⟨s.toArray⟩ : ByteArray).extract l.toNat h.toNat)) w := by
    simp [Instr.sliceAt, Instr.slice, run_underlying ht, ba_size, hb]
  refine .quiet hS hrun ?_
  have : ((⟨s.toArray⟩ : ByteArray).extract l.toNat h.toNat) = ⟨((s.drop l.toNat).take (h.toNat - l.toNat)).toArray⟩ := by
    apply ByteArray.ext
    simp [ByteArray.data_extract, List.extract_toArray]
  rw [this]
  exact .str _

theorem slcA_ok (hS : SRel O I A w) {T e : TypeId} {n : Nat} {i : TypeInfo} (ht : P.underlying T = some (.array n e)) (hi : P.info? e = some i) (hsz : i.size = 1) {cs : List AV} {va : Value} (hv : VRel O I w (.rp cs 0) va) (hlen : cs.length = n)
    (hone : ∀ c ∈ cs, (cellsOf c).length = 1)
    {lo hi' : Option Int} {vlo vhi : Option Value} (h1 : BoundRel lo vlo) (h2 : BoundRel hi' vhi)
    {l h : Int} (e1 : l = lo.getD 0) (e2 : h = hi'.getD n) (h0 : 0 ≤ l) (hlh : l ≤ h) (hcap : h ≤ n) :
    OpOk P O I A w (do pure (.value (← Instr.sliceAt T va vlo vhi none))) (.lst false 1 false ((cs.drop l.toNat).take (h.toNat - l.toNat))) A := by
  cases hv with
  | rp _ _ b o vals hb hlt hc hvv h1' =>
    have hbs := run_sliceBounds (P := P) (w := w) false h1 h2 (len := n) (cap := n) (Nat.le_refl _) e1 e2 h0 hlh hcap
    have hrun : (Instr.sliceAt T (.pointer (some ⟨b, o + 0, none⟩)) vlo vhi none).run P w = .ok (.slice (some (if n = l.toNat then ⟨b, o + 0, none⟩ else (⟨b, o + 0, none⟩ : Addr).add (l.toNat * i.size))) (h.toNat - l.toNat) (n - l.toNat)) w := by
      simp [Instr.sliceAt, run_underlying ht, Instr.sureAddr, hbs, sizeOf, typeInfo, hi]
    refine .quiet hS hrun ?_
    have hl2 : ((cs.drop l.toNat).take (h.toNat - l.toNat)).length = h.toNat - l.toNat := by simp; omega
    have hflat : ∀ (xs : List AV), (∀ c ∈ xs, (cellsOf c).length = 1) → (∀ c ∈ xs, ∃ v, VRel O I w c v ∧ v.oneCell' = true) → flatE xs = xs := by
      intro xs
      induction xs with
      | nil => intro _ _; rfl
      | cons x r ih =>
        intro hx1 hx2
        have e : cellsOf x = [x] := by
          obtain ⟨v, hv, ho⟩ := hx2 x (by simp)
          cases hv <;> first | rfl | (simp [Value.oneCell'] at ho)
        have := ih (fun c hc => hx1 c (by simp [hc])) (fun c hc => hx2 c (by simp [hc]))
        simp only [flatE, List.flatMap_cons, e] at this ⊢
        rw [this]
        rfl
    have hmem : ∀ c ∈ (cs.drop l.toNat).take (h.toNat - l.toNat), ∃ v, VRel O I w c v ∧ v.oneCell' = true := by
      intro c hcm
      obtain ⟨j, hj, rfl⟩ := List.getElem_of_mem (List.mem_of_mem_drop (List.mem_of_mem_take hcm))
      exact ⟨_, hvv j hj, h1' j hj⟩
    have hfl := hflat _ (fun c hcm => hone c (List.mem_of_mem_drop (List.mem_of_mem_take hcm))) hmem
    have hR := VRel.lst (O := O) (I := I) (w := w) false 1 ((cs.drop l.toNat).take (h.toNat - l.toNat)) (if n = l.toNat then ⟨b, o + 0, none⟩ else (⟨b, o + 0, none⟩ : Addr).add (l.toNat * i.size)) (n - l.toNat) (fun k => vals (l.toNat + k))
      (fun h => by cases h) (by rw [hl2]; omega) (fun hne => ?_) (fun c hcm => hone c (List.mem_of_mem_drop (List.mem_of_mem_take hcm))) (fun k hk => ?_) (fun k hk => ?_) (fun k hk => ?_)
    · rw [hl2] at hR
      exact hR
    · split
      · exact ⟨rfl, hb, hlt, fun h => by cases h⟩
      · rw [Addr.add_lit]
        exact ⟨rfl, hb, hlt, fun h => by cases h⟩
    · rw [hfl, hl2] at hk
      have := hc (l.toNat + k) (by omega)
      have hn : ¬ n = l.toNat := by omega
      rw [if_neg hn, Addr.add_lit, hsz, Nat.mul_one, Nat.add_zero, Nat.add_assoc]
      exact this
    · have hk2 := hk
      rw [hfl, hl2] at hk2
      have e : (flatE ((cs.drop l.toNat).take (h.toNat - l.toNat)))[k]? = cs[l.toNat + k]? := by
        rw [hfl, List.getElem?_take, if_pos hk2, List.getElem?_drop]
      rw [List.getElem?_eq_getElem hk, List.getElem?_eq_getElem (by omega)] at e
      rw [Option.some.inj e]
      exact hvv _ (by omega)
    · rw [hfl, hl2] at hk
      exact h1' _ (by omega)

/-! ### the rest -/

theorem ext_ok (hS : SRel O I A w) {vs : List AV} {va : Value} (hv : VRel O I w (.tup vs) va) {n : Nat} {v : AV} (h : vs[n]? = some v) : OpOk P O I A w (do pure (.value (← Instr.extract va n))) v A := by
  obtain ⟨hlt, rfl⟩ := List.getElem?_eq_some_iff.1 h
  cases hv with
  | tup _ vl hl hr =>
    have hlt' : n < vl.length := by omega
    have := hr n hlt
    rw [List.getD_eq_getElem?_getD, List.getElem?_eq_getElem hlt'] at this
    exact .quiet hS (by simp [Instr.extract, hlt']) this

theorem mkif_ok (hS : SRel O I A w) {T : TypeId} {d : TypeDesc} (ht : P.underlying T = some d) (hd : ∀ ms, d ≠ .interface ms) {a : AV} {va : Value} (hv : VRel O I w a va) : OpOk P O I A w (do pure (.value (← Instr.makeInterface T va))) (.iface T a) A := by
  refine .quiet hS ?_ (.iface T a va hv)
  cases d <;> first | (simp [Instr.makeInterface, run_underlying ht]; done) | exact absurd rfl (hd _)

theorem len_ok (hS : SRel O I A w) {T : TypeId} {d : TypeDesc} (ht : P.underlying T = some d) (hd : d = .string ∨ ∃ e, d = .slice e) {ty : TypeId} {a : AV} {n : Nat} {va : Value} (hv : VRel O I w a va)
    (ha : (∃ p sz nil xs, a = .lst p sz nil xs ∧ n = xs.length ∧ d ≠ .string) ∨ (∃ s, a = .str s ∧ n = s.length ∧ d = .string) ∨ (∃ id sz ver off, a = .sl id sz ver off n ∧ d ≠ .string)) :
    OpOk P O I A w (do pure (.value (← Builtin.len_ #[T] ty #[va]))) (.int .i64 n) A := by
  have key : ∀ (ad : Option Addr) (c : Nat), va = .slice ad n c → d ≠ .string → (Builtin.len_ #[T] ty #[va]).run P w = .ok (.int .i64 n) w := by
    intro ad c e hne
    subst e
    rcases hd with h | ⟨e', h⟩
    · exact absurd h hne
    · subst h
      simp [Builtin.len_, run_underlying ht, goInt]
  rcases ha with ⟨p, sz, nil, xs, rfl, rfl, hne⟩ | ⟨s, rfl, rfl, rfl⟩ | ⟨id, sz, ver, off, rfl, hne⟩
  · cases hv with
    | lstn => exact .quiet hS (key none 0 rfl hne) (.int _ _)
    | lst _ _ _ ad c => exact .quiet hS (key (some ad) c rfl hne) (.int _ _)
  · rw [rel_str hv]
    exact .quiet hS (by simp [Builtin.len_, run_underlying ht, goInt, ba_size]) (.int _ _)
  · cases hv with
    | sl _ _ _ _ _ ad c => exact .quiet hS (key (some ad) c rfl hne) (.int _ _)

end
end Go.Ev
end

section
/- Single operations, seventh part: append, copy, clear, min and max. -/
set_option linter.unusedVariables false
set_option linter.unusedSimpArgs false
namespace Go.Ev

section
variable {P : Program} {O : Nat → Prop} {I : Info} {A : Heap} {w : World}

theorem one_cell {c : AV} {v : Value} (h : VRel O I w c v) (ho : v.oneCell' = true) : cellsOf c = [c] := by
  cases h <;> first | rfl | (simp [Value.oneCell'] at ho)

theorem flatE_bytes (s : List UInt8) : flatE (s.map fun b => AV.int .u8 (b.toNat : Int)) = s.map fun b => AV.int .u8 (b.toNat : Int) := by
  induction s with
  | nil => rfl
  | cons b r ih => simp only [flatE, List.map_cons, List.flatMap_cons] at ih ⊢; rw [ih]; rfl

/-- A slice or a string that is read as a whole. -/
theorem src_ok (hS : SRel O I A w) {sz : Nat} {x : AV} {xs : List AV} {v : Value} (he : elemsOf A x = some xs) (hz : szOk sz x = true) (hv : VRel O I w x v) :
    ∃ news : List Value, (Builtin.lenOf v).run P w = .ok xs.length w ∧ VRels O I w (flatE xs) news ∧ (∀ u ∈ news, u.oneCell' = true) ∧ (∀ e ∈ xs, (cellsOf e).length = sz) ∧
      (∀ (w2 : World) (n : Nat), (∀ a, w2.cell? a = w.cell? a) → n ≤ xs.length → (Builtin.firstCells sz n v).run P w2 = .ok (news.take (n * sz)).toArray w2) := by
  unfold elemsOf at he
  split at he
  · rename_i p s nil ys
    injection he with he
    subst he
    cases hv with
    | lstn => exact ⟨[], rfl, ⟨rfl, fun i hi => by simp [flatE] at hi⟩, by simp, by simp, fun w2 n _ _ => by rw [run_firstCells_none]; simp⟩
    | lst _ _ _ a c vals hp hcap ha hu hc hvv h1 =>
      have hsz : ys = [] ∨ s = sz := by
        simp only [szOk, Bool.or_eq_true, List.isEmpty_iff, beq_iff_eq] at hz
        exact hz
      refine ⟨(List.range (flatE ys).length).map vals, rfl, ⟨by simp, fun k hk => by simpa [hk] using hvv k hk⟩, fun u hu => ?_, ?_, fun w2 n hw hn => ?_⟩
      · obtain ⟨k, hk, rfl⟩ := List.mem_map.1 hu
        exact h1 k (by simpa using hk)
      · rcases hsz with rfl | rfl
        · simp
        · exact hu
      · have hfl := flatE_length hu
        rcases hsz with rfl | rfl
        · have : n = 0 := by simpa using hn
          subst this
          exact run_firstCells_some (P := P) w2 sz 0 a 0 c _ (by simp) (by simp)
        · have hmul : n * s ≤ ys.length * s := Nat.mul_le_mul_right _ hn
          refine run_firstCells_some (P := P) w2 s n a ys.length c _ (by simp; omega) (fun j u hj => ?_)
          have hj' : j < n * s ∧ j < (flatE ys).length := by have := (List.getElem?_eq_some_iff.1 hj).1; simp at this; omega
          have hne : ys ≠ [] := by rintro rfl; simp [flatE] at hj'
          obtain ⟨a1, _⟩ := ha hne
          have haddr : a.add j = ⟨a.block, a.off + j, none⟩ := by
            cases a with
            | mk ab ao as =>
              simp at a1
              subst a1
              exact Addr.add_lit _ _ _
          rw [haddr, hw, hc j hj'.2]
          rw [List.getElem?_take, if_pos hj'.1] at hj
          simpa [hj'.2] using hj
  · rename_i id ssz ver off len
    split at he
    · rename_i b hb
      split at he
      · rename_i hcond
        obtain ⟨hver, hle⟩ := hcond
        cases he
        obtain ⟨bi, hbi, hB⟩ := hS.get hb
        obtain ⟨cs, hr, hs, hrow⟩ := hB.rows
        have hssz : ssz = sz := by simpa [szOk] using hz
        have hsz : b.sz = sz := by
          cases hv with
          | sl _ _ _ _ _ ad c bi' hi' hvv hs' =>
            rw [hbi] at hi'
            cases hi'
            rw [← hB.sz, hs', hssz]
        have hul : ∀ e ∈ (b.els.drop off).take len, (cellsOf e).length = sz := fun e he' => by rw [← hsz]; exact hB.uni e (List.mem_of_mem_drop (List.mem_of_mem_take he'))
        have hlen : ((b.els.drop off).take len).length = len := by simp; omega
        have hfe : flatE ((b.els.drop off).take len) = ((flatE b.els).drop (off * sz)).take (len * sz) := by rw [← hsz]; exact flatE_seg hB.uni off len
        have hfl := flatE_length hB.uni
        have hmul : (off + len) * b.sz ≤ b.els.length * b.sz := Nat.mul_le_mul_right _ (by omega)
        rw [Nat.add_mul, hsz] at hmul
        rw [hsz] at hfl
        have key : ∀ k, k < len * sz → ∃ u, cs[off * sz + k]? = some u ∧ (∀ hk : k < (flatE ((b.els.drop off).take len)).length, VRel O I w (flatE ((b.els.drop off).take len))[k] u) ∧ u.oneCell' = true := by
          intro k hk
          have hlt : off * sz + k < (flatE b.els).length := by omega
          obtain ⟨u, e1, r1, o1⟩ := hrow _ hlt
          refine ⟨u, e1, fun hk2 => ?_, o1⟩
          have e : (flatE ((b.els.drop off).take len))[k]? = (flatE b.els)[off * sz + k]? := by rw [hfe, List.getElem?_take, if_pos hk, List.getElem?_drop]
          rw [List.getElem?_eq_getElem hk2, List.getElem?_eq_getElem hlt] at e
          rw [Option.some.inj e]
          exact r1
        have hflen : (flatE ((b.els.drop off).take len)).length = len * sz := by rw [hfe]; simp; omega
        cases hv with
        | sl _ _ _ _ _ ad c bi' hi' hvv hs' hl' hh =>
          rw [hbi] at hi'
          cases hi'
          obtain ⟨hcc, had⟩ := hh (by rw [hB.n]; exact hver)
          refine ⟨(List.range (len * sz)).map fun k => cs.getD (off * sz + k) undef, by rw [hlen]; rfl, ⟨by simp [hflen], fun k hk => ?_⟩, fun u hu => ?_, hul, fun w2 n hw hn => ?_⟩
          · obtain ⟨u, e1, r1, _⟩ := key k (by omega)
            have hk' : k < len * sz := by omega
            simpa [hk', List.getD_eq_getElem?_getD, Array.getD_eq_getD_getElem?, e1] using r1 hk
          · obtain ⟨k, hk, rfl⟩ := List.mem_map.1 hu
            obtain ⟨u, e1, _, o1⟩ := key k (by simpa using hk)
            simpa [Array.getD_eq_getD_getElem?, e1] using o1
          · rw [hlen] at hn
            have hmul2 : n * sz ≤ len * sz := Nat.mul_le_mul_right _ hn
            refine run_firstCells_some (P := P) w2 sz n ad len _ _ (by rw [List.length_take, List.length_map, List.length_range]; omega) (fun j u hj => ?_)
            have hj' : j < n * sz := by have := (List.getElem?_eq_some_iff.1 hj).1; rw [List.length_take, List.length_map, List.length_range] at this; omega
            have hpos : 0 < len := by
              rcases Nat.eq_zero_or_pos len with h0 | h0
              · subst h0; simp at hmul2; omega
              · exact h0
            have hcp := hB.cap
            rw [had (by omega), Addr.add_lit, hw, cell_row hr, hB.sz, hsz]
            obtain ⟨u', e1, _, _⟩ := key j (by omega)
            rw [List.getElem?_take, if_pos hj'] at hj
            have hj2 : j < len * sz := by omega
            rw [e1]
            simpa [hj2, Array.getD_eq_getD_getElem?, e1] using hj
      · cases he
    · cases he
  · rename_i s
    cases he
    have hsz : sz = 1 := by simpa [szOk] using hz
    subst hsz
    rw [rel_str hv]
    refine ⟨s.map fun b => .int .u8 b.toNat, by simp [Builtin.lenOf, ba_size], ?_, ?_, ?_, fun w2 n hw hn => ?_⟩
    · rw [flatE_bytes]
      refine ⟨by simp, fun i hi => ?_⟩
      have hi' : i < s.length := by simpa using hi
      simp [List.getD_eq_getElem?_getD, hi']
      exact .int _ _
    · intro u hu
      obtain ⟨b, _, rfl⟩ := List.mem_map.1 hu
      rfl
    · intro e he'
      obtain ⟨b, _, rfl⟩ := List.mem_map.1 he'
      rfl
    · simp [Builtin.firstCells, ByteArray.data_extract, List.extract_toArray, List.map_take]
  · cases he

def AppT (P : Program) (U : TypeId) : Prop := P.underlying U = some .string ∨ ∃ e, P.underlying U = some (.slice e)

theorem run_append_fit {T U e : TypeId} {i : TypeInfo} (ht : P.underlying T = some (.slice e)) (hu : AppT P U) (hi : P.info? e = some i) {ty : TypeId} {base : Option Addr} {sLen sCap n : Nat} {v : Value} {new : List Value} {w' : World}
    (hlen : (Builtin.lenOf v).run P w = .ok n w) (hf : (Builtin.firstCells i.size n v).run P w = .ok new.toArray w) (hroom : sLen + n ≤ sCap)
    (hst : ∀ a, base = some a → (storeCells (a.add (sLen * i.size)) new).run P w = .ok () w') (hno : base = none → w' = w) :
    (Builtin.append_ #[T, U] ty #[.slice base sLen sCap, v]).run P w = .ok (.slice base (sLen + n) sCap) w' := by
  cases base with
  | none =>
    have := hno rfl
    subst this
    rcases hu with hu | ⟨e', hu⟩ <;> simp [Builtin.append_, run_underlying ht, run_underlying hu, sizeOf, typeInfo, hi, hlen, hroom, hf]
  | some a =>
    have hst' := hst a rfl
    rcases hu with hu | ⟨e', hu⟩ <;> simp [Builtin.append_, run_underlying ht, run_underlying hu, sizeOf, typeInfo, hi, hlen, hroom, hf, hst']

theorem run_append_more {T U e : TypeId} {i : TypeInfo} {z : Value} (ht : P.underlying T = some (.slice e)) (hu : AppT P U) (hi : P.info? e = some i) (hz : i.zero = some z) {ty : TypeId} {base : Option Addr} {sLen sCap n : Nat} {v : Value} {old new : List Value}
    (hlen : (Builtin.lenOf v).run P w = .ok n w) (hg : sCap < sLen + n) (hb : (sLen + n) * i.bytes ≤ 140737488355328) (h63 : sLen + n ≤ 9223372036854775807)
    (hfo : (Builtin.firstCells i.size sLen (.slice base sLen sCap)).run P w.drew = .ok old.toArray w.drew) (hf : (Builtin.firstCells i.size n v).run P w.drew = .ok new.toArray w.drew) :
    (Builtin.append_ #[T, U] ty #[.slice base sLen sCap, v]).run P w = .ok (.slice (some ⟨w.heap.size, 0, none⟩) (sLen + n) (grownCap w (sLen + n) sCap e))
      (w.drew.alloc (.cells (old.toArray ++ (new.toArray ++ Builtin.zeroCells z.cells (grownCap w (sLen + n) sCap e - (sLen + n)))) e)) := by
  have hn : ¬ (sLen + n ≤ sCap) := by omega
  have h63' : ¬ (9223372036854775807 < ((sLen : Int) + (n : Int))) := by omega
  have hfit := growslice_fits hg hb
  have h48' : ¬ (281474976710656 < Builtin.nextslicecap (sLen + n) sCap * i.bytes) := by omega
  rcases hu with hu | ⟨e', hu⟩ <;> simp [Builtin.append_, run_underlying ht, run_underlying hu, sizeOf, typeInfo, zeroValue, hi, hz, hlen, hn, h63', h48', Question.forced, hf, hfo, newRow, grownCap]

end
end Go.Ev
end

section
/- Single operations, eighth part: append, copy, clear, min and max, at the state. -/
set_option linter.unusedVariables false
set_option linter.unusedSimpArgs false
namespace Go.Ev

section
variable {P : Program} {O : Nat → Prop} {I : Info} {A : Heap} {w : World}

theorem uni_append {xs ys : List AV} {sz : Nat} (h : ∀ e ∈ xs, (cellsOf e).length = sz) (k : ∀ e ∈ ys, (cellsOf e).length = sz) : ∀ e ∈ xs ++ ys, (cellsOf e).length = sz := by
  intro e he
  rcases List.mem_append.1 he with h1 | h1
  · exact h e h1
  · exact k e h1

theorem uni_take {xs : List AV} {sz n : Nat} (h : ∀ e ∈ xs, (cellsOf e).length = sz) : ∀ e ∈ xs.take n, (cellsOf e).length = sz := fun e he => h e (List.mem_of_mem_take he)
theorem uni_drop {xs : List AV} {sz n : Nat} (h : ∀ e ∈ xs, (cellsOf e).length = sz) : ∀ e ∈ xs.drop n, (cellsOf e).length = sz := fun e he => h e (List.mem_of_mem_drop he)

theorem set_self {A : Heap} {id : Nat} {b : Blk} (h : A[id]? = some b) : A.set id b = A := by
  apply List.ext_getElem?
  intro j
  rw [List.getElem?_set]
  split
  · rename_i e
    subst e
    rw [h, if_pos (List.getElem?_eq_some_iff.1 h).1]
  · rfl

theorem elems_sl {A : Heap} {id sz ver off len : Nat} {b : Blk} (hb : A[id]? = some b) (hver : ver = b.els.length) (hle : off + len ≤ ver) : elemsOf A (.sl id sz ver off len) = some ((b.els.drop off).take len) := by
  simp [elemsOf, hb, ← hver, hle]

/-- A piece of an own block is overwritten. -/
theorem over_ok (hS : SRel O I A w) {id : Nat} {b : Blk} {bi : BI} (hb : A[id]? = some b) (hbi : I[id]? = some bi) {p : Nat} {ys : List AV} {vs : List Value} (hu : ∀ e ∈ ys, (cellsOf e).length = b.sz) (hle : p + ys.length ≤ b.els.length)
    (hy : VRels O I w (flatE ys) vs) (h1 : ∀ v ∈ vs, v.oneCell' = true) :
    ∃ I' w', (∀ i, (storeCells ⟨bi.r, p * b.sz + i, none⟩ [] 0).run P w = .ok () w) ∧ (storeCells ⟨bi.r, p * b.sz, none⟩ vs).run P w = .ok () w' ∧
      SRel O I' (A.set id ⟨b.ty, b.sz, b.els.take p ++ ys ++ b.els.drop (p + ys.length)⟩) w' ∧ Ext I w I' w' ∧ I'[id]? = some bi := by
  have hB := hS.blk id b bi hb hbi
  obtain ⟨cs, hr, hs, hrow⟩ := hB.rows
  have hfl := flatE_length hB.uni
  have hys := flatE_length hu
  have hmul : (p + ys.length) * b.sz ≤ b.els.length * b.sz := Nat.mul_le_mul_right _ hle
  rw [Nat.add_mul] at hmul
  have hcap : b.els.length * b.sz ≤ bi.cap * b.sz := Nat.mul_le_mul_right _ hB.cap
  have hvl : vs.length = ys.length * b.sz := by rw [hy.1, hys]
  have hrun := run_storeCells_at P bi.r (p * b.sz) b.ty vs 0 cs w hr (by omega) h1
  simp only [Nat.add_zero] at hrun
  have hflat : flatE (b.els.take p ++ ys ++ b.els.drop (p + ys.length)) = (flatE b.els).take (p * b.sz) ++ flatE ys ++ (flatE b.els).drop (p * b.sz + (flatE ys).length) := by
    rw [flatE_append, flatE_append, flatE_take hB.uni, flatE_drop hB.uni, hys, Nat.add_mul]
  have hlen : (b.els.take p ++ ys ++ b.els.drop (p + ys.length)).length = b.els.length := by simp; omega
  have hseg := rowRel_seg hrow (by omega) hflat hy h1
  have hup := upd_own (els := b.els.take p ++ ys ++ b.els.drop (p + ys.length)) (cs := (cs.toList.take (p * b.sz) ++ vs ++ cs.toList.drop (p * b.sz + vs.length)).toArray) (r := bi.r) (cap := bi.cap)
    (w' := w.setRow bi.r (cs.toList.take (p * b.sz) ++ vs ++ cs.toList.drop (p * b.sz + vs.length)).toArray) hS hb hbi rfl rfl rfl (by rw [setRow_size]; exact Nat.le_refl _) (fun k _ hk => setRow_old k hk) (.inl rfl)
    (setRow_heap w bi.r cs _ b.ty (0, 0) hr) (by rw [List.size_toArray, ← hs, List.length_append, List.length_append, List.length_take, List.length_drop, Array.length_toList]; omega) hB.capm
    (uni_append (uni_append (uni_take hB.uni) hu) (uni_drop hB.uni)) (by rw [hlen]; exact hB.cap) hseg (by omega) (fun _ => ⟨rfl, rfl⟩)
  have hbie : (⟨bi.r, (b.els.take p ++ ys ++ b.els.drop (p + ys.length)).length, b.sz, bi.cap⟩ : BI) = bi := by
    have e1 := hB.n
    have e2 := hB.sz
    cases bi
    simp_all
  refine ⟨_, _, fun i => rfl, hrun, hup.1, hup.2, ?_⟩
  rw [List.getElem?_set, if_pos rfl, if_pos (List.getElem?_eq_some_iff.1 hbi).1, hbie]

theorem append_in (hS : SRel O I A w) {T U e : TypeId} {i : TypeInfo} (ht : P.underlying T = some (.slice e)) (hu : AppT P U) (hi : P.info? e = some i) {ty : TypeId}
    {id sz ver off len : Nat} {va : Value} (hv : VRel O I w (.sl id sz ver off len) va) {b : Blk} (hb : A[id]? = some b) (hver : ver = b.els.length) (hssz : sz = i.size)
    {x : AV} {xs : List AV} {vx : Value} (hx : VRel O I w x vx) (he : elemsOf A x = some xs) (hz : szOk i.size x = true) (hle : off + len + xs.length ≤ ver) :
    OpOk P O I A w (do pure (.value (← Builtin.append_ #[T, U] ty #[va, vx]))) (.sl id sz ver off (len + xs.length)) (A.set id ⟨b.ty, b.sz, b.els.take (off + len) ++ xs ++ b.els.drop (off + len + xs.length)⟩) := by
  obtain ⟨bi, hbi, hB⟩ := hS.get hb
  have hsz : b.sz = i.size := by
    cases hv with
    | sl _ _ _ _ _ ad c bi' hi' hvv hs' =>
      rw [hbi] at hi'
      cases hi'
      rw [← hB.sz, hs', hssz]
  obtain ⟨news, hlen, hnews, h1, hun, hfc⟩ := src_ok (P := P) hS he hz hx
  have hf := hfc w xs.length (fun _ => rfl) (Nat.le_refl _)
  have hnl : news.take (xs.length * i.size) = news := by
    apply List.take_of_length_le
    rw [hnews.1, flatE_length hun]
    exact Nat.le_refl _
  rw [hnl] at hf
  have hcp := hB.cap
  cases hv with
  | sl _ _ _ _ _ ad cc bi' hi' hvv hs' hl' hh =>
    rw [hbi] at hi'
    cases hi'
    have hhc := hh
    obtain ⟨rfl, had⟩ := hh (by rw [hB.n]; exact hver)
    obtain ⟨I', w', _, hst, hS', hE', hI'⟩ := over_ok (P := P) hS hb hbi (p := off + len) (by rw [hsz]; exact hun) (by omega) hnews h1
    by_cases h0 : xs.length = 0
    · have hxs : xs = [] := List.length_eq_zero_iff.1 h0
      subst hxs
      have hnn : news = [] := by have := hnews.1; simp [flatE] at this; exact this
      subst hnn
      have e1 : (⟨b.ty, b.sz, b.els.take (off + len) ++ [] ++ b.els.drop (off + len + ([] : List AV).length)⟩ : Blk) = b := by simp
      rw [e1, set_self hb]
      have hrun := run_append_fit (P := P) (w := w) (w' := w) ht hu hi (ty := ty) (base := some ad) (sLen := len) (sCap := bi.cap - off) hlen hf (by simp at hle ⊢; omega) (fun a _ => rfl) (fun h => by cases h)
      exact .quiet hS hrun (.sl _ _ _ _ _ _ _ bi hbi hvv hs' (by simpa using hl') (fun _ => ⟨rfl, had⟩))
    · have hoff : off < bi.cap := by omega
      have hadd := had hoff
      subst hadd
      have hrun := run_append_fit (P := P) (w := w) (w' := w') ht hu hi (ty := ty) (base := some ⟨bi.r, off * bi.sz, none⟩) (sLen := len) (sCap := bi.cap - off) hlen hf (by omega)
        (fun a ha => by
          cases ha
          rw [Addr.add_lit, hB.sz, ← hsz, ← Nat.add_mul]
          exact hst) (fun h => by cases h)
      refine .val hrun ?_ hS' hE'
      exact .sl _ _ _ _ _ _ _ bi hI' hvv hs' (by omega) (fun _ => ⟨rfl, fun _ => rfl⟩)

theorem append_out (hS : SRel O I A w) {T U e : TypeId} {i : TypeInfo} {z : Value} {zc : AV} (ht : P.underlying T = some (.slice e)) (hu : AppT P U) (hi : P.info? e = some i) (hzv : i.zero = some z) (hc : cVal z = some zc)
    (hst : storable zc = true) (hzs : (cellsOf zc).length = i.size) {ty : TypeId}
    {id sz ver len : Nat} {va : Value} (hv : VRel O I w (.sl id sz ver 0 len) va) {b : Blk} (hb : A[id]? = some b) (hver : ver = b.els.length) (hl : len = ver) (hssz : sz = i.size) (hty : b.ty = e)
    {x : AV} {xs : List AV} {vx : Value} (hx : VRel O I w x vx) (he : elemsOf A x = some xs) (hz : szOk i.size x = true) (hpos : 0 < xs.length) (hbytes : (len + xs.length) * i.bytes ≤ 140737488355328)
    (h63 : len + xs.length ≤ 9223372036854775807) :
    OpOk P O I A w (do pure (.value (← Builtin.append_ #[T, U] ty #[va, vx]))) (.sl id sz (ver + xs.length) 0 (len + xs.length)) (A.set id ⟨b.ty, b.sz, b.els ++ xs⟩) := by
  obtain ⟨bi, hbi, hB⟩ := hS.get hb
  have hsz : b.sz = i.size := by
    cases hv with
    | sl _ _ _ _ _ ad c bi' hi' hvv hs' =>
      rw [hbi] at hi'
      cases hi'
      rw [← hB.sz, hs', hssz]
  obtain ⟨news, hlen, hnews, h1, hun, hfc⟩ := src_ok (P := P) hS he hz hx
  have hnl : news.take (xs.length * i.size) = news := by
    apply List.take_of_length_le
    rw [hnews.1, flatE_length hun]
    exact Nat.le_refl _
  obtain ⟨cs, hr, hs, hrow⟩ := hB.rows
  have hfl := flatE_length hB.uni
  have hnlen : news.length = xs.length * i.size := by rw [hnews.1, flatE_length hun]
  have hcp := hB.cap
  have hmulc : b.els.length * b.sz ≤ bi.cap * b.sz := Nat.mul_le_mul_right _ hcp
  have hflat : flatE (b.els ++ xs) = (flatE b.els).take (b.els.length * b.sz) ++ flatE xs ++ (flatE b.els).drop (b.els.length * b.sz + (flatE xs).length) := by
    rw [flatE_append, List.take_of_length_le (by omega), List.drop_eq_nil_of_le (by omega), List.append_nil]
  have huni : ∀ y ∈ b.els ++ xs, (cellsOf y).length = b.sz := uni_append hB.uni (by rw [hsz]; exact hun)
  have hlen' : (b.els ++ xs).length = b.els.length + xs.length := by simp
  cases hv with
  | sl _ _ _ _ _ ad cc bi' hi' hvv hs' hl' hh =>
    rw [hbi] at hi'
    cases hi'
    have hhc := hh
    obtain ⟨rfl, had⟩ := hh (by rw [hB.n]; exact hver)
    by_cases hroom : len + xs.length ≤ bi.cap
    · have hf := hfc w xs.length (fun _ => rfl) (Nat.le_refl _)
      rw [hnl] at hf
      have hadd := had (by omega)
      subst hadd
      have hmulr : (len + xs.length) * b.sz ≤ bi.cap * b.sz := Nat.mul_le_mul_right _ hroom
      rw [Nat.add_mul, hl, hver, hsz] at hmulr
      rw [hsz] at hs hmulc
      have hrun0 := run_storeCells_at P bi.r (b.els.length * b.sz) b.ty news 0 cs w hr (by rw [hs, hsz]; omega) h1
      simp only [Nat.add_zero] at hrun0
      have hrun := run_append_fit (P := P) (w := w) ht hu hi (ty := ty) (base := some ⟨bi.r, 0 * bi.sz, none⟩) (sLen := len) (sCap := bi.cap - 0) hlen hf (by omega)
        (fun a ha => by
          cases ha
          rw [Addr.add_lit, hl, hver, ← hsz, Nat.zero_mul, Nat.zero_add]
          exact hrun0) (fun h => by cases h)
      have hseg := rowRel_seg hrow (by omega) hflat hnews h1
      have hup := upd_own (els := b.els ++ xs) (cs := (cs.toList.take (b.els.length * b.sz) ++ news ++ cs.toList.drop (b.els.length * b.sz + news.length)).toArray) (r := bi.r) (cap := bi.cap)
        (w' := w.setRow bi.r (cs.toList.take (b.els.length * b.sz) ++ news ++ cs.toList.drop (b.els.length * b.sz + news.length)).toArray) hS hb hbi rfl rfl rfl (by rw [setRow_size]; exact Nat.le_refl _) (fun k _ hk => setRow_old k hk) (.inl rfl)
        (setRow_heap w bi.r cs _ b.ty (0, 0) hr) (by rw [List.size_toArray, hsz, ← hs, List.length_append, List.length_append, List.length_take, List.length_drop, Array.length_toList]; omega) hB.capm
        huni (by rw [hlen']; omega) hseg (by omega) (fun _ => ⟨rfl, rfl⟩)
      refine .val hrun ?_ hup.1 hup.2
      refine .sl _ _ _ _ _ _ _ ⟨bi.r, (b.els ++ xs).length, b.sz, bi.cap⟩ ?_ (by rw [hlen', hver]; exact Nat.le_refl _) (by rw [hssz]; exact hsz) (by omega) (fun _ => ⟨rfl, fun _ => by rw [hB.sz]⟩)
      rw [List.getElem?_set, if_pos rfl, if_pos (List.getElem?_eq_some_iff.1 hbi).1]
    · have hf := hfc w.drew xs.length (fun _ => rfl) (Nat.le_refl _)
      rw [hnl] at hf
      obtain ⟨olds, ho1, ho2, ho3, ho4, ho5⟩ := src_ok (P := P) hS (x := .sl id sz ver 0 len) (xs := b.els) (sz := i.size) (v := .slice (some ad) len (bi.cap - 0))
        (by rw [elems_sl hb hver (by omega), List.drop_zero, List.take_of_length_le (by omega)]) (by simp [szOk, hssz]) (.sl _ _ _ _ _ _ _ bi hbi hvv hs' hl' hhc)
      have hfo := ho5 w.drew len (fun _ => rfl) (by omega)
      have holl : olds.length = len * i.size := by rw [ho2.1, flatE_length ho4, hl, hver]
      rw [List.take_of_length_le (by omega)] at hfo
      have hrun := run_append_more (P := P) (w := w) ht hu hi hzv (ty := ty) (base := some ad) (sLen := len) (sCap := bi.cap - 0) hlen (by omega) hbytes h63 hfo hf
      have hge := grownCap_ge w (len + xs.length) (bi.cap - 0) e
      have hlem := grownCap_le_maxLen w (len + xs.length) (bi.cap - 0) e (by unfold maxLen; omega)
      have hzsz : z.cells.size = i.size := by rw [(rel_cells (cVal_rel (O := O) (I := I) (w := w) hc) hst).1]; exact hzs
      have hall : VRels O I w (flatE (b.els ++ xs)) (olds ++ news) := by rw [flatE_append]; exact vrels_append ho2 hnews
      have hrow' := rowRel_of (els := b.els ++ xs) (rest := (Builtin.zeroCells z.cells (grownCap w (len + xs.length) (bi.cap - 0) e - (len + xs.length))).toList) hall (fun v hv => by
        rcases List.mem_append.1 hv with h | h
        · exact ho3 v h
        · exact h1 v h)
      have ecs : ((olds ++ news) ++ (Builtin.zeroCells z.cells (grownCap w (len + xs.length) (bi.cap - 0) e - (len + xs.length))).toList).toArray =
          olds.toArray ++ (news.toArray ++ Builtin.zeroCells z.cells (grownCap w (len + xs.length) (bi.cap - 0) e - (len + xs.length))) := by
        apply Array.ext'
        simp
      rw [ecs] at hrow'
      have hup := upd_own (els := b.els ++ xs) (cs := olds.toArray ++ (news.toArray ++ Builtin.zeroCells z.cells (grownCap w (len + xs.length) (bi.cap - 0) e - (len + xs.length)))) (r := w.heap.size) (cap := grownCap w (len + xs.length) (bi.cap - 0) e)
        (w' := w.drew.alloc (.cells (olds.toArray ++ (news.toArray ++ Builtin.zeroCells z.cells (grownCap w (len + xs.length) (bi.cap - 0) e - (len + xs.length)))) e)) hS hb hbi rfl rfl rfl
        (by show w.heap.size ≤ (w.heap.push _).size; simp) (fun k hk _ => heap_push_old w _ k hk) (.inr ⟨Nat.le_refl _, by show w.heap.size < (w.heap.push _).size; simp⟩)
        (by rw [hty]; show (w.heap.push _)[w.heap.size]? = _; simp)
        (by
          simp only [Array.size_append, List.size_toArray, size_zeroCells, hzsz, holl, hnlen, hsz, ← Nat.add_mul]
          congr 1
          omega)
        (by unfold maxLen at hlem; omega) huni (by rw [hlen']; omega) hrow' (by omega) (fun h => by rw [hlen'] at h; omega)
      refine .val hrun ?_ hup.1 hup.2
      refine .sl _ _ _ _ _ _ _ ⟨w.heap.size, (b.els ++ xs).length, b.sz, grownCap w (len + xs.length) (bi.cap - 0) e⟩ ?_ (by rw [hlen', hver]; exact Nat.le_refl _) (by rw [hssz]; exact hsz) hge (fun _ => ⟨by simp, fun _ => by simp⟩)
      rw [List.getElem?_set, if_pos rfl, if_pos (List.getElem?_eq_some_iff.1 hbi).1]

/-- Nothing is appended to a slice that is only read. -/
theorem append_none (hS : SRel O I A w) {T U e : TypeId} {i : TypeInfo} (ht : P.underlying T = some (.slice e)) (hu : AppT P U) (hi : P.info? e = some i) {ty : TypeId} {p nil : Bool} {sz : Nat} {ys : List AV} {va : Value} (hv : VRel O I w (.lst p sz nil ys) va)
    {x : AV} {vx : Value} (hx : VRel O I w x vx) (he : elemsOf A x = some []) (hz : szOk i.size x = true) :
    OpOk P O I A w (do pure (.value (← Builtin.append_ #[T, U] ty #[va, vx]))) (.lst p sz nil ys) A := by
  obtain ⟨news, hlen, hnews, h1, hun, hfc⟩ := src_ok (P := P) hS he hz hx
  have hf := hfc w 0 (fun _ => rfl) (Nat.le_refl _)
  have hvc := hv
  simp at hf
  cases hv with
  | lstn =>
    have hrun := run_append_fit (P := P) (w := w) (w' := w) ht hu hi (ty := ty) (base := none) (sLen := 0) (sCap := 0) (n := 0) (new := []) hlen (by simpa using hf) (by omega) (fun a h => by cases h) (fun _ => rfl)
    exact .quiet hS hrun hvc
  | lst _ _ _ a c vals hp hcap ha hu' hc hvv h1' =>
    have hrun := run_append_fit (P := P) (w := w) (w' := w) ht hu hi (ty := ty) (base := some a) (sLen := ys.length) (sCap := c) (n := 0) (new := []) hlen (by simpa using hf) (by omega) (fun a h => rfl) (fun h => by cases h)
    exact .quiet hS hrun hvc

/-- Something is appended to the nil slice. -/
theorem append_new (hS : SRel O I A w) {T U e : TypeId} {i : TypeInfo} {z : Value} {zc : AV} (ht : P.underlying T = some (.slice e)) (hu : AppT P U) (hi : P.info? e = some i) (hzv : i.zero = some z) (hc : cVal z = some zc)
    (hst : storable zc = true) (hzs : (cellsOf zc).length = i.size) (hpos : 0 < i.size) {ty : TypeId} {p : Bool} {sz : Nat} {va : Value} (hv : VRel O I w (.lst p sz true []) va)
    {x : AV} {xs : List AV} {vx : Value} (hx : VRel O I w x vx) (he : elemsOf A x = some xs) (hz : szOk i.size x = true) (hx0 : 0 < xs.length) (hbytes : xs.length * i.bytes ≤ 140737488355328) (h63 : xs.length ≤ 9223372036854775807) :
    OpOk P O I A w (do pure (.value (← Builtin.append_ #[T, U] ty #[va, vx]))) (.sl A.length i.size xs.length 0 xs.length) (A ++ [⟨e, i.size, xs⟩]) := by
  obtain ⟨news, hlen, hnews, h1, hun, hfc⟩ := src_ok (P := P) hS he hz hx
  have hf := hfc w.drew xs.length (fun _ => rfl) (Nat.le_refl _)
  have hnlen : news.length = xs.length * i.size := by rw [hnews.1, flatE_length hun]
  rw [List.take_of_length_le (by omega)] at hf
  cases hv with
  | lstn =>
    have hrun := run_append_more (P := P) (w := w) ht hu hi hzv (ty := ty) (base := none) (sLen := 0) (sCap := 0) (n := xs.length) (old := []) hlen (by omega) (by simpa using hbytes) (by omega) (by rw [run_firstCells_none]) hf
    simp only [Nat.zero_add] at hrun
    have hge := grownCap_ge w xs.length 0 e
    have hlem := grownCap_le_maxLen w xs.length 0 e (by unfold maxLen; omega)
    have hzsz : z.cells.size = i.size := by rw [(rel_cells (cVal_rel (O := O) (I := I) (w := w) hc) hst).1]; exact hzs
    have hrow' := rowRel_of (els := xs) (rest := (Builtin.zeroCells z.cells (grownCap w xs.length 0 e - xs.length)).toList) hnews h1
    have ecs : (news ++ (Builtin.zeroCells z.cells (grownCap w xs.length 0 e - xs.length)).toList).toArray = ([] : List Value).toArray ++ (news.toArray ++ Builtin.zeroCells z.cells (grownCap w xs.length 0 e - xs.length)) := by
      apply Array.ext'
      simp
    rw [ecs] at hrow'
    have hS' := SRel.push_own (ty := e) (cap := grownCap w xs.length 0 e) (els := xs) hS (w.drawn + 1) hpos hge (by unfold maxLen at hlem; omega) hun
      (by
        simp only [Array.size_append, List.size_toArray, size_zeroCells, hzsz, hnlen, List.length_nil, Nat.zero_add, ← Nat.add_mul]
        congr 1
        omega) hrow'
    refine .val hrun ?_ hS' (Ext.push_own I w _ (w.drawn + 1) _ rfl)
    refine .sl _ _ _ _ _ _ _ ⟨w.heap.size, xs.length, i.size, grownCap w xs.length 0 e⟩ ?_ (Nat.le_refl _) rfl hge (fun _ => ⟨by simp, fun _ => by simp⟩)
    rw [← hS.len, List.getElem?_append_right (Nat.le_refl _)]
    simp

theorem copy_ok (hS : SRel O I A w) {T U e : TypeId} {i : TypeInfo} (ht : P.underlying T = some (.slice e)) (hi : P.info? e = some i) {ty : TypeId}
    {id sz ver off len : Nat} {va : Value} (hv : VRel O I w (.sl id sz ver off len) va) {b : Blk} (hb : A[id]? = some b) (hver : ver = b.els.length) (hssz : sz = i.size) (hle : off + len ≤ ver)
    {x : AV} {xs : List AV} {vx : Value} (hx : VRel O I w x vx) (he : elemsOf A x = some xs) (hz : szOk i.size x = true) :
    OpOk P O I A w (do pure (.value (← Builtin.copy_ #[T, U] ty #[va, vx]))) (.int .i64 (min xs.length len : Nat)) (A.set id ⟨b.ty, b.sz, b.els.take off ++ xs.take len ++ b.els.drop (off + min xs.length len)⟩) := by
  obtain ⟨bi, hbi, hB⟩ := hS.get hb
  have hsz : b.sz = i.size := by
    cases hv with
    | sl _ _ _ _ _ ad c bi' hi' hvv hs' =>
      rw [hbi] at hi'
      cases hi'
      rw [← hB.sz, hs', hssz]
  obtain ⟨news, hlen, hnews, h1, hun, hfc⟩ := src_ok (P := P) hS he hz hx
  have hf := hfc w (min xs.length len) (fun _ => rfl) (Nat.min_le_left _ _)
  have hcp := hB.cap
  have htl : (xs.take len).length = min xs.length len := by rw [List.length_take, Nat.min_comm]
  have htk : xs.take len = xs.take (min xs.length len) := by
    rcases Nat.le_total len xs.length with h | h
    · rw [Nat.min_eq_right h]
    · rw [Nat.min_eq_left h, List.take_of_length_le h, List.take_of_length_le (Nat.le_refl _)]
  have hvr : VRels O I w (flatE (xs.take len)) (news.take (min xs.length len * i.size)) := by
    rw [htk, flatE_take hun]
    exact vrels_take hnews _
  have h1' : ∀ v ∈ news.take (min xs.length len * i.size), v.oneCell' = true := fun v hv => h1 v (List.mem_of_mem_take hv)
  cases hv with
  | sl _ _ _ _ _ ad cc bi' hi' hvv hs' hl' hh =>
    rw [hbi] at hi'
    cases hi'
    have hhc := hh
    obtain ⟨rfl, had⟩ := hh (by rw [hB.n]; exact hver)
    obtain ⟨I', w', _, hst, hS', hE', hI'⟩ := over_ok (P := P) hS hb hbi (p := off) (ys := xs.take len) (by rw [hsz]; exact uni_take hun) (by rw [htl]; omega) hvr h1'
    rw [htl] at hS'
    by_cases h0 : min xs.length len = 0
    · have e0 : Nat.min xs.length len = 0 := h0
      have hxs : xs.take len = [] := List.length_eq_zero_iff.1 (by rw [htl]; exact h0)
      have e1 : (⟨b.ty, b.sz, b.els.take off ++ xs.take len ++ b.els.drop (off + min xs.length len)⟩ : Blk) = b := by simp [hxs, h0]
      rw [e1, set_self hb, h0]
      refine .quiet hS ?_ (.int _ _)
      rw [h0] at hf
      simp at hf
      simp [Builtin.copy_, run_underlying ht, sizeOf, typeInfo, hi, hlen, e0, hf, storeCells, goInt]
    · have hadd := had (by omega)
      subst hadd
      rw [hB.sz]
      refine .val (u := .int .i64 (min xs.length len : Nat)) (w' := w') ?_ (.int _ _) hS' hE'
      have e2 : (Nat.min xs.length len) = min xs.length len := rfl
      simp [Builtin.copy_, run_underlying ht, sizeOf, typeInfo, hi, hlen, e2, hf, hst, goInt]

theorem clear_ok (hS : SRel O I A w) {T e : TypeId} {i : TypeInfo} {z : Value} {zc : AV} (ht : P.underlying T = some (.slice e)) (hi : P.info? e = some i) (hzv : i.zero = some z) (hc : cVal z = some zc)
    (hst : storable zc = true) (hzs : (cellsOf zc).length = i.size) {ty : TypeId}
    {id sz ver off len : Nat} {va : Value} (hv : VRel O I w (.sl id sz ver off len) va) {b : Blk} (hb : A[id]? = some b) (hver : ver = b.els.length) (hssz : sz = i.size) (hle : off + len ≤ ver) :
    OpOk P O I A w (do pure (.value (← Builtin.clear_ #[T] ty #[va]))) (.tup []) (A.set id ⟨b.ty, b.sz, b.els.take off ++ List.replicate len zc ++ b.els.drop (off + len)⟩) := by
  obtain ⟨bi, hbi, hB⟩ := hS.get hb
  have hsz : b.sz = i.size := by
    cases hv with
    | sl _ _ _ _ _ ad c bi' hi' hvv hs' =>
      rw [hbi] at hi'
      cases hi'
      rw [← hB.sz, hs', hssz]
  have hcp := hB.cap
  have hpos := hB.pos
  rw [hsz] at hpos
  obtain ⟨m1, m2⟩ := made_rel (cVal_rel (O := O) (I := I) (w := w) hc) hst hzs hpos len
  have hzsz : z.cells.size = i.size := by rw [(rel_cells (cVal_rel (O := O) (I := I) (w := w) hc) hst).1]; exact hzs
  have hun : ∀ y ∈ List.replicate len zc, (cellsOf y).length = b.sz := by rw [hsz]; exact uni_rep hzs
  cases hv with
  | sl _ _ _ _ _ ad cc bi' hi' hvv hs' hl' hh =>
    rw [hbi] at hi'
    cases hi'
    have hhc := hh
    obtain ⟨rfl, had⟩ := hh (by rw [hB.n]; exact hver)
    obtain ⟨I', w', _, hstr, hS', hE', hI'⟩ := over_ok (P := P) hS hb hbi (p := off) (ys := List.replicate len zc) hun (by simp; omega) m1 m2
    simp only [List.length_replicate] at hS'
    have hR : ∀ {I : Info} {w : World}, VRel O I w (.tup []) (.tuple #[]) := .tup [] [] rfl (fun i hi => by simp at hi)
    cases len with
    | zero =>
      have e1 : (⟨b.ty, b.sz, b.els.take off ++ List.replicate 0 zc ++ b.els.drop (off + 0)⟩ : Blk) = b := by simp
      rw [e1, set_self hb]
      refine .quiet hS (u := .tuple #[]) ?_ hR
      simp [Builtin.clear_, run_underlying ht]
    | succ n =>
      have hadd := had (by omega)
      subst hadd
      refine .val (u := .tuple #[]) (w' := w') ?_ hR hS' hE'
      have e3 : Builtin.zeroCells z.cells (n + 1) = madeCells z.cells ((n + 1) * i.size) := by simp [Builtin.zeroCells, madeCells, hzsz]
      rw [hB.sz]
      simp [Builtin.clear_, run_underlying ht, zeroValue, typeInfo, hi, hzv, e3, hstr]

theorem minmax_ok {mx : Bool} : ∀ (r : List AV) (x v : AV) (vx : Value) (vr : List Value), minmax mx x r = some v → VRel O I w x vx → VRels O I w r vr →
    ∃ u, (vr.foldlM (if mx then Builtin.max2 else Builtin.min2) vx).run P w = .ok u w ∧ VRel O I w v u
  | [], x, v, vx, vr, h, hx, hr => by
    have : vr = [] := by have := hr.1; simpa using this
    subst this
    simp only [minmax] at h
    cases h
    exact ⟨vx, rfl, hx⟩
  | y :: r, x, v, vx, vr, h, hx, hr => by
    cases vr with
    | nil => have := hr.1; simp at this
    | cons u vr =>
      unfold minmax at h
      split at h
      · rename_i e; cases e
      · rename_i k a k2 c r' e
        cases e
        have hu : VRel O I w (.int k2 c) u := by have := hr.2 0 (by simp); simpa using this
        have hr' : VRels O I w r vr := ⟨by have := hr.1; simpa using this, fun i hi => by have := hr.2 (i + 1) (by simpa using hi); simpa using this⟩
        rw [rel_int hx, rel_int hu]
        obtain ⟨u', h1, h2⟩ := minmax_ok r _ v _ vr h (.int _ _) hr'
        refine ⟨u', ?_, h2⟩
        rw [List.foldlM_cons]
        cases mx
        · simp only [Bool.false_eq_true, if_false] at h1 ⊢
          simp only [Builtin.min2, Sem.run_bind, Sem.run_pure, Result.andThen_ok]
          exact h1
        · simp only [if_true] at h1 ⊢
          simp only [Builtin.max2, Sem.run_bind, Sem.run_pure, Result.andThen_ok]
          exact h1
      · cases h

end
end Go.Ev
end
