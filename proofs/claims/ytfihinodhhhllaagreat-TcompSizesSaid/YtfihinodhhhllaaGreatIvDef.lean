/- Values, code and runs without memory: the words in which a Go function of this seat is told as a plain Lean function. -/
import Derived.Orders
import Derived.Below
import Derived.Tactics
import Derived.KernelRfl
set_option linter.unusedVariables false
set_option linter.unusedSimpArgs false
namespace Go.Proofs.YtfihinodhhhllaaGreat
open Go

/-- A value that is told without memory. -/
inductive AV where
  | any
  | undef
  | bool (b : Bool)
  | int (k : IntKind) (n : Int)
  | str (l : List UInt8)
  | nilp
  | nilm
  | agg (cs : List AV)
  | tup (vs : List AV)
  | sl (own : Bool) (sz : Nat) (els : List AV)
  | ptr (b off : Nat)
  | ep (x : AV) (off : Nat)
  | fn (f : Nat) (caps : List AV)
  | mp (b : Nat)
  | ms (b off n : Nat) (shape : Option Nat) (tight : Bool)
  deriving Inhabited

namespace AV
/-- The cells of a value. -/
def cells : AV → List AV
  | .agg cs => cs
  | x => [x]
mutual
/-- The same without the right to grow in place. -/
def erase : AV → AV
  | .agg cs => .agg (eraseL cs)
  | .tup vs => .tup (eraseL vs)
  | .sl _ sz els => .sl false sz els
  | x => x
def eraseL : List AV → List AV
  | [] => []
  | x :: l => erase x :: eraseL l
end
mutual
/-- One above the greatest box that is pointed at. -/
def bnd : AV → Nat
  | .agg cs => bndL cs
  | .tup vs => bndL vs
  | .sl _ _ els => bndL els
  | .ptr b _ => b + 1
  | .ep x _ => bnd x
  | .fn _ caps => bndL caps
  | .mp b => b + 1
  | .ms b _ _ _ _ => b + 1
  | _ => 0
def bndL : List AV → Nat
  | [] => 0
  | x :: l => max (bnd x) (bndL l)
end
end AV

/-- What stands in a box: cells; or it may not be looked into. -/
inductive Box where
  | hid
  | row (cs : List AV)
  | map (es : List (AV × AV))
  deriving Inhabited

abbrev Heap := List Box
abbrev Env := List (Nat × AV)

def Env.get : Env → Nat → AV
  | [], _ => .any
  | (d, v) :: e, t => if d = t then v else Env.get e t

/-- Operands: a constant; a slot that is copied; a slot that is used up. -/
inductive Od where
  | c (x : AV)
  | cp (t : Nat)
  | mv (t : Nat)
  deriving Inhabited

def Od.ev (e : Env) : Od → AV
  | .c x => x
  | .cp t => (e.get t).erase
  | .mv t => e.get t

/-- A slot that is used up keeps its value, but not the right to grow it in place. -/
def Od.used : Od → Env → Env
  | .mv t, e => (t, (e.get t).erase) :: e
  | _, e => e

inductive LOp where
  | mov (x : Od)
  | pick (c a b : Od)
  | alloc (k : Nat) (zs : List AV)
  | box (x : Od)
  | build (zs : List AV) (parts : List (Nat × Nat × Od))
  | bslice (sz : Nat) (zs : List AV) (parts : List (Nat × Od))
  | load (take : Bool) (n : Option Nat) (a : Od)
  | store (n : Option Nat) (a x : Od)
  | nilc (x : Od)
  | bin (op : BinOp) (x y : Od)
  | eqB (neg : Bool) (x y : Od)
  | strStr (x : Od)
  | un (op : UnOp) (x : Od)
  | conv (k : IntKind) (x : Od)
  | bytesStr (x : Od)
  | strBytes (x : Od)
  | slice (sz : Option Nat) (x : Od) (lo hi : Option Od)
  | faddr (x : Od) (off : Nat)
  | field (x : Od) (off : Nat) (n : Option Nat)
  | iaddr (sz : Nat) (len : Option Nat) (x i : Od)
  | idx (x i : Od)
  | ext (x : Od) (i : Nat)
  | call (f : Nat) (xs : List Od)
  | callv (f : Od) (xs : List Od)
  | len (str : Bool) (x : Od)
  | append (sz bytes : Nat) (x y : Od)
  | mkslice (shape : Option Nat) (bytes : Nat) (zs : List AV) (x y : Od)
  | copy (sz : Nat) (x y : Od)
  | appendS (x y : Od)
  | max2 (x y : Od)
  | min2 (x y : Od)
  | mkfn (f : Nat) (caps : List Od)
  deriving Inhabited

structure LO where
  dst : Option Nat
  op : LOp
  guard : Option (Nat × Bool)
  deriving Inhabited

inductive LCode where
  | skip
  | region (draw : Bool) (nal : Nat) (ops : List LO) (ups : List (Nat × Nat)) (keep : List Nat)
  | seq (a b : LCode)
  | cond (c : Od) (a b : LCode)
  | block (id : Nat) (b : LCode)
  | loop (b : LCode)
  | gc (b : LCode)
  | only (keep : List Nat) (b : LCode)
  | exit (id : Nat)
  | ret
  deriving Inhabited

inductive LRes where
  | tmp (t : Nat)
  | cell (t : Nat) (n : Option Nat)

structure LF where
  np : Nat
  body : LCode
  res : List LRes
  keepRes : Bool

/-! ### plain operations -/

def binI (op : BinOp) (k : IntKind) (a b : Int) : Option AV :=
  match op with
  | .add => some (.int k (k.wrap (a + b)))
  | .sub => some (.int k (k.wrap (a - b)))
  | .mul => some (.int k (k.wrap (a * b)))
  | .quo => if b = 0 then none else some (.int k (k.wrap (a.tdiv b)))
  | .rem => if b = 0 then none else some (.int k (a.tmod b))
  | .and => some (.int k (k.wrap (BitVec.ofInt k.bits a &&& BitVec.ofInt k.bits b).toNat))
  | .or => some (.int k (k.wrap (BitVec.ofInt k.bits a ||| BitVec.ofInt k.bits b).toNat))
  | .xor => some (.int k (k.wrap (BitVec.ofInt k.bits a ^^^ BitVec.ofInt k.bits b).toNat))
  | .andNot => some (.int k (k.wrap (BitVec.ofInt k.bits a &&& ~~~ BitVec.ofInt k.bits b).toNat))
  | .eql => some (.bool (a == b))
  | .neq => some (.bool (a != b))
  | .lss => some (.bool (decide (a < b)))
  | .leq => some (.bool (decide (a ≤ b)))
  | .gtr => some (.bool (decide (a > b)))
  | .geq => some (.bool (decide (a ≥ b)))
  | _ => none
def shiftI (op : BinOp) (k : IntKind) (a b : Int) : Option AV :=
  if b < 0 then none else
  match op with
  | .shl => some (.int k (k.wrap (a * 2 ^ (min b.toNat k.bits))))
  | .shr => some (.int k (a.fdiv (2 ^ (min b.toNat k.bits))))
  | _ => none
/-- A text's bound, so that no sum of lengths is too great. -/
def strMax : Nat := 2 ^ 62
def binS (op : BinOp) (a b : List UInt8) : Option AV :=
  match op with
  | .add => if a.length + b.length ≤ strMax then some (.str (a ++ b)) else none
  | .eql => some (.bool (a == b))
  | .neq => some (.bool (!(a == b)))
  | .lss => some (.bool (Op.bytesLess a b))
  | .leq => some (.bool (Op.bytesLess a b || a == b))
  | .gtr => some (.bool (!(Op.bytesLess a b || a == b)))
  | .geq => some (.bool (!Op.bytesLess a b))
  | _ => none
def isShift : BinOp → Bool
  | .shl | .shr => true
  | _ => false
def binA (op : BinOp) : AV → AV → Option AV
  | .int k a, .int k' b => if isShift op then shiftI op k a b else if k = k' then binI op k a b else none
  | .str a, .str b => binS op a b
  | _, _ => none
def eqA (neg : Bool) : AV → AV → Option AV
  | .bool a, .bool b => some (.bool (if neg then !(a == b) else a == b))
  | _, _ => none
def unA (op : UnOp) : AV → Option AV
  | .int k a => match op with
    | .neg => some (.int k (k.wrap (0 - a)))
    | _ => none
  | .bool a => match op with
    | .not => some (.bool (!a))
    | _ => none
  | _ => none

/-- Can its cells be stored? -/
def okc : AV → Bool
  | .tup _ | .any | .undef => false
  | _ => true
/-- Parts of an aggregate, by offset and size. -/
def splice (cs : List AV) (off : Nat) (xs : List AV) : List AV := cs.take off ++ xs ++ cs.drop (off + xs.length)
def fillA (cs : List AV) : List (Nat × Nat × AV) → Option (List AV)
  | [] => some cs
  | (off, n, x) :: r => if okc x = true ∧ x.cells.length = n ∧ off + n ≤ cs.length then fillA (splice cs off x.cells) r else none
def fillS (els : List AV) (sz : Nat) : List (Nat × AV) → Option (List AV)
  | [] => some els
  | (i, x) :: r => if okc x = true ∧ x.cells.length = sz ∧ i < els.length then fillS (els.set i x) sz r else none

/-- A part of cells: one, or so many. -/
def partA (cs : List AV) (off : Nat) : Option Nat → Option AV
  | none => cs[off]?
  | some n => if off + n ≤ cs.length then some (.agg ((cs.drop off).take n)) else none

def loadA (h : Heap) (n : Option Nat) : AV → Option AV
  | .ptr b off => match h[b]? with
    | some (.row cs) => partA cs off n
    | _ => none
  | .ep x off => partA x.cells off n
  | _ => none

def fitsA (n : Option Nat) (x : AV) : Bool :=
  match n, x with
  | none, .agg _ => false
  | none, .tup _ => false
  | none, .any => false
  | none, .undef => false
  | none, _ => true
  | some n, .agg cs => cs.length == n
  | some _, _ => false

def storeA (h : Heap) (n : Option Nat) (a x : AV) : Option Heap :=
  match a with
  | .ptr b off => match h[b]? with
    | some (.row cs) => if fitsA n x && decide (off + x.cells.length ≤ cs.length) && decide (x.bnd ≤ b) then some (h.set b (.row (splice cs off x.cells))) else none
    | _ => none
  | _ => none

def asNat (y : Nat) : AV → Option Nat
  | .int _ i => if 0 ≤ i ∧ i ≤ y then some i.toNat else none
  | _ => none
def boundA (y : Nat) (d : Nat) : Option AV → Option Nat
  | none => some d
  | some x => asNat y x

def sliceA (sz : Option Nat) (x : AV) (lo hi : Option AV) : Option AV :=
  match sz, x with
  | none, .str l => (boundA l.length l.length hi).bind fun h => (boundA h 0 lo).bind fun b => some (.str ((l.take h).drop b))
  | some sz, .sl _ z els => if z = sz then (boundA els.length els.length hi).bind fun h => (boundA h 0 lo).bind fun b => some (.sl false sz ((els.take h).drop b)) else none
  | some sz, .ms b off n sh tight => if sh.getD 1 = sz then (boundA n n hi).bind fun h => (boundA h 0 lo).bind fun l => some (.ms b (off + l * sz) (h - l) sh (tight && h == n)) else none
  | _, _ => none

def iaddrA (sz : Nat) (len : Option Nat) (x i : AV) : Option AV :=
  match i with
  | .int _ n =>
    match len, x with
    | none, .sl _ z els => if 0 ≤ n ∧ z = sz then (els[n.toNat]?).map (.ep · 0) else none
    | none, .ms b off m sh _ => if 0 ≤ n ∧ n < m ∧ sh.getD 1 = sz then some (.ptr b (off + n.toNat * sz)) else none
    | some k, .ptr b off => if 0 ≤ n ∧ n < k then some (.ptr b (off + n.toNat * sz)) else none
    | _, _ => none
  | _ => none

def idxA (x i : AV) : Option AV :=
  match x, i with
  | .str l, .int _ n => if 0 ≤ n then (l[n.toNat]?).map fun c => .int .u8 c.toNat else none
  | _, _ => none

def lenA : Bool → AV → Option AV
  | true, .str l => some (.int .i64 l.length)
  | false, .sl _ _ els => some (.int .i64 els.length)
  | false, .ms _ _ n _ _ => some (.int .i64 n)
  | _, _ => none

/-- Room: what a slice may take. -/
def roomMax : Nat := 2 ^ 46

def eraseEls (ys : List AV) : List AV := ys.map AV.erase
def appendA (sz bytes : Nat) (x y : AV) : Option AV :=
  match x, y with
  | .sl true z els, .sl _ z' ys => if z = sz ∧ z' = sz ∧ (els.length + ys.length) * bytes ≤ roomMax ∧ els.length + ys.length ≤ roomMax then some (.sl true sz (els ++ ys)) else none
  | _, _ => none
def bytesA (l : List UInt8) : List AV := l.map fun c => .int .u8 c.toNat
def appendSA (x y : AV) : Option AV :=
  match x, y with
  | .sl true z els, .str l => if z = 1 ∧ els.length + l.length ≤ roomMax then some (.sl true 1 (els ++ bytesA l)) else none
  | _, _ => none

/-- A new row of zeros. -/
def mksliceA (h : Heap) (shape : Option Nat) (bytes : Nat) (zs : List AV) (x y : AV) : Option (AV × Heap) :=
  match x, y with
  | .int _ l, .int _ c => if 0 ≤ l ∧ l ≤ c ∧ c * bytes ≤ roomMax ∧ c ≤ roomMax then some (.ms h.length 0 l.toNat shape (l == c), h ++ [.row (List.replicate c.toNat zs).flatten]) else none
  | _, _ => none
def flatA (els : List AV) : List AV := els.flatMap AV.cells
/-- Elements laid over those of a row. -/
def copyA (h : Heap) (sz : Nat) (x y : AV) : Option (AV × Heap) :=
  match x, y with
  | .ms b off n sh _, .sl _ z ys =>
    if sh.getD 1 = sz ∧ z = sz then
      match h[b]? with
      | some (.row cs) => if off + n * sz ≤ cs.length ∧ AV.bndL ys ≤ b then some (.int .i64 ((min ys.length n : Nat) : Int), h.set b (.row (splice cs off (AV.eraseL (flatA (ys.take n)))))) else none
      | _ => none
    else none
  | _, _ => none

def strOf : List AV → Option (List UInt8)
  | [] => some []
  | .int .u8 n :: r => (strOf r).map fun l => UInt8.ofNat n.toNat :: l
  | _ => none

def maxA : AV → AV → Option AV
  | .int k x, .int k' y => if k = k' then some (.int k (if y > x then y else x)) else none
  | _, _ => none
def minA : AV → AV → Option AV
  | .int k x, .int k' y => if k = k' then some (.int k (if y < x then y else x)) else none
  | _, _ => none

/-- A call: what the arguments don't lead to is hidden from it, and is as it was behind it. -/
def callA (callee : List AV → Heap → Option (AV × Heap)) (args : List AV) (h : Heap) : Option (AV × Heap) :=
  let n := AV.bndL args
  match callee args (h.take n ++ List.replicate (h.length - n) .hid) with
  | some (r, h1) => some (r, h1.take n ++ h.drop n ++ h1.drop h.length)
  | none => none

/-- Whether an operation touches a box: it reads it, writes it; a call: all boxes below. -/
inductive Touch where
  | none
  | rd (b off n : Nat)
  | wr (b off n : Nat)
  | all (b : Nat)
  | below (n m : Nat)

def Touch.clash : Touch → Touch → Bool
  | .rd a o k, .wr b o' k' | .wr a o k, .rd b o' k' | .wr a o k, .wr b o' k' => a == b && !(decide (o + k ≤ o') || decide (o' + k' ≤ o))
  | .rd a _ _, .all b | .wr a _ _, .all b | .all a, .rd b _ _ | .all a, .wr b _ _ | .all a, .all b => a == b
  | .rd a _ _, .below n m | .wr a _ _, .below n m | .all a, .below n m | .below n m, .rd a _ _ | .below n m, .wr a _ _ | .below n m, .all a => decide (a < n) || decide (m ≤ a)
  | .below _ _, .below _ _ => true
  | _, _ => false

abbrev Callee := Nat → List AV → Heap → Option (AV × Heap)

def takeAt (h : Heap) (n : Option Nat) : AV → Heap
  | .ptr b off => match h[b]? with
    | some (.row cs) => h.set b (.row (splice cs off (AV.eraseL ((cs.drop off).take (n.getD 1)))))
    | _ => h
  | _ => h

def touchOf (base m : Nat) (e : Env) : LOp → Touch
  | .alloc k _ => .all (base + k)
  | .load take n a => match a.ev e with
    | .ptr b off => if take then .wr b off (n.getD 1) else .rd b off (n.getD 1)
    | _ => .none
  | .store n a _ => match a.ev e with
    | .ptr b off => .wr b off (n.getD 1)
    | _ => .none
  | .call _ xs => .below (AV.bndL (xs.map (Od.ev e))) m
  | .callv f xs => .below (AV.bndL (f.ev e :: xs.map (Od.ev e))) m
  | .box _ => .below 0 m
  | .mkslice .. => .below 0 m
  | .copy _ x _ => match x.ev e with
    | .ms b _ _ _ _ => .all b
    | _ => .none
  | _ => .none

/-- The literal nil of a slice's type. -/
def isNilOd : Od → Bool
  | .c (.sl _ _ []) => true
  | _ => false
/-- A row that is not empty is not nil. -/
def nilA (neg : Bool) : AV → Option AV
  | .sl _ _ (_ :: _) => some (.bool neg)
  | _ => none
/-- One operation: what it gives, and the boxes behind it. -/
def LOp.run (K : Callee) (base : Nat) (e : Env) (h : Heap) : LOp → Option (AV × Heap)
  | .mov x => some (x.ev e, h)
  | .pick c a b => match c.ev e with
    | .bool t => some (if t then a.ev e else b.ev e, h)
    | _ => none
  | .alloc k zs => some (.ptr (base + k) 0, h.set (base + k) (.row zs))
  | .box x => if (x.ev e).bnd ≤ h.length ∧ okc (x.ev e) = true then some (.ptr h.length 0, h ++ [.row (x.ev e).cells]) else none
  | .build zs ps => (fillA zs (ps.map fun p => (p.1, p.2.1, p.2.2.ev e))).map fun cs => (.agg cs, h)
  | .bslice sz zs ps => (fillS zs sz (ps.map fun p => (p.1, p.2.ev e))).map fun els => (.sl true sz els, h)
  | .load take n a =>
    if take then
      match a.ev e with
      | .ptr b off => (loadA h n (.ptr b off)).map fun x => (x, takeAt h n (.ptr b off))
      | _ => none
    else (loadA h n (a.ev e)).map fun x => (x.erase, h)
  | .store n a x => (storeA h n (a.ev e) (x.ev e)).map fun h' => (.undef, h')
  | .nilc x => match x.ev e with
    | .ptr b off => some (.ptr b off, h)
    | .ep x off => some (.ep x off, h)
    | .fn f caps => some (.fn f caps, h)
    | _ => none
  | .bin op x y => (binA op (x.ev e) (y.ev e)).map (·, h)
  | .eqB neg x y => (if isNilOd y then nilA neg (x.ev e) else eqA neg (x.ev e) (y.ev e)).map (·, h)
  | .strStr x => match x.ev e with
    | .str l => some (.str l, h)
    | _ => none
  | .un op x => (unA op (x.ev e)).map (·, h)
  | .conv k x => match x.ev e with
    | .int _ n => some (.int k (k.wrap n), h)
    | _ => none
  | .bytesStr x => match x.ev e with
    | .sl _ _ els => (strOf els).map fun l => (.str l, h)
    | _ => none
  | .strBytes x => match x.ev e with
    | .str l => some (.sl true 1 (bytesA l), h)
    | _ => none
  | .slice sz x lo hi => (sliceA sz (x.ev e) (lo.map (Od.ev e)) (hi.map (Od.ev e))).map (·, h)
  | .faddr x off => match x.ev e with
    | .ptr b o => some (.ptr b (o + off), h)
    | .ep x o => some (.ep x (o + off), h)
    | _ => none
  | .field x off n => match x.ev e with
    | .agg cs => (partA cs off n).map (·, h)
    | _ => none
  | .iaddr sz ln x i => (iaddrA sz ln (x.ev e) (i.ev e)).map (·, h)
  | .idx x i => (idxA (x.ev e) (i.ev e)).map (·, h)
  | .ext x i => match x.ev e with
    | .tup vs => (vs[i]?).map (·, h)
    | _ => none
  | .call f xs => callA (K f) (xs.map (Od.ev e)) h
  | .callv f xs => match f.ev e with
    | .fn g caps => callA (K g) (xs.map (Od.ev e) ++ AV.eraseL caps) h
    | _ => none
  | .len s x => (lenA s (x.ev e)).map (·, h)
  | .append sz bytes x y => (appendA sz bytes (x.ev e) (y.ev e)).map (·, h)
  | .mkslice sh bytes zs x y => mksliceA h sh bytes zs (x.ev e) (y.ev e)
  | .copy sz x y => copyA h sz (x.ev e) (y.ev e)
  | .appendS x y => (appendSA (x.ev e) (y.ev e)).map (·, h)
  | .max2 x y => (maxA (x.ev e) (y.ev e)).map (·, h)
  | .min2 x y => (minA (x.ev e) (y.ev e)).map (·, h)
  | .mkfn f caps => some (.fn f (caps.map (Od.ev e)), h)

def LOp.ods : LOp → List Od
  | .mov x | .box x | .load _ _ x | .nilc x | .un _ x | .conv _ x | .bytesStr x | .strBytes x | .faddr x _ | .field x _ _ | .ext x _ | .len _ x | .strStr x => [x]
  | .pick c a b => [c, a, b]
  | .alloc _ _ => []
  | .build _ ps => ps.map (·.2.2)
  | .bslice _ _ ps => ps.map (·.2)
  | .store _ a x | .bin _ a x | .eqB _ a x | .iaddr _ _ a x | .idx a x | .append _ _ a x | .appendS a x | .mkslice _ _ _ a x | .copy _ a x | .max2 a x | .min2 a x => [a, x]
  | .slice _ x lo hi => x :: (lo.toList ++ hi.toList)
  | .call _ xs => xs
  | .callv f xs => f :: xs
  | .mkfn _ xs => xs

def usedAll : List Od → Env → Env
  | [], e => e
  | x :: l, e => usedAll l (x.used e)

def putD (d : Option Nat) (v : AV) (e : Env) : Env :=
  match d with
  | some t => (t, v) :: e
  | none => e

/-- Is an operation wanted? -/
def wantedA (e : Env) : Option (Nat × Bool) → Option Bool
  | none => some true
  | some (t, b) => match e.get t with
    | .bool c => some (c == b)
    | .any => none
    | _ => some false

def LO.run (K : Callee) (base : Nat) (o : LO) (e : Env) (h : Heap) : Option (Env × Heap) :=
  match wantedA e o.guard with
  | some true => match o.op.run K base e h with
    | some (v, h') => some (putD o.dst v (usedAll o.op.ods e), h')
    | none => none
  | some false => some (putD o.dst .undef e, h)
  | none => none

def LO.touch (base m : Nat) (o : LO) (e : Env) : Touch :=
  match wantedA e o.guard with
  | some true => touchOf base m e o.op
  | _ => .none

def runOps (K : Callee) (base : Nat) : List LO → Env → Heap → Option (Env × Heap)
  | [], e, h => some (e, h)
  | o :: l, e, h => match o.run K base e h with
    | some (e', h') => runOps K base l e' h'
    | none => none

/-- The boxes that each operation touches, on the way of the text's order. -/
def touches (K : Callee) (base : Nat) : List LO → Env → Heap → List Touch
  | [], _, _ => []
  | o :: l, e, h => o.touch base h.length e :: (match o.run K base e h with
    | some (e', h') => touches K base l e' h'
    | none => [])

def apart (ts : List Touch) (ups : List (Nat × Nat)) : Bool := ups.all fun p => !(ts.getD p.1 .none).clash (ts.getD p.2 .none)

inductive Ex where
  | nxt
  | exit (id : Nat)
  | ret

def trim (keep : List Nat) (e : Env) : Env := keep.map fun t => (t, e.get t)

abbrev Out := Option (Ex × Env × Heap)

def bndE (e : Env) : Nat := AV.bndL (e.map (·.2))

def runRegion (K : Callee) (draw : Bool) (nal : Nat) (ops : List LO) (ups : List (Nat × Nat)) (keep : List Nat) (e : Env) (h : Heap) : Out :=
  match runOps K h.length ops e (h ++ List.replicate nal .hid) with
  | some (e', h') => if !draw || apart (touches K h.length ops e (h ++ List.replicate nal .hid)) ups then some (.nxt, trim keep e', h') else none
  | none => none

def gcH (n : Nat) : Out → Out
  | some (x, e, h) => if bndE e ≤ n then some (x, e, h.take n) else some (x, e, h)
  | none => none

def inBlockA (id : Nat) : Out → Out
  | some (.exit i, e, h) => if i = id then some (.nxt, e, h) else some (.exit i, e, h)
  | r => r

/-- A loop, by rounds. -/
def iter (f : Env → Heap → Out) : Nat → Env → Heap → Out
  | 0, _, _ => none
  | k + 1, e, h => match f e h with
    | some (.nxt, e', h') => iter f k e' h'
    | r => r

def execN (K : Callee) (k : Nat) : LCode → Env → Heap → Out
  | .skip, e, h => some (.nxt, e, h)
  | .region d al ops ups keep, e, h => runRegion K d al ops ups keep e h
  | .seq a b, e, h => match execN K k a e h with
    | some (.nxt, e', h') => execN K k b e' h'
    | r => r
  | .cond c a b, e, h => match c.ev e with
    | .bool true => execN K k a e h
    | .bool false => execN K k b e h
    | _ => none
  | .block id b, e, h => inBlockA id (execN K k b e h)
  | .loop b, e, h => iter (execN K k b) k e h
  | .gc b, e, h => gcH h.length (execN K k b e h)
  | .only keep b, e, h => execN K k b (trim keep e) h
  | .exit i, e, h => some (.exit i, e, h)
  | .ret, e, h => some (.ret, e, h)

def LRes.val (keep : Bool) (e : Env) (h : Heap) : LRes → Option AV
  | .tmp t => some (if keep then e.get t else (e.get t).erase)
  | .cell t n => (loadA h n (e.get t)).map AV.erase

def valsOf (keep : Bool) (e : Env) (h : Heap) : List LRes → Option (List AV)
  | [] => some []
  | r :: l => match r.val keep e h, valsOf keep e h l with
    | some x, some xs => some (x :: xs)
    | _, _ => none

def oneOf : List AV → AV
  | [x] => x
  | xs => .tup xs

def argEnv : Nat → List AV → Env
  | _, [] => []
  | i, x :: l => (i, x) :: argEnv (i + 1) l

/-- The elements of a row of a box. -/
def elsOf (shape : Option Nat) (cs : List AV) : Nat → Nat → Option (List AV)
  | _, 0 => some []
  | off, k + 1 => match partA cs off shape, elsOf shape cs (off + shape.getD 1) k with
    | some x, some l => some (x.erase :: l)
    | _, _ => none
/-- A row of a box of the call's own, as a value. -/
def freeze (h : Heap) (n : Nat) : AV → AV
  | .ms b off k sh tight => match h[b]? with
    | some (.row cs) => if n ≤ b ∧ 0 < sh.getD 1 then (match elsOf sh cs off k with
      | some els => .sl tight (sh.getD 1) els
      | none => .ms b off k sh tight) else .ms b off k sh tight
    | _ => .ms b off k sh tight
  | x => x

/-- What a function gives: what is left of the boxes. -/
def finish (F : LF) (n : Nat) : Out → Option (AV × Heap)
  | some (.nxt, e, h) | some (.ret, e, h) => match valsOf F.keepRes e h F.res with
    | some vs => some (if (oneOf (vs.map (freeze h n))).bnd ≤ n then (oneOf (vs.map (freeze h n)), h.take n) else (oneOf vs, h))
    | none => none
  | _ => none

inductive LFn where
  | code (F : LF)
  | spec (g : List AV → Heap → Option (AV × Heap))

abbrev Tab := List (Nat × LFn)

def specA (g : List AV → Heap → Option (AV × Heap)) (args : List AV) (h : Heap) : Option (AV × Heap) :=
  match g args h with
  | some (r, h') => if h.length ≤ h'.length then some (r, h') else none
  | none => none

def runN' (T : Tab) : Nat → Callee
  | 0 => fun _ _ _ => none
  | k + 1 => fun f args h => match T.lookup f with
    | some (.code F) => finish F h.length (execN (runN' T k) k F.body (argEnv 0 args) h)
    | some (.spec g) => specA g args h
    | none => none

end Go.Proofs.YtfihinodhhhllaaGreat
