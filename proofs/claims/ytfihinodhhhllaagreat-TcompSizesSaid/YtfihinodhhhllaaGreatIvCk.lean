/- The look that holds the small code against the program's own. -/
import Derived.Test.YtfihinodhhhllaaGreatIvFrame
set_option linter.unusedVariables false
set_option linter.unusedSimpArgs false
namespace Go.Proofs.YtfihinodhhhllaaGreat
open Go

mutual
/-- A constant and the machine's. -/
def ckC : AV → Value → Bool
  | .bool b, .bool c => b == c
  | .int k n, .int k' m => k == k' && n == m
  | .str l, .string s => l == s.data.toList
  | .nilp, .pointer none => true
  | .nilm, .map none => true
  | .sl true _ [], .slice none n c => n == 0 && c == 0
  | .agg cs, .agg xs => ckCL cs xs.toList
  | _, _ => false
def ckCL : List AV → List Value → Bool
  | [], [] => true
  | c :: cs, x :: xs => c.cellOk && ckC c x && ckCL cs xs
  | _, _ => false
end

def ckOd : Od → Operand → Bool
  | .c (.fn f []), .func g => f == g
  | .c x, .const v => ckC x v
  | .cp t, .tmp u => t == u
  | .mv t, .tmp u => t == u
  | _, _ => false
def ckOds : List Od → List Operand → Bool
  | [], [] => true
  | x :: xs, y :: ys => ckOd x y && ckOds xs ys
  | _, _ => false

/-- One cell, or so many. -/
def shapeN (P : Program) (t : TypeId) : Option (Option Nat) :=
  match P.underlying t with
  | some (.struct _) | some (.array _ _) => some (some (P.cellsOf t))
  | some _ => some none
  | none => none

def fieldAt? (P : Program) (t : TypeId) (i : Nat) : Option Field :=
  match P.underlying t with
  | some (.struct fs) => fs[i]?
  | _ => none

def ckParts (P : Program) (t : TypeId) : List (Nat × Nat × Od) → List (Nat × Operand) → Bool
  | [], [] => true
  | (off, n, x) :: ps, (i, y) :: qs =>
    (match fieldAt? P t i with
     | some f => f.offset == off && (P.info? f.type).isSome && P.cellsOf f.type == n
     | none => false) && ckOd x y && ckParts P t ps qs
  | _, _ => false
def ckParts2 : List (Nat × Od) → List (Nat × Operand) → Bool
  | [], [] => true
  | (i, x) :: ps, (j, y) :: qs => i == j && ckOd x y && ckParts2 ps qs
  | _, _ => false

def isStruct (P : Program) (t : TypeId) : Bool :=
  match P.underlying t with
  | some (.struct fs) => fs.all fun f => (P.info? f.type).isSome
  | _ => false
def zeroOf (P : Program) (t : TypeId) : Option Value := (P.info? t).bind (·.zero)
def zeroFits (P : Program) (t : TypeId) : Bool := match zeroOf P t with | some z => z.cells.size == P.cellsOf t | none => false
def elemOf? (P : Program) (t : TypeId) : Option TypeId :=
  match P.underlying t with
  | some (.slice e) => some e
  | _ => none
def isStr (P : Program) (t : TypeId) : Bool := match P.underlying t with | some .string => true | _ => false
def isInt (P : Program) (t : TypeId) : Bool := match P.underlying t with | some (.int _) => true | _ => false
def isByte (P : Program) (t : TypeId) : Bool := match P.underlying t with | some (.int .u8) => true | _ => false
def isBool (P : Program) (t : TypeId) : Bool := match P.underlying t with | some .bool => true | _ => false

def ckOdO : Option Od → Option Operand → Bool
  | none, none => true
  | some x, some y => ckOd x y
  | _, _ => false

def isNilC : Operand → Bool
  | .const (.slice none 0 0) => true
  | _ => false
def ckOp (P : Program) (lo : LOp) (op : Op) : Bool :=
  match lo, op with
  | .mov x, .move y | .mov x, .assign y => ckOd x y
  | .pick c a b, .pick c' a' b' => ckOd c c' && ckOd a a' && ckOd b b'
  | .alloc _ zs, .alloc t => match zeroOf P t with
    | some z => !zs.isEmpty && ckCL zs z.cells.toList
    | none => false
  | .box x, .box _ y => ckOd x y
  | .build zs ps, .build t qs => isStruct P t && (match zeroOf P t with
    | some z => ckCL zs z.cells.toList
    | none => false) && ckParts P t ps qs.toList
  | .bslice sz zs ps, .buildSlice t n qs => match elemOf? P t with
    | some e => (P.info? e).isSome && P.cellsOf e == sz && zs.length == n && decide (n * P.cellsOf e ≤ 2 ^ 24) && decide (0 < P.cellsOf e) && (match zeroOf P e with
      | some z => zs.all fun x => okc x && ckCL x.cells z.cells.toList && x.cells.length == P.cellsOf e
      | none => false) && ckParts2 ps qs.toList
    | none => false
  | .load _ n a, .load t x => shapeN P t == some n && ckOd a x
  | .store n a x, .store t a' x' => shapeN P t == some n && (P.info? t).isSome && P.cellsOf t == n.getD 1 && ckOd a a' && ckOd x x'
  | .nilc x, .nilCheck y => ckOd x y
  | .bin op x y, .binOp op' _ x' y' _ => op == op' && ckOd x x' && ckOd y y'
  | .eqB neg x y, .binOp op' t x' y' _ => (if isNilOd y then (elemOf? P t).isSome && isNilC y' else isBool P t) && op' == (if neg then .neq else .eql) && ckOd x x' && ckOd y y'
  | .un op x, .unOp op' _ y => op == op' && ckOd x y
  | .conv k x, .convert s t y => (P.underlying s).isSome && (match P.underlying t with | some (.int k') => k == k' | _ => false) && ckOd x y
  | .strStr x, .convert s t y => isStr P s && isStr P t && ckOd x y
  | .bytesStr x, .convert s t y => isStr P t && (match elemOf? P s with | some e => isByte P e | none => false) && ckOd x y
  | .slice sz x lo hi, .slice t y lo' hi' none => (match sz with | none => isStr P t | some n => (match elemOf? P t with | some e => (P.info? e).isSome && P.cellsOf e == n | none => false)) && ckOd x y && ckOdO lo lo' && ckOdO hi hi'
  | .faddr x off, .fieldAddr t y i => (match fieldAt? P t i with
    | some f => f.offset == off && (P.info? f.type).isSome && P.cellsOf f.type != 0
    | none => false) && ckOd x y
  | .field x off n, .field t y i => (match fieldAt? P t i with
    | some f => f.offset == off && (P.info? f.type).isSome && shapeN P f.type == some n
    | none => false) && ckOd x y
  | .iaddr sz ln x i, .indexAddr t x' i' => (match P.underlying t, ln with
    | some (.slice e), none => (P.info? e).isSome && P.cellsOf e == sz
    | some (.array n e), some k => (P.info? e).isSome && P.cellsOf e == sz && n == k
    | _, _ => false) && ckOd x x' && ckOd i i'
  | .idx x i, .index t x' i' => isStr P t && ckOd x x' && ckOd i i'
  | .ext x i, .extract y j => i == j && ckOd x y
  | .call f xs, .call { callee := .value (.func g), args, .. } => f == g && ckOds xs args.toList
  | .callv f xs, .call { callee := .value g, args, .. } => (match g with | .tmp _ => true | _ => false) && ckOd f g && ckOds xs args.toList
  | .len s x, .call { callee := .builtin .len, args, argTypes } => (match argTypes[0]? with
    | some t => if s then isStr P t else (elemOf? P t).isSome
    | none => false) && ckOds [x] args.toList
  | .append sz bytes x y, .call { callee := .builtin .append, args, argTypes } => (match argTypes[0]?, argTypes[1]? with
    | some t, some u => (match elemOf? P t with
      | some e => (P.info? e).isSome && P.bytesOf e == bytes && P.cellsOf e == sz && decide (0 < P.cellsOf e) && decide (0 < P.bytesOf e) && zeroFits P e
      | none => false) && (elemOf? P u).isSome
    | _, _ => false) && ckOds [x, y] args.toList
  | .appendS x y, .call { callee := .builtin .append, args, argTypes } => (match argTypes[0]?, argTypes[1]? with
    | some t, some u => (match elemOf? P t with
      | some e => (P.info? e).isSome && P.bytesOf e == 1 && P.cellsOf e == 1 && zeroFits P e
      | none => false) && isStr P u
    | _, _ => false) && ckOds [x, y] args.toList
  | .mkslice sh bytes zs x y, .makeSlice t x' y' => (match elemOf? P t with
    | some e => (P.info? e).isSome && P.bytesOf e == bytes && P.cellsOf e == sh.getD 1 && decide (0 < P.cellsOf e) && (match zeroOf P e with
      | some z => ckCL zs z.cells.toList && zs.length == P.cellsOf e
      | none => false)
    | none => false) && ckOd x x' && ckOd y y'
  | .copy sz x y, .call { callee := .builtin .copy, args, argTypes } => (match argTypes[0]? with
    | some t => (match elemOf? P t with
      | some e => (P.info? e).isSome && P.cellsOf e == sz && decide (0 < P.cellsOf e)
      | none => false)
    | none => false) && ckOds [x, y] args.toList
  | .max2 x y, .call { callee := .builtin .max, args, .. } => ckOds [x, y] args.toList
  | .min2 x y, .call { callee := .builtin .min, args, .. } => ckOds [x, y] args.toList
  | .mkfn f caps, .makeFunc (.func g) fs ys => f == g && fs.isEmpty && ckOds caps ys.toList
  | _, _ => false

end Go.Proofs.YtfihinodhhhllaaGreat
