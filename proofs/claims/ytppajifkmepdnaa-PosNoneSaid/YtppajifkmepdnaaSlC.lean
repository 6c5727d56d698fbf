/- A function's body with its types resolved: the small code, and the check that makes it of the model's own. No program in sight. -/
import Derived.Test.YtppajifkmepdnaaSlB
import Derived.Laws.StructEq
import Derived.WideLaws
set_option linter.unusedSimpArgs false
set_option linter.unusedVariables false
namespace Go.SL
open Go.RowKit

/-- Operations on values alone. -/
inductive PureOp where
  | mv
  | pick
  | bin (op : BinOp)
  | eqb (neg : Bool)
  | eqc (neg : Bool) (kinds : List (Option IntKind))
  | eqn (neg : Bool)
  | eqf (neg : Bool)
  | eqs (neg : Bool)
  | eqsl (neg : Bool)
  | un (op : UnOp)
  | conv (k : IntKind)
  | fad (off : Nat)
  | fld (off : Nat) (agg : Bool) (sz : Nat)
  | iaA (len sz : Nat)
  | iaS (sz : Nat)
  | ix (len : Nat) (agg : Bool) (sz : Nat)
  | ixs
  | build (zero : List Value) (places : List (Nat × Nat))
  | ext (i : Nat)
  | mkf (f : FuncId) (first : Nat)
  | len
  | lens
  | lenA (n : Nat)
  | cap
  | mn
  | mx
  | slc (sz : Nat) (lo hi : Bool)
  | nilck

def binI (op : BinOp) (k : IntKind) (a b : Int) : Option Value :=
  match op with
  | .add => some (.int k (k.wrap (a + b)))
  | .sub => some (.int k (k.wrap (a - b)))
  | .mul => some (.int k (k.wrap (a * b)))
  | .quo => if b = 0 then none else some (.int k (k.wrap (a.tdiv b)))
  | .rem => if b = 0 then none else some (.int k (a.tmod b))
  | .and => some (.int k (k.wrap (BitVec.ofInt k.bits a &&& BitVec.ofInt k.bits b).toNat))
  | .or => some (.int k (k.wrap (BitVec.ofInt k.bits a ||| BitVec.ofInt k.bits b).toNat))
  | .xor => some (.int k (k.wrap (BitVec.ofInt k.bits a ^^^ BitVec.ofInt k.bits b).toNat))
  | .andNot => some (.int k (k.wrap (BitVec.ofInt k.bits a &&& ~~~ BitVec.ofInt k.bits b).toNat))
  | .eql => some (.bool (a == b))
  | .neq => some (.bool (a != b))
  | .lss => some (.bool (decide (a < b)))
  | .leq => some (.bool (decide (a ≤ b)))
  | .gtr => some (.bool (decide (a > b)))
  | .geq => some (.bool (decide (a ≥ b)))
  | .shl => if b < 0 then none else some (.int k (k.wrap (a * 2 ^ (min b.toNat k.bits))))
  | .shr => if b < 0 then none else some (.int k (a.fdiv (2 ^ (min b.toNat k.bits))))

def eqCells : List (Option IntKind) → List Value → List Value → Option Bool
  | [], [], [] => some true
  | some k :: ks, .int k1 a :: xs, .int k2 b :: ys => if k = k1 ∧ k = k2 then (eqCells ks xs ys).map (fun r => decide (a = b) && r) else none
  | none :: ks, .bool a :: xs, .bool b :: ys => (eqCells ks xs ys).map (fun r => (a == b) && r)
  | _, _, _ => none

def partOf (agg : Bool) (sz : Nat) (cs : List Value) (off : Nat) : Option Value :=
  if agg then some (.agg ((cs.drop off).take sz).toArray) else cs[off]?

def fillL : List (Nat × Nat) → List Value → List Value → Option (List Value)
  | [], [], cells => some cells
  | (off, size) :: ps, v :: vs, cells => if v.cells.size = size ∧ off + size ≤ cells.length then fillL ps vs (cells.take off ++ v.cells.toList ++ cells.drop (off + size)) else none
  | _, _, _ => none

def slcBounds (len cap : Nat) (lo hi : Option Int) : Option (Nat × Nat) :=
  match hi with
  | some h => if 0 ≤ h ∧ h ≤ cap then
      match lo with
      | some l => if 0 ≤ l ∧ l ≤ h then some (l.toNat, h.toNat) else none
      | none => some (0, h.toNat)
    else none
  | none =>
    match lo with
    | some l => if 0 ≤ l ∧ l ≤ len then some (l.toNat, len) else none
    | none => some (0, len)

/-- A slice's value behind a cut. -/
def slcVal (sz : Nat) (a : Option Addr) (cap l h : Nat) : Value :=
  .slice (if cap = l then a else a.map (·.add (l * sz))) (h - l) (cap - l)

def pvSlc (sz : Nat) : Bool → Bool → List Value → Option Value
  | false, false, [.slice a n c] => (slcBounds n c none none).map fun (l, h) => slcVal sz a c l h
  | true, false, [.slice a n c, .int _ l] => (slcBounds n c (some l) none).map fun (l, h) => slcVal sz a c l h
  | false, true, [.slice a n c, .int _ h] => (slcBounds n c none (some h)).map fun (l, h) => slcVal sz a c l h
  | true, true, [.slice a n c, .int _ l, .int _ h] => (slcBounds n c (some l) (some h)).map fun (l, h) => slcVal sz a c l h
  | _, _, _ => none

def pv : PureOp → List Value → Option Value
  | .mv, [v] => some v
  | .pick, [.bool c, a, b] => some (if c then a else b)
  | .bin op, [.int k a, .int k2 b] => if k = k2 ∨ op = .shl ∨ op = .shr then binI op k a b else none
  | .eqb neg, [.bool a, .bool b] => some (.bool (if neg then !(a == b) else a == b))
  | .eqc neg ks, [.agg xs, .agg ys] => (eqCells ks xs.toList ys.toList).map fun r => .bool (if neg then !r else r)
  | .eqn neg, [.pointer a, .pointer none] => some (.bool (if neg then !a.isNone else a.isNone))
  | .eqf neg, [.nilFunc, .nilFunc] => some (.bool (if neg then false else true))
  | .eqf neg, [.func _ _ _, .nilFunc] => some (.bool (if neg then true else false))
  | .eqs neg, [.string a, .string b] => some (.bool (if neg then !(a.toList == b.toList) else a.toList == b.toList))
  | .eqsl neg, [.slice a _ _, .slice none _ _] => some (.bool (if neg then !a.isNone else a.isNone))
  | .un .not, [.bool b] => some (.bool !b)
  | .un .neg, [.int k n] => some (.int k (k.wrap (0 - n)))
  | .un .xor, [.int k n] => some (.int k (k.wrap (BitVec.ofInt k.bits (if k.signed then -1 else k.max) ^^^ BitVec.ofInt k.bits n).toNat))
  | .conv k, [.int _ n] => some (.int k (k.wrap n))
  | .fad off, [.pointer (some ⟨b, o, none⟩)] => some (.pointer (some ⟨b, o + off, none⟩))
  | .fld off agg sz, [.agg cs] => partOf agg sz cs.toList off
  | .iaA len sz, [.pointer (some ⟨b, o, none⟩), .int _ i] => if 0 ≤ i ∧ i < (len : Int) then some (.pointer (some ⟨b, o + i.toNat * sz, none⟩)) else none
  | .iaS sz, [.slice (some ⟨b, o, none⟩) n _, .int _ i] => if 0 ≤ i ∧ i < (n : Int) then some (.pointer (some ⟨b, o + i.toNat * sz, none⟩)) else none
  | .ix len agg sz, [.agg cs, .int _ i] => if 0 ≤ i ∧ i < (len : Int) then partOf agg sz cs.toList (i.toNat * sz) else none
  | .ixs, [.string s, .int _ i] => if 0 ≤ i then (s[i.toNat]?).map fun b => .int .u8 b.toNat else none
  | .build zero places, vs => (fillL places vs zero).map fun cs => .agg cs.toArray
  | .ext i, [.tuple vs] => vs[i]?
  | .mkf f n, vs => some (.func (.func f) (vs.take n).toArray (vs.drop n).toArray)
  | .len, [.slice _ n _] => some (.int .i64 n)
  | .lens, [.string s] => some (.int .i64 s.size)
  | .lenA n, [_] => some (.int .i64 n)
  | .cap, [.slice _ _ n] => some (.int .i64 n)
  | .mn, [.int k x, .int _ y] => some (.int k (if y < x then y else x))
  | .mx, [.int k x, .int _ y] => some (.int k (if y > x then y else x))
  | .slc sz lo hi, vs => pvSlc sz lo hi vs
  | .nilck, [.pointer (some a)] => some (.pointer (some a))
  | _, _ => none

/-! ### The kinds of a flat type's cells -/
def flatKinds (P : Program) : (depth : Nat) → TypeId → Option (List (Option IntKind))
  | 0, _ => none
  | d + 1, t =>
    match P.underlying t with
    | some (.int k) => some [some k]
    | some .bool => some [none]
    | some (.struct fs) => if P.stoodInHeld t then none else
        fs.toList.foldl (fun acc f => match acc with
          | none => none
          | some l => if f.name = "_" ∨ f.offset ≠ l.length then none else match tinfo P f.type, flatKinds P d f.type with
            | some (agg, sz), some l2 => if l2.length = sz ∧ (agg = true ∨ sz = 1) then some (l ++ l2) else none
            | _, _ => none) (some [])
    | _ => none


def cBin (P : Program) (op : BinOp) (T : TypeId) (x y : Operand) : Option (PureOp × List Operand) :=
  match P.underlying T with
  | some (.int _) => some (.bin op, [x, y])
  | some .bool => match op with
    | .eql => some (.eqb false, [x, y])
    | .neq => some (.eqb true, [x, y])
    | _ => none
  | some (.struct _) => if P.eqGuardType P.depth T then none else
    match op, flatKinds P 20 T with
    | .eql, some ks => some (.eqc false ks, [x, y])
    | .neq, some ks => some (.eqc true ks, [x, y])
    | _, _ => none
  | some (.pointer _) => match op with
    | .eql => some (.eqn false, [x, y])
    | .neq => some (.eqn true, [x, y])
    | _ => none
  | some (.func _ _ _) => match op with
    | .eql => some (.eqf false, [x, y])
    | .neq => some (.eqf true, [x, y])
    | _ => none
  | some .string => match op with
    | .eql => some (.eqs false, [x, y])
    | .neq => some (.eqs true, [x, y])
    | _ => none
  | some (.slice _) => match op with
    | .eql => some (.eqsl false, [x, y])
    | .neq => some (.eqsl true, [x, y])
    | _ => none
  | _ => none

def cBuild (P : Program) (T : TypeId) (parts : Array (Nat × Operand)) : Option (PureOp × List Operand) :=
  match P.info? T with
  | some inf => match inf.zero with
    | some z => match P.underlying T with
      | some (.struct fs) =>
        match parts.toList.mapM (fun p => (fs[p.1]?).bind fun f => (P.info? f.type).map fun i => (f.offset, i.size)) with
        | some places => if fs.all (fun f => (P.info? f.type).isSome) then some (.build z.cells.toList places, parts.toList.map (·.2)) else none
        | none => none
      | some (.array _ e) => match P.info? e with
        | some i => some (.build z.cells.toList (parts.toList.map fun p => (p.1 * i.size, i.size)), parts.toList.map (·.2))
        | none => none
      | _ => none
    | none => none
  | none => none

def cBuiltin (P : Program) (b : Builtin) (args : List Operand) (argTypes : List TypeId) : Option (PureOp × List Operand) :=
  match b, args, argTypes with
  | .len, [x], [T] => match P.underlying T with
    | some (.slice _) => some (.len, [x])
    | some .string => some (.lens, [x])
    | some (.array n _) => some (.lenA n, [x])
    | _ => none
  | .cap, [x], [T] => match P.underlying T with
    | some (.slice _) => some (.cap, [x])
    | _ => none
  | .min, [x, y], _ => some (.mn, [x, y])
  | .max, [x, y], _ => some (.mx, [x, y])
  | _, _, _ => none

def cPure (P : Program) : Op → Option (PureOp × List Operand)
  | .move x | .assign x => some (.mv, [x])
  | .pick c a b => some (.pick, [c, a, b])
  | .binOp op T x y _ => cBin P op T x y
  | .unOp op _ x => some (.un op, [x])
  | .convert src dst x =>
    match P.underlying src, P.underlying dst with
    | some (.int _), some (.int k) => some (.conv k, [x])
    | _, _ => none
  | .makeFunc (.func f) first cap => some (.mkf f first.size, first.toList ++ cap.toList)
  | .fieldAddr S x i =>
    match P.underlying S with
    | some (.struct fs) => match fs[i]? with
      | some f => match P.info? f.type with
        | some inf => if inf.size = 0 then none else some (.fad f.offset, [x])
        | none => none
      | none => none
    | _ => none
  | .field S x i =>
    match P.underlying S with
    | some (.struct fs) => match fs[i]? with
      | some f => match tinfo P f.type with
        | some (agg, sz) => some (.fld f.offset agg sz, [x])
        | none => none
      | none => none
    | _ => none
  | .indexAddr T x i =>
    match P.underlying T with
    | some (.array len e) => match P.info? e with
      | some inf => some (.iaA len inf.size, [x, i])
      | none => none
    | some (.slice e) => match P.info? e with
      | some inf => some (.iaS inf.size, [x, i])
      | none => none
    | _ => none
  | .index T x i =>
    match P.underlying T with
    | some (.array len e) => match tinfo P e with
      | some (agg, sz) => some (.ix len agg sz, [x, i])
      | none => none
    | some .string => some (.ixs, [x, i])
    | _ => none
  | .build T parts => cBuild P T parts
  | .extract t i => some (.ext i, [t])
  | .nilCheck x => some (.nilck, [x])
  | .slice T x lo hi none =>
    match P.underlying T with
    | some (.slice e) => match P.info? e with
      | some inf => some (.slc inf.size lo.isSome hi.isSome, [x] ++ lo.toList ++ hi.toList)
      | none => none
    | _ => none
  | .call { callee := .builtin b, args, argTypes } => cBuiltin P b args.toList argTypes.toList
  | _ => none

end Go.SL
