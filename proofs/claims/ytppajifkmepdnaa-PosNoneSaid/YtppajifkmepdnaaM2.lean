/- Boards and their words, as functions on numbers. No program in sight. -/
import Derived.Test.YtppajifkmepdnaaSlN
import Derived.Test.YtppajifkmepdnaaM1
set_option linter.unusedSimpArgs false
set_option linter.unusedVariables false
namespace Go.SL

structure Bd where
  W : Int
  H : Int
def bdv (b : Bd) : Value := .agg #[.int .i64 b.W, .int .i64 b.H]
theorem bdv_cells (b : Bd) : (bdv b).cells = #[.int .i64 b.W, .int .i64 b.H] := rfl
def sideB (n : Int) : Bool := decide (4 ≤ n ∧ n ≤ 8)
def mayB (b : Bd) : Bool := sideB b.W && sideB b.H
theorem mayB_iff {b : Bd} : mayB b = true ↔ (4 ≤ b.W ∧ b.W ≤ 8) ∧ (4 ≤ b.H ∧ b.H ≤ 8) := by simp [mayB, sideB]
def cellsB (b : Bd) : Int := if mayB b then b.W * b.H else 0
def bitZ (p : Int) : BitVec 128 := if 0 ≤ p ∧ p < 128 then bit p.toNat else 0
def ofL (xs : List Int) : BitVec 128 := xs.foldl (fun a p => a ||| bitZ p) 0
def rowB (b : Bd) (y : Int) (n : Nat) : BitVec 128 := (List.range n).foldl (fun (a : BitVec 128) (x : Nat) => a ||| bitZ ((x : Int) * (b.H + 1) + y)) 0
def eachB (b : Bd) (y : Int) : BitVec 128 := if mayB b = true ∧ 0 ≤ y ∧ y ≤ b.H then rowB b y b.W.toNat else 0
def fullB (b : Bd) : BitVec 128 := eachB b b.H - eachB b 0
def colB (b : Bd) (x : Int) : BitVec 128 := if mayB b = true ∧ 0 ≤ x ∧ x < b.W then bitZ (x * (b.H + 1) + b.H) - bitZ (x * (b.H + 1)) else 0
theorem rowB_succ (b : Bd) (y : Int) (n : Nat) : rowB b y (n + 1) = rowB b y n ||| bitZ ((n : Int) * (b.H + 1) + y) := by
  simp only [rowB, List.range_succ, List.foldl_append, List.foldl_cons, List.foldl_nil]
def upW (x : BitVec 128) (n : Int) : BitVec 128 := x <<< n.toNat
def downW (x : BitVec 128) (n : Int) : BitVec 128 := x >>> n.toNat
def moveW (x : BitVec 128) (d s : Int) : BitVec 128 := if s < 0 then downW x (-s * d) else upW x (s * d)
/-- Four in a row in one direction: the last ones of such. -/
def dirW (x : BitVec 128) (d : Int) : BitVec 128 := moveW x d 0 &&& moveW x d 1 &&& moveW x d 2 &&& moveW x d 3
def dirN (b : Bd) (i : Nat) : Int := match i with | 0 => 1 | 1 => b.H | 2 => b.H + 1 | _ => b.H + 2
/-- Something of the cells of a word, for each direction, all together. -/
def waysN (b : Bd) (x : BitVec 128) (g : BitVec 128 → Int → BitVec 128) (n : Nat) : BitVec 128 := (List.range n).foldl (fun a i => a ||| g (x &&& fullB b) (dirN b i)) 0
def waysW (b : Bd) (x : BitVec 128) (g : BitVec 128 → Int → BitVec 128) : BitVec 128 := if mayB b then waysN b x g 4 else 0
theorem waysN_succ (b : Bd) (x : BitVec 128) (g : BitVec 128 → Int → BitVec 128) (n : Nat) : waysN b x g (n + 1) = waysN b x g n ||| g (x &&& fullB b) (dirN b n) := by
  simp only [waysN, List.range_succ, List.foldl_append, List.foldl_cons, List.foldl_nil]
def andAll (x : BitVec 128) (ys : List (BitVec 128)) : BitVec 128 := ys.foldl (fun a y => a &&& y) x
theorem andAll_snoc (x y : BitVec 128) (ys : List (BitVec 128)) : andAll x (ys ++ [y]) = andAll x ys &&& y := by
  simp only [andAll, List.foldl_append, List.foldl_cons, List.foldl_nil]
def fourB (b : Bd) (x : BitVec 128) : Bool := waysW b x dirW != 0
end Go.SL
