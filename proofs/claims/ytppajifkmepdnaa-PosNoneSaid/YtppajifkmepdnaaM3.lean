/- Positions in words. No program in sight. -/
import Derived.Test.YtppajifkmepdnaaM2
set_option linter.unusedSimpArgs false
set_option linter.unusedVariables false
namespace Go.SL

structure PPos where
  b : Bd
  full : BitVec 128
  bottom : BitVec 128
  mine : BitVec 128
  stones : BitVec 128
  n : Int
  won : Bool
def ppv (p : PPos) : Value := .agg #[.int .i64 p.b.W, .int .i64 p.b.H, .int .u64 (hi p.full : Nat), .int .u64 (lo p.full : Nat), .int .u64 (hi p.bottom : Nat), .int .u64 (lo p.bottom : Nat),
  .int .u64 (hi p.mine : Nat), .int .u64 (lo p.mine : Nat), .int .u64 (hi p.stones : Nat), .int .u64 (lo p.stones : Nat), .int .i64 p.n, .bool p.won]
theorem ppv_cells (p : PPos) : (ppv p).cells = #[.int .i64 p.b.W, .int .i64 p.b.H, .int .u64 (hi p.full : Nat), .int .u64 (lo p.full : Nat), .int .u64 (hi p.bottom : Nat), .int .u64 (lo p.bottom : Nat),
  .int .u64 (hi p.mine : Nat), .int .u64 (lo p.mine : Nat), .int .u64 (hi p.stones : Nat), .int .u64 (lo p.stones : Nat), .int .i64 p.n, .bool p.won] := rfl
theorem ppv_fold (p : PPos) : Value.agg #[.int .i64 p.b.W, .int .i64 p.b.H, .int .u64 (hi p.full : Nat), .int .u64 (lo p.full : Nat), .int .u64 (hi p.bottom : Nat), .int .u64 (lo p.bottom : Nat),
  .int .u64 (hi p.mine : Nat), .int .u64 (lo p.mine : Nat), .int .u64 (hi p.stones : Nat), .int .u64 (lo p.stones : Nat), .int .i64 p.n, .bool p.won] = ppv p := rfl
/-- A position's cells, left as they are. -/
def pc (p : PPos) : List Value := (ppv p).cells.toList
theorem ppv_pc (p : PPos) : (ppv p).cells = (pc p).toArray := rfl
theorem pc_len (p : PPos) : (pc p).length = 12 := rfl
theorem pc_take (p : PPos) : (pc p).take 12 = pc p := rfl
theorem pc_drop (p : PPos) : (pc p).drop 12 = [] := rfl
theorem pc_all (p : PPos) : (pc p).all isCell = true := rfl
theorem pc_fold (p : PPos) : Value.agg (pc p).toArray = ppv p := rfl
def ppZ : PPos := ⟨⟨0, 0⟩, 0, 0, 0, 0, 0, false⟩
theorem ppZ_v : Value.agg #[.int .i64 0, .int .i64 0, .int .u64 0, .int .u64 0, .int .u64 0, .int .u64 0, .int .u64 0, .int .u64 0, .int .u64 0, .int .u64 0, .int .i64 0, .bool false] = ppv ppZ := by
  simp [ppv, ppZ, hi, lo]
def isZ (p : PPos) : Bool := decide (p.b.W = 0) && (decide (p.b.H = 0) && (decide (((hi p.full : Nat) : Int) = 0) && (decide (((lo p.full : Nat) : Int) = 0) && (decide (((hi p.bottom : Nat) : Int) = 0) && (decide (((lo p.bottom : Nat) : Int) = 0) &&
  (decide (((hi p.mine : Nat) : Int) = 0) && (decide (((lo p.mine : Nat) : Int) = 0) && (decide (((hi p.stones : Nat) : Int) = 0) && (decide (((lo p.stones : Nat) : Int) = 0) && (decide (p.n = 0) && (p.won == false && true)))))))))))
theorem eqc_ppv (neg : Bool) (p : PPos) : pv (.eqc neg [some .i64, some .i64, some .u64, some .u64, some .u64, some .u64, some .u64, some .u64, some .u64, some .u64, some .i64, none])
    [.agg #[.int .i64 p.b.W, .int .i64 p.b.H, .int .u64 (hi p.full : Nat), .int .u64 (lo p.full : Nat), .int .u64 (hi p.bottom : Nat), .int .u64 (lo p.bottom : Nat),
      .int .u64 (hi p.mine : Nat), .int .u64 (lo p.mine : Nat), .int .u64 (hi p.stones : Nat), .int .u64 (lo p.stones : Nat), .int .i64 p.n, .bool p.won],
      .agg #[.int .i64 0, .int .i64 0, .int .u64 0, .int .u64 0, .int .u64 0, .int .u64 0, .int .u64 0, .int .u64 0, .int .u64 0, .int .u64 0, .int .i64 0, .bool false]] = some (.bool (if neg then !isZ p else isZ p)) := by
  simp only [pv, eqCells, isZ, and_self, if_true, Option.map_some]
theorem eqc_ppv' (neg : Bool) (p : PPos) : pv (.eqc neg [some .i64, some .i64, some .u64, some .u64, some .u64, some .u64, some .u64, some .u64, some .u64, some .u64, some .i64, none])
    [ppv p, .agg #[.int .i64 0, .int .i64 0, .int .u64 0, .int .u64 0, .int .u64 0, .int .u64 0, .int .u64 0, .int .u64 0, .int .u64 0, .int .u64 0, .int .i64 0, .bool false]] = some (.bool (if neg then !isZ p else isZ p)) := eqc_ppv neg p
theorem isZ_of {p : PPos} (h : p.b.W ≠ 0) : isZ p = false := by simp [isZ, h]
theorem isZ_zero : isZ ppZ = true := by simp [isZ, ppZ, hi, lo]
theorem bdv_fold (b : Bd) : Value.agg #[.int .i64 b.W, .int .i64 b.H] = bdv b := rfl
theorem tmod2 (n : Int) : -1 ≤ n.tmod 2 ∧ n.tmod 2 ≤ 1 := by
  rw [Int.tmod_eq_emod]; split <;> omega
def overP (p : PPos) : Bool := p.won || p.n == cellsB p.b
def sideP (n : Int) : Int := 1 + n.tmod 2
def wonP (p : PPos) : Int := if p.won then sideP (p.n + 1) else 0
def turnP (p : PPos) : Int := if isZ p then 0 else sideP p.n
def atP (p : PPos) (x : Int) : BitVec 128 := p.stones + p.bottom &&& p.full &&& colB p.b x
def canP (p : PPos) (x : Int) : Int := if isZ p then 1 else if overP p then 13 else if x < 0 ∨ p.b.W ≤ x then 11 else if atP p x = 0 then 12 else 0
def theirsP (p : PPos) : BitVec 128 := p.stones ^^^ p.mine
def putP (p : PPos) (x : Int) : PPos := { p with mine := theirsP p, stones := p.stones ||| atP p x, n := p.n + 1, won := fourB p.b (p.mine ||| atP p x) }
def dropP (p : PPos) (x : Int) : PPos := if canP p x = 0 then putP p x else ppZ
def winsP (p : PPos) (x : Int) : Bool := decide (canP p x = 0) && (putP p x).won
def newP (b : Bd) : PPos := if mayB b then ⟨b, fullB b, eachB b 0, 0, 0, 0, false⟩ else ppZ
def newE (b : Bd) : Int := if mayB b then 0 else 10
end Go.SL
namespace Go.SL
/-- A play from a position: where it comes to, how many stones it could drop, and why it stopped. -/
def fromL (p : PPos) : List Int → Nat → PPos × Nat × Int
  | [], i => (p, i, 0)
  | x :: xs, i => if canP p x = 0 then fromL (putP p x) xs (i + 1) else (p, i, canP p x)
def fromP (b : Bd) (xs : List Int) : PPos × Nat × Int := if mayB b then fromL (newP b) xs 0 else (ppZ, 0, 10)
end Go.SL
