/- When a position in words is a game cell by cell. No program in sight. -/
import Derived.Test.YtppajifkmepdnaaM5
set_option linter.unusedSimpArgs false
set_option linter.unusedVariables false
namespace Go.SL

/-- The width of a column, with its top place. -/
def kf (f : RPos) : Nat := (f 1 + 1).toNat
/-- Of the cells for which q holds: is there one at place i? -/
def own (f : RPos) (q : Int → Bool) (i : Nat) : Bool := decide (i / kf f < (f 0).toNat) && (decide (i % kf f < (f 1).toNat) && q (f (2 + i / kf f * 8 + i % kf f)))

structure Sim (p : PPos) (f : RPos) : Prop where
  may : mayB p.b = true
  b : p.b = rB f
  full : p.full = fullB p.b
  bottom : p.bottom = eachB p.b 0
  n : p.n = f 130
  ri : RI f
  won : p.won = decide (f 131 ≠ 0)
  side : f 131 ≠ 0 → f 131 = sideP (f 130 + 1)
  cell : ∀ x y : Nat, (x : Int) < f 0 → (y : Int) < f 1 → f (2 + x * 8 + y) = 0 ∨ f (2 + x * 8 + y) = 1 ∨ f (2 + x * 8 + y) = 2
  grav : ∀ x y y' : Nat, (x : Int) < f 0 → (y : Int) < f 1 → y' < y → f (2 + x * 8 + y) ≠ 0 → f (2 + x * 8 + y') ≠ 0
  stones : ∀ i, i < 128 → p.stones.getLsbD i = own f (fun v => decide (v ≠ 0)) i
  mine : ∀ i, i < 128 → p.mine.getLsbD i = own f (fun v => decide (v = rTurn f)) i
  nofour : f 131 = 0 → ∀ (a b d : Nat) (who : Int), (a : Int) < f 0 → (b : Int) < f 1 → d < 4 → who ≠ 0 → rRow f a b (dxN d) (dyN d) who = false

/-- What a position tells is what the game tells. -/
structure Like (p : PPos) (f : RPos) : Prop where
  ri : RI f
  z : isZ p = false
  b : p.b = rB f
  mine : p.mine = rMine f
  theirs : theirsP p = rTheirs f
  all : p.stones = rMine f ||| rTheirs f
  n : p.n = f 130
  turn : turnP p = rTurn f
  won : wonP p = f 131
  over : overP p = rOver f
  can : ∀ x, canP p x = rCan f x
  wins : ∀ x, winsP p x = rWins f x
end Go.SL
