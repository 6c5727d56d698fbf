/- Structs of numbers that a law is handed. No program in sight. -/
import Derived.Test.YtppajifkmepdnaaSlJ
set_option linter.unusedSimpArgs false
set_option linter.unusedVariables false
namespace Go.SL
open Go.ChangeShapes Go.WideShapes Go.ChangeAt Go.RowKit

theorem okWide_of_cell {P : Program} {w : World} {r : Reach} {base : Nat} {t : TypeId} {k : IntKind} {v : Value} (ht : P.underlying t = some (.int k)) (h : Cell.okWide P w r base t v) : ∃ n, v = .int k n := by
  refine okWide_int (r := r) (base := base) (w := w) ht ?_
  unfold Value.okWide
  rw [ht]
  exact h

/-- A struct of two numbers. -/
theorem open_two {P : Program} {w : World} {r : Reach} {base : Nat} {T a b : TypeId} {fs : Array Field} {k1 k2 : IntKind} {v : Value} (ht : P.underlying T = some (.struct fs)) (hct : P.cellTypes P.depth T = some [a, b]) (hcs : P.cellsOf T = 2)
    (ha : P.underlying a = some (.int k1)) (hb : P.underlying b = some (.int k2)) (h : Value.okWide P w r base T v) : ∃ x y, v = .agg #[.int k1 x, .int k2 y] := by
  unfold Value.okWide at h
  rw [ht] at h
  obtain ⟨cs, rfl, hsz, ts, hts, _, hcell⟩ := h
  rw [hct] at hts
  cases hts
  rw [hcs] at hsz
  obtain ⟨u0, h0, c0⟩ := hcell 0 cs[0] (by simp)
  obtain ⟨u1, h1, c1⟩ := hcell 1 cs[1] (by simp)
  simp at h0 h1
  subst h0; subst h1
  obtain ⟨x, hx⟩ := okWide_of_cell ha c0
  obtain ⟨y, hy⟩ := okWide_of_cell hb c1
  refine ⟨x, y, ?_⟩
  congr 1
  apply Array.ext
  · simpa using hsz
  · intro i h1 h2
    have : i = 0 ∨ i = 1 := by omega
    rcases this with rfl | rfl
    · simpa using hx
    · simpa using hy
end Go.SL
