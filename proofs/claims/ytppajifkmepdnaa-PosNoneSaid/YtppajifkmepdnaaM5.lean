/- Games cell by cell, as functions on numbers. No program in sight. -/
import Derived.Test.YtppajifkmepdnaaM4
set_option linter.unusedSimpArgs false
set_option linter.unusedVariables false
namespace Go.SL

/-- n numbers in a row. -/
def icells (n : Nat) (f : Nat → Int) : List Value := (List.range n).map fun i => .int .i64 (f i)
theorem icells_len (n : Nat) (f : Nat → Int) : (icells n f).length = n := by simp [icells]
theorem icells_get {n : Nat} (f : Nat → Int) (i : Nat) (h : i < n) : (icells n f)[i]? = some (.int .i64 (f i)) := by simp [icells, h]
theorem icells_set (n : Nat) (f : Nat → Int) (k : Nat) (v : Int) : (icells n f).set k (.int .i64 v) = icells n (fun j => if j = k then v else f j) := by
  apply List.ext_getElem
  · simp [icells]
  · intro m h1 h2
    by_cases h : k = m
    · subst h; simp [icells]
    · have : ¬ m = k := fun e => h e.symm
      simp [icells, h, this]
theorem icells_congr {n : Nat} {f g : Nat → Int} (h : ∀ i, i < n → f i = g i) : icells n f = icells n g := by
  unfold icells
  apply List.map_congr_left
  intro i hi; rw [h i (by simpa using hi)]
theorem icells_take (n : Nat) (f : Nat → Int) : (icells n f).take n = icells n f := List.take_of_length_le (by rw [icells_len]; exact Nat.le_refl _)
theorem icells_drop (n : Nat) (f : Nat → Int) : (icells n f).drop n = [] := List.drop_of_length_le (by rw [icells_len]; exact Nat.le_refl _)
theorem icells_all (n : Nat) (f : Nat → Int) : (icells n f).all isCell = true := by
  rw [List.all_eq_true]; intro v hv
  obtain ⟨i, _, rfl⟩ := List.mem_map.1 hv
  rfl

/-- A game: 132 numbers (board, cells, columns played, how many, who won). -/
abbrev RPos := Nat → Int
def rc (f : RPos) : List Value := icells 132 f
def rv (f : RPos) : Value := .agg (rc f).toArray
theorem rv_fold (f : RPos) : Value.agg (rc f).toArray = rv f := rfl
theorem rv_cells (f : RPos) : (rv f).cells = (rc f).toArray := rfl
theorem rc_len (f : RPos) : (rc f).length = 132 := icells_len _ _
theorem rc_get (f : RPos) (i : Nat) (h : i < 132) : (rc f)[i]? = some (.int .i64 (f i)) := icells_get f i h
theorem rc_0 (f : RPos) : (rc f)[0]? = some (.int .i64 (f 0)) := rc_get f 0 (by omega)
theorem rc_1 (f : RPos) : (rc f)[1]? = some (.int .i64 (f 1)) := rc_get f 1 (by omega)
theorem rc_130 (f : RPos) : (rc f)[130]? = some (.int .i64 (f 130)) := rc_get f 130 (by omega)
theorem rc_131 (f : RPos) : (rc f)[131]? = some (.int .i64 (f 131)) := rc_get f 131 (by omega)
theorem rc_take (f : RPos) : (rc f).take 132 = rc f := icells_take _ _
theorem rc_drop (f : RPos) : (rc f).drop 132 = [] := icells_drop _ _
theorem rc_all (f : RPos) : (rc f).all isCell = true := icells_all _ _
theorem rc_set (f : RPos) (k : Nat) (v : Int) : (rc f).set k (.int .i64 v) = rc (fun j => if j = k then v else f j) := icells_set _ _ _ _
theorem rc_congr {f g : RPos} (h : ∀ i, i < 132 → f i = g i) : rc f = rc g := icells_congr h
theorem rc_take2 (f : RPos) : (rc f).take 2 = [.int .i64 (f 0), .int .i64 (f 1)] := by kernel_rfl
def rZ : RPos := fun _ => 0
theorem rc_zero : rl [(132, .int .i64 0)] = rc rZ := by kernel_rfl

/-- How many below n. -/
def cnt (p : Nat → Bool) : Nat → Nat
  | 0 => 0
  | n + 1 => cnt p n + (if p n then 1 else 0)
theorem cnt_le (p : Nat → Bool) (n : Nat) : cnt p n ≤ n := by
  induction n with
  | zero => exact Nat.le_refl _
  | succ n ih => simp only [cnt]; split <;> omega
def sumN (g : Nat → Nat) : Nat → Nat
  | 0 => 0
  | n + 1 => sumN g n + g n
theorem sumN_le (g : Nat → Nat) (k n : Nat) (h : ∀ i, i < n → g i ≤ k) : sumN g n ≤ n * k := by
  induction n with
  | zero => simp [sumN]
  | succ n ih =>
    have := ih (fun i hi => h i (by omega))
    have := h n (by omega)
    simp only [sumN, Nat.succ_mul]; omega

def rB (f : RPos) : Bd := ⟨f 0, f 1⟩
/-- The board of a game is one that may be, or none at all. -/
def RW (f : RPos) : Prop := (0 ≤ f 0 ∧ f 0 ≤ 8) ∧ (0 ≤ f 1 ∧ f 1 ≤ 8)
def rAt (f : RPos) (x y : Int) : Int := if 0 ≤ x ∧ x < f 0 ∧ 0 ≤ y ∧ y < f 1 then f (2 + x.toNat * 8 + y.toNat) else 0
def rHeight (f : RPos) (x : Int) : Nat := cnt (fun y => decide (rAt f x y ≠ 0)) (f 1).toNat
def rTurn (f : RPos) : Int := if (f 130).tmod 2 = 0 then 1 else 2
def rOver (f : RPos) : Bool := decide (f 131 ≠ 0) || f 130 == f 0 * f 1
def rRow (f : RPos) (x y dx dy who : Int) : Bool := (List.range 4).all fun i => decide (rAt f (x + (i : Nat) * dx) (y + (i : Nat) * dy) = who)
theorem rRow_iff {f : RPos} {x y dx dy who : Int} : rRow f x y dx dy who = true ↔ ∀ i : Nat, i < 4 → rAt f (x + i * dx) (y + i * dy) = who := by
  simp only [rRow, List.all_eq_true, List.mem_range, decide_eq_true_eq]
def dxN (d : Nat) : Int := match d with | 0 => 1 | 1 => 1 | 2 => 0 | _ => -1
def dyN (d : Nat) : Int := match d with | 0 => 0 | _ => 1
def hitN (a b dx dy x y : Int) (n : Nat) : Bool := (List.range n).any fun i => decide (x < 0) || (decide (a + i * dx = x) && decide (b + i * dy = y))
theorem hitN_iff {a b dx dy x y : Int} {n : Nat} : hitN a b dx dy x y n = true ↔ ∃ i : Nat, i < n ∧ (x < 0 ∨ (a + i * dx = x ∧ b + i * dy = y)) := by
  simp only [hitN, List.any_eq_true, List.mem_range, Bool.or_eq_true, Bool.and_eq_true, decide_eq_true_eq]
def rOne (f : RPos) (who x y : Int) (a b d : Nat) : Nat := if rRow f a b (dxN d) (dyN d) who && hitN a b (dxN d) (dyN d) x y 4 then 1 else 0
def rTwo (f : RPos) (who x y : Int) (a b : Nat) : Nat := sumN (rOne f who x y a b) 4
def rThree (f : RPos) (who x y : Int) (a : Nat) : Nat := sumN (rTwo f who x y a) (f 1).toNat
def rRows (f : RPos) (who x y : Int) : Nat := sumN (rThree f who x y) (f 0).toNat
theorem rOne_le (f : RPos) (who x y : Int) (a b d : Nat) : rOne f who x y a b d ≤ 1 := by unfold rOne; split <;> omega
theorem rTwo_le (f : RPos) (who x y : Int) (a b : Nat) : rTwo f who x y a b ≤ 4 := by
  have := sumN_le (rOne f who x y a b) 1 4 (fun i _ => rOne_le _ _ _ _ _ _ _); unfold rTwo; omega
theorem rThree_le (f : RPos) (who x y : Int) (a : Nat) (hf : f 1 ≤ 8) : rThree f who x y a ≤ 32 := by
  have := sumN_le (rTwo f who x y a) 4 (f 1).toNat (fun i _ => rTwo_le _ _ _ _ _ _); unfold rThree; omega
theorem dx_get (d : Nat) (h : d < 4) : ([.int .i64 1, .int .i64 1, .int .i64 0, .int .i64 (-1)] : List Value)[d]? = some (.int .i64 (dxN d)) := by
  match d, h with
  | 0, _ => rfl
  | 1, _ => rfl
  | 2, _ => rfl
  | 3, _ => rfl
theorem dy_get (d : Nat) (h : d < 4) : ([.int .i64 0, .int .i64 1, .int .i64 1, .int .i64 1] : List Value)[d]? = some (.int .i64 (dyN d)) := by
  match d, h with
  | 0, _ => rfl
  | 1, _ => rfl
  | 2, _ => rfl
  | 3, _ => rfl
theorem dx_bd (d : Nat) : -1 ≤ dxN d ∧ dxN d ≤ 1 := by unfold dxN; split <;> omega
theorem dy_bd (d : Nat) : -1 ≤ dyN d ∧ dyN d ≤ 1 := by unfold dyN; split <;> omega
theorem hitN_succ (a b dx dy x y : Int) (n : Nat) : hitN a b dx dy x y (n + 1) = (hitN a b dx dy x y n || (decide (x < 0) || (decide (a + n * dx = x) && decide (b + n * dy = y)))) := by
  simp [hitN, List.range_succ]
def rCan (f : RPos) (x : Int) : Int := if rOver f then 13 else if x < 0 ∨ f 0 ≤ x then 11 else if (rHeight f x : Int) = f 1 then 12 else 0
def rSet (f : RPos) (k : Nat) (v : Int) : RPos := fun j => if j = k then v else f j
theorem rSet_eq (f : RPos) (k : Nat) (v : Int) : rSet f k v k = v := if_pos rfl
theorem rSet_ne (f : RPos) (k : Nat) (v : Int) {j : Nat} (h : j ≠ k) : rSet f k v j = f j := if_neg h
theorem rc_setr (f : RPos) (k : Nat) (v : Int) : (rc f).set k (.int .i64 v) = rc (rSet f k v) := rc_set f k v
def rStone (f : RPos) (x : Int) : RPos := rSet (rSet (rSet f (2 + x.toNat * 8 + rHeight f x) (rTurn f)) (66 + (f 130).toNat) x) 130 (f 130 + 1)
def rPut (f : RPos) (x : Int) : RPos := if rRows (rStone f x) (rTurn f) x (rHeight f x) > 0 then rSet (rStone f x) 131 (rTurn f) else rStone f x
def rDrop (f : RPos) (x : Int) : RPos := if rCan f x = 0 then rPut f x else f
/-- A game's numbers are in their bounds. -/
def RI (f : RPos) : Prop := RW f ∧ 0 ≤ f 130 ∧ f 130 ≤ f 0 * f 1
theorem rHeight_le (f : RPos) (x : Int) (hf : RW f) : (rHeight f x : Int) ≤ f 1 := by
  have := cnt_le (fun y => decide (rAt f x y ≠ 0)) (f 1).toNat
  have := hf.2.1; unfold rHeight; omega
theorem rCan_zero {f : RPos} {x : Int} (h : rCan f x = 0) : rOver f = false ∧ 0 ≤ x ∧ x < f 0 ∧ (rHeight f x : Int) ≠ f 1 := by
  unfold rCan at h
  split at h
  · omega
  · rename_i h1
    split at h
    · omega
    · rename_i h2
      split at h
      · omega
      · rename_i h3
        exact ⟨by simpa using h1, by omega, by omega, h3⟩
theorem rOver_false {f : RPos} (h : rOver f = false) : f 131 = 0 ∧ f 130 ≠ f 0 * f 1 := by
  simp [rOver] at h; exact h
def rNew (b : Bd) : RPos := if mayB b then fun j => if j = 0 then b.W else if j = 1 then b.H else 0 else rZ
theorem s0_Put (f : RPos) (x : Int) (hx : 0 ≤ x) (hn : 0 ≤ f 130) {j : Nat} (hj : j < 2) : rPut f x j = f j := by
  have : rStone f x j = f j := by
    unfold rStone
    rw [rSet_ne _ _ _ (by omega), rSet_ne _ _ _ (by omega), rSet_ne _ _ _ (by omega)]
  unfold rPut; split
  · rw [rSet_ne _ _ _ (by omega), this]
  · exact this
theorem n_Put (f : RPos) (x : Int) : rPut f x 130 = f 130 + 1 := by
  have : rStone f x 130 = f 130 + 1 := by unfold rStone; rw [rSet_eq]
  unfold rPut; split
  · rw [rSet_ne _ _ _ (by omega), this]
  · exact this
theorem RI_put {f : RPos} {x : Int} (hf : RI f) (h : rCan f x = 0) : RI (rPut f x) := by
  obtain ⟨c1, c2, c3, c4⟩ := rCan_zero h
  obtain ⟨c5, c6⟩ := rOver_false c1
  obtain ⟨⟨w1, w2⟩, h0, h1⟩ := hf
  have e0 := s0_Put f x c2 h0 (j := 0) (by omega)
  have e1 := s0_Put f x c2 h0 (j := 1) (by omega)
  refine ⟨⟨by rw [e0]; exact w1, by rw [e1]; exact w2⟩, ?_, ?_⟩
  · rw [n_Put]; omega
  · rw [n_Put, e0, e1]; omega
theorem RI_new (b : Bd) : RI (rNew b) := by
  unfold RI RW rNew
  split
  · rename_i h
    have hb := mayB_iff.1 h
    have := Int.mul_nonneg (show 0 ≤ b.W by omega) (show 0 ≤ b.H by omega)
    simp; omega
  · simp [rZ]
def rFromL (f : RPos) : List Int → Nat → RPos × Nat × Int
  | [], i => (f, i, 0)
  | x :: xs, i => if rCan f x = 0 then rFromL (rPut f x) xs (i + 1) else (f, i, rCan f x)
def rFrom (b : Bd) (xs : List Int) : RPos × Nat × Int := if mayB b then rFromL (rNew b) xs 0 else (rZ, 0, 10)
def rColsN (f : RPos) (n : Nat) : List Int := ((List.range n).filter fun x => decide (rCan f (x : Nat) = 0)).map fun x => ((x : Nat) : Int)
def rCols (f : RPos) : List Int := rColsN f (f 0).toNat
end Go.SL
namespace Go.SL
def cellsV (l : List (Int × Int)) : List (List Value) := l.map fun c => [.int .i64 c.1, .int .i64 c.2]
theorem cellsV_len (l : List (Int × Int)) : (cellsV l).length = l.length := by simp [cellsV]
theorem cellsV_el (l : List (Int × Int)) : ∀ e ∈ cellsV l, e.length = 2 := by
  intro e he; obtain ⟨c, _, rfl⟩ := List.mem_map.1 he; rfl
theorem cellsV_snoc (l : List (Int × Int)) (x y : Int) : (cellsV (l ++ [(x, y)])).flatten = (cellsV l).flatten ++ [.int .i64 x, .int .i64 y] := by simp [cellsV]
def placeB (b : Bd) (c : Int × Int) : Int := c.1 * (b.H + 1) + c.2
def setW (b : Bd) (l : List (Int × Int)) : BitVec 128 := ofL (l.map (placeB b))
def rowCells (f : RPos) (who x : Int) (n : Nat) : List (Int × Int) := ((List.range n).filter fun (y : Nat) => decide (rAt f x y = who)).map fun (y : Nat) => (x, (y : Int))
def colCells (f : RPos) (who : Int) (n : Nat) : List (Int × Int) := (List.range n).flatMap fun (x : Nat) => rowCells f who x (f 1).toNat
def ofW (f : RPos) (who : Int) : BitVec 128 := setW (rB f) (colCells f who (f 0).toNat)
theorem rowCells_len (f : RPos) (who x : Int) (n : Nat) : (rowCells f who x n).length ≤ n := by
  have := List.length_filter_le (fun (y : Nat) => decide (rAt f x y = who)) (List.range n)
  simpa [rowCells] using this
theorem rowCells_succ (f : RPos) (who x : Int) (n : Nat) : rowCells f who x (n + 1) = rowCells f who x n ++ (if rAt f x n = who then [(x, (n : Int))] else []) := by
  simp only [rowCells, List.range_succ, List.filter_append, List.map_append]
  congr 1
  by_cases h : rAt f x n = who <;> simp [h]
theorem colCells_succ (f : RPos) (who : Int) (n : Nat) : colCells f who (n + 1) = colCells f who n ++ rowCells f who n (f 1).toNat := by
  simp [colCells, List.range_succ, List.flatMap_append]
theorem colCells_len (f : RPos) (who : Int) (n : Nat) : (colCells f who n).length ≤ n * (f 1).toNat := by
  induction n with
  | zero => simp [colCells]
  | succ n ih =>
    have := rowCells_len f who n (f 1).toNat
    rw [colCells_succ, List.length_append, Nat.succ_mul]; omega
theorem rowCells_mem {f : RPos} {who x : Int} {n : Nat} {c : Int × Int} (h : c ∈ rowCells f who x n) : c.1 = x ∧ 0 ≤ c.2 ∧ c.2 < n := by
  obtain ⟨y, hy, rfl⟩ := List.mem_map.1 h
  have := List.mem_range.1 (List.mem_filter.1 hy).1
  exact ⟨rfl, by dsimp only; omega, by dsimp only; omega⟩
theorem colCells_mem {f : RPos} {who : Int} {n : Nat} {c : Int × Int} (h : c ∈ colCells f who n) : 0 ≤ c.1 ∧ c.1 < n ∧ 0 ≤ c.2 ∧ c.2 < (f 1).toNat := by
  obtain ⟨x, hx, hc⟩ := List.mem_flatMap.1 h
  have h1 := List.mem_range.1 hx
  have := rowCells_mem hc
  omega
def rMine (f : RPos) : BitVec 128 := ofW f (rTurn f)
def rTheirs (f : RPos) : BitVec 128 := ofW f (3 - rTurn f)
def rWins (f : RPos) (x : Int) : Bool := decide (rCan f x = 0) && (rDrop f x 131 != 0)
end Go.SL
