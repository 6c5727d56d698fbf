/- Four in a row: in words, and cell by cell. No program in sight. -/
import Derived.Test.YtppajifkmepdnaaM7b
set_option linter.unusedSimpArgs false
set_option linter.unusedVariables false
namespace Go.SL

def stepN (H k : Nat) : Nat := match k with | 0 => 1 | 1 => H | 2 => H + 1 | _ => H + 2
theorem dirN_step {b : Bd} {W H : Nat} (d : Dim b W H) (k : Nat) : dirN b k = (stepN H k : Nat) := by
  have := d.h
  unfold dirN stepN; split <;> simp_all
theorem upW_get (y : BitVec 128) (n i : Nat) : (upW y (n : Int)).getLsbD i = (decide (i < 128) && (!decide (i < n) && y.getLsbD (i - n))) := by
  unfold upW
  rw [Int.toNat_natCast, BitVec.getLsbD_shiftLeft, Bool.and_assoc]
theorem moveW_get (y : BitVec 128) (D s i : Nat) : (moveW y (D : Int) (s : Int)).getLsbD i = (decide (i < 128) && (!decide (i < s * D) && y.getLsbD (i - s * D))) := by
  unfold moveW
  rw [if_neg (by omega), show (s : Int) * (D : Int) = ((s * D : Nat) : Int) from by simp, upW_get]
theorem dirW_get (y : BitVec 128) (D i : Nat) (hi : i < 128) : (dirW y (D : Int)).getLsbD i = true ↔ ∃ q, i = q + 3 * D ∧ y.getLsbD q = true ∧ y.getLsbD (q + D) = true ∧ y.getLsbD (q + 2 * D) = true ∧ y.getLsbD (q + 3 * D) = true := by
  unfold dirW
  have m0 := moveW_get y D 0 i
  have m1 := moveW_get y D 1 i
  have m2 := moveW_get y D 2 i
  have m3 := moveW_get y D 3 i
  simp only [Nat.zero_mul, Nat.one_mul, Nat.sub_zero] at m0 m1 m2 m3
  rw [BitVec.getLsbD_and, BitVec.getLsbD_and, BitVec.getLsbD_and]
  rw [show (0 : Int) = ((0 : Nat) : Int) from rfl, show (1 : Int) = ((1 : Nat) : Int) from rfl, show (2 : Int) = ((2 : Nat) : Int) from rfl, show (3 : Int) = ((3 : Nat) : Int) from rfl, m0, m1, m2, m3]
  simp only [hi, decide_true, Bool.true_and, Bool.and_eq_true, Bool.not_eq_true', decide_eq_false_iff_not]
  constructor
  · rintro ⟨⟨⟨⟨_, h0⟩, h1, h1'⟩, h2, h2'⟩, h3, h3'⟩
    refine ⟨i - 3 * D, by omega, h3', ?_, ?_, ?_⟩
    · rw [show i - 3 * D + D = i - 2 * D from by omega]; exact h2'
    · rw [show i - 3 * D + 2 * D = i - D from by omega]; exact h1'
    · rw [show i - 3 * D + 3 * D = i from by omega]; exact h0
  · rintro ⟨q, rfl, h0, h1, h2, h3⟩
    refine ⟨⟨⟨⟨by omega, h3⟩, by omega, ?_⟩, by omega, ?_⟩, by omega, ?_⟩
    · rw [show q + 3 * D - D = q + 2 * D from by omega]; exact h2
    · rw [show q + 3 * D - 2 * D = q + D from by omega]; exact h1
    · rw [show q + 3 * D - 3 * D = q from by omega]; exact h0
theorem waysN_get (b : Bd) (x : BitVec 128) (g : BitVec 128 → Int → BitVec 128) (i : Nat) : ∀ n, (waysN b x g n).getLsbD i = true ↔ ∃ k, k < n ∧ (g (x &&& fullB b) (dirN b k)).getLsbD i = true := by
  intro n
  induction n with
  | zero => simp [waysN]
  | succ n ih =>
    rw [waysN_succ, BitVec.getLsbD_or, Bool.or_eq_true, ih]
    constructor
    · rintro (⟨k, h1, h2⟩ | h)
      · exact ⟨k, by omega, h2⟩
      · exact ⟨n, by omega, h⟩
    · rintro ⟨k, h1, h2⟩
      rcases Nat.lt_or_ge k n with h3 | h3
      · exact .inl ⟨k, h3, h2⟩
      · have : k = n := by omega
        subst this; exact .inr h2
theorem bv_ne {x : BitVec 128} : (x != 0) = true ↔ ∃ i, i < 128 ∧ x.getLsbD i = true := by
  constructor
  · intro h
    apply Classical.byContradiction
    intro hn
    have : x = 0 := word_ext fun i hi => by
      have : ¬ x.getLsbD i = true := fun h => hn ⟨i, hi, h⟩
      simpa using this
    rw [this] at h; simp at h
  · rintro ⟨i, hi, h⟩
    rw [bne_iff_ne]
    rintro rfl
    simp at h
theorem fourB_iff {b : Bd} {W H : Nat} (d : Dim b W H) {y : BitVec 128} (hy : y &&& fullB b = y) (hlt : ∀ i, y.getLsbD i = true → i < 128) : fourB b y = true ↔ ∃ k q, k < 4 ∧ y.getLsbD q = true ∧ y.getLsbD (q + stepN H k) = true ∧ y.getLsbD (q + 2 * stepN H k) = true ∧ y.getLsbD (q + 3 * stepN H k) = true := by
  unfold fourB waysW
  rw [if_pos d.may, bv_ne]
  constructor
  · rintro ⟨i, hi, h⟩
    obtain ⟨k, hk, h⟩ := (waysN_get _ _ _ _ _).1 h
    rw [hy, dirN_step d] at h
    obtain ⟨q, _, h0, h1, h2, h3⟩ := (dirW_get _ _ _ hi).1 h
    exact ⟨k, q, hk, h0, h1, h2, h3⟩
  · rintro ⟨k, q, hk, h0, h1, h2, h3⟩
    refine ⟨q + 3 * stepN H k, hlt _ h3, (waysN_get _ _ _ _ _).2 ⟨k, hk, ?_⟩⟩
    rw [hy, dirN_step d]
    exact (dirW_get _ _ _ (hlt _ h3)).2 ⟨q, rfl, h0, h1, h2, h3⟩

theorem rAt_inv {g : RPos} {W H : Nat} (w : g 0 = (W : Int)) (h : g 1 = (H : Int)) {x y t : Int} (ht : t ≠ 0) (ha : rAt g x y = t) : ∃ X Y, X < W ∧ Y < H ∧ x = (X : Int) ∧ y = (Y : Int) ∧ g (2 + X * 8 + Y) = t := by
  unfold rAt at ha
  split at ha
  · rename_i hr
    refine ⟨x.toNat, y.toNat, by omega, by omega, by omega, by omega, ha⟩
  · exact absurd ha.symm ht
theorem row_of {g : RPos} {W H : Nat} (w : g 0 = (W : Int)) (h : g 1 = (H : Int)) {a b dx dy t : Int} (X Y : Nat → Nat) (hx : ∀ j, j < 4 → X j < W ∧ Y j < H ∧ (X j : Int) = a + j * dx ∧ (Y j : Int) = b + j * dy ∧ g (2 + X j * 8 + Y j) = t) : rRow g a b dx dy t = true := by
  rw [rRow_iff]
  intro i hi
  obtain ⟨h1, h2, h3, h4, h5⟩ := hx i hi
  rw [← h3, ← h4, rAt_in w h h1 h2, h5]
/-- Two cells whose places are so far apart: how they lie. -/
theorem step_cells {H X Y X' Y' : Nat} (h4 : 4 ≤ H) (h8 : H ≤ 8) (hY : Y < H) (hY' : Y' < H) (k : Nat) (hk : k < 4) (he : X' * (H + 1) + Y' = X * (H + 1) + Y + stepN H k) :
    (k = 0 → X' = X ∧ Y' = Y + 1) ∧ (k = 1 → X' = X + 1 ∧ Y = Y' + 1) ∧ (k = 2 → X' = X + 1 ∧ Y' = Y) ∧ (k = 3 → X' = X + 1 ∧ Y' = Y + 1) := by
  have hc : H = 4 ∨ H = 5 ∨ H = 6 ∨ H = 7 ∨ H = 8 := by omega
  have hk' : k = 0 ∨ k = 1 ∨ k = 2 ∨ k = 3 := by omega
  rcases hc with rfl | rfl | rfl | rfl | rfl <;> rcases hk' with rfl | rfl | rfl | rfl <;> simp only [stepN] at he <;> omega

theorem four_rows {b : Bd} {W H : Nat} (d : Dim b W H) {g : RPos} (w : g 0 = (W : Int)) (h : g 1 = (H : Int)) {t : Int} (ht : t ≠ 0) {y : BitVec 128} (hy : ∀ i, i < 128 → y.getLsbD i = own g (fun v => decide (v = t)) i) :
    fourB b y = true ↔ ∃ (a c e : Nat), a < W ∧ c < H ∧ e < 4 ∧ rRow g a c (dxN e) (dyN e) t = true := by
  have hlt : ∀ i, y.getLsbD i = true → i < 128 := by
    intro i hi
    rcases Nat.lt_or_ge i 128 with h1 | h1
    · exact h1
    · rw [BitVec.getLsbD_of_ge _ _ h1] at hi; cases hi
  have inv : ∀ i, y.getLsbD i = true → ∃ X Y, X < W ∧ Y < H ∧ i = X * (H + 1) + Y ∧ g (2 + X * 8 + Y) = t := by
    intro i hi
    have h1 := hy i (hlt i hi)
    rw [hi] at h1
    obtain ⟨X, Y, h2, h3, h4, h5⟩ := own_inv w h h1.symm
    exact ⟨X, Y, h2, h3, h4, by simpa using h5⟩
  have at_ : ∀ X Y, X < W → Y < H → g (2 + X * 8 + Y) = t → y.getLsbD (X * (H + 1) + Y) = true := by
    intro X Y h1 h2 h3
    have hm : (X + 1) * (H + 1) ≤ W * (H + 1) := Nat.mul_le_mul_right _ (by omega)
    rw [Nat.succ_mul] at hm
    have := d.nk
    rw [hy _ (by omega), own_at w h _ h1 h2]; simp [h3]
  have hfull : y &&& fullB b = y := word_ext fun i hi => by
    rw [BitVec.getLsbD_and]
    cases hb : y.getLsbD i
    · rfl
    · obtain ⟨X, Y, h1, h2, rfl, _⟩ := inv i hb
      rw [full_get d, Bool.true_and]
      have e1 : (X * (H + 1) + Y) / (H + 1) = X := by rw [Nat.mul_comm, Nat.mul_add_div (by omega), Nat.div_eq_of_lt (by omega)]; omega
      have e2 : (X * (H + 1) + Y) % (H + 1) = Y := by rw [Nat.mul_comm, Nat.mul_add_mod, Nat.mod_eq_of_lt (by omega)]
      rw [e1, e2]; simp [h1, h2]
  rw [fourB_iff d hfull hlt]
  constructor
  · rintro ⟨k, q, hk, h0, h1, h2, h3⟩
    obtain ⟨X0, Y0, x0, y0, rfl, g0⟩ := inv _ h0
    obtain ⟨X1, Y1, x1, y1, e1, g1⟩ := inv _ h1
    obtain ⟨X2, Y2, x2, y2, e2, g2⟩ := inv _ h2
    obtain ⟨X3, Y3, x3, y3, e3, g3⟩ := inv _ h3
    have s1 := step_cells (X := X0) (X' := X1) d.h4 d.h8 y0 y1 k hk (by omega)
    have s2 := step_cells (X := X1) (X' := X2) d.h4 d.h8 y1 y2 k hk (by omega)
    have s3 := step_cells (X := X2) (X' := X3) d.h4 d.h8 y2 y3 k hk (by omega)
    have hk' : k = 0 ∨ k = 1 ∨ k = 2 ∨ k = 3 := by omega
    rcases hk' with rfl | rfl | rfl | rfl
    · have s1 := s1.1 rfl
      have s2 := s2.1 rfl
      have s3 := s3.1 rfl
      refine ⟨X0, Y0, 2, x0, y0, by omega, row_of w h (fun j => X0) (fun j => Y0 + j) ?_⟩
      intro j hj
      have hj' : j = 0 ∨ j = 1 ∨ j = 2 ∨ j = 3 := by omega
      obtain ⟨rfl, rfl⟩ := s1; obtain ⟨rfl, rfl⟩ := s2; obtain ⟨rfl, rfl⟩ := s3
      rcases hj' with rfl | rfl | rfl | rfl <;> refine ⟨by omega, by omega, by simp [dxN], by simp [dyN], by assumption⟩
    · have s1 := s1.2.1 rfl
      have s2 := s2.2.1 rfl
      have s3 := s3.2.1 rfl
      refine ⟨X3, Y3, 3, x3, y3, by omega, row_of w h (fun j => X3 - j) (fun j => Y3 + j) ?_⟩
      intro j hj
      have hj' : j = 0 ∨ j = 1 ∨ j = 2 ∨ j = 3 := by omega
      obtain ⟨rfl, rfl⟩ := s1; obtain ⟨rfl, rfl⟩ := s2; obtain ⟨rfl, rfl⟩ := s3
      rcases hj' with rfl | rfl | rfl | rfl <;> refine ⟨by omega, by omega, by simp [dxN]; try omega, by simp [dyN]; try omega, by first | assumption | (simp only [Nat.add_sub_cancel, show X0 + 1 + 1 + 1 - 1 = X0 + 1 + 1 from by omega, show X0 + 1 + 1 + 1 - 2 = X0 + 1 from by omega, show X0 + 1 + 1 + 1 - 3 = X0 from by omega]; assumption)⟩
    · have s1 := s1.2.2.1 rfl
      have s2 := s2.2.2.1 rfl
      have s3 := s3.2.2.1 rfl
      refine ⟨X0, Y0, 0, x0, y0, by omega, row_of w h (fun j => X0 + j) (fun j => Y0) ?_⟩
      intro j hj
      have hj' : j = 0 ∨ j = 1 ∨ j = 2 ∨ j = 3 := by omega
      obtain ⟨rfl, rfl⟩ := s1; obtain ⟨rfl, rfl⟩ := s2; obtain ⟨rfl, rfl⟩ := s3
      rcases hj' with rfl | rfl | rfl | rfl <;> refine ⟨by omega, by omega, by simp [dxN], by simp [dyN], by assumption⟩
    · have s1 := s1.2.2.2 rfl
      have s2 := s2.2.2.2 rfl
      have s3 := s3.2.2.2 rfl
      refine ⟨X0, Y0, 1, x0, y0, by omega, row_of w h (fun j => X0 + j) (fun j => Y0 + j) ?_⟩
      intro j hj
      have hj' : j = 0 ∨ j = 1 ∨ j = 2 ∨ j = 3 := by omega
      obtain ⟨rfl, rfl⟩ := s1; obtain ⟨rfl, rfl⟩ := s2; obtain ⟨rfl, rfl⟩ := s3
      rcases hj' with rfl | rfl | rfl | rfl <;> refine ⟨by omega, by omega, by simp [dxN], by simp [dyN], by assumption⟩
  · rintro ⟨a, c, e, ha, hc, he, hr⟩
    rw [rRow_iff] at hr
    obtain ⟨X0, Y0, x0, y0, e0, f0, g0⟩ := rAt_inv w h ht (hr 0 (by omega))
    obtain ⟨X1, Y1, x1, y1, e1, f1, g1⟩ := rAt_inv w h ht (hr 1 (by omega))
    obtain ⟨X2, Y2, x2, y2, e2, f2, g2⟩ := rAt_inv w h ht (hr 2 (by omega))
    obtain ⟨X3, Y3, x3, y3, e3, f3, g3⟩ := rAt_inv w h ht (hr 3 (by omega))
    have p0 := at_ _ _ x0 y0 g0
    have p1 := at_ _ _ x1 y1 g1
    have p2 := at_ _ _ x2 y2 g2
    have p3 := at_ _ _ x3 y3 g3
    have he' : e = 0 ∨ e = 1 ∨ e = 2 ∨ e = 3 := by omega
    rcases he' with rfl | rfl | rfl | rfl
    · simp only [dxN, dyN] at e0 e1 e2 e3 f0 f1 f2 f3
      obtain rfl : X1 = X0 + 1 := by omega
      obtain rfl : X2 = X0 + 2 := by omega
      obtain rfl : X3 = X0 + 3 := by omega
      obtain rfl : Y1 = Y0 := by omega
      obtain rfl : Y2 = Y1 := by omega
      obtain rfl : Y3 = Y2 := by omega
      refine ⟨2, _, by omega, p0, ?_, ?_, ?_⟩
      · rw [show X0 * (H + 1) + Y3 + stepN H 2 = (X0 + 1) * (H + 1) + Y3 from by simp only [stepN, Nat.add_mul]; omega]; exact p1
      · rw [show X0 * (H + 1) + Y3 + 2 * stepN H 2 = (X0 + 2) * (H + 1) + Y3 from by simp only [stepN, Nat.add_mul]; omega]; exact p2
      · rw [show X0 * (H + 1) + Y3 + 3 * stepN H 2 = (X0 + 3) * (H + 1) + Y3 from by simp only [stepN, Nat.add_mul]; omega]; exact p3
    · simp only [dxN, dyN] at e0 e1 e2 e3 f0 f1 f2 f3
      obtain rfl : X1 = X0 + 1 := by omega
      obtain rfl : X2 = X0 + 2 := by omega
      obtain rfl : X3 = X0 + 3 := by omega
      obtain rfl : Y1 = Y0 + 1 := by omega
      obtain rfl : Y2 = Y0 + 2 := by omega
      obtain rfl : Y3 = Y0 + 3 := by omega
      refine ⟨3, _, by omega, p0, ?_, ?_, ?_⟩
      · rw [show X0 * (H + 1) + Y0 + stepN H 3 = (X0 + 1) * (H + 1) + (Y0 + 1) from by simp only [stepN, Nat.add_mul]; omega]; exact p1
      · rw [show X0 * (H + 1) + Y0 + 2 * stepN H 3 = (X0 + 2) * (H + 1) + (Y0 + 2) from by simp only [stepN, Nat.add_mul]; omega]; exact p2
      · rw [show X0 * (H + 1) + Y0 + 3 * stepN H 3 = (X0 + 3) * (H + 1) + (Y0 + 3) from by simp only [stepN, Nat.add_mul]; omega]; exact p3
    · simp only [dxN, dyN] at e0 e1 e2 e3 f0 f1 f2 f3
      obtain rfl : X1 = X0 := by omega
      obtain rfl : X2 = X1 := by omega
      obtain rfl : X3 = X2 := by omega
      obtain rfl : Y1 = Y0 + 1 := by omega
      obtain rfl : Y2 = Y0 + 2 := by omega
      obtain rfl : Y3 = Y0 + 3 := by omega
      exact ⟨0, _, by omega, p0, p1, p2, p3⟩
    · simp only [dxN, dyN] at e0 e1 e2 e3 f0 f1 f2 f3
      obtain rfl : X2 = X3 + 1 := by omega
      obtain rfl : X1 = X3 + 2 := by omega
      obtain rfl : X0 = X3 + 3 := by omega
      obtain rfl : Y1 = Y0 + 1 := by omega
      obtain rfl : Y2 = Y0 + 2 := by omega
      obtain rfl : Y3 = Y0 + 3 := by omega
      refine ⟨1, _, by omega, p3, ?_, ?_, ?_⟩
      · rw [show X3 * (H + 1) + (Y0 + 3) + stepN H 1 = (X3 + 1) * (H + 1) + (Y0 + 2) from by simp only [stepN, Nat.add_mul]; omega]; exact p2
      · rw [show X3 * (H + 1) + (Y0 + 3) + 2 * stepN H 1 = (X3 + 2) * (H + 1) + (Y0 + 1) from by simp only [stepN, Nat.add_mul]; omega]; exact p1
      · rw [show X3 * (H + 1) + (Y0 + 3) + 3 * stepN H 1 = (X3 + 3) * (H + 1) + Y0 from by simp only [stepN, Nat.add_mul]; omega]; exact p0
end Go.SL
