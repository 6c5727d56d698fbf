/- What a position in words tells is what the game tells. No program in sight. -/
import Derived.Test.YtppajifkmepdnaaM7a
set_option linter.unusedSimpArgs false
set_option linter.unusedVariables false
namespace Go.SL

theorem cnt_down (p : Nat → Bool) : ∀ n, (∀ y y', y < n → y' < y → p y = true → p y' = true) → ∀ y, y < n → p y = decide (y < cnt p n) := by
  intro n
  induction n with
  | zero => intro _ y hy; omega
  | succ n ih =>
    intro hd y hy
    have ih := ih (fun y y' h1 h2 h3 => hd y y' (by omega) h2 h3)
    have hle := cnt_le p n
    have hs : cnt p (n + 1) = cnt p n + (if p n = true then 1 else 0) := rfl
    rcases Bool.eq_false_or_eq_true (p n) with hn | hn
    · have hall : ∀ y, y < n → p y = true := fun y h1 => hd n y (by omega) h1 hn
      have hc : cnt p n = n := by
        rcases Nat.lt_or_ge (cnt p n) n with h1 | h1
        · have h2 := ih (cnt p n) h1
          rw [hall _ h1] at h2
          simp at h2
        · omega
      rw [if_pos hn, hc] at hs
      rw [hs]
      simp only [hy, decide_true]
      rcases Nat.lt_or_ge y n with h1 | h1
      · exact hall y h1
      · have : y = n := by omega
        rw [this]; exact hn
    · rw [if_neg (by simp [hn]), Nat.add_zero] at hs
      rw [hs]
      rcases Nat.lt_or_ge y n with h1 | h1
      · exact ih y h1
      · have : y = n := by omega
        subst this
        rw [hn]; symm; simp; exact hle

/-- The game's board, as numbers. -/
structure SimD (p : PPos) (f : RPos) (W H : Nat) : Prop where
  d : Dim p.b W H
  w : f 0 = (W : Int)
  h : f 1 = (H : Int)
  k : kf f = H + 1
theorem Sim.dim {p : PPos} {f : RPos} (s : Sim p f) : SimD p f (f 0).toNat (f 1).toNat := by
  have d := Go.SL.dim s.may
  have hb := s.b
  have e0 : p.b.W = f 0 := by rw [hb]; rfl
  have e1 : p.b.H = f 1 := by rw [hb]; rfl
  rw [e0, e1] at d
  have hr := s.ri.1
  exact ⟨d, by have := hr.1; omega, by have := hr.2; omega, by have := hr.2; unfold kf; omega⟩

theorem own_at {f : RPos} {W H : Nat} (w : f 0 = (W : Int)) (h : f 1 = (H : Int)) (q : Int → Bool) {X Y : Nat} (hx : X < W) (hy : Y < H) : own f q (X * (H + 1) + Y) = q (f (2 + X * 8 + Y)) := by
  have hk : kf f = H + 1 := by unfold kf; omega
  unfold own
  have e1 : (X * (H + 1) + Y) / (H + 1) = X := by rw [Nat.mul_comm, Nat.mul_add_div (by omega), Nat.div_eq_of_lt (by omega)]; omega
  have e2 : (X * (H + 1) + Y) % (H + 1) = Y := by rw [Nat.mul_comm, Nat.mul_add_mod, Nat.mod_eq_of_lt (by omega)]
  rw [hk, e1, e2]
  have a1 : X < (f 0).toNat := by omega
  have a2 : Y < (f 1).toNat := by omega
  simp [a1, a2]
theorem own_inv {f : RPos} {W H : Nat} (w : f 0 = (W : Int)) (h : f 1 = (H : Int)) {q : Int → Bool} {i : Nat} (ho : own f q i = true) : ∃ X Y, X < W ∧ Y < H ∧ i = X * (H + 1) + Y ∧ q (f (2 + X * 8 + Y)) = true := by
  have hk : kf f = H + 1 := by unfold kf; omega
  unfold own at ho
  rw [hk] at ho
  simp only [Bool.and_eq_true, decide_eq_true_eq] at ho
  have hdm := Nat.div_add_mod i (H + 1)
  rw [Nat.mul_comm] at hdm
  exact ⟨i / (H + 1), i % (H + 1), by omega, by omega, hdm.symm, ho.2.2⟩
theorem bool_ext {a b : Bool} (h1 : a = true → b = true) (h2 : b = true → a = true) : a = b := by
  cases a <;> cases b <;> simp_all
theorem rAt_in {f : RPos} {W H : Nat} (w : f 0 = (W : Int)) (h : f 1 = (H : Int)) {X Y : Nat} (hx : X < W) (hy : Y < H) : rAt f X Y = f (2 + X * 8 + Y) := by
  unfold rAt
  rw [if_pos ⟨by omega, by omega, by omega, by omega⟩]; simp
theorem ofW_get {f : RPos} {W H : Nat} (w : f 0 = (W : Int)) (h : f 1 = (H : Int)) (who : Int) (i : Nat) (hi : i < 128) : (ofW f who).getLsbD i = own f (fun v => decide (v = who)) i := by
  unfold ofW setW
  rw [ofL_get]
  simp only [hi, decide_true, Bool.true_and]
  apply bool_ext
  · intro ha
    rw [List.any_eq_true] at ha
    obtain ⟨pl, hp, he⟩ := ha
    obtain ⟨c, hc, rfl⟩ := List.mem_map.1 hp
    obtain ⟨x, hx, hc⟩ := List.mem_flatMap.1 hc
    obtain ⟨y, hy, rfl⟩ := List.mem_map.1 hc
    have hx := List.mem_range.1 hx
    have hy2 := List.mem_filter.1 hy
    have hyr := List.mem_range.1 hy2.1
    have hw := hy2.2
    have e : placeB (rB f) ((x : Int), (y : Int)) = ((x * (H + 1) + y : Nat) : Int) := by
      show (x : Int) * (f 1 + 1) + (y : Int) = _
      rw [h]; simp
    rw [e] at he
    have : i = x * (H + 1) + y := (Int.ofNat_inj.1 (eq_of_beq he)).symm
    subst this
    rw [own_at w h _ (by omega) (by omega)]
    rw [rAt_in w h (by omega) (by omega)] at hw
    exact hw
  · intro ho
    obtain ⟨X, Y, hX, hY, rfl, hq⟩ := own_inv w h ho
    rw [List.any_eq_true]
    refine ⟨placeB (rB f) ((X : Int), (Y : Int)), List.mem_map.2 ⟨_, List.mem_flatMap.2 ⟨X, List.mem_range.2 (by omega), List.mem_map.2 ⟨Y, List.mem_filter.2 ⟨List.mem_range.2 (by omega), ?_⟩, rfl⟩⟩, rfl⟩, ?_⟩
    · rw [rAt_in w h hX hY]; exact hq
    · show (X : Int) * (f 1 + 1) + (Y : Int) == _
      rw [h]; simp

theorem rTurn_vals (f : RPos) : rTurn f = 1 ∨ rTurn f = 2 := by unfold rTurn; split <;> simp
theorem side_turn {f : RPos} (h : 0 ≤ f 130) : sideP (f 130) = rTurn f := by
  unfold sideP rTurn
  rw [Int.tmod_eq_emod_of_nonneg h]
  split <;> omega

/-- A column's stones: as many as its height tells. -/
theorem Sim.heap {p : PPos} {f : RPos} (s : Sim p f) {W H : Nat} (sd : SimD p f W H) {X Y : Nat} (hx : X < W) (hy : Y < H) : decide (f (2 + X * 8 + Y) ≠ 0) = decide (Y < rHeight f X) := by
  have h := sd.h
  have hn : (f 1).toNat = H := by omega
  have hd := cnt_down (fun y => decide (rAt f X y ≠ 0)) H ?_ Y hy
  · rw [rAt_in sd.w h hx hy] at hd
    unfold rHeight
    rw [hn]; exact hd
  · intro y y' h1 h2 h3
    simp only [decide_eq_true_eq] at h3 ⊢
    rw [rAt_in sd.w h hx (by omega)] at h3 ⊢
    exact s.grav X y y' (by have := sd.w; omega) (by omega) h2 h3
theorem Sim.at_ {p : PPos} {f : RPos} (s : Sim p f) {W H : Nat} (sd : SimD p f W H) {x : Nat} (hx : x < W) : atP p x = if rHeight f x < H then bit (x * (H + 1) + rHeight f x) else 0 := by
  have hle : ∀ x, rHeight f x ≤ H := fun x => by have := rHeight_le f x s.ri.1; have := sd.h; omega
  have := at_word sd.d (fun x => rHeight f (x : Nat)) (fun x _ => hle x) p.stones ?_ x hx
  · unfold atP
    rw [s.full, s.bottom]; exact this
  · intro i hi
    rw [s.stones i hi]
    unfold own
    rw [sd.k, show (f 0).toNat = W from by have := sd.w; omega, show (f 1).toNat = H from by have := sd.h; omega]
    have hml := Nat.mod_lt i (show 0 < H + 1 by omega)
    by_cases h1 : i / (H + 1) < W
    · by_cases h2 : i % (H + 1) < H
      · have := s.heap sd h1 h2
        simp only [h1, h2, decide_true, Bool.true_and]
        exact this
      · have := hle (i / (H + 1) : Nat)
        have h3 : ¬ i % (H + 1) < rHeight f ((i / (H + 1) : Nat) : Int) := by omega
        simp only [h2, decide_false, Bool.false_and, h3]
    · simp [h1]

theorem bit_ne {n : Nat} (h : n < 128) : bit n ≠ 0 := by
  intro he
  have h2 : (bit n).getLsbD n = true := by rw [bit_get]; simp [h]
  rw [he] at h2
  simp at h2
theorem Sim.can {p : PPos} {f : RPos} (s : Sim p f) (x : Int) : canP p x = rCan f x := by
  have sd := s.dim
  have hz : isZ p = false := isZ_of (by have := mayB_iff.1 s.may; omega)
  have hw : p.b.W = f 0 := by rw [s.b]; rfl
  have hh : p.b.H = f 1 := by rw [s.b]; rfl
  have hov : overP p = rOver f := by
    unfold overP rOver cellsB
    rw [s.won, s.n, if_pos s.may, hw, hh]
  unfold canP rCan
  rw [hz, hov, hw]
  simp only [Bool.false_eq_true, if_false]
  by_cases h1 : rOver f = true
  · simp [h1]
  · simp only [h1]
    by_cases h2 : x < 0 ∨ f 0 ≤ x
    · simp [h2]
    · simp only [h2, if_false]
      obtain ⟨n, rfl⟩ := Int.eq_ofNat_of_zero_le (show 0 ≤ x by omega)
      have hn : n < (f 0).toNat := by omega
      have ha := s.at_ sd hn
      have hle := rHeight_le f n s.ri.1
      have hnk := sd.d.nk
      have hm : (n + 1) * ((f 1).toNat + 1) ≤ (f 0).toNat * ((f 1).toNat + 1) := Nat.mul_le_mul_right _ (by omega)
      rw [Nat.succ_mul] at hm
      by_cases h3 : rHeight f n < (f 1).toNat
      · rw [if_pos h3] at ha
        have hb : ¬ atP p n = 0 := by rw [ha]; exact bit_ne (by omega)
        have h4 : ¬ (rHeight f n : Int) = f 1 := by omega
        rw [if_neg hb, if_neg h4]
      · rw [if_neg h3] at ha
        have h4 : (rHeight f n : Int) = f 1 := by omega
        rw [if_pos ha, if_pos h4]
end Go.SL
