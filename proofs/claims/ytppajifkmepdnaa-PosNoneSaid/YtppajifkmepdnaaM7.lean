/- A position in words stays a game cell by cell. No program in sight. -/
import Derived.Test.YtppajifkmepdnaaM7c
set_option linter.unusedSimpArgs false
set_option linter.unusedVariables false
namespace Go.SL

theorem sumN_pos (g : Nat → Nat) (n : Nat) : 0 < sumN g n ↔ ∃ i, i < n ∧ 0 < g i := by
  induction n with
  | zero => simp [sumN]
  | succ n ih =>
    simp only [sumN]
    constructor
    · intro h
      rcases Nat.eq_zero_or_pos (sumN g n) with h1 | h1
      · exact ⟨n, by omega, by omega⟩
      · obtain ⟨i, h2, h3⟩ := ih.1 h1
        exact ⟨i, by omega, h3⟩
    · rintro ⟨i, h1, h2⟩
      rcases Nat.lt_or_ge i n with h3 | h3
      · have := ih.2 ⟨i, h3, h2⟩; omega
      · have : i = n := by omega
        subst this; omega
theorem rRows_pos {f : RPos} {who x y : Int} : 0 < rRows f who x y ↔ ∃ a c d, a < (f 0).toNat ∧ c < (f 1).toNat ∧ d < 4 ∧ rRow f a c (dxN d) (dyN d) who = true ∧ hitN a c (dxN d) (dyN d) x y 4 = true := by
  unfold rRows
  rw [sumN_pos]
  constructor
  · rintro ⟨a, ha, h⟩
    obtain ⟨c, hc, h⟩ := (sumN_pos _ _).1 h
    obtain ⟨d, hd, h⟩ := (sumN_pos _ _).1 h
    unfold rOne at h
    split at h
    · rename_i hh
      rw [Bool.and_eq_true] at hh
      exact ⟨a, c, d, ha, hc, hd, hh.1, hh.2⟩
    · omega
  · rintro ⟨a, c, d, ha, hc, hd, h1, h2⟩
    refine ⟨a, ha, (sumN_pos _ _).2 ⟨c, hc, (sumN_pos _ _).2 ⟨d, hd, ?_⟩⟩⟩
    unfold rOne
    rw [h1, h2]; simp

theorem sim_new {b : Bd} (h : mayB b = true) : Sim (newP b) (rNew b) := by
  have hp : newP b = ⟨b, fullB b, eachB b 0, 0, 0, 0, false⟩ := if_pos h
  have hf : rNew b = fun j => if j = 0 then b.W else if j = 1 then b.H else 0 := if_pos h
  have hr := RI_new b
  rw [hp]
  have c0 : ∀ j, 2 ≤ j → rNew b j = 0 := by
    intro j hj; rw [hf]
    have h1 : ¬ j = 0 := by omega
    have h2 : ¬ j = 1 := by omega
    simp [h1, h2]
  have z0 : rNew b 0 = b.W := by rw [hf]; rfl
  have z1 : rNew b 1 = b.H := by rw [hf]; rfl
  have own0 : ∀ (q : Int → Bool) i, q 0 = false → own (rNew b) q i = false := by
    intro q i hq
    unfold own
    have e := c0 (2 + i / kf (rNew b) * 8 + i % kf (rNew b)) (Nat.le_trans (Nat.le_add_right 2 _) (Nat.le_add_right _ _))
    rw [e, hq]; simp
  refine ⟨h, ?_, rfl, rfl, (c0 130 (by omega)).symm, hr, ?_, ?_, ?_, ?_, ?_, ?_, ?_⟩
  · show b = ⟨rNew b 0, rNew b 1⟩
    rw [z0, z1]
  · rw [c0 131 (by omega)]; simp
  · intro hh; exact absurd (c0 131 (by omega)) hh
  · intro x y _ _; exact .inl (c0 _ (by omega))
  · intro x y y' _ _ _ hh; exact absurd (c0 _ (by omega)) hh
  · intro i _; rw [own0 _ _ (by simp)]; simp
  · intro i _; rw [own0 _ _ (by have := rTurn_vals (rNew b); simp; omega)]; simp
  · intro _ a c d who ha hc hd hw
    rw [Bool.eq_false_iff]
    intro hh
    have := (rRow_iff.1 hh) 0 (by omega)
    have hm := mayB_iff.1 h
    obtain ⟨X, Y, hX, hY, _, _, hg⟩ := rAt_inv (W := b.W.toNat) (H := b.H.toNat) (by rw [z0]; omega) (by rw [z1]; omega) hw this
    rw [c0 _ (by omega)] at hg
    exact hw hg.symm

section put
variable {p : PPos} {f : RPos} {x : Int}

/-- What a stone turns. -/
structure PutD (f : RPos) (x : Int) (W H X h : Nat) : Prop where
  ex : x = (X : Int)
  hx : X < W
  hh : rHeight f x = h
  hl : h < H
  low : ∀ j, j < 2 → rStone f x j = f j
  cell : ∀ A B, A < 8 → B < 8 → rStone f x (2 + A * 8 + B) = if A = X ∧ B = h then rTurn f else f (2 + A * 8 + B)
  n : rStone f x 130 = f 130 + 1
  e : rStone f x 131 = f 131
  won0 : f 131 = 0

theorem Sim.putD (s : Sim p f) {W H : Nat} (sd : SimD p f W H) (hc : rCan f x = 0) : PutD f x W H x.toNat (rHeight f x) := by
  obtain ⟨c1, c2, c3, c4⟩ := rCan_zero hc
  obtain ⟨c5, c6⟩ := rOver_false c1
  have hle := rHeight_le f x s.ri.1
  have hw := sd.w
  have hh := sd.h
  obtain ⟨⟨⟨w1, w2⟩, w3, w4⟩, n0, n1⟩ := s.ri
  have hmul := mul_bd (x := f 0) (h := f 1) (A := 8) (B := 8) (by omega) (by omega)
  have hX : x.toNat < 8 := by omega
  have hH : rHeight f x < 8 := by omega
  refine ⟨by omega, by omega, rfl, by omega, ?_, ?_, ?_, ?_, c5⟩
  · intro j hj
    unfold rStone
    rw [rSet_ne _ _ _ (by omega), rSet_ne _ _ _ (by omega), rSet_ne _ _ _ (by omega)]
  · intro A B hA hB
    unfold rStone
    rw [rSet_ne _ _ _ (by omega), rSet_ne _ _ _ (by omega)]
    by_cases he : A = x.toNat ∧ B = rHeight f x
    · rw [if_pos he, he.1, he.2, rSet_eq]
    · rw [if_neg he, rSet_ne]
      intro h1
      apply he
      omega
  · unfold rStone; rw [rSet_eq]
  · unfold rStone
    rw [rSet_ne _ _ _ (by omega), rSet_ne _ _ _ (by omega), rSet_ne _ _ _ (by omega)]

theorem rPut_ne (f : RPos) (x : Int) {j : Nat} (hj : j ≠ 131) : rPut f x j = rStone f x j := by
  unfold rPut; split
  · exact rSet_ne _ _ _ hj
  · rfl
theorem rAt_congr {g g' : RPos} (h : ∀ j, j < 66 → g j = g' j) (hw : RW g) (a b : Int) : rAt g a b = rAt g' a b := by
  unfold rAt
  rw [h 0 (by omega), h 1 (by omega)]
  split
  · rename_i hh
    have h0 := h 0 (by omega)
    have h1 := h 1 (by omega)
    have := hw.1; have := hw.2
    exact h _ (by omega)
  · rfl
theorem rRow_congr {g g' : RPos} (h : ∀ j, j < 66 → g j = g' j) (hw : RW g) (a b dx dy who : Int) : rRow g a b dx dy who = rRow g' a b dx dy who := by
  unfold rRow
  congr 1
  funext i
  rw [rAt_congr h hw]

/-- A row behind the stone: it was there, or it has the stone's cell. -/
theorem PutD.row {W H X h : Nat} (d : PutD f x W H X h) (w : f 0 = (W : Int)) (hh : f 1 = (H : Int)) (w8 : W ≤ 8) (h8 : H ≤ 8) {a c dx dy who : Int} (hwho : who ≠ 0) (hr : rRow (rStone f x) a c dx dy who = true) (hold : rRow f a c dx dy who = false) :
    who = rTurn f ∧ ∃ i : Nat, i < 4 ∧ a + i * dx = x ∧ c + i * dy = (h : Int) := by
  have w' : rStone f x 0 = (W : Int) := by rw [d.low 0 (by omega)]; exact w
  have h' : rStone f x 1 = (H : Int) := by rw [d.low 1 (by omega)]; exact hh
  rw [rRow_iff] at hr
  have : ∃ i : Nat, i < 4 ∧ rAt f (a + i * dx) (c + i * dy) ≠ who := by
    apply Classical.byContradiction
    intro hn
    rw [Bool.eq_false_iff] at hold
    apply hold
    rw [rRow_iff]
    intro i hi
    exact Classical.byContradiction fun hne => hn ⟨i, hi, hne⟩
  obtain ⟨i, hi, hne⟩ := this
  obtain ⟨A, B, hA, hB, eA, eB, hg⟩ := rAt_inv w' h' hwho (hr i hi)
  rw [d.cell A B (by omega) (by omega)] at hg
  split at hg
  · rename_i hAB
    refine ⟨hg.symm, i, hi, ?_, ?_⟩
    · rw [eA, d.ex, hAB.1]
    · rw [eB, hAB.2]
  · exfalso
    apply hne
    rw [eA, eB, rAt_in w hh hA hB]; exact hg

theorem own_cell {W H : Nat} {g g' : RPos} (w : g 0 = (W : Int)) (h : g 1 = (H : Int)) (w' : g' 0 = (W : Int)) (h' : g' 1 = (H : Int)) (q q' : Int → Bool) (hq : ∀ A B, A < W → B < H → q (g (2 + A * 8 + B)) = q' (g' (2 + A * 8 + B))) (i : Nat) : own g q i = own g' q' i := by
  have k : kf g = H + 1 := by unfold kf; omega
  have k' : kf g' = H + 1 := by unfold kf; omega
  unfold own
  rw [k, k', w, w', h, h']
  by_cases h1 : i / (H + 1) < W
  · by_cases h2 : i % (H + 1) < H
    · have := hq _ _ h1 h2
      simp [h1, h2, this]
    · simp [h2]
  · simp [h1]

theorem put_core (s : Sim p f) (hc : rCan f x = 0) : Sim (putP p x) (rPut f x) := by
  have sd := s.dim
  obtain ⟨W, hW⟩ : ∃ W, W = (f 0).toNat := ⟨_, rfl⟩
  obtain ⟨H, hH⟩ : ∃ H, H = (f 1).toNat := ⟨_, rfl⟩
  rw [← hW, ← hH] at sd
  have pd := s.putD sd hc
  obtain ⟨X, hX⟩ : ∃ X, X = x.toNat := ⟨_, rfl⟩
  obtain ⟨h, hhh⟩ : ∃ h, h = rHeight f x := ⟨_, rfl⟩
  rw [← hX, ← hhh] at pd
  have w := sd.w
  have hh := sd.h
  have w8 := sd.d.w8
  have h8 := sd.d.h8
  have tv := rTurn_vals f
  have n0 := s.ri.2.1
  have w1 : rStone f x 0 = (W : Int) := by rw [pd.low 0 (by omega)]; exact w
  have h1 : rStone f x 1 = (H : Int) := by rw [pd.low 1 (by omega)]; exact hh
  have w2 : rPut f x 0 = (W : Int) := by rw [rPut_ne f x (by omega)]; exact w1
  have h2 : rPut f x 1 = (H : Int) := by rw [rPut_ne f x (by omega)]; exact h1
  have cell2 : ∀ A B, A < 8 → B < 8 → rPut f x (2 + A * 8 + B) = if A = X ∧ B = h then rTurn f else f (2 + A * 8 + B) := fun A B hA hB => by
    rw [rPut_ne f x (by omega)]; exact pd.cell A B hA hB
  have n2 : rPut f x 130 = f 130 + 1 := n_Put f x
  have rw1 : RW (rStone f x) := ⟨by rw [w1]; omega, by rw [h1]; omega⟩
  have hpx : x = ((X : Nat) : Int) := pd.ex
  have hnk := sd.d.nk
  have hm : (X + 1) * (H + 1) ≤ W * (H + 1) := Nat.mul_le_mul_right _ (by have := pd.hx; omega)
  rw [Nat.succ_mul] at hm
  have hpl : X * (H + 1) + h < 128 := by have := pd.hl; omega
  -- the cell is free
  have free : f (2 + X * 8 + h) = 0 := by
    have := s.heap sd pd.hx pd.hl
    rw [← hpx, ← hhh] at this
    simpa using this
  have hat : atP p x = bit (X * (H + 1) + h) := by
    have := s.at_ sd pd.hx
    rw [← hpx, ← hhh, if_pos pd.hl] at this; exact this
  have turn2 : rTurn (rPut f x) = 3 - rTurn f := by
    unfold rTurn
    rw [n2, Int.tmod_eq_emod_of_nonneg n0, Int.tmod_eq_emod_of_nonneg (by omega)]
    split <;> split <;> omega
  -- the stone's bit, among cells of which something holds
  have addbit : ∀ (q q' : Int → Bool), q (rTurn f) = true → (∀ v, v = 0 ∨ v = 1 ∨ v = 2 → q v = q' v) → ∀ i, i < 128 → own (rStone f x) q i = (own f q' i || decide (i = X * (H + 1) + h)) := by
    intro q q' hq hqq i hi
    have k : kf f = H + 1 := sd.k
    have k' : kf (rStone f x) = H + 1 := by unfold kf; omega
    have hdm := Nat.div_add_mod i (H + 1)
    rw [Nat.mul_comm] at hdm
    unfold own
    rw [k, k', w, w1, hh, h1]
    by_cases a1 : i / (H + 1) < W
    · by_cases a2 : i % (H + 1) < H
      · have hc1 := pd.cell (i / (H + 1)) (i % (H + 1)) (by omega) (by omega)
        have hv := s.cell (i / (H + 1)) (i % (H + 1)) (by omega) (by omega)
        by_cases a3 : i / (H + 1) = X ∧ i % (H + 1) = h
        · have : i = X * (H + 1) + h := by rw [a3.1, a3.2] at hdm; omega
          rw [if_pos a3] at hc1
          rw [hc1]
          simp [a1, a2, hq, this]
          have e1 : (X * (H + 1) + h) / (H + 1) < W := by rw [← this]; exact a1
          have e2 : h % (H + 1) < H := by rw [Nat.mod_eq_of_lt (by have := pd.hl; omega)]; exact pd.hl
          exact ⟨e1, e2⟩
        · have : ¬ i = X * (H + 1) + h := by
            rintro rfl
            apply a3
            constructor
            · rw [Nat.mul_comm, Nat.mul_add_div (by omega), Nat.div_eq_of_lt (by have := pd.hl; omega)]; omega
            · rw [Nat.mul_comm, Nat.mul_add_mod, Nat.mod_eq_of_lt (by have := pd.hl; omega)]
          rw [if_neg a3] at hc1
          rw [hc1, hqq _ hv]
          simp [this]
      · have : ¬ i = X * (H + 1) + h := by
          rintro rfl
          apply a2
          rw [Nat.mul_comm, Nat.mul_add_mod, Nat.mod_eq_of_lt (by have := pd.hl; omega)]
          exact pd.hl
        simp [a2, this]
    · have : ¬ i = X * (H + 1) + h := by
        rintro rfl
        apply a1
        rw [Nat.mul_comm, Nat.mul_add_div (by omega), Nat.div_eq_of_lt (by have := pd.hl; omega)]
        exact pd.hx
      simp [a1, this]
  have sameown : ∀ (q : Int → Bool) i, own (rPut f x) q i = own (rStone f x) q i := fun q i => own_cell w2 h2 w1 h1 q q (fun A B hA hB => by rw [rPut_ne f x (by omega)]) i
  -- four in a row
  have hfour : fourB p.b (p.mine ||| atP p x) = decide (0 < rRows (rStone f x) (rTurn f) x (rHeight f x : Nat)) := by
    have hbits : ∀ i, i < 128 → (p.mine ||| atP p x).getLsbD i = own (rStone f x) (fun v => decide (v = rTurn f)) i := by
      intro i hi
      rw [BitVec.getLsbD_or, s.mine i hi, hat, bit_get, addbit _ (fun v => decide (v = rTurn f)) (by simp) (fun _ _ => rfl) i hi]
      simp [hi]
    apply bool_ext
    · intro hfb
      obtain ⟨a, c, e, ha, hcc, he, hr⟩ := (four_rows sd.d w1 h1 (by omega) hbits).1 hfb
      have hold := s.nofour pd.won0 a c e (rTurn f) (by omega) (by omega) he (by omega)
      obtain ⟨_, i, hi, e1, e2⟩ := pd.row w hh w8 h8 (by omega) hr hold
      simp only [decide_eq_true_eq]
      rw [rRows_pos]
      refine ⟨a, c, e, by omega, by omega, he, hr, hitN_iff.2 ⟨i, hi, .inr ⟨e1, ?_⟩⟩⟩
      rw [e2, hhh]
    · intro hp
      simp only [decide_eq_true_eq] at hp
      obtain ⟨a, c, e, ha, hcc, he, hr, _⟩ := rRows_pos.1 hp
      exact (four_rows sd.d w1 h1 (by omega) hbits).2 ⟨a, c, e, by omega, by omega, he, hr⟩
  have e2 : rPut f x 131 = if 0 < rRows (rStone f x) (rTurn f) x (rHeight f x : Nat) then rTurn f else 0 := by
    unfold rPut
    split
    · rw [rSet_eq]
    · rw [pd.e, pd.won0]
  refine ⟨s.may, ?_, s.full, s.bottom, ?_, RI_put s.ri hc, ?_, ?_, ?_, ?_, ?_, ?_, ?_⟩
  · show p.b = ⟨rPut f x 0, rPut f x 1⟩
    rw [w2, h2, s.b, ← w, ← hh]; rfl
  · show p.n + 1 = _
    rw [n2, s.n]
  · show fourB p.b (p.mine ||| atP p x) = _
    rw [hfour, e2]
    split
    · rename_i hr
      have : rTurn f ≠ 0 := by omega
      simp [hr, this]
    · rename_i hr
      simp [hr]
  · intro hne
    rw [e2] at hne ⊢
    split at hne
    · rename_i hr
      rw [if_pos hr, n2, ← side_turn n0]
      unfold sideP
      rw [Int.tmod_eq_emod_of_nonneg n0, Int.tmod_eq_emod_of_nonneg (by omega)]; omega
    · exact absurd rfl hne
  · intro A B hA hB
    rw [w2] at hA; rw [h2] at hB
    rw [cell2 A B (by omega) (by omega)]
    split
    · omega
    · exact s.cell A B (by omega) (by omega)
  · intro A B B' hA hB hlt hne
    rw [w2] at hA; rw [h2] at hB
    rw [cell2 A B (by omega) (by omega)] at hne
    rw [cell2 A B' (by omega) (by omega)]
    split
    · omega
    · rename_i hn
      split at hne
      · rename_i hAB
        have hl := pd.hl
        have := s.heap sd (X := A) (Y := B') (by omega) (by omega)
        rw [hAB.1, ← hpx, ← hhh] at this
        have hb : B' < h := by omega
        rw [hAB.1]
        simpa [hb] using this
      · exact s.grav A B B' (by omega) (by omega) hlt hne
  · intro i hi
    show (p.stones ||| atP p x).getLsbD i = _
    rw [sameown, BitVec.getLsbD_or, s.stones i hi, hat, bit_get, addbit (fun v => decide (v ≠ 0)) (fun v => decide (v ≠ 0)) (by simp; omega) (fun _ _ => rfl) i hi]
    simp [hi]
  · intro i hi
    show (p.stones ^^^ p.mine).getLsbD i = _
    rw [turn2, BitVec.getLsbD_xor, s.stones i hi, s.mine i hi]
    have h3 : own (rPut f x) (fun v => decide (v = 3 - rTurn f)) i = own f (fun v => decide (v = 3 - rTurn f)) i := by
      refine own_cell w2 h2 w hh _ _ (fun A B hA hB => ?_) i
      rw [cell2 A B (by omega) (by omega)]
      split
      · rename_i hAB
        rw [hAB.1, hAB.2, free]
        have q1 : ¬ rTurn f = 3 - rTurn f := by omega
        have q2 : ¬ (0 : Int) = 3 - rTurn f := by omega
        simp [q1, q2]
      · rfl
    rw [h3]
    unfold own
    rw [sd.k, w, hh]
    by_cases a1 : i / (H + 1) < W
    · by_cases a2 : i % (H + 1) < H
      · have hv := s.cell (i / (H + 1)) (i % (H + 1)) (by omega) (by omega)
        have b1 : i / (H + 1) < ((W : Nat) : Int).toNat := by omega
        have b2 : i % (H + 1) < ((H : Nat) : Int).toNat := by omega
        generalize f (2 + i / (H + 1) * 8 + i % (H + 1)) = v at hv
        simp only [b1, b2, decide_true, Bool.true_and]
        rcases tv with t | t <;> rw [t] <;> rcases hv with rfl | rfl | rfl <;> decide
      · simp [a2]
    · simp [a1]
  · intro hz a c d who ha hcc hd hw
    rw [w2] at ha; rw [h2] at hcc
    have hno : ¬ 0 < rRows (rStone f x) (rTurn f) x (rHeight f x : Nat) := by
      intro hr; rw [e2, if_pos hr] at hz; omega
    rw [rRow_congr (g := rPut f x) (g' := rStone f x) (fun j hj => rPut_ne f x (by omega)) ⟨by rw [w2]; omega, by rw [h2]; omega⟩]
    rw [Bool.eq_false_iff]
    intro hr
    have hold := s.nofour pd.won0 a c d who (by omega) (by omega) hd hw
    obtain ⟨rfl, i, hi, q1, q2⟩ := pd.row w hh w8 h8 hw hr hold
    apply hno
    rw [rRows_pos]
    refine ⟨a, c, d, by omega, by omega, hd, hr, hitN_iff.2 ⟨i, hi, .inr ⟨q1, ?_⟩⟩⟩
    rw [q2, hhh]
end put

theorem sim_put {p : PPos} {f : RPos} {x : Int} (h : Sim p f) (hc : rCan f x = 0) : Sim (putP p x) (rPut f x) := put_core h hc

theorem sim_like {p : PPos} {f : RPos} (s : Sim p f) : Like p f := by
  have sd := s.dim
  have tv := rTurn_vals f
  have hw : p.b.W = f 0 := by rw [s.b]; rfl
  have hh : p.b.H = f 1 := by rw [s.b]; rfl
  have hz : isZ p = false := isZ_of (by have := mayB_iff.1 s.may; omega)
  have n0 := s.ri.2.1
  have hmine : p.mine = rMine f := word_ext fun i hi => by unfold rMine; rw [s.mine i hi, ofW_get sd.w sd.h _ i hi]
  have htheirs : theirsP p = rTheirs f := word_ext fun i hi => by
    unfold theirsP rTheirs
    rw [BitVec.getLsbD_xor, s.stones i hi, s.mine i hi, ofW_get sd.w sd.h _ i hi]
    unfold own
    by_cases a1 : i / kf f < (f 0).toNat
    · by_cases a2 : i % kf f < (f 1).toNat
      · have hv : f (2 + i / kf f * 8 + i % kf f) = 0 ∨ f (2 + i / kf f * 8 + i % kf f) = 1 ∨ f (2 + i / kf f * 8 + i % kf f) = 2 := by
          generalize i / kf f = A at *
          generalize i % kf f = B at *
          exact s.cell A B (by omega) (by omega)
        generalize f (2 + i / kf f * 8 + i % kf f) = v at hv
        simp only [a1, a2, decide_true, Bool.true_and]
        rcases tv with t | t <;> rw [t] <;> rcases hv with rfl | rfl | rfl <;> decide
      · simp [a2]
    · simp [a1]
  refine ⟨s.ri, hz, s.b, hmine, htheirs, ?_, s.n, ?_, ?_, ?_, s.can, ?_⟩
  · rw [← hmine, ← htheirs]
    apply word_ext; intro i hi
    unfold theirsP
    rw [BitVec.getLsbD_or, BitVec.getLsbD_xor]
    have hs := s.stones i hi
    have hm := s.mine i hi
    have himp : p.mine.getLsbD i = true → p.stones.getLsbD i = true := by
      intro h1
      rw [hm] at h1
      rw [hs]
      unfold own at h1 ⊢
      simp only [Bool.and_eq_true, decide_eq_true_eq] at h1 ⊢
      exact ⟨h1.1, h1.2.1, by rw [h1.2.2]; omega⟩
    cases a : p.mine.getLsbD i <;> cases b : p.stones.getLsbD i <;> simp_all
  · unfold turnP
    rw [hz, s.n]; exact side_turn n0
  · unfold wonP
    rw [s.won, s.n]
    by_cases h1 : f 131 = 0
    · simp [h1]
    · simp only [h1, ne_eq, not_false_eq_true, decide_true, if_true]
      exact (s.side h1).symm
  · unfold overP rOver cellsB
    rw [s.won, s.n, if_pos s.may, hw, hh]
  · intro x
    unfold winsP rWins
    rw [s.can x]
    by_cases h1 : rCan f x = 0
    · have h2 := (sim_put s h1).won
      have h3 : rDrop f x = rPut f x := if_pos h1
      rw [h2, h3]
      simp only [h1, decide_true, Bool.true_and]
      by_cases h4 : rPut f x 131 = 0 <;> simp [h4]
    · simp [h1]
end Go.SL
