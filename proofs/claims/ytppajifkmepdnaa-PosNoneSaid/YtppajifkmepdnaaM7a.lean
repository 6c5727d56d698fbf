/- Columns of a word: what lies where a stone would come to. No program in sight. -/
import Derived.Test.YtppajifkmepdnaaM6
set_option linter.unusedSimpArgs false
set_option linter.unusedVariables false
namespace Go.SL

/-- Numbers side by side, each in K bits. -/
def fieldsN (K : Nat) (v : Nat → Nat) : Nat → Nat
  | 0 => 0
  | n + 1 => fieldsN K v n + v n * 2 ^ (n * K)
theorem fld_lt (K : Nat) (v : Nat → Nat) : ∀ n, (∀ x, x < n → v x < 2 ^ K) → fieldsN K v n < 2 ^ (n * K) := by
  intro n
  induction n with
  | zero => intro _; simp [fieldsN]
  | succ n ih =>
    intro h
    have h1 := ih (fun x hx => h x (by omega))
    have h2 := h n (by omega)
    simp only [fieldsN]
    have h3 : v n * 2 ^ (n * K) ≤ (2 ^ K - 1) * 2 ^ (n * K) := Nat.mul_le_mul_right _ (by omega)
    have h4 : 2 ^ ((n + 1) * K) = 2 ^ K * 2 ^ (n * K) := by rw [Nat.succ_mul, Nat.add_comm, Nat.pow_add]
    have h5 : (2 ^ K - 1) * 2 ^ (n * K) = 2 ^ K * 2 ^ (n * K) - 2 ^ (n * K) := by rw [Nat.sub_mul, Nat.one_mul]
    have h6 : 2 ^ (n * K) ≤ 2 ^ K * 2 ^ (n * K) := Nat.le_mul_of_pos_left _ (Nat.two_pow_pos K)
    omega
theorem fld_bit (K : Nat) (hK : 0 < K) (v : Nat → Nat) (i : Nat) : ∀ n, (∀ x, x < n → v x < 2 ^ K) → (fieldsN K v n).testBit i = (decide (i / K < n) && (v (i / K)).testBit (i % K)) := by
  intro n
  induction n with
  | zero => intro _; simp [fieldsN]
  | succ n ih =>
    intro h
    have h1 := ih (fun x hx => h x (by omega))
    have hlt := fld_lt K v n (fun x hx => h x (by omega))
    have h2 := h n (by omega)
    simp only [fieldsN]
    rw [Nat.mul_comm (v n), Nat.add_comm, Nat.testBit_two_pow_mul_add _ hlt]
    have hdm := Nat.div_add_mod i K
    have hml := Nat.mod_lt i hK
    split
    · rename_i hi
      rw [h1]
      have : i / K < n := Nat.div_lt_of_lt_mul (by rw [Nat.mul_comm]; exact hi)
      have h3 : i / K < n + 1 := by omega
      simp [this, h3]
    · rename_i hi
      have hge : n ≤ i / K := (Nat.le_div_iff_mul_le hK).2 (by omega)
      rcases Nat.lt_or_ge n (i / K) with hg | hg
      · have h3 : ¬ i / K < n + 1 := by omega
        have h4 : K ≤ i - n * K := by
          have : (n + 1) * K ≤ i := (Nat.le_div_iff_mul_le hK).1 hg
          rw [Nat.succ_mul] at this; omega
        have h5 : (v n).testBit (i - n * K) = false := Nat.testBit_lt_two_pow (Nat.lt_of_lt_of_le h2 (Nat.pow_le_pow_right (by omega) h4))
        simp [h3, h5]
      · have he : i / K = n := by omega
        have h6 : i - n * K = i % K := by rw [he, Nat.mul_comm] at hdm; omega
        have h3 : i / K < n + 1 := by omega
        simp [h3, h6, he]
theorem fld_add (K : Nat) (u v : Nat → Nat) (n : Nat) : fieldsN K u n + fieldsN K v n = fieldsN K (fun x => u x + v x) n := by
  induction n with
  | zero => rfl
  | succ n ih => simp only [fieldsN, Nat.add_mul]; omega
theorem fld_congr (K : Nat) {u v : Nat → Nat} (n : Nat) (h : ∀ x, x < n → u x = v x) : fieldsN K u n = fieldsN K v n := by
  induction n with
  | zero => rfl
  | succ n ih => simp only [fieldsN]; rw [ih (fun x hx => h x (by omega)), h n (by omega)]
def fldB (K : Nat) (v : Nat → Nat) (n : Nat) : BitVec 128 := BitVec.ofNat 128 (fieldsN K v n)
theorem fldB_nat {K : Nat} {v : Nat → Nat} {n : Nat} (hv : ∀ x, x < n → v x < 2 ^ K) (hn : n * K ≤ 128) : (fldB K v n).toNat = fieldsN K v n := by
  unfold fldB
  rw [BitVec.toNat_ofNat]
  exact Nat.mod_eq_of_lt (Nat.lt_of_lt_of_le (fld_lt K v n hv) (Nat.pow_le_pow_right (by omega) hn))
theorem fldB_get {K : Nat} (hK : 0 < K) {v : Nat → Nat} {n : Nat} (hv : ∀ x, x < n → v x < 2 ^ K) (hn : n * K ≤ 128) (i : Nat) : (fldB K v n).getLsbD i = (decide (i / K < n) && (v (i / K)).testBit (i % K)) := by
  rw [← BitVec.testBit_toNat, fldB_nat hv hn, fld_bit K hK v i n hv]

theorem bitZ_get (p : Int) (i : Nat) : (bitZ p).getLsbD i = (decide (i < 128) && decide (p = (i : Int))) := by
  unfold bitZ
  split
  · rename_i h
    rw [bit_get]
    congr 1
    by_cases h1 : p = (i : Int)
    · subst h1; simp
    · have : ¬ i = p.toNat := by omega
      simp [h1, this]
  · rename_i h
    by_cases h1 : i < 128
    · have : ¬ p = (i : Int) := by omega
      simp [this]
    · simp [h1]
theorem rowB_get (b : Bd) (y : Nat) (hb : 0 ≤ b.H) (hy : (y : Int) ≤ b.H) (i : Nat) : ∀ n, (rowB b y n).getLsbD i = (decide (i < 128) && (decide (i / (b.H + 1).toNat < n) && decide (i % (b.H + 1).toNat = y))) := by
  have hK : 0 < (b.H + 1).toNat := by omega
  obtain ⟨K, hKe⟩ : ∃ K, K = (b.H + 1).toNat := ⟨_, rfl⟩
  have hKi : b.H + 1 = (K : Int) := by omega
  rw [← hKe]
  rw [← hKe] at hK
  intro n
  induction n with
  | zero => simp [rowB]
  | succ n ih =>
    rw [rowB_succ, BitVec.getLsbD_or, ih, bitZ_get, hKi]
    have hdm := Nat.div_add_mod i K
    have hml := Nat.mod_lt i hK
    have hyK : y < K := by omega
    have key : ((n : Int) * (K : Int) + (y : Int) = (i : Int)) ↔ (i / K = n ∧ i % K = y) := by
      constructor
      · intro h
        have h1 : i = n * K + y := by have : ((n * K + y : Nat) : Int) = (i : Int) := by simpa using h
                                      omega
        subst h1
        constructor
        · rw [Nat.mul_comm, Nat.mul_add_div hK, Nat.div_eq_of_lt hyK]; omega
        · rw [Nat.mul_comm, Nat.mul_add_mod, Nat.mod_eq_of_lt hyK]
      · rintro ⟨h1, h2⟩
        rw [h1, h2, Nat.mul_comm] at hdm
        have : ((n * K + y : Nat) : Int) = (i : Int) := by omega
        simpa using this
    by_cases h1 : i / K = n
    · by_cases h2 : i % K = y
      · have h3 : i / K < n + 1 := by omega
        simp [key, h1, h2]
      · simp [key, h1, h2]
    · have h3 : (i / K < n + 1) ↔ (i / K < n) := by omega
      simp [key, h1, h3]

/-- A board's numbers. -/
structure Dim (b : Bd) (W H : Nat) : Prop where
  w : b.W = (W : Int)
  h : b.H = (H : Int)
  w4 : 4 ≤ W
  w8 : W ≤ 8
  h4 : 4 ≤ H
  h8 : H ≤ 8
theorem dim {b : Bd} (h : mayB b = true) : Dim b b.W.toNat b.H.toNat := by
  have := mayB_iff.1 h
  constructor <;> omega
theorem Dim.may {b : Bd} {W H : Nat} (d : Dim b W H) : mayB b = true := by
  rw [mayB_iff]; have := d.w; have := d.h; have := d.w4; have := d.w8; have := d.h4; have := d.h8; omega
theorem Dim.k {b : Bd} {W H : Nat} (d : Dim b W H) : (b.H + 1).toNat = H + 1 := by have := d.h; omega
theorem Dim.nk {b : Bd} {W H : Nat} (d : Dim b W H) : W * (H + 1) ≤ 72 := by
  have h1 : W * (H + 1) ≤ 8 * 9 := Nat.mul_le_mul d.w8 (by have := d.h8; omega)
  omega
theorem Dim.lt {b : Bd} {W H : Nat} (d : Dim b W H) {i : Nat} (h : i / (H + 1) < W) : i < 72 := by
  have h1 := (Nat.div_lt_iff_lt_mul (by omega : 0 < H + 1)).1 h
  have := d.nk; omega

theorem each_fld {b : Bd} {W H : Nat} (d : Dim b W H) (y : Nat) (hy : y ≤ H) : eachB b y = fldB (H + 1) (fun _ => 2 ^ y) W := by
  have hh := d.h
  have hn := d.nk
  unfold eachB
  rw [if_pos ⟨d.may, by omega, by omega⟩, show b.W.toNat = W from by have := d.w; omega]
  apply word_ext; intro i hi
  rw [rowB_get b y (by omega) (by omega), d.k, fldB_get (by omega) (fun _ _ => Nat.pow_lt_pow_right (by omega) (by omega)) (by omega), Nat.testBit_two_pow]
  simp only [hi, decide_true, Bool.true_and]
  congr 1
  by_cases h : i % (H + 1) = y
  · simp [h]
  · have h' : ¬ y = i % (H + 1) := fun e => h e.symm
    simp [h, h']
theorem full_fld {b : Bd} {W H : Nat} (d : Dim b W H) : fullB b = fldB (H + 1) (fun _ => 2 ^ H - 1) W := by
  have hn := d.nk
  have e1 : eachB b b.H = fldB (H + 1) (fun _ => 2 ^ H) W := by rw [d.h]; exact each_fld d H (Nat.le_refl _)
  have e0 : eachB b 0 = fldB (H + 1) (fun _ => 2 ^ 0) W := each_fld d 0 (Nat.zero_le _)
  have hp : ∀ y, y ≤ H → 2 ^ y < 2 ^ (H + 1) := fun y hy => Nat.pow_lt_pow_right (by omega) (by omega)
  have h1 : (fldB (H + 1) (fun _ => 2 ^ H) W).toNat = fieldsN (H + 1) (fun _ => 2 ^ H) W := fldB_nat (fun _ _ => hp H (Nat.le_refl _)) (by omega)
  have h0 : (fldB (H + 1) (fun _ => 2 ^ 0) W).toNat = fieldsN (H + 1) (fun _ => 2 ^ 0) W := fldB_nat (fun _ _ => hp 0 (Nat.zero_le _)) (by omega)
  have h2 : (fldB (H + 1) (fun _ => 2 ^ H - 1) W).toNat = fieldsN (H + 1) (fun _ => 2 ^ H - 1) W := fldB_nat (fun _ _ => by have := hp H (Nat.le_refl _); omega) (by omega)
  have ha := fld_add (H + 1) (fun _ => 2 ^ H - 1) (fun _ => 2 ^ 0) W
  have hc : fieldsN (H + 1) (fun _ => 2 ^ H - 1 + 2 ^ 0) W = fieldsN (H + 1) (fun _ => 2 ^ H) W := fld_congr _ _ (fun _ _ => by have := Nat.two_pow_pos H; simp only [Nat.pow_zero]; omega)
  unfold fullB
  rw [e1, e0]
  apply BitVec.eq_of_toNat_eq
  rw [BitVec.toNat_sub, h1, h0, h2]
  have := (fldB (H + 1) (fun _ => 2 ^ H) W).isLt
  rw [h1] at this
  omega
theorem full_get {b : Bd} {W H : Nat} (d : Dim b W H) (i : Nat) : (fullB b).getLsbD i = (decide (i / (H + 1) < W) && decide (i % (H + 1) < H)) := by
  have hn := d.nk
  rw [full_fld d, fldB_get (by omega) (fun _ _ => by have := Nat.pow_lt_pow_right (a := 2) (by omega) (show H < H + 1 by omega); omega) (by omega), Nat.testBit_two_pow_sub_one]
theorem col_get {b : Bd} {W H : Nat} (d : Dim b W H) (x : Nat) (hx : x < W) (i : Nat) : (colB b x).getLsbD i = (decide (i / (H + 1) = x) && decide (i % (H + 1) < H)) := by
  have hh := d.h
  have hw := d.w
  have hn := d.nk
  have hxk : (x + 1) * (H + 1) ≤ W * (H + 1) := Nat.mul_le_mul_right _ (by omega)
  rw [Nat.succ_mul] at hxk
  unfold colB
  rw [if_pos ⟨d.may, by omega, by omega⟩]
  have p1 : (x : Int) * (b.H + 1) + b.H = ((x * (H + 1) + H : Nat) : Int) := by rw [hh]; simp
  have p0 : (x : Int) * (b.H + 1) = ((x * (H + 1) : Nat) : Int) := by rw [hh]; simp
  rw [p1, p0]
  have t : ∀ n : Nat, n < 128 → (bitZ (n : Int)).toNat = 2 ^ n := by
    intro n hn
    unfold bitZ bit
    rw [if_pos ⟨by omega, by omega⟩, Int.toNat_natCast, BitVec.toNat_shiftLeft, Nat.shiftLeft_eq]
    simp only [BitVec.toNat_ofNat]
    rw [show 1 % 2 ^ 128 = 1 from by omega, Nat.one_mul]
    exact Nat.mod_eq_of_lt (Nat.pow_lt_pow_right (by omega) hn)
  have e : (bitZ ((x * (H + 1) + H : Nat) : Int) - bitZ ((x * (H + 1) : Nat) : Int)).toNat = (2 ^ H - 1) * 2 ^ (x * (H + 1)) := by
    rw [BitVec.toNat_sub, t _ (by omega), t _ (by omega), Nat.sub_mul, Nat.one_mul, ← Nat.pow_add, show H + x * (H + 1) = x * (H + 1) + H from Nat.add_comm _ _]
    have h1 : 2 ^ (x * (H + 1) + H) < 2 ^ 128 := Nat.pow_lt_pow_right (by omega) (by omega)
    have h2 : 2 ^ (x * (H + 1)) ≤ 2 ^ (x * (H + 1) + H) := Nat.pow_le_pow_right (by omega) (by omega)
    generalize 2 ^ (x * (H + 1) + H) = A at h1 h2 ⊢
    generalize 2 ^ (x * (H + 1)) = B at h2 ⊢
    omega
  rw [← BitVec.testBit_toNat, e, Nat.mul_comm, Nat.testBit_two_pow_mul, Nat.testBit_two_pow_sub_one]
  have hdm := Nat.div_add_mod i (H + 1)
  have hml := Nat.mod_lt i (show 0 < H + 1 by omega)
  by_cases h1 : i / (H + 1) = x
  · have h2 : i = x * (H + 1) + i % (H + 1) := by rw [h1, Nat.mul_comm] at hdm; omega
    have h3 : i ≥ x * (H + 1) := by omega
    have h4 : i - x * (H + 1) = i % (H + 1) := by omega
    simp [h1, h3, h4]
  · have : ¬ (i ≥ x * (H + 1) ∧ i - x * (H + 1) < H) := by
      rintro ⟨h2, h3⟩
      apply h1
      have : i = (H + 1) * x + (i - x * (H + 1)) := by rw [Nat.mul_comm (H + 1)]; omega
      rw [this, Nat.mul_add_div (by omega), Nat.div_eq_of_lt (by omega)]; omega
    by_cases h2 : i ≥ x * (H + 1)
    · have h3 : ¬ i - x * (H + 1) < H := fun h => this ⟨h2, h⟩
      simp [h1, h3]
    · simp [h1, h2]

/-- Where a stone would come to: the stones are heaped, of each column so many. -/
theorem at_word {b : Bd} {W H : Nat} (d : Dim b W H) (h : Nat → Nat) (hh : ∀ x, x < W → h x ≤ H) (stones : BitVec 128) (hs : ∀ i, i < 128 → stones.getLsbD i = (decide (i / (H + 1) < W) && decide (i % (H + 1) < h (i / (H + 1))))) (x : Nat) (hx : x < W) :
    (stones + eachB b 0 &&& fullB b &&& colB b x) = if h x < H then bit (x * (H + 1) + h x) else 0 := by
  have hn := d.nk
  have hp : ∀ y, y ≤ H → 2 ^ y < 2 ^ (H + 1) := fun y hy => Nat.pow_lt_pow_right (by omega) (by omega)
  have hS : stones = fldB (H + 1) (fun x => 2 ^ h x - 1) W := by
    apply word_ext; intro i hi
    rw [hs i hi, fldB_get (by omega) (fun x hx => Nat.lt_of_le_of_lt (Nat.sub_le _ _) (hp _ (hh x hx))) (by omega), Nat.testBit_two_pow_sub_one]
  have h0 : (fldB (H + 1) (fun _ => 2 ^ 0) W).toNat = fieldsN (H + 1) (fun _ => 2 ^ 0) W := fldB_nat (fun _ _ => hp 0 (Nat.zero_le _)) (by omega)
  have h1 : (fldB (H + 1) (fun x => 2 ^ h x - 1) W).toNat = fieldsN (H + 1) (fun x => 2 ^ h x - 1) W := fldB_nat (fun x hx => Nat.lt_of_le_of_lt (Nat.sub_le _ _) (hp _ (hh x hx))) (by omega)
  have h2 : (fldB (H + 1) (fun x => 2 ^ h x) W).toNat = fieldsN (H + 1) (fun x => 2 ^ h x) W := fldB_nat (fun x hx => hp _ (hh x hx)) (by omega)
  have hsum : stones + eachB b 0 = fldB (H + 1) (fun x => 2 ^ h x) W := by
    have e0 : eachB b 0 = fldB (H + 1) (fun _ => 2 ^ 0) W := each_fld d 0 (Nat.zero_le _)
    rw [hS, e0]
    apply BitVec.eq_of_toNat_eq
    rw [BitVec.toNat_add, h0, h1, h2, fld_add]
    have hc : fieldsN (H + 1) (fun x => 2 ^ h x - 1 + 2 ^ 0) W = fieldsN (H + 1) (fun x => 2 ^ h x) W := fld_congr _ _ (fun x _ => by have := Nat.two_pow_pos (h x); simp only [Nat.pow_zero]; omega)
    rw [hc]
    have := (fldB (H + 1) (fun x => 2 ^ h x) W).isLt
    rw [h2] at this
    exact Nat.mod_eq_of_lt this
  rw [hsum]
  apply word_ext; intro i hi
  rw [BitVec.getLsbD_and, BitVec.getLsbD_and, fldB_get (by omega) (fun x hx => hp _ (hh x hx)) (by omega), full_get d, col_get d x hx, Nat.testBit_two_pow]
  have hdm := Nat.div_add_mod i (H + 1)
  have hml := Nat.mod_lt i (show 0 < H + 1 by omega)
  by_cases c1 : i / (H + 1) = x
  · rw [c1]
    by_cases c2 : h x < H
    · rw [if_pos c2, bit_get]
      by_cases c3 : h x = i % (H + 1)
      · have : i = x * (H + 1) + h x := by rw [c1, Nat.mul_comm] at hdm; omega
        have c4 : i % (H + 1) < H := by omega
        simp [hx, c3, c4, hi]
        rw [← c3]; exact this
      · have : ¬ i = x * (H + 1) + h x := by rw [c1, Nat.mul_comm] at hdm; omega
        simp [c3, this]
    · rw [if_neg c2]
      by_cases c3 : h x = i % (H + 1)
      · have : ¬ i % (H + 1) < H := by omega
        simp [this]
      · simp [c3]
  · have : (if h x < H then bit (x * (H + 1) + h x) else (0 : BitVec 128)).getLsbD i = false := by
      split
      · rename_i c2
        rw [bit_get]
        have : ¬ i = x * (H + 1) + h x := by
          rintro rfl
          apply c1
          rw [Nat.mul_comm, Nat.mul_add_div (by omega), Nat.div_eq_of_lt (by omega)]; omega
        simp [this]
      · simp
    rw [this]
    simp [c1]
end Go.SL
