/- Words of 128 bits as two numbers. No program in sight. -/
import Derived.Test.YtppajifkmepdnaaSlM
set_option linter.unusedSimpArgs false
set_option linter.unusedVariables false
namespace Go.SL

def hi (x : BitVec 128) : Nat := x.toNat / 2 ^ 64
def lo (x : BitVec 128) : Nat := x.toNat % 2 ^ 64
/-- A word's value. -/
def wv (x : BitVec 128) : Value := .agg #[.int .u64 (hi x : Nat), .int .u64 (lo x : Nat)]
theorem wv_cells (x : BitVec 128) : (wv x).cells = #[.int .u64 (hi x : Nat), .int .u64 (lo x : Nat)] := rfl
theorem wv_fold (x : BitVec 128) : Value.agg (#[.int .u64 (hi x : Nat), .int .u64 (lo x : Nat)]) = wv x := rfl
theorem wv_zero : Value.agg #[.int .u64 0, .int .u64 0] = wv 0 := by
  simp [wv, hi, lo]
theorem hi_lt (x : BitVec 128) : hi x < 2 ^ 64 := by have := x.isLt; unfold hi; omega
theorem lo_lt (x : BitVec 128) : lo x < 2 ^ 64 := by unfold lo; omega
theorem hi_bit (x : BitVec 128) (i : Nat) : (hi x).testBit i = x.getLsbD (i + 64) := by
  unfold hi; rw [Nat.testBit_div_two_pow, BitVec.testBit_toNat]
theorem lo_bit (x : BitVec 128) (i : Nat) : (lo x).testBit i = (decide (i < 64) && x.getLsbD i) := by
  unfold lo; rw [Nat.testBit_mod_two_pow, BitVec.testBit_toNat]
theorem nat_ext {a b : Nat} (h : ∀ i, a.testBit i = b.testBit i) : a = b := Nat.eq_of_testBit_eq h
theorem hilo (x : BitVec 128) : x.toNat = hi x * 2 ^ 64 + lo x := by unfold hi lo; omega
theorem wv_ext {A B : Int} {x : BitVec 128} (h1 : A = (hi x : Nat)) (h2 : B = (lo x : Nat)) : Value.agg #[.int .u64 A, .int .u64 B] = wv x := by
  subst h1; subst h2; rfl
theorem wv_inj {x y : BitVec 128} (h1 : hi x = hi y) (h2 : lo x = lo y) : x = y := by
  apply BitVec.eq_of_toNat_eq; rw [hilo, hilo, h1, h2]

theorem wrap_u64' (n : Int) : IntKind.u64.wrap n = n % 18446744073709551616 := by
  unfold IntKind.wrap; simp [IntKind.bits, IntKind.signed]
theorem wrapu (n : Nat) (h : n < 2 ^ 64) : IntKind.u64.wrap (n : Int) = n := by rw [wrap_u64']; omega
theorem ofInt_nat (n : Nat) (h : n < 2 ^ 64) : (BitVec.ofInt 64 (n : Int)).toNat = n := by
  simp; omega
theorem iand_nat {a b : Nat} (ha : a < 2 ^ 64) (hb : b < 2 ^ 64) : iand .u64 a b = ((a &&& b : Nat) : Int) := by
  unfold iand
  have h1 : IntKind.u64.bits = 64 := rfl
  rw [h1, BitVec.toNat_and, ofInt_nat a ha, ofInt_nat b hb, wrapu _ (Nat.and_lt_two_pow _ hb)]
theorem ior_nat {a b : Nat} (ha : a < 2 ^ 64) (hb : b < 2 ^ 64) : ior .u64 a b = ((a ||| b : Nat) : Int) := by
  unfold ior
  have h1 : IntKind.u64.bits = 64 := rfl
  rw [h1, BitVec.toNat_or, ofInt_nat a ha, ofInt_nat b hb, wrapu _ (Nat.or_lt_two_pow ha hb)]
theorem ixor_nat {a b : Nat} (ha : a < 2 ^ 64) (hb : b < 2 ^ 64) : ixor .u64 a b = ((a ^^^ b : Nat) : Int) := by
  unfold ixor
  have h1 : IntKind.u64.bits = 64 := rfl
  rw [h1, BitVec.toNat_xor, ofInt_nat a ha, ofInt_nat b hb, wrapu _ (Nat.xor_lt_two_pow ha hb)]
theorem inot_nat {a : Nat} (ha : a < 2 ^ 64) : inot .u64 a = ((2 ^ 64 - 1 - a : Nat) : Int) := by
  unfold inot
  have h1 : IntKind.u64.bits = 64 := rfl
  have h2 : (if IntKind.u64.signed = true then (-1 : Int) else IntKind.u64.max) = ((2 ^ 64 - 1 : Nat) : Int) := by decide
  have e : (2 ^ 64 - 1 : Nat) ^^^ a = 2 ^ 64 - 1 - a := by
    apply nat_ext; intro i
    rw [Nat.testBit_xor, Nat.testBit_two_pow_sub_one]
    have := Nat.testBit_two_pow_sub_succ ha i
    rw [show 2 ^ 64 - 1 - a = 2 ^ 64 - (a + 1) from by omega, this]
    by_cases hi : i < 64
    · simp [hi]
    · simp only [hi, decide_false, Bool.false_and, Bool.false_xor]
      exact Nat.testBit_lt_two_pow (Nat.lt_of_lt_of_le ha (Nat.pow_le_pow_right (by omega) (by omega)))
  rw [h2, h1, BitVec.toNat_xor, ofInt_nat a ha, ofInt_nat _ (by omega), e, wrapu _ (by omega)]
theorem ishl_nat {a n : Nat} (_ha : a < 2 ^ 64) : ishl .u64 a n = (((a <<< n) % 2 ^ 64 : Nat) : Int) := by
  unfold ishl
  have h1 : IntKind.u64.bits = 64 := rfl
  rw [h1, wrap_u64', Int.toNat_natCast, Nat.shiftLeft_eq]
  have e : (a : Int) * 2 ^ (min n 64) = ((a * 2 ^ (min n 64) : Nat) : Int) := by simp
  rw [e]
  have : ((a * 2 ^ (min n 64) : Nat) : Int) % 18446744073709551616 = (((a * 2 ^ (min n 64)) % 18446744073709551616 : Nat) : Int) := by omega
  rw [this]
  by_cases hn : n ≤ 64
  · rw [Nat.min_eq_left hn]
  · rw [Nat.min_eq_right (by omega)]
    have e2 : 2 ^ n = 2 ^ (n - 64) * 2 ^ 64 := by rw [← Nat.pow_add]; congr 1; omega
    have h64 : (2 : Nat) ^ 64 = 18446744073709551616 := by decide
    rw [e2, ← Nat.mul_assoc, h64, Nat.mul_mod_left, Nat.mul_mod_left]
theorem ishr_nat {a n : Nat} (ha : a < 2 ^ 64) : ishr .u64 a n = ((a >>> n : Nat) : Int) := by
  unfold ishr
  have h1 : IntKind.u64.bits = 64 := rfl
  rw [h1, Int.toNat_natCast, Nat.shiftRight_eq_div_pow]
  have e : ((2 : Int) ^ (min n 64)) = ((2 ^ (min n 64) : Nat) : Int) := by simp
  rw [e, Int.fdiv_eq_ediv_of_nonneg _ (Int.natCast_nonneg _)]
  have e1 : (a : Int) / ((2 ^ (min n 64) : Nat) : Int) = ((a / 2 ^ (min n 64) : Nat) : Int) := by exact (Int.natCast_ediv a _).symm
  rw [e1]
  by_cases hn : n ≤ 64
  · rw [Nat.min_eq_left hn]
  · rw [Nat.min_eq_right (by omega), Nat.div_eq_of_lt ha, Nat.div_eq_of_lt]
    exact Nat.lt_of_lt_of_le ha (Nat.pow_le_pow_right (by omega) (by omega))

theorem hi_and (a b : BitVec 128) : hi (a &&& b) = hi a &&& hi b := by
  apply nat_ext; intro i; rw [Nat.testBit_and]; simp only [hi_bit, BitVec.getLsbD_and]
theorem lo_and (a b : BitVec 128) : lo (a &&& b) = lo a &&& lo b := by
  apply nat_ext; intro i; rw [Nat.testBit_and]; simp only [lo_bit, BitVec.getLsbD_and]; cases decide (i < 64) <;> simp
theorem hi_or (a b : BitVec 128) : hi (a ||| b) = hi a ||| hi b := by
  apply nat_ext; intro i; rw [Nat.testBit_or]; simp only [hi_bit, BitVec.getLsbD_or]
theorem lo_or (a b : BitVec 128) : lo (a ||| b) = lo a ||| lo b := by
  apply nat_ext; intro i; rw [Nat.testBit_or]; simp only [lo_bit, BitVec.getLsbD_or]; cases decide (i < 64) <;> simp
theorem hi_xor (a b : BitVec 128) : hi (a ^^^ b) = hi a ^^^ hi b := by
  apply nat_ext; intro i; rw [Nat.testBit_xor]; simp only [hi_bit, BitVec.getLsbD_xor]
theorem lo_xor (a b : BitVec 128) : lo (a ^^^ b) = lo a ^^^ lo b := by
  apply nat_ext; intro i; rw [Nat.testBit_xor]; simp only [lo_bit, BitVec.getLsbD_xor]; cases decide (i < 64) <;> simp
theorem not_toNat (a : BitVec 128) : (~~~ a).toNat = 2 ^ 128 - 1 - a.toNat := BitVec.toNat_not
theorem hi_not (a : BitVec 128) : hi (~~~ a) = 2 ^ 64 - 1 - hi a := by
  have := a.isLt; unfold hi; rw [not_toNat]; omega
theorem lo_not (a : BitVec 128) : lo (~~~ a) = 2 ^ 64 - 1 - lo a := by
  have := a.isLt; unfold lo; rw [not_toNat]; omega
/-- The bit at a place. -/
def bit (n : Nat) : BitVec 128 := 1#128 <<< n
theorem bit_get (n i : Nat) : (bit n).getLsbD i = (decide (i < 128) && decide (i = n)) := by
  unfold bit
  rw [BitVec.getLsbD_shiftLeft, BitVec.getLsbD_one]
  by_cases h1 : i < 128 <;> by_cases h2 : i = n <;> by_cases h3 : i < n <;> simp_all <;> omega
theorem hi_add (a b : BitVec 128) : hi (a + b) = (hi a + hi b + (lo a + lo b) / 2 ^ 64) % 2 ^ 64 := by
  have := a.isLt; have := b.isLt; unfold hi lo; rw [BitVec.toNat_add]; omega
theorem lo_add (a b : BitVec 128) : lo (a + b) = (lo a + lo b) % 2 ^ 64 := by
  have := a.isLt; have := b.isLt; unfold lo; rw [BitVec.toNat_add]; omega
theorem hi_sub (a b : BitVec 128) : hi (a - b) = (hi a + 2 ^ 64 - hi b - (if lo a < lo b then 1 else 0)) % 2 ^ 64 := by
  have := a.isLt; have := b.isLt; unfold hi lo; rw [BitVec.toNat_sub]; split <;> omega
theorem lo_sub (a b : BitVec 128) : lo (a - b) = (lo a + 2 ^ 64 - lo b) % 2 ^ 64 := by
  have := a.isLt; have := b.isLt; unfold lo; rw [BitVec.toNat_sub]; omega
theorem hi_up (x : BitVec 128) (n : Nat) (h : n < 64) : hi (x <<< n) = ((hi x <<< n) % 2 ^ 64) ||| (lo x >>> (64 - n)) := by
  apply nat_ext; intro i
  rw [Nat.testBit_or, Nat.testBit_mod_two_pow, Nat.testBit_shiftLeft, Nat.testBit_shiftRight]
  simp only [hi_bit, lo_bit, BitVec.getLsbD_shiftLeft]
  by_cases h1 : i < 64
  · by_cases h2 : n ≤ i
    · have e1 : i + 64 - n = i - n + 64 := by omega
      have h4 : ¬ 64 - n + i < 64 := by omega
      have h3 : ¬ i + 64 < n := by omega
      have h5 : i + 64 < 128 := by omega
      simp [h1, h2, e1, h3, h4, h5]
    · have e1 : i + 64 - n = 64 - n + i := by omega
      have h4 : 64 - n + i < 64 := by omega
      have h3 : ¬ i + 64 < n := by omega
      have h5 : i + 64 < 128 := by omega
      simp [h1, h2, e1, h3, h4, h5]
  · have h5 : ¬ i + 64 < 128 := by omega
    have h6 : ¬ 64 - n + i < 64 := by omega
    simp [h1, h5, h6]
theorem lo_up (x : BitVec 128) (n : Nat) : lo (x <<< n) = (lo x <<< n) % 2 ^ 64 := by
  apply nat_ext; intro i
  rw [Nat.testBit_mod_two_pow, Nat.testBit_shiftLeft]
  simp only [lo_bit, BitVec.getLsbD_shiftLeft]
  by_cases h1 : i < 64
  · by_cases h2 : n ≤ i
    · have : i - n < 64 := by omega
      have h3 : ¬ i < n := by omega
      have h4 : i < 128 := by omega
      simp [h1, h2, this, h3, h4]
    · have h3 : i < n := by omega
      simp [h2, h3]
  · simp [h1]
theorem hi_up64 (x : BitVec 128) (n : Nat) (h : 64 ≤ n) : hi (x <<< n) = (lo x <<< (n - 64)) % 2 ^ 64 := by
  apply nat_ext; intro i
  rw [Nat.testBit_mod_two_pow, Nat.testBit_shiftLeft]
  simp only [hi_bit, lo_bit, BitVec.getLsbD_shiftLeft]
  by_cases h1 : i < 64
  · by_cases h2 : n - 64 ≤ i
    · have h3 : ¬ i + 64 < n := by omega
      have h4 : i - (n - 64) < 64 := by omega
      have e : i + 64 - n = i - (n - 64) := by omega
      have h5 : i + 64 < 128 := by omega
      simp [h1, h2, h3, h4, e, h5]
    · have h3 : i + 64 < n := by omega
      simp [h2, h3]
  · have h5 : ¬ i + 64 < 128 := by omega
    simp [h1, h5]
theorem lo_up64 (x : BitVec 128) (n : Nat) (h : 64 ≤ n) : lo (x <<< n) = 0 := by
  apply nat_ext; intro i
  simp only [lo_bit, BitVec.getLsbD_shiftLeft, Nat.zero_testBit]
  by_cases h1 : i < 64
  · have : i < n := by omega
    simp [this]
  · simp [h1]
theorem hi_down (x : BitVec 128) (n : Nat) : hi (x >>> n) = hi x >>> n := by
  apply nat_ext; intro i
  rw [Nat.testBit_shiftRight]
  simp only [hi_bit, BitVec.getLsbD_ushiftRight]
  congr 1
theorem lo_down (x : BitVec 128) (n : Nat) (h : n < 64) : lo (x >>> n) = (lo x >>> n) ||| ((hi x <<< (64 - n)) % 2 ^ 64) := by
  apply nat_ext; intro i
  rw [Nat.testBit_or, Nat.testBit_mod_two_pow, Nat.testBit_shiftLeft, Nat.testBit_shiftRight]
  simp only [hi_bit, lo_bit, BitVec.getLsbD_ushiftRight]
  by_cases h1 : i < 64
  · by_cases h2 : n + i < 64
    · have : ¬ 64 - n ≤ i := by omega
      simp [h1, h2, this]
    · have h3 : 64 - n ≤ i := by omega
      have e : i - (64 - n) + 64 = n + i := by omega
      simp [h1, h2, h3, e]
  · have h2 : ¬ n + i < 64 := by omega
    simp [h1, h2]
theorem lo_down64 (x : BitVec 128) (n : Nat) (h : 64 ≤ n) : lo (x >>> n) = hi x >>> (n - 64) := by
  apply nat_ext; intro i
  rw [Nat.testBit_shiftRight]
  simp only [hi_bit, lo_bit, BitVec.getLsbD_ushiftRight]
  have e : n - 64 + i + 64 = n + i := by omega
  rw [e]
  by_cases h1 : i < 64
  · simp [h1]
  · have : x.getLsbD (n + i) = false := BitVec.getLsbD_of_ge _ _ (by omega)
    simp [h1, this]
theorem hi_down64 (x : BitVec 128) (n : Nat) (h : 64 ≤ n) : hi (x >>> n) = 0 := by
  apply nat_ext; intro i
  simp only [hi_bit, BitVec.getLsbD_ushiftRight, Nat.zero_testBit]
  exact BitVec.getLsbD_of_ge _ _ (by omega)
theorem hi_bitn (n : Nat) (h : n < 64) : hi (bit n) = 0 := by
  apply nat_ext; intro i
  rw [hi_bit, bit_get, Nat.zero_testBit]
  have : ¬ i + 64 = n := by omega
  simp [this]
theorem lo_bitn (n : Nat) (h : n < 64) : lo (bit n) = (1 <<< n) % 2 ^ 64 := by
  unfold bit; rw [lo_up]; rfl
theorem hi_bitn64 (n : Nat) (h : 64 ≤ n) : hi (bit n) = (1 <<< (n - 64)) % 2 ^ 64 := by
  unfold bit; rw [hi_up64 _ _ h]; rfl
theorem lo_bitn64 (n : Nat) (h : 64 ≤ n) : lo (bit n) = 0 := lo_up64 _ _ h
theorem wv_eq_iff {x y : BitVec 128} : ((hi x : Nat) : Int) = (hi y : Nat) ∧ ((lo x : Nat) : Int) = (lo y : Nat) ↔ x = y := by
  constructor
  · rintro ⟨h1, h2⟩; exact wv_inj (by omega) (by omega)
  · rintro rfl; exact ⟨rfl, rfl⟩
theorem eqc_wv (neg : Bool) (x y : BitVec 128) : pv (.eqc neg [some .u64, some .u64]) [wv x, wv y] = some (.bool (if neg then x != y else x == y)) := by
  have h : eqCells [some .u64, some .u64] [.int .u64 (hi x : Nat), .int .u64 (lo x : Nat)] [.int .u64 (hi y : Nat), .int .u64 (lo y : Nat)] = some (x == y) := by
    simp only [eqCells, and_self, if_true, Option.map_some]
    congr 1
    have := wv_eq_iff (x := x) (y := y)
    by_cases he : x = y
    · subst he; simp
    · have h2 : ¬ (((hi x : Nat) : Int) = (hi y : Nat) ∧ ((lo x : Nat) : Int) = (lo y : Nat)) := fun h => he (this.1 h)
      simp only [Bool.and_true, ← Bool.decide_and, h2, decide_false]
      simp [he]
  show Option.map (fun r => Value.bool (if neg then !r else r)) (eqCells [some .u64, some .u64] [.int .u64 (hi x : Nat), .int .u64 (lo x : Nat)] [.int .u64 (hi y : Nat), .int .u64 (lo y : Nat)]) = _
  rw [h]; cases neg <;> rfl
theorem eqc_wvs (x : BitVec 128) : pv (.eqc true [some .u64, some .u64]) [wv x, wv x] = some (.bool false) := by
  rw [eqc_wv]; simp
theorem eqc_wv0 (neg : Bool) (x : BitVec 128) : pv (.eqc neg [some .u64, some .u64]) [wv x, .agg #[.int .u64 0, .int .u64 0]] = some (.bool (if neg then x != 0 else x == 0)) := by
  rw [wv_zero]; exact eqc_wv neg x 0
/-- Two that are the same: told ahead. -/
theorem exQ :
    (∀ (x : BitVec 128) (k : Value → Prop), need (pv (.eqc true [some .u64, some .u64]) [wv x, wv x]) k = k (.bool false)) ∧
    (∀ (x : BitVec 128) (k : Value → Prop), need (pv (.eqc false [some .u64, some .u64]) [wv x, wv x]) k = k (.bool true)) ∧
    (∀ (q : IntKind) (n : Int) (k : Value → Prop), need (pv (.bin .neq) [.int q n, .int q n]) k = k (.bool false)) ∧
    (∀ (q : IntKind) (n : Int) (k : Value → Prop), need (pv (.bin .eql) [.int q n, .int q n]) k = k (.bool true)) ∧
    (∀ (b : Bool) (k : Value → Prop), need (pv (.eqb true) [.bool b, .bool b]) k = k (.bool false)) ∧
    (∀ (b : Bool) (k : Value → Prop), need (pv (.eqb false) [.bool b, .bool b]) k = k (.bool true)) := by
  refine ⟨?_, ?_, ?_, ?_, ?_, ?_⟩
  · intro x k; rw [eqc_wv, need_some]; simp
  · intro x k; rw [eqc_wv, need_some]; simp
  · intro q n k; rw [show pv (.bin .neq) [.int q n, .int q n] = some (.bool false) from by simp [pv, binI], need_some]
  · intro q n k; rw [show pv (.bin .eql) [.int q n, .int q n] = some (.bool true) from by simp [pv, binI], need_some]
  · intro b k; rw [show pv (.eqb true) [.bool b, .bool b] = some (.bool false) from by cases b <;> rfl, need_some]
  · intro b k; rw [show pv (.eqb false) [.bool b, .bool b] = some (.bool true) from by cases b <;> rfl, need_some]
theorem mul_bd {x h A B : Int} (hx : -A ≤ x ∧ x ≤ A) (hh : -B ≤ h ∧ h ≤ B) : -(A * B) ≤ x * h ∧ x * h ≤ A * B := by
  have h1 : (x * h).natAbs ≤ A.natAbs * B.natAbs := by rw [Int.natAbs_mul]; exact Nat.mul_le_mul (by omega) (by omega)
  have h2 : ((A.natAbs * B.natAbs : Nat) : Int) = A * B := by
    rw [Int.natCast_mul, Int.natAbs_of_nonneg (by omega), Int.natAbs_of_nonneg (by omega)]
  omega
end Go.SL
