/- Words place by place. No program in sight. -/
import Derived.Test.YtppajifkmepdnaaM3
import Derived.KernelRfl
set_option linter.unusedSimpArgs false
set_option linter.unusedVariables false
namespace Go.SL

def bcells (f : Nat → Bool) : List Value := (List.range 128).map fun i => .bool (f i)
theorem bcells_len (f : Nat → Bool) : (bcells f).length = 128 := by simp [bcells]
theorem bcells_get (f : Nat → Bool) (i : Nat) (h : i < 128) : (bcells f)[i]? = some (.bool (f i)) := by simp [bcells, h]
theorem bcells_set (f : Nat → Bool) (k : Nat) (v : Bool) : (bcells f).set k (.bool v) = bcells (fun j => if j = k then v else f j) := by
  apply List.ext_getElem
  · simp [bcells]
  · intro n h1 h2
    have hn : n < 128 := by simpa [bcells] using h2
    by_cases h : k = n
    · subst h; simp [bcells]
    · have : ¬ n = k := fun e => h e.symm
      simp [bcells, h, this]
theorem bcells_congr {f g : Nat → Bool} (h : ∀ i, i < 128 → f i = g i) : bcells f = bcells g := by
  unfold bcells
  apply List.map_congr_left
  intro i hi; rw [h i (by simpa using hi)]
theorem bcells_zero : rl [(128, .bool false)] = bcells (fun _ => false) := by kernel_rfl
theorem bcells_take (f : Nat → Bool) : (bcells f).take 128 = bcells f := List.take_of_length_le (by rw [bcells_len]; exact Nat.le_refl _)
theorem bcells_drop (f : Nat → Bool) : (bcells f).drop 128 = [] := List.drop_of_length_le (by rw [bcells_len]; exact Nat.le_refl _)
theorem bcells_all (f : Nat → Bool) : (bcells f).all isCell = true := by
  rw [List.all_eq_true]; intro v hv
  obtain ⟨i, _, rfl⟩ := List.mem_map.1 hv
  rfl

def wordOf (f : Nat → Bool) : BitVec 128 := (List.range 128).foldl (fun a j => if f j then a ||| bit j else a) 0
theorem wordN_get (f : Nat → Bool) (i : Nat) : ∀ n, n ≤ 128 → ((List.range n).foldl (fun a j => if f j then a ||| bit j else a) (0 : BitVec 128)).getLsbD i = (decide (i < n) && f i) := by
  intro n
  induction n with
  | zero => intro _; simp
  | succ n ih =>
    intro hn
    rw [List.range_succ, List.foldl_append, List.foldl_cons, List.foldl_nil]
    have ih := ih (by omega)
    by_cases h : f n = true
    · rw [if_pos h, BitVec.getLsbD_or, ih, bit_get]
      by_cases h1 : i = n
      · subst h1; simp [h]; omega
      · have : (i < n + 1) ↔ (i < n) := by omega
        simp [h1, this]
    · rw [if_neg h, ih]
      by_cases h1 : i = n
      · subst h1; simp [h]
      · have : (i < n + 1) ↔ (i < n) := by omega
        simp [this]
theorem wordOf_get (f : Nat → Bool) (i : Nat) : (wordOf f).getLsbD i = (decide (i < 128) && f i) := wordN_get f i 128 (Nat.le_refl _)
theorem word_ext {x y : BitVec 128} (h : ∀ i, i < 128 → x.getLsbD i = y.getLsbD i) : x = y := BitVec.eq_of_getLsbD_eq fun i hi => h i hi
theorem wordOf_of (x : BitVec 128) : wordOf (fun i => x.getLsbD i) = x := word_ext fun i hi => by rw [wordOf_get]; simp [hi]
theorem wordOf_congr {f g : Nat → Bool} (h : ∀ i, i < 128 → f i = g i) : wordOf f = wordOf g := word_ext fun i hi => by rw [wordOf_get, wordOf_get, h i hi]
/-- One step of reading a word off its places. -/
theorem lo_step (x : BitVec 128) (m : Nat) (hm : m < 64) : lo x >>> m = 2 * (lo x >>> (m + 1)) + (if x.getLsbD m then 1 else 0) := by
  have h1 : lo x >>> (m + 1) = (lo x >>> m) / 2 := by rw [Nat.shiftRight_succ]
  have h2 : (lo x >>> m) % 2 = if x.getLsbD m then 1 else 0 := by
    have := lo_bit x m
    rw [Nat.testBit_eq_decide_div_mod_eq, ← Nat.shiftRight_eq_div_pow] at this
    simp only [hm, decide_true, Bool.true_and] at this
    generalize lo x >>> m = q at this
    cases hb : x.getLsbD m <;> rw [hb] at this <;> simp only [decide_eq_true_eq, decide_eq_false_iff_not] at this <;> simp only [Bool.false_eq_true, if_false, if_true] <;> omega
  omega
theorem hi_step (x : BitVec 128) (m : Nat) (hm : m < 64) : hi x >>> m = 2 * (hi x >>> (m + 1)) + (if x.getLsbD (m + 64) then 1 else 0) := by
  have h1 : hi x >>> (m + 1) = (hi x >>> m) / 2 := by rw [Nat.shiftRight_succ]
  have h2 : (hi x >>> m) % 2 = if x.getLsbD (m + 64) then 1 else 0 := by
    have := hi_bit x m
    rw [Nat.testBit_eq_decide_div_mod_eq, ← Nat.shiftRight_eq_div_pow] at this
    generalize hi x >>> m = q at this
    cases hb : x.getLsbD (m + 64) <;> rw [hb] at this <;> simp only [decide_eq_true_eq, decide_eq_false_iff_not] at this <;> simp only [Bool.false_eq_true, if_false, if_true] <;> omega
  omega
theorem shr_lt {a : Nat} (h : a < 2 ^ 64) (m : Nat) : a >>> m < 2 ^ 64 := Nat.lt_of_le_of_lt (Nat.shiftRight_le _ _) h
theorem bit_and1 {a : Nat} (ha : a < 2 ^ 64) (i : Nat) : (iand .u64 (ishr .u64 a i) 1 == 1) = a.testBit i := by
  rw [ishr_nat ha, show ((1 : Int)) = ((1 : Nat) : Int) from rfl, iand_nat (shr_lt ha i) (by omega)]
  rw [Nat.and_one_is_mod, Nat.testBit_eq_decide_div_mod_eq, ← Nat.shiftRight_eq_div_pow]
  have : a >>> i % 2 = 0 ∨ a >>> i % 2 = 1 := by omega
  rcases this with h | h <;> simp [h]
/-- The bits at the places of a list. -/
theorem ofL_get (xs : List Int) (i : Nat) : (ofL xs).getLsbD i = (decide (i < 128) && xs.any (fun x => x == (i : Int))) := by
  have key : ∀ (xs : List Int) (a : BitVec 128), (xs.foldl (fun a p => a ||| bitZ p) a).getLsbD i = (a.getLsbD i || (decide (i < 128) && xs.any (fun x => x == (i : Int)))) := by
    intro xs
    induction xs with
    | nil => intro a; simp
    | cons x xs ih =>
      intro a
      rw [List.foldl_cons, ih, BitVec.getLsbD_or, List.any_cons]
      have : (bitZ x).getLsbD i = (decide (i < 128) && (x == (i : Int))) := by
        unfold bitZ
        split
        · rename_i h
          rw [bit_get]
          congr 1
          by_cases h1 : x = (i : Int)
          · subst h1; simp
          · have : ¬ i = x.toNat := by omega
            simp [h1, this]
        · rename_i h
          by_cases h1 : i < 128
          · have : ¬ x = (i : Int) := by omega
            simp [this]
          · simp [h1]
      rw [this]
      cases a.getLsbD i <;> cases decide (i < 128) <;> cases (x == (i : Int)) <;> simp
  have := key xs 0
  simpa [ofL] using this
end Go.SL
