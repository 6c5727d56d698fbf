/- Words place by place: what the functions of plummetref02 come to. -/
import Derived.Test.YtppajifkmepdnaaU1
import Derived.Test.YtppajifkmepdnaaM4
set_option linter.unusedSimpArgs false
set_option linter.unusedVariables false
namespace Go.SL
open Go.Proofs
set_option maxRecDepth 8000
theorem rep128 : (List.replicate 128 (Value.bool false)) = bcells (fun _ => false) := bcells_zero
def s94 : SFun := ⟨[], 34, [(.cell 2 49)], (.seq (.reg [⟨none, (.box 1 (.tmp 0))⟩, ⟨none, (.alloc 2 [(.int .u64 0), (.int .u64 0)])⟩]) (.seq (.reg [⟨none, (.pure 5 (.build [(.int .u64 0), (.int .u64 0)] []) [])⟩, ⟨none, (.alloc 3 [(.int .u64 0), (.int .u64 0)])⟩, ⟨none, (.storeN (.tmp 3) (.tmp 5) 2)⟩]) (.seq (.seq (.reg [⟨none, (.pure 4 .mv [(.const (.int .i64 63))])⟩]) (.block 0 (.loop (.seq (.seq (.reg [⟨none, (.pure 6 .mv [(.tmp 4)])⟩, ⟨none, (.pure 7 (.bin .geq) [(.tmp 6), (.const (.int .i64 0))])⟩]) (.cond (.tmp 7) .skip (.exit 0))) (.seq (.block 1 (.seq (.reg [⟨none, (.pure 10 (.fad 1) [(.tmp 3)])⟩, ⟨none, (.load1 11 (.tmp 10))⟩, ⟨none, (.pure 12 (.bin .mul) [(.const (.int .u64 2)), (.tmp 11)])⟩, ⟨none, (.pure 13 (.fad 1) [(.tmp 3)])⟩, ⟨none, (.store1 (.tmp 13) (.tmp 12))⟩]) (.seq (.reg [⟨none, (.pure 14 (.fad 0) [(.tmp 3)])⟩, ⟨none, (.load1 15 (.tmp 14))⟩, ⟨none, (.pure 16 (.bin .mul) [(.const (.int .u64 2)), (.tmp 15)])⟩, ⟨none, (.pure 17 (.fad 0) [(.tmp 3)])⟩, ⟨none, (.store1 (.tmp 17) (.tmp 16))⟩]) (.seq (.seq (.reg [⟨none, (.pure 18 .mv [(.tmp 4)])⟩, ⟨none, (.pure 19 (.iaA 128 1) [(.tmp 1), (.tmp 18)])⟩, ⟨none, (.load1 20 (.tmp 19))⟩]) (.cond (.tmp 20) (.reg [⟨none, (.pure 21 (.fad 1) [(.tmp 3)])⟩, ⟨none, (.load1 22 (.tmp 21))⟩, ⟨none, (.pure 23 (.bin .add) [(.tmp 22), (.const (.int .u64 1))])⟩, ⟨none, (.pure 24 (.fad 1) [(.tmp 3)])⟩, ⟨none, (.store1 (.tmp 24) (.tmp 23))⟩]) .skip)) (.seq (.reg [⟨none, (.pure 25 .mv [(.tmp 4)])⟩, ⟨none, (.pure 26 (.bin .add) [(.const (.int .i64 64)), (.tmp 25)])⟩, ⟨none, (.pure 27 (.iaA 128 1) [(.tmp 1), (.tmp 26)])⟩, ⟨none, (.load1 28 (.tmp 27))⟩]) (.cond (.tmp 28) (.reg [⟨none, (.pure 29 (.fad 0) [(.tmp 3)])⟩, ⟨none, (.load1 30 (.tmp 29))⟩, ⟨none, (.pure 31 (.bin .add) [(.tmp 30), (.const (.int .u64 1))])⟩, ⟨none, (.pure 32 (.fad 0) [(.tmp 3)])⟩, ⟨none, (.store1 (.tmp 32) (.tmp 31))⟩]) .skip)))))) (.reg [⟨none, (.pure 8 .mv [(.tmp 4)])⟩, ⟨none, (.pure 9 (.bin .sub) [(.tmp 8), (.const (.int .i64 1))])⟩, ⟨none, (.pure 4 .mv [(.tmp 9)])⟩])))))) (.seq (.reg [⟨none, (.loadN 33 (.tmp 3) 2)⟩, ⟨none, (.storeN (.tmp 2) (.tmp 33) 2)⟩]) .ret))))⟩
theorem s94_ok : cFun Try.prog [] Try.f94 = some s94 := by kernel_rfl
theorem hb94 : HasBody Try.prog 94 := ⟨_, Try.func94, by kernel_rfl, by kernel_rfl⟩
set_option maxHeartbeats 1000000 in
theorem p_rWord (f : Nat → Bool) : PF Try.prog 94 [.agg (bcells f).toArray] (wv (wordOf f)) := by
  intro w
  refine quiet Try.func94 (by kernel_rfl) (by kernel_rfl) s94_ok (by kernel_rfl) ?_
  have hc : (Value.agg (bcells f).toArray).cells = (bcells f).toArray := rfl
  have hx : wordOf f = wordOf f := rfl
  simp only [↓exP, ↓exQ, ↓need_ite, ↓need_ite', ↓exA, exB, exC, reduceIte, Nat.reduceEqDiff, Nat.reduceAdd, Nat.reduceSub, Nat.reduceMul, Nat.reduceLeDiff, Nat.reduceLT, Int.reduceToNat, Int.reduceBEq, Int.reduceBNe, Int.reduceLT, Int.reduceLE, Int.reduceEq, Int.reduceNeg, decide_true, decide_false, rd1_own, rd_own, hset_notIn, need_ite, need_ite', map_ite, s94, hc, bcells_len]
  intro b1 lb1 fb1; try simp only [NotIn] at fb1
  simp only [↓exP, ↓exQ, ↓need_ite, ↓need_ite', ↓exA, exB, exC, reduceIte, Nat.reduceEqDiff, Nat.reduceAdd, Nat.reduceSub, Nat.reduceMul, Nat.reduceLeDiff, Nat.reduceLT, Int.reduceToNat, Int.reduceBEq, Int.reduceBNe, Int.reduceLT, Int.reduceLE, Int.reduceEq, Int.reduceNeg, decide_true, decide_false, rd1_own, rd_own, hset_notIn, need_ite, need_ite', map_ite, bcells_len]
  intro b2 lb2 fb2; try simp only [NotIn] at fb2
  simp only [↓exP, ↓exQ, ↓need_ite, ↓need_ite', ↓exA, exB, exC, reduceIte, Nat.reduceEqDiff, Nat.reduceAdd, Nat.reduceSub, Nat.reduceMul, Nat.reduceLeDiff, Nat.reduceLT, Int.reduceToNat, Int.reduceBEq, Int.reduceBNe, Int.reduceLT, Int.reduceLE, Int.reduceEq, Int.reduceNeg, decide_true, decide_false, rd1_own, rd_own, hset_notIn, need_ite, need_ite', map_ite]
  intro b3 lb3 fb3; try simp only [NotIn] at fb3
  simp only [↓exP, ↓exQ, ↓need_ite, ↓need_ite', ↓exA, exB, exC, reduceIte, Nat.reduceEqDiff, Nat.reduceAdd, Nat.reduceSub, Nat.reduceMul, Nat.reduceLeDiff, Nat.reduceLT, Int.reduceToNat, Int.reduceBEq, Int.reduceBNe, Int.reduceLT, Int.reduceLE, Int.reduceEq, Int.reduceNeg, decide_true, decide_false, rd1_own, rd_own, hset_notIn, need_ite, need_ite', map_ite, lb1, lb2, lb3, fb2, fb3]
  refine SWS.loop (σ := Nat) 64 (fun k => k ≤ 64) (fun k => [(1, .pointer (some ⟨b1, 0, none⟩)), (2, .pointer (some ⟨b2, 0, none⟩)), (3, .pointer (some ⟨b3, 0, none⟩)), (4, .int .i64 ((k : Nat) - 1 : Int))])
    (fun k => [(b3, .cells [.int .u64 (hi (wordOf f) >>> k : Nat), .int .u64 (lo (wordOf f) >>> k : Nat)] 2), (b2, .cells [.int .u64 0, .int .u64 0] 2), (b1, .cells (bcells f) 128)]) (fun k => k) (Nat.le_refl _) ?_ ?_ ?_
  · simp [subR, lk]
  · have e1 : hi (wordOf f) >>> 64 = 0 := by rw [Nat.shiftRight_eq_div_pow]; exact Nat.div_eq_of_lt (hi_lt _)
    have e2 : lo (wordOf f) >>> 64 = 0 := by rw [Nat.shiftRight_eq_div_pow]; exact Nat.div_eq_of_lt (lo_lt _)
    rw [e1, e2]
    repeat (first | exact sub_refl _ | exact sub_nil _ | (refine sub_cons (by simp only [List.mem_cons, true_or, or_true]) ?_) | refine sub_tail ?_)
  · intro k hk
    rcases Nat.eq_zero_or_pos k with h0 | h0
    · subst h0
      have e0 : ((0 : Nat) : Int) - 1 = -1 := by omega
      rw [e0]
      simp only [↓exP, ↓exQ, ↓need_ite, ↓need_ite', ↓exA, exB, exC, reduceIte, Nat.reduceEqDiff, Nat.reduceAdd, Nat.reduceSub, Nat.reduceMul, Nat.reduceLeDiff, Nat.reduceLT, Int.reduceToNat, Int.reduceBEq, Int.reduceBNe, Int.reduceLT, Int.reduceLE, Int.reduceEq, Int.reduceNeg, decide_true, decide_false, rd1_own, rd_own, hset_notIn, need_ite, need_ite', map_ite, lb1, lb2, lb3, fb2, fb3, resV_cellN ti49]
      exact ends_q rfl
    · obtain ⟨m, rfl⟩ : ∃ m, k = m + 1 := ⟨k - 1, by omega⟩
      have e0 : ((m + 1 : Nat) : Int) - 1 = (m : Nat) := by omega
      have e1 : IntKind.i64.wrap (64 + (m : Int)) = ((64 + m : Nat) : Int) := by rw [wrap64 _ (by omega)]; omega
      have e2 : IntKind.i64.wrap ((m : Int) - 1) = (m : Int) - 1 := wrap64 _ (by omega)
      have g1 : (bcells f)[m]? = some (.bool (f m)) := bcells_get f m (by omega)
      have g2 : (bcells f)[64 + m]? = some (.bool (f (64 + m))) := bcells_get f (64 + m) (by omega)
      have l1 := lo_step (wordOf f) m (by omega)
      have l2 := hi_step (wordOf f) m (by omega)
      rw [wordOf_get] at l1 l2
      rw [show m + 64 = 64 + m from by omega] at l2
      have hl := shr_lt (lo_lt (wordOf f)) m
      have hh := shr_lt (hi_lt (wordOf f)) m
      have d1 : decide (m < 128) = true := by simp; omega
      have d2 : decide (64 + m < 128) = true := by simp; omega
      rw [d1, Bool.true_and] at l1
      rw [d2, Bool.true_and] at l2
      rw [e0]
      have a1 : 0 ≤ (m : Int) := by omega
      have a2 : (m : Int) < ((128 : Nat) : Int) := by omega
      have a3 : 0 ≤ ((64 + m : Nat) : Int) := by omega
      have a4 : ((64 + m : Nat) : Int) < ((128 : Nat) : Int) := by omega
      generalize hi (wordOf f) >>> (m + 1) = h' at l2
      generalize lo (wordOf f) >>> (m + 1) = l' at l1
      have l'b : l' < 2 ^ 63 := by split at l1 <;> omega
      have h'b : h' < 2 ^ 63 := by split at l2 <;> omega
      have e3 : IntKind.u64.wrap (2 * (h' : Int)) = ((2 * h' : Nat) : Int) := by rw [wrap_u64']; omega
      have e4 : IntKind.u64.wrap (2 * (l' : Int)) = ((2 * l' : Nat) : Int) := by rw [wrap_u64']; omega
      have e5 : IntKind.u64.wrap (((2 * h' : Nat) : Int) + 1) = ((2 * h' + 1 : Nat) : Int) := by rw [wrap_u64']; omega
      have e6 : IntKind.u64.wrap (((2 * l' : Nat) : Int) + 1) = ((2 * l' + 1 : Nat) : Int) := by rw [wrap_u64']; omega
      cases hb : f m <;> cases hb2 : f (64 + m) <;> rw [hb] at g1 l1 <;> rw [hb2] at g2 l2 <;> simp only [if_true, Bool.false_eq_true, if_false, Nat.add_zero] at l1 l2
      all_goals
        simp only [↓exP, ↓exQ, ↓need_ite, ↓need_ite', ↓exA, exB, exC, reduceIte, Nat.reduceEqDiff, Nat.reduceAdd, Nat.reduceSub, Nat.reduceMul, Nat.reduceLeDiff, Nat.reduceLT, Int.reduceToNat, Int.reduceBEq, Int.reduceBNe, Int.reduceLT, Int.reduceLE, Int.reduceEq, Int.reduceNeg, decide_true, decide_false, rd1_own, rd_own, hset_notIn, need_ite, need_ite', map_ite, lb1, lb2, lb3, fb2, fb3, e1, e2, e3, e4, e5, e6, g1, g2, a1, a2, a3, a4]
        refine ⟨m, ⟨by omega, by omega⟩, by simp [subR, lk], ?_⟩
        rw [l1, l2]
        repeat (first | exact sub_refl _ | exact sub_nil _ | (refine sub_cons (by simp only [List.mem_cons, true_or, or_true]) ?_) | refine sub_tail ?_)
def s93 : SFun := ⟨[], 29, [(.cell 2 117)], (.seq (.reg [⟨none, (.box 1 (.tmp 0))⟩, ⟨none, (.alloc 2 (rl [(128, (.bool false))]))⟩]) (.seq (.reg [⟨none, (.alloc 3 (rl [(128, (.bool false))]))⟩]) (.seq (.seq (.reg [⟨none, (.pure 4 .mv [(.const (.int .i64 0))])⟩]) (.block 0 (.loop (.seq (.seq (.reg [⟨none, (.pure 5 .mv [(.tmp 4)])⟩, ⟨none, (.pure 6 (.bin .lss) [(.tmp 5), (.const (.int .i64 64))])⟩]) (.cond (.tmp 6) .skip (.exit 0))) (.seq (.block 1 (.seq (.reg [⟨none, (.pure 9 .mv [(.tmp 4)])⟩, ⟨none, (.pure 10 (.fad 1) [(.tmp 1)])⟩, ⟨none, (.load1 11 (.tmp 10))⟩, ⟨none, (.pure 12 .mv [(.tmp 4)])⟩, ⟨none, (.pure 13 (.conv .u64) [(.tmp 12)])⟩, ⟨none, (.pure 14 (.bin .shr) [(.tmp 11), (.tmp 13)])⟩, ⟨none, (.pure 15 (.bin .and) [(.tmp 14), (.const (.int .u64 1))])⟩, ⟨none, (.pure 16 (.bin .eql) [(.tmp 15), (.const (.int .u64 1))])⟩, ⟨none, (.pure 17 (.iaA 128 1) [(.tmp 3), (.tmp 9)])⟩, ⟨none, (.store1 (.tmp 17) (.tmp 16))⟩]) (.reg [⟨none, (.pure 18 .mv [(.tmp 4)])⟩, ⟨none, (.pure 19 (.bin .add) [(.const (.int .i64 64)), (.tmp 18)])⟩, ⟨none, (.pure 20 (.fad 0) [(.tmp 1)])⟩, ⟨none, (.load1 21 (.tmp 20))⟩, ⟨none, (.pure 22 .mv [(.tmp 4)])⟩, ⟨none, (.pure 23 (.conv .u64) [(.tmp 22)])⟩, ⟨none, (.pure 24 (.bin .shr) [(.tmp 21), (.tmp 23)])⟩, ⟨none, (.pure 25 (.bin .and) [(.tmp 24), (.const (.int .u64 1))])⟩, ⟨none, (.pure 26 (.bin .eql) [(.tmp 25), (.const (.int .u64 1))])⟩, ⟨none, (.pure 27 (.iaA 128 1) [(.tmp 3), (.tmp 19)])⟩, ⟨none, (.store1 (.tmp 27) (.tmp 26))⟩]))) (.reg [⟨none, (.pure 7 .mv [(.tmp 4)])⟩, ⟨none, (.pure 8 (.bin .add) [(.tmp 7), (.const (.int .i64 1))])⟩, ⟨none, (.pure 4 .mv [(.tmp 8)])⟩])))))) (.seq (.reg [⟨none, (.loadN 28 (.tmp 3) 128)⟩, ⟨none, (.storeN (.tmp 2) (.tmp 28) 128)⟩]) .ret))))⟩
theorem s93_ok : cFun Try.prog [] Try.f93 = some s93 := by kernel_rfl
theorem hb93 : HasBody Try.prog 93 := ⟨_, Try.func93, by kernel_rfl, by kernel_rfl⟩
def ofStep (x : BitVec 128) (i : Nat) (j : Nat) : Bool := decide (j % 64 < i) && x.getLsbD j
set_option maxHeartbeats 1000000 in
theorem p_rOf (x : BitVec 128) : PF Try.prog 93 [wv x] (.agg (bcells fun i => x.getLsbD i).toArray) := by
  intro w
  refine quiet Try.func93 (by kernel_rfl) (by kernel_rfl) s93_ok (by kernel_rfl) ?_
  simp only [↓exP, ↓exQ, ↓need_ite, ↓need_ite', ↓exA, exB, exC, reduceIte, Nat.reduceEqDiff, Nat.reduceAdd, Nat.reduceSub, Nat.reduceMul, Nat.reduceLeDiff, Nat.reduceLT, Int.reduceToNat, Int.reduceBEq, Int.reduceBNe, Int.reduceLT, Int.reduceLE, Int.reduceEq, Int.reduceNeg, decide_true, decide_false, rd1_own, rd_own, hset_notIn, need_ite, need_ite', map_ite, s93, wv_cells, bcells_zero, bcells_len]
  intro b1 lb1 fb1; try simp only [NotIn] at fb1
  simp only [↓exP, ↓exQ, ↓need_ite, ↓need_ite', ↓exA, exB, exC, reduceIte, Nat.reduceEqDiff, Nat.reduceAdd, Nat.reduceSub, Nat.reduceMul, Nat.reduceLeDiff, Nat.reduceLT, Int.reduceToNat, Int.reduceBEq, Int.reduceBNe, Int.reduceLT, Int.reduceLE, Int.reduceEq, Int.reduceNeg, decide_true, decide_false, rd1_own, rd_own, hset_notIn, need_ite, need_ite', map_ite, bcells_zero, bcells_len]
  intro b2 lb2 fb2; try simp only [NotIn] at fb2
  simp only [↓exP, ↓exQ, ↓need_ite, ↓need_ite', ↓exA, exB, exC, reduceIte, Nat.reduceEqDiff, Nat.reduceAdd, Nat.reduceSub, Nat.reduceMul, Nat.reduceLeDiff, Nat.reduceLT, Int.reduceToNat, Int.reduceBEq, Int.reduceBNe, Int.reduceLT, Int.reduceLE, Int.reduceEq, Int.reduceNeg, decide_true, decide_false, rd1_own, rd_own, hset_notIn, need_ite, need_ite', map_ite, bcells_zero, bcells_len]
  intro b3 lb3 fb3; try simp only [NotIn] at fb3
  simp only [↓exP, ↓exQ, ↓need_ite, ↓need_ite', ↓exA, exB, exC, reduceIte, Nat.reduceEqDiff, Nat.reduceAdd, Nat.reduceSub, Nat.reduceMul, Nat.reduceLeDiff, Nat.reduceLT, Int.reduceToNat, Int.reduceBEq, Int.reduceBNe, Int.reduceLT, Int.reduceLE, Int.reduceEq, Int.reduceNeg, decide_true, decide_false, rd1_own, rd_own, hset_notIn, need_ite, need_ite', map_ite, lb1, lb2, lb3, fb2, fb3]
  refine SWS.loop (σ := Nat) 0 (fun i => i ≤ 64) (fun i => [(1, .pointer (some ⟨b1, 0, none⟩)), (2, .pointer (some ⟨b2, 0, none⟩)), (3, .pointer (some ⟨b3, 0, none⟩)), (4, .int .i64 (i : Nat))])
    (fun i => [(b3, .cells (bcells (ofStep x i)) 128), (b2, .cells (bcells fun _ => false) 128), (b1, .cells [.int .u64 (hi x : Nat), .int .u64 (lo x : Nat)] 2)]) (fun i => 64 - i) (Nat.zero_le _) ?_ ?_ ?_
  · simp [subR, lk]
  · have : bcells (ofStep x 0) = bcells fun _ => false := bcells_congr fun i _ => by simp [ofStep]
    rw [this]
    repeat (first | exact sub_refl _ | exact sub_nil _ | (refine sub_cons (by simp only [List.mem_cons, true_or, or_true]) ?_) | refine sub_tail ?_)
  · intro i hil
    have e6 : IntKind.i64.wrap ((i : Int) + 1) = ((i + 1 : Nat) : Int) := by rw [wrap64 _ (by omega)]; omega
    have e5 : IntKind.i64.wrap (64 + (i : Int)) = ((64 + i : Nat) : Int) := by rw [wrap64 _ (by omega)]; omega
    have e4 : IntKind.u64.wrap (i : Int) = (i : Int) := by rw [wrap_u64']; omega
    have e3 : ¬ (i : Int) < 0 := by omega
    rcases Nat.lt_or_ge i 64 with hlt | hge
    · have a1 : (i : Int) < 64 := by omega
      have a2 : (0 : Int) ≤ (i : Int) := by omega
      have a3 : (i : Int) < ((128 : Nat) : Int) := by omega
      have a4 : (0 : Int) ≤ ((64 + i : Nat) : Int) := by omega
      have a5 : ((64 + i : Nat) : Int) < ((128 : Nat) : Int) := by omega
      have a6 : i < 128 := by omega
      have a7 : 64 + i < 128 := by omega
      have b1' := bit_and1 (lo_lt x) i
      have b2' := bit_and1 (hi_lt x) i
      simp only [↓exP, ↓exQ, ↓need_ite, ↓need_ite', ↓exA, exB, exC, reduceIte, Nat.reduceEqDiff, Nat.reduceAdd, Nat.reduceSub, Nat.reduceMul, Nat.reduceLeDiff, Nat.reduceLT, Int.reduceToNat, Int.reduceBEq, Int.reduceBNe, Int.reduceLT, Int.reduceLE, Int.reduceEq, Int.reduceNeg, decide_true, decide_false, rd1_own, rd_own, hset_notIn, need_ite, need_ite', map_ite, lb1, lb2, lb3, fb2, fb3, e6, e5, e4, e3, a1, a2, a3, a4, a5, a6, a7, bcells_len, bcells_set, b1', b2']
      refine ⟨i + 1, ⟨by omega, by omega⟩, by simp [subR, lk], ?_⟩
      have hs : bcells (ofStep x (i + 1)) = bcells (fun j => if j = 64 + i then (hi x).testBit i else if j = i then (lo x).testBit i else ofStep x i j) := by
        refine bcells_congr fun j hj => ?_
        rw [hi_bit, lo_bit]
        unfold ofStep
        by_cases h1 : j = 64 + i
        · have : j % 64 < i + 1 := by omega
          simp [h1, this, Nat.add_comm]
          omega
        · by_cases h2 : j = i
          · have : j % 64 < i + 1 := by omega
            subst h2
            simp [h1, this, hlt]
          · have : j % 64 < i + 1 ↔ j % 64 < i := by omega
            simp [h1, h2, this]
      rw [hs]
      repeat (first | exact sub_refl _ | exact sub_nil _ | (refine sub_cons (by simp only [List.mem_cons, true_or, or_true]) ?_) | refine sub_tail ?_)
    · have hi' : i = 64 := by omega
      have a1 : ¬ ((64 : Nat) : Int) < 64 := by omega
      subst hi'
      have hs : bcells (ofStep x 64) = bcells (fun j => x.getLsbD j) := bcells_congr fun j hj => by
        have : j % 64 < 64 := Nat.mod_lt _ (by omega)
        simp [ofStep, this]
      simp only [↓exP, ↓exQ, ↓need_ite, ↓need_ite', ↓exA, exB, exC, reduceIte, Nat.reduceEqDiff, Nat.reduceAdd, Nat.reduceSub, Nat.reduceMul, Nat.reduceLeDiff, Nat.reduceLT, Int.reduceToNat, Int.reduceBEq, Int.reduceBNe, Int.reduceLT, Int.reduceLE, Int.reduceEq, Int.reduceNeg, decide_true, decide_false, rd1_own, rd_own, hset_notIn, need_ite, need_ite', map_ite, a1, lb1, lb2, lb3, fb2, fb3, hs, bcells_len, bcells_take, bcells_drop, bcells_all, resV_cellN ti117]
      exact ends_q rfl

def orStep (f g : Nat → Bool) (i : Nat) (j : Nat) : Bool := if j < i then f j || g j else f j
def s69 : SFun := ⟨[], 28, [(.cell 4 49)], (.seq (.reg [⟨none, (.box 2 (.tmp 0))⟩, ⟨none, (.box 3 (.tmp 1))⟩, ⟨none, (.alloc 4 [(.int .u64 0), (.int .u64 0)])⟩]) (.seq (.reg [⟨none, (.loadN 8 (.tmp 2) 2)⟩, ⟨none, (.call (some 9) (.func 93) [(.tmp 8)])⟩, ⟨none, (.alloc 5 (rl [(128, (.bool false))]))⟩, ⟨none, (.storeN (.tmp 5) (.tmp 9) 128)⟩]) (.seq (.reg [⟨none, (.loadN 10 (.tmp 3) 2)⟩, ⟨none, (.call (some 11) (.func 93) [(.tmp 10)])⟩, ⟨none, (.alloc 6 (rl [(128, (.bool false))]))⟩, ⟨none, (.storeN (.tmp 6) (.tmp 11) 128)⟩]) (.seq (.seq (.reg [⟨none, (.pure 7 .mv [(.const (.int .i64 0))])⟩]) (.block 0 (.loop (.seq (.seq (.reg [⟨none, (.pure 12 .mv [(.tmp 7)])⟩, ⟨none, (.pure 13 (.bin .lss) [(.tmp 12), (.const (.int .i64 128))])⟩]) (.cond (.tmp 13) .skip (.exit 0))) (.seq (.block 1 (.reg [⟨none, (.pure 16 .mv [(.tmp 7)])⟩, ⟨none, (.pure 17 .mv [(.tmp 7)])⟩, ⟨none, (.pure 18 (.iaA 128 1) [(.tmp 5), (.tmp 17)])⟩, ⟨none, (.load1 19 (.tmp 18))⟩, ⟨none, (.pure 20 .mv [(.tmp 19)])⟩, ⟨(some (20, false)), (.pure 21 .mv [(.tmp 7)])⟩, ⟨(some (20, false)), (.pure 22 (.iaA 128 1) [(.tmp 6), (.tmp 21)])⟩, ⟨(some (20, false)), (.load1 23 (.tmp 22))⟩, ⟨none, (.pure 24 .pick [(.tmp 20), (.const (.bool true)), (.tmp 23)])⟩, ⟨none, (.pure 25 (.iaA 128 1) [(.tmp 5), (.tmp 16)])⟩, ⟨none, (.store1 (.tmp 25) (.tmp 24))⟩])) (.reg [⟨none, (.pure 14 .mv [(.tmp 7)])⟩, ⟨none, (.pure 15 (.bin .add) [(.tmp 14), (.const (.int .i64 1))])⟩, ⟨none, (.pure 7 .mv [(.tmp 15)])⟩])))))) (.seq (.reg [⟨none, (.loadN 26 (.tmp 5) 128)⟩, ⟨none, (.call (some 27) (.func 94) [(.tmp 26)])⟩, ⟨none, (.storeN (.tmp 4) (.tmp 27) 2)⟩]) .ret)))))⟩
theorem s69_ok : cFun Try.prog [] Try.f69 = some s69 := by kernel_rfl
theorem hb69 : HasBody Try.prog 69 := ⟨_, Try.func69, by kernel_rfl, by kernel_rfl⟩
set_option maxHeartbeats 1000000 in
theorem p_rOr (x y : BitVec 128) : PF Try.prog 69 [wv x, wv y] (wv (x ||| y)) := by
  intro w
  refine quiet Try.func69 (by kernel_rfl) (by kernel_rfl) s69_ok (by kernel_rfl) ?_
  simp only [↓exP, ↓exQ, ↓need_ite, ↓need_ite', ↓exA, exB, exC, reduceIte, Nat.reduceEqDiff, Nat.reduceAdd, Nat.reduceSub, Nat.reduceMul, Nat.reduceLeDiff, Nat.reduceLT, Int.reduceToNat, Int.reduceBEq, Int.reduceBNe, Int.reduceLT, Int.reduceLE, Int.reduceEq, Int.reduceNeg, decide_true, decide_false, rd1_own, rd_own, hset_notIn, need_ite, need_ite', map_ite, s69, wv_cells, bcells_zero, bcells_len]
  intro b2 lb2 fb2; try simp only [NotIn] at fb2
  simp only [↓exP, ↓exQ, ↓need_ite, ↓need_ite', ↓exA, exB, exC, reduceIte, Nat.reduceEqDiff, Nat.reduceAdd, Nat.reduceSub, Nat.reduceMul, Nat.reduceLeDiff, Nat.reduceLT, Int.reduceToNat, Int.reduceBEq, Int.reduceBNe, Int.reduceLT, Int.reduceLE, Int.reduceEq, Int.reduceNeg, decide_true, decide_false, rd1_own, rd_own, hset_notIn, need_ite, need_ite', map_ite, wv_cells]
  intro b3 lb3 fb3; try simp only [NotIn] at fb3
  simp only [↓exP, ↓exQ, ↓need_ite, ↓need_ite', ↓exA, exB, exC, reduceIte, Nat.reduceEqDiff, Nat.reduceAdd, Nat.reduceSub, Nat.reduceMul, Nat.reduceLeDiff, Nat.reduceLT, Int.reduceToNat, Int.reduceBEq, Int.reduceBNe, Int.reduceLT, Int.reduceLE, Int.reduceEq, Int.reduceNeg, decide_true, decide_false, rd1_own, rd_own, hset_notIn, need_ite, need_ite', map_ite]
  intro b4 lb4 fb4; try simp only [NotIn] at fb4
  simp only [↓exP, ↓exQ, ↓need_ite, ↓need_ite', ↓exA, exB, exC, reduceIte, Nat.reduceEqDiff, Nat.reduceAdd, Nat.reduceSub, Nat.reduceMul, Nat.reduceLeDiff, Nat.reduceLT, Int.reduceToNat, Int.reduceBEq, Int.reduceBNe, Int.reduceLT, Int.reduceLE, Int.reduceEq, Int.reduceNeg, decide_true, decide_false, rd1_own, rd_own, hset_notIn, need_ite, need_ite', map_ite, lb2, lb3, lb4, fb2, fb3, fb4, wv_fold]
  refine vcall_q (fun w hs => p_rOf x w) ?_
  simp only [↓exP, ↓exQ, ↓need_ite, ↓need_ite', ↓exA, exB, exC, reduceIte, Nat.reduceEqDiff, Nat.reduceAdd, Nat.reduceSub, Nat.reduceMul, Nat.reduceLeDiff, Nat.reduceLT, Int.reduceToNat, Int.reduceBEq, Int.reduceBNe, Int.reduceLT, Int.reduceLE, Int.reduceEq, Int.reduceNeg, decide_true, decide_false, rd1_own, rd_own, hset_notIn, need_ite, need_ite', map_ite, bcells_zero, bcells_len, bcells_take, bcells_drop, bcells_all]
  intro b5 lb5 fb5; try simp only [NotIn] at fb5
  simp only [↓exP, ↓exQ, ↓need_ite, ↓need_ite', ↓exA, exB, exC, reduceIte, Nat.reduceEqDiff, Nat.reduceAdd, Nat.reduceSub, Nat.reduceMul, Nat.reduceLeDiff, Nat.reduceLT, Int.reduceToNat, Int.reduceBEq, Int.reduceBNe, Int.reduceLT, Int.reduceLE, Int.reduceEq, Int.reduceNeg, decide_true, decide_false, rd1_own, rd_own, hset_notIn, need_ite, need_ite', map_ite, bcells_zero, bcells_len, bcells_take, bcells_drop, bcells_all, lb2, lb3, lb4, lb5, fb2, fb3, fb4, fb5, wv_fold]
  refine vcall_q (fun w hs => p_rOf y w) ?_
  simp only [↓exP, ↓exQ, ↓need_ite, ↓need_ite', ↓exA, exB, exC, reduceIte, Nat.reduceEqDiff, Nat.reduceAdd, Nat.reduceSub, Nat.reduceMul, Nat.reduceLeDiff, Nat.reduceLT, Int.reduceToNat, Int.reduceBEq, Int.reduceBNe, Int.reduceLT, Int.reduceLE, Int.reduceEq, Int.reduceNeg, decide_true, decide_false, rd1_own, rd_own, hset_notIn, need_ite, need_ite', map_ite, bcells_zero, bcells_len, bcells_take, bcells_drop, bcells_all]
  intro b6 lb6 fb6; try simp only [NotIn] at fb6
  simp only [↓exP, ↓exQ, ↓need_ite, ↓need_ite', ↓exA, exB, exC, reduceIte, Nat.reduceEqDiff, Nat.reduceAdd, Nat.reduceSub, Nat.reduceMul, Nat.reduceLeDiff, Nat.reduceLT, Int.reduceToNat, Int.reduceBEq, Int.reduceBNe, Int.reduceLT, Int.reduceLE, Int.reduceEq, Int.reduceNeg, decide_true, decide_false, rd1_own, rd_own, hset_notIn, need_ite, need_ite', map_ite, bcells_zero, bcells_len, bcells_take, bcells_drop, bcells_all, lb2, lb3, lb4, lb5, lb6, fb2, fb3, fb4, fb5, fb6]
  refine SWS.loop (σ := Nat) 0 (fun i => i ≤ 128) (fun i => [(4, .pointer (some ⟨b4, 0, none⟩)), (5, .pointer (some ⟨b5, 0, none⟩)), (6, .pointer (some ⟨b6, 0, none⟩)), (7, .int .i64 (i : Nat))])
    (fun i => [(b6, .cells (bcells fun i => y.getLsbD i) 128), (b5, .cells (bcells (orStep (fun i => x.getLsbD i) (fun i => y.getLsbD i) i)) 128), (b4, .cells [.int .u64 0, .int .u64 0] 2)]) (fun i => 128 - i) (Nat.zero_le _) ?_ ?_ ?_
  · simp [subR, lk]
  · have : bcells (orStep (fun i => x.getLsbD i) (fun i => y.getLsbD i) 0) = bcells fun i => x.getLsbD i := bcells_congr fun i _ => by simp [orStep]
    rw [this]
    repeat (first | exact sub_refl _ | exact sub_nil _ | (refine sub_cons (by simp only [List.mem_cons, true_or, or_true]) ?_) | refine sub_tail ?_)
  · intro i hil
    have e6 : IntKind.i64.wrap ((i : Int) + 1) = ((i + 1 : Nat) : Int) := by rw [wrap64 _ (by omega)]; omega
    rcases Nat.lt_or_ge i 128 with hlt | hge
    · have a1 : (i : Int) < 128 := by omega
      have a2 : (0 : Int) ≤ (i : Int) := by omega
      have a3 : (i : Int) < ((128 : Nat) : Int) := by omega
      have g1 : (bcells (orStep (fun i => x.getLsbD i) (fun i => y.getLsbD i) i))[i]? = some (.bool (x.getLsbD i)) := by
        rw [bcells_get _ _ hlt]; simp [orStep]
      have g2 : (bcells (fun i => y.getLsbD i))[i]? = some (.bool (y.getLsbD i)) := bcells_get _ _ hlt
      have hs : bcells (orStep (fun i => x.getLsbD i) (fun i => y.getLsbD i) (i + 1)) = (bcells (orStep (fun i => x.getLsbD i) (fun i => y.getLsbD i) i)).set i (.bool (x.getLsbD i || y.getLsbD i)) := by
        rw [bcells_set]
        refine bcells_congr fun j hj => ?_
        unfold orStep
        by_cases h1 : j = i
        · subst h1; simp
        · have : j < i + 1 ↔ j < i := by omega
          simp [h1, this]
      generalize bcells (orStep (fun i => x.getLsbD i) (fun i => y.getLsbD i) i) = c at g1 hs
      have hcl : c.length = 128 := by
        have := congrArg List.length hs
        rw [bcells_len, List.length_set] at this; exact this.symm
      cases hb : x.getLsbD i <;> rw [hb] at g1 hs
      all_goals
        simp only [↓exP, ↓exQ, ↓need_ite, ↓need_ite', ↓exA, exB, exC, reduceIte, Nat.reduceEqDiff, Nat.reduceAdd, Nat.reduceSub, Nat.reduceMul, Nat.reduceLeDiff, Nat.reduceLT, Int.reduceToNat, Int.reduceBEq, Int.reduceBNe, Int.reduceLT, Int.reduceLE, Int.reduceEq, Int.reduceNeg, decide_true, decide_false, rd1_own, rd_own, hset_notIn, need_ite, need_ite', map_ite, lb4, lb5, lb6, fb4, fb5, fb6, e6, a1, a2, a3, g1, g2, hcl, hlt]
        refine ⟨i + 1, ⟨by omega, by omega⟩, by simp [subR, lk], ?_⟩
        rw [hs]
        simp only [Bool.true_or, Bool.false_or]
        repeat (first | exact sub_refl _ | exact sub_nil _ | (refine sub_cons (by simp only [List.mem_cons, true_or, or_true]) ?_) | refine sub_tail ?_)
    · have hi' : i = 128 := by omega
      have a1 : ¬ ((128 : Nat) : Int) < 128 := by omega
      subst hi'
      have hs : bcells (orStep (fun i => x.getLsbD i) (fun i => y.getLsbD i) 128) = bcells (fun j => (x ||| y).getLsbD j) := bcells_congr fun j hj => by
        simp [orStep, hj]
      simp only [↓exP, ↓exQ, ↓need_ite, ↓need_ite', ↓exA, exB, exC, reduceIte, Nat.reduceEqDiff, Nat.reduceAdd, Nat.reduceSub, Nat.reduceMul, Nat.reduceLeDiff, Nat.reduceLT, Int.reduceToNat, Int.reduceBEq, Int.reduceBNe, Int.reduceLT, Int.reduceLE, Int.reduceEq, Int.reduceNeg, decide_true, decide_false, rd1_own, rd_own, hset_notIn, need_ite, need_ite', map_ite, a1, lb4, lb5, lb6, fb4, fb5, fb6, hs, bcells_len, bcells_take, bcells_drop, bcells_all]
      refine vcall_q (fun w hs => p_rWord (fun j => (x ||| y).getLsbD j) w) ?_
      rw [wordOf_of]
      simp only [↓exP, ↓exQ, ↓need_ite, ↓need_ite', ↓exA, exB, exC, reduceIte, Nat.reduceEqDiff, Nat.reduceAdd, Nat.reduceSub, Nat.reduceMul, Nat.reduceLeDiff, Nat.reduceLT, Int.reduceToNat, Int.reduceBEq, Int.reduceBNe, Int.reduceLT, Int.reduceLE, Int.reduceEq, Int.reduceNeg, decide_true, decide_false, rd1_own, rd_own, hset_notIn, need_ite, need_ite', map_ite, lb4, fb4, fb5, fb6, wv_cells, resV_cellN ti49]
      exact ends_q rfl

def atStep (xs : List Int) (j : Nat) : Bool := xs.any (fun x => x == (j : Int))
theorem atStep_snoc (xs : List Int) (x : Int) (j : Nat) : atStep (xs ++ [x]) j = (atStep xs j || x == (j : Int)) := by simp [atStep]
def s107 : SFun := ⟨[], 30, [(.cell 2 49)], (.seq (.reg [⟨none, (.alloc 2 [(.int .u64 0), (.int .u64 0)])⟩]) (.seq (.reg [⟨none, (.alloc 3 (rl [(128, (.bool false))]))⟩]) (.seq (.seq (.reg [⟨none, (.pure 4 .mv [(.const (.int .i64 0))])⟩]) (.block 0 (.loop (.seq (.seq (.reg [⟨none, (.pure 5 .mv [(.tmp 4)])⟩, ⟨none, (.pure 6 .mv [(.tmp 0)])⟩, ⟨none, (.pure 7 .len [(.tmp 6)])⟩, ⟨none, (.pure 8 (.bin .lss) [(.tmp 5), (.tmp 7)])⟩]) (.cond (.tmp 8) .skip (.exit 0))) (.seq (.block 1 (.seq (.reg [⟨none, (.pure 11 .mv [(.tmp 0)])⟩, ⟨none, (.pure 12 .mv [(.tmp 4)])⟩, ⟨none, (.pure 13 (.iaS 1) [(.tmp 11), (.tmp 12)])⟩, ⟨none, (.load1 14 (.tmp 13))⟩, ⟨none, (.pure 15 (.bin .geq) [(.tmp 14), (.const (.int .i64 0))])⟩, ⟨none, (.pure 16 .mv [(.tmp 15)])⟩, ⟨(some (16, true)), (.pure 17 .mv [(.tmp 0)])⟩, ⟨(some (16, true)), (.pure 18 .mv [(.tmp 4)])⟩, ⟨(some (16, true)), (.pure 19 (.iaS 1) [(.tmp 17), (.tmp 18)])⟩, ⟨(some (16, true)), (.load1 20 (.tmp 19))⟩, ⟨(some (16, true)), (.pure 21 (.bin .lss) [(.tmp 20), (.const (.int .i64 128))])⟩, ⟨none, (.pure 22 .pick [(.tmp 16), (.tmp 21), (.const (.bool false))])⟩]) (.cond (.tmp 22) (.reg [⟨none, (.pure 23 .mv [(.tmp 0)])⟩, ⟨none, (.pure 24 .mv [(.tmp 4)])⟩, ⟨none, (.pure 25 (.iaS 1) [(.tmp 23), (.tmp 24)])⟩, ⟨none, (.load1 26 (.tmp 25))⟩, ⟨none, (.pure 27 (.iaA 128 1) [(.tmp 3), (.tmp 26)])⟩, ⟨none, (.store1 (.tmp 27) (.const (.bool true)))⟩]) .skip))) (.reg [⟨none, (.pure 9 .mv [(.tmp 4)])⟩, ⟨none, (.pure 10 (.bin .add) [(.tmp 9), (.const (.int .i64 1))])⟩, ⟨none, (.pure 4 .mv [(.tmp 10)])⟩])))))) (.seq (.reg [⟨none, (.loadN 28 (.tmp 3) 128)⟩, ⟨none, (.call (some 29) (.func 94) [(.tmp 28)])⟩, ⟨none, (.storeN (.tmp 2) (.tmp 29) 2)⟩]) .ret))))⟩
theorem s107_ok : cFun Try.prog [] Try.f107 = some s107 := by kernel_rfl
theorem hb107 : HasBody Try.prog 107 := ⟨_, Try.func107, by kernel_rfl, by kernel_rfl⟩
set_option maxHeartbeats 1000000 in
theorem p_rAt (w : World) (v : Value) (xs : List Int) (hv : IntsIn w v xs) : Quiet Try.prog w 107 [v] (wv (ofL xs)) := by
  refine quiet Try.func107 (by kernel_rfl) (by kernel_rfl) s107_ok (by kernel_rfl) ?_
  obtain ⟨a, cap0, hv0⟩ := hv.len
  have hsm := hv.small
  simp only [↓exP, ↓exQ, ↓need_ite, ↓need_ite', ↓exA, exB, exC, reduceIte, Nat.reduceEqDiff, Nat.reduceAdd, Nat.reduceSub, Nat.reduceMul, Nat.reduceLeDiff, Nat.reduceLT, Int.reduceToNat, Int.reduceBEq, Int.reduceBNe, Int.reduceLT, Int.reduceLE, Int.reduceEq, Int.reduceNeg, decide_true, decide_false, rd1_own, rd_own, hset_notIn, need_ite, need_ite', map_ite, s107, bcells_zero, bcells_len]
  intro b2 lb2 fb2; try simp only [NotIn] at fb2
  simp only [↓exP, ↓exQ, ↓need_ite, ↓need_ite', ↓exA, exB, exC, reduceIte, Nat.reduceEqDiff, Nat.reduceAdd, Nat.reduceSub, Nat.reduceMul, Nat.reduceLeDiff, Nat.reduceLT, Int.reduceToNat, Int.reduceBEq, Int.reduceBNe, Int.reduceLT, Int.reduceLE, Int.reduceEq, Int.reduceNeg, decide_true, decide_false, rd1_own, rd_own, hset_notIn, need_ite, need_ite', map_ite, bcells_zero, bcells_len]
  intro b3 lb3 fb3; try simp only [NotIn] at fb3
  simp only [↓exP, ↓exQ, ↓need_ite, ↓need_ite', ↓exA, exB, exC, reduceIte, Nat.reduceEqDiff, Nat.reduceAdd, Nat.reduceSub, Nat.reduceMul, Nat.reduceLeDiff, Nat.reduceLT, Int.reduceToNat, Int.reduceBEq, Int.reduceBNe, Int.reduceLT, Int.reduceLE, Int.reduceEq, Int.reduceNeg, decide_true, decide_false, rd1_own, rd_own, hset_notIn, need_ite, need_ite', map_ite]
  refine SWS.loop (σ := Nat) 0 (fun i => i ≤ xs.length) (fun i => [(0, v), (2, .pointer (some ⟨b2, 0, none⟩)), (3, .pointer (some ⟨b3, 0, none⟩)), (4, .int .i64 (i : Nat))])
    (fun i => [(b3, .cells (bcells (atStep (xs.take i))) 128), (b2, .cells [.int .u64 0, .int .u64 0] 2)]) (fun i => xs.length - i) (Nat.zero_le _) ?_ ?_ ?_
  · simp [subR, lk]
  · have : bcells (atStep (xs.take 0)) = bcells fun _ => false := rfl
    rw [this]
    repeat (first | exact sub_refl _ | exact sub_nil _ | (refine sub_cons (by simp only [List.mem_cons, true_or, or_true]) ?_) | refine sub_tail ?_)
  · intro i hil
    rcases Nat.lt_or_ge i xs.length with hin | hge
    · obtain ⟨b4, o4, hb4, hpv, hcell⟩ := hv.get i xs[i] (List.getElem?_eq_getElem hin)
      have e6 : IntKind.i64.wrap ((i : Int) + 1) = ((i + 1 : Nat) : Int) := by rw [wrap64 _ (by omega)]; omega
      have a1 : (i : Int) < (xs.length : Int) := by omega
      have ht : xs.take (i + 1) = xs.take i ++ [xs[i]] := by rw [List.take_add_one, List.getElem?_eq_getElem hin]; rfl
      have hr : ∀ H, rd1 w H b4 o4 = some (.int .i64 xs[i]) := fun H => rd1_old hb4 hcell
      have hlen : pv .len [v] = some (.int .i64 xs.length) := by rw [hv0]; rfl
      generalize xs[i] = p at hr ht
      clear hcell
      have hs : bcells (atStep (xs.take (i + 1))) = if 0 ≤ p ∧ p < 128 then (bcells (atStep (xs.take i))).set p.toNat (.bool true) else bcells (atStep (xs.take i)) := by
        rw [ht]
        split
        · rename_i h
          rw [bcells_set]
          refine bcells_congr fun j hj => ?_
          rw [atStep_snoc]
          by_cases h1 : j = p.toNat
          · have : p = (j : Int) := by omega
            simp [this]
          · have : ¬ p = (j : Int) := by omega
            simp [h1, this]
        · rename_i h
          refine bcells_congr fun j hj => ?_
          rw [atStep_snoc]
          have : ¬ p = (j : Int) := by omega
          simp [this]
      rcases Decidable.em (0 ≤ p) with h1 | h1
      · rcases Decidable.em (p < 128) with h2 | h2
        · rw [if_pos ⟨h1, h2⟩] at hs
          have a2 : p < ((128 : Nat) : Int) := by omega
          have a3 : p.toNat < 128 := by omega
          simp only [↓exP, ↓exQ, ↓need_ite, ↓need_ite', ↓exA, exB, exC, reduceIte, Nat.reduceEqDiff, Nat.reduceAdd, Nat.reduceSub, Nat.reduceMul, Nat.reduceLeDiff, Nat.reduceLT, Int.reduceToNat, Int.reduceBEq, Int.reduceBNe, Int.reduceLT, Int.reduceLE, Int.reduceEq, Int.reduceNeg, decide_true, decide_false, rd1_own, rd_own, hset_notIn, need_ite, need_ite', map_ite, hlen, a1, hpv, hr, h1, h2, a2, a3, lb2, lb3, fb2, fb3, bcells_len, e6]
          refine ⟨i + 1, ⟨by omega, by omega⟩, by simp [subR, lk], ?_⟩
          rw [hs]
          repeat (first | exact sub_refl _ | exact sub_nil _ | (refine sub_cons (by simp only [List.mem_cons, true_or, or_true]) ?_) | refine sub_tail ?_)
        · rw [if_neg (fun h => h2 h.2)] at hs
          simp only [↓exP, ↓exQ, ↓need_ite, ↓need_ite', ↓exA, exB, exC, reduceIte, Nat.reduceEqDiff, Nat.reduceAdd, Nat.reduceSub, Nat.reduceMul, Nat.reduceLeDiff, Nat.reduceLT, Int.reduceToNat, Int.reduceBEq, Int.reduceBNe, Int.reduceLT, Int.reduceLE, Int.reduceEq, Int.reduceNeg, decide_true, decide_false, rd1_own, rd_own, hset_notIn, need_ite, need_ite', map_ite, hlen, a1, hpv, hr, h1, h2, lb2, lb3, fb2, fb3, bcells_len, e6]
          refine ⟨i + 1, ⟨by omega, by omega⟩, by simp [subR, lk], ?_⟩
          rw [hs]
          repeat (first | exact sub_refl _ | exact sub_nil _ | (refine sub_cons (by simp only [List.mem_cons, true_or, or_true]) ?_) | refine sub_tail ?_)
      · rw [if_neg (fun h => h1 h.1)] at hs
        simp only [↓exP, ↓exQ, ↓need_ite, ↓need_ite', ↓exA, exB, exC, reduceIte, Nat.reduceEqDiff, Nat.reduceAdd, Nat.reduceSub, Nat.reduceMul, Nat.reduceLeDiff, Nat.reduceLT, Int.reduceToNat, Int.reduceBEq, Int.reduceBNe, Int.reduceLT, Int.reduceLE, Int.reduceEq, Int.reduceNeg, decide_true, decide_false, rd1_own, rd_own, hset_notIn, need_ite, need_ite', map_ite, hlen, a1, hpv, hr, h1, lb2, lb3, fb2, fb3, bcells_len, e6]
        refine ⟨i + 1, ⟨by omega, by omega⟩, by simp [subR, lk], ?_⟩
        rw [hs]
        repeat (first | exact sub_refl _ | exact sub_nil _ | (refine sub_cons (by simp only [List.mem_cons, true_or, or_true]) ?_) | refine sub_tail ?_)
    · have hi' : i = xs.length := by omega
      have a1 : ¬ (xs.length : Int) < (xs.length : Int) := by omega
      subst hi'
      have hlen : pv .len [v] = some (.int .i64 xs.length) := by rw [hv0]; rfl
      rw [List.take_length]
      simp only [↓exP, ↓exQ, ↓need_ite, ↓need_ite', ↓exA, exB, exC, reduceIte, Nat.reduceEqDiff, Nat.reduceAdd, Nat.reduceSub, Nat.reduceMul, Nat.reduceLeDiff, Nat.reduceLT, Int.reduceToNat, Int.reduceBEq, Int.reduceBNe, Int.reduceLT, Int.reduceLE, Int.reduceEq, Int.reduceNeg, decide_true, decide_false, rd1_own, rd_own, hset_notIn, need_ite, need_ite', map_ite, hlen, a1, lb2, lb3, fb2, fb3, bcells_len, bcells_take, bcells_drop, bcells_all]
      refine vcall_q (fun w hs => p_rWord (atStep xs) w) ?_
      have : wordOf (atStep xs) = ofL xs := word_ext fun j hj => by rw [wordOf_get, ofL_get]; rfl
      rw [this]
      simp only [↓exP, ↓exQ, ↓need_ite, ↓need_ite', ↓exA, exB, exC, reduceIte, Nat.reduceEqDiff, Nat.reduceAdd, Nat.reduceSub, Nat.reduceMul, Nat.reduceLeDiff, Nat.reduceLT, Int.reduceToNat, Int.reduceBEq, Int.reduceBNe, Int.reduceLT, Int.reduceLE, Int.reduceEq, Int.reduceNeg, decide_true, decide_false, rd1_own, rd_own, hset_notIn, need_ite, need_ite', map_ite, lb2, fb3, wv_cells, resV_cellN ti49]
      exact ends_q rfl
end Go.SL
