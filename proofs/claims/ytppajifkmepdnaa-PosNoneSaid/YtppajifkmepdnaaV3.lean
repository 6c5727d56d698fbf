/- Games cell by cell: stones dropped. -/
import Derived.Test.YtppajifkmepdnaaV2
import Derived.Test.YtppajifkmepdnaaSlO
set_option linter.unusedSimpArgs false
set_option linter.unusedVariables false
namespace Go.SL
open Go.Proofs
set_option maxRecDepth 8000
def s63 : SFun := ⟨[], 23, [(.tmp 4)], (.seq (.reg [⟨none, (.box 2 (.tmp 0))⟩, ⟨none, (.pure 4 .mv [(.const (.int .i64 0))])⟩]) (.seq (.seq (.reg [⟨none, (.loadN 5 (.tmp 2) 132)⟩, ⟨none, (.call (some 6) (.func 70) [(.tmp 5)])⟩]) (.cond (.tmp 6) (.seq (.reg [⟨none, (.pure 4 .mv [(.const (.int .i64 13))])⟩]) .ret) .skip)) (.seq (.seq (.reg [⟨none, (.pure 7 .mv [(.tmp 1)])⟩, ⟨none, (.pure 8 (.bin .lss) [(.tmp 7), (.const (.int .i64 0))])⟩, ⟨none, (.pure 9 .mv [(.tmp 8)])⟩, ⟨(some (9, false)), (.pure 10 .mv [(.tmp 1)])⟩, ⟨(some (9, false)), (.pure 11 (.fad 0) [(.tmp 2)])⟩, ⟨(some (9, false)), (.pure 12 (.fad 0) [(.tmp 11)])⟩, ⟨(some (9, false)), (.load1 13 (.tmp 12))⟩, ⟨(some (9, false)), (.pure 14 (.bin .geq) [(.tmp 10), (.tmp 13)])⟩, ⟨none, (.pure 15 .pick [(.tmp 9), (.const (.bool true)), (.tmp 14)])⟩]) (.cond (.tmp 15) (.seq (.reg [⟨none, (.pure 4 .mv [(.const (.int .i64 11))])⟩]) .ret) .skip)) (.seq (.seq (.draw ⟨[(⟨none, (.loadN 16 (.tmp 2) 132)⟩, false), (⟨none, (.pure 17 .mv [(.tmp 1)])⟩, false), (⟨none, (.call (some 18) (.func 64) [(.tmp 16), (.tmp 17)])⟩, false), (⟨none, (.pure 19 (.fad 0) [(.tmp 2)])⟩, false), (⟨none, (.pure 20 (.fad 1) [(.tmp 19)])⟩, false), (⟨none, (.load1 21 (.tmp 20))⟩, false), (⟨none, (.pure 22 (.bin .eql) [(.tmp 18), (.tmp 21)])⟩, false)], [], none, []⟩) (.cond (.tmp 22) (.seq (.reg [⟨none, (.pure 4 .mv [(.const (.int .i64 12))])⟩]) .ret) .skip)) (.seq (.reg [⟨none, (.pure 4 .mv [(.const (.int .i64 0))])⟩]) .ret)))))⟩
theorem s63_ok : cFun Try.prog [] Try.f63 = some s63 := by kernel_rfl
theorem hb63 : HasBody Try.prog 63 := ⟨_, Try.func63, by kernel_rfl, by kernel_rfl⟩
theorem p_rCan (f : RPos) (x : Int) (hf : RW f) : PF Try.prog 63 [rv f, .int .i64 x] (.int .i64 (rCan f x)) := by
  intro w
  refine quiet Try.func63 (by kernel_rfl) (by kernel_rfl) s63_ok (by kernel_rfl) ?_
  repeat' (first
    | (simp only [↓exP, ↓exQ, ↓need_ite, ↓need_ite', ↓exA, exB, exC, reduceIte, Nat.reduceEqDiff, Nat.reduceAdd, Nat.reduceSub, Nat.reduceMul, Nat.reduceLeDiff, Nat.reduceLT, Int.reduceToNat, Int.reduceBEq, Int.reduceBNe, Int.reduceLT, Int.reduceLE, Int.reduceEq, Int.reduceNeg, decide_true, decide_false, rd1_own, rd_own, hset_notIn, need_ite, need_ite', map_ite, s63, rv_cells, rc_len, rc_take, rc_0, rc_1, wv_fold, bdv_fold, rv_fold, *]; done)
    | simp only [↓exP, ↓exQ, ↓need_ite, ↓need_ite', ↓exA, exB, exC, reduceIte, Nat.reduceEqDiff, Nat.reduceAdd, Nat.reduceSub, Nat.reduceMul, Nat.reduceLeDiff, Nat.reduceLT, Int.reduceToNat, Int.reduceBEq, Int.reduceBNe, Int.reduceLT, Int.reduceLE, Int.reduceEq, Int.reduceNeg, decide_true, decide_false, rd1_own, rd_own, hset_notIn, need_ite, need_ite', map_ite, s63, rv_cells, rc_len, rc_take, rc_0, rc_1, wv_fold, bdv_fold, rv_fold, *]
    | refine vcall_q (fun w hs => p_rOver _ (by assumption) w) ?_
    | refine qcall_q (fun w hs => p_rOver _ (by assumption) w) ?_
    | refine vcall_q (fun w hs => p_rHeight _ _ (by assumption) w) ?_
    | refine qcall_q (fun w hs => p_rHeight _ _ (by assumption) w) ?_
    | (intro xb hl hf; try simp only [NotIn] at hf)
    | refine And.intro (fun hc => ?_) (fun hc => ?_)
    | refine ends_q ?_
    | exact wv_fold _
    | (refine And.intro (by first | omega | (simp only [*]; omega)) ?_))
  all_goals simp_all [rCan]
def s30 : SFun := ⟨[], 45, [(.cell 4 59), (.tmp 5)], (.seq (.reg [⟨none, (.box 2 (.tmp 0))⟩, ⟨none, (.alloc 4 (rl [(132, (.int .i64 0))]))⟩, ⟨none, (.pure 5 .mv [(.const (.int .i64 0))])⟩]) (.seq (.reg [⟨none, (.loadN 9 (.tmp 2) 132)⟩, ⟨none, (.pure 10 .mv [(.tmp 1)])⟩, ⟨none, (.call (some 11) (.func 63) [(.tmp 9), (.tmp 10)])⟩, ⟨none, (.pure 6 .mv [(.tmp 11)])⟩]) (.seq (.seq (.reg [⟨none, (.pure 12 .mv [(.tmp 6)])⟩, ⟨none, (.pure 13 (.bin .neq) [(.tmp 12), (.const (.int .i64 0))])⟩]) (.cond (.tmp 13) (.seq (.reg [⟨none, (.loadN 14 (.tmp 2) 132)⟩, ⟨none, (.pure 15 .mv [(.tmp 6)])⟩, ⟨none, (.storeN (.tmp 4) (.tmp 14) 132)⟩, ⟨none, (.pure 5 .mv [(.tmp 15)])⟩]) .ret) .skip)) (.seq (.reg [⟨none, (.loadN 16 (.tmp 2) 132)⟩, ⟨none, (.pure 17 .mv [(.tmp 1)])⟩, ⟨none, (.call (some 18) (.func 64) [(.tmp 16), (.tmp 17)])⟩, ⟨none, (.pure 7 .mv [(.tmp 18)])⟩]) (.seq (.reg [⟨none, (.loadN 19 (.tmp 2) 132)⟩, ⟨none, (.call (some 20) (.func 65) [(.tmp 19)])⟩, ⟨none, (.pure 8 .mv [(.tmp 20)])⟩]) (.seq (.reg [⟨none, (.pure 21 .mv [(.tmp 1)])⟩, ⟨none, (.pure 22 .mv [(.tmp 7)])⟩, ⟨none, (.pure 23 .mv [(.tmp 8)])⟩, ⟨none, (.pure 24 (.fad 2) [(.tmp 2)])⟩, ⟨none, (.pure 25 (.iaA 8 8) [(.tmp 24), (.tmp 21)])⟩, ⟨none, (.pure 26 (.iaA 8 1) [(.tmp 25), (.tmp 22)])⟩, ⟨none, (.store1 (.tmp 26) (.tmp 23))⟩]) (.seq (.reg [⟨none, (.pure 27 (.fad 130) [(.tmp 2)])⟩, ⟨none, (.load1 28 (.tmp 27))⟩, ⟨none, (.pure 29 .mv [(.tmp 1)])⟩, ⟨none, (.pure 30 (.fad 66) [(.tmp 2)])⟩, ⟨none, (.pure 31 (.iaA 64 1) [(.tmp 30), (.tmp 28)])⟩, ⟨none, (.store1 (.tmp 31) (.tmp 29))⟩]) (.seq (.reg [⟨none, (.pure 32 (.fad 130) [(.tmp 2)])⟩, ⟨none, (.load1 33 (.tmp 32))⟩, ⟨none, (.pure 34 (.bin .add) [(.tmp 33), (.const (.int .i64 1))])⟩, ⟨none, (.pure 35 (.fad 130) [(.tmp 2)])⟩, ⟨none, (.store1 (.tmp 35) (.tmp 34))⟩]) (.seq (.seq (.reg [⟨none, (.loadN 36 (.tmp 2) 132)⟩, ⟨none, (.pure 37 .mv [(.tmp 8)])⟩, ⟨none, (.pure 38 .mv [(.tmp 1)])⟩, ⟨none, (.pure 39 .mv [(.tmp 7)])⟩, ⟨none, (.call (some 40) (.func 66) [(.tmp 36), (.tmp 37), (.tmp 38), (.tmp 39)])⟩, ⟨none, (.pure 41 (.bin .gtr) [(.tmp 40), (.const (.int .i64 0))])⟩]) (.cond (.tmp 41) (.reg [⟨none, (.pure 42 .mv [(.tmp 8)])⟩, ⟨none, (.pure 43 (.fad 131) [(.tmp 2)])⟩, ⟨none, (.store1 (.tmp 43) (.tmp 42))⟩]) .skip)) (.seq (.reg [⟨none, (.loadN 44 (.tmp 2) 132)⟩, ⟨none, (.storeN (.tmp 4) (.tmp 44) 132)⟩, ⟨none, (.pure 5 .mv [(.const (.int .i64 0))])⟩]) .ret))))))))))⟩
theorem s30_ok : cFun Try.prog [] Try.f30 = some s30 := by kernel_rfl
theorem hb30 : HasBody Try.prog 30 := ⟨_, Try.func30, by kernel_rfl, by kernel_rfl⟩
set_option maxHeartbeats 2000000 in
theorem p_rDrop (f : RPos) (x : Int) (hf : RI f) : PF Try.prog 30 [rv f, .int .i64 x] (.tuple #[rv (rDrop f x), .int .i64 (rCan f x)]) := by
  intro w
  refine quiet Try.func30 (by kernel_rfl) (by kernel_rfl) s30_ok (by kernel_rfl) ?_
  obtain ⟨hw, hn0, hn1⟩ := hf
  simp only [↓exP, ↓exQ, ↓need_ite, ↓need_ite', ↓exA, exB, exC, reduceIte, Nat.reduceEqDiff, Nat.reduceAdd, Nat.reduceSub, Nat.reduceMul, Nat.reduceLeDiff, Nat.reduceLT, Int.reduceToNat, Int.reduceBEq, Int.reduceBNe, Int.reduceLT, Int.reduceLE, Int.reduceEq, Int.reduceNeg, decide_true, decide_false, rd1_own, rd_own, hset_notIn, need_ite, need_ite', map_ite, s30, rv_cells, rc_len, rc_zero]
  intro b2 lb2 fb2; try simp only [NotIn] at fb2
  simp only [↓exP, ↓exQ, ↓need_ite, ↓need_ite', ↓exA, exB, exC, reduceIte, Nat.reduceEqDiff, Nat.reduceAdd, Nat.reduceSub, Nat.reduceMul, Nat.reduceLeDiff, Nat.reduceLT, Int.reduceToNat, Int.reduceBEq, Int.reduceBNe, Int.reduceLT, Int.reduceLE, Int.reduceEq, Int.reduceNeg, decide_true, decide_false, rd1_own, rd_own, hset_notIn, need_ite, need_ite', map_ite, rc_zero, rc_len]
  intro b4 lb4 fb4; try simp only [NotIn] at fb4
  simp only [↓exP, ↓exQ, ↓need_ite, ↓need_ite', ↓exA, exB, exC, reduceIte, Nat.reduceEqDiff, Nat.reduceAdd, Nat.reduceSub, Nat.reduceMul, Nat.reduceLeDiff, Nat.reduceLT, Int.reduceToNat, Int.reduceBEq, Int.reduceBNe, Int.reduceLT, Int.reduceLE, Int.reduceEq, Int.reduceNeg, decide_true, decide_false, rd1_own, rd_own, hset_notIn, need_ite, need_ite', map_ite, lb2, lb4, fb2, fb4, rc_len, rc_take, rv_fold]
  refine vcall_q (fun w hs => p_rCan f x hw w) ?_
  rcases Decidable.em (rCan f x = 0) with hc | hc
  · obtain ⟨c1, c2, c3, c4⟩ := rCan_zero hc
    obtain ⟨c5, c6⟩ := rOver_false c1
    have hle := rHeight_le f x hw
    obtain ⟨⟨w1, w2⟩, w3, w4⟩ := hw
    have hmul := mul_bd (x := f 0) (h := f 1) (A := 8) (B := 8) (by omega) (by omega)
    rw [show rDrop f x = rPut f x from if_pos hc]
    simp only [↓exP, ↓exQ, ↓need_ite, ↓need_ite', ↓exA, exB, exC, reduceIte, Nat.reduceEqDiff, Nat.reduceAdd, Nat.reduceSub, Nat.reduceMul, Nat.reduceLeDiff, Nat.reduceLT, Int.reduceToNat, Int.reduceBEq, Int.reduceBNe, Int.reduceLT, Int.reduceLE, Int.reduceEq, Int.reduceNeg, decide_true, decide_false, rd1_own, rd_own, hset_notIn, need_ite, need_ite', map_ite, hc, lb2, lb4, fb2, fb4, rc_len, rc_take, rv_fold]
    refine vcall_q (fun w hs => p_rHeight f x ⟨⟨w1, w2⟩, w3, w4⟩ w) ?_
    simp only [↓exP, ↓exQ, ↓need_ite, ↓need_ite', ↓exA, exB, exC, reduceIte, Nat.reduceEqDiff, Nat.reduceAdd, Nat.reduceSub, Nat.reduceMul, Nat.reduceLeDiff, Nat.reduceLT, Int.reduceToNat, Int.reduceBEq, Int.reduceBNe, Int.reduceLT, Int.reduceLE, Int.reduceEq, Int.reduceNeg, decide_true, decide_false, rd1_own, rd_own, hset_notIn, need_ite, need_ite', map_ite, lb2, lb4, fb2, fb4, rc_len, rc_take, rv_fold]
    refine vcall_q (fun w hs => p_rTurn f w) ?_
    have a1 : x < ((8 : Nat) : Int) := by omega
    have a2 : 0 ≤ ((rHeight f x : Nat) : Int) := by omega
    have a3 : ((rHeight f x : Nat) : Int) < ((8 : Nat) : Int) := by omega
    have a4 : 2 + x.toNat * 8 + rHeight f x < 132 := by omega
    have a5 : f 130 < ((64 : Nat) : Int) := by omega
    have a6 : 66 + (f 130).toNat < 132 := by omega
    have a7 : IntKind.i64.wrap (f 130 + 1) = f 130 + 1 := wrap64 _ (by omega)
    have g1 : rSet f (2 + x.toNat * 8 + rHeight f x) (rTurn f) 130 = f 130 := rSet_ne _ _ _ (by omega)
    have g2 : rSet (rSet f (2 + x.toNat * 8 + rHeight f x) (rTurn f)) (66 + (f 130).toNat) x 130 = f 130 := (rSet_ne _ _ _ (by omega)).trans g1
    have s0 : ∀ j, j < 2 → rStone f x j = f j := fun j hj => by
      unfold rStone
      rw [rSet_ne _ _ _ (by omega), rSet_ne _ _ _ (by omega), rSet_ne _ _ _ (by omega)]
    have hws : RW (rStone f x) := by
      unfold RW; rw [s0 0 (by omega), s0 1 (by omega)]; exact ⟨⟨w1, w2⟩, w3, w4⟩
    have hst : rSet (rSet (rSet f (2 + x.toNat * 8 + rHeight f x) (rTurn f)) (66 + (f 130).toNat) x) 130 (f 130 + 1) = rStone f x := rfl
    simp only [↓exP, ↓exQ, ↓need_ite, ↓need_ite', ↓exA, exB, exC, reduceIte, Nat.reduceEqDiff, Nat.reduceAdd, Nat.reduceSub, Nat.reduceMul, Nat.reduceLeDiff, Nat.reduceLT, Int.reduceToNat, Int.reduceBEq, Int.reduceBNe, Int.reduceLT, Int.reduceLE, Int.reduceEq, Int.reduceNeg, decide_true, decide_false, rd1_own, rd_own, hset_notIn, need_ite, need_ite', map_ite, lb2, lb4, fb2, fb4, rc_len, rc_take, rc_130, rv_fold, c2, a1, a2, a3, a4, a5, a6, a7, hn0, rc_setr, g1, g2, hst]
    refine vcall_q (fun w hs => p_rRows (rStone f x) (rTurn f) x (rHeight f x : Nat) hws w) ?_
    rcases Decidable.em (rRows (rStone f x) (rTurn f) x (rHeight f x : Nat) > 0) with hr | hr
    · have e1 : (0 : Int) < ((rRows (rStone f x) (rTurn f) x (rHeight f x : Nat) : Nat) : Int) := by omega
      rw [show rPut f x = rSet (rStone f x) 131 (rTurn f) from if_pos hr]
      simp only [↓exP, ↓exQ, ↓need_ite, ↓need_ite', ↓exA, exB, exC, reduceIte, Nat.reduceEqDiff, Nat.reduceAdd, Nat.reduceSub, Nat.reduceMul, Nat.reduceLeDiff, Nat.reduceLT, Int.reduceToNat, Int.reduceBEq, Int.reduceBNe, Int.reduceLT, Int.reduceLE, Int.reduceEq, Int.reduceNeg, decide_true, decide_false, rd1_own, rd_own, hset_notIn, need_ite, need_ite', map_ite, e1, lb2, lb4, fb2, fb4, rv_cells, rc_len, rc_take, rc_drop, rc_all, rc_setr, rv_fold, resV_cellN ti59]
      exact ends_q (by rw [hc])
    · have e1 : ¬ (0 : Int) < ((rRows (rStone f x) (rTurn f) x (rHeight f x : Nat) : Nat) : Int) := by omega
      rw [show rPut f x = rStone f x from if_neg hr]
      simp only [↓exP, ↓exQ, ↓need_ite, ↓need_ite', ↓exA, exB, exC, reduceIte, Nat.reduceEqDiff, Nat.reduceAdd, Nat.reduceSub, Nat.reduceMul, Nat.reduceLeDiff, Nat.reduceLT, Int.reduceToNat, Int.reduceBEq, Int.reduceBNe, Int.reduceLT, Int.reduceLE, Int.reduceEq, Int.reduceNeg, decide_true, decide_false, rd1_own, rd_own, hset_notIn, need_ite, need_ite', map_ite, e1, lb2, lb4, fb2, fb4, rv_cells, rc_len, rc_take, rc_drop, rc_all, rc_setr, rv_fold, resV_cellN ti59]
      exact ends_q (by rw [hc])
  · rw [show rDrop f x = f from if_neg hc]
    simp only [↓exP, ↓exQ, ↓need_ite, ↓need_ite', ↓exA, exB, exC, reduceIte, Nat.reduceEqDiff, Nat.reduceAdd, Nat.reduceSub, Nat.reduceMul, Nat.reduceLeDiff, Nat.reduceLT, Int.reduceToNat, Int.reduceBEq, Int.reduceBNe, Int.reduceLT, Int.reduceLE, Int.reduceEq, Int.reduceNeg, decide_true, decide_false, rd1_own, rd_own, hset_notIn, need_ite, need_ite', map_ite, hc, lb2, lb4, fb2, fb4, rv_cells, rc_len, rc_take, rc_drop, rc_all, rv_fold, resV_cellN ti59]
    exact ends_q rfl
def s27 : SFun := ⟨[], 10, [(.cell 2 59), (.tmp 3)], (.seq (.reg [⟨none, (.box 1 (.tmp 0))⟩, ⟨none, (.alloc 2 (rl [(132, (.int .i64 0))]))⟩, ⟨none, (.pure 3 .mv [(.const (.int .i64 0))])⟩]) (.seq (.seq (.reg [⟨none, (.loadN 4 (.tmp 1) 2)⟩, ⟨none, (.call (some 5) (.func 59) [(.tmp 4)])⟩, ⟨none, (.pure 6 (.un .not) [(.tmp 5)])⟩]) (.cond (.tmp 6) (.seq (.reg [⟨none, (.pure 7 (.build (rl [(132, (.int .i64 0))]) []) [])⟩, ⟨none, (.storeN (.tmp 2) (.tmp 7) 132)⟩, ⟨none, (.pure 3 .mv [(.const (.int .i64 10))])⟩]) .ret) .skip)) (.seq (.reg [⟨none, (.loadN 8 (.tmp 1) 2)⟩, ⟨none, (.pure 9 (.build (rl [(132, (.int .i64 0))]) [(0, 2)]) [(.tmp 8)])⟩, ⟨none, (.storeN (.tmp 2) (.tmp 9) 132)⟩, ⟨none, (.pure 3 .mv [(.const (.int .i64 0))])⟩]) .ret)))⟩
theorem s27_ok : cFun Try.prog [] Try.f27 = some s27 := by kernel_rfl
theorem hb27 : HasBody Try.prog 27 := ⟨_, Try.func27, by kernel_rfl, by kernel_rfl⟩
theorem p_rNew (b : Bd) : PF Try.prog 27 [bdv b] (.tuple #[rv (rNew b), .int .i64 (newE b)]) := by
  intro w
  refine quiet Try.func27 (by kernel_rfl) (by kernel_rfl) s27_ok (by kernel_rfl) ?_
  rcases Bool.eq_false_or_eq_true (mayB b) with h1 | h1
  · rw [show newE b = 0 from if_pos h1]
    have hz : rc rZ = .int .i64 0 :: .int .i64 0 :: (rc rZ).drop 2 := by kernel_rfl
    have hn : rc (rNew b) = .int .i64 b.W :: .int .i64 b.H :: (rc rZ).drop 2 := by
      have : rc (rNew b) = ((rc rZ).set 0 (.int .i64 b.W)).set 1 (.int .i64 b.H) := by
        rw [rc_setr, rc_setr]; refine rc_congr fun i hi => ?_
        simp only [rNew, h1, if_true, rSet, rZ]
        by_cases h0 : i = 0
        · subst h0; simp
        · by_cases h1 : i = 1 <;> simp [h0, h1]
      rw [this, hz]; rfl
    have hl : (rc rZ).length = 132 := rc_len _
    simp only [↓exP, ↓exQ, ↓need_ite, ↓need_ite', ↓exA, exB, exC, reduceIte, Nat.reduceEqDiff, Nat.reduceAdd, Nat.reduceSub, Nat.reduceMul, Nat.reduceLeDiff, Nat.reduceLT, Int.reduceToNat, Int.reduceBEq, Int.reduceBNe, Int.reduceLT, Int.reduceLE, Int.reduceEq, Int.reduceNeg, decide_true, decide_false, rd1_own, rd_own, hset_notIn, need_ite, need_ite', map_ite, s27, bdv_cells, rc_zero, rc_len]
    intro b1 lb1 fb1; try simp only [NotIn] at fb1
    simp only [↓exP, ↓exQ, ↓need_ite, ↓need_ite', ↓exA, exB, exC, reduceIte, Nat.reduceEqDiff, Nat.reduceAdd, Nat.reduceSub, Nat.reduceMul, Nat.reduceLeDiff, Nat.reduceLT, Int.reduceToNat, Int.reduceBEq, Int.reduceBNe, Int.reduceLT, Int.reduceLE, Int.reduceEq, Int.reduceNeg, decide_true, decide_false, rd1_own, rd_own, hset_notIn, need_ite, need_ite', map_ite, rc_zero, rc_len]
    intro b2 lb2 fb2; try simp only [NotIn] at fb2
    simp only [↓exP, ↓exQ, ↓need_ite, ↓need_ite', ↓exA, exB, exC, reduceIte, Nat.reduceEqDiff, Nat.reduceAdd, Nat.reduceSub, Nat.reduceMul, Nat.reduceLeDiff, Nat.reduceLT, Int.reduceToNat, Int.reduceBEq, Int.reduceBNe, Int.reduceLT, Int.reduceLE, Int.reduceEq, Int.reduceNeg, decide_true, decide_false, rd1_own, rd_own, hset_notIn, need_ite, need_ite', map_ite, lb1, lb2, fb2, bdv_fold]
    refine vcall_q (fun w hs => p_rMay b w) ?_
    have hn' := hn.symm
    simp only [↓exP, ↓exQ, ↓need_ite, ↓need_ite', ↓exA, exB, exC, reduceIte, Nat.reduceEqDiff, Nat.reduceAdd, Nat.reduceSub, Nat.reduceMul, Nat.reduceLeDiff, Nat.reduceLT, Int.reduceToNat, Int.reduceBEq, Int.reduceBNe, Int.reduceLT, Int.reduceLE, Int.reduceEq, Int.reduceNeg, decide_true, decide_false, rd1_own, rd_own, hset_notIn, need_ite, need_ite', map_ite, h1, lb1, lb2, fb2, bdv_fold, rc_zero, rc_len, bdv_cells, rc_take, rc_drop, rc_all, hn', resV_cellN ti59]
    exact ends_q rfl
  · have h2 : rNew b = rZ := by simp [rNew, h1]
    rw [h2, show newE b = 10 from by simp [newE, h1]]
    repeat' (first
    | (simp only [↓exP, ↓exQ, ↓need_ite, ↓need_ite', ↓exA, exB, exC, reduceIte, Nat.reduceEqDiff, Nat.reduceAdd, Nat.reduceSub, Nat.reduceMul, Nat.reduceLeDiff, Nat.reduceLT, Int.reduceToNat, Int.reduceBEq, Int.reduceBNe, Int.reduceLT, Int.reduceLE, Int.reduceEq, Int.reduceNeg, decide_true, decide_false, rd1_own, rd_own, hset_notIn, need_ite, need_ite', map_ite, s27, resV_cellN ti59, bdv_cells, rc_zero, rc_len, rv_cells, rc_take, rc_drop, rc_all, wv_fold, bdv_fold, rv_fold, *]; done)
    | simp only [↓exP, ↓exQ, ↓need_ite, ↓need_ite', ↓exA, exB, exC, reduceIte, Nat.reduceEqDiff, Nat.reduceAdd, Nat.reduceSub, Nat.reduceMul, Nat.reduceLeDiff, Nat.reduceLT, Int.reduceToNat, Int.reduceBEq, Int.reduceBNe, Int.reduceLT, Int.reduceLE, Int.reduceEq, Int.reduceNeg, decide_true, decide_false, rd1_own, rd_own, hset_notIn, need_ite, need_ite', map_ite, s27, resV_cellN ti59, bdv_cells, rc_zero, rc_len, rv_cells, rc_take, rc_drop, rc_all, wv_fold, bdv_fold, rv_fold, *]
    | refine vcall_q (fun w hs => p_rMay b w) ?_
    | refine qcall_q (fun w hs => p_rMay b w) ?_
    | (intro xb hl hf; try simp only [NotIn] at hf)
    | refine And.intro (fun hc => ?_) (fun hc => ?_)
    | refine ends_q ?_
    | exact wv_fold _
    | (refine And.intro (by first | omega | (simp only [*]; omega)) ?_))

def s33 : SFun := ⟨[], 45, [(.cell 4 59), (.tmp 5), (.tmp 6)], (.seq (.reg [⟨none, (.box 2 (.tmp 0))⟩, ⟨none, (.alloc 4 (rl [(132, (.int .i64 0))]))⟩, ⟨none, (.pure 5 .mv [(.const (.int .i64 0))])⟩, ⟨none, (.pure 6 .mv [(.const (.int .i64 0))])⟩]) (.seq (.reg [⟨none, (.loadN 13 (.tmp 2) 2)⟩, ⟨none, (.call (some 14) (.func 27) [(.tmp 13)])⟩, ⟨none, (.pure 12 .mv [(.tmp 14)])⟩, ⟨none, (.pure 15 (.ext 0) [(.tmp 12)])⟩, ⟨none, (.pure 16 (.ext 1) [(.tmp 12)])⟩, ⟨none, (.alloc 7 (rl [(132, (.int .i64 0))]))⟩, ⟨none, (.storeN (.tmp 7) (.tmp 15) 132)⟩, ⟨none, (.pure 8 .mv [(.tmp 16)])⟩]) (.seq (.seq (.reg [⟨none, (.pure 17 .mv [(.tmp 8)])⟩, ⟨none, (.pure 18 (.bin .neq) [(.tmp 17), (.const (.int .i64 0))])⟩]) (.cond (.tmp 18) (.seq (.reg [⟨none, (.pure 19 (.build (rl [(132, (.int .i64 0))]) []) [])⟩, ⟨none, (.pure 20 .mv [(.tmp 8)])⟩, ⟨none, (.storeN (.tmp 4) (.tmp 19) 132)⟩, ⟨none, (.pure 5 .mv [(.const (.int .i64 0))])⟩, ⟨none, (.pure 6 .mv [(.tmp 20)])⟩]) .ret) .skip)) (.seq (.seq (.reg [⟨none, (.pure 9 .mv [(.const (.int .i64 0))])⟩]) (.block 0 (.loop (.seq (.seq (.reg [⟨none, (.pure 21 .mv [(.tmp 9)])⟩, ⟨none, (.pure 22 .mv [(.tmp 1)])⟩, ⟨none, (.pure 23 .len [(.tmp 22)])⟩, ⟨none, (.pure 24 (.bin .lss) [(.tmp 21), (.tmp 23)])⟩]) (.cond (.tmp 24) .skip (.exit 0))) (.seq (.block 1 (.seq (.draw ⟨[(⟨none, (.loadN 28 (.tmp 7) 132)⟩, false), (⟨none, (.pure 29 .mv [(.tmp 1)])⟩, false), (⟨none, (.pure 30 .mv [(.tmp 9)])⟩, false), (⟨none, (.pure 31 (.iaS 1) [(.tmp 29), (.tmp 30)])⟩, false), (⟨none, (.load1 32 (.tmp 31))⟩, false), (⟨none, (.call (some 33) (.func 30) [(.tmp 28), (.tmp 32)])⟩, false), (⟨none, (.pure 27 .mv [(.tmp 33)])⟩, false), (⟨none, (.pure 34 (.ext 0) [(.tmp 27)])⟩, false), (⟨none, (.pure 35 (.ext 1) [(.tmp 27)])⟩, true)], [], (some (10, (rl [(132, (.int .i64 0))]))), [⟨none, (.storeN (.tmp 10) (.tmp 34) 132)⟩, ⟨none, (.pure 11 .mv [(.tmp 35)])⟩]⟩) (.seq (.seq (.reg [⟨none, (.pure 36 .mv [(.tmp 11)])⟩, ⟨none, (.pure 37 (.bin .neq) [(.tmp 36), (.const (.int .i64 0))])⟩]) (.cond (.tmp 37) (.seq (.reg [⟨none, (.loadN 38 (.tmp 7) 132)⟩, ⟨none, (.pure 39 .mv [(.tmp 9)])⟩, ⟨none, (.pure 40 .mv [(.tmp 11)])⟩, ⟨none, (.storeN (.tmp 4) (.tmp 38) 132)⟩, ⟨none, (.pure 5 .mv [(.tmp 39)])⟩, ⟨none, (.pure 6 .mv [(.tmp 40)])⟩]) .ret) .skip)) (.reg [⟨none, (.loadN 41 (.tmp 10) 132)⟩, ⟨none, (.storeN (.tmp 7) (.tmp 41) 132)⟩])))) (.reg [⟨none, (.pure 25 .mv [(.tmp 9)])⟩, ⟨none, (.pure 26 (.bin .add) [(.tmp 25), (.const (.int .i64 1))])⟩, ⟨none, (.pure 9 .mv [(.tmp 26)])⟩])))))) (.seq (.reg [⟨none, (.loadN 42 (.tmp 7) 132)⟩, ⟨none, (.pure 43 .mv [(.tmp 1)])⟩, ⟨none, (.pure 44 .len [(.tmp 43)])⟩, ⟨none, (.storeN (.tmp 4) (.tmp 42) 132)⟩, ⟨none, (.pure 5 .mv [(.tmp 44)])⟩, ⟨none, (.pure 6 .mv [(.const (.int .i64 0))])⟩]) .ret)))))⟩
theorem s33_ok : cFun Try.prog [] Try.f33 = some s33 := by kernel_rfl
theorem hb33 : HasBody Try.prog 33 := ⟨_, Try.func33, by kernel_rfl, by kernel_rfl⟩
set_option maxHeartbeats 2000000 in
theorem p_rPlays (w : World) (b : Bd) (v : Value) (xs : List Int) (hv : IntsIn w v xs) :
    Quiet Try.prog w 33 [bdv b, v] (.tuple #[rv (rFrom b xs).1, .int .i64 ((rFrom b xs).2.1 : Nat), .int .i64 (rFrom b xs).2.2]) := by
  refine quiet Try.func33 (by kernel_rfl) (by kernel_rfl) s33_ok (by kernel_rfl) ?_
  obtain ⟨a, cap0, hv0⟩ := hv.len
  have hsm := hv.small
  have hlen : pv .len [v] = some (.int .i64 xs.length) := by rw [hv0]; rfl
  rcases Bool.eq_false_or_eq_true (mayB b) with h1 | h1
  · have e1 : newE b = 0 := if_pos h1
    have e3 : rFrom b xs = rFromL (rNew b) xs 0 := if_pos h1
    rw [e3]
    simp only [↓exP, ↓exQ, ↓need_ite, ↓need_ite', ↓exA, exB, exC, reduceIte, Nat.reduceEqDiff, Nat.reduceAdd, Nat.reduceSub, Nat.reduceMul, Nat.reduceLeDiff, Nat.reduceLT, Int.reduceToNat, Int.reduceBEq, Int.reduceBNe, Int.reduceLT, Int.reduceLE, Int.reduceEq, Int.reduceNeg, decide_true, decide_false, rd1_own, rd_own, hset_notIn, need_ite, need_ite', map_ite, s33, bdv_cells, rc_zero, rc_len]
    intro b2 lb2 fb2; try simp only [NotIn] at fb2
    simp only [↓exP, ↓exQ, ↓need_ite, ↓need_ite', ↓exA, exB, exC, reduceIte, Nat.reduceEqDiff, Nat.reduceAdd, Nat.reduceSub, Nat.reduceMul, Nat.reduceLeDiff, Nat.reduceLT, Int.reduceToNat, Int.reduceBEq, Int.reduceBNe, Int.reduceLT, Int.reduceLE, Int.reduceEq, Int.reduceNeg, decide_true, decide_false, rd1_own, rd_own, hset_notIn, need_ite, need_ite', map_ite, rc_zero, rc_len]
    intro b4 lb4 fb4; try simp only [NotIn] at fb4
    simp only [↓exP, ↓exQ, ↓need_ite, ↓need_ite', ↓exA, exB, exC, reduceIte, Nat.reduceEqDiff, Nat.reduceAdd, Nat.reduceSub, Nat.reduceMul, Nat.reduceLeDiff, Nat.reduceLT, Int.reduceToNat, Int.reduceBEq, Int.reduceBNe, Int.reduceLT, Int.reduceLE, Int.reduceEq, Int.reduceNeg, decide_true, decide_false, rd1_own, rd_own, hset_notIn, need_ite, need_ite', map_ite, lb2, lb4, fb2, fb4, bdv_fold, rc_zero]
    refine vcall_q (fun w hs => p_rNew b w) ?_
    simp only [↓exP, ↓exQ, ↓need_ite, ↓need_ite', ↓exA, exB, exC, reduceIte, Nat.reduceEqDiff, Nat.reduceAdd, Nat.reduceSub, Nat.reduceMul, Nat.reduceLeDiff, Nat.reduceLT, Int.reduceToNat, Int.reduceBEq, Int.reduceBNe, Int.reduceLT, Int.reduceLE, Int.reduceEq, Int.reduceNeg, decide_true, decide_false, rd1_own, rd_own, hset_notIn, need_ite, need_ite', map_ite, e1, rc_zero, rc_len]
    intro b7 lb7 fb7; try simp only [NotIn] at fb7
    simp only [↓exP, ↓exQ, ↓need_ite, ↓need_ite', ↓exA, exB, exC, reduceIte, Nat.reduceEqDiff, Nat.reduceAdd, Nat.reduceSub, Nat.reduceMul, Nat.reduceLeDiff, Nat.reduceLT, Int.reduceToNat, Int.reduceBEq, Int.reduceBNe, Int.reduceLT, Int.reduceLE, Int.reduceEq, Int.reduceNeg, decide_true, decide_false, rd1_own, rd_own, hset_notIn, need_ite, need_ite', map_ite, lb2, lb4, lb7, fb2, fb4, fb7, rv_cells, rc_zero, rc_len, rc_take, rc_drop, rc_all]
    refine SWS.loop (σ := Nat × RPos) (0, rNew b) (fun x => x.1 ≤ xs.length ∧ RI x.2 ∧ rFromL (rNew b) xs 0 = rFromL x.2 (xs.drop x.1) x.1) (fun x => [(1, v), (4, .pointer (some ⟨b4, 0, none⟩)), (7, .pointer (some ⟨b7, 0, none⟩)), (9, .int .i64 (x.1 : Nat))])
      (fun x => [(b7, .cells (rc x.2) 132), (b4, .cells (rc rZ) 132)]) (fun x => xs.length - x.1) ⟨Nat.zero_le _, RI_new b, rfl⟩ ?_ ?_ ?_
    · simp [subR, lk]
    · repeat (first | exact sub_refl _ | exact sub_nil _ | (refine sub_cons (by simp only [List.mem_cons, true_or, or_true]) ?_) | refine sub_tail ?_)
    · rintro ⟨i, p⟩ ⟨hil, hri, hfr⟩
      simp only at hil hri hfr
      rcases Nat.lt_or_ge i xs.length with hin | hge
      · obtain ⟨b9, o9, hb9, hpv, hcell⟩ := hv.get i xs[i] (List.getElem?_eq_getElem hin)
        have hdr : xs.drop i = xs[i] :: xs.drop (i + 1) := List.drop_eq_getElem_cons hin
        rw [hdr] at hfr
        have hr : ∀ H, rd1 w H b9 o9 = some (.int .i64 xs[i]) := fun H => rd1_old hb9 hcell
        clear hcell
        generalize xs[i] = x at hr hfr
        have e6 : IntKind.i64.wrap ((i : Int) + 1) = ((i + 1 : Nat) : Int) := by rw [wrap64 _ (by omega)]; omega
        have a1 : (i : Int) < (xs.length : Int) := by omega
        simp only [↓exP, ↓exQ, ↓need_ite, ↓need_ite', ↓exA, exB, exC, reduceIte, Nat.reduceEqDiff, Nat.reduceAdd, Nat.reduceSub, Nat.reduceMul, Nat.reduceLeDiff, Nat.reduceLT, Int.reduceToNat, Int.reduceBEq, Int.reduceBNe, Int.reduceLT, Int.reduceLE, Int.reduceEq, Int.reduceNeg, decide_true, decide_false, rd1_own, rd_own, hset_notIn, need_ite, need_ite', map_ite, hlen, a1, hpv, hr, lb4, lb7, fb4, fb7, rc_zero, rc_len, rc_take, rv_fold]
        refine qcall_q (fun w hs => p_rDrop p x hri w) ?_
        simp only [↓exP, ↓exQ, ↓need_ite, ↓need_ite', ↓exA, exB, exC, reduceIte, Nat.reduceEqDiff, Nat.reduceAdd, Nat.reduceSub, Nat.reduceMul, Nat.reduceLeDiff, Nat.reduceLT, Int.reduceToNat, Int.reduceBEq, Int.reduceBNe, Int.reduceLT, Int.reduceLE, Int.reduceEq, Int.reduceNeg, decide_true, decide_false, rd1_own, rd_own, hset_notIn, need_ite, need_ite', map_ite, rc_zero, rc_len]
        intro b10 lb10 fb10; try simp only [NotIn] at fb10
        simp only [↓exP, ↓exQ, ↓need_ite, ↓need_ite', ↓exA, exB, exC, reduceIte, Nat.reduceEqDiff, Nat.reduceAdd, Nat.reduceSub, Nat.reduceMul, Nat.reduceLeDiff, Nat.reduceLT, Int.reduceToNat, Int.reduceBEq, Int.reduceBNe, Int.reduceLT, Int.reduceLE, Int.reduceEq, Int.reduceNeg, decide_true, decide_false, rd1_own, rd_own, hset_notIn, need_ite, need_ite', map_ite, lb4, lb7, lb10, fb4, fb7, fb10, rv_cells, rc_zero, rc_len, rc_take, rc_drop, rc_all, e6]
        rcases Decidable.em (rCan p x = 0) with hc | hc
        · have e8 : rDrop p x = rPut p x := if_pos hc
          simp only [↓exP, ↓exQ, ↓need_ite, ↓need_ite', ↓exA, exB, exC, reduceIte, Nat.reduceEqDiff, Nat.reduceAdd, Nat.reduceSub, Nat.reduceMul, Nat.reduceLeDiff, Nat.reduceLT, Int.reduceToNat, Int.reduceBEq, Int.reduceBNe, Int.reduceLT, Int.reduceLE, Int.reduceEq, Int.reduceNeg, decide_true, decide_false, rd1_own, rd_own, hset_notIn, need_ite, need_ite', map_ite, hc, e8, lb4, lb7, lb10, fb4, fb7, fb10, rv_cells, rc_zero, rc_len, rc_take, rc_drop, rc_all, e6]
          refine ⟨(i + 1, rPut p x), ⟨⟨by dsimp only; omega, RI_put hri hc, ?_⟩, by dsimp only; omega⟩, by simp [subR, lk], ?_⟩
          · rw [hfr]; simp only [rFromL, hc, if_true]
          · repeat (first | exact sub_refl _ | exact sub_nil _ | (refine sub_cons (by simp only [List.mem_cons, true_or, or_true]) ?_) | refine sub_tail ?_)
        · have e9 : rFromL (rNew b) xs 0 = (p, i, rCan p x) := by rw [hfr]; simp only [rFromL, hc, if_false]
          simp only [↓exP, ↓exQ, ↓need_ite, ↓need_ite', ↓exA, exB, exC, reduceIte, Nat.reduceEqDiff, Nat.reduceAdd, Nat.reduceSub, Nat.reduceMul, Nat.reduceLeDiff, Nat.reduceLT, Int.reduceToNat, Int.reduceBEq, Int.reduceBNe, Int.reduceLT, Int.reduceLE, Int.reduceEq, Int.reduceNeg, decide_true, decide_false, rd1_own, rd_own, hset_notIn, need_ite, need_ite', map_ite, hc, lb4, lb7, lb10, fb4, fb7, fb10, rv_cells, rc_zero, rc_len, rc_take, rc_drop, rc_all, e6, resV_cellN ti59]
          refine ends_q ?_
          rw [e9]
          rfl
      · have hi' : i = xs.length := by omega
        have e9 : rFromL (rNew b) xs 0 = (p, i, 0) := by rw [hfr, hi', List.drop_length]; rfl
        have a1 : ¬ (xs.length : Int) < (xs.length : Int) := by omega
        subst hi'
        simp only [↓exP, ↓exQ, ↓need_ite, ↓need_ite', ↓exA, exB, exC, reduceIte, Nat.reduceEqDiff, Nat.reduceAdd, Nat.reduceSub, Nat.reduceMul, Nat.reduceLeDiff, Nat.reduceLT, Int.reduceToNat, Int.reduceBEq, Int.reduceBNe, Int.reduceLT, Int.reduceLE, Int.reduceEq, Int.reduceNeg, decide_true, decide_false, rd1_own, rd_own, hset_notIn, need_ite, need_ite', map_ite, hlen, a1, lb4, lb7, fb4, fb7, rv_cells, rc_zero, rc_len, rc_take, rc_drop, rc_all, resV_cellN ti59]
        refine ends_q ?_
        rw [e9]
        rfl
  · have e3 : rFrom b xs = (rZ, 0, 10) := by simp [rFrom, h1]
    have e1 : newE b = 10 := by simp [newE, h1]
    have e4 : rNew b = rZ := by simp [rNew, h1]
    rw [e3]
    clear e3
    repeat' (first
    | (simp only [↓exP, ↓exQ, ↓need_ite, ↓need_ite', ↓exA, exB, exC, reduceIte, Nat.reduceEqDiff, Nat.reduceAdd, Nat.reduceSub, Nat.reduceMul, Nat.reduceLeDiff, Nat.reduceLT, Int.reduceToNat, Int.reduceBEq, Int.reduceBNe, Int.reduceLT, Int.reduceLE, Int.reduceEq, Int.reduceNeg, decide_true, decide_false, rd1_own, rd_own, hset_notIn, need_ite, need_ite', map_ite, s33, resV_cellN ti59, bdv_cells, rc_zero, rc_len, rv_cells, rc_take, rc_drop, rc_all, wv_fold, bdv_fold, rv_fold, *]; done)
    | simp only [↓exP, ↓exQ, ↓need_ite, ↓need_ite', ↓exA, exB, exC, reduceIte, Nat.reduceEqDiff, Nat.reduceAdd, Nat.reduceSub, Nat.reduceMul, Nat.reduceLeDiff, Nat.reduceLT, Int.reduceToNat, Int.reduceBEq, Int.reduceBNe, Int.reduceLT, Int.reduceLE, Int.reduceEq, Int.reduceNeg, decide_true, decide_false, rd1_own, rd_own, hset_notIn, need_ite, need_ite', map_ite, s33, resV_cellN ti59, bdv_cells, rc_zero, rc_len, rv_cells, rc_take, rc_drop, rc_all, wv_fold, bdv_fold, rv_fold, *]
    | refine vcall_q (fun w hs => p_rNew b w) ?_
    | refine qcall_q (fun w hs => p_rNew b w) ?_
    | (intro xb hl hf; try simp only [NotIn] at hf)
    | refine And.intro (fun hc => ?_) (fun hc => ?_)
    | refine ends_q ?_
    | exact wv_fold _
    | (refine And.intro (by first | omega | (simp only [*]; omega)) ?_))
    all_goals trace_state
def s35 : SFun := ⟨[], 22, [(.tmp 2)], (.seq (.reg [⟨none, (.box 1 (.tmp 0))⟩, ⟨none, (.pure 2 .mv [(.const (.slice none 0 0))])⟩]) (.seq (.reg [⟨none, (.bslice 5 0 [] [] [])⟩, ⟨none, (.pure 3 .mv [(.tmp 5)])⟩]) (.seq (.seq (.reg [⟨none, (.pure 4 .mv [(.const (.int .i64 0))])⟩]) (.block 0 (.loop (.seq (.seq (.reg [⟨none, (.pure 6 .mv [(.tmp 4)])⟩, ⟨none, (.pure 7 (.fad 0) [(.tmp 1)])⟩, ⟨none, (.pure 8 (.fad 0) [(.tmp 7)])⟩, ⟨none, (.load1 9 (.tmp 8))⟩, ⟨none, (.pure 10 (.bin .lss) [(.tmp 6), (.tmp 9)])⟩]) (.cond (.tmp 10) .skip (.exit 0))) (.seq (.block 1 (.seq (.reg [⟨none, (.loadN 13 (.tmp 1) 132)⟩, ⟨none, (.pure 14 .mv [(.tmp 4)])⟩, ⟨none, (.call (some 15) (.func 63) [(.tmp 13), (.tmp 14)])⟩, ⟨none, (.pure 16 (.bin .eql) [(.tmp 15), (.const (.int .i64 0))])⟩]) (.cond (.tmp 16) (.reg [⟨none, (.pure 17 .mv [(.tmp 3)])⟩, ⟨none, (.pure 18 .mv [(.tmp 4)])⟩, ⟨none, (.bslice 19 1 [(.int .i64 0)] [(0, 1)] [(.tmp 18)])⟩, ⟨none, (.append 20 [22, 22] 22 (.tmp 17) (.tmp 19))⟩, ⟨none, (.pure 3 .mv [(.tmp 20)])⟩]) .skip))) (.reg [⟨none, (.pure 11 .mv [(.tmp 4)])⟩, ⟨none, (.pure 12 (.bin .add) [(.tmp 11), (.const (.int .i64 1))])⟩, ⟨none, (.pure 4 .mv [(.tmp 12)])⟩])))))) (.seq (.reg [⟨none, (.pure 21 .mv [(.tmp 3)])⟩, ⟨none, (.pure 2 .mv [(.tmp 21)])⟩]) .ret))))⟩
theorem s35_ok : cFun Try.prog [] Try.f35 = some s35 := by kernel_rfl
theorem hb35 : HasBody Try.prog 35 := ⟨_, Try.func35, by kernel_rfl, by kernel_rfl⟩
set_option maxHeartbeats 2000000 in
theorem p_rColumns (w : World) (f : RPos) (hf : RW f) : ACall Try.prog w 35 #[rv f] [] (NewSl 1 (ints (rCols f))) := by
  refine fresh (args := [rv f]) Try.func35 s35_ok (by kernel_rfl) ?_
  obtain ⟨w1, w2⟩ := hf
  simp only [↓exP, ↓exQ, ↓need_ite, ↓need_ite', ↓exA, exB, exC, reduceIte, Nat.reduceEqDiff, Nat.reduceAdd, Nat.reduceSub, Nat.reduceMul, Nat.reduceLeDiff, Nat.reduceLT, Int.reduceToNat, Int.reduceBEq, Int.reduceBNe, Int.reduceLT, Int.reduceLE, Int.reduceEq, Int.reduceNeg, decide_true, decide_false, rd1_own, rd_own, hset_notIn, need_ite, need_ite', map_ite, s35, rv_cells, rc_len]
  intro b1 lb1 fb1; try simp only [NotIn] at fb1
  simp only [↓exP, ↓exQ, ↓need_ite, ↓need_ite', ↓exA, exB, exC, reduceIte, Nat.reduceEqDiff, Nat.reduceAdd, Nat.reduceSub, Nat.reduceMul, Nat.reduceLeDiff, Nat.reduceLT, Int.reduceToNat, Int.reduceBEq, Int.reduceBNe, Int.reduceLT, Int.reduceLE, Int.reduceEq, Int.reduceNeg, decide_true, decide_false, rd1_own, rd_own, hset_notIn, need_ite, need_ite', map_ite]
  intro b5 lb5 fb5; try simp only [NotIn] at fb5
  simp only [↓exP, ↓exQ, ↓need_ite, ↓need_ite', ↓exA, exB, exC, reduceIte, Nat.reduceEqDiff, Nat.reduceAdd, Nat.reduceSub, Nat.reduceMul, Nat.reduceLeDiff, Nat.reduceLT, Int.reduceToNat, Int.reduceBEq, Int.reduceBNe, Int.reduceLT, Int.reduceLE, Int.reduceEq, Int.reduceNeg, decide_true, decide_false, rd1_own, rd_own, hset_notIn, need_ite, need_ite', map_ite]
  refine SWS.loop (σ := Nat × Nat × Nat × List Value) (0, b5, 0, []) (fun s => (s.1 : Int) ≤ f 0 ∧ ¬ s.2.1 < w.heap.size ∧ (¬ b1 = s.2.1 ∧ ¬ s.2.1 = b1) ∧ (rColsN f s.1).length ≤ s.2.2.1 ∧ (rColsN f s.1).length ≤ s.2.2.2.length ∧ s.2.2.2.take (rColsN f s.1).length = (rColsN f s.1).map (.int .i64))
    (fun s => [(1, .pointer (some ⟨b1, 0, none⟩)), (3, .slice (some ⟨s.2.1, 0, none⟩) (rColsN f s.1).length s.2.2.1), (4, .int .i64 (s.1 : Nat))])
    (fun s => [(s.2.1, .cells s.2.2.2 s.2.2.1), (b1, .cells (rc f) 132)]) (fun s => (f 0).toNat - s.1) ⟨by dsimp only; omega, lb5, fb5.1, Nat.le_refl _, Nat.le_refl _, rfl⟩ ?_ ?_ ?_
  · simp [subR, lk, rColsN]
  · repeat (first | exact sub_refl _ | exact sub_nil _ | (refine sub_cons (by simp only [List.mem_cons, true_or, or_true]) ?_) | refine sub_tail ?_)
  · rintro ⟨i, b, cap, c⟩ ⟨hil, lb, fb, hcap, hclen, hct⟩
    simp only at hil lb fb hcap hclen hct
    have hl2 : (rColsN f i).length ≤ i := by
      have := List.length_filter_le (fun x => decide (rCan f ((x : Nat) : Int) = 0)) (List.range i)
      simpa [rColsN] using this
    have e6 : IntKind.i64.wrap ((i : Int) + 1) = ((i + 1 : Nat) : Int) := by rw [wrap64 _ (by omega)]; omega
    rcases Int.lt_or_le (i : Int) (f 0) with hlt | hge
    · simp only [↓exP, ↓exQ, ↓need_ite, ↓need_ite', ↓exA, exB, exC, reduceIte, Nat.reduceEqDiff, Nat.reduceAdd, Nat.reduceSub, Nat.reduceMul, Nat.reduceLeDiff, Nat.reduceLT, Int.reduceToNat, Int.reduceBEq, Int.reduceBNe, Int.reduceLT, Int.reduceLE, Int.reduceEq, Int.reduceNeg, decide_true, decide_false, rd1_own, rd_own, hset_notIn, need_ite, need_ite', map_ite, lb1, fb, rc_0, rc_len, rc_take, rv_fold, hlt]
      refine vcall_q (fun w hs => p_rCan f i ⟨w1, w2⟩ w) ?_
      rcases Decidable.em (rCan f i = 0) with hc | hc
      · have hs1 : rColsN f (i + 1) = rColsN f i ++ [(i : Int)] := by simp [rColsN, List.range_succ, List.filter_append, hc]
        simp only [↓exP, ↓exQ, ↓need_ite, ↓need_ite', ↓exA, exB, exC, reduceIte, Nat.reduceEqDiff, Nat.reduceAdd, Nat.reduceSub, Nat.reduceMul, Nat.reduceLeDiff, Nat.reduceLT, Int.reduceToNat, Int.reduceBEq, Int.reduceBNe, Int.reduceLT, Int.reduceLE, Int.reduceEq, Int.reduceNeg, decide_true, decide_false, rd1_own, rd_own, hset_notIn, need_ite, need_ite', map_ite, hc, e6, lb1, lb, fb]
        intro b6 lb6 fb6; try simp only [NotIn] at fb6
        simp only [↓exP, ↓exQ, ↓need_ite, ↓need_ite', ↓exA, exB, exC, reduceIte, Nat.reduceEqDiff, Nat.reduceAdd, Nat.reduceSub, Nat.reduceMul, Nat.reduceLeDiff, Nat.reduceLT, Int.reduceToNat, Int.reduceBEq, Int.reduceBNe, Int.reduceLT, Int.reduceLE, Int.reduceEq, Int.reduceNeg, decide_true, decide_false, rd1_own, rd_own, hset_notIn, need_ite, need_ite', map_ite]
        refine AppE slt22 (n := (rColsN f i).length) (c := c) (e := [.int .i64 (i : Nat)]) [(b1, .cells (rc f) 132)] (by repeat (first | exact sub_refl _ | exact sub_nil _ | (refine sub_cons (by simp only [List.mem_cons, true_or, or_true]) ?_) | refine sub_tail ?_)) (by simp [hget, fb, fb6]) hcap (by omega) (by simp [NotIn, fb]) (hget_here _ _ _) lb6 rfl rfl (by omega) (by omega) ?_
        intro b' cap' c' lb' fb' hcap' hlen' htake'
        simp only [NotIn] at fb'
        simp only [↓exP, ↓exQ, ↓need_ite, ↓need_ite', ↓exA, exB, exC, reduceIte, Nat.reduceEqDiff, Nat.reduceAdd, Nat.reduceSub, Nat.reduceMul, Nat.reduceLeDiff, Nat.reduceLT, Int.reduceToNat, Int.reduceBEq, Int.reduceBNe, Int.reduceLT, Int.reduceLE, Int.reduceEq, Int.reduceNeg, decide_true, decide_false, rd1_own, rd_own, hset_notIn, need_ite, need_ite', map_ite, e6]
        have hln : (rColsN f (i + 1)).length = (rColsN f i).length + 1 := by rw [hs1]; simp
        refine ⟨(i + 1, b', cap', c'), ⟨⟨by dsimp only; omega, lb', fb'.1, by dsimp only; omega, by dsimp only; omega, ?_⟩, by dsimp only; omega⟩, ?_, ?_⟩
        · dsimp only
          rw [hln]
          simp only [Nat.mul_one] at htake'
          rw [htake', hct, hs1, List.map_append]; rfl
        · dsimp only
          rw [hln]
          simp [subR, lk]
        · repeat (first | exact sub_refl _ | exact sub_nil _ | (refine sub_cons (by simp only [List.mem_cons, true_or, or_true]) ?_) | refine sub_tail ?_)
      · have hs1 : rColsN f (i + 1) = rColsN f i := by simp [rColsN, List.range_succ, List.filter_append, hc]
        simp only [↓exP, ↓exQ, ↓need_ite, ↓need_ite', ↓exA, exB, exC, reduceIte, Nat.reduceEqDiff, Nat.reduceAdd, Nat.reduceSub, Nat.reduceMul, Nat.reduceLeDiff, Nat.reduceLT, Int.reduceToNat, Int.reduceBEq, Int.reduceBNe, Int.reduceLT, Int.reduceLE, Int.reduceEq, Int.reduceNeg, decide_true, decide_false, rd1_own, rd_own, hset_notIn, need_ite, need_ite', map_ite, hc, e6, lb1, lb, fb]
        refine ⟨(i + 1, b, cap, c), ⟨⟨by dsimp only; omega, lb, fb, ?_, ?_, ?_⟩, by dsimp only; omega⟩, ?_, ?_⟩
        all_goals (try dsimp only); (try rw [hs1]); first | exact hcap | exact hclen | exact hct | simp [subR, lk] | exact fun p hp => hp
    · have hi' : i = (f 0).toNat := by omega
      have a1 : ¬ (i : Int) < f 0 := by omega
      simp only [↓exP, ↓exQ, ↓need_ite, ↓need_ite', ↓exA, exB, exC, reduceIte, Nat.reduceEqDiff, Nat.reduceAdd, Nat.reduceSub, Nat.reduceMul, Nat.reduceLeDiff, Nat.reduceLT, Int.reduceToNat, Int.reduceBEq, Int.reduceBNe, Int.reduceLT, Int.reduceLE, Int.reduceEq, Int.reduceNeg, decide_true, decide_false, rd1_own, rd_own, hset_notIn, need_ite, need_ite', map_ite, lb1, fb, rc_0, a1]
      subst hi'
      refine ends_post (H2 := [(b, .cells c cap)]) (by repeat (first | exact sub_refl _ | exact sub_nil _ | (refine sub_cons (by simp only [List.mem_cons, true_or, or_true]) ?_) | refine sub_tail ?_)) ⟨b, cap, c, ?_, ?_, ?_, ?_, ?_⟩
      · rw [ints_len]; rfl
      · rw [Nat.mul_one]
      · rw [ints_len]; exact hcap
      · rw [ints_len, Nat.mul_one]; exact hclen
      · rw [ints_len, Nat.mul_one, ints_flat]; exact hct
end Go.SL
