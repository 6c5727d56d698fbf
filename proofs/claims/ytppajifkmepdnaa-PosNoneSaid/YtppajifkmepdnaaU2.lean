/- Boards: what the functions of package board come to. -/
import Derived.Test.YtppajifkmepdnaaU1
set_option linter.unusedSimpArgs false
set_option linter.unusedVariables false
namespace Go.SL
open Go.Proofs
set_option maxRecDepth 8000
def s80 : SFun := ⟨[], 9, [(.tmp 2)], (.seq (.reg [⟨none, (.pure 2 .mv [(.const (.bool false))])⟩]) (.seq (.reg [⟨none, (.pure 3 .mv [(.tmp 0)])⟩, ⟨none, (.pure 4 (.bin .geq) [(.tmp 3), (.const (.int .i64 4))])⟩, ⟨none, (.pure 5 .mv [(.tmp 4)])⟩, ⟨(some (5, true)), (.pure 6 .mv [(.tmp 0)])⟩, ⟨(some (5, true)), (.pure 7 (.bin .leq) [(.tmp 6), (.const (.int .i64 8))])⟩, ⟨none, (.pure 8 .pick [(.tmp 5), (.tmp 7), (.const (.bool false))])⟩, ⟨none, (.pure 2 .mv [(.tmp 8)])⟩]) .ret))⟩
theorem s80_ok : cFun Try.prog [] Try.f80 = some s80 := by kernel_rfl
theorem hb80 : HasBody Try.prog 80 := ⟨_, Try.func80, by kernel_rfl, by kernel_rfl⟩
theorem p_side (n : Int) : PF Try.prog 80 [.int .i64 n] (.bool (sideB n)) := by
  intro w
  refine quiet Try.func80 (by kernel_rfl) (by kernel_rfl) s80_ok (by kernel_rfl) ?_
  repeat' (first
    | (simp only [↓exP, ↓exQ, ↓need_ite, ↓need_ite', ↓exA, exB, exC, reduceIte, Nat.reduceEqDiff, Nat.reduceAdd, Nat.reduceSub, Nat.reduceMul, Nat.reduceLeDiff, Nat.reduceLT, Int.reduceToNat, Int.reduceBEq, Int.reduceBNe, Int.reduceLT, Int.reduceLE, Int.reduceEq, Int.reduceNeg, decide_true, decide_false, rd1_own, rd_own, hset_notIn, need_ite, need_ite', map_ite, s80, wv_fold, *]; done)
    | simp only [↓exP, ↓exQ, ↓need_ite, ↓need_ite', ↓exA, exB, exC, reduceIte, Nat.reduceEqDiff, Nat.reduceAdd, Nat.reduceSub, Nat.reduceMul, Nat.reduceLeDiff, Nat.reduceLT, Int.reduceToNat, Int.reduceBEq, Int.reduceBNe, Int.reduceLT, Int.reduceLE, Int.reduceEq, Int.reduceNeg, decide_true, decide_false, rd1_own, rd_own, hset_notIn, need_ite, need_ite', map_ite, s80, wv_fold, *]
    | (intro xb hl hf; try simp only [NotIn] at hf)
    | refine And.intro (fun hc => ?_) (fun hc => ?_)
    | refine ends_q ?_
    | exact wv_fold _
    | (refine And.intro (by first | omega | (simp only [*]; omega)) ?_))
  · simp [sideB, hc]
  · simp [sideB, hc]
def s56 : SFun := ⟨[], 11, [(.tmp 2)], (.seq (.reg [⟨none, (.box 1 (.tmp 0))⟩, ⟨none, (.pure 2 .mv [(.const (.bool false))])⟩]) (.seq (.reg [⟨none, (.pure 3 (.fad 0) [(.tmp 1)])⟩, ⟨none, (.load1 4 (.tmp 3))⟩, ⟨none, (.call (some 5) (.func 80) [(.tmp 4)])⟩, ⟨none, (.pure 6 .mv [(.tmp 5)])⟩, ⟨(some (6, true)), (.pure 7 (.fad 1) [(.tmp 1)])⟩, ⟨(some (6, true)), (.load1 8 (.tmp 7))⟩, ⟨(some (6, true)), (.call (some 9) (.func 80) [(.tmp 8)])⟩, ⟨none, (.pure 10 .pick [(.tmp 6), (.tmp 9), (.const (.bool false))])⟩, ⟨none, (.pure 2 .mv [(.tmp 10)])⟩]) .ret))⟩
theorem s56_ok : cFun Try.prog [] Try.f56 = some s56 := by kernel_rfl
theorem hb56 : HasBody Try.prog 56 := ⟨_, Try.func56, by kernel_rfl, by kernel_rfl⟩
theorem p_May (b : Bd) : PF Try.prog 56 [bdv b] (.bool (mayB b)) := by
  intro w
  refine quiet Try.func56 (by kernel_rfl) (by kernel_rfl) s56_ok (by kernel_rfl) ?_
  repeat' (first
    | (simp only [↓exP, ↓exQ, ↓need_ite, ↓need_ite', ↓exA, exB, exC, reduceIte, Nat.reduceEqDiff, Nat.reduceAdd, Nat.reduceSub, Nat.reduceMul, Nat.reduceLeDiff, Nat.reduceLT, Int.reduceToNat, Int.reduceBEq, Int.reduceBNe, Int.reduceLT, Int.reduceLE, Int.reduceEq, Int.reduceNeg, decide_true, decide_false, rd1_own, rd_own, hset_notIn, need_ite, need_ite', map_ite, s56, bdv_cells, wv_fold, *]; done)
    | simp only [↓exP, ↓exQ, ↓need_ite, ↓need_ite', ↓exA, exB, exC, reduceIte, Nat.reduceEqDiff, Nat.reduceAdd, Nat.reduceSub, Nat.reduceMul, Nat.reduceLeDiff, Nat.reduceLT, Int.reduceToNat, Int.reduceBEq, Int.reduceBNe, Int.reduceLT, Int.reduceLE, Int.reduceEq, Int.reduceNeg, decide_true, decide_false, rd1_own, rd_own, hset_notIn, need_ite, need_ite', map_ite, s56, bdv_cells, wv_fold, *]
    | refine vcall_q (fun w hs => p_side _ w) ?_
    | refine qcall_q (fun w hs => p_side _ w) ?_
    | (intro xb hl hf; try simp only [NotIn] at hf)
    | refine And.intro (fun hc => ?_) (fun hc => ?_)
    | refine ends_q ?_
    | exact wv_fold _
    | (refine And.intro (by first | omega | (simp only [*]; omega)) ?_))
  · simp [mayB, hc]
  · simp [mayB, hc]
def s73 : SFun := ⟨[], 11, [(.tmp 2)], (.seq (.reg [⟨none, (.box 1 (.tmp 0))⟩, ⟨none, (.pure 2 .mv [(.const (.int .i64 0))])⟩]) (.seq (.seq (.reg [⟨none, (.loadN 3 (.tmp 1) 2)⟩, ⟨none, (.call (some 4) (.func 56) [(.tmp 3)])⟩, ⟨none, (.pure 5 (.un .not) [(.tmp 4)])⟩]) (.cond (.tmp 5) (.seq (.reg [⟨none, (.pure 2 .mv [(.const (.int .i64 0))])⟩]) .ret) .skip)) (.seq (.reg [⟨none, (.pure 6 (.fad 0) [(.tmp 1)])⟩, ⟨none, (.load1 7 (.tmp 6))⟩, ⟨none, (.pure 8 (.fad 1) [(.tmp 1)])⟩, ⟨none, (.load1 9 (.tmp 8))⟩, ⟨none, (.pure 10 (.bin .mul) [(.tmp 7), (.tmp 9)])⟩, ⟨none, (.pure 2 .mv [(.tmp 10)])⟩]) .ret)))⟩
theorem s73_ok : cFun Try.prog [] Try.f73 = some s73 := by kernel_rfl
theorem hb73 : HasBody Try.prog 73 := ⟨_, Try.func73, by kernel_rfl, by kernel_rfl⟩
theorem p_Cells (b : Bd) : PF Try.prog 73 [bdv b] (.int .i64 (cellsB b)) := by
  intro w
  refine quiet Try.func73 (by kernel_rfl) (by kernel_rfl) s73_ok (by kernel_rfl) ?_
  repeat' (first
    | (simp only [↓exP, ↓exQ, ↓need_ite, ↓need_ite', ↓exA, exB, exC, reduceIte, Nat.reduceEqDiff, Nat.reduceAdd, Nat.reduceSub, Nat.reduceMul, Nat.reduceLeDiff, Nat.reduceLT, Int.reduceToNat, Int.reduceBEq, Int.reduceBNe, Int.reduceLT, Int.reduceLE, Int.reduceEq, Int.reduceNeg, decide_true, decide_false, rd1_own, rd_own, hset_notIn, need_ite, need_ite', map_ite, s73, bdv_cells, wv_fold, *]; done)
    | simp only [↓exP, ↓exQ, ↓need_ite, ↓need_ite', ↓exA, exB, exC, reduceIte, Nat.reduceEqDiff, Nat.reduceAdd, Nat.reduceSub, Nat.reduceMul, Nat.reduceLeDiff, Nat.reduceLT, Int.reduceToNat, Int.reduceBEq, Int.reduceBNe, Int.reduceLT, Int.reduceLE, Int.reduceEq, Int.reduceNeg, decide_true, decide_false, rd1_own, rd_own, hset_notIn, need_ite, need_ite', map_ite, s73, bdv_cells, wv_fold, *]
    | refine vcall_q (fun w hs => p_May b w) ?_
    | refine qcall_q (fun w hs => p_May b w) ?_
    | (intro xb hl hf; try simp only [NotIn] at hf)
    | refine And.intro (fun hc => ?_) (fun hc => ?_)
    | refine ends_q ?_
    | exact wv_fold _
    | (refine And.intro (by first | omega | (simp only [*]; omega)) ?_))
  · have := mayB_iff.1 hc
    have := mul_bd (x := b.W) (h := b.H) (A := 8) (B := 8) (by omega) (by omega)
    simp only [cellsB, hc, if_true]
    rw [wrap64 _ (by omega)]
  · simp [cellsB, hc]
def s105 : SFun := ⟨[], 14, [(.tmp 6)], (.seq (.reg [⟨none, (.box 3 (.tmp 0))⟩, ⟨none, (.pure 6 .mv [(.const (.int .i64 0))])⟩]) (.seq (.reg [⟨none, (.pure 7 .mv [(.tmp 1)])⟩, ⟨none, (.pure 8 (.fad 1) [(.tmp 3)])⟩, ⟨none, (.load1 9 (.tmp 8))⟩, ⟨none, (.pure 10 (.bin .add) [(.tmp 9), (.const (.int .i64 1))])⟩, ⟨none, (.pure 11 (.bin .mul) [(.tmp 7), (.tmp 10)])⟩, ⟨none, (.pure 12 .mv [(.tmp 2)])⟩, ⟨none, (.pure 13 (.bin .add) [(.tmp 11), (.tmp 12)])⟩, ⟨none, (.pure 6 .mv [(.tmp 13)])⟩]) .ret))⟩
theorem s105_ok : cFun Try.prog [] Try.f105 = some s105 := by kernel_rfl
theorem hb105 : HasBody Try.prog 105 := ⟨_, Try.func105, by kernel_rfl, by kernel_rfl⟩
theorem p_place (b : Bd) (x y : Int) (h : -1000000 ≤ x ∧ x ≤ 1000000) (h2 : -1000000 ≤ y ∧ y ≤ 1000000) (h3 : -1000000 ≤ b.H ∧ b.H ≤ 1000000) : PF Try.prog 105 [bdv b, .int .i64 x, .int .i64 y] (.int .i64 (x * (b.H + 1) + y)) := by
  intro w
  refine quiet Try.func105 (by kernel_rfl) (by kernel_rfl) s105_ok (by kernel_rfl) ?_
  repeat' (first
    | (simp only [↓exP, ↓exQ, ↓need_ite, ↓need_ite', ↓exA, exB, exC, reduceIte, Nat.reduceEqDiff, Nat.reduceAdd, Nat.reduceSub, Nat.reduceMul, Nat.reduceLeDiff, Nat.reduceLT, Int.reduceToNat, Int.reduceBEq, Int.reduceBNe, Int.reduceLT, Int.reduceLE, Int.reduceEq, Int.reduceNeg, decide_true, decide_false, rd1_own, rd_own, hset_notIn, need_ite, need_ite', map_ite, s105, bdv_cells, wv_fold, *]; done)
    | simp only [↓exP, ↓exQ, ↓need_ite, ↓need_ite', ↓exA, exB, exC, reduceIte, Nat.reduceEqDiff, Nat.reduceAdd, Nat.reduceSub, Nat.reduceMul, Nat.reduceLeDiff, Nat.reduceLT, Int.reduceToNat, Int.reduceBEq, Int.reduceBNe, Int.reduceLT, Int.reduceLE, Int.reduceEq, Int.reduceNeg, decide_true, decide_false, rd1_own, rd_own, hset_notIn, need_ite, need_ite', map_ite, s105, bdv_cells, wv_fold, *]
    | (intro xb hl hf; try simp only [NotIn] at hf)
    | refine And.intro (fun hc => ?_) (fun hc => ?_)
    | refine ends_q ?_
    | exact wv_fold _
    | (refine And.intro (by first | omega | (simp only [*]; omega)) ?_))
  have := mul_bd (x := x) (h := b.H + 1) (A := 1000000) (B := 1000001) (by omega) (by omega)
  rw [wrap64 (b.H + 1) (by omega), wrap64 (x * (b.H + 1)) (by omega), wrap64 _ (by omega)]
def topV (b : Bd) (x : Int) : Value := if mayB b = true then if 0 ≤ x ∧ x < b.W then .tuple #[.int .i64 (x * (b.H + 1) + b.H), .int .i64 0] else .tuple #[.int .i64 0, .int .i64 11] else .tuple #[.int .i64 0, .int .i64 10]
def s100 : SFun := ⟨[], 24, [(.tmp 4), (.tmp 5)], (.seq (.reg [⟨none, (.box 2 (.tmp 0))⟩, ⟨none, (.pure 4 .mv [(.const (.int .i64 0))])⟩, ⟨none, (.pure 5 .mv [(.const (.int .i64 0))])⟩]) (.seq (.block 0 (.seq (.reg [⟨none, (.loadN 7 (.tmp 2) 2)⟩, ⟨none, (.call (some 8) (.func 56) [(.tmp 7)])⟩, ⟨none, (.pure 9 (.un .not) [(.tmp 8)])⟩, ⟨none, (.pure 6 .mv [(.tmp 9)])⟩]) (.cond (.tmp 6) (.seq (.reg [⟨none, (.pure 4 .mv [(.const (.int .i64 0))])⟩, ⟨none, (.pure 5 .mv [(.const (.int .i64 10))])⟩]) .ret) (.seq (.reg [⟨none, (.pure 11 .mv [(.tmp 1)])⟩, ⟨none, (.pure 12 (.bin .lss) [(.tmp 11), (.const (.int .i64 0))])⟩, ⟨none, (.pure 13 .mv [(.tmp 12)])⟩, ⟨(some (13, false)), (.pure 14 .mv [(.tmp 1)])⟩, ⟨(some (13, false)), (.pure 15 (.fad 0) [(.tmp 2)])⟩, ⟨(some (13, false)), (.load1 16 (.tmp 15))⟩, ⟨(some (13, false)), (.pure 17 (.bin .geq) [(.tmp 14), (.tmp 16)])⟩, ⟨none, (.pure 18 .pick [(.tmp 13), (.const (.bool true)), (.tmp 17)])⟩, ⟨none, (.pure 10 .mv [(.tmp 18)])⟩]) (.cond (.tmp 10) (.seq (.reg [⟨none, (.pure 4 .mv [(.const (.int .i64 0))])⟩, ⟨none, (.pure 5 .mv [(.const (.int .i64 11))])⟩]) .ret) .skip))))) (.seq (.reg [⟨none, (.loadN 19 (.tmp 2) 2)⟩, ⟨none, (.pure 20 .mv [(.tmp 1)])⟩, ⟨none, (.pure 21 (.fad 1) [(.tmp 2)])⟩, ⟨none, (.load1 22 (.tmp 21))⟩, ⟨none, (.call (some 23) (.func 105) [(.tmp 19), (.tmp 20), (.tmp 22)])⟩, ⟨none, (.pure 4 .mv [(.tmp 23)])⟩, ⟨none, (.pure 5 .mv [(.const (.int .i64 0))])⟩]) .ret)))⟩
theorem s100_ok : cFun Try.prog [] Try.f100 = some s100 := by kernel_rfl
theorem hb100 : HasBody Try.prog 100 := ⟨_, Try.func100, by kernel_rfl, by kernel_rfl⟩
theorem p_Top (b : Bd) (x : Int) : PF Try.prog 100 [bdv b, .int .i64 x] (topV b x) := by
  intro w
  refine quiet Try.func100 (by kernel_rfl) (by kernel_rfl) s100_ok (by kernel_rfl) ?_
  rcases Bool.eq_false_or_eq_true (mayB b) with hm | hm
  · have hb := mayB_iff.1 hm
    rcases Decidable.em (0 ≤ x ∧ x < b.W) with hx | hx
    · have e1 : ¬ x < 0 := by omega
      have e2 : ¬ b.W ≤ x := by omega
      repeat' (first
    | (simp only [↓exP, ↓exQ, ↓need_ite, ↓need_ite', ↓exA, exB, exC, reduceIte, Nat.reduceEqDiff, Nat.reduceAdd, Nat.reduceSub, Nat.reduceMul, Nat.reduceLeDiff, Nat.reduceLT, Int.reduceToNat, Int.reduceBEq, Int.reduceBNe, Int.reduceLT, Int.reduceLE, Int.reduceEq, Int.reduceNeg, decide_true, decide_false, rd1_own, rd_own, hset_notIn, need_ite, need_ite', map_ite, s100, bdv_cells, wv_fold, *]; done)
    | simp only [↓exP, ↓exQ, ↓need_ite, ↓need_ite', ↓exA, exB, exC, reduceIte, Nat.reduceEqDiff, Nat.reduceAdd, Nat.reduceSub, Nat.reduceMul, Nat.reduceLeDiff, Nat.reduceLT, Int.reduceToNat, Int.reduceBEq, Int.reduceBNe, Int.reduceLT, Int.reduceLE, Int.reduceEq, Int.reduceNeg, decide_true, decide_false, rd1_own, rd_own, hset_notIn, need_ite, need_ite', map_ite, s100, bdv_cells, wv_fold, *]
    | refine vcall_q (fun w hs => p_May b w) ?_
    | refine qcall_q (fun w hs => p_May b w) ?_
    | refine vcall_q (fun w hs => p_place b x b.H (by omega) (by omega) (by omega) w) ?_
    | refine qcall_q (fun w hs => p_place b x b.H (by omega) (by omega) (by omega) w) ?_
    | (intro xb hl hf; try simp only [NotIn] at hf)
    | refine And.intro (fun hc => ?_) (fun hc => ?_)
    | refine ends_q ?_
    | exact wv_fold _
    | (refine And.intro (by first | omega | (simp only [*]; omega)) ?_))
      simp [topV, hm, hx]
    · repeat' (first
    | (simp only [↓exP, ↓exQ, ↓need_ite, ↓need_ite', ↓exA, exB, exC, reduceIte, Nat.reduceEqDiff, Nat.reduceAdd, Nat.reduceSub, Nat.reduceMul, Nat.reduceLeDiff, Nat.reduceLT, Int.reduceToNat, Int.reduceBEq, Int.reduceBNe, Int.reduceLT, Int.reduceLE, Int.reduceEq, Int.reduceNeg, decide_true, decide_false, rd1_own, rd_own, hset_notIn, need_ite, need_ite', map_ite, s100, bdv_cells, wv_fold, *]; done)
    | simp only [↓exP, ↓exQ, ↓need_ite, ↓need_ite', ↓exA, exB, exC, reduceIte, Nat.reduceEqDiff, Nat.reduceAdd, Nat.reduceSub, Nat.reduceMul, Nat.reduceLeDiff, Nat.reduceLT, Int.reduceToNat, Int.reduceBEq, Int.reduceBNe, Int.reduceLT, Int.reduceLE, Int.reduceEq, Int.reduceNeg, decide_true, decide_false, rd1_own, rd_own, hset_notIn, need_ite, need_ite', map_ite, s100, bdv_cells, wv_fold, *]
    | refine vcall_q (fun w hs => p_May b w) ?_
    | refine qcall_q (fun w hs => p_May b w) ?_
    | refine vcall_q (fun w hs => p_place b x b.H (by omega) (by omega) (by omega) w) ?_
    | refine qcall_q (fun w hs => p_place b x b.H (by omega) (by omega) (by omega) w) ?_
    | (intro xb hl hf; try simp only [NotIn] at hf)
    | refine And.intro (fun hc => ?_) (fun hc => ?_)
    | refine ends_q ?_
    | exact wv_fold _
    | (refine And.intro (by first | omega | (simp only [*]; omega)) ?_))
      all_goals first
        | (exfalso; omega)
        | (simp only [topV, hm, hx, if_true, if_false])
  · repeat' (first
    | (simp only [↓exP, ↓exQ, ↓need_ite, ↓need_ite', ↓exA, exB, exC, reduceIte, Nat.reduceEqDiff, Nat.reduceAdd, Nat.reduceSub, Nat.reduceMul, Nat.reduceLeDiff, Nat.reduceLT, Int.reduceToNat, Int.reduceBEq, Int.reduceBNe, Int.reduceLT, Int.reduceLE, Int.reduceEq, Int.reduceNeg, decide_true, decide_false, rd1_own, rd_own, hset_notIn, need_ite, need_ite', map_ite, s100, bdv_cells, wv_fold, *]; done)
    | simp only [↓exP, ↓exQ, ↓need_ite, ↓need_ite', ↓exA, exB, exC, reduceIte, Nat.reduceEqDiff, Nat.reduceAdd, Nat.reduceSub, Nat.reduceMul, Nat.reduceLeDiff, Nat.reduceLT, Int.reduceToNat, Int.reduceBEq, Int.reduceBNe, Int.reduceLT, Int.reduceLE, Int.reduceEq, Int.reduceNeg, decide_true, decide_false, rd1_own, rd_own, hset_notIn, need_ite, need_ite', map_ite, s100, bdv_cells, wv_fold, *]
    | refine vcall_q (fun w hs => p_May b w) ?_
    | refine qcall_q (fun w hs => p_May b w) ?_
    | (intro xb hl hf; try simp only [NotIn] at hf)
    | refine And.intro (fun hc => ?_) (fun hc => ?_)
    | refine ends_q ?_
    | exact wv_fold _
    | (refine And.intro (by first | omega | (simp only [*]; omega)) ?_))
    simp [topV, hm]
def s83 : SFun := ⟨[], 40, [(.cell 4 49)], (.seq (.reg [⟨none, (.box 2 (.tmp 0))⟩, ⟨none, (.alloc 4 [(.int .u64 0), (.int .u64 0)])⟩]) (.seq (.reg [⟨none, (.pure 7 (.build [(.int .u64 0), (.int .u64 0)] []) [])⟩, ⟨none, (.alloc 5 [(.int .u64 0), (.int .u64 0)])⟩, ⟨none, (.storeN (.tmp 5) (.tmp 7) 2)⟩]) (.seq (.seq (.reg [⟨none, (.loadN 8 (.tmp 2) 2)⟩, ⟨none, (.call (some 9) (.func 56) [(.tmp 8)])⟩, ⟨none, (.pure 10 (.un .not) [(.tmp 9)])⟩, ⟨none, (.pure 11 .mv [(.tmp 10)])⟩, ⟨(some (11, false)), (.pure 12 .mv [(.tmp 1)])⟩, ⟨(some (11, false)), (.pure 13 (.bin .lss) [(.tmp 12), (.const (.int .i64 0))])⟩, ⟨none, (.pure 14 .pick [(.tmp 11), (.const (.bool true)), (.tmp 13)])⟩, ⟨none, (.pure 15 .mv [(.tmp 14)])⟩, ⟨(some (15, false)), (.pure 16 .mv [(.tmp 1)])⟩, ⟨(some (15, false)), (.pure 17 (.fad 1) [(.tmp 2)])⟩, ⟨(some (15, false)), (.load1 18 (.tmp 17))⟩, ⟨(some (15, false)), (.pure 19 (.bin .gtr) [(.tmp 16), (.tmp 18)])⟩, ⟨none, (.pure 20 .pick [(.tmp 15), (.const (.bool true)), (.tmp 19)])⟩]) (.cond (.tmp 20) (.seq (.reg [⟨none, (.loadN 21 (.tmp 5) 2)⟩, ⟨none, (.storeN (.tmp 4) (.tmp 21) 2)⟩]) .ret) .skip)) (.seq (.seq (.reg [⟨none, (.pure 22 (.fad 0) [(.tmp 2)])⟩, ⟨none, (.load1 23 (.tmp 22))⟩, ⟨none, (.pure 24 .mv [(.const (.int .i64 0))])⟩]) (.block 0 (.loop (.seq (.reg [⟨none, (.pure 25 (.bin .lss) [(.tmp 24), (.tmp 23)])⟩]) (.seq (.cond (.tmp 25) .skip (.exit 0)) (.seq (.block 1 (.seq (.reg [⟨none, (.pure 26 .mv [(.tmp 24)])⟩, ⟨none, (.pure 6 .mv [(.tmp 26)])⟩]) (.draw ⟨[(⟨none, (.loadN 27 (.tmp 5) 2)⟩, false), (⟨none, (.pure 28 .mv [(.tmp 6)])⟩, false), (⟨none, (.pure 29 (.fad 1) [(.tmp 2)])⟩, false), (⟨none, (.load1 30 (.tmp 29))⟩, false), (⟨none, (.pure 31 (.bin .add) [(.tmp 30), (.const (.int .i64 1))])⟩, false), (⟨none, (.pure 32 (.bin .mul) [(.tmp 28), (.tmp 31)])⟩, false), (⟨none, (.pure 33 .mv [(.tmp 1)])⟩, false), (⟨none, (.pure 34 (.bin .add) [(.tmp 32), (.tmp 33)])⟩, false)], [⟨none, (.bslice 35 1 [(.int .i64 0)] [(0, 1)] [(.tmp 34)])⟩, ⟨none, (.call (some 36) (.func 98) [(.tmp 35)])⟩, ⟨none, (.call (some 37) (.func 61) [(.tmp 27), (.tmp 36)])⟩], none, [⟨none, (.storeN (.tmp 5) (.tmp 37) 2)⟩]⟩))) (.reg [⟨none, (.pure 38 (.bin .add) [(.tmp 24), (.const (.int .i64 1))])⟩, ⟨none, (.pure 24 .mv [(.tmp 38)])⟩]))))))) (.seq (.reg [⟨none, (.loadN 39 (.tmp 5) 2)⟩, ⟨none, (.storeN (.tmp 4) (.tmp 39) 2)⟩]) .ret)))))⟩
theorem s83_ok : cFun Try.prog [] Try.f83 = some s83 := by kernel_rfl
theorem hb83 : HasBody Try.prog 83 := ⟨_, Try.func83, by kernel_rfl, by kernel_rfl⟩
set_option maxHeartbeats 1000000 in
theorem p_each (b : Bd) (y : Int) : PF Try.prog 83 [bdv b, .int .i64 y] (wv (eachB b y)) := by
  intro w
  refine quiet Try.func83 (by kernel_rfl) (by kernel_rfl) s83_ok (by kernel_rfl) ?_
  rcases Decidable.em (mayB b = true ∧ 0 ≤ y ∧ y ≤ b.H) with hm | hm
  · obtain ⟨h1, h2, h3⟩ := hm
    have hb := mayB_iff.1 h1
    have e1 : ¬ y < 0 := by omega
    have e2 : ¬ b.H < y := by omega
    simp only [↓exP, ↓exQ, ↓need_ite, ↓need_ite', ↓exA, exB, exC, reduceIte, Nat.reduceEqDiff, Nat.reduceAdd, Nat.reduceSub, Nat.reduceMul, Nat.reduceLeDiff, Nat.reduceLT, Int.reduceToNat, Int.reduceBEq, Int.reduceBNe, Int.reduceLT, Int.reduceLE, Int.reduceEq, Int.reduceNeg, decide_true, decide_false, rd1_own, rd_own, hset_notIn, need_ite, need_ite', map_ite, s83, bdv_cells]
    intro b2 lb2 fb2; try simp only [NotIn] at fb2
    simp only [↓exP, ↓exQ, ↓need_ite, ↓need_ite', ↓exA, exB, exC, reduceIte, Nat.reduceEqDiff, Nat.reduceAdd, Nat.reduceSub, Nat.reduceMul, Nat.reduceLeDiff, Nat.reduceLT, Int.reduceToNat, Int.reduceBEq, Int.reduceBNe, Int.reduceLT, Int.reduceLE, Int.reduceEq, Int.reduceNeg, decide_true, decide_false, rd1_own, rd_own, hset_notIn, need_ite, need_ite', map_ite]
    intro b4 lb4 fb4; try simp only [NotIn] at fb4
    simp only [↓exP, ↓exQ, ↓need_ite, ↓need_ite', ↓exA, exB, exC, reduceIte, Nat.reduceEqDiff, Nat.reduceAdd, Nat.reduceSub, Nat.reduceMul, Nat.reduceLeDiff, Nat.reduceLT, Int.reduceToNat, Int.reduceBEq, Int.reduceBNe, Int.reduceLT, Int.reduceLE, Int.reduceEq, Int.reduceNeg, decide_true, decide_false, rd1_own, rd_own, hset_notIn, need_ite, need_ite', map_ite]
    intro b5 lb5 fb5; try simp only [NotIn] at fb5
    simp only [↓exP, ↓exQ, ↓need_ite, ↓need_ite', ↓exA, exB, exC, reduceIte, Nat.reduceEqDiff, Nat.reduceAdd, Nat.reduceSub, Nat.reduceMul, Nat.reduceLeDiff, Nat.reduceLT, Int.reduceToNat, Int.reduceBEq, Int.reduceBNe, Int.reduceLT, Int.reduceLE, Int.reduceEq, Int.reduceNeg, decide_true, decide_false, rd1_own, rd_own, hset_notIn, need_ite, need_ite', map_ite, lb2, lb4, lb5, fb2, fb4, fb5]
    refine vcall_q (fun w hs => p_May b w) ?_
    simp only [↓exP, ↓exQ, ↓need_ite, ↓need_ite', ↓exA, exB, exC, reduceIte, Nat.reduceEqDiff, Nat.reduceAdd, Nat.reduceSub, Nat.reduceMul, Nat.reduceLeDiff, Nat.reduceLT, Int.reduceToNat, Int.reduceBEq, Int.reduceBNe, Int.reduceLT, Int.reduceLE, Int.reduceEq, Int.reduceNeg, decide_true, decide_false, rd1_own, rd_own, hset_notIn, need_ite, need_ite', map_ite, h1, e1, e2, lb2, lb4, lb5, fb2, fb4, fb5]
    refine SWS.loop (σ := Nat) 0 (fun i => (i : Int) ≤ b.W) (fun i => [(1, .int .i64 y), (2, .pointer (some ⟨b2, 0, none⟩)), (4, .pointer (some ⟨b4, 0, none⟩)), (5, .pointer (some ⟨b5, 0, none⟩)), (23, .int .i64 b.W), (24, .int .i64 (i : Nat))])
      (fun i => [(b5, .cells (wv (rowB b y i)).cells.toList 2), (b4, .cells [.int .u64 0, .int .u64 0] 2), (b2, .cells [.int .i64 b.W, .int .i64 b.H] 2)]) (fun i => b.W.toNat - i) (by omega) ?_ ?_ ?_
    · simp [subR, lk]
    · have : (wv (rowB b y 0)).cells.toList = [.int .u64 0, .int .u64 0] := by kernel_rfl
      rw [this]; repeat (first | exact sub_refl _ | exact sub_nil _ | (refine sub_cons (by simp only [List.mem_cons, true_or, or_true]) ?_) | refine sub_tail ?_)
    · intro i hi
      have e3 : IntKind.i64.wrap (b.H + 1) = b.H + 1 := wrap64 _ (by omega)
      have e7 := mul_bd (x := (i : Int)) (h := b.H + 1) (A := 8) (B := 9) (by omega) (by omega)
      have e4 : IntKind.i64.wrap ((i : Int) * (b.H + 1)) = (i : Int) * (b.H + 1) := wrap64 _ (by omega)
      have e5 : IntKind.i64.wrap ((i : Int) * (b.H + 1) + y) = (i : Int) * (b.H + 1) + y := wrap64 _ (by omega)
      have e6 : IntKind.i64.wrap ((i : Int) + 1) = ((i + 1 : Nat) : Int) := by rw [wrap64 _ (by omega)]; omega
      simp only [↓exP, ↓exQ, ↓need_ite, ↓need_ite', ↓exA, exB, exC, reduceIte, Nat.reduceEqDiff, Nat.reduceAdd, Nat.reduceSub, Nat.reduceMul, Nat.reduceLeDiff, Nat.reduceLT, Int.reduceToNat, Int.reduceBEq, Int.reduceBNe, Int.reduceLT, Int.reduceLE, Int.reduceEq, Int.reduceNeg, decide_true, decide_false, rd1_own, rd_own, hset_notIn, need_ite, need_ite', map_ite, wv_cells, lb2, lb4, lb5, fb2, fb4, fb5, e3, e4, e5, e6]
      refine ⟨fun g1 => ?_, fun g1 => ?_⟩
      · intro b6 lb6 fb6; try simp only [NotIn] at fb6
        simp only [↓exP, ↓exQ, ↓need_ite, ↓need_ite', ↓exA, exB, exC, reduceIte, Nat.reduceEqDiff, Nat.reduceAdd, Nat.reduceSub, Nat.reduceMul, Nat.reduceLeDiff, Nat.reduceLT, Int.reduceToNat, Int.reduceBEq, Int.reduceBNe, Int.reduceLT, Int.reduceLE, Int.reduceEq, Int.reduceNeg, decide_true, decide_false, rd1_own, rd_own, hset_notIn, need_ite, need_ite', map_ite, wv_cells, lb2, lb4, lb5, lb6, fb2, fb4, fb5, fb6, e3, e4, e5, e6]
        refine qcall_q (fun w hs => p_Of1 hs (hget_here _ _ _)) ?_
        simp only [↓exP, ↓exQ, ↓need_ite, ↓need_ite', ↓exA, exB, exC, reduceIte, Nat.reduceEqDiff, Nat.reduceAdd, Nat.reduceSub, Nat.reduceMul, Nat.reduceLeDiff, Nat.reduceLT, Int.reduceToNat, Int.reduceBEq, Int.reduceBNe, Int.reduceLT, Int.reduceLE, Int.reduceEq, Int.reduceNeg, decide_true, decide_false, rd1_own, rd_own, hset_notIn, need_ite, need_ite', map_ite]
        refine qcall_q (fun w hs => p_Or (rowB b y i) _ w) ?_
        simp only [↓exP, ↓exQ, ↓need_ite, ↓need_ite', ↓exA, exB, exC, reduceIte, Nat.reduceEqDiff, Nat.reduceAdd, Nat.reduceSub, Nat.reduceMul, Nat.reduceLeDiff, Nat.reduceLT, Int.reduceToNat, Int.reduceBEq, Int.reduceBNe, Int.reduceLT, Int.reduceLE, Int.reduceEq, Int.reduceNeg, decide_true, decide_false, rd1_own, rd_own, hset_notIn, need_ite, need_ite', map_ite, wv_cells, lb2, lb4, lb5, lb6, fb2, fb4, fb5, fb6, e6]
        refine ⟨i + 1, ⟨by omega, by omega⟩, by simp [subR, lk], ?_⟩
        rw [rowB_succ]
        repeat (first | exact sub_refl _ | exact sub_nil _ | (refine sub_cons (by simp only [List.mem_cons, true_or, or_true]) ?_) | refine sub_tail ?_)
      · simp only [↓exP, ↓exQ, ↓need_ite, ↓need_ite', ↓exA, exB, exC, reduceIte, Nat.reduceEqDiff, Nat.reduceAdd, Nat.reduceSub, Nat.reduceMul, Nat.reduceLeDiff, Nat.reduceLT, Int.reduceToNat, Int.reduceBEq, Int.reduceBNe, Int.reduceLT, Int.reduceLE, Int.reduceEq, Int.reduceNeg, decide_true, decide_false, rd1_own, rd_own, hset_notIn, need_ite, need_ite', map_ite, wv_cells, lb2, lb4, lb5, fb2, fb4, fb5, resV_cellN ti49]
        refine ends_q ?_
        have e8 : b.W.toNat = i := by omega
        rw [eachB, if_pos ⟨h1, h2, h3⟩, e8]
        rfl
  · have hz : eachB b y = 0 := if_neg hm
    rw [hz, ← wv_zero]
    rcases Bool.eq_false_or_eq_true (mayB b) with h1 | h1
    · rcases Int.lt_or_le y 0 with h2 | h2
      · repeat' (first
    | (simp only [↓exP, ↓exQ, ↓need_ite, ↓need_ite', ↓exA, exB, exC, reduceIte, Nat.reduceEqDiff, Nat.reduceAdd, Nat.reduceSub, Nat.reduceMul, Nat.reduceLeDiff, Nat.reduceLT, Int.reduceToNat, Int.reduceBEq, Int.reduceBNe, Int.reduceLT, Int.reduceLE, Int.reduceEq, Int.reduceNeg, decide_true, decide_false, rd1_own, rd_own, hset_notIn, need_ite, need_ite', map_ite, s83, resV_cellN ti49, bdv_cells, wv_fold, *]; done)
    | simp only [↓exP, ↓exQ, ↓need_ite, ↓need_ite', ↓exA, exB, exC, reduceIte, Nat.reduceEqDiff, Nat.reduceAdd, Nat.reduceSub, Nat.reduceMul, Nat.reduceLeDiff, Nat.reduceLT, Int.reduceToNat, Int.reduceBEq, Int.reduceBNe, Int.reduceLT, Int.reduceLE, Int.reduceEq, Int.reduceNeg, decide_true, decide_false, rd1_own, rd_own, hset_notIn, need_ite, need_ite', map_ite, s83, resV_cellN ti49, bdv_cells, wv_fold, *]
    | refine vcall_q (fun w hs => p_May b w) ?_
    | refine qcall_q (fun w hs => p_May b w) ?_
    | (intro xb hl hf; try simp only [NotIn] at hf)
    | refine And.intro (fun hc => ?_) (fun hc => ?_)
    | refine ends_q ?_
    | exact wv_fold _
    | (refine And.intro (by first | omega | (simp only [*]; omega)) ?_))
      · have h3 : b.H < y := by have : ¬ y ≤ b.H := fun h => hm ⟨h1, h2, h⟩; omega
        have h4 : ¬ y < 0 := by omega
        clear hm hz
        repeat' (first
    | (simp only [↓exP, ↓exQ, ↓need_ite, ↓need_ite', ↓exA, exB, exC, reduceIte, Nat.reduceEqDiff, Nat.reduceAdd, Nat.reduceSub, Nat.reduceMul, Nat.reduceLeDiff, Nat.reduceLT, Int.reduceToNat, Int.reduceBEq, Int.reduceBNe, Int.reduceLT, Int.reduceLE, Int.reduceEq, Int.reduceNeg, decide_true, decide_false, rd1_own, rd_own, hset_notIn, need_ite, need_ite', map_ite, s83, resV_cellN ti49, bdv_cells, wv_fold, *]; done)
    | simp only [↓exP, ↓exQ, ↓need_ite, ↓need_ite', ↓exA, exB, exC, reduceIte, Nat.reduceEqDiff, Nat.reduceAdd, Nat.reduceSub, Nat.reduceMul, Nat.reduceLeDiff, Nat.reduceLT, Int.reduceToNat, Int.reduceBEq, Int.reduceBNe, Int.reduceLT, Int.reduceLE, Int.reduceEq, Int.reduceNeg, decide_true, decide_false, rd1_own, rd_own, hset_notIn, need_ite, need_ite', map_ite, s83, resV_cellN ti49, bdv_cells, wv_fold, *]
    | refine vcall_q (fun w hs => p_May b w) ?_
    | refine qcall_q (fun w hs => p_May b w) ?_
    | (intro xb hl hf; try simp only [NotIn] at hf)
    | refine And.intro (fun hc => ?_) (fun hc => ?_)
    | refine ends_q ?_
    | exact wv_fold _
    | (refine And.intro (by first | omega | (simp only [*]; omega)) ?_))
    · clear hm hz
      repeat' (first
    | (simp only [↓exP, ↓exQ, ↓need_ite, ↓need_ite', ↓exA, exB, exC, reduceIte, Nat.reduceEqDiff, Nat.reduceAdd, Nat.reduceSub, Nat.reduceMul, Nat.reduceLeDiff, Nat.reduceLT, Int.reduceToNat, Int.reduceBEq, Int.reduceBNe, Int.reduceLT, Int.reduceLE, Int.reduceEq, Int.reduceNeg, decide_true, decide_false, rd1_own, rd_own, hset_notIn, need_ite, need_ite', map_ite, s83, resV_cellN ti49, bdv_cells, wv_fold, *]; done)
    | simp only [↓exP, ↓exQ, ↓need_ite, ↓need_ite', ↓exA, exB, exC, reduceIte, Nat.reduceEqDiff, Nat.reduceAdd, Nat.reduceSub, Nat.reduceMul, Nat.reduceLeDiff, Nat.reduceLT, Int.reduceToNat, Int.reduceBEq, Int.reduceBNe, Int.reduceLT, Int.reduceLE, Int.reduceEq, Int.reduceNeg, decide_true, decide_false, rd1_own, rd_own, hset_notIn, need_ite, need_ite', map_ite, s83, resV_cellN ti49, bdv_cells, wv_fold, *]
    | refine vcall_q (fun w hs => p_May b w) ?_
    | refine qcall_q (fun w hs => p_May b w) ?_
    | (intro xb hl hf; try simp only [NotIn] at hf)
    | refine And.intro (fun hc => ?_) (fun hc => ?_)
    | refine ends_q ?_
    | exact wv_fold _
    | (refine And.intro (by first | omega | (simp only [*]; omega)) ?_))
def s82 : SFun := ⟨[], 7, [(.cell 2 49)], (.seq (.reg [⟨none, (.box 1 (.tmp 0))⟩, ⟨none, (.alloc 2 [(.int .u64 0), (.int .u64 0)])⟩]) (.seq (.reg [⟨none, (.loadN 3 (.tmp 1) 2)⟩, ⟨none, (.pure 4 (.fad 1) [(.tmp 1)])⟩, ⟨none, (.load1 5 (.tmp 4))⟩, ⟨none, (.call (some 6) (.func 83) [(.tmp 3), (.tmp 5)])⟩, ⟨none, (.storeN (.tmp 2) (.tmp 6) 2)⟩]) .ret))⟩
theorem s82_ok : cFun Try.prog [] Try.f82 = some s82 := by kernel_rfl
theorem hb82 : HasBody Try.prog 82 := ⟨_, Try.func82, by kernel_rfl, by kernel_rfl⟩
theorem p_Tops (b : Bd) : PF Try.prog 82 [bdv b] (wv (eachB b b.H)) := by
  intro w
  refine quiet Try.func82 (by kernel_rfl) (by kernel_rfl) s82_ok (by kernel_rfl) ?_
  repeat' (first
    | (simp only [↓exP, ↓exQ, ↓need_ite, ↓need_ite', ↓exA, exB, exC, reduceIte, Nat.reduceEqDiff, Nat.reduceAdd, Nat.reduceSub, Nat.reduceMul, Nat.reduceLeDiff, Nat.reduceLT, Int.reduceToNat, Int.reduceBEq, Int.reduceBNe, Int.reduceLT, Int.reduceLE, Int.reduceEq, Int.reduceNeg, decide_true, decide_false, rd1_own, rd_own, hset_notIn, need_ite, need_ite', map_ite, s82, resV_cellN ti49, bdv_cells, wv_cells, wv_fold, *]; done)
    | simp only [↓exP, ↓exQ, ↓need_ite, ↓need_ite', ↓exA, exB, exC, reduceIte, Nat.reduceEqDiff, Nat.reduceAdd, Nat.reduceSub, Nat.reduceMul, Nat.reduceLeDiff, Nat.reduceLT, Int.reduceToNat, Int.reduceBEq, Int.reduceBNe, Int.reduceLT, Int.reduceLE, Int.reduceEq, Int.reduceNeg, decide_true, decide_false, rd1_own, rd_own, hset_notIn, need_ite, need_ite', map_ite, s82, resV_cellN ti49, bdv_cells, wv_cells, wv_fold, *]
    | refine vcall_q (fun w hs => p_each b _ w) ?_
    | refine qcall_q (fun w hs => p_each b _ w) ?_
    | (intro xb hl hf; try simp only [NotIn] at hf)
    | refine And.intro (fun hc => ?_) (fun hc => ?_)
    | refine ends_q ?_
    | exact wv_fold _
    | (refine And.intro (by first | omega | (simp only [*]; omega)) ?_))
def s58 : SFun := ⟨[], 5, [(.cell 2 49)], (.seq (.reg [⟨none, (.box 1 (.tmp 0))⟩, ⟨none, (.alloc 2 [(.int .u64 0), (.int .u64 0)])⟩]) (.seq (.reg [⟨none, (.loadN 3 (.tmp 1) 2)⟩, ⟨none, (.call (some 4) (.func 83) [(.tmp 3), (.const (.int .i64 0))])⟩, ⟨none, (.storeN (.tmp 2) (.tmp 4) 2)⟩]) .ret))⟩
theorem s58_ok : cFun Try.prog [] Try.f58 = some s58 := by kernel_rfl
theorem hb58 : HasBody Try.prog 58 := ⟨_, Try.func58, by kernel_rfl, by kernel_rfl⟩
theorem p_Bottom (b : Bd) : PF Try.prog 58 [bdv b] (wv (eachB b 0)) := by
  intro w
  refine quiet Try.func58 (by kernel_rfl) (by kernel_rfl) s58_ok (by kernel_rfl) ?_
  repeat' (first
    | (simp only [↓exP, ↓exQ, ↓need_ite, ↓need_ite', ↓exA, exB, exC, reduceIte, Nat.reduceEqDiff, Nat.reduceAdd, Nat.reduceSub, Nat.reduceMul, Nat.reduceLeDiff, Nat.reduceLT, Int.reduceToNat, Int.reduceBEq, Int.reduceBNe, Int.reduceLT, Int.reduceLE, Int.reduceEq, Int.reduceNeg, decide_true, decide_false, rd1_own, rd_own, hset_notIn, need_ite, need_ite', map_ite, s58, resV_cellN ti49, bdv_cells, wv_cells, wv_fold, *]; done)
    | simp only [↓exP, ↓exQ, ↓need_ite, ↓need_ite', ↓exA, exB, exC, reduceIte, Nat.reduceEqDiff, Nat.reduceAdd, Nat.reduceSub, Nat.reduceMul, Nat.reduceLeDiff, Nat.reduceLT, Int.reduceToNat, Int.reduceBEq, Int.reduceBNe, Int.reduceLT, Int.reduceLE, Int.reduceEq, Int.reduceNeg, decide_true, decide_false, rd1_own, rd_own, hset_notIn, need_ite, need_ite', map_ite, s58, resV_cellN ti49, bdv_cells, wv_cells, wv_fold, *]
    | refine vcall_q (fun w hs => p_each b _ w) ?_
    | refine qcall_q (fun w hs => p_each b _ w) ?_
    | (intro xb hl hf; try simp only [NotIn] at hf)
    | refine And.intro (fun hc => ?_) (fun hc => ?_)
    | refine ends_q ?_
    | exact wv_fold _
    | (refine And.intro (by first | omega | (simp only [*]; omega)) ?_))
def s57 : SFun := ⟨[], 8, [(.cell 2 49)], (.seq (.reg [⟨none, (.box 1 (.tmp 0))⟩, ⟨none, (.alloc 2 [(.int .u64 0), (.int .u64 0)])⟩]) (.seq (.draw ⟨[(⟨none, (.loadN 3 (.tmp 1) 2)⟩, false), (⟨none, (.call (some 4) (.func 82) [(.tmp 3)])⟩, false), (⟨none, (.loadN 5 (.tmp 1) 2)⟩, false), (⟨none, (.call (some 6) (.func 58) [(.tmp 5)])⟩, false), (⟨none, (.call (some 7) (.func 81) [(.tmp 4), (.tmp 6)])⟩, false)], [], none, [⟨none, (.storeN (.tmp 2) (.tmp 7) 2)⟩]⟩) .ret))⟩
theorem s57_ok : cFun Try.prog [] Try.f57 = some s57 := by kernel_rfl
theorem hb57 : HasBody Try.prog 57 := ⟨_, Try.func57, by kernel_rfl, by kernel_rfl⟩
theorem p_Full (b : Bd) : PF Try.prog 57 [bdv b] (wv (fullB b)) := by
  intro w
  refine quiet Try.func57 (by kernel_rfl) (by kernel_rfl) s57_ok (by kernel_rfl) ?_
  repeat' (first
    | (simp only [↓exP, ↓exQ, ↓need_ite, ↓need_ite', ↓exA, exB, exC, reduceIte, Nat.reduceEqDiff, Nat.reduceAdd, Nat.reduceSub, Nat.reduceMul, Nat.reduceLeDiff, Nat.reduceLT, Int.reduceToNat, Int.reduceBEq, Int.reduceBNe, Int.reduceLT, Int.reduceLE, Int.reduceEq, Int.reduceNeg, decide_true, decide_false, rd1_own, rd_own, hset_notIn, need_ite, need_ite', map_ite, s57, resV_cellN ti49, bdv_cells, wv_cells, wv_fold, *]; done)
    | simp only [↓exP, ↓exQ, ↓need_ite, ↓need_ite', ↓exA, exB, exC, reduceIte, Nat.reduceEqDiff, Nat.reduceAdd, Nat.reduceSub, Nat.reduceMul, Nat.reduceLeDiff, Nat.reduceLT, Int.reduceToNat, Int.reduceBEq, Int.reduceBNe, Int.reduceLT, Int.reduceLE, Int.reduceEq, Int.reduceNeg, decide_true, decide_false, rd1_own, rd_own, hset_notIn, need_ite, need_ite', map_ite, s57, resV_cellN ti49, bdv_cells, wv_cells, wv_fold, *]
    | refine vcall_q (fun w hs => p_Tops b w) ?_
    | refine qcall_q (fun w hs => p_Tops b w) ?_
    | refine vcall_q (fun w hs => p_Bottom b w) ?_
    | refine qcall_q (fun w hs => p_Bottom b w) ?_
    | refine vcall_q (fun w hs => p_Sub (eachB b b.H) (eachB b 0) w) ?_
    | refine qcall_q (fun w hs => p_Sub (eachB b b.H) (eachB b 0) w) ?_
    | (intro xb hl hf; try simp only [NotIn] at hf)
    | refine And.intro (fun hc => ?_) (fun hc => ?_)
    | refine ends_q ?_
    | exact wv_fold _
    | (refine And.intro (by first | omega | (simp only [*]; omega)) ?_))
def s86 : SFun := ⟨[], 26, [(.cell 4 49)], (.seq (.reg [⟨none, (.box 2 (.tmp 0))⟩, ⟨none, (.alloc 4 [(.int .u64 0), (.int .u64 0)])⟩]) (.seq (.reg [⟨none, (.loadN 8 (.tmp 2) 2)⟩, ⟨none, (.pure 9 .mv [(.tmp 1)])⟩, ⟨none, (.call (some 10) (.func 100) [(.tmp 8), (.tmp 9)])⟩, ⟨none, (.pure 7 .mv [(.tmp 10)])⟩, ⟨none, (.pure 11 (.ext 0) [(.tmp 7)])⟩, ⟨none, (.pure 12 (.ext 1) [(.tmp 7)])⟩, ⟨none, (.pure 5 .mv [(.tmp 11)])⟩, ⟨none, (.pure 6 .mv [(.tmp 12)])⟩]) (.seq (.seq (.reg [⟨none, (.pure 13 .mv [(.tmp 6)])⟩, ⟨none, (.pure 14 (.bin .neq) [(.tmp 13), (.const (.int .i64 0))])⟩]) (.cond (.tmp 14) (.seq (.reg [⟨none, (.pure 15 (.build [(.int .u64 0), (.int .u64 0)] []) [])⟩, ⟨none, (.storeN (.tmp 4) (.tmp 15) 2)⟩]) .ret) .skip)) (.seq (.draw ⟨[(⟨none, (.pure 16 .mv [(.tmp 5)])⟩, false), (⟨none, (.pure 19 .mv [(.tmp 5)])⟩, false), (⟨none, (.pure 20 (.fad 1) [(.tmp 2)])⟩, false), (⟨none, (.load1 21 (.tmp 20))⟩, false), (⟨none, (.pure 22 (.bin .sub) [(.tmp 19), (.tmp 21)])⟩, false)], [⟨none, (.bslice 17 1 [(.int .i64 0)] [(0, 1)] [(.tmp 16)])⟩, ⟨none, (.call (some 18) (.func 98) [(.tmp 17)])⟩, ⟨none, (.bslice 23 1 [(.int .i64 0)] [(0, 1)] [(.tmp 22)])⟩, ⟨none, (.call (some 24) (.func 98) [(.tmp 23)])⟩, ⟨none, (.call (some 25) (.func 81) [(.tmp 18), (.tmp 24)])⟩], none, [⟨none, (.storeN (.tmp 4) (.tmp 25) 2)⟩]⟩) .ret))))⟩
theorem s86_ok : cFun Try.prog [] Try.f86 = some s86 := by kernel_rfl
theorem hb86 : HasBody Try.prog 86 := ⟨_, Try.func86, by kernel_rfl, by kernel_rfl⟩
theorem p_Column (b : Bd) (x : Int) : PF Try.prog 86 [bdv b, .int .i64 x] (wv (colB b x)) := by
  intro w
  refine quiet Try.func86 (by kernel_rfl) (by kernel_rfl) s86_ok (by kernel_rfl) ?_
  rcases Bool.eq_false_or_eq_true (mayB b) with h1 | h1
  · rcases Decidable.em (0 ≤ x ∧ x < b.W) with h2 | h2
    · have hb := mayB_iff.1 h1
      have e1 : topV b x = .tuple #[.int .i64 (x * (b.H + 1) + b.H), .int .i64 0] := by simp only [topV, h1, h2, if_true, and_self]
      have e2 : colB b x = bitZ (x * (b.H + 1) + b.H) - bitZ (x * (b.H + 1)) := if_pos ⟨h1, h2⟩
      have e7 := mul_bd (x := x) (h := b.H + 1) (A := 8) (B := 9) (by omega) (by omega)
      have e3 : IntKind.i64.wrap (x * (b.H + 1) + b.H - b.H) = x * (b.H + 1) := by rw [wrap64 _ (by omega)]; omega
      rw [e2]
      clear h1 h2 e2 hb e7
      repeat' (first
    | (simp only [↓exP, ↓exQ, ↓need_ite, ↓need_ite', ↓exA, exB, exC, reduceIte, Nat.reduceEqDiff, Nat.reduceAdd, Nat.reduceSub, Nat.reduceMul, Nat.reduceLeDiff, Nat.reduceLT, Int.reduceToNat, Int.reduceBEq, Int.reduceBNe, Int.reduceLT, Int.reduceLE, Int.reduceEq, Int.reduceNeg, decide_true, decide_false, rd1_own, rd_own, hset_notIn, need_ite, need_ite', map_ite, s86, resV_cellN ti49, bdv_cells, wv_cells, wv_fold, *]; done)
    | simp only [↓exP, ↓exQ, ↓need_ite, ↓need_ite', ↓exA, exB, exC, reduceIte, Nat.reduceEqDiff, Nat.reduceAdd, Nat.reduceSub, Nat.reduceMul, Nat.reduceLeDiff, Nat.reduceLT, Int.reduceToNat, Int.reduceBEq, Int.reduceBNe, Int.reduceLT, Int.reduceLE, Int.reduceEq, Int.reduceNeg, decide_true, decide_false, rd1_own, rd_own, hset_notIn, need_ite, need_ite', map_ite, s86, resV_cellN ti49, bdv_cells, wv_cells, wv_fold, *]
    | refine vcall_q (fun w hs => p_Top b x w) ?_
    | refine qcall_q (fun w hs => p_Top b x w) ?_
    | refine vcall_q (fun w hs => p_Of1 hs (hget_here _ _ _)) ?_
    | refine qcall_q (fun w hs => p_Of1 hs (hget_here _ _ _)) ?_
    | refine vcall_q (fun w hs => p_Sub (bitZ (x * (b.H + 1) + b.H)) (bitZ (x * (b.H + 1))) w) ?_
    | refine qcall_q (fun w hs => p_Sub (bitZ (x * (b.H + 1) + b.H)) (bitZ (x * (b.H + 1))) w) ?_
    | (intro xb hl hf; try simp only [NotIn] at hf)
    | refine And.intro (fun hc => ?_) (fun hc => ?_)
    | refine ends_q ?_
    | exact wv_fold _
    | (refine And.intro (by first | omega | (simp only [*]; omega)) ?_))
    · have e1 : topV b x = .tuple #[.int .i64 0, .int .i64 11] := by simp only [topV, h1, h2, if_true, if_false]
      have e2 : colB b x = 0 := if_neg (fun h => h2 h.2)
      rw [e2, ← wv_zero]
      clear h1 h2 e2
      repeat' (first
    | (simp only [↓exP, ↓exQ, ↓need_ite, ↓need_ite', ↓exA, exB, exC, reduceIte, Nat.reduceEqDiff, Nat.reduceAdd, Nat.reduceSub, Nat.reduceMul, Nat.reduceLeDiff, Nat.reduceLT, Int.reduceToNat, Int.reduceBEq, Int.reduceBNe, Int.reduceLT, Int.reduceLE, Int.reduceEq, Int.reduceNeg, decide_true, decide_false, rd1_own, rd_own, hset_notIn, need_ite, need_ite', map_ite, s86, resV_cellN ti49, bdv_cells, wv_fold, *]; done)
    | simp only [↓exP, ↓exQ, ↓need_ite, ↓need_ite', ↓exA, exB, exC, reduceIte, Nat.reduceEqDiff, Nat.reduceAdd, Nat.reduceSub, Nat.reduceMul, Nat.reduceLeDiff, Nat.reduceLT, Int.reduceToNat, Int.reduceBEq, Int.reduceBNe, Int.reduceLT, Int.reduceLE, Int.reduceEq, Int.reduceNeg, decide_true, decide_false, rd1_own, rd_own, hset_notIn, need_ite, need_ite', map_ite, s86, resV_cellN ti49, bdv_cells, wv_fold, *]
    | refine vcall_q (fun w hs => p_Top b x w) ?_
    | refine qcall_q (fun w hs => p_Top b x w) ?_
    | (intro xb hl hf; try simp only [NotIn] at hf)
    | refine And.intro (fun hc => ?_) (fun hc => ?_)
    | refine ends_q ?_
    | exact wv_fold _
    | (refine And.intro (by first | omega | (simp only [*]; omega)) ?_))
  · have e1 : topV b x = .tuple #[.int .i64 0, .int .i64 10] := by simp [topV, h1]
    have e2 : colB b x = 0 := if_neg (fun h => by rw [h1] at h; exact absurd h.1 (by simp))
    rw [e2, ← wv_zero]
    clear h1 e2
    repeat' (first
    | (simp only [↓exP, ↓exQ, ↓need_ite, ↓need_ite', ↓exA, exB, exC, reduceIte, Nat.reduceEqDiff, Nat.reduceAdd, Nat.reduceSub, Nat.reduceMul, Nat.reduceLeDiff, Nat.reduceLT, Int.reduceToNat, Int.reduceBEq, Int.reduceBNe, Int.reduceLT, Int.reduceLE, Int.reduceEq, Int.reduceNeg, decide_true, decide_false, rd1_own, rd_own, hset_notIn, need_ite, need_ite', map_ite, s86, resV_cellN ti49, bdv_cells, wv_fold, *]; done)
    | simp only [↓exP, ↓exQ, ↓need_ite, ↓need_ite', ↓exA, exB, exC, reduceIte, Nat.reduceEqDiff, Nat.reduceAdd, Nat.reduceSub, Nat.reduceMul, Nat.reduceLeDiff, Nat.reduceLT, Int.reduceToNat, Int.reduceBEq, Int.reduceBNe, Int.reduceLT, Int.reduceLE, Int.reduceEq, Int.reduceNeg, decide_true, decide_false, rd1_own, rd_own, hset_notIn, need_ite, need_ite', map_ite, s86, resV_cellN ti49, bdv_cells, wv_fold, *]
    | refine vcall_q (fun w hs => p_Top b x w) ?_
    | refine qcall_q (fun w hs => p_Top b x w) ?_
    | (intro xb hl hf; try simp only [NotIn] at hf)
    | refine And.intro (fun hc => ?_) (fun hc => ?_)
    | refine ends_q ?_
    | exact wv_fold _
    | (refine And.intro (by first | omega | (simp only [*]; omega)) ?_))
end Go.SL
