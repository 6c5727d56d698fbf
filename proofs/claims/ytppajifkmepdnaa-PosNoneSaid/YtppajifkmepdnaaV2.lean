/- Games cell by cell: what the functions of plummetref06 and plummetref08 come to. -/
import Derived.Test.YtppajifkmepdnaaV1
import Derived.Test.YtppajifkmepdnaaU2
import Derived.Test.YtppajifkmepdnaaM5
set_option linter.unusedSimpArgs false
set_option linter.unusedVariables false
namespace Go.SL
open Go.Proofs
set_option maxRecDepth 8000
def s59 : SFun := ⟨[], 21, [(.tmp 2)], (.seq (.reg [⟨none, (.box 1 (.tmp 0))⟩, ⟨none, (.pure 2 .mv [(.const (.bool false))])⟩]) (.seq (.reg [⟨none, (.pure 3 (.fad 0) [(.tmp 1)])⟩, ⟨none, (.load1 4 (.tmp 3))⟩, ⟨none, (.pure 5 (.bin .geq) [(.tmp 4), (.const (.int .i64 4))])⟩, ⟨none, (.pure 6 .mv [(.tmp 5)])⟩, ⟨(some (6, true)), (.pure 7 (.fad 0) [(.tmp 1)])⟩, ⟨(some (6, true)), (.load1 8 (.tmp 7))⟩, ⟨(some (6, true)), (.pure 9 (.bin .leq) [(.tmp 8), (.const (.int .i64 8))])⟩, ⟨none, (.pure 10 .pick [(.tmp 6), (.tmp 9), (.const (.bool false))])⟩, ⟨none, (.pure 11 .mv [(.tmp 10)])⟩, ⟨(some (11, true)), (.pure 12 (.fad 1) [(.tmp 1)])⟩, ⟨(some (11, true)), (.load1 13 (.tmp 12))⟩, ⟨(some (11, true)), (.pure 14 (.bin .geq) [(.tmp 13), (.const (.int .i64 4))])⟩, ⟨none, (.pure 15 .pick [(.tmp 11), (.tmp 14), (.const (.bool false))])⟩, ⟨none, (.pure 16 .mv [(.tmp 15)])⟩, ⟨(some (16, true)), (.pure 17 (.fad 1) [(.tmp 1)])⟩, ⟨(some (16, true)), (.load1 18 (.tmp 17))⟩, ⟨(some (16, true)), (.pure 19 (.bin .leq) [(.tmp 18), (.const (.int .i64 8))])⟩, ⟨none, (.pure 20 .pick [(.tmp 16), (.tmp 19), (.const (.bool false))])⟩, ⟨none, (.pure 2 .mv [(.tmp 20)])⟩]) .ret))⟩
theorem s59_ok : cFun Try.prog [] Try.f59 = some s59 := by kernel_rfl
theorem hb59 : HasBody Try.prog 59 := ⟨_, Try.func59, by kernel_rfl, by kernel_rfl⟩
theorem p_rMay (b : Bd) : PF Try.prog 59 [bdv b] (.bool (mayB b)) := by
  intro w
  refine quiet Try.func59 (by kernel_rfl) (by kernel_rfl) s59_ok (by kernel_rfl) ?_
  repeat' (first
    | (simp only [↓exP, ↓exQ, ↓need_ite, ↓need_ite', ↓exA, exB, exC, reduceIte, Nat.reduceEqDiff, Nat.reduceAdd, Nat.reduceSub, Nat.reduceMul, Nat.reduceLeDiff, Nat.reduceLT, Int.reduceToNat, Int.reduceBEq, Int.reduceBNe, Int.reduceLT, Int.reduceLE, Int.reduceEq, Int.reduceNeg, decide_true, decide_false, rd1_own, rd_own, hset_notIn, need_ite, need_ite', map_ite, s59, bdv_cells, wv_fold, bdv_fold, rv_fold, *]; done)
    | simp only [↓exP, ↓exQ, ↓need_ite, ↓need_ite', ↓exA, exB, exC, reduceIte, Nat.reduceEqDiff, Nat.reduceAdd, Nat.reduceSub, Nat.reduceMul, Nat.reduceLeDiff, Nat.reduceLT, Int.reduceToNat, Int.reduceBEq, Int.reduceBNe, Int.reduceLT, Int.reduceLE, Int.reduceEq, Int.reduceNeg, decide_true, decide_false, rd1_own, rd_own, hset_notIn, need_ite, need_ite', map_ite, s59, bdv_cells, wv_fold, bdv_fold, rv_fold, *]
    | (intro xb hl hf; try simp only [NotIn] at hf)
    | refine And.intro (fun hc => ?_) (fun hc => ?_)
    | refine ends_q ?_
    | exact wv_fold _
    | (refine And.intro (by first | omega | (simp only [*]; omega)) ?_))
  all_goals simp [mayB, sideB, *]
def s106 : SFun := ⟨[], 14, [(.tmp 4)], (.seq (.reg [⟨none, (.box 2 (.tmp 0))⟩, ⟨none, (.box 3 (.tmp 1))⟩, ⟨none, (.pure 4 .mv [(.const (.int .i64 0))])⟩]) (.seq (.reg [⟨none, (.pure 5 (.fad 0) [(.tmp 3)])⟩, ⟨none, (.load1 6 (.tmp 5))⟩, ⟨none, (.pure 7 (.fad 1) [(.tmp 2)])⟩, ⟨none, (.load1 8 (.tmp 7))⟩, ⟨none, (.pure 9 (.bin .add) [(.tmp 8), (.const (.int .i64 1))])⟩, ⟨none, (.pure 10 (.bin .mul) [(.tmp 6), (.tmp 9)])⟩, ⟨none, (.pure 11 (.fad 1) [(.tmp 3)])⟩, ⟨none, (.load1 12 (.tmp 11))⟩, ⟨none, (.pure 13 (.bin .add) [(.tmp 10), (.tmp 12)])⟩, ⟨none, (.pure 4 .mv [(.tmp 13)])⟩]) .ret))⟩
theorem s106_ok : cFun Try.prog [] Try.f106 = some s106 := by kernel_rfl
theorem hb106 : HasBody Try.prog 106 := ⟨_, Try.func106, by kernel_rfl, by kernel_rfl⟩
theorem p_rPlace (b : Bd) (x y : Int) (h : -1000000 ≤ x ∧ x ≤ 1000000) (h2 : -1000000 ≤ y ∧ y ≤ 1000000) (h3 : -1000000 ≤ b.H ∧ b.H ≤ 1000000) : PF Try.prog 106 [bdv b, .agg #[.int .i64 x, .int .i64 y]] (.int .i64 (x * (b.H + 1) + y)) := by
  intro w
  refine quiet Try.func106 (by kernel_rfl) (by kernel_rfl) s106_ok (by kernel_rfl) ?_
  have := mul_bd (x := x) (h := b.H + 1) (A := 1000000) (B := 1000001) (by omega) (by omega)
  have e1 : IntKind.i64.wrap (b.H + 1) = b.H + 1 := wrap64 _ (by omega)
  have e2 : IntKind.i64.wrap (x * (b.H + 1)) = x * (b.H + 1) := wrap64 _ (by omega)
  have e3 : IntKind.i64.wrap (x * (b.H + 1) + y) = x * (b.H + 1) + y := wrap64 _ (by omega)
  repeat' (first
    | (simp only [↓exP, ↓exQ, ↓need_ite, ↓need_ite', ↓exA, exB, exC, reduceIte, Nat.reduceEqDiff, Nat.reduceAdd, Nat.reduceSub, Nat.reduceMul, Nat.reduceLeDiff, Nat.reduceLT, Int.reduceToNat, Int.reduceBEq, Int.reduceBNe, Int.reduceLT, Int.reduceLE, Int.reduceEq, Int.reduceNeg, decide_true, decide_false, rd1_own, rd_own, hset_notIn, need_ite, need_ite', map_ite, s106, bdv_cells, wv_fold, bdv_fold, rv_fold, *]; done)
    | simp only [↓exP, ↓exQ, ↓need_ite, ↓need_ite', ↓exA, exB, exC, reduceIte, Nat.reduceEqDiff, Nat.reduceAdd, Nat.reduceSub, Nat.reduceMul, Nat.reduceLeDiff, Nat.reduceLT, Int.reduceToNat, Int.reduceBEq, Int.reduceBNe, Int.reduceLT, Int.reduceLE, Int.reduceEq, Int.reduceNeg, decide_true, decide_false, rd1_own, rd_own, hset_notIn, need_ite, need_ite', map_ite, s106, bdv_cells, wv_fold, bdv_fold, rv_fold, *]
    | (intro xb hl hf; try simp only [NotIn] at hf)
    | refine And.intro (fun hc => ?_) (fun hc => ?_)
    | refine ends_q ?_
    | exact wv_fold _
    | (refine And.intro (by first | omega | (simp only [*]; omega)) ?_))
def s90 : SFun := ⟨[], 33, [(.tmp 6)], (.seq (.reg [⟨none, (.box 3 (.tmp 0))⟩, ⟨none, (.pure 6 .mv [(.const (.int .i64 0))])⟩]) (.seq (.seq (.reg [⟨none, (.pure 7 .mv [(.tmp 1)])⟩, ⟨none, (.pure 8 (.bin .lss) [(.tmp 7), (.const (.int .i64 0))])⟩, ⟨none, (.pure 9 .mv [(.tmp 8)])⟩, ⟨(some (9, false)), (.pure 10 .mv [(.tmp 1)])⟩, ⟨(some (9, false)), (.pure 11 (.fad 0) [(.tmp 3)])⟩, ⟨(some (9, false)), (.pure 12 (.fad 0) [(.tmp 11)])⟩, ⟨(some (9, false)), (.load1 13 (.tmp 12))⟩, ⟨(some (9, false)), (.pure 14 (.bin .geq) [(.tmp 10), (.tmp 13)])⟩, ⟨none, (.pure 15 .pick [(.tmp 9), (.const (.bool true)), (.tmp 14)])⟩, ⟨none, (.pure 16 .mv [(.tmp 15)])⟩, ⟨(some (16, false)), (.pure 17 .mv [(.tmp 2)])⟩, ⟨(some (16, false)), (.pure 18 (.bin .lss) [(.tmp 17), (.const (.int .i64 0))])⟩, ⟨none, (.pure 19 .pick [(.tmp 16), (.const (.bool true)), (.tmp 18)])⟩, ⟨none, (.pure 20 .mv [(.tmp 19)])⟩, ⟨(some (20, false)), (.pure 21 .mv [(.tmp 2)])⟩, ⟨(some (20, false)), (.pure 22 (.fad 0) [(.tmp 3)])⟩, ⟨(some (20, false)), (.pure 23 (.fad 1) [(.tmp 22)])⟩, ⟨(some (20, false)), (.load1 24 (.tmp 23))⟩, ⟨(some (20, false)), (.pure 25 (.bin .geq) [(.tmp 21), (.tmp 24)])⟩, ⟨none, (.pure 26 .pick [(.tmp 20), (.const (.bool true)), (.tmp 25)])⟩]) (.cond (.tmp 26) (.seq (.reg [⟨none, (.pure 6 .mv [(.const (.int .i64 0))])⟩]) .ret) .skip)) (.seq (.reg [⟨none, (.pure 27 .mv [(.tmp 1)])⟩, ⟨none, (.pure 28 .mv [(.tmp 2)])⟩, ⟨none, (.pure 29 (.fad 2) [(.tmp 3)])⟩, ⟨none, (.pure 30 (.iaA 8 8) [(.tmp 29), (.tmp 27)])⟩, ⟨none, (.pure 31 (.iaA 8 1) [(.tmp 30), (.tmp 28)])⟩, ⟨none, (.load1 32 (.tmp 31))⟩, ⟨none, (.pure 6 .mv [(.tmp 32)])⟩]) .ret)))⟩
theorem s90_ok : cFun Try.prog [] Try.f90 = some s90 := by kernel_rfl
theorem hb90 : HasBody Try.prog 90 := ⟨_, Try.func90, by kernel_rfl, by kernel_rfl⟩
theorem p_rAt8 (f : RPos) (x y : Int) (hf : RW f) : PF Try.prog 90 [rv f, .int .i64 x, .int .i64 y] (.int .i64 (rAt f x y)) := by
  intro w
  refine quiet Try.func90 (by kernel_rfl) (by kernel_rfl) s90_ok (by kernel_rfl) ?_
  obtain ⟨h1, h2⟩ := hf
  rcases Decidable.em (0 ≤ x ∧ x < f 0 ∧ 0 ≤ y ∧ y < f 1) with h | h
  · rw [show rAt f x y = f (2 + x.toNat * 8 + y.toNat) from if_pos h]
    obtain ⟨h3, h4, h5, h6⟩ := h
    have e1 : ¬ x < 0 := by omega
    have e2 : ¬ f 0 ≤ x := by omega
    have e3 : ¬ y < 0 := by omega
    have e4 : ¬ f 1 ≤ y := by omega
    have e5 : x < ((8 : Nat) : Int) := by omega
    have e6 : y < ((8 : Nat) : Int) := by omega
    have g := rc_get f (2 + x.toNat * 8 + y.toNat) (by omega)
    clear h1 h2
    repeat' (first
    | (simp only [↓exP, ↓exQ, ↓need_ite, ↓need_ite', ↓exA, exB, exC, reduceIte, Nat.reduceEqDiff, Nat.reduceAdd, Nat.reduceSub, Nat.reduceMul, Nat.reduceLeDiff, Nat.reduceLT, Int.reduceToNat, Int.reduceBEq, Int.reduceBNe, Int.reduceLT, Int.reduceLE, Int.reduceEq, Int.reduceNeg, decide_true, decide_false, rd1_own, rd_own, hset_notIn, need_ite, need_ite', map_ite, s90, rv_cells, rc_len, rc_0, rc_1, wv_fold, bdv_fold, rv_fold, *]; done)
    | simp only [↓exP, ↓exQ, ↓need_ite, ↓need_ite', ↓exA, exB, exC, reduceIte, Nat.reduceEqDiff, Nat.reduceAdd, Nat.reduceSub, Nat.reduceMul, Nat.reduceLeDiff, Nat.reduceLT, Int.reduceToNat, Int.reduceBEq, Int.reduceBNe, Int.reduceLT, Int.reduceLE, Int.reduceEq, Int.reduceNeg, decide_true, decide_false, rd1_own, rd_own, hset_notIn, need_ite, need_ite', map_ite, s90, rv_cells, rc_len, rc_0, rc_1, wv_fold, bdv_fold, rv_fold, *]
    | (intro xb hl hf; try simp only [NotIn] at hf)
    | refine And.intro (fun hc => ?_) (fun hc => ?_)
    | refine ends_q ?_
    | exact wv_fold _
    | (refine And.intro (by first | omega | (simp only [*]; omega)) ?_))
  · rw [show rAt f x y = 0 from if_neg h]
    repeat' (first
    | (simp only [↓exP, ↓exQ, ↓need_ite, ↓need_ite', ↓exA, exB, exC, reduceIte, Nat.reduceEqDiff, Nat.reduceAdd, Nat.reduceSub, Nat.reduceMul, Nat.reduceLeDiff, Nat.reduceLT, Int.reduceToNat, Int.reduceBEq, Int.reduceBNe, Int.reduceLT, Int.reduceLE, Int.reduceEq, Int.reduceNeg, decide_true, decide_false, rd1_own, rd_own, hset_notIn, need_ite, need_ite', map_ite, s90, rv_cells, rc_len, rc_0, rc_1, wv_fold, bdv_fold, rv_fold, *]; done)
    | simp only [↓exP, ↓exQ, ↓need_ite, ↓need_ite', ↓exA, exB, exC, reduceIte, Nat.reduceEqDiff, Nat.reduceAdd, Nat.reduceSub, Nat.reduceMul, Nat.reduceLeDiff, Nat.reduceLT, Int.reduceToNat, Int.reduceBEq, Int.reduceBNe, Int.reduceLT, Int.reduceLE, Int.reduceEq, Int.reduceNeg, decide_true, decide_false, rd1_own, rd_own, hset_notIn, need_ite, need_ite', map_ite, s90, rv_cells, rc_len, rc_0, rc_1, wv_fold, bdv_fold, rv_fold, *]
    | (intro xb hl hf; try simp only [NotIn] at hf)
    | refine And.intro (fun hc => ?_) (fun hc => ?_)
    | refine ends_q ?_
    | exact wv_fold _
    | (refine And.intro (by first | omega | (simp only [*]; omega)) ?_))
    exfalso; omega
def s65 : SFun := ⟨[], 7, [(.tmp 2)], (.seq (.reg [⟨none, (.box 1 (.tmp 0))⟩, ⟨none, (.pure 2 .mv [(.const (.int .i64 0))])⟩]) (.seq (.seq (.reg [⟨none, (.pure 3 (.fad 130) [(.tmp 1)])⟩, ⟨none, (.load1 4 (.tmp 3))⟩, ⟨none, (.pure 5 (.bin .rem) [(.tmp 4), (.const (.int .i64 2))])⟩, ⟨none, (.pure 6 (.bin .eql) [(.tmp 5), (.const (.int .i64 0))])⟩]) (.cond (.tmp 6) (.seq (.reg [⟨none, (.pure 2 .mv [(.const (.int .i64 1))])⟩]) .ret) .skip)) (.seq (.reg [⟨none, (.pure 2 .mv [(.const (.int .i64 2))])⟩]) .ret)))⟩
theorem s65_ok : cFun Try.prog [] Try.f65 = some s65 := by kernel_rfl
theorem hb65 : HasBody Try.prog 65 := ⟨_, Try.func65, by kernel_rfl, by kernel_rfl⟩
theorem p_rTurn (f : RPos) : PF Try.prog 65 [rv f] (.int .i64 (rTurn f)) := by
  intro w
  refine quiet Try.func65 (by kernel_rfl) (by kernel_rfl) s65_ok (by kernel_rfl) ?_
  repeat' (first
    | (simp only [↓exP, ↓exQ, ↓need_ite, ↓need_ite', ↓exA, exB, exC, reduceIte, Nat.reduceEqDiff, Nat.reduceAdd, Nat.reduceSub, Nat.reduceMul, Nat.reduceLeDiff, Nat.reduceLT, Int.reduceToNat, Int.reduceBEq, Int.reduceBNe, Int.reduceLT, Int.reduceLE, Int.reduceEq, Int.reduceNeg, decide_true, decide_false, rd1_own, rd_own, hset_notIn, need_ite, need_ite', map_ite, s65, rv_cells, rc_len, rc_130, wv_fold, bdv_fold, rv_fold, *]; done)
    | simp only [↓exP, ↓exQ, ↓need_ite, ↓need_ite', ↓exA, exB, exC, reduceIte, Nat.reduceEqDiff, Nat.reduceAdd, Nat.reduceSub, Nat.reduceMul, Nat.reduceLeDiff, Nat.reduceLT, Int.reduceToNat, Int.reduceBEq, Int.reduceBNe, Int.reduceLT, Int.reduceLE, Int.reduceEq, Int.reduceNeg, decide_true, decide_false, rd1_own, rd_own, hset_notIn, need_ite, need_ite', map_ite, s65, rv_cells, rc_len, rc_130, wv_fold, bdv_fold, rv_fold, *]
    | (intro xb hl hf; try simp only [NotIn] at hf)
    | refine And.intro (fun hc => ?_) (fun hc => ?_)
    | refine ends_q ?_
    | exact wv_fold _
    | (refine And.intro (by first | omega | (simp only [*]; omega)) ?_))
  all_goals simp [rTurn, *]
def s70 : SFun := ⟨[], 18, [(.tmp 2)], (.seq (.reg [⟨none, (.box 1 (.tmp 0))⟩, ⟨none, (.pure 2 .mv [(.const (.bool false))])⟩]) (.seq (.reg [⟨none, (.pure 3 (.fad 131) [(.tmp 1)])⟩, ⟨none, (.load1 4 (.tmp 3))⟩, ⟨none, (.pure 5 (.bin .neq) [(.tmp 4), (.const (.int .i64 0))])⟩, ⟨none, (.pure 6 .mv [(.tmp 5)])⟩, ⟨(some (6, false)), (.pure 7 (.fad 130) [(.tmp 1)])⟩, ⟨(some (6, false)), (.load1 8 (.tmp 7))⟩, ⟨(some (6, false)), (.pure 9 (.fad 0) [(.tmp 1)])⟩, ⟨(some (6, false)), (.pure 10 (.fad 0) [(.tmp 9)])⟩, ⟨(some (6, false)), (.load1 11 (.tmp 10))⟩, ⟨(some (6, false)), (.pure 12 (.fad 0) [(.tmp 1)])⟩, ⟨(some (6, false)), (.pure 13 (.fad 1) [(.tmp 12)])⟩, ⟨(some (6, false)), (.load1 14 (.tmp 13))⟩, ⟨(some (6, false)), (.pure 15 (.bin .mul) [(.tmp 11), (.tmp 14)])⟩, ⟨(some (6, false)), (.pure 16 (.bin .eql) [(.tmp 8), (.tmp 15)])⟩, ⟨none, (.pure 17 .pick [(.tmp 6), (.const (.bool true)), (.tmp 16)])⟩, ⟨none, (.pure 2 .mv [(.tmp 17)])⟩]) .ret))⟩
theorem s70_ok : cFun Try.prog [] Try.f70 = some s70 := by kernel_rfl
theorem hb70 : HasBody Try.prog 70 := ⟨_, Try.func70, by kernel_rfl, by kernel_rfl⟩
theorem p_rOver (f : RPos) (hf : RW f) : PF Try.prog 70 [rv f] (.bool (rOver f)) := by
  intro w
  refine quiet Try.func70 (by kernel_rfl) (by kernel_rfl) s70_ok (by kernel_rfl) ?_
  obtain ⟨h1, h2⟩ := hf
  have e1 : IntKind.i64.wrap (f 0 * f 1) = f 0 * f 1 := wrap64 _ (by have := mul_bd (x := f 0) (h := f 1) (A := 8) (B := 8) (by omega) (by omega); omega)
  clear h1 h2
  repeat' (first
    | (simp only [↓exP, ↓exQ, ↓need_ite, ↓need_ite', ↓exA, exB, exC, reduceIte, Nat.reduceEqDiff, Nat.reduceAdd, Nat.reduceSub, Nat.reduceMul, Nat.reduceLeDiff, Nat.reduceLT, Int.reduceToNat, Int.reduceBEq, Int.reduceBNe, Int.reduceLT, Int.reduceLE, Int.reduceEq, Int.reduceNeg, decide_true, decide_false, rd1_own, rd_own, hset_notIn, need_ite, need_ite', map_ite, s70, rv_cells, rc_len, rc_0, rc_1, rc_130, rc_131, wv_fold, bdv_fold, rv_fold, *]; done)
    | simp only [↓exP, ↓exQ, ↓need_ite, ↓need_ite', ↓exA, exB, exC, reduceIte, Nat.reduceEqDiff, Nat.reduceAdd, Nat.reduceSub, Nat.reduceMul, Nat.reduceLeDiff, Nat.reduceLT, Int.reduceToNat, Int.reduceBEq, Int.reduceBNe, Int.reduceLT, Int.reduceLE, Int.reduceEq, Int.reduceNeg, decide_true, decide_false, rd1_own, rd_own, hset_notIn, need_ite, need_ite', map_ite, s70, rv_cells, rc_len, rc_0, rc_1, rc_130, rc_131, wv_fold, bdv_fold, rv_fold, *]
    | (intro xb hl hf; try simp only [NotIn] at hf)
    | refine And.intro (fun hc => ?_) (fun hc => ?_)
    | refine ends_q ?_
    | exact wv_fold _
    | (refine And.intro (by first | omega | (simp only [*]; omega)) ?_))
  all_goals simp [rOver, *]
def s64 : SFun := ⟨[], 22, [(.tmp 4)], (.seq (.reg [⟨none, (.box 2 (.tmp 0))⟩, ⟨none, (.pure 4 .mv [(.const (.int .i64 0))])⟩]) (.seq (.reg [⟨none, (.pure 5 .mv [(.const (.int .i64 0))])⟩]) (.seq (.seq (.reg [⟨none, (.pure 6 .mv [(.const (.int .i64 0))])⟩]) (.block 0 (.loop (.seq (.seq (.reg [⟨none, (.pure 7 .mv [(.tmp 6)])⟩, ⟨none, (.pure 8 (.fad 0) [(.tmp 2)])⟩, ⟨none, (.pure 9 (.fad 1) [(.tmp 8)])⟩, ⟨none, (.load1 10 (.tmp 9))⟩, ⟨none, (.pure 11 (.bin .lss) [(.tmp 7), (.tmp 10)])⟩]) (.cond (.tmp 11) .skip (.exit 0))) (.seq (.block 1 (.seq (.reg [⟨none, (.loadN 14 (.tmp 2) 132)⟩, ⟨none, (.pure 15 .mv [(.tmp 1)])⟩, ⟨none, (.pure 16 .mv [(.tmp 6)])⟩, ⟨none, (.call (some 17) (.func 90) [(.tmp 14), (.tmp 15), (.tmp 16)])⟩, ⟨none, (.pure 18 (.bin .neq) [(.tmp 17), (.const (.int .i64 0))])⟩]) (.cond (.tmp 18) (.reg [⟨none, (.pure 19 .mv [(.tmp 5)])⟩, ⟨none, (.pure 20 (.bin .add) [(.tmp 19), (.const (.int .i64 1))])⟩, ⟨none, (.pure 5 .mv [(.tmp 20)])⟩]) .skip))) (.reg [⟨none, (.pure 12 .mv [(.tmp 6)])⟩, ⟨none, (.pure 13 (.bin .add) [(.tmp 12), (.const (.int .i64 1))])⟩, ⟨none, (.pure 6 .mv [(.tmp 13)])⟩])))))) (.seq (.reg [⟨none, (.pure 21 .mv [(.tmp 5)])⟩, ⟨none, (.pure 4 .mv [(.tmp 21)])⟩]) .ret))))⟩
theorem s64_ok : cFun Try.prog [] Try.f64 = some s64 := by kernel_rfl
theorem hb64 : HasBody Try.prog 64 := ⟨_, Try.func64, by kernel_rfl, by kernel_rfl⟩
theorem p_rHeight (f : RPos) (x : Int) (hf : RW f) : PF Try.prog 64 [rv f, .int .i64 x] (.int .i64 (rHeight f x : Nat)) := by
  intro w
  refine quiet Try.func64 (by kernel_rfl) (by kernel_rfl) s64_ok (by kernel_rfl) ?_
  simp only [↓exP, ↓exQ, ↓need_ite, ↓need_ite', ↓exA, exB, exC, reduceIte, Nat.reduceEqDiff, Nat.reduceAdd, Nat.reduceSub, Nat.reduceMul, Nat.reduceLeDiff, Nat.reduceLT, Int.reduceToNat, Int.reduceBEq, Int.reduceBNe, Int.reduceLT, Int.reduceLE, Int.reduceEq, Int.reduceNeg, decide_true, decide_false, rd1_own, rd_own, hset_notIn, need_ite, need_ite', map_ite, s64, rv_cells, rc_len]
  intro b2 lb2 fb2; try simp only [NotIn] at fb2
  simp only [↓exP, ↓exQ, ↓need_ite, ↓need_ite', ↓exA, exB, exC, reduceIte, Nat.reduceEqDiff, Nat.reduceAdd, Nat.reduceSub, Nat.reduceMul, Nat.reduceLeDiff, Nat.reduceLT, Int.reduceToNat, Int.reduceBEq, Int.reduceBNe, Int.reduceLT, Int.reduceLE, Int.reduceEq, Int.reduceNeg, decide_true, decide_false, rd1_own, rd_own, hset_notIn, need_ite, need_ite', map_ite, lb2]
  refine SWS.loop (σ := Nat) 0 (fun i => (i : Int) ≤ f 1) (fun i => [(1, .int .i64 x), (2, .pointer (some ⟨b2, 0, none⟩)), (5, .int .i64 (cnt (fun y => decide (rAt f x y ≠ 0)) i : Nat)), (6, .int .i64 (i : Nat))])
    (fun i => [(b2, .cells (rc f) 132)]) (fun i => (f 1).toNat - i) (by have := hf.2; omega) ?_ ?_ ?_
  · simp [subR, lk, cnt]
  · repeat (first | exact sub_refl _ | exact sub_nil _ | (refine sub_cons (by simp only [List.mem_cons, true_or, or_true]) ?_) | refine sub_tail ?_)
  · intro i hil
    have h8 := hf.2
    have hcl := cnt_le (fun y => decide (rAt f x y ≠ 0)) i
    have hcs : cnt (fun y => decide (rAt f x y ≠ 0)) (i + 1) = cnt (fun y => decide (rAt f x y ≠ 0)) i + (if decide (rAt f x i ≠ 0) = true then 1 else 0) := rfl
    have e6 : IntKind.i64.wrap ((i : Int) + 1) = ((i + 1 : Nat) : Int) := by rw [wrap64 _ (by omega)]; omega
    have e7 : IntKind.i64.wrap ((cnt (fun y => decide (rAt f x y ≠ 0)) i : Nat) + 1 : Int) = ((cnt (fun y => decide (rAt f x y ≠ 0)) i + 1 : Nat) : Int) := by rw [wrap64 _ (by omega)]; omega
    rcases Int.lt_or_le (i : Int) (f 1) with hlt | hge
    · simp only [↓exP, ↓exQ, ↓need_ite, ↓need_ite', ↓exA, exB, exC, reduceIte, Nat.reduceEqDiff, Nat.reduceAdd, Nat.reduceSub, Nat.reduceMul, Nat.reduceLeDiff, Nat.reduceLT, Int.reduceToNat, Int.reduceBEq, Int.reduceBNe, Int.reduceLT, Int.reduceLE, Int.reduceEq, Int.reduceNeg, decide_true, decide_false, rd1_own, rd_own, hset_notIn, need_ite, need_ite', map_ite, lb2, rc_1, rc_len, rc_take, rv_fold, hlt]
      refine vcall_q (fun w hs => p_rAt8 f x i hf w) ?_
      rcases Decidable.em (rAt f x i = 0) with hz | hz
      · simp only [↓exP, ↓exQ, ↓need_ite, ↓need_ite', ↓exA, exB, exC, reduceIte, Nat.reduceEqDiff, Nat.reduceAdd, Nat.reduceSub, Nat.reduceMul, Nat.reduceLeDiff, Nat.reduceLT, Int.reduceToNat, Int.reduceBEq, Int.reduceBNe, Int.reduceLT, Int.reduceLE, Int.reduceEq, Int.reduceNeg, decide_true, decide_false, rd1_own, rd_own, hset_notIn, need_ite, need_ite', map_ite, hz, e6]
        refine ⟨i + 1, ⟨by omega, by omega⟩, ?_, fun p hp => hp⟩
        rw [hcs, if_neg (by simp [hz])]
        simp [subR, lk]
      · simp only [↓exP, ↓exQ, ↓need_ite, ↓need_ite', ↓exA, exB, exC, reduceIte, Nat.reduceEqDiff, Nat.reduceAdd, Nat.reduceSub, Nat.reduceMul, Nat.reduceLeDiff, Nat.reduceLT, Int.reduceToNat, Int.reduceBEq, Int.reduceBNe, Int.reduceLT, Int.reduceLE, Int.reduceEq, Int.reduceNeg, decide_true, decide_false, rd1_own, rd_own, hset_notIn, need_ite, need_ite', map_ite, hz, e6, e7]
        refine ⟨i + 1, ⟨by omega, by omega⟩, ?_, fun p hp => hp⟩
        rw [hcs, if_pos (by simp [hz])]
        simp [subR, lk]
    · have hn : ¬ (i : Int) < f 1 := by omega
      have hi' : i = (f 1).toNat := by omega
      simp only [↓exP, ↓exQ, ↓need_ite, ↓need_ite', ↓exA, exB, exC, reduceIte, Nat.reduceEqDiff, Nat.reduceAdd, Nat.reduceSub, Nat.reduceMul, Nat.reduceLeDiff, Nat.reduceLT, Int.reduceToNat, Int.reduceBEq, Int.reduceBNe, Int.reduceLT, Int.reduceLE, Int.reduceEq, Int.reduceNeg, decide_true, decide_false, rd1_own, rd_own, hset_notIn, need_ite, need_ite', map_ite, lb2, rc_1, rc_len, rc_take, rv_fold, hn]
      refine ends_q ?_
      rw [hi']; rfl
def s91 : SFun := ⟨[], 32, [(.tmp 12)], (.seq (.reg [⟨none, (.box 6 (.tmp 0))⟩, ⟨none, (.pure 12 .mv [(.const (.bool false))])⟩]) (.seq (.seq (.reg [⟨none, (.pure 13 .mv [(.const (.int .i64 0))])⟩]) (.block 0 (.loop (.seq (.seq (.reg [⟨none, (.pure 14 .mv [(.tmp 13)])⟩, ⟨none, (.pure 15 (.bin .lss) [(.tmp 14), (.const (.int .i64 4))])⟩]) (.cond (.tmp 15) .skip (.exit 0))) (.seq (.block 1 (.seq (.reg [⟨none, (.loadN 18 (.tmp 6) 132)⟩, ⟨none, (.pure 19 .mv [(.tmp 1)])⟩, ⟨none, (.pure 20 .mv [(.tmp 13)])⟩, ⟨none, (.pure 21 .mv [(.tmp 3)])⟩, ⟨none, (.pure 22 (.bin .mul) [(.tmp 20), (.tmp 21)])⟩, ⟨none, (.pure 23 (.bin .add) [(.tmp 19), (.tmp 22)])⟩, ⟨none, (.pure 24 .mv [(.tmp 2)])⟩, ⟨none, (.pure 25 .mv [(.tmp 13)])⟩, ⟨none, (.pure 26 .mv [(.tmp 4)])⟩, ⟨none, (.pure 27 (.bin .mul) [(.tmp 25), (.tmp 26)])⟩, ⟨none, (.pure 28 (.bin .add) [(.tmp 24), (.tmp 27)])⟩, ⟨none, (.call (some 29) (.func 90) [(.tmp 18), (.tmp 23), (.tmp 28)])⟩, ⟨none, (.pure 30 .mv [(.tmp 5)])⟩, ⟨none, (.pure 31 (.bin .neq) [(.tmp 29), (.tmp 30)])⟩]) (.cond (.tmp 31) (.seq (.reg [⟨none, (.pure 12 .mv [(.const (.bool false))])⟩]) .ret) .skip))) (.reg [⟨none, (.pure 16 .mv [(.tmp 13)])⟩, ⟨none, (.pure 17 (.bin .add) [(.tmp 16), (.const (.int .i64 1))])⟩, ⟨none, (.pure 13 .mv [(.tmp 17)])⟩])))))) (.seq (.reg [⟨none, (.pure 12 .mv [(.const (.bool true))])⟩]) .ret)))⟩
theorem s91_ok : cFun Try.prog [] Try.f91 = some s91 := by kernel_rfl
theorem hb91 : HasBody Try.prog 91 := ⟨_, Try.func91, by kernel_rfl, by kernel_rfl⟩
theorem p_rRow (f : RPos) (x y dx dy who : Int) (hf : RW f) (hx : -100 ≤ x ∧ x ≤ 100) (hy : -100 ≤ y ∧ y ≤ 100) (hdx : -1 ≤ dx ∧ dx ≤ 1) (hdy : -1 ≤ dy ∧ dy ≤ 1) :
    PF Try.prog 91 [rv f, .int .i64 x, .int .i64 y, .int .i64 dx, .int .i64 dy, .int .i64 who] (.bool (rRow f x y dx dy who)) := by
  intro w
  refine quiet Try.func91 (by kernel_rfl) (by kernel_rfl) s91_ok (by kernel_rfl) ?_
  simp only [↓exP, ↓exQ, ↓need_ite, ↓need_ite', ↓exA, exB, exC, reduceIte, Nat.reduceEqDiff, Nat.reduceAdd, Nat.reduceSub, Nat.reduceMul, Nat.reduceLeDiff, Nat.reduceLT, Int.reduceToNat, Int.reduceBEq, Int.reduceBNe, Int.reduceLT, Int.reduceLE, Int.reduceEq, Int.reduceNeg, decide_true, decide_false, rd1_own, rd_own, hset_notIn, need_ite, need_ite', map_ite, s91, rv_cells, rc_len]
  intro b6 lb6 fb6; try simp only [NotIn] at fb6
  simp only [↓exP, ↓exQ, ↓need_ite, ↓need_ite', ↓exA, exB, exC, reduceIte, Nat.reduceEqDiff, Nat.reduceAdd, Nat.reduceSub, Nat.reduceMul, Nat.reduceLeDiff, Nat.reduceLT, Int.reduceToNat, Int.reduceBEq, Int.reduceBNe, Int.reduceLT, Int.reduceLE, Int.reduceEq, Int.reduceNeg, decide_true, decide_false, rd1_own, rd_own, hset_notIn, need_ite, need_ite', map_ite, lb6]
  refine SWS.loop (σ := Nat) 0 (fun i => i ≤ 4 ∧ ∀ j : Nat, j < i → rAt f (x + j * dx) (y + j * dy) = who) (fun i => [(1, .int .i64 x), (2, .int .i64 y), (3, .int .i64 dx), (4, .int .i64 dy), (5, .int .i64 who), (6, .pointer (some ⟨b6, 0, none⟩)), (13, .int .i64 (i : Nat))])
    (fun i => [(b6, .cells (rc f) 132)]) (fun i => 4 - i) ⟨Nat.zero_le _, fun j hj => absurd hj (by omega)⟩ ?_ ?_ ?_
  · simp [subR, lk]
  · repeat (first | exact sub_refl _ | exact sub_nil _ | (refine sub_cons (by simp only [List.mem_cons, true_or, or_true]) ?_) | refine sub_tail ?_)
  · rintro i ⟨hil, hall⟩
    have e6 : IntKind.i64.wrap ((i : Int) + 1) = ((i + 1 : Nat) : Int) := by rw [wrap64 _ (by omega)]; omega
    have m1 := mul_bd (x := (i : Int)) (h := dx) (A := 4) (B := 1) (by omega) (by omega)
    have m2 := mul_bd (x := (i : Int)) (h := dy) (A := 4) (B := 1) (by omega) (by omega)
    have e1 : IntKind.i64.wrap ((i : Int) * dx) = (i : Int) * dx := wrap64 _ (by omega)
    have e2 : IntKind.i64.wrap ((i : Int) * dy) = (i : Int) * dy := wrap64 _ (by omega)
    have e3 : IntKind.i64.wrap (x + (i : Int) * dx) = x + (i : Int) * dx := wrap64 _ (by omega)
    have e4 : IntKind.i64.wrap (y + (i : Int) * dy) = y + (i : Int) * dy := wrap64 _ (by omega)
    rcases Nat.lt_or_ge i 4 with hlt | hge
    · have a1 : (i : Int) < 4 := by omega
      simp only [↓exP, ↓exQ, ↓need_ite, ↓need_ite', ↓exA, exB, exC, reduceIte, Nat.reduceEqDiff, Nat.reduceAdd, Nat.reduceSub, Nat.reduceMul, Nat.reduceLeDiff, Nat.reduceLT, Int.reduceToNat, Int.reduceBEq, Int.reduceBNe, Int.reduceLT, Int.reduceLE, Int.reduceEq, Int.reduceNeg, decide_true, decide_false, rd1_own, rd_own, hset_notIn, need_ite, need_ite', map_ite, lb6, rc_len, rc_take, rv_fold, a1, e1, e2, e3, e4]
      refine vcall_q (fun w hs => p_rAt8 f _ _ hf w) ?_
      rcases Decidable.em (rAt f (x + i * dx) (y + i * dy) = who) with hz | hz
      · simp only [↓exP, ↓exQ, ↓need_ite, ↓need_ite', ↓exA, exB, exC, reduceIte, Nat.reduceEqDiff, Nat.reduceAdd, Nat.reduceSub, Nat.reduceMul, Nat.reduceLeDiff, Nat.reduceLT, Int.reduceToNat, Int.reduceBEq, Int.reduceBNe, Int.reduceLT, Int.reduceLE, Int.reduceEq, Int.reduceNeg, decide_true, decide_false, rd1_own, rd_own, hset_notIn, need_ite, need_ite', map_ite, hz, e6]
        refine ⟨i + 1, ⟨⟨by omega, fun j hj => ?_⟩, by omega⟩, by simp [subR, lk], fun p hp => hp⟩
        rcases Nat.lt_or_ge j i with h1 | h1
        · exact hall j h1
        · rw [show j = i from by omega]; exact hz
      · simp only [↓exP, ↓exQ, ↓need_ite, ↓need_ite', ↓exA, exB, exC, reduceIte, Nat.reduceEqDiff, Nat.reduceAdd, Nat.reduceSub, Nat.reduceMul, Nat.reduceLeDiff, Nat.reduceLT, Int.reduceToNat, Int.reduceBEq, Int.reduceBNe, Int.reduceLT, Int.reduceLE, Int.reduceEq, Int.reduceNeg, decide_true, decide_false, rd1_own, rd_own, hset_notIn, need_ite, need_ite', map_ite, hz, e6]
        refine ends_q ?_
        have : rRow f x y dx dy who = false := by
          rw [Bool.eq_false_iff]; intro h; exact hz (rRow_iff.1 h i hlt)
        rw [this]
    · have hi' : i = 4 := by omega
      have a1 : ¬ ((4 : Nat) : Int) < 4 := by omega
      subst hi'
      simp only [↓exP, ↓exQ, ↓need_ite, ↓need_ite', ↓exA, exB, exC, reduceIte, Nat.reduceEqDiff, Nat.reduceAdd, Nat.reduceSub, Nat.reduceMul, Nat.reduceLeDiff, Nat.reduceLT, Int.reduceToNat, Int.reduceBEq, Int.reduceBNe, Int.reduceLT, Int.reduceLE, Int.reduceEq, Int.reduceNeg, decide_true, decide_false, rd1_own, rd_own, hset_notIn, need_ite, need_ite', map_ite, a1]
      refine ends_q ?_
      rw [rRow_iff.2 hall]
def s66 : SFun := ⟨[], 79, [(.tmp 8)], (.seq (.reg [⟨none, (.box 4 (.tmp 0))⟩, ⟨none, (.pure 8 .mv [(.const (.int .i64 0))])⟩]) (.seq (.reg [⟨none, (.pure 9 .mv [(.const (.int .i64 0))])⟩]) (.seq (.reg [⟨none, (.pure 16 (.build [(.int .i64 0), (.int .i64 0), (.int .i64 0), (.int .i64 0)] [(0, 1), (1, 1), (2, 1), (3, 1)]) [(.const (.int .i64 1)), (.const (.int .i64 1)), (.const (.int .i64 0)), (.const (.int .i64 (-1)))])⟩, ⟨none, (.alloc 10 [(.int .i64 0), (.int .i64 0), (.int .i64 0), (.int .i64 0)])⟩, ⟨none, (.storeN (.tmp 10) (.tmp 16) 4)⟩]) (.seq (.reg [⟨none, (.pure 17 (.build [(.int .i64 0), (.int .i64 0), (.int .i64 0), (.int .i64 0)] [(0, 1), (1, 1), (2, 1), (3, 1)]) [(.const (.int .i64 0)), (.const (.int .i64 1)), (.const (.int .i64 1)), (.const (.int .i64 1))])⟩, ⟨none, (.alloc 11 [(.int .i64 0), (.int .i64 0), (.int .i64 0), (.int .i64 0)])⟩, ⟨none, (.storeN (.tmp 11) (.tmp 17) 4)⟩]) (.seq (.seq (.reg [⟨none, (.pure 12 .mv [(.const (.int .i64 0))])⟩]) (.block 0 (.loop (.seq (.seq (.reg [⟨none, (.pure 18 .mv [(.tmp 12)])⟩, ⟨none, (.pure 19 (.fad 0) [(.tmp 4)])⟩, ⟨none, (.pure 20 (.fad 0) [(.tmp 19)])⟩, ⟨none, (.load1 21 (.tmp 20))⟩, ⟨none, (.pure 22 (.bin .lss) [(.tmp 18), (.tmp 21)])⟩]) (.cond (.tmp 22) .skip (.exit 0))) (.seq (.block 1 (.seq (.reg [⟨none, (.pure 13 .mv [(.const (.int .i64 0))])⟩]) (.block 2 (.loop (.seq (.seq (.reg [⟨none, (.pure 25 .mv [(.tmp 13)])⟩, ⟨none, (.pure 26 (.fad 0) [(.tmp 4)])⟩, ⟨none, (.pure 27 (.fad 1) [(.tmp 26)])⟩, ⟨none, (.load1 28 (.tmp 27))⟩, ⟨none, (.pure 29 (.bin .lss) [(.tmp 25), (.tmp 28)])⟩]) (.cond (.tmp 29) .skip (.exit 2))) (.seq (.block 3 (.seq (.reg [⟨none, (.pure 14 .mv [(.const (.int .i64 0))])⟩]) (.block 4 (.loop (.seq (.seq (.reg [⟨none, (.pure 32 .mv [(.tmp 14)])⟩, ⟨none, (.pure 33 (.bin .lss) [(.tmp 32), (.const (.int .i64 4))])⟩]) (.cond (.tmp 33) .skip (.exit 4))) (.seq (.block 5 (.seq (.seq (.draw ⟨[(⟨none, (.loadN 36 (.tmp 4) 132)⟩, false), (⟨none, (.pure 37 .mv [(.tmp 12)])⟩, false), (⟨none, (.pure 38 .mv [(.tmp 13)])⟩, false), (⟨none, (.pure 39 .mv [(.tmp 14)])⟩, false), (⟨none, (.pure 40 (.iaA 4 1) [(.tmp 10), (.tmp 39)])⟩, false), (⟨none, (.load1 41 (.tmp 40))⟩, false), (⟨none, (.pure 42 .mv [(.tmp 14)])⟩, false), (⟨none, (.pure 43 (.iaA 4 1) [(.tmp 11), (.tmp 42)])⟩, false), (⟨none, (.load1 44 (.tmp 43))⟩, false), (⟨none, (.pure 45 .mv [(.tmp 1)])⟩, false), (⟨none, (.call (some 46) (.func 91) [(.tmp 36), (.tmp 37), (.tmp 38), (.tmp 41), (.tmp 44), (.tmp 45)])⟩, false), (⟨none, (.pure 47 (.un .not) [(.tmp 46)])⟩, false)], [], none, []⟩) (.cond (.tmp 47) (.exit 5) .skip)) (.seq (.reg [⟨none, (.pure 15 .mv [(.const (.int .i64 0))])⟩]) (.block 6 (.loop (.seq (.seq (.reg [⟨none, (.pure 48 .mv [(.tmp 15)])⟩, ⟨none, (.pure 49 (.bin .lss) [(.tmp 48), (.const (.int .i64 4))])⟩]) (.cond (.tmp 49) .skip (.exit 6))) (.seq (.block 7 (.seq (.reg [⟨none, (.pure 52 .mv [(.tmp 2)])⟩, ⟨none, (.pure 53 (.bin .lss) [(.tmp 52), (.const (.int .i64 0))])⟩, ⟨none, (.pure 54 .mv [(.tmp 53)])⟩, ⟨(some (54, false)), (.pure 55 .mv [(.tmp 12)])⟩, ⟨(some (54, false)), (.pure 56 .mv [(.tmp 15)])⟩, ⟨(some (54, false)), (.pure 57 .mv [(.tmp 14)])⟩, ⟨(some (54, false)), (.pure 58 (.iaA 4 1) [(.tmp 10), (.tmp 57)])⟩, ⟨(some (54, false)), (.load1 59 (.tmp 58))⟩, ⟨(some (54, false)), (.pure 60 (.bin .mul) [(.tmp 56), (.tmp 59)])⟩, ⟨(some (54, false)), (.pure 61 (.bin .add) [(.tmp 55), (.tmp 60)])⟩, ⟨(some (54, false)), (.pure 62 .mv [(.tmp 2)])⟩, ⟨(some (54, false)), (.pure 63 (.bin .eql) [(.tmp 61), (.tmp 62)])⟩, ⟨(some (54, false)), (.pure 64 .mv [(.tmp 63)])⟩, ⟨(some (64, true)), (.pure 65 .mv [(.tmp 13)])⟩, ⟨(some (64, true)), (.pure 66 .mv [(.tmp 15)])⟩, ⟨(some (64, true)), (.pure 67 .mv [(.tmp 14)])⟩, ⟨(some (64, true)), (.pure 68 (.iaA 4 1) [(.tmp 11), (.tmp 67)])⟩, ⟨(some (64, true)), (.load1 69 (.tmp 68))⟩, ⟨(some (64, true)), (.pure 70 (.bin .mul) [(.tmp 66), (.tmp 69)])⟩, ⟨(some (64, true)), (.pure 71 (.bin .add) [(.tmp 65), (.tmp 70)])⟩, ⟨(some (64, true)), (.pure 72 .mv [(.tmp 3)])⟩, ⟨(some (64, true)), (.pure 73 (.bin .eql) [(.tmp 71), (.tmp 72)])⟩, ⟨(some (54, false)), (.pure 74 .pick [(.tmp 64), (.tmp 73), (.const (.bool false))])⟩, ⟨none, (.pure 75 .pick [(.tmp 54), (.const (.bool true)), (.tmp 74)])⟩]) (.cond (.tmp 75) (.seq (.reg [⟨none, (.pure 76 .mv [(.tmp 9)])⟩, ⟨none, (.pure 77 (.bin .add) [(.tmp 76), (.const (.int .i64 1))])⟩, ⟨none, (.pure 9 .mv [(.tmp 77)])⟩]) (.exit 6)) .skip))) (.reg [⟨none, (.pure 50 .mv [(.tmp 15)])⟩, ⟨none, (.pure 51 (.bin .add) [(.tmp 50), (.const (.int .i64 1))])⟩, ⟨none, (.pure 15 .mv [(.tmp 51)])⟩])))))))) (.reg [⟨none, (.pure 34 .mv [(.tmp 14)])⟩, ⟨none, (.pure 35 (.bin .add) [(.tmp 34), (.const (.int .i64 1))])⟩, ⟨none, (.pure 14 .mv [(.tmp 35)])⟩]))))))) (.reg [⟨none, (.pure 30 .mv [(.tmp 13)])⟩, ⟨none, (.pure 31 (.bin .add) [(.tmp 30), (.const (.int .i64 1))])⟩, ⟨none, (.pure 13 .mv [(.tmp 31)])⟩]))))))) (.reg [⟨none, (.pure 23 .mv [(.tmp 12)])⟩, ⟨none, (.pure 24 (.bin .add) [(.tmp 23), (.const (.int .i64 1))])⟩, ⟨none, (.pure 12 .mv [(.tmp 24)])⟩])))))) (.seq (.reg [⟨none, (.pure 78 .mv [(.tmp 9)])⟩, ⟨none, (.pure 8 .mv [(.tmp 78)])⟩]) .ret))))))⟩
theorem s66_ok : cFun Try.prog [] Try.f66 = some s66 := by kernel_rfl
theorem hb66 : HasBody Try.prog 66 := ⟨_, Try.func66, by kernel_rfl, by kernel_rfl⟩
set_option maxHeartbeats 4000000 in
theorem p_rRows (f : RPos) (who x y : Int) (hf : RW f) : PF Try.prog 66 [rv f, .int .i64 who, .int .i64 x, .int .i64 y] (.int .i64 (rRows f who x y : Nat)) := by
  intro w
  refine quiet Try.func66 (by kernel_rfl) (by kernel_rfl) s66_ok (by kernel_rfl) ?_
  obtain ⟨w0, w1⟩ := hf
  simp only [↓exP, ↓exQ, ↓need_ite, ↓need_ite', ↓exA, exB, exC, reduceIte, Nat.reduceEqDiff, Nat.reduceAdd, Nat.reduceSub, Nat.reduceMul, Nat.reduceLeDiff, Nat.reduceLT, Int.reduceToNat, Int.reduceBEq, Int.reduceBNe, Int.reduceLT, Int.reduceLE, Int.reduceEq, Int.reduceNeg, decide_true, decide_false, rd1_own, rd_own, hset_notIn, need_ite, need_ite', map_ite, s66, rv_cells, rc_len]
  intro b4 lb4 fb4; try simp only [NotIn] at fb4
  simp only [↓exP, ↓exQ, ↓need_ite, ↓need_ite', ↓exA, exB, exC, reduceIte, Nat.reduceEqDiff, Nat.reduceAdd, Nat.reduceSub, Nat.reduceMul, Nat.reduceLeDiff, Nat.reduceLT, Int.reduceToNat, Int.reduceBEq, Int.reduceBNe, Int.reduceLT, Int.reduceLE, Int.reduceEq, Int.reduceNeg, decide_true, decide_false, rd1_own, rd_own, hset_notIn, need_ite, need_ite', map_ite, lb4]
  intro b10 lb10 fb10; try simp only [NotIn] at fb10
  simp only [↓exP, ↓exQ, ↓need_ite, ↓need_ite', ↓exA, exB, exC, reduceIte, Nat.reduceEqDiff, Nat.reduceAdd, Nat.reduceSub, Nat.reduceMul, Nat.reduceLeDiff, Nat.reduceLT, Int.reduceToNat, Int.reduceBEq, Int.reduceBNe, Int.reduceLT, Int.reduceLE, Int.reduceEq, Int.reduceNeg, decide_true, decide_false, rd1_own, rd_own, hset_notIn, need_ite, need_ite', map_ite, lb10, fb10]
  intro b11 lb11 fb11; try simp only [NotIn] at fb11
  simp only [↓exP, ↓exQ, ↓need_ite, ↓need_ite', ↓exA, exB, exC, reduceIte, Nat.reduceEqDiff, Nat.reduceAdd, Nat.reduceSub, Nat.reduceMul, Nat.reduceLeDiff, Nat.reduceLT, Int.reduceToNat, Int.reduceBEq, Int.reduceBNe, Int.reduceLT, Int.reduceLE, Int.reduceEq, Int.reduceNeg, decide_true, decide_false, rd1_own, rd_own, hset_notIn, need_ite, need_ite', map_ite, lb4, lb10, lb11, fb10, fb11]
  refine SWS.loop (σ := Nat) 0 (fun a => (a : Int) ≤ f 0) (fun a => [(1, .int .i64 who), (2, .int .i64 x), (3, .int .i64 y), (4, .pointer (some ⟨b4, 0, none⟩)), (9, .int .i64 (sumN (rThree f who x y) a : Nat)), (10, .pointer (some ⟨b10, 0, none⟩)), (11, .pointer (some ⟨b11, 0, none⟩)), (12, .int .i64 (a : Nat))])
    (fun _ => [(b11, .cells [.int .i64 0, .int .i64 1, .int .i64 1, .int .i64 1] 4), (b10, .cells [.int .i64 1, .int .i64 1, .int .i64 0, .int .i64 (-1)] 4), (b4, .cells (rc f) 132)]) (fun a => (f 0).toNat - a) (by omega) ?_ ?_ ?_
  · simp [subR, lk, sumN]
  · repeat (first | exact sub_refl _ | exact sub_nil _ | (refine sub_cons (by simp only [List.mem_cons, true_or, or_true]) ?_) | refine sub_tail ?_)
  · intro a hal
    have s1 := sumN_le (rThree f who x y) 32 a (fun i _ => rThree_le f who x y i w1.2)
    rcases Int.lt_or_le (a : Int) (f 0) with hlt | hge
    · have e6 : IntKind.i64.wrap ((a : Int) + 1) = ((a + 1 : Nat) : Int) := by rw [wrap64 _ (by omega)]; omega
      simp only [↓exP, ↓exQ, ↓need_ite, ↓need_ite', ↓exA, exB, exC, reduceIte, Nat.reduceEqDiff, Nat.reduceAdd, Nat.reduceSub, Nat.reduceMul, Nat.reduceLeDiff, Nat.reduceLT, Int.reduceToNat, Int.reduceBEq, Int.reduceBNe, Int.reduceLT, Int.reduceLE, Int.reduceEq, Int.reduceNeg, decide_true, decide_false, rd1_own, rd_own, hset_notIn, need_ite, need_ite', map_ite, lb4, lb10, lb11, fb10, fb11, rc_0, rc_1, hlt]
      refine SWS.loop (σ := Nat) 0 (fun b => (b : Int) ≤ f 1) (fun b => [(1, .int .i64 who), (2, .int .i64 x), (3, .int .i64 y), (4, .pointer (some ⟨b4, 0, none⟩)), (9, .int .i64 (sumN (rThree f who x y) a + sumN (rTwo f who x y a) b : Nat)), (10, .pointer (some ⟨b10, 0, none⟩)), (11, .pointer (some ⟨b11, 0, none⟩)), (12, .int .i64 (a : Nat)), (13, .int .i64 (b : Nat))])
        (fun _ => [(b11, .cells [.int .i64 0, .int .i64 1, .int .i64 1, .int .i64 1] 4), (b10, .cells [.int .i64 1, .int .i64 1, .int .i64 0, .int .i64 (-1)] 4), (b4, .cells (rc f) 132)]) (fun b => (f 1).toNat - b) (by omega) ?_ ?_ ?_
      · simp [subR, lk, sumN]
      · exact fun p hp => hp
      · intro b hbl
        have s2 := sumN_le (rTwo f who x y a) 4 b (fun i _ => rTwo_le f who x y a i)
        rcases Int.lt_or_le (b : Int) (f 1) with hlt2 | hge2
        · have e7 : IntKind.i64.wrap ((b : Int) + 1) = ((b + 1 : Nat) : Int) := by rw [wrap64 _ (by omega)]; omega
          simp only [↓exP, ↓exQ, ↓need_ite, ↓need_ite', ↓exA, exB, exC, reduceIte, Nat.reduceEqDiff, Nat.reduceAdd, Nat.reduceSub, Nat.reduceMul, Nat.reduceLeDiff, Nat.reduceLT, Int.reduceToNat, Int.reduceBEq, Int.reduceBNe, Int.reduceLT, Int.reduceLE, Int.reduceEq, Int.reduceNeg, decide_true, decide_false, rd1_own, rd_own, hset_notIn, need_ite, need_ite', map_ite, lb4, lb10, lb11, fb10, fb11, rc_0, rc_1, hlt2]
          refine SWS.loop (σ := Nat) 0 (fun d => d ≤ 4) (fun d => [(1, .int .i64 who), (2, .int .i64 x), (3, .int .i64 y), (4, .pointer (some ⟨b4, 0, none⟩)), (9, .int .i64 (sumN (rThree f who x y) a + sumN (rTwo f who x y a) b + sumN (rOne f who x y a b) d : Nat)), (10, .pointer (some ⟨b10, 0, none⟩)), (11, .pointer (some ⟨b11, 0, none⟩)), (12, .int .i64 (a : Nat)), (13, .int .i64 (b : Nat)), (14, .int .i64 (d : Nat))])
            (fun _ => [(b11, .cells [.int .i64 0, .int .i64 1, .int .i64 1, .int .i64 1] 4), (b10, .cells [.int .i64 1, .int .i64 1, .int .i64 0, .int .i64 (-1)] 4), (b4, .cells (rc f) 132)]) (fun d => 4 - d) (by omega) ?_ ?_ ?_
          · simp [subR, lk, sumN]
          · exact fun p hp => hp
          · intro d hdl
            have s3 := sumN_le (rOne f who x y a b) 1 d (fun i _ => rOne_le f who x y a b i)
            rcases Nat.lt_or_ge d 4 with hlt3 | hge3
            · have e8 : IntKind.i64.wrap ((d : Int) + 1) = ((d + 1 : Nat) : Int) := by rw [wrap64 _ (by omega)]; omega
              have a1 : (d : Int) < 4 := by omega
              have a2 : 0 ≤ (d : Int) := by omega
              have a3 : (d : Int) < ((4 : Nat) : Int) := by omega
              have gx := dx_get d hlt3
              have gy := dy_get d hlt3
              have bx := dx_bd d
              have by' := dy_bd d
              have hone : rOne f who x y a b d = if rRow f a b (dxN d) (dyN d) who && hitN a b (dxN d) (dyN d) x y 4 then 1 else 0 := rfl
              have hsum : sumN (rOne f who x y a b) (d + 1) = sumN (rOne f who x y a b) d + rOne f who x y a b d := rfl
              simp only [↓exP, ↓exQ, ↓need_ite, ↓need_ite', ↓exA, exB, exC, reduceIte, Nat.reduceEqDiff, Nat.reduceAdd, Nat.reduceSub, Nat.reduceMul, Nat.reduceLeDiff, Nat.reduceLT, Int.reduceToNat, Int.reduceBEq, Int.reduceBNe, Int.reduceLT, Int.reduceLE, Int.reduceEq, Int.reduceNeg, decide_true, decide_false, rd1_own, rd_own, hset_notIn, need_ite, need_ite', map_ite, lb4, lb10, lb11, fb10, fb11, rc_0, rc_1, rc_len, rc_take, rv_fold, a1, a2, a3, gx, gy]
              refine qcall_q (fun w hs => p_rRow f a b _ _ who ⟨w0, w1⟩ (by omega) (by omega) bx by' w) ?_
              cases hrow : rRow f a b (dxN d) (dyN d) who
              · simp only [↓exP, ↓exQ, ↓need_ite, ↓need_ite', ↓exA, exB, exC, reduceIte, Nat.reduceEqDiff, Nat.reduceAdd, Nat.reduceSub, Nat.reduceMul, Nat.reduceLeDiff, Nat.reduceLT, Int.reduceToNat, Int.reduceBEq, Int.reduceBNe, Int.reduceLT, Int.reduceLE, Int.reduceEq, Int.reduceNeg, decide_true, decide_false, rd1_own, rd_own, hset_notIn, need_ite, need_ite', map_ite, e8]
                refine ⟨d + 1, ⟨by omega, by omega⟩, ?_, fun p hp => hp⟩
                rw [hsum, hone, hrow]
                simp [subR, lk]
              · rw [hrow, Bool.true_and] at hone
                simp only [↓exP, ↓exQ, ↓need_ite, ↓need_ite', ↓exA, exB, exC, reduceIte, Nat.reduceEqDiff, Nat.reduceAdd, Nat.reduceSub, Nat.reduceMul, Nat.reduceLeDiff, Nat.reduceLT, Int.reduceToNat, Int.reduceBEq, Int.reduceBNe, Int.reduceLT, Int.reduceLE, Int.reduceEq, Int.reduceNeg, decide_true, decide_false, rd1_own, rd_own, hset_notIn, need_ite, need_ite', map_ite, e8]
                refine SWS.loop (σ := Nat) 0 (fun i => i ≤ 4 ∧ hitN a b (dxN d) (dyN d) x y i = false) (fun i => [(1, .int .i64 who), (2, .int .i64 x), (3, .int .i64 y), (4, .pointer (some ⟨b4, 0, none⟩)), (9, .int .i64 (sumN (rThree f who x y) a + sumN (rTwo f who x y a) b + sumN (rOne f who x y a b) d : Nat)), (10, .pointer (some ⟨b10, 0, none⟩)), (11, .pointer (some ⟨b11, 0, none⟩)), (12, .int .i64 (a : Nat)), (13, .int .i64 (b : Nat)), (14, .int .i64 (d : Nat)), (15, .int .i64 (i : Nat))])
                  (fun _ => [(b11, .cells [.int .i64 0, .int .i64 1, .int .i64 1, .int .i64 1] 4), (b10, .cells [.int .i64 1, .int .i64 1, .int .i64 0, .int .i64 (-1)] 4), (b4, .cells (rc f) 132)]) (fun i => 4 - i) ⟨by omega, rfl⟩ ?_ ?_ ?_
                · simp [subR, lk]
                · exact fun p hp => hp
                · rintro i ⟨hil, hno⟩
                  have hsucc := hitN_succ a b (dxN d) (dyN d) x y i
                  rw [hno, Bool.false_or] at hsucc
                  have e9 : IntKind.i64.wrap ((i : Int) + 1) = ((i + 1 : Nat) : Int) := by rw [wrap64 _ (by omega)]; omega
                  have m1 := mul_bd (x := (i : Int)) (h := dxN d) (A := 4) (B := 1) (by omega) (by omega)
                  have m2 := mul_bd (x := (i : Int)) (h := dyN d) (A := 4) (B := 1) (by omega) (by omega)
                  have q1 : IntKind.i64.wrap ((i : Int) * dxN d) = (i : Int) * dxN d := wrap64 _ (by omega)
                  have q2 : IntKind.i64.wrap ((i : Int) * dyN d) = (i : Int) * dyN d := wrap64 _ (by omega)
                  have q3 : IntKind.i64.wrap ((a : Int) + (i : Int) * dxN d) = (a : Int) + (i : Int) * dxN d := wrap64 _ (by omega)
                  have q4 : IntKind.i64.wrap ((b : Int) + (i : Int) * dyN d) = (b : Int) + (i : Int) * dyN d := wrap64 _ (by omega)
                  have q5 : IntKind.i64.wrap (((sumN (rThree f who x y) a + sumN (rTwo f who x y a) b + sumN (rOne f who x y a b) d : Nat) : Int) + 1) = ((sumN (rThree f who x y) a + sumN (rTwo f who x y a) b + (sumN (rOne f who x y a b) d + 1) : Nat) : Int) := by rw [wrap64 _ (by omega)]; omega
                  rcases Nat.lt_or_ge i 4 with hlt4 | hge4
                  · have b1 : (i : Int) < 4 := by omega
                    have hhit : hitN a b (dxN d) (dyN d) x y (i + 1) = true → rOne f who x y a b d = 1 := by
                      intro h; rw [hone, if_pos]
                      obtain ⟨j, h1, h2⟩ := hitN_iff.1 h
                      exact hitN_iff.2 ⟨j, by omega, h2⟩
                    rcases Decidable.em (x < 0) with c1 | c1
                    · have hh := hhit (by rw [hsucc]; simp [c1])
                      simp only [↓exP, ↓exQ, ↓need_ite, ↓need_ite', ↓exA, exB, exC, reduceIte, Nat.reduceEqDiff, Nat.reduceAdd, Nat.reduceSub, Nat.reduceMul, Nat.reduceLeDiff, Nat.reduceLT, Int.reduceToNat, Int.reduceBEq, Int.reduceBNe, Int.reduceLT, Int.reduceLE, Int.reduceEq, Int.reduceNeg, decide_true, decide_false, rd1_own, rd_own, hset_notIn, need_ite, need_ite', map_ite, lb4, lb10, lb11, fb10, fb11, b1, c1, a2, a3, gx, gy, e8, q5]
                      refine ⟨d + 1, ⟨by omega, by omega⟩, ?_, fun p hp => hp⟩
                      rw [hsum, hh]
                      simp [subR, lk]
                    · rcases Decidable.em ((a : Int) + (i : Int) * dxN d = x) with c2 | c2
                      · have q6 : IntKind.i64.wrap x = x := by rw [← c2]; exact q3
                        rcases Decidable.em ((b : Int) + (i : Int) * dyN d = y) with c3 | c3
                        · have q7 : IntKind.i64.wrap y = y := by rw [← c3]; exact q4
                          have hh := hhit (by rw [hsucc]; simp [c2, c3])
                          simp only [↓exP, ↓exQ, ↓need_ite, ↓need_ite', ↓exA, exB, exC, reduceIte, Nat.reduceEqDiff, Nat.reduceAdd, Nat.reduceSub, Nat.reduceMul, Nat.reduceLeDiff, Nat.reduceLT, Int.reduceToNat, Int.reduceBEq, Int.reduceBNe, Int.reduceLT, Int.reduceLE, Int.reduceEq, Int.reduceNeg, decide_true, decide_false, rd1_own, rd_own, hset_notIn, need_ite, need_ite', map_ite, lb4, lb10, lb11, fb10, fb11, b1, c1, a2, a3, gx, gy, e8, q1, q2, q3, q4, q5, q6, q7, c2, c3]
                          refine ⟨d + 1, ⟨by omega, by omega⟩, ?_, fun p hp => hp⟩
                          rw [hsum, hh]
                          simp [subR, lk]
                        · simp only [↓exP, ↓exQ, ↓need_ite, ↓need_ite', ↓exA, exB, exC, reduceIte, Nat.reduceEqDiff, Nat.reduceAdd, Nat.reduceSub, Nat.reduceMul, Nat.reduceLeDiff, Nat.reduceLT, Int.reduceToNat, Int.reduceBEq, Int.reduceBNe, Int.reduceLT, Int.reduceLE, Int.reduceEq, Int.reduceNeg, decide_true, decide_false, rd1_own, rd_own, hset_notIn, need_ite, need_ite', map_ite, lb4, lb10, lb11, fb10, fb11, b1, c1, a2, a3, gx, gy, e9, q1, q2, q3, q4, q6, c2, c3]
                          refine ⟨i + 1, ⟨⟨by omega, by rw [hsucc]; simp [c1, c3]⟩, by omega⟩, by simp [subR, lk], fun p hp => hp⟩
                      · simp only [↓exP, ↓exQ, ↓need_ite, ↓need_ite', ↓exA, exB, exC, reduceIte, Nat.reduceEqDiff, Nat.reduceAdd, Nat.reduceSub, Nat.reduceMul, Nat.reduceLeDiff, Nat.reduceLT, Int.reduceToNat, Int.reduceBEq, Int.reduceBNe, Int.reduceLT, Int.reduceLE, Int.reduceEq, Int.reduceNeg, decide_true, decide_false, rd1_own, rd_own, hset_notIn, need_ite, need_ite', map_ite, lb4, lb10, lb11, fb10, fb11, b1, c1, a2, a3, gx, gy, e9, q1, q2, q3, q4, c2]
                        refine ⟨i + 1, ⟨⟨by omega, by rw [hsucc]; simp [c1, c2]⟩, by omega⟩, by simp [subR, lk], fun p hp => hp⟩
                  · have hi' : i = 4 := by omega
                    have b1 : ¬ ((4 : Nat) : Int) < 4 := by omega
                    subst hi'
                    simp only [↓exP, ↓exQ, ↓need_ite, ↓need_ite', ↓exA, exB, exC, reduceIte, Nat.reduceEqDiff, Nat.reduceAdd, Nat.reduceSub, Nat.reduceMul, Nat.reduceLeDiff, Nat.reduceLT, Int.reduceToNat, Int.reduceBEq, Int.reduceBNe, Int.reduceLT, Int.reduceLE, Int.reduceEq, Int.reduceNeg, decide_true, decide_false, rd1_own, rd_own, hset_notIn, need_ite, need_ite', map_ite, b1, e8]
                    refine ⟨d + 1, ⟨by omega, by omega⟩, ?_, fun p hp => hp⟩
                    rw [hsum, hone, hno]
                    simp [subR, lk]
            · have hd' : d = 4 := by omega
              have a1 : ¬ ((4 : Nat) : Int) < 4 := by omega
              subst hd'
              simp only [↓exP, ↓exQ, ↓need_ite, ↓need_ite', ↓exA, exB, exC, reduceIte, Nat.reduceEqDiff, Nat.reduceAdd, Nat.reduceSub, Nat.reduceMul, Nat.reduceLeDiff, Nat.reduceLT, Int.reduceToNat, Int.reduceBEq, Int.reduceBNe, Int.reduceLT, Int.reduceLE, Int.reduceEq, Int.reduceNeg, decide_true, decide_false, rd1_own, rd_own, hset_notIn, need_ite, need_ite', map_ite, a1, e7]
              refine ⟨b + 1, ⟨by omega, by omega⟩, ?_, fun p hp => hp⟩
              have : sumN (rTwo f who x y a) (b + 1) = sumN (rTwo f who x y a) b + sumN (rOne f who x y a b) 4 := rfl
              rw [this, ← Nat.add_assoc]
              simp [subR, lk]
        · have hb' : b = (f 1).toNat := by omega
          have a1 : ¬ (b : Int) < f 1 := by omega
          simp only [↓exP, ↓exQ, ↓need_ite, ↓need_ite', ↓exA, exB, exC, reduceIte, Nat.reduceEqDiff, Nat.reduceAdd, Nat.reduceSub, Nat.reduceMul, Nat.reduceLeDiff, Nat.reduceLT, Int.reduceToNat, Int.reduceBEq, Int.reduceBNe, Int.reduceLT, Int.reduceLE, Int.reduceEq, Int.reduceNeg, decide_true, decide_false, rd1_own, rd_own, hset_notIn, need_ite, need_ite', map_ite, lb4, fb10, fb11, rc_1, a1, e6]
          refine ⟨a + 1, ⟨by omega, by omega⟩, ?_, fun p hp => hp⟩
          have : sumN (rThree f who x y) (a + 1) = sumN (rThree f who x y) a + sumN (rTwo f who x y a) b := by rw [hb']; rfl
          rw [this]
          simp [subR, lk]
    · have ha' : a = (f 0).toNat := by omega
      have a1 : ¬ (a : Int) < f 0 := by omega
      simp only [↓exP, ↓exQ, ↓need_ite, ↓need_ite', ↓exA, exB, exC, reduceIte, Nat.reduceEqDiff, Nat.reduceAdd, Nat.reduceSub, Nat.reduceMul, Nat.reduceLeDiff, Nat.reduceLT, Int.reduceToNat, Int.reduceBEq, Int.reduceBNe, Int.reduceLT, Int.reduceLE, Int.reduceEq, Int.reduceNeg, decide_true, decide_false, rd1_own, rd_own, hset_notIn, need_ite, need_ite', map_ite, lb4, fb10, fb11, rc_0, a1]
      refine ends_q ?_
      rw [ha']; rfl
end Go.SL
