/- Positions in words: what the functions of package pos come to. -/
import Derived.Test.YtppajifkmepdnaaU3
import Derived.Test.YtppajifkmepdnaaM3
set_option linter.unusedSimpArgs false
set_option linter.unusedVariables false
namespace Go.SL
open Go.Proofs
set_option maxRecDepth 8000
def s74 : SFun := ⟨[], 6, [(.tmp 2)], (.seq (.reg [⟨none, (.pure 2 .mv [(.const (.int .i64 0))])⟩]) (.seq (.reg [⟨none, (.pure 3 .mv [(.tmp 0)])⟩, ⟨none, (.pure 4 (.bin .rem) [(.tmp 3), (.const (.int .i64 2))])⟩, ⟨none, (.pure 5 (.bin .add) [(.const (.int .i64 1)), (.tmp 4)])⟩, ⟨none, (.pure 2 .mv [(.tmp 5)])⟩]) .ret))⟩
theorem s74_ok : cFun Try.prog [] Try.f74 = some s74 := by kernel_rfl
theorem hb74 : HasBody Try.prog 74 := ⟨_, Try.func74, by kernel_rfl, by kernel_rfl⟩
theorem p_pside (n : Int) : PF Try.prog 74 [.int .i64 n] (.int .i64 (sideP n)) := by
  intro w
  refine quiet Try.func74 (by kernel_rfl) (by kernel_rfl) s74_ok (by kernel_rfl) ?_
  have e1 : IntKind.i64.wrap (1 + n.tmod 2) = 1 + n.tmod 2 := wrap64 _ (by have := tmod2 n; omega)
  repeat' (first
    | (simp only [↓exP, ↓exQ, ↓need_ite, ↓need_ite', ↓exA, exB, exC, reduceIte, Nat.reduceEqDiff, Nat.reduceAdd, Nat.reduceSub, Nat.reduceMul, Nat.reduceLeDiff, Nat.reduceLT, Int.reduceToNat, Int.reduceBEq, Int.reduceBNe, Int.reduceLT, Int.reduceLE, Int.reduceEq, Int.reduceNeg, decide_true, decide_false, rd1_own, rd_own, hset_notIn, need_ite, need_ite', map_ite, s74, wv_fold, ppv_fold, bdv_fold, *]; done)
    | simp only [↓exP, ↓exQ, ↓need_ite, ↓need_ite', ↓exA, exB, exC, reduceIte, Nat.reduceEqDiff, Nat.reduceAdd, Nat.reduceSub, Nat.reduceMul, Nat.reduceLeDiff, Nat.reduceLT, Int.reduceToNat, Int.reduceBEq, Int.reduceBNe, Int.reduceLT, Int.reduceLE, Int.reduceEq, Int.reduceNeg, decide_true, decide_false, rd1_own, rd_own, hset_notIn, need_ite, need_ite', map_ite, s74, wv_fold, ppv_fold, bdv_fold, *]
    | (intro xb hl hf; try simp only [NotIn] at hf)
    | refine And.intro (fun hc => ?_) (fun hc => ?_)
    | refine ends_q ?_
    | exact wv_fold _
    | (refine And.intro (by first | omega | (simp only [*]; omega)) ?_))
  rfl
def s26 : SFun := ⟨[], 14, [(.cell 2 51), (.tmp 3)], (.seq (.reg [⟨none, (.box 1 (.tmp 0))⟩, ⟨none, (.alloc 2 [(.int .i64 0), (.int .i64 0), (.int .u64 0), (.int .u64 0), (.int .u64 0), (.int .u64 0), (.int .u64 0), (.int .u64 0), (.int .u64 0), (.int .u64 0), (.int .i64 0), (.bool false)])⟩, ⟨none, (.pure 3 .mv [(.const (.int .i64 0))])⟩]) (.seq (.seq (.reg [⟨none, (.loadN 4 (.tmp 1) 2)⟩, ⟨none, (.call (some 5) (.func 56) [(.tmp 4)])⟩, ⟨none, (.pure 6 (.un .not) [(.tmp 5)])⟩]) (.cond (.tmp 6) (.seq (.reg [⟨none, (.pure 7 (.build [(.int .i64 0), (.int .i64 0), (.int .u64 0), (.int .u64 0), (.int .u64 0), (.int .u64 0), (.int .u64 0), (.int .u64 0), (.int .u64 0), (.int .u64 0), (.int .i64 0), (.bool false)] []) [])⟩, ⟨none, (.storeN (.tmp 2) (.tmp 7) 12)⟩, ⟨none, (.pure 3 .mv [(.const (.int .i64 10))])⟩]) .ret) .skip)) (.seq (.draw ⟨[(⟨none, (.loadN 8 (.tmp 1) 2)⟩, false), (⟨none, (.loadN 9 (.tmp 1) 2)⟩, false), (⟨none, (.call (some 10) (.func 57) [(.tmp 9)])⟩, false), (⟨none, (.loadN 11 (.tmp 1) 2)⟩, false), (⟨none, (.call (some 12) (.func 58) [(.tmp 11)])⟩, false), (⟨none, (.pure 13 (.build [(.int .i64 0), (.int .i64 0), (.int .u64 0), (.int .u64 0), (.int .u64 0), (.int .u64 0), (.int .u64 0), (.int .u64 0), (.int .u64 0), (.int .u64 0), (.int .i64 0), (.bool false)] [(0, 2), (2, 2), (4, 2)]) [(.tmp 8), (.tmp 10), (.tmp 12)])⟩, false)], [], none, [⟨none, (.storeN (.tmp 2) (.tmp 13) 12)⟩, ⟨none, (.pure 3 .mv [(.const (.int .i64 0))])⟩]⟩) .ret)))⟩
theorem s26_ok : cFun Try.prog [] Try.f26 = some s26 := by kernel_rfl
theorem hb26 : HasBody Try.prog 26 := ⟨_, Try.func26, by kernel_rfl, by kernel_rfl⟩
theorem p_PNew (b : Bd) : PF Try.prog 26 [bdv b] (.tuple #[ppv (newP b), .int .i64 (newE b)]) := by
  intro w
  refine quiet Try.func26 (by kernel_rfl) (by kernel_rfl) s26_ok (by kernel_rfl) ?_
  rcases Bool.eq_false_or_eq_true (mayB b) with h1 | h1
  · rw [show newP b = ⟨b, fullB b, eachB b 0, 0, 0, 0, false⟩ from if_pos h1, show newE b = 0 from if_pos h1]
    repeat' (first
    | (simp only [↓exP, ↓exQ, ↓need_ite, ↓need_ite', ↓exA, exB, exC, reduceIte, Nat.reduceEqDiff, Nat.reduceAdd, Nat.reduceSub, Nat.reduceMul, Nat.reduceLeDiff, Nat.reduceLT, Int.reduceToNat, Int.reduceBEq, Int.reduceBNe, Int.reduceLT, Int.reduceLE, Int.reduceEq, Int.reduceNeg, decide_true, decide_false, rd1_own, rd_own, hset_notIn, need_ite, need_ite', map_ite, s26, resV_cellN ti51, bdv_cells, wv_cells, wv_fold, ppv_fold, bdv_fold, *]; done)
    | simp only [↓exP, ↓exQ, ↓need_ite, ↓need_ite', ↓exA, exB, exC, reduceIte, Nat.reduceEqDiff, Nat.reduceAdd, Nat.reduceSub, Nat.reduceMul, Nat.reduceLeDiff, Nat.reduceLT, Int.reduceToNat, Int.reduceBEq, Int.reduceBNe, Int.reduceLT, Int.reduceLE, Int.reduceEq, Int.reduceNeg, decide_true, decide_false, rd1_own, rd_own, hset_notIn, need_ite, need_ite', map_ite, s26, resV_cellN ti51, bdv_cells, wv_cells, wv_fold, ppv_fold, bdv_fold, *]
    | refine vcall_q (fun w hs => p_May b w) ?_
    | refine qcall_q (fun w hs => p_May b w) ?_
    | refine vcall_q (fun w hs => p_Full b w) ?_
    | refine qcall_q (fun w hs => p_Full b w) ?_
    | refine vcall_q (fun w hs => p_Bottom b w) ?_
    | refine qcall_q (fun w hs => p_Bottom b w) ?_
    | (intro xb hl hf; try simp only [NotIn] at hf)
    | refine And.intro (fun hc => ?_) (fun hc => ?_)
    | refine ends_q ?_
    | exact wv_fold _
    | (refine And.intro (by first | omega | (simp only [*]; omega)) ?_))
    simp [ppv, hi, lo]
  · have h2 : ¬ mayB b = true := by simp [h1]
    rw [show newP b = ppZ from if_neg h2, show newE b = 10 from if_neg h2]
    clear h2
    repeat' (first
    | (simp only [↓exP, ↓exQ, ↓need_ite, ↓need_ite', ↓exA, exB, exC, reduceIte, Nat.reduceEqDiff, Nat.reduceAdd, Nat.reduceSub, Nat.reduceMul, Nat.reduceLeDiff, Nat.reduceLT, Int.reduceToNat, Int.reduceBEq, Int.reduceBNe, Int.reduceLT, Int.reduceLE, Int.reduceEq, Int.reduceNeg, decide_true, decide_false, rd1_own, rd_own, hset_notIn, need_ite, need_ite', map_ite, s26, resV_cellN ti51, bdv_cells, wv_cells, wv_fold, ppv_fold, bdv_fold, *]; done)
    | simp only [↓exP, ↓exQ, ↓need_ite, ↓need_ite', ↓exA, exB, exC, reduceIte, Nat.reduceEqDiff, Nat.reduceAdd, Nat.reduceSub, Nat.reduceMul, Nat.reduceLeDiff, Nat.reduceLT, Int.reduceToNat, Int.reduceBEq, Int.reduceBNe, Int.reduceLT, Int.reduceLE, Int.reduceEq, Int.reduceNeg, decide_true, decide_false, rd1_own, rd_own, hset_notIn, need_ite, need_ite', map_ite, s26, resV_cellN ti51, bdv_cells, wv_cells, wv_fold, ppv_fold, bdv_fold, *]
    | refine vcall_q (fun w hs => p_May b w) ?_
    | refine qcall_q (fun w hs => p_May b w) ?_
    | refine vcall_q (fun w hs => p_Full b w) ?_
    | refine qcall_q (fun w hs => p_Full b w) ?_
    | refine vcall_q (fun w hs => p_Bottom b w) ?_
    | refine qcall_q (fun w hs => p_Bottom b w) ?_
    | (intro xb hl hf; try simp only [NotIn] at hf)
    | refine And.intro (fun hc => ?_) (fun hc => ?_)
    | refine ends_q ?_
    | exact wv_fold _
    | (refine And.intro (by first | omega | (simp only [*]; omega)) ?_))
    rw [ppZ_v]
def s37 : SFun := ⟨[], 13, [(.tmp 2)], (.seq (.reg [⟨none, (.box 1 (.tmp 0))⟩, ⟨none, (.pure 2 .mv [(.const (.bool false))])⟩]) (.seq (.draw ⟨[(⟨none, (.pure 3 (.fad 11) [(.tmp 1)])⟩, false), (⟨none, (.load1 4 (.tmp 3))⟩, false), (⟨none, (.pure 5 .mv [(.tmp 4)])⟩, false), (⟨(some (5, false)), (.pure 6 (.fad 10) [(.tmp 1)])⟩, false), (⟨(some (5, false)), (.load1 7 (.tmp 6))⟩, false), (⟨(some (5, false)), (.pure 8 (.fad 0) [(.tmp 1)])⟩, false), (⟨(some (5, false)), (.loadN 9 (.tmp 8) 2)⟩, false), (⟨(some (5, false)), (.call (some 10) (.func 73) [(.tmp 9)])⟩, false), (⟨(some (5, false)), (.pure 11 (.bin .eql) [(.tmp 7), (.tmp 10)])⟩, false), (⟨none, (.pure 12 .pick [(.tmp 5), (.const (.bool true)), (.tmp 11)])⟩, false)], [], none, [⟨none, (.pure 2 .mv [(.tmp 12)])⟩]⟩) .ret))⟩
theorem s37_ok : cFun Try.prog [] Try.f37 = some s37 := by kernel_rfl
theorem hb37 : HasBody Try.prog 37 := ⟨_, Try.func37, by kernel_rfl, by kernel_rfl⟩
theorem p_POver (p : PPos) : PF Try.prog 37 [ppv p] (.bool (overP p)) := by
  intro w
  refine quiet Try.func37 (by kernel_rfl) (by kernel_rfl) s37_ok (by kernel_rfl) ?_
  repeat' (first
    | (simp only [↓exP, ↓exQ, ↓need_ite, ↓need_ite', ↓exA, exB, exC, reduceIte, Nat.reduceEqDiff, Nat.reduceAdd, Nat.reduceSub, Nat.reduceMul, Nat.reduceLeDiff, Nat.reduceLT, Int.reduceToNat, Int.reduceBEq, Int.reduceBNe, Int.reduceLT, Int.reduceLE, Int.reduceEq, Int.reduceNeg, decide_true, decide_false, rd1_own, rd_own, hset_notIn, need_ite, need_ite', map_ite, s37, ppv_cells, wv_fold, ppv_fold, bdv_fold, *]; done)
    | simp only [↓exP, ↓exQ, ↓need_ite, ↓need_ite', ↓exA, exB, exC, reduceIte, Nat.reduceEqDiff, Nat.reduceAdd, Nat.reduceSub, Nat.reduceMul, Nat.reduceLeDiff, Nat.reduceLT, Int.reduceToNat, Int.reduceBEq, Int.reduceBNe, Int.reduceLT, Int.reduceLE, Int.reduceEq, Int.reduceNeg, decide_true, decide_false, rd1_own, rd_own, hset_notIn, need_ite, need_ite', map_ite, s37, ppv_cells, wv_fold, ppv_fold, bdv_fold, *]
    | refine vcall_q (fun w hs => p_Cells p.b w) ?_
    | refine qcall_q (fun w hs => p_Cells p.b w) ?_
    | (intro xb hl hf; try simp only [NotIn] at hf)
    | refine And.intro (fun hc => ?_) (fun hc => ?_)
    | refine ends_q ?_
    | exact wv_fold _
    | (refine And.intro (by first | omega | (simp only [*]; omega)) ?_))
  · simp [overP, hc]
  · simp [overP, hc]
def s60 : SFun := ⟨[], 18, [(.cell 4 49)], (.seq (.reg [⟨none, (.box 2 (.tmp 0))⟩, ⟨none, (.alloc 4 [(.int .u64 0), (.int .u64 0)])⟩]) (.seq (.draw ⟨[(⟨none, (.pure 5 (.fad 8) [(.tmp 2)])⟩, false), (⟨none, (.loadN 6 (.tmp 5) 2)⟩, false), (⟨none, (.pure 7 (.fad 4) [(.tmp 2)])⟩, false), (⟨none, (.loadN 8 (.tmp 7) 2)⟩, false), (⟨none, (.call (some 9) (.func 85) [(.tmp 6), (.tmp 8)])⟩, false), (⟨none, (.pure 10 (.fad 2) [(.tmp 2)])⟩, false), (⟨none, (.loadN 11 (.tmp 10) 2)⟩, false), (⟨none, (.call (some 12) (.func 84) [(.tmp 9), (.tmp 11)])⟩, false), (⟨none, (.pure 13 (.fad 0) [(.tmp 2)])⟩, false), (⟨none, (.loadN 14 (.tmp 13) 2)⟩, false), (⟨none, (.pure 15 .mv [(.tmp 1)])⟩, false), (⟨none, (.call (some 16) (.func 86) [(.tmp 14), (.tmp 15)])⟩, false), (⟨none, (.call (some 17) (.func 84) [(.tmp 12), (.tmp 16)])⟩, false)], [], none, [⟨none, (.storeN (.tmp 4) (.tmp 17) 2)⟩]⟩) .ret))⟩
theorem s60_ok : cFun Try.prog [] Try.f60 = some s60 := by kernel_rfl
theorem hb60 : HasBody Try.prog 60 := ⟨_, Try.func60, by kernel_rfl, by kernel_rfl⟩
theorem p_Pat (p : PPos) (x : Int) : PF Try.prog 60 [ppv p, .int .i64 x] (wv (atP p x)) := by
  intro w
  refine quiet Try.func60 (by kernel_rfl) (by kernel_rfl) s60_ok (by kernel_rfl) ?_
  repeat' (first
    | (simp only [↓exP, ↓exQ, ↓need_ite, ↓need_ite', ↓exA, exB, exC, reduceIte, Nat.reduceEqDiff, Nat.reduceAdd, Nat.reduceSub, Nat.reduceMul, Nat.reduceLeDiff, Nat.reduceLT, Int.reduceToNat, Int.reduceBEq, Int.reduceBNe, Int.reduceLT, Int.reduceLE, Int.reduceEq, Int.reduceNeg, decide_true, decide_false, rd1_own, rd_own, hset_notIn, need_ite, need_ite', map_ite, s60, resV_cellN ti49, ppv_cells, wv_cells, wv_fold, ppv_fold, bdv_fold, *]; done)
    | simp only [↓exP, ↓exQ, ↓need_ite, ↓need_ite', ↓exA, exB, exC, reduceIte, Nat.reduceEqDiff, Nat.reduceAdd, Nat.reduceSub, Nat.reduceMul, Nat.reduceLeDiff, Nat.reduceLT, Int.reduceToNat, Int.reduceBEq, Int.reduceBNe, Int.reduceLT, Int.reduceLE, Int.reduceEq, Int.reduceNeg, decide_true, decide_false, rd1_own, rd_own, hset_notIn, need_ite, need_ite', map_ite, s60, resV_cellN ti49, ppv_cells, wv_cells, wv_fold, ppv_fold, bdv_fold, *]
    | refine vcall_q (fun w hs => p_Add _ _ w) ?_
    | refine qcall_q (fun w hs => p_Add _ _ w) ?_
    | refine vcall_q (fun w hs => p_And _ _ w) ?_
    | refine qcall_q (fun w hs => p_And _ _ w) ?_
    | refine vcall_q (fun w hs => p_Column _ _ w) ?_
    | refine qcall_q (fun w hs => p_Column _ _ w) ?_
    | (intro xb hl hf; try simp only [NotIn] at hf)
    | refine And.intro (fun hc => ?_) (fun hc => ?_)
    | refine ends_q ?_
    | exact wv_fold _
    | (refine And.intro (by first | omega | (simp only [*]; omega)) ?_))
def s43 : SFun := ⟨[], 8, [(.cell 2 49)], (.seq (.reg [⟨none, (.box 1 (.tmp 0))⟩, ⟨none, (.alloc 2 [(.int .u64 0), (.int .u64 0)])⟩]) (.seq (.reg [⟨none, (.pure 3 (.fad 8) [(.tmp 1)])⟩, ⟨none, (.loadN 4 (.tmp 3) 2)⟩, ⟨none, (.pure 5 (.fad 6) [(.tmp 1)])⟩, ⟨none, (.loadN 6 (.tmp 5) 2)⟩, ⟨none, (.call (some 7) (.func 75) [(.tmp 4), (.tmp 6)])⟩, ⟨none, (.storeN (.tmp 2) (.tmp 7) 2)⟩]) .ret))⟩
theorem s43_ok : cFun Try.prog [] Try.f43 = some s43 := by kernel_rfl
theorem hb43 : HasBody Try.prog 43 := ⟨_, Try.func43, by kernel_rfl, by kernel_rfl⟩
theorem p_PTheirs (p : PPos) : PF Try.prog 43 [ppv p] (wv (theirsP p)) := by
  intro w
  refine quiet Try.func43 (by kernel_rfl) (by kernel_rfl) s43_ok (by kernel_rfl) ?_
  repeat' (first
    | (simp only [↓exP, ↓exQ, ↓need_ite, ↓need_ite', ↓exA, exB, exC, reduceIte, Nat.reduceEqDiff, Nat.reduceAdd, Nat.reduceSub, Nat.reduceMul, Nat.reduceLeDiff, Nat.reduceLT, Int.reduceToNat, Int.reduceBEq, Int.reduceBNe, Int.reduceLT, Int.reduceLE, Int.reduceEq, Int.reduceNeg, decide_true, decide_false, rd1_own, rd_own, hset_notIn, need_ite, need_ite', map_ite, s43, resV_cellN ti49, ppv_cells, wv_cells, wv_fold, ppv_fold, bdv_fold, *]; done)
    | simp only [↓exP, ↓exQ, ↓need_ite, ↓need_ite', ↓exA, exB, exC, reduceIte, Nat.reduceEqDiff, Nat.reduceAdd, Nat.reduceSub, Nat.reduceMul, Nat.reduceLeDiff, Nat.reduceLT, Int.reduceToNat, Int.reduceBEq, Int.reduceBNe, Int.reduceLT, Int.reduceLE, Int.reduceEq, Int.reduceNeg, decide_true, decide_false, rd1_own, rd_own, hset_notIn, need_ite, need_ite', map_ite, s43, resV_cellN ti49, ppv_cells, wv_cells, wv_fold, ppv_fold, bdv_fold, *]
    | refine vcall_q (fun w hs => p_Xor _ _ w) ?_
    | refine qcall_q (fun w hs => p_Xor _ _ w) ?_
    | (intro xb hl hf; try simp only [NotIn] at hf)
    | refine And.intro (fun hc => ?_) (fun hc => ?_)
    | refine ends_q ?_
    | exact wv_fold _
    | (refine And.intro (by first | omega | (simp only [*]; omega)) ?_))
def s42 : SFun := ⟨[], 5, [(.cell 2 49)], (.seq (.reg [⟨none, (.box 1 (.tmp 0))⟩, ⟨none, (.alloc 2 [(.int .u64 0), (.int .u64 0)])⟩]) (.seq (.reg [⟨none, (.pure 3 (.fad 6) [(.tmp 1)])⟩, ⟨none, (.loadN 4 (.tmp 3) 2)⟩, ⟨none, (.storeN (.tmp 2) (.tmp 4) 2)⟩]) .ret))⟩
theorem s42_ok : cFun Try.prog [] Try.f42 = some s42 := by kernel_rfl
theorem hb42 : HasBody Try.prog 42 := ⟨_, Try.func42, by kernel_rfl, by kernel_rfl⟩
theorem p_PMine (p : PPos) : PF Try.prog 42 [ppv p] (wv p.mine) := by
  intro w
  refine quiet Try.func42 (by kernel_rfl) (by kernel_rfl) s42_ok (by kernel_rfl) ?_
  repeat' (first
    | (simp only [↓exP, ↓exQ, ↓need_ite, ↓need_ite', ↓exA, exB, exC, reduceIte, Nat.reduceEqDiff, Nat.reduceAdd, Nat.reduceSub, Nat.reduceMul, Nat.reduceLeDiff, Nat.reduceLT, Int.reduceToNat, Int.reduceBEq, Int.reduceBNe, Int.reduceLT, Int.reduceLE, Int.reduceEq, Int.reduceNeg, decide_true, decide_false, rd1_own, rd_own, hset_notIn, need_ite, need_ite', map_ite, s42, resV_cellN ti49, ppv_cells, wv_cells, wv_fold, ppv_fold, bdv_fold, *]; done)
    | simp only [↓exP, ↓exQ, ↓need_ite, ↓need_ite', ↓exA, exB, exC, reduceIte, Nat.reduceEqDiff, Nat.reduceAdd, Nat.reduceSub, Nat.reduceMul, Nat.reduceLeDiff, Nat.reduceLT, Int.reduceToNat, Int.reduceBEq, Int.reduceBNe, Int.reduceLT, Int.reduceLE, Int.reduceEq, Int.reduceNeg, decide_true, decide_false, rd1_own, rd_own, hset_notIn, need_ite, need_ite', map_ite, s42, resV_cellN ti49, ppv_cells, wv_cells, wv_fold, ppv_fold, bdv_fold, *]
    | (intro xb hl hf; try simp only [NotIn] at hf)
    | refine And.intro (fun hc => ?_) (fun hc => ?_)
    | refine ends_q ?_
    | exact wv_fold _
    | (refine And.intro (by first | omega | (simp only [*]; omega)) ?_))
def s44 : SFun := ⟨[], 5, [(.cell 2 49)], (.seq (.reg [⟨none, (.box 1 (.tmp 0))⟩, ⟨none, (.alloc 2 [(.int .u64 0), (.int .u64 0)])⟩]) (.seq (.reg [⟨none, (.pure 3 (.fad 8) [(.tmp 1)])⟩, ⟨none, (.loadN 4 (.tmp 3) 2)⟩, ⟨none, (.storeN (.tmp 2) (.tmp 4) 2)⟩]) .ret))⟩
theorem s44_ok : cFun Try.prog [] Try.f44 = some s44 := by kernel_rfl
theorem hb44 : HasBody Try.prog 44 := ⟨_, Try.func44, by kernel_rfl, by kernel_rfl⟩
theorem p_PAll (p : PPos) : PF Try.prog 44 [ppv p] (wv p.stones) := by
  intro w
  refine quiet Try.func44 (by kernel_rfl) (by kernel_rfl) s44_ok (by kernel_rfl) ?_
  repeat' (first
    | (simp only [↓exP, ↓exQ, ↓need_ite, ↓need_ite', ↓exA, exB, exC, reduceIte, Nat.reduceEqDiff, Nat.reduceAdd, Nat.reduceSub, Nat.reduceMul, Nat.reduceLeDiff, Nat.reduceLT, Int.reduceToNat, Int.reduceBEq, Int.reduceBNe, Int.reduceLT, Int.reduceLE, Int.reduceEq, Int.reduceNeg, decide_true, decide_false, rd1_own, rd_own, hset_notIn, need_ite, need_ite', map_ite, s44, resV_cellN ti49, ppv_cells, wv_cells, wv_fold, ppv_fold, bdv_fold, *]; done)
    | simp only [↓exP, ↓exQ, ↓need_ite, ↓need_ite', ↓exA, exB, exC, reduceIte, Nat.reduceEqDiff, Nat.reduceAdd, Nat.reduceSub, Nat.reduceMul, Nat.reduceLeDiff, Nat.reduceLT, Int.reduceToNat, Int.reduceBEq, Int.reduceBNe, Int.reduceLT, Int.reduceLE, Int.reduceEq, Int.reduceNeg, decide_true, decide_false, rd1_own, rd_own, hset_notIn, need_ite, need_ite', map_ite, s44, resV_cellN ti49, ppv_cells, wv_cells, wv_fold, ppv_fold, bdv_fold, *]
    | (intro xb hl hf; try simp only [NotIn] at hf)
    | refine And.intro (fun hc => ?_) (fun hc => ?_)
    | refine ends_q ?_
    | exact wv_fold _
    | (refine And.intro (by first | omega | (simp only [*]; omega)) ?_))
def s40 : SFun := ⟨[], 5, [(.tmp 2)], (.seq (.reg [⟨none, (.box 1 (.tmp 0))⟩, ⟨none, (.pure 2 .mv [(.const (.int .i64 0))])⟩]) (.seq (.reg [⟨none, (.pure 3 (.fad 10) [(.tmp 1)])⟩, ⟨none, (.load1 4 (.tmp 3))⟩, ⟨none, (.pure 2 .mv [(.tmp 4)])⟩]) .ret))⟩
theorem s40_ok : cFun Try.prog [] Try.f40 = some s40 := by kernel_rfl
theorem hb40 : HasBody Try.prog 40 := ⟨_, Try.func40, by kernel_rfl, by kernel_rfl⟩
theorem p_PStones (p : PPos) : PF Try.prog 40 [ppv p] (.int .i64 p.n) := by
  intro w
  refine quiet Try.func40 (by kernel_rfl) (by kernel_rfl) s40_ok (by kernel_rfl) ?_
  repeat' (first
    | (simp only [↓exP, ↓exQ, ↓need_ite, ↓need_ite', ↓exA, exB, exC, reduceIte, Nat.reduceEqDiff, Nat.reduceAdd, Nat.reduceSub, Nat.reduceMul, Nat.reduceLeDiff, Nat.reduceLT, Int.reduceToNat, Int.reduceBEq, Int.reduceBNe, Int.reduceLT, Int.reduceLE, Int.reduceEq, Int.reduceNeg, decide_true, decide_false, rd1_own, rd_own, hset_notIn, need_ite, need_ite', map_ite, s40, ppv_cells, wv_cells, wv_fold, ppv_fold, bdv_fold, *]; done)
    | simp only [↓exP, ↓exQ, ↓need_ite, ↓need_ite', ↓exA, exB, exC, reduceIte, Nat.reduceEqDiff, Nat.reduceAdd, Nat.reduceSub, Nat.reduceMul, Nat.reduceLeDiff, Nat.reduceLT, Int.reduceToNat, Int.reduceBEq, Int.reduceBNe, Int.reduceLT, Int.reduceLE, Int.reduceEq, Int.reduceNeg, decide_true, decide_false, rd1_own, rd_own, hset_notIn, need_ite, need_ite', map_ite, s40, ppv_cells, wv_cells, wv_fold, ppv_fold, bdv_fold, *]
    | (intro xb hl hf; try simp only [NotIn] at hf)
    | refine And.intro (fun hc => ?_) (fun hc => ?_)
    | refine ends_q ?_
    | exact wv_fold _
    | (refine And.intro (by first | omega | (simp only [*]; omega)) ?_))
def s45 : SFun := ⟨[], 5, [(.cell 2 46)], (.seq (.reg [⟨none, (.box 1 (.tmp 0))⟩, ⟨none, (.alloc 2 [(.int .i64 0), (.int .i64 0)])⟩]) (.seq (.reg [⟨none, (.pure 3 (.fad 0) [(.tmp 1)])⟩, ⟨none, (.loadN 4 (.tmp 3) 2)⟩, ⟨none, (.storeN (.tmp 2) (.tmp 4) 2)⟩]) .ret))⟩
theorem s45_ok : cFun Try.prog [] Try.f45 = some s45 := by kernel_rfl
theorem hb45 : HasBody Try.prog 45 := ⟨_, Try.func45, by kernel_rfl, by kernel_rfl⟩
theorem p_PBoard (p : PPos) : PF Try.prog 45 [ppv p] (bdv p.b) := by
  intro w
  refine quiet Try.func45 (by kernel_rfl) (by kernel_rfl) s45_ok (by kernel_rfl) ?_
  repeat' (first
    | (simp only [↓exP, ↓exQ, ↓need_ite, ↓need_ite', ↓exA, exB, exC, reduceIte, Nat.reduceEqDiff, Nat.reduceAdd, Nat.reduceSub, Nat.reduceMul, Nat.reduceLeDiff, Nat.reduceLT, Int.reduceToNat, Int.reduceBEq, Int.reduceBNe, Int.reduceLT, Int.reduceLE, Int.reduceEq, Int.reduceNeg, decide_true, decide_false, rd1_own, rd_own, hset_notIn, need_ite, need_ite', map_ite, s45, resV_cellN ti46, ppv_cells, bdv_cells, wv_fold, ppv_fold, bdv_fold, *]; done)
    | simp only [↓exP, ↓exQ, ↓need_ite, ↓need_ite', ↓exA, exB, exC, reduceIte, Nat.reduceEqDiff, Nat.reduceAdd, Nat.reduceSub, Nat.reduceMul, Nat.reduceLeDiff, Nat.reduceLT, Int.reduceToNat, Int.reduceBEq, Int.reduceBNe, Int.reduceLT, Int.reduceLE, Int.reduceEq, Int.reduceNeg, decide_true, decide_false, rd1_own, rd_own, hset_notIn, need_ite, need_ite', map_ite, s45, resV_cellN ti46, ppv_cells, bdv_cells, wv_fold, ppv_fold, bdv_fold, *]
    | (intro xb hl hf; try simp only [NotIn] at hf)
    | refine And.intro (fun hc => ?_) (fun hc => ?_)
    | refine ends_q ?_
    | exact wv_fold _
    | (refine And.intro (by first | omega | (simp only [*]; omega)) ?_))
def s38 : SFun := ⟨[], 10, [(.tmp 2)], (.seq (.reg [⟨none, (.box 1 (.tmp 0))⟩, ⟨none, (.pure 2 .mv [(.const (.int .i64 0))])⟩]) (.seq (.seq (.reg [⟨none, (.pure 3 (.fad 11) [(.tmp 1)])⟩, ⟨none, (.load1 4 (.tmp 3))⟩, ⟨none, (.pure 5 (.un .not) [(.tmp 4)])⟩]) (.cond (.tmp 5) (.seq (.reg [⟨none, (.pure 2 .mv [(.const (.int .i64 0))])⟩]) .ret) .skip)) (.seq (.reg [⟨none, (.pure 6 (.fad 10) [(.tmp 1)])⟩, ⟨none, (.load1 7 (.tmp 6))⟩, ⟨none, (.pure 8 (.bin .add) [(.tmp 7), (.const (.int .i64 1))])⟩, ⟨none, (.call (some 9) (.func 74) [(.tmp 8)])⟩, ⟨none, (.pure 2 .mv [(.tmp 9)])⟩]) .ret)))⟩
theorem s38_ok : cFun Try.prog [] Try.f38 = some s38 := by kernel_rfl
theorem hb38 : HasBody Try.prog 38 := ⟨_, Try.func38, by kernel_rfl, by kernel_rfl⟩
theorem p_PWon (p : PPos) (hn : -1000000 ≤ p.n ∧ p.n ≤ 1000000) : PF Try.prog 38 [ppv p] (.int .i64 (wonP p)) := by
  intro w
  refine quiet Try.func38 (by kernel_rfl) (by kernel_rfl) s38_ok (by kernel_rfl) ?_
  have e1 : IntKind.i64.wrap (p.n + 1) = p.n + 1 := wrap64 _ (by omega)
  repeat' (first
    | (simp only [↓exP, ↓exQ, ↓need_ite, ↓need_ite', ↓exA, exB, exC, reduceIte, Nat.reduceEqDiff, Nat.reduceAdd, Nat.reduceSub, Nat.reduceMul, Nat.reduceLeDiff, Nat.reduceLT, Int.reduceToNat, Int.reduceBEq, Int.reduceBNe, Int.reduceLT, Int.reduceLE, Int.reduceEq, Int.reduceNeg, decide_true, decide_false, rd1_own, rd_own, hset_notIn, need_ite, need_ite', map_ite, s38, ppv_cells, wv_fold, ppv_fold, bdv_fold, *]; done)
    | simp only [↓exP, ↓exQ, ↓need_ite, ↓need_ite', ↓exA, exB, exC, reduceIte, Nat.reduceEqDiff, Nat.reduceAdd, Nat.reduceSub, Nat.reduceMul, Nat.reduceLeDiff, Nat.reduceLT, Int.reduceToNat, Int.reduceBEq, Int.reduceBNe, Int.reduceLT, Int.reduceLE, Int.reduceEq, Int.reduceNeg, decide_true, decide_false, rd1_own, rd_own, hset_notIn, need_ite, need_ite', map_ite, s38, ppv_cells, wv_fold, ppv_fold, bdv_fold, *]
    | refine vcall_q (fun w hs => p_pside _ w) ?_
    | refine qcall_q (fun w hs => p_pside _ w) ?_
    | (intro xb hl hf; try simp only [NotIn] at hf)
    | refine And.intro (fun hc => ?_) (fun hc => ?_)
    | refine ends_q ?_
    | exact wv_fold _
    | (refine And.intro (by first | omega | (simp only [*]; omega)) ?_))
  all_goals simp [wonP, *]
def s39 : SFun := ⟨[], 9, [(.tmp 2)], (.seq (.reg [⟨none, (.box 1 (.tmp 0))⟩, ⟨none, (.pure 2 .mv [(.const (.int .i64 0))])⟩]) (.seq (.seq (.reg [⟨none, (.loadN 3 (.tmp 1) 12)⟩, ⟨none, (.pure 4 (.build [(.int .i64 0), (.int .i64 0), (.int .u64 0), (.int .u64 0), (.int .u64 0), (.int .u64 0), (.int .u64 0), (.int .u64 0), (.int .u64 0), (.int .u64 0), (.int .i64 0), (.bool false)] []) [])⟩, ⟨none, (.pure 5 (.eqc false [(some .i64), (some .i64), (some .u64), (some .u64), (some .u64), (some .u64), (some .u64), (some .u64), (some .u64), (some .u64), (some .i64), none]) [(.tmp 3), (.tmp 4)])⟩]) (.cond (.tmp 5) (.seq (.reg [⟨none, (.pure 2 .mv [(.const (.int .i64 0))])⟩]) .ret) .skip)) (.seq (.reg [⟨none, (.pure 6 (.fad 10) [(.tmp 1)])⟩, ⟨none, (.load1 7 (.tmp 6))⟩, ⟨none, (.call (some 8) (.func 74) [(.tmp 7)])⟩, ⟨none, (.pure 2 .mv [(.tmp 8)])⟩]) .ret)))⟩
theorem s39_ok : cFun Try.prog [] Try.f39 = some s39 := by kernel_rfl
theorem hb39 : HasBody Try.prog 39 := ⟨_, Try.func39, by kernel_rfl, by kernel_rfl⟩
theorem p_PTurn (p : PPos) : PF Try.prog 39 [ppv p] (.int .i64 (turnP p)) := by
  intro w
  refine quiet Try.func39 (by kernel_rfl) (by kernel_rfl) s39_ok (by kernel_rfl) ?_
  repeat' (first
    | (simp only [↓exP, ↓exQ, ↓need_ite, ↓need_ite', ↓exA, exB, exC, reduceIte, Nat.reduceEqDiff, Nat.reduceAdd, Nat.reduceSub, Nat.reduceMul, Nat.reduceLeDiff, Nat.reduceLT, Int.reduceToNat, Int.reduceBEq, Int.reduceBNe, Int.reduceLT, Int.reduceLE, Int.reduceEq, Int.reduceNeg, decide_true, decide_false, rd1_own, rd_own, hset_notIn, need_ite, need_ite', map_ite, s39, ppv_cells, eqc_ppv', wv_fold, ppv_fold, bdv_fold, *]; done)
    | simp only [↓exP, ↓exQ, ↓need_ite, ↓need_ite', ↓exA, exB, exC, reduceIte, Nat.reduceEqDiff, Nat.reduceAdd, Nat.reduceSub, Nat.reduceMul, Nat.reduceLeDiff, Nat.reduceLT, Int.reduceToNat, Int.reduceBEq, Int.reduceBNe, Int.reduceLT, Int.reduceLE, Int.reduceEq, Int.reduceNeg, decide_true, decide_false, rd1_own, rd_own, hset_notIn, need_ite, need_ite', map_ite, s39, ppv_cells, eqc_ppv', wv_fold, ppv_fold, bdv_fold, *]
    | refine vcall_q (fun w hs => p_pside _ w) ?_
    | refine qcall_q (fun w hs => p_pside _ w) ?_
    | (intro xb hl hf; try simp only [NotIn] at hf)
    | refine And.intro (fun hc => ?_) (fun hc => ?_)
    | refine ends_q ?_
    | exact wv_fold _
    | (refine And.intro (by first | omega | (simp only [*]; omega)) ?_))
  all_goals simp [turnP, hc]
def s36 : SFun := ⟨[], 28, [(.tmp 4)], (.seq (.reg [⟨none, (.box 2 (.tmp 0))⟩, ⟨none, (.pure 4 .mv [(.const (.int .i64 0))])⟩]) (.seq (.block 0 (.seq (.reg [⟨none, (.loadN 6 (.tmp 2) 12)⟩, ⟨none, (.pure 7 (.build [(.int .i64 0), (.int .i64 0), (.int .u64 0), (.int .u64 0), (.int .u64 0), (.int .u64 0), (.int .u64 0), (.int .u64 0), (.int .u64 0), (.int .u64 0), (.int .i64 0), (.bool false)] []) [])⟩, ⟨none, (.pure 8 (.eqc false [(some .i64), (some .i64), (some .u64), (some .u64), (some .u64), (some .u64), (some .u64), (some .u64), (some .u64), (some .u64), (some .i64), none]) [(.tmp 6), (.tmp 7)])⟩, ⟨none, (.pure 5 .mv [(.tmp 8)])⟩]) (.cond (.tmp 5) (.seq (.reg [⟨none, (.pure 4 .mv [(.const (.int .i64 1))])⟩]) .ret) (.seq (.reg [⟨none, (.loadN 10 (.tmp 2) 12)⟩, ⟨none, (.call (some 11) (.func 37) [(.tmp 10)])⟩, ⟨none, (.pure 9 .mv [(.tmp 11)])⟩]) (.cond (.tmp 9) (.seq (.reg [⟨none, (.pure 4 .mv [(.const (.int .i64 13))])⟩]) .ret) (.seq (.reg [⟨none, (.pure 13 .mv [(.tmp 1)])⟩, ⟨none, (.pure 14 (.bin .lss) [(.tmp 13), (.const (.int .i64 0))])⟩, ⟨none, (.pure 15 .mv [(.tmp 14)])⟩, ⟨(some (15, false)), (.pure 16 .mv [(.tmp 1)])⟩, ⟨(some (15, false)), (.pure 17 (.fad 0) [(.tmp 2)])⟩, ⟨(some (15, false)), (.pure 18 (.fad 0) [(.tmp 17)])⟩, ⟨(some (15, false)), (.load1 19 (.tmp 18))⟩, ⟨(some (15, false)), (.pure 20 (.bin .geq) [(.tmp 16), (.tmp 19)])⟩, ⟨none, (.pure 21 .pick [(.tmp 15), (.const (.bool true)), (.tmp 20)])⟩, ⟨none, (.pure 12 .mv [(.tmp 21)])⟩]) (.cond (.tmp 12) (.seq (.reg [⟨none, (.pure 4 .mv [(.const (.int .i64 11))])⟩]) .ret) (.seq (.reg [⟨none, (.loadN 23 (.tmp 2) 12)⟩, ⟨none, (.pure 24 .mv [(.tmp 1)])⟩, ⟨none, (.call (some 25) (.func 60) [(.tmp 23), (.tmp 24)])⟩, ⟨none, (.pure 26 (.build [(.int .u64 0), (.int .u64 0)] []) [])⟩, ⟨none, (.pure 27 (.eqc false [(some .u64), (some .u64)]) [(.tmp 25), (.tmp 26)])⟩, ⟨none, (.pure 22 .mv [(.tmp 27)])⟩]) (.cond (.tmp 22) (.seq (.reg [⟨none, (.pure 4 .mv [(.const (.int .i64 12))])⟩]) .ret) .skip))))))))) (.seq (.reg [⟨none, (.pure 4 .mv [(.const (.int .i64 0))])⟩]) .ret)))⟩
theorem s36_ok : cFun Try.prog [] Try.f36 = some s36 := by kernel_rfl
theorem hb36 : HasBody Try.prog 36 := ⟨_, Try.func36, by kernel_rfl, by kernel_rfl⟩
set_option maxHeartbeats 1000000 in
theorem p_PCan (p : PPos) (x : Int) : PF Try.prog 36 [ppv p, .int .i64 x] (.int .i64 (canP p x)) := by
  intro w
  refine quiet Try.func36 (by kernel_rfl) (by kernel_rfl) s36_ok (by kernel_rfl) ?_
  repeat' (first
    | (simp only [↓exP, ↓exQ, ↓need_ite, ↓need_ite', ↓exA, exB, exC, reduceIte, Nat.reduceEqDiff, Nat.reduceAdd, Nat.reduceSub, Nat.reduceMul, Nat.reduceLeDiff, Nat.reduceLT, Int.reduceToNat, Int.reduceBEq, Int.reduceBNe, Int.reduceLT, Int.reduceLE, Int.reduceEq, Int.reduceNeg, decide_true, decide_false, rd1_own, rd_own, hset_notIn, need_ite, need_ite', map_ite, s36, ppv_cells, eqc_ppv', eqc_wv0, wv_fold, ppv_fold, bdv_fold, *]; done)
    | simp only [↓exP, ↓exQ, ↓need_ite, ↓need_ite', ↓exA, exB, exC, reduceIte, Nat.reduceEqDiff, Nat.reduceAdd, Nat.reduceSub, Nat.reduceMul, Nat.reduceLeDiff, Nat.reduceLT, Int.reduceToNat, Int.reduceBEq, Int.reduceBNe, Int.reduceLT, Int.reduceLE, Int.reduceEq, Int.reduceNeg, decide_true, decide_false, rd1_own, rd_own, hset_notIn, need_ite, need_ite', map_ite, s36, ppv_cells, eqc_ppv', eqc_wv0, wv_fold, ppv_fold, bdv_fold, *]
    | refine vcall_q (fun w hs => p_POver _ w) ?_
    | refine qcall_q (fun w hs => p_POver _ w) ?_
    | refine vcall_q (fun w hs => p_Pat _ _ w) ?_
    | refine qcall_q (fun w hs => p_Pat _ _ w) ?_
    | (intro xb hl hf; try simp only [NotIn] at hf)
    | refine And.intro (fun hc => ?_) (fun hc => ?_)
    | refine ends_q ?_
    | exact wv_fold _
    | (refine And.intro (by first | omega | (simp only [*]; omega)) ?_))
  all_goals simp_all [canP]
def dropV (p : PPos) (x : Int) : Value := .tuple #[ppv (dropP p x), .int .i64 (canP p x)]
def s29 : SFun := ⟨[], 41, [(.cell 4 51), (.tmp 5)], (.seq (.reg [⟨none, (.box 2 (.tmp 0))⟩, ⟨none, (.alloc 4 [(.int .i64 0), (.int .i64 0), (.int .u64 0), (.int .u64 0), (.int .u64 0), (.int .u64 0), (.int .u64 0), (.int .u64 0), (.int .u64 0), (.int .u64 0), (.int .i64 0), (.bool false)])⟩, ⟨none, (.pure 5 .mv [(.const (.int .i64 0))])⟩]) (.seq (.seq (.reg [⟨none, (.loadN 9 (.tmp 2) 12)⟩, ⟨none, (.pure 10 .mv [(.tmp 1)])⟩, ⟨none, (.call (some 11) (.func 36) [(.tmp 9), (.tmp 10)])⟩, ⟨none, (.pure 6 .mv [(.tmp 11)])⟩]) (.seq (.reg [⟨none, (.pure 12 .mv [(.tmp 6)])⟩, ⟨none, (.pure 13 (.bin .neq) [(.tmp 12), (.const (.int .i64 0))])⟩]) (.cond (.tmp 13) (.seq (.reg [⟨none, (.pure 14 (.build [(.int .i64 0), (.int .i64 0), (.int .u64 0), (.int .u64 0), (.int .u64 0), (.int .u64 0), (.int .u64 0), (.int .u64 0), (.int .u64 0), (.int .u64 0), (.int .i64 0), (.bool false)] []) [])⟩, ⟨none, (.pure 15 .mv [(.tmp 6)])⟩, ⟨none, (.storeN (.tmp 4) (.tmp 14) 12)⟩, ⟨none, (.pure 5 .mv [(.tmp 15)])⟩]) .ret) .skip))) (.seq (.reg [⟨none, (.loadN 16 (.tmp 2) 12)⟩, ⟨none, (.pure 17 .mv [(.tmp 1)])⟩, ⟨none, (.call (some 18) (.func 60) [(.tmp 16), (.tmp 17)])⟩, ⟨none, (.alloc 7 [(.int .u64 0), (.int .u64 0)])⟩, ⟨none, (.storeN (.tmp 7) (.tmp 18) 2)⟩]) (.seq (.reg [⟨none, (.pure 19 (.fad 6) [(.tmp 2)])⟩, ⟨none, (.loadN 20 (.tmp 19) 2)⟩, ⟨none, (.loadN 21 (.tmp 7) 2)⟩, ⟨none, (.call (some 22) (.func 61) [(.tmp 20), (.tmp 21)])⟩, ⟨none, (.alloc 8 [(.int .u64 0), (.int .u64 0)])⟩, ⟨none, (.storeN (.tmp 8) (.tmp 22) 2)⟩]) (.seq (.reg [⟨none, (.loadN 23 (.tmp 2) 12)⟩, ⟨none, (.call (some 24) (.func 43) [(.tmp 23)])⟩, ⟨none, (.pure 25 (.fad 6) [(.tmp 2)])⟩, ⟨none, (.storeN (.tmp 25) (.tmp 24) 2)⟩]) (.seq (.reg [⟨none, (.pure 26 (.fad 8) [(.tmp 2)])⟩, ⟨none, (.loadN 27 (.tmp 26) 2)⟩, ⟨none, (.loadN 28 (.tmp 7) 2)⟩, ⟨none, (.call (some 29) (.func 61) [(.tmp 27), (.tmp 28)])⟩, ⟨none, (.pure 30 (.fad 8) [(.tmp 2)])⟩, ⟨none, (.storeN (.tmp 30) (.tmp 29) 2)⟩]) (.seq (.reg [⟨none, (.pure 31 (.fad 10) [(.tmp 2)])⟩, ⟨none, (.load1 32 (.tmp 31))⟩, ⟨none, (.pure 33 (.bin .add) [(.tmp 32), (.const (.int .i64 1))])⟩, ⟨none, (.pure 34 (.fad 10) [(.tmp 2)])⟩, ⟨none, (.store1 (.tmp 34) (.tmp 33))⟩]) (.seq (.reg [⟨none, (.pure 35 (.fad 0) [(.tmp 2)])⟩, ⟨none, (.loadN 36 (.tmp 35) 2)⟩, ⟨none, (.loadN 37 (.tmp 8) 2)⟩, ⟨none, (.call (some 38) (.func 62) [(.tmp 36), (.tmp 37)])⟩, ⟨none, (.pure 39 (.fad 11) [(.tmp 2)])⟩, ⟨none, (.store1 (.tmp 39) (.tmp 38))⟩]) (.seq (.reg [⟨none, (.loadN 40 (.tmp 2) 12)⟩, ⟨none, (.storeN (.tmp 4) (.tmp 40) 12)⟩, ⟨none, (.pure 5 .mv [(.const (.int .i64 0))])⟩]) .ret)))))))))⟩
theorem s29_ok : cFun Try.prog [] Try.f29 = some s29 := by kernel_rfl
theorem hb29 : HasBody Try.prog 29 := ⟨_, Try.func29, by kernel_rfl, by kernel_rfl⟩
set_option maxHeartbeats 1000000 in
theorem p_PDrop (p : PPos) (x : Int) (hn : -1000000 ≤ p.n ∧ p.n ≤ 1000000) : PF Try.prog 29 [ppv p, .int .i64 x] (dropV p x) := by
  intro w
  refine quiet Try.func29 (by kernel_rfl) (by kernel_rfl) s29_ok (by kernel_rfl) ?_
  have e1 : IntKind.i64.wrap (p.n + 1) = p.n + 1 := wrap64 _ (by omega)
  by_cases h : canP p x = 0
  · have e2 : dropV p x = .tuple #[ppv (putP p x), .int .i64 0] := by simp [dropV, dropP, h]
    rw [e2]
    clear e2
    repeat' (first
    | (simp only [↓exP, ↓exQ, ↓need_ite, ↓need_ite', ↓exA, exB, exC, reduceIte, Nat.reduceEqDiff, Nat.reduceAdd, Nat.reduceSub, Nat.reduceMul, Nat.reduceLeDiff, Nat.reduceLT, Int.reduceToNat, Int.reduceBEq, Int.reduceBNe, Int.reduceLT, Int.reduceLE, Int.reduceEq, Int.reduceNeg, decide_true, decide_false, rd1_own, rd_own, hset_notIn, need_ite, need_ite', map_ite, s29, resV_cellN ti51, ppv_cells, wv_cells, bdv_cells, wv_fold, ppv_fold, bdv_fold, *]; done)
    | simp only [↓exP, ↓exQ, ↓need_ite, ↓need_ite', ↓exA, exB, exC, reduceIte, Nat.reduceEqDiff, Nat.reduceAdd, Nat.reduceSub, Nat.reduceMul, Nat.reduceLeDiff, Nat.reduceLT, Int.reduceToNat, Int.reduceBEq, Int.reduceBNe, Int.reduceLT, Int.reduceLE, Int.reduceEq, Int.reduceNeg, decide_true, decide_false, rd1_own, rd_own, hset_notIn, need_ite, need_ite', map_ite, s29, resV_cellN ti51, ppv_cells, wv_cells, bdv_cells, wv_fold, ppv_fold, bdv_fold, *]
    | refine vcall_q (fun w hs => p_PCan _ _ w) ?_
    | refine qcall_q (fun w hs => p_PCan _ _ w) ?_
    | refine vcall_q (fun w hs => p_Pat _ _ w) ?_
    | refine qcall_q (fun w hs => p_Pat _ _ w) ?_
    | refine vcall_q (fun w hs => p_PTheirs _ w) ?_
    | refine qcall_q (fun w hs => p_PTheirs _ w) ?_
    | refine vcall_q (fun w hs => p_Or _ _ w) ?_
    | refine qcall_q (fun w hs => p_Or _ _ w) ?_
    | refine vcall_q (fun w hs => p_Four _ _ w) ?_
    | refine qcall_q (fun w hs => p_Four _ _ w) ?_
    | (intro xb hl hf; try simp only [NotIn] at hf)
    | refine And.intro (fun hc => ?_) (fun hc => ?_)
    | refine ends_q ?_
    | exact wv_fold _
    | (refine And.intro (by first | omega | (simp only [*]; omega)) ?_))
    rfl
  · have e2 : dropV p x = .tuple #[ppv ppZ, .int .i64 (canP p x)] := by simp [dropV, dropP, h]
    rw [e2, ← ppZ_v]
    clear e2
    repeat' (first
    | (simp only [↓exP, ↓exQ, ↓need_ite, ↓need_ite', ↓exA, exB, exC, reduceIte, Nat.reduceEqDiff, Nat.reduceAdd, Nat.reduceSub, Nat.reduceMul, Nat.reduceLeDiff, Nat.reduceLT, Int.reduceToNat, Int.reduceBEq, Int.reduceBNe, Int.reduceLT, Int.reduceLE, Int.reduceEq, Int.reduceNeg, decide_true, decide_false, rd1_own, rd_own, hset_notIn, need_ite, need_ite', map_ite, s29, resV_cellN ti51, ppv_cells, wv_fold, ppv_fold, bdv_fold, *]; done)
    | simp only [↓exP, ↓exQ, ↓need_ite, ↓need_ite', ↓exA, exB, exC, reduceIte, Nat.reduceEqDiff, Nat.reduceAdd, Nat.reduceSub, Nat.reduceMul, Nat.reduceLeDiff, Nat.reduceLT, Int.reduceToNat, Int.reduceBEq, Int.reduceBNe, Int.reduceLT, Int.reduceLE, Int.reduceEq, Int.reduceNeg, decide_true, decide_false, rd1_own, rd_own, hset_notIn, need_ite, need_ite', map_ite, s29, resV_cellN ti51, ppv_cells, wv_fold, ppv_fold, bdv_fold, *]
    | refine vcall_q (fun w hs => p_PCan _ _ w) ?_
    | refine qcall_q (fun w hs => p_PCan _ _ w) ?_
    | (intro xb hl hf; try simp only [NotIn] at hf)
    | refine And.intro (fun hc => ?_) (fun hc => ?_)
    | refine ends_q ?_
    | exact wv_fold _
    | (refine And.intro (by first | omega | (simp only [*]; omega)) ?_))
def s41 : SFun := ⟨[], 19, [(.tmp 4)], (.seq (.reg [⟨none, (.box 2 (.tmp 0))⟩, ⟨none, (.pure 4 .mv [(.const (.bool false))])⟩]) (.seq (.reg [⟨none, (.loadN 8 (.tmp 2) 12)⟩, ⟨none, (.pure 9 .mv [(.tmp 1)])⟩, ⟨none, (.call (some 10) (.func 29) [(.tmp 8), (.tmp 9)])⟩, ⟨none, (.pure 7 .mv [(.tmp 10)])⟩, ⟨none, (.pure 11 (.ext 0) [(.tmp 7)])⟩, ⟨none, (.pure 12 (.ext 1) [(.tmp 7)])⟩, ⟨none, (.alloc 5 [(.int .i64 0), (.int .i64 0), (.int .u64 0), (.int .u64 0), (.int .u64 0), (.int .u64 0), (.int .u64 0), (.int .u64 0), (.int .u64 0), (.int .u64 0), (.int .i64 0), (.bool false)])⟩, ⟨none, (.storeN (.tmp 5) (.tmp 11) 12)⟩, ⟨none, (.pure 6 .mv [(.tmp 12)])⟩]) (.seq (.reg [⟨none, (.pure 13 .mv [(.tmp 6)])⟩, ⟨none, (.pure 14 (.bin .eql) [(.tmp 13), (.const (.int .i64 0))])⟩, ⟨none, (.pure 15 .mv [(.tmp 14)])⟩, ⟨(some (15, true)), (.pure 16 (.fad 11) [(.tmp 5)])⟩, ⟨(some (15, true)), (.load1 17 (.tmp 16))⟩, ⟨none, (.pure 18 .pick [(.tmp 15), (.tmp 17), (.const (.bool false))])⟩, ⟨none, (.pure 4 .mv [(.tmp 18)])⟩]) .ret)))⟩
theorem s41_ok : cFun Try.prog [] Try.f41 = some s41 := by kernel_rfl
theorem hb41 : HasBody Try.prog 41 := ⟨_, Try.func41, by kernel_rfl, by kernel_rfl⟩
set_option maxHeartbeats 1000000 in
theorem p_PWins (p : PPos) (x : Int) (hn : -1000000 ≤ p.n ∧ p.n ≤ 1000000) : PF Try.prog 41 [ppv p, .int .i64 x] (.bool (winsP p x)) := by
  intro w
  refine quiet Try.func41 (by kernel_rfl) (by kernel_rfl) s41_ok (by kernel_rfl) ?_
  repeat' (first
    | (simp only [↓exP, ↓exQ, ↓need_ite, ↓need_ite', ↓exA, exB, exC, reduceIte, Nat.reduceEqDiff, Nat.reduceAdd, Nat.reduceSub, Nat.reduceMul, Nat.reduceLeDiff, Nat.reduceLT, Int.reduceToNat, Int.reduceBEq, Int.reduceBNe, Int.reduceLT, Int.reduceLE, Int.reduceEq, Int.reduceNeg, decide_true, decide_false, rd1_own, rd_own, hset_notIn, need_ite, need_ite', map_ite, s41, ppv_cells, dropV, wv_fold, ppv_fold, bdv_fold, *]; done)
    | simp only [↓exP, ↓exQ, ↓need_ite, ↓need_ite', ↓exA, exB, exC, reduceIte, Nat.reduceEqDiff, Nat.reduceAdd, Nat.reduceSub, Nat.reduceMul, Nat.reduceLeDiff, Nat.reduceLT, Int.reduceToNat, Int.reduceBEq, Int.reduceBNe, Int.reduceLT, Int.reduceLE, Int.reduceEq, Int.reduceNeg, decide_true, decide_false, rd1_own, rd_own, hset_notIn, need_ite, need_ite', map_ite, s41, ppv_cells, dropV, wv_fold, ppv_fold, bdv_fold, *]
    | refine vcall_q (fun w hs => p_PDrop _ _ hn w) ?_
    | refine qcall_q (fun w hs => p_PDrop _ _ hn w) ?_
    | (intro xb hl hf; try simp only [NotIn] at hf)
    | refine And.intro (fun hc => ?_) (fun hc => ?_)
    | refine ends_q ?_
    | exact wv_fold _
    | (refine And.intro (by first | omega | (simp only [*]; omega)) ?_))
  all_goals simp [winsP, dropP, hc]
def s32 : SFun := ⟨[], 45, [(.cell 4 51), (.tmp 5), (.tmp 6)], (.seq (.reg [⟨none, (.box 2 (.tmp 0))⟩, ⟨none, (.alloc 4 [(.int .i64 0), (.int .i64 0), (.int .u64 0), (.int .u64 0), (.int .u64 0), (.int .u64 0), (.int .u64 0), (.int .u64 0), (.int .u64 0), (.int .u64 0), (.int .i64 0), (.bool false)])⟩, ⟨none, (.pure 5 .mv [(.const (.int .i64 0))])⟩, ⟨none, (.pure 6 .mv [(.const (.int .i64 0))])⟩]) (.seq (.reg [⟨none, (.loadN 14 (.tmp 2) 2)⟩, ⟨none, (.call (some 15) (.func 26) [(.tmp 14)])⟩, ⟨none, (.pure 13 .mv [(.tmp 15)])⟩, ⟨none, (.pure 16 (.ext 0) [(.tmp 13)])⟩, ⟨none, (.pure 17 (.ext 1) [(.tmp 13)])⟩, ⟨none, (.alloc 7 [(.int .i64 0), (.int .i64 0), (.int .u64 0), (.int .u64 0), (.int .u64 0), (.int .u64 0), (.int .u64 0), (.int .u64 0), (.int .u64 0), (.int .u64 0), (.int .i64 0), (.bool false)])⟩, ⟨none, (.storeN (.tmp 7) (.tmp 16) 12)⟩, ⟨none, (.pure 8 .mv [(.tmp 17)])⟩]) (.seq (.seq (.reg [⟨none, (.pure 18 .mv [(.tmp 8)])⟩, ⟨none, (.pure 19 (.bin .neq) [(.tmp 18), (.const (.int .i64 0))])⟩]) (.cond (.tmp 19) (.seq (.reg [⟨none, (.loadN 20 (.tmp 7) 12)⟩, ⟨none, (.pure 21 .mv [(.tmp 8)])⟩, ⟨none, (.storeN (.tmp 4) (.tmp 20) 12)⟩, ⟨none, (.pure 5 .mv [(.const (.int .i64 0))])⟩, ⟨none, (.pure 6 .mv [(.tmp 21)])⟩]) .ret) .skip)) (.seq (.seq (.reg [⟨none, (.pure 22 .mv [(.tmp 1)])⟩, ⟨none, (.pure 23 .len [(.tmp 22)])⟩, ⟨none, (.pure 24 .mv [(.const (.int .i64 0))])⟩]) (.block 0 (.loop (.seq (.reg [⟨none, (.pure 25 (.bin .lss) [(.tmp 24), (.tmp 23)])⟩]) (.seq (.cond (.tmp 25) .skip (.exit 0)) (.seq (.block 1 (.seq (.reg [⟨none, (.pure 26 .mv [(.tmp 24)])⟩, ⟨none, (.pure 27 (.iaS 1) [(.tmp 22), (.tmp 24)])⟩, ⟨none, (.load1 28 (.tmp 27))⟩, ⟨none, (.pure 9 .mv [(.tmp 26)])⟩, ⟨none, (.pure 10 .mv [(.tmp 28)])⟩]) (.seq (.reg [⟨none, (.loadN 30 (.tmp 7) 12)⟩, ⟨none, (.pure 31 .mv [(.tmp 10)])⟩, ⟨none, (.call (some 32) (.func 29) [(.tmp 30), (.tmp 31)])⟩, ⟨none, (.pure 29 .mv [(.tmp 32)])⟩, ⟨none, (.pure 33 (.ext 0) [(.tmp 29)])⟩, ⟨none, (.pure 34 (.ext 1) [(.tmp 29)])⟩, ⟨none, (.alloc 11 [(.int .i64 0), (.int .i64 0), (.int .u64 0), (.int .u64 0), (.int .u64 0), (.int .u64 0), (.int .u64 0), (.int .u64 0), (.int .u64 0), (.int .u64 0), (.int .i64 0), (.bool false)])⟩, ⟨none, (.storeN (.tmp 11) (.tmp 33) 12)⟩, ⟨none, (.pure 12 .mv [(.tmp 34)])⟩]) (.seq (.seq (.reg [⟨none, (.pure 35 .mv [(.tmp 12)])⟩, ⟨none, (.pure 36 (.bin .neq) [(.tmp 35), (.const (.int .i64 0))])⟩]) (.cond (.tmp 36) (.seq (.reg [⟨none, (.loadN 37 (.tmp 7) 12)⟩, ⟨none, (.pure 38 .mv [(.tmp 9)])⟩, ⟨none, (.pure 39 .mv [(.tmp 12)])⟩, ⟨none, (.storeN (.tmp 4) (.tmp 37) 12)⟩, ⟨none, (.pure 5 .mv [(.tmp 38)])⟩, ⟨none, (.pure 6 .mv [(.tmp 39)])⟩]) .ret) .skip)) (.reg [⟨none, (.loadN 40 (.tmp 11) 12)⟩, ⟨none, (.storeN (.tmp 7) (.tmp 40) 12)⟩]))))) (.reg [⟨none, (.pure 41 (.bin .add) [(.tmp 24), (.const (.int .i64 1))])⟩, ⟨none, (.pure 24 .mv [(.tmp 41)])⟩]))))))) (.seq (.reg [⟨none, (.loadN 42 (.tmp 7) 12)⟩, ⟨none, (.pure 43 .mv [(.tmp 1)])⟩, ⟨none, (.pure 44 .len [(.tmp 43)])⟩, ⟨none, (.storeN (.tmp 4) (.tmp 42) 12)⟩, ⟨none, (.pure 5 .mv [(.tmp 44)])⟩, ⟨none, (.pure 6 .mv [(.const (.int .i64 0))])⟩]) .ret)))))⟩
theorem s32_ok : cFun Try.prog [] Try.f32 = some s32 := by kernel_rfl
theorem hb32 : HasBody Try.prog 32 := ⟨_, Try.func32, by kernel_rfl, by kernel_rfl⟩
set_option maxHeartbeats 1000000 in
theorem p_PFrom (w : World) (b : Bd) (v : Value) (xs : List Int) (hv : IntsIn w v xs) (hl : xs.length ≤ 100000) :
    Quiet Try.prog w 32 [bdv b, v] (.tuple #[ppv (fromP b xs).1, .int .i64 ((fromP b xs).2.1 : Nat), .int .i64 (fromP b xs).2.2]) := by
  refine quiet Try.func32 (by kernel_rfl) (by kernel_rfl) s32_ok (by kernel_rfl) ?_
  obtain ⟨a, cap0, hv0⟩ := hv.len
  rcases Bool.eq_false_or_eq_true (mayB b) with h1 | h1
  · have e1 : newE b = 0 := if_pos h1
    have e3 : fromP b xs = fromL (newP b) xs 0 := if_pos h1
    have hn0 : (newP b).n = 0 := by simp [newP, h1]
    rw [e3]
    simp only [↓exP, ↓exQ, ↓need_ite, ↓need_ite', ↓exA, exB, exC, reduceIte, Nat.reduceEqDiff, Nat.reduceAdd, Nat.reduceSub, Nat.reduceMul, Nat.reduceLeDiff, Nat.reduceLT, Int.reduceToNat, Int.reduceBEq, Int.reduceBNe, Int.reduceLT, Int.reduceLE, Int.reduceEq, Int.reduceNeg, decide_true, decide_false, rd1_own, rd_own, hset_notIn, need_ite, need_ite', map_ite, s32, bdv_cells, hv0]
    intro b2 lb2 fb2; try simp only [NotIn] at fb2
    simp only [↓exP, ↓exQ, ↓need_ite, ↓need_ite', ↓exA, exB, exC, reduceIte, Nat.reduceEqDiff, Nat.reduceAdd, Nat.reduceSub, Nat.reduceMul, Nat.reduceLeDiff, Nat.reduceLT, Int.reduceToNat, Int.reduceBEq, Int.reduceBNe, Int.reduceLT, Int.reduceLE, Int.reduceEq, Int.reduceNeg, decide_true, decide_false, rd1_own, rd_own, hset_notIn, need_ite, need_ite', map_ite]
    intro b4 lb4 fb4; try simp only [NotIn] at fb4
    simp only [↓exP, ↓exQ, ↓need_ite, ↓need_ite', ↓exA, exB, exC, reduceIte, Nat.reduceEqDiff, Nat.reduceAdd, Nat.reduceSub, Nat.reduceMul, Nat.reduceLeDiff, Nat.reduceLT, Int.reduceToNat, Int.reduceBEq, Int.reduceBNe, Int.reduceLT, Int.reduceLE, Int.reduceEq, Int.reduceNeg, decide_true, decide_false, rd1_own, rd_own, hset_notIn, need_ite, need_ite', map_ite, lb2, lb4, fb2, fb4]
    refine vcall_q (fun w hs => p_PNew b w) ?_
    simp only [↓exP, ↓exQ, ↓need_ite, ↓need_ite', ↓exA, exB, exC, reduceIte, Nat.reduceEqDiff, Nat.reduceAdd, Nat.reduceSub, Nat.reduceMul, Nat.reduceLeDiff, Nat.reduceLT, Int.reduceToNat, Int.reduceBEq, Int.reduceBNe, Int.reduceLT, Int.reduceLE, Int.reduceEq, Int.reduceNeg, decide_true, decide_false, rd1_own, rd_own, hset_notIn, need_ite, need_ite', map_ite, e1]
    intro b7 lb7 fb7; try simp only [NotIn] at fb7
    simp only [↓exP, ↓exQ, ↓need_ite, ↓need_ite', ↓exA, exB, exC, reduceIte, Nat.reduceEqDiff, Nat.reduceAdd, Nat.reduceSub, Nat.reduceMul, Nat.reduceLeDiff, Nat.reduceLT, Int.reduceToNat, Int.reduceBEq, Int.reduceBNe, Int.reduceLT, Int.reduceLE, Int.reduceEq, Int.reduceNeg, decide_true, decide_false, rd1_own, rd_own, hset_notIn, need_ite, need_ite', map_ite, lb2, lb4, lb7, fb2, fb4, fb7, ppv_cells, hv0]
    refine SWS.loop (σ := Nat × PPos) (0, newP b) (fun x => x.1 ≤ xs.length ∧ x.2.n = (x.1 : Nat) ∧ fromL (newP b) xs 0 = fromL x.2 (xs.drop x.1) x.1) (fun x => [(1, v), (4, .pointer (some ⟨b4, 0, none⟩)), (7, .pointer (some ⟨b7, 0, none⟩)), (22, v), (23, .int .i64 xs.length), (24, .int .i64 (x.1 : Nat))])
      (fun x => [(b7, .cells (ppv x.2).cells.toList 12), (b4, .cells (ppv ppZ).cells.toList 12)]) (fun x => xs.length - x.1) ⟨Nat.zero_le _, hn0, rfl⟩ ?_ ?_ ?_
    · simp [subR, lk, hv0]
    · have : (ppv ppZ).cells.toList = [.int .i64 0, .int .i64 0, .int .u64 0, .int .u64 0, .int .u64 0, .int .u64 0, .int .u64 0, .int .u64 0, .int .u64 0, .int .u64 0, .int .i64 0, .bool false] := by kernel_rfl
      rw [this]; simp only [ppv_cells]; repeat (first | exact sub_refl _ | exact sub_nil _ | (refine sub_cons (by simp only [List.mem_cons, true_or, or_true]) ?_) | refine sub_tail ?_)
    · rintro ⟨i, p⟩ ⟨hil, hpn, hfr⟩
      simp only at hil hpn hfr
      simp only [↓exP, ↓exQ, ↓need_ite, ↓need_ite', ↓exA, exB, exC, reduceIte, Nat.reduceEqDiff, Nat.reduceAdd, Nat.reduceSub, Nat.reduceMul, Nat.reduceLeDiff, Nat.reduceLT, Int.reduceToNat, Int.reduceBEq, Int.reduceBNe, Int.reduceLT, Int.reduceLE, Int.reduceEq, Int.reduceNeg, decide_true, decide_false, rd1_own, rd_own, hset_notIn, need_ite, need_ite', map_ite, hv0]
      refine ⟨fun g1 => ?_, fun g1 => ?_⟩
      · have hin : i < xs.length := by omega
        obtain ⟨b9, o9, hb9, hpv, hcell⟩ := hv.get i xs[i] (List.getElem?_eq_getElem hin)
        rw [hv0] at hpv
        have hdr : xs.drop i = xs[i] :: xs.drop (i + 1) := List.drop_eq_getElem_cons hin
        rw [hdr] at hfr
        generalize xs[i] = x at hcell hfr
        have e6 : IntKind.i64.wrap ((i : Int) + 1) = ((i + 1 : Nat) : Int) := by rw [wrap64 _ (by omega)]; omega
        simp only [↓exP, ↓exQ, ↓need_ite, ↓need_ite', ↓exA, exB, exC, reduceIte, Nat.reduceEqDiff, Nat.reduceAdd, Nat.reduceSub, Nat.reduceMul, Nat.reduceLeDiff, Nat.reduceLT, Int.reduceToNat, Int.reduceBEq, Int.reduceBNe, Int.reduceLT, Int.reduceLE, Int.reduceEq, Int.reduceNeg, decide_true, decide_false, rd1_own, rd_own, hset_notIn, need_ite, need_ite', map_ite, hpv, rd1_old hb9 hcell, ppv_cells, lb4, lb7, fb4, fb7]
        refine vcall_q (fun w hs => p_PDrop p x (by omega) w) ?_
        simp only [↓exP, ↓exQ, ↓need_ite, ↓need_ite', ↓exA, exB, exC, reduceIte, Nat.reduceEqDiff, Nat.reduceAdd, Nat.reduceSub, Nat.reduceMul, Nat.reduceLeDiff, Nat.reduceLT, Int.reduceToNat, Int.reduceBEq, Int.reduceBNe, Int.reduceLT, Int.reduceLE, Int.reduceEq, Int.reduceNeg, decide_true, decide_false, rd1_own, rd_own, hset_notIn, need_ite, need_ite', map_ite, dropV]
        intro b11 lb11 fb11; try simp only [NotIn] at fb11
        simp only [↓exP, ↓exQ, ↓need_ite, ↓need_ite', ↓exA, exB, exC, reduceIte, Nat.reduceEqDiff, Nat.reduceAdd, Nat.reduceSub, Nat.reduceMul, Nat.reduceLeDiff, Nat.reduceLT, Int.reduceToNat, Int.reduceBEq, Int.reduceBNe, Int.reduceLT, Int.reduceLE, Int.reduceEq, Int.reduceNeg, decide_true, decide_false, rd1_own, rd_own, hset_notIn, need_ite, need_ite', map_ite, lb4, lb7, lb11, fb4, fb7, fb11, ppv_cells, e6]
        refine ⟨fun g2 => ?_, fun g2 => ?_⟩
        · have e8 : dropP p x = putP p x := if_pos g2
          refine ⟨(i + 1, putP p x), ⟨⟨by dsimp only; omega, ?_, ?_⟩, by dsimp only; omega⟩, by simp [subR, lk], ?_⟩
          · show p.n + 1 = _
            omega
          · rw [hfr]; simp only [fromL, g2, if_true]
          · rw [e8]; repeat (first | exact sub_refl _ | exact sub_nil _ | (refine sub_cons (by simp only [List.mem_cons, true_or, or_true]) ?_) | refine sub_tail ?_)
        · have e9 : fromL (newP b) xs 0 = (p, i, canP p x) := by rw [hfr]; simp only [fromL, g2, if_false]
          simp only [↓exP, ↓exQ, ↓need_ite, ↓need_ite', ↓exA, exB, exC, reduceIte, Nat.reduceEqDiff, Nat.reduceAdd, Nat.reduceSub, Nat.reduceMul, Nat.reduceLeDiff, Nat.reduceLT, Int.reduceToNat, Int.reduceBEq, Int.reduceBNe, Int.reduceLT, Int.reduceLE, Int.reduceEq, Int.reduceNeg, decide_true, decide_false, rd1_own, rd_own, hset_notIn, need_ite, need_ite', map_ite, lb4, lb7, lb11, fb4, fb7, fb11, ppv_cells, resV_cellN ti51]
          refine ends_q ?_
          rw [e9]
          rfl
      · have hi' : i = xs.length := by omega
        have e9 : fromL (newP b) xs 0 = (p, i, 0) := by rw [hfr, hi', List.drop_length]; rfl
        subst hi'
        simp only [↓exP, ↓exQ, ↓need_ite, ↓need_ite', ↓exA, exB, exC, reduceIte, Nat.reduceEqDiff, Nat.reduceAdd, Nat.reduceSub, Nat.reduceMul, Nat.reduceLeDiff, Nat.reduceLT, Int.reduceToNat, Int.reduceBEq, Int.reduceBNe, Int.reduceLT, Int.reduceLE, Int.reduceEq, Int.reduceNeg, decide_true, decide_false, rd1_own, rd_own, hset_notIn, need_ite, need_ite', map_ite, lb4, lb7, fb4, fb7, ppv_cells, resV_cellN ti51, hv0]
        refine ends_q ?_
        rw [e9]
        rfl
  · have e1 : newE b = 10 := by simp [newE, h1]
    have e3 : fromP b xs = (ppZ, 0, 10) := by simp [fromP, h1]
    have e4 : newP b = ppZ := by simp [newP, h1]
    rw [e3]
    clear e3
    repeat' (first
    | (simp only [↓exP, ↓exQ, ↓need_ite, ↓need_ite', ↓exA, exB, exC, reduceIte, Nat.reduceEqDiff, Nat.reduceAdd, Nat.reduceSub, Nat.reduceMul, Nat.reduceLeDiff, Nat.reduceLT, Int.reduceToNat, Int.reduceBEq, Int.reduceBNe, Int.reduceLT, Int.reduceLE, Int.reduceEq, Int.reduceNeg, decide_true, decide_false, rd1_own, rd_own, hset_notIn, need_ite, need_ite', map_ite, s32, resV_cellN ti51, bdv_cells, ppv_cells, wv_fold, ppv_fold, bdv_fold, *]; done)
    | simp only [↓exP, ↓exQ, ↓need_ite, ↓need_ite', ↓exA, exB, exC, reduceIte, Nat.reduceEqDiff, Nat.reduceAdd, Nat.reduceSub, Nat.reduceMul, Nat.reduceLeDiff, Nat.reduceLT, Int.reduceToNat, Int.reduceBEq, Int.reduceBNe, Int.reduceLT, Int.reduceLE, Int.reduceEq, Int.reduceNeg, decide_true, decide_false, rd1_own, rd_own, hset_notIn, need_ite, need_ite', map_ite, s32, resV_cellN ti51, bdv_cells, ppv_cells, wv_fold, ppv_fold, bdv_fold, *]
    | refine vcall_q (fun w hs => p_PNew _ w) ?_
    | refine qcall_q (fun w hs => p_PNew _ w) ?_
    | (intro xb hl hf; try simp only [NotIn] at hf)
    | refine And.intro (fun hc => ?_) (fun hc => ?_)
    | refine ends_q ?_
    | exact wv_fold _
    | (refine And.intro (by first | omega | (simp only [*]; omega)) ?_))
    all_goals trace_state
end Go.SL
