/- The law StackOrder, walked. -/
import Derived.Test.YtppajifkmepdnaaT2
import Derived.Test.YtppajifkmepdnaaSlJ
namespace Go.SL
set_option linter.unusedSimpArgs false
set_option linter.unusedVariables false
open Go.Proofs
def s13 : SFun := ⟨[], 68, [(.tmp 0)], (.seq (.reg [⟨none, (.pure 0 .mv [(.const (.bool false))])⟩]) (.seq (.reg [⟨none, (.call (some 11) (.func 49) [(.const (.int .i64 2))])⟩, ⟨none, (.pure 10 .mv [(.tmp 11)])⟩, ⟨none, (.pure 12 (.ext 0) [(.tmp 10)])⟩, ⟨none, (.pure 13 (.ext 1) [(.tmp 10)])⟩, ⟨none, (.pure 1 .mv [(.tmp 12)])⟩, ⟨none, (.pure 2 .mv [(.tmp 13)])⟩]) (.seq (.reg [⟨none, (.pure 14 .mv [(.tmp 1)])⟩, ⟨none, (.call (some 15) (.func 50) [(.tmp 14), (.const (.string (.mk #[120])))])⟩, ⟨none, (.pure 16 .mv [(.tmp 1)])⟩, ⟨none, (.call (some 17) (.func 50) [(.tmp 16), (.const (.string (.mk #[121])))])⟩, ⟨none, (.pure 18 .mv [(.tmp 1)])⟩, ⟨none, (.call (some 19) (.func 50) [(.tmp 18), (.const (.string (.mk #[122])))])⟩, ⟨none, (.pure 3 .mv [(.tmp 15)])⟩, ⟨none, (.pure 4 .mv [(.tmp 17)])⟩, ⟨none, (.pure 5 .mv [(.tmp 19)])⟩]) (.seq (.reg [⟨none, (.pure 21 .mv [(.tmp 1)])⟩, ⟨none, (.call (some 22) (.func 51) [(.tmp 21)])⟩, ⟨none, (.pure 20 .mv [(.tmp 22)])⟩, ⟨none, (.pure 23 (.ext 0) [(.tmp 20)])⟩, ⟨none, (.pure 24 (.ext 1) [(.tmp 20)])⟩, ⟨none, (.pure 6 .mv [(.tmp 23)])⟩, ⟨none, (.pure 7 .mv [(.tmp 24)])⟩]) (.seq (.reg [⟨none, (.pure 26 .mv [(.tmp 1)])⟩, ⟨none, (.call (some 27) (.func 52) [(.tmp 26)])⟩, ⟨none, (.pure 25 .mv [(.tmp 27)])⟩, ⟨none, (.pure 28 (.ext 0) [(.tmp 25)])⟩, ⟨none, (.pure 29 (.ext 1) [(.tmp 25)])⟩, ⟨none, (.pure 8 .mv [(.tmp 28)])⟩, ⟨none, (.pure 9 .mv [(.tmp 29)])⟩]) (.seq (.reg [⟨none, (.pure 30 .mv [(.tmp 2)])⟩, ⟨none, (.pure 31 (.bin .eql) [(.tmp 30), (.const (.int .i64 0))])⟩, ⟨none, (.pure 32 .mv [(.tmp 31)])⟩, ⟨(some (32, true)), (.pure 33 .mv [(.tmp 3)])⟩, ⟨(some (32, true)), (.pure 34 (.bin .eql) [(.tmp 33), (.const (.int .i64 0))])⟩, ⟨none, (.pure 35 .pick [(.tmp 32), (.tmp 34), (.const (.bool false))])⟩, ⟨none, (.pure 36 .mv [(.tmp 35)])⟩, ⟨(some (36, true)), (.pure 37 .mv [(.tmp 4)])⟩, ⟨(some (36, true)), (.pure 38 (.bin .eql) [(.tmp 37), (.const (.int .i64 0))])⟩, ⟨none, (.pure 39 .pick [(.tmp 36), (.tmp 38), (.const (.bool false))])⟩, ⟨none, (.pure 40 .mv [(.tmp 39)])⟩, ⟨(some (40, true)), (.pure 41 .mv [(.tmp 5)])⟩, ⟨(some (40, true)), (.pure 42 (.bin .eql) [(.tmp 41), (.const (.int .i64 6))])⟩, ⟨none, (.pure 43 .pick [(.tmp 40), (.tmp 42), (.const (.bool false))])⟩, ⟨none, (.pure 44 .mv [(.tmp 43)])⟩, ⟨(some (44, true)), (.pure 45 .mv [(.tmp 6)])⟩, ⟨(some (44, true)), (.pure 46 (.eqs false) [(.tmp 45), (.const (.string (.mk #[121])))])⟩, ⟨none, (.pure 47 .pick [(.tmp 44), (.tmp 46), (.const (.bool false))])⟩, ⟨none, (.pure 48 .mv [(.tmp 47)])⟩, ⟨(some (48, true)), (.pure 49 .mv [(.tmp 7)])⟩, ⟨none, (.pure 50 .pick [(.tmp 48), (.tmp 49), (.const (.bool false))])⟩, ⟨none, (.pure 51 .mv [(.tmp 50)])⟩, ⟨(some (51, true)), (.pure 52 .mv [(.tmp 8)])⟩, ⟨(some (51, true)), (.pure 53 (.eqs false) [(.tmp 52), (.const (.string (.mk #[120])))])⟩, ⟨none, (.pure 54 .pick [(.tmp 51), (.tmp 53), (.const (.bool false))])⟩, ⟨none, (.pure 55 .mv [(.tmp 54)])⟩, ⟨(some (55, true)), (.pure 56 .mv [(.tmp 9)])⟩, ⟨none, (.pure 57 .pick [(.tmp 55), (.tmp 56), (.const (.bool false))])⟩, ⟨none, (.pure 58 .mv [(.tmp 57)])⟩, ⟨(some (58, true)), (.pure 59 .mv [(.tmp 1)])⟩, ⟨(some (58, true)), (.call (some 60) (.func 53) [(.tmp 59)])⟩, ⟨(some (58, true)), (.pure 61 (.bin .eql) [(.tmp 60), (.const (.int .i64 2))])⟩, ⟨none, (.pure 62 .pick [(.tmp 58), (.tmp 61), (.const (.bool false))])⟩, ⟨none, (.pure 63 .mv [(.tmp 62)])⟩, ⟨(some (63, true)), (.pure 64 .mv [(.tmp 1)])⟩, ⟨(some (63, true)), (.call (some 65) (.func 54) [(.tmp 64)])⟩, ⟨(some (63, true)), (.pure 66 (.bin .eql) [(.tmp 65), (.const (.int .i64 1))])⟩, ⟨none, (.pure 67 .pick [(.tmp 63), (.tmp 66), (.const (.bool false))])⟩, ⟨none, (.pure 0 .mv [(.tmp 67)])⟩]) .ret))))))⟩
theorem s13_ok : cFun Try.prog [] Try.f13 = some s13 := by kernel_rfl
set_option maxHeartbeats 2000000 in
theorem c_live25 (w0 : World) (H : Heap) (K : Value → Heap → Prop) (h1 : K (.bool true) H) : ACall Try.prog w0 13 #[] H K := by
  refine acall (args := []) Try.func13 s13_ok (by simp [s13]) ?_
  simp only [↓exP, ↓exA, exB, exC, reduceIte, Nat.reduceEqDiff, Nat.reduceAdd, Nat.reduceSub, Nat.reduceMul, Nat.reduceLeDiff, Nat.reduceLT, Int.reduceToNat, Int.reduceBEq, Int.reduceBNe, Int.reduceLT, Int.reduceLE, Int.reduceEq, Int.reduceNeg, decide_true, decide_false, rd1_own, rd_own, hset_notIn, s13]
  refine vcall0 Try.func49 (by kernel_rfl) (by kernel_rfl) ?_
  refine c_NewS w0 2 H _ (fun h => absurd h (by omega)) (fun s b _ fs fb => ?_)
  simp only [NotIn] at fs
  simp only [↓exP, ↓exA, exB, exC, reduceIte, Nat.reduceEqDiff, Nat.reduceAdd, Nat.reduceSub, Nat.reduceMul, Nat.reduceLeDiff, Nat.reduceLT, Int.reduceToNat, Int.reduceBEq, Int.reduceBNe, Int.reduceLT, Int.reduceLE, Int.reduceEq, Int.reduceNeg, decide_true, decide_false, rd1_own, rd_own, hset_notIn, Int.reduceToNat]
  refine vcall0 Try.func50 (by kernel_rfl) (by kernel_rfl) ?_
  refine c_PushS w0 s b 0 2 0 _ _ _ _ rfl rfl fs.1.symm fs.2 fb (by omega) (by simp) (by omega) (fun h => absurd h (by omega)) (fun c1 _ hl1 ht1 => ?_)
  simp only [↓exP, ↓exA, exB, exC, reduceIte, Nat.reduceEqDiff, Nat.reduceAdd, Nat.reduceSub, Nat.reduceMul, Nat.reduceLeDiff, Nat.reduceLT, Int.reduceToNat, Int.reduceBEq, Int.reduceBNe, Int.reduceLT, Int.reduceLE, Int.reduceEq, Int.reduceNeg, decide_true, decide_false, rd1_own, rd_own, hset_notIn, Int.reduceToNat]
  refine vcall0 Try.func50 (by kernel_rfl) (by kernel_rfl) ?_
  refine c_PushS w0 s b 1 2 1 _ c1 _ _ rfl rfl fs.1.symm fs.2 fb (by omega) (by omega) (by omega) (fun h => absurd h (by omega)) (fun c2 _ hl2 ht2 => ?_)
  simp only [↓exP, ↓exA, exB, exC, reduceIte, Nat.reduceEqDiff, Nat.reduceAdd, Nat.reduceSub, Nat.reduceMul, Nat.reduceLeDiff, Nat.reduceLT, Int.reduceToNat, Int.reduceBEq, Int.reduceBNe, Int.reduceLT, Int.reduceLE, Int.reduceEq, Int.reduceNeg, decide_true, decide_false, rd1_own, rd_own, hset_notIn, Int.reduceToNat]
  refine vcall0 Try.func50 (by kernel_rfl) (by kernel_rfl) ?_
  refine c_PushS w0 s b 2 2 2 _ c2 _ _ rfl rfl fs.1.symm fs.2 fb (by omega) (by omega) (by omega) (fun h => ?_) (fun c3 h _ _ => absurd rfl h)
  simp only [↓exP, ↓exA, exB, exC, reduceIte, Nat.reduceEqDiff, Nat.reduceAdd, Nat.reduceSub, Nat.reduceMul, Nat.reduceLeDiff, Nat.reduceLT, Int.reduceToNat, Int.reduceBEq, Int.reduceBNe, Int.reduceLT, Int.reduceLE, Int.reduceEq, Int.reduceNeg, decide_true, decide_false, rd1_own, rd_own, hset_notIn, Int.reduceToNat]
  refine vcall0 Try.func51 (by kernel_rfl) (by kernel_rfl) ?_
  refine c_PopS w0 s b 2 2 2 c2 _ _ fs.1.symm fs.2 (by omega) (by omega) (by omega) (fun h => absurd h (by omega)) (fun x1 _ hx1 => ?_)
  simp only [↓exP, ↓exA, exB, exC, reduceIte, Nat.reduceEqDiff, Nat.reduceAdd, Nat.reduceSub, Nat.reduceMul, Nat.reduceLeDiff, Nat.reduceLT, Int.reduceToNat, Int.reduceBEq, Int.reduceBNe, Int.reduceLT, Int.reduceLE, Int.reduceEq, Int.reduceNeg, decide_true, decide_false, rd1_own, rd_own, hset_notIn, Int.reduceToNat]
  refine vcall0 Try.func52 (by kernel_rfl) (by kernel_rfl) ?_
  refine c_TopS w0 s b 1 2 2 c2 _ _ fs.1.symm (by omega) (by omega) (fun h => absurd h (by omega)) (fun x2 _ hx2 => ?_)
  have e1 := (take_last (by omega) ht2).symm.trans hx1
  have e2 := ((take_last (by simp) ht1).symm.trans (take_get (take_prev (by omega) ht2) (by omega)).symm).trans hx2
  cases e1; cases e2
  simp only [↓exP, ↓exA, exB, exC, reduceIte, Nat.reduceEqDiff, Nat.reduceAdd, Nat.reduceSub, Nat.reduceMul, Nat.reduceLeDiff, Nat.reduceLT, Int.reduceToNat, Int.reduceBEq, Int.reduceBNe, Int.reduceLT, Int.reduceLE, Int.reduceEq, Int.reduceNeg, decide_true, decide_false, rd1_own, rd_own, hset_notIn, Int.reduceToNat]
  refine vcall0 Try.func53 (by kernel_rfl) (by kernel_rfl) ?_
  refine c_PeakS w0 s _ 2 _ _ ?_
  simp only [↓exP, ↓exA, exB, exC, reduceIte, Nat.reduceEqDiff, Nat.reduceAdd, Nat.reduceSub, Nat.reduceMul, Nat.reduceLeDiff, Nat.reduceLT, Int.reduceToNat, Int.reduceBEq, Int.reduceBNe, Int.reduceLT, Int.reduceLE, Int.reduceEq, Int.reduceNeg, decide_true, decide_false, rd1_own, rd_own, hset_notIn]
  refine vcall0 Try.func54 (by kernel_rfl) (by kernel_rfl) ?_
  refine c_LenS w0 s b 1 2 2 _ _ ?_
  simp only [↓exP, ↓exA, exB, exC, reduceIte, Nat.reduceEqDiff, Nat.reduceAdd, Nat.reduceSub, Nat.reduceMul, Nat.reduceLeDiff, Nat.reduceLT, Int.reduceToNat, Int.reduceBEq, Int.reduceBNe, Int.reduceLT, Int.reduceLE, Int.reduceEq, Int.reduceNeg, decide_true, decide_false, rd1_own, rd_own, hset_notIn]
  exact ends_sub _ (by repeat (first | exact sub_refl _ | exact sub_nil _ | (refine sub_cons (by simp only [List.mem_cons, true_or, or_true]) ?_) | refine sub_tail ?_)) h1

def s3 : SFun := ⟨[], 99, [(.tmp 4)], (.seq (.reg [⟨none, (.pure 4 .mv [(.const (.bool false))])⟩]) (.seq (.reg [⟨none, (.pure 15 .mv [(.tmp 0)])⟩, ⟨none, (.call (some 16) (.func 12) [(.tmp 15)])⟩, ⟨none, (.pure 14 .mv [(.tmp 16)])⟩, ⟨none, (.pure 17 (.ext 0) [(.tmp 14)])⟩, ⟨none, (.pure 18 (.ext 1) [(.tmp 14)])⟩, ⟨none, (.pure 5 .mv [(.tmp 17)])⟩, ⟨none, (.pure 6 .mv [(.tmp 18)])⟩]) (.seq (.seq (.reg [⟨none, (.pure 19 .mv [(.tmp 6)])⟩, ⟨none, (.pure 20 (.bin .neq) [(.tmp 19), (.const (.int .i64 0))])⟩]) (.cond (.tmp 20) (.seq (.reg [⟨none, (.call (some 21) (.func 13) [])⟩, ⟨none, (.pure 22 .mv [(.tmp 21)])⟩, ⟨(some (22, true)), (.pure 23 .mv [(.tmp 0)])⟩, ⟨(some (22, true)), (.pure 24 (.bin .lss) [(.tmp 23), (.const (.int .i64 1))])⟩, ⟨(some (22, true)), (.pure 25 .mv [(.tmp 24)])⟩, ⟨(some (25, false)), (.pure 26 .mv [(.tmp 0)])⟩, ⟨(some (25, false)), (.pure 27 (.bin .gtr) [(.tmp 26), (.const (.int .i64 1000))])⟩, ⟨(some (22, true)), (.pure 28 .pick [(.tmp 25), (.const (.bool true)), (.tmp 27)])⟩, ⟨none, (.pure 29 .pick [(.tmp 22), (.tmp 28), (.const (.bool false))])⟩, ⟨none, (.pure 4 .mv [(.tmp 29)])⟩]) .ret) .skip)) (.seq (.reg [⟨none, (.pure 7 .mv [(.const (.int .i64 0))])⟩]) (.seq (.seq (.reg [⟨none, (.pure 8 .mv [(.const (.int .i64 0))])⟩]) (.block 0 (.loop (.seq (.seq (.reg [⟨none, (.pure 30 .mv [(.tmp 8)])⟩, ⟨none, (.pure 31 .mv [(.tmp 1)])⟩, ⟨none, (.pure 32 .len [(.tmp 31)])⟩, ⟨none, (.pure 33 (.bin .lss) [(.tmp 30), (.tmp 32)])⟩, ⟨none, (.pure 34 .mv [(.tmp 33)])⟩, ⟨(some (34, true)), (.pure 35 .mv [(.tmp 8)])⟩, ⟨(some (34, true)), (.pure 36 (.bin .lss) [(.tmp 35), (.const (.int .i64 200))])⟩, ⟨none, (.pure 37 .pick [(.tmp 34), (.tmp 36), (.const (.bool false))])⟩]) (.cond (.tmp 37) .skip (.exit 0))) (.seq (.block 1 (.seq (.reg [⟨none, (.pure 40 .mv [(.tmp 5)])⟩, ⟨none, (.pure 41 .mv [(.tmp 1)])⟩, ⟨none, (.pure 42 .mv [(.tmp 8)])⟩, ⟨none, (.pure 43 (.iaS 1) [(.tmp 41), (.tmp 42)])⟩, ⟨none, (.load1 44 (.tmp 43))⟩, ⟨none, (.call (some 45) (.func 14) [(.tmp 40), (.tmp 44)])⟩, ⟨none, (.pure 46 (.bin .eql) [(.tmp 45), (.const (.int .i64 0))])⟩]) (.cond (.tmp 46) (.reg [⟨none, (.pure 47 .mv [(.tmp 7)])⟩, ⟨none, (.pure 48 (.bin .add) [(.tmp 47), (.const (.int .i64 1))])⟩, ⟨none, (.pure 7 .mv [(.tmp 48)])⟩]) .skip))) (.reg [⟨none, (.pure 38 .mv [(.tmp 8)])⟩, ⟨none, (.pure 39 (.bin .add) [(.tmp 38), (.const (.int .i64 1))])⟩, ⟨none, (.pure 8 .mv [(.tmp 39)])⟩])))))) (.seq (.seq (.reg [⟨none, (.pure 49 .mv [(.tmp 7)])⟩, ⟨none, (.pure 50 .mv [(.tmp 1)])⟩, ⟨none, (.pure 51 .len [(.tmp 50)])⟩, ⟨none, (.pure 52 .mn [(.tmp 51), (.const (.int .i64 200))])⟩, ⟨none, (.pure 53 .mv [(.tmp 0)])⟩, ⟨none, (.pure 54 .mn [(.tmp 52), (.tmp 53)])⟩, ⟨none, (.pure 55 (.bin .neq) [(.tmp 49), (.tmp 54)])⟩, ⟨none, (.pure 56 .mv [(.tmp 55)])⟩, ⟨(some (56, false)), (.pure 57 .mv [(.tmp 5)])⟩, ⟨(some (56, false)), (.call (some 58) (.func 15) [(.tmp 57)])⟩, ⟨(some (56, false)), (.pure 59 .mv [(.tmp 7)])⟩, ⟨(some (56, false)), (.pure 60 (.bin .neq) [(.tmp 58), (.tmp 59)])⟩, ⟨none, (.pure 61 .pick [(.tmp 56), (.const (.bool true)), (.tmp 60)])⟩]) (.cond (.tmp 61) (.seq (.reg [⟨none, (.pure 4 .mv [(.const (.bool false))])⟩]) .ret) .skip)) (.seq (.seq (.reg [⟨none, (.pure 62 .mv [(.tmp 7)])⟩, ⟨none, (.pure 63 (.bin .sub) [(.tmp 62), (.const (.int .i64 1))])⟩, ⟨none, (.pure 9 .mv [(.tmp 63)])⟩]) (.block 2 (.loop (.seq (.seq (.reg [⟨none, (.pure 64 .mv [(.tmp 9)])⟩, ⟨none, (.pure 65 (.bin .geq) [(.tmp 64), (.const (.int .i64 0))])⟩]) (.cond (.tmp 65) .skip (.exit 2))) (.seq (.block 3 (.seq (.reg [⟨none, (.pure 69 .mv [(.tmp 5)])⟩, ⟨none, (.call (some 70) (.func 16) [(.tmp 69)])⟩, ⟨none, (.pure 68 .mv [(.tmp 70)])⟩, ⟨none, (.pure 71 (.ext 0) [(.tmp 68)])⟩, ⟨none, (.pure 72 (.ext 1) [(.tmp 68)])⟩, ⟨none, (.pure 10 .mv [(.tmp 71)])⟩, ⟨none, (.pure 11 .mv [(.tmp 72)])⟩]) (.seq (.reg [⟨none, (.pure 73 .mv [(.tmp 10)])⟩, ⟨none, (.pure 74 .mv [(.tmp 1)])⟩, ⟨none, (.pure 75 .mv [(.tmp 9)])⟩, ⟨none, (.pure 76 (.iaS 1) [(.tmp 74), (.tmp 75)])⟩, ⟨none, (.load1 77 (.tmp 76))⟩, ⟨none, (.pure 78 (.bin .neq) [(.tmp 73), (.tmp 77)])⟩, ⟨none, (.pure 79 .mv [(.tmp 78)])⟩, ⟨(some (79, false)), (.pure 80 .mv [(.tmp 11)])⟩, ⟨(some (79, false)), (.pure 81 (.un .not) [(.tmp 80)])⟩, ⟨none, (.pure 82 .pick [(.tmp 79), (.const (.bool true)), (.tmp 81)])⟩]) (.cond (.tmp 82) (.seq (.reg [⟨none, (.pure 4 .mv [(.const (.bool false))])⟩]) .ret) .skip)))) (.reg [⟨none, (.pure 66 .mv [(.tmp 9)])⟩, ⟨none, (.pure 67 (.bin .sub) [(.tmp 66), (.const (.int .i64 1))])⟩, ⟨none, (.pure 9 .mv [(.tmp 67)])⟩])))))) (.seq (.reg [⟨none, (.pure 84 .mv [(.tmp 5)])⟩, ⟨none, (.call (some 85) (.func 16) [(.tmp 84)])⟩, ⟨none, (.pure 83 .mv [(.tmp 85)])⟩, ⟨none, (.pure 86 (.ext 0) [(.tmp 83)])⟩, ⟨none, (.pure 87 (.ext 1) [(.tmp 83)])⟩, ⟨none, (.pure 12 .mv [(.tmp 86)])⟩, ⟨none, (.pure 13 .mv [(.tmp 87)])⟩]) (.seq (.reg [⟨none, (.call (some 88) (.func 13) [])⟩, ⟨none, (.pure 89 .mv [(.tmp 88)])⟩, ⟨(some (89, true)), (.pure 90 .mv [(.tmp 13)])⟩, ⟨(some (89, true)), (.pure 91 (.un .not) [(.tmp 90)])⟩, ⟨none, (.pure 92 .pick [(.tmp 89), (.tmp 91), (.const (.bool false))])⟩, ⟨none, (.pure 93 .mv [(.tmp 92)])⟩, ⟨(some (93, true)), (.pure 94 .mv [(.tmp 5)])⟩, ⟨(some (93, true)), (.call (some 95) (.func 17) [(.tmp 94)])⟩, ⟨(some (93, true)), (.pure 96 .mv [(.tmp 7)])⟩, ⟨(some (93, true)), (.pure 97 (.bin .eql) [(.tmp 95), (.tmp 96)])⟩, ⟨none, (.pure 98 .pick [(.tmp 93), (.tmp 97), (.const (.bool false))])⟩, ⟨none, (.pure 4 .mv [(.tmp 98)])⟩]) .ret)))))))))⟩
theorem s3_ok : cFun Try.prog [] Try.f3 = some s3 := by kernel_rfl
set_option maxHeartbeats 2000000 in
theorem c_StackOrder (w0 : World) (most : Int) (v : Value) (xs : List Int) (hv : IntsIn w0 v xs) (H : Heap) (K : Value → Heap → Prop) (h1 : K (.bool true) H) : ACall Try.prog w0 3 #[.int .i64 most, v] H K := by
  refine acall (args := [_, _]) Try.func3 s3_ok (by simp [s3]) ?_
  simp only [↓exP, ↓exA, exB, exC, reduceIte, Nat.reduceEqDiff, Nat.reduceAdd, Nat.reduceSub, Nat.reduceMul, Nat.reduceLeDiff, Nat.reduceLT, Int.reduceToNat, Int.reduceBEq, Int.reduceBNe, Int.reduceLT, Int.reduceLE, Int.reduceEq, Int.reduceNeg, decide_true, decide_false, rd1_own, rd_own, hset_notIn, s3]
  refine vcall0 Try.func12 (by kernel_rfl) (by kernel_rfl) ?_
  refine c_New w0 most H _ (fun h => ?_) (fun s b h fs fb => ?_)
  · simp only [↓exP, ↓exA, exB, exC, reduceIte, Nat.reduceEqDiff, Nat.reduceAdd, Nat.reduceSub, Nat.reduceMul, Nat.reduceLeDiff, Nat.reduceLT, Int.reduceToNat, Int.reduceBEq, Int.reduceBNe, Int.reduceLT, Int.reduceLE, Int.reduceEq, Int.reduceNeg, decide_true, decide_false, rd1_own, rd_own, hset_notIn]
    refine vcall0 Try.func13 (by kernel_rfl) (by kernel_rfl) ?_
    refine c_live25 w0 _ _ ?_
    simp only [↓exP, ↓exA, exB, exC, reduceIte, Nat.reduceEqDiff, Nat.reduceAdd, Nat.reduceSub, Nat.reduceMul, Nat.reduceLeDiff, Nat.reduceLT, Int.reduceToNat, Int.reduceBEq, Int.reduceBNe, Int.reduceLT, Int.reduceLE, Int.reduceEq, Int.reduceNeg, decide_true, decide_false, rd1_own, rd_own, hset_notIn]
    refine ⟨fun h => ?_, fun h => ?_⟩
    · exact ends_sub _ (by repeat (first | exact sub_refl _ | exact sub_nil _ | (refine sub_cons (by simp only [List.mem_cons, true_or, or_true]) ?_) | refine sub_tail ?_)) h1
    · rw [show decide (1000 < most) = true from by simp; omega]
      exact ends_sub _ (by repeat (first | exact sub_refl _ | exact sub_nil _ | (refine sub_cons (by simp only [List.mem_cons, true_or, or_true]) ?_) | refine sub_tail ?_)) h1
  · simp only [NotIn] at fs
    simp only [↓exP, ↓exA, exB, exC, reduceIte, Nat.reduceEqDiff, Nat.reduceAdd, Nat.reduceSub, Nat.reduceMul, Nat.reduceLeDiff, Nat.reduceLT, Int.reduceToNat, Int.reduceBEq, Int.reduceBNe, Int.reduceLT, Int.reduceLE, Int.reduceEq, Int.reduceNeg, decide_true, decide_false, rd1_own, rd_own, hset_notIn]
    obtain ⟨a, cap0, hv0⟩ := hv.len
    refine SWS.loop (σ := Nat × Nat × List Value) (0, 0, List.replicate most.toNat (.int .i64 0))
      (fun x => x.1 ≤ xs.length ∧ x.1 ≤ 200 ∧ x.2.1 = min x.1 most.toNat ∧ x.2.1 ≤ x.2.2.length ∧ x.2.2.take x.2.1 = (xs.take x.2.1).map (.int .i64))
      (fun x => [(0, .int .i64 most), (1, .slice a xs.length cap0), (5, .pointer (some ⟨s, 0, none⟩)), (7, .int .i64 (x.2.1 : Nat)), (8, .int .i64 (x.1 : Nat))])
      (fun x => (s, .cells [.slice (some ⟨b, 0, none⟩) x.2.1 most.toNat, .int .i64 (x.2.1 : Nat)] 2) :: (b, .cells x.2.2 most.toNat) :: H)
      (fun x => 200 - x.1) ?_ ?_ ?_ ?_
    · simp
    · simp [subR, lk, hv0]
    · repeat (first | exact sub_refl _ | exact sub_nil _ | (refine sub_cons (by simp only [List.mem_cons, true_or, or_true]) ?_) | refine sub_tail ?_)
    · rintro ⟨i, k, c⟩ ⟨hi1, hi2, hk, hkc, hct⟩
      simp only at hi1 hi2 hk hkc hct
      simp only [↓exP, ↓exA, exB, exC, reduceIte, Nat.reduceEqDiff, Nat.reduceAdd, Nat.reduceSub, Nat.reduceMul, Nat.reduceLeDiff, Nat.reduceLT, Int.reduceToNat, Int.reduceBEq, Int.reduceBNe, Int.reduceLT, Int.reduceLE, Int.reduceEq, Int.reduceNeg, decide_true, decide_false, rd1_own, rd_own, hset_notIn]
      refine ⟨fun g1 => ⟨fun g2 => ?_, fun g2 => ?_⟩, fun g1 => ?_⟩
      · have hin : i < xs.length := by omega
        obtain ⟨b2, o2, hb2, hpv, hcell⟩ := hv.get i xs[i] (List.getElem?_eq_getElem hin)
        rw [hv0] at hpv
        simp only [↓exP, ↓exA, exB, exC, reduceIte, Nat.reduceEqDiff, Nat.reduceAdd, Nat.reduceSub, Nat.reduceMul, Nat.reduceLeDiff, Nat.reduceLT, Int.reduceToNat, Int.reduceBEq, Int.reduceBNe, Int.reduceLT, Int.reduceLE, Int.reduceEq, Int.reduceNeg, decide_true, decide_false, rd1_own, rd_own, hset_notIn, hpv, rd1_old hb2 hcell]
        refine vcall0 Try.func14 (by kernel_rfl) (by kernel_rfl) ?_
        refine c_Push w0 s b k most.toNat k (.int .i64 xs[i]) c H _ rfl rfl fs.1.symm fs.2 fb (by omega) hkc (by omega) (fun hk1 => ?_) (fun c' hk1 hl' ht' => ?_)
        · simp only [↓exP, ↓exA, exB, exC, reduceIte, Nat.reduceEqDiff, Nat.reduceAdd, Nat.reduceSub, Nat.reduceMul, Nat.reduceLeDiff, Nat.reduceLT, Int.reduceToNat, Int.reduceBEq, Int.reduceBNe, Int.reduceLT, Int.reduceLE, Int.reduceEq, Int.reduceNeg, decide_true, decide_false, rd1_own, rd_own, hset_notIn]
          rw [wrap64 _ (by omega)]
          refine ⟨(i + 1, k, c), ⟨⟨by dsimp only; omega, by dsimp only; omega, by dsimp only; omega, hkc, hct⟩, by dsimp only; omega⟩, ⟨rfl, by simp [subR, lk]⟩, ?_⟩
          repeat (first | exact sub_refl _ | exact sub_nil _ | (refine sub_cons (by simp only [List.mem_cons, true_or, or_true]) ?_) | refine sub_tail ?_)
        · rw [if_pos (show (k : Int) < ((k + 1 : Nat) : Int) by omega)]
          simp only [↓exP, ↓exA, exB, exC, reduceIte, Nat.reduceEqDiff, Nat.reduceAdd, Nat.reduceSub, Nat.reduceMul, Nat.reduceLeDiff, Nat.reduceLT, Int.reduceToNat, Int.reduceBEq, Int.reduceBNe, Int.reduceLT, Int.reduceLE, Int.reduceEq, Int.reduceNeg, decide_true, decide_false, rd1_own, rd_own, hset_notIn]
          rw [wrap64 _ (by omega), wrap64 _ (by omega)]
          refine ⟨(i + 1, k + 1, c'), ⟨⟨by dsimp only; omega, by dsimp only; omega, by dsimp only; omega, hl', ?_⟩, by dsimp only; omega⟩, ⟨rfl, by simp [subR, lk]⟩, ?_⟩
          · have hki : k = i := by omega
            subst hki
            show c'.take (k + 1) = (xs.take (k + 1)).map (.int .i64)
            rw [ht', hct, List.take_add_one, List.getElem?_eq_getElem hin]
            simp only [Option.toList_some, List.map_append, List.map_cons, List.map_nil]
          · repeat (first | exact sub_refl _ | exact sub_nil _ | (refine sub_cons (by simp only [List.mem_cons, true_or, or_true]) ?_) | refine sub_tail ?_)
      all_goals
        have hi : i = min xs.length 200 := by omega
        refine ⟨fun g3 => ?_, fun g3 => absurd (by split <;> split <;> omega) g3⟩
        refine vcall0 Try.func15 (by kernel_rfl) (by kernel_rfl) ?_
        refine c_Len w0 s b k most.toNat k _ _ ?_
        simp only [↓exP, ↓exA, exB, exC, reduceIte, Nat.reduceEqDiff, Nat.reduceAdd, Nat.reduceSub, Nat.reduceMul, Nat.reduceLeDiff, Nat.reduceLT, Int.reduceToNat, Int.reduceBEq, Int.reduceBNe, Int.reduceLT, Int.reduceLE, Int.reduceEq, Int.reduceNeg, decide_true, decide_false, rd1_own, rd_own, hset_notIn]
        refine SWS.loop (σ := Nat) k (fun j => j ≤ k)
          (fun j => [(1, .slice a xs.length cap0), (5, .pointer (some ⟨s, 0, none⟩)), (7, .int .i64 (k : Nat)), (9, .int .i64 ((j : Nat) - 1 : Int))])
          (fun j => (s, .cells [.slice (some ⟨b, 0, none⟩) j most.toNat, .int .i64 (k : Nat)] 2) :: (b, .cells c most.toNat) :: H)
          (fun j => j) (Nat.le_refl _) ?_ ?_ ?_
        · rw [wrap64 _ (by omega)]; simp [subR, lk]
        · repeat (first | exact sub_refl _ | exact sub_nil _ | (refine sub_cons (by simp only [List.mem_cons, true_or, or_true]) ?_) | refine sub_tail ?_)
        · intro j hj
          simp only [↓exP, ↓exA, exB, exC, reduceIte, Nat.reduceEqDiff, Nat.reduceAdd, Nat.reduceSub, Nat.reduceMul, Nat.reduceLeDiff, Nat.reduceLT, Int.reduceToNat, Int.reduceBEq, Int.reduceBNe, Int.reduceLT, Int.reduceLE, Int.reduceEq, Int.reduceNeg, decide_true, decide_false, rd1_own, rd_own, hset_notIn]
          refine ⟨fun g4 => ?_, fun g4 => ?_⟩
          · refine vcall0 Try.func16 (by kernel_rfl) (by kernel_rfl) ?_
            refine c_Pop w0 s b j most.toNat k c H _ fs.1.symm fs.2 (by omega) (by omega) (by omega) (fun h0 => by omega) (fun x _ hx => ?_)
            have hin : j - 1 < xs.length := by omega
            have hx' : x = .int .i64 xs[j - 1] := by
              have h5 : (c.take k)[j - 1]? = c[j - 1]? := by rw [List.getElem?_take, if_pos (by omega)]
              rw [hct, List.getElem?_map, List.getElem?_take, if_pos (by omega), List.getElem?_eq_getElem hin, hx] at h5
              exact (Option.some.inj h5).symm
            subst hx'
            obtain ⟨b2, o2, hb2, hpv, hcell⟩ := hv.get (j - 1) xs[j - 1] (List.getElem?_eq_getElem hin)
            rw [hv0] at hpv
            rw [show ((j : Int) - 1) = ((j - 1 : Nat) : Int) from by omega]
            simp only [↓exP, ↓exA, exB, exC, reduceIte, Nat.reduceEqDiff, Nat.reduceAdd, Nat.reduceSub, Nat.reduceMul, Nat.reduceLeDiff, Nat.reduceLT, Int.reduceToNat, Int.reduceBEq, Int.reduceBNe, Int.reduceLT, Int.reduceLE, Int.reduceEq, Int.reduceNeg, decide_true, decide_false, rd1_own, rd_own, hset_notIn, hpv, rd1_old hb2 hcell]
            rw [wrap64 _ (by omega)]
            refine ⟨j - 1, ⟨by omega, by omega⟩, ⟨rfl, by simp [subR, lk]⟩, ?_⟩
            repeat (first | exact sub_refl _ | exact sub_nil _ | (refine sub_cons (by simp only [List.mem_cons, true_or, or_true]) ?_) | refine sub_tail ?_)
          · have hj0 : j = 0 := by omega
            subst hj0
            refine vcall0 Try.func16 (by kernel_rfl) (by kernel_rfl) ?_
            refine c_Pop w0 s b 0 most.toNat k c H _ fs.1.symm fs.2 (by omega) (by omega) (by omega) (fun h0 => ?_) (fun x h0 hx => by omega)
            simp only [↓exP, ↓exA, exB, exC, reduceIte, Nat.reduceEqDiff, Nat.reduceAdd, Nat.reduceSub, Nat.reduceMul, Nat.reduceLeDiff, Nat.reduceLT, Int.reduceToNat, Int.reduceBEq, Int.reduceBNe, Int.reduceLT, Int.reduceLE, Int.reduceEq, Int.reduceNeg, decide_true, decide_false, rd1_own, rd_own, hset_notIn]
            refine vcall0 Try.func13 (by kernel_rfl) (by kernel_rfl) ?_
            refine c_live25 w0 _ _ ?_
            simp only [↓exP, ↓exA, exB, exC, reduceIte, Nat.reduceEqDiff, Nat.reduceAdd, Nat.reduceSub, Nat.reduceMul, Nat.reduceLeDiff, Nat.reduceLT, Int.reduceToNat, Int.reduceBEq, Int.reduceBNe, Int.reduceLT, Int.reduceLE, Int.reduceEq, Int.reduceNeg, decide_true, decide_false, rd1_own, rd_own, hset_notIn]
            refine vcall0 Try.func17 (by kernel_rfl) (by kernel_rfl) ?_
            refine c_Peak w0 s _ k _ _ ?_
            simp only [↓exP, ↓exA, exB, exC, reduceIte, Nat.reduceEqDiff, Nat.reduceAdd, Nat.reduceSub, Nat.reduceMul, Nat.reduceLeDiff, Nat.reduceLT, Int.reduceToNat, Int.reduceBEq, Int.reduceBNe, Int.reduceLT, Int.reduceLE, Int.reduceEq, Int.reduceNeg, decide_true, decide_false, rd1_own, rd_own, hset_notIn]
            exact ends_sub _ (by repeat (first | exact sub_refl _ | exact sub_nil _ | (refine sub_cons (by simp only [List.mem_cons, true_or, or_true]) ?_) | refine sub_tail ?_)) h1
end Go.SL
