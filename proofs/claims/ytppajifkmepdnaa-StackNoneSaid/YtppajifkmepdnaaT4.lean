/- The law StackNone, walked. -/
import Derived.Test.YtppajifkmepdnaaT3
import Derived.Test.YtppajifkmepdnaaSlK
namespace Go.SL
set_option linter.unusedSimpArgs false
set_option linter.unusedVariables false
open Go.Proofs
theorem ti4 : tinfo Try.prog 4 = some (false, 1) := by kernel_rfl
def s20 : SFun := ⟨[], 20, [(.tmp 4)], (.seq (.reg [⟨none, (.pure 4 .mv [(.const (.bool false))])⟩]) (.seq (.reg [⟨none, (.pure 6 .mv [(.tmp 0)])⟩, ⟨none, (.call (some 7) (.func 15) [(.tmp 6)])⟩, ⟨none, (.pure 5 .mv [(.tmp 7)])⟩]) (.seq (.seq (.reg [⟨none, (.pure 8 .mv [(.tmp 5)])⟩, ⟨none, (.pure 9 (.bin .gtr) [(.tmp 8), (.const (.int .i64 0))])⟩]) (.cond (.tmp 9) (.reg [⟨none, (.pure 10 .mv [(.tmp 0)])⟩, ⟨none, (.pure 11 .nilck [(.tmp 10)])⟩, ⟨none, (.pure 12 (.fad 0) [(.tmp 11)])⟩, ⟨none, (.load1 13 (.tmp 12))⟩, ⟨none, (.pure 14 .mv [(.tmp 5)])⟩, ⟨none, (.pure 15 (.bin .sub) [(.tmp 14), (.const (.int .i64 1))])⟩, ⟨none, (.pure 16 .mv [(.tmp 1)])⟩, ⟨none, (.pure 17 (.iaS 1) [(.tmp 13), (.tmp 15)])⟩, ⟨none, (.store1 (.tmp 17) (.tmp 16))⟩]) .skip)) (.seq (.reg [⟨none, (.pure 18 .mv [(.tmp 5)])⟩, ⟨none, (.pure 19 (.bin .gtr) [(.tmp 18), (.const (.int .i64 0))])⟩, ⟨none, (.pure 4 .mv [(.tmp 19)])⟩]) .ret))))⟩
theorem s20_ok : cFun Try.prog [] Try.f20 = some s20 := by kernel_rfl
def s25 : SFun := ⟨[], 4, [(.tmp 2)], (.seq (.reg [⟨none, (.box 1 (.tmp 0))⟩, ⟨none, (.pure 2 .mv [(.const .nilFunc)])⟩]) (.seq (.reg [⟨none, (.pure 3 (.mkf 55 0) [(.tmp 1)])⟩, ⟨none, (.pure 2 .mv [(.tmp 3)])⟩]) .ret))⟩
theorem s25_ok : cFun Try.prog [] Try.f25 = some s25 := by kernel_rfl
def s55 : SFun := ⟨[], 21, [], (.seq (.reg [⟨none, (.load1 4 (.tmp 1))⟩, ⟨none, (.call (some 5) (.func 15) [(.tmp 4)])⟩, ⟨none, (.pure 6 .mv [(.const (.int .i64 0))])⟩]) (.block 0 (.loop (.seq (.reg [⟨none, (.pure 7 (.bin .lss) [(.tmp 6), (.tmp 5)])⟩]) (.seq (.cond (.tmp 7) .skip (.exit 0)) (.seq (.block 1 (.seq (.reg [⟨none, (.pure 8 .mv [(.tmp 6)])⟩, ⟨none, (.pure 3 .mv [(.tmp 8)])⟩]) (.seq (.reg [⟨none, (.pure 9 .mv [(.tmp 0)])⟩, ⟨none, (.pure 10 .mv [(.tmp 3)])⟩, ⟨none, (.load1 11 (.tmp 1))⟩, ⟨none, (.pure 12 .nilck [(.tmp 11)])⟩, ⟨none, (.pure 13 (.fad 0) [(.tmp 12)])⟩, ⟨none, (.load1 14 (.tmp 13))⟩, ⟨none, (.pure 15 .mv [(.tmp 3)])⟩, ⟨none, (.pure 16 (.iaS 1) [(.tmp 14), (.tmp 15)])⟩, ⟨none, (.load1 17 (.tmp 16))⟩, ⟨none, (.call (some 18) (.tmp 9) [(.tmp 10), (.tmp 17)])⟩, ⟨none, (.pure 19 (.un .not) [(.tmp 18)])⟩]) (.cond (.tmp 19) .ret .skip)))) (.reg [⟨none, (.pure 20 (.bin .add) [(.tmp 6), (.const (.int .i64 1))])⟩, ⟨none, (.pure 6 .mv [(.tmp 20)])⟩])))))))⟩
theorem s55_ok : cFun Try.prog [] Try.f55 = some s55 := by kernel_rfl
def s5 : SFun := ⟨[], 65, [(.cell 2 4)], (.seq (.reg [⟨none, (.alloc 2 [(.bool false)])⟩]) (.seq (.reg [⟨none, (.pure 3 .mv [(.const (.pointer none))])⟩]) (.seq (.reg [⟨none, (.pure 10 .mv [(.tmp 3)])⟩, ⟨none, (.call (some 11) (.func 16) [(.tmp 10)])⟩, ⟨none, (.pure 9 .mv [(.tmp 11)])⟩, ⟨none, (.pure 12 (.ext 0) [(.tmp 9)])⟩, ⟨none, (.pure 13 (.ext 1) [(.tmp 9)])⟩, ⟨none, (.pure 4 .mv [(.tmp 12)])⟩, ⟨none, (.pure 5 .mv [(.tmp 13)])⟩]) (.seq (.reg [⟨none, (.pure 15 .mv [(.tmp 3)])⟩, ⟨none, (.call (some 16) (.func 22) [(.tmp 15)])⟩, ⟨none, (.pure 14 .mv [(.tmp 16)])⟩, ⟨none, (.pure 17 (.ext 0) [(.tmp 14)])⟩, ⟨none, (.pure 18 (.ext 1) [(.tmp 14)])⟩, ⟨none, (.pure 6 .mv [(.tmp 17)])⟩, ⟨none, (.pure 7 .mv [(.tmp 18)])⟩]) (.seq (.seq (.reg [⟨none, (.pure 19 .mv [(.tmp 3)])⟩, ⟨none, (.call (some 20) (.func 25) [(.tmp 19)])⟩, ⟨none, (.pure 8 .mv [(.tmp 20)])⟩]) (.seq (.reg [⟨none, (.pure 21 .mv [(.tmp 8)])⟩, ⟨none, (.pure 22 (.eqf true) [(.tmp 21), (.const .nilFunc)])⟩]) (.cond (.tmp 22) (.seq (.reg [⟨none, (.pure 23 .mv [(.tmp 8)])⟩]) (.block 0 (.rfun (.tmp 23) [24, 25] .skip (.block 1 (.seq (.reg [⟨none, (.store1 (.tmp 2) (.const (.bool false)))⟩]) .ret))))) .skip))) (.seq (.reg [⟨none, (.call (some 26) (.func 13) [])⟩, ⟨none, (.pure 27 .mv [(.tmp 26)])⟩, ⟨(some (27, true)), (.pure 28 .mv [(.tmp 3)])⟩, ⟨(some (27, true)), (.pure 29 .mv [(.tmp 0)])⟩, ⟨(some (27, true)), (.call (some 30) (.func 14) [(.tmp 28), (.tmp 29)])⟩, ⟨(some (27, true)), (.pure 31 (.bin .eql) [(.tmp 30), (.const (.int .i64 1))])⟩, ⟨none, (.pure 32 .pick [(.tmp 27), (.tmp 31), (.const (.bool false))])⟩, ⟨none, (.pure 33 .mv [(.tmp 32)])⟩, ⟨(some (33, true)), (.pure 34 .mv [(.tmp 4)])⟩, ⟨(some (33, true)), (.pure 35 (.bin .eql) [(.tmp 34), (.const (.int .i64 0))])⟩, ⟨none, (.pure 36 .pick [(.tmp 33), (.tmp 35), (.const (.bool false))])⟩, ⟨none, (.pure 37 .mv [(.tmp 36)])⟩, ⟨(some (37, true)), (.pure 38 .mv [(.tmp 5)])⟩, ⟨(some (37, true)), (.pure 39 (.un .not) [(.tmp 38)])⟩, ⟨none, (.pure 40 .pick [(.tmp 37), (.tmp 39), (.const (.bool false))])⟩, ⟨none, (.pure 41 .mv [(.tmp 40)])⟩, ⟨(some (41, true)), (.pure 42 .mv [(.tmp 6)])⟩, ⟨(some (41, true)), (.pure 43 (.bin .eql) [(.tmp 42), (.const (.int .i64 0))])⟩, ⟨none, (.pure 44 .pick [(.tmp 41), (.tmp 43), (.const (.bool false))])⟩, ⟨none, (.pure 45 .mv [(.tmp 44)])⟩, ⟨(some (45, true)), (.pure 46 .mv [(.tmp 7)])⟩, ⟨(some (45, true)), (.pure 47 (.un .not) [(.tmp 46)])⟩, ⟨none, (.pure 48 .pick [(.tmp 45), (.tmp 47), (.const (.bool false))])⟩, ⟨none, (.pure 49 .mv [(.tmp 48)])⟩, ⟨(some (49, true)), (.pure 50 .mv [(.tmp 3)])⟩, ⟨(some (49, true)), (.pure 51 .mv [(.tmp 0)])⟩, ⟨(some (49, true)), (.call (some 52) (.func 20) [(.tmp 50), (.tmp 51)])⟩, ⟨(some (49, true)), (.pure 53 (.un .not) [(.tmp 52)])⟩, ⟨none, (.pure 54 .pick [(.tmp 49), (.tmp 53), (.const (.bool false))])⟩, ⟨none, (.pure 55 .mv [(.tmp 54)])⟩, ⟨(some (55, true)), (.pure 56 .mv [(.tmp 3)])⟩, ⟨(some (55, true)), (.call (some 57) (.func 15) [(.tmp 56)])⟩, ⟨(some (55, true)), (.pure 58 (.bin .eql) [(.tmp 57), (.const (.int .i64 0))])⟩, ⟨none, (.pure 59 .pick [(.tmp 55), (.tmp 58), (.const (.bool false))])⟩, ⟨none, (.pure 60 .mv [(.tmp 59)])⟩, ⟨(some (60, true)), (.pure 61 .mv [(.tmp 3)])⟩, ⟨(some (60, true)), (.call (some 62) (.func 17) [(.tmp 61)])⟩, ⟨(some (60, true)), (.pure 63 (.bin .eql) [(.tmp 62), (.const (.int .i64 0))])⟩, ⟨none, (.pure 64 .pick [(.tmp 60), (.tmp 63), (.const (.bool false))])⟩, ⟨none, (.store1 (.tmp 2) (.tmp 64))⟩]) .ret))))))⟩
theorem s5_ok : cFun Try.prog [] Try.f5 = some s5 := by kernel_rfl
set_option maxHeartbeats 1000000 in
theorem c_SetN (w0 : World) (x : Int) (H : Heap) (K : Value → Heap → Prop) (h1 : K (.bool false) H) : ACall Try.prog w0 20 #[.pointer none, .int .i64 x] H K := by
  refine acall (args := [_, _]) Try.func20 s20_ok (by simp [s20]) ?_
  simp only [↓exP, ↓exA, exB, exC, reduceIte, Nat.reduceEqDiff, Nat.reduceAdd, Nat.reduceSub, Nat.reduceMul, Nat.reduceLeDiff, Nat.reduceLT, Int.reduceToNat, Int.reduceBEq, Int.reduceBNe, Int.reduceLT, Int.reduceLE, Int.reduceEq, Int.reduceNeg, decide_true, decide_false, rd1_own, rd_own, hset_notIn, s20]
  refine vcall0 Try.func15 (by kernel_rfl) (by kernel_rfl) ?_
  refine c_LenN w0 _ _ ?_
  simp only [↓exP, ↓exA, exB, exC, reduceIte, Nat.reduceEqDiff, Nat.reduceAdd, Nat.reduceSub, Nat.reduceMul, Nat.reduceLeDiff, Nat.reduceLT, Int.reduceToNat, Int.reduceBEq, Int.reduceBNe, Int.reduceLT, Int.reduceLE, Int.reduceEq, Int.reduceNeg, decide_true, decide_false, rd1_own, rd_own, hset_notIn]
  exact ends_sub _ (fun p hp => hp) h1

/-- All: a function that bears the stack. -/
theorem c_All (w0 : World) (v : Value) (hv : v.cells = #[v]) (H : Heap) (K : Value → Heap → Prop)
    (h1 : ∀ p, NotIn p H → K (.func (.func 55) #[] #[.pointer (some ⟨p, 0, none⟩)]) ((p, .cells [v] 1) :: H)) : ACall Try.prog w0 25 #[v] H K := by
  refine acall (args := [_]) Try.func25 s25_ok (by simp [s25]) ?_
  simp only [↓exP, ↓exA, exB, exC, reduceIte, Nat.reduceEqDiff, Nat.reduceAdd, Nat.reduceSub, Nat.reduceMul, Nat.reduceLeDiff, Nat.reduceLT, Int.reduceToNat, Int.reduceBEq, Int.reduceBNe, Int.reduceLT, Int.reduceLE, Int.reduceEq, Int.reduceNeg, decide_true, decide_false, rd1_own, rd_own, hset_notIn, s25, hv]
  intro p lp fp; try simp only [NotIn] at fp
  simp only [↓exP, ↓exA, exB, exC, reduceIte, Nat.reduceEqDiff, Nat.reduceAdd, Nat.reduceSub, Nat.reduceMul, Nat.reduceLeDiff, Nat.reduceLT, Int.reduceToNat, Int.reduceBEq, Int.reduceBNe, Int.reduceLT, Int.reduceLE, Int.reduceEq, Int.reduceNeg, decide_true, decide_false, rd1_own, rd_own, hset_notIn, lp]
  exact ends_sub _ (fun p hp => hp) (h1 p fp)

/-- What All gives of a stack that is not there: nothing is told. -/
theorem c_AllF_N (w0 : World) (y : Value) (p : Nat) (F : Heap) (K : Value → Heap → Prop)
    (h1 : K (.tuple #[]) ((p, .cells [.pointer none] 1) :: F)) : ACall Try.prog w0 55 #[y, .pointer (some ⟨p, 0, none⟩)] ((p, .cells [.pointer none] 1) :: F) K := by
  refine ACall.new fun hnew => ?_
  obtain ⟨lp, _⟩ := hnew
  refine acall (args := [_, _]) Try.func55 s55_ok (by simp [s55]) ?_
  simp only [↓exP, ↓exA, exB, exC, reduceIte, Nat.reduceEqDiff, Nat.reduceAdd, Nat.reduceSub, Nat.reduceMul, Nat.reduceLeDiff, Nat.reduceLT, Int.reduceToNat, Int.reduceBEq, Int.reduceBNe, Int.reduceLT, Int.reduceLE, Int.reduceEq, Int.reduceNeg, decide_true, decide_false, rd1_own, rd_own, hset_notIn, s55, lp]
  refine vcall0 Try.func15 (by kernel_rfl) (by kernel_rfl) ?_
  refine c_LenN w0 _ _ ?_
  simp only [↓exP, ↓exA, exB, exC, reduceIte, Nat.reduceEqDiff, Nat.reduceAdd, Nat.reduceSub, Nat.reduceMul, Nat.reduceLeDiff, Nat.reduceLT, Int.reduceToNat, Int.reduceBEq, Int.reduceBNe, Int.reduceLT, Int.reduceLE, Int.reduceEq, Int.reduceNeg, decide_true, decide_false, rd1_own, rd_own, hset_notIn]
  refine SWS.loop (σ := Unit) () (fun _ => True) (fun _ => [(5, .int .i64 0), (6, .int .i64 0)]) (fun _ => (p, .cells [.pointer none] 1) :: F) (fun _ => 0) trivial ?_ ?_ ?_
  · simp [subR, lk]
  · repeat (first | exact sub_refl _ | exact sub_nil _ | (refine sub_cons (by simp only [List.mem_cons, true_or, or_true]) ?_) | refine sub_tail ?_)
  · intro _ _
    simp only [↓exP, ↓exA, exB, exC, reduceIte, Nat.reduceEqDiff, Nat.reduceAdd, Nat.reduceSub, Nat.reduceMul, Nat.reduceLeDiff, Nat.reduceLT, Int.reduceToNat, Int.reduceBEq, Int.reduceBNe, Int.reduceLT, Int.reduceLE, Int.reduceEq, Int.reduceNeg, decide_true, decide_false, rd1_own, rd_own, hset_notIn]
    exact ends_sub _ (fun p hp => hp) h1

set_option maxHeartbeats 2000000 in
theorem c_StackNone (w0 : World) (x : Int) (H : Heap) (K : Value → Heap → Prop) (h1 : K (.bool true) H) : ACall Try.prog w0 5 #[.int .i64 x] H K := by
  refine acall (args := [_]) Try.func5 s5_ok (by simp [s5]) ?_
  simp only [↓exP, ↓exA, exB, exC, reduceIte, Nat.reduceEqDiff, Nat.reduceAdd, Nat.reduceSub, Nat.reduceMul, Nat.reduceLeDiff, Nat.reduceLT, Int.reduceToNat, Int.reduceBEq, Int.reduceBNe, Int.reduceLT, Int.reduceLE, Int.reduceEq, Int.reduceNeg, decide_true, decide_false, rd1_own, rd_own, hset_notIn, s5]
  intro b2 lb2 fb2; try simp only [NotIn] at fb2
  simp only [↓exP, ↓exA, exB, exC, reduceIte, Nat.reduceEqDiff, Nat.reduceAdd, Nat.reduceSub, Nat.reduceMul, Nat.reduceLeDiff, Nat.reduceLT, Int.reduceToNat, Int.reduceBEq, Int.reduceBNe, Int.reduceLT, Int.reduceLE, Int.reduceEq, Int.reduceNeg, decide_true, decide_false, rd1_own, rd_own, hset_notIn]
  refine vcall0 Try.func16 (by kernel_rfl) (by kernel_rfl) ?_
  refine c_PopN w0 _ _ ?_
  simp only [↓exP, ↓exA, exB, exC, reduceIte, Nat.reduceEqDiff, Nat.reduceAdd, Nat.reduceSub, Nat.reduceMul, Nat.reduceLeDiff, Nat.reduceLT, Int.reduceToNat, Int.reduceBEq, Int.reduceBNe, Int.reduceLT, Int.reduceLE, Int.reduceEq, Int.reduceNeg, decide_true, decide_false, rd1_own, rd_own, hset_notIn]
  refine vcall0 Try.func22 (by kernel_rfl) (by kernel_rfl) ?_
  refine c_TopN w0 _ _ ?_
  simp only [↓exP, ↓exA, exB, exC, reduceIte, Nat.reduceEqDiff, Nat.reduceAdd, Nat.reduceSub, Nat.reduceMul, Nat.reduceLeDiff, Nat.reduceLT, Int.reduceToNat, Int.reduceBEq, Int.reduceBNe, Int.reduceLT, Int.reduceLE, Int.reduceEq, Int.reduceNeg, decide_true, decide_false, rd1_own, rd_own, hset_notIn]
  refine vcall0 Try.func25 (by kernel_rfl) (by kernel_rfl) ?_
  refine c_All w0 _ rfl _ _ (fun p fp => ?_)
  try simp only [NotIn] at fp
  simp only [↓exP, ↓exA, exB, exC, reduceIte, Nat.reduceEqDiff, Nat.reduceAdd, Nat.reduceSub, Nat.reduceMul, Nat.reduceLeDiff, Nat.reduceLT, Int.reduceToNat, Int.reduceBEq, Int.reduceBNe, Int.reduceLT, Int.reduceLE, Int.reduceEq, Int.reduceNeg, decide_true, decide_false, rd1_own, rd_own, hset_notIn]
  refine SWS.rfun (gf := 55) (lb := #[.pointer (some ⟨p, 0, none⟩)]) (by simp [ev, lk]) Try.func55 (by kernel_rfl) (by kernel_rfl) fun R D L hR hRD lD lL fD fL => ?_
  simp only [NotIn] at fD fL
  refine ACall.sub (H2 := (p, .cells [.pointer none] 1) :: (L, R.obj .ready none) :: (D, .obj (.deferred (some []))) :: (b2, .cells [.bool false] 1) :: H) ?_ ?_
  · refine c_AllF_N w0 _ p _ _ ?_
    refine .inl ⟨by simp [hget, fL], (D, .obj (.deferred (some []))) :: (b2, .cells [.bool false] 1) :: H, ?_, ?_⟩
    · intro q hq
      refine ⟨List.mem_cons_of_mem _ (List.mem_cons_of_mem _ hq), fun hL => ?_⟩
      have h9 : NotIn L ((D, Blk.obj (.deferred (some []))) :: (b2, .cells [.bool false] 1) :: H) := by simp [NotIn, fL]
      exact h9.ne (k := q.1) (x := q.2) hq hL
    · simp only [↓exP, ↓exA, exB, exC, reduceIte, Nat.reduceEqDiff, Nat.reduceAdd, Nat.reduceSub, Nat.reduceMul, Nat.reduceLeDiff, Nat.reduceLT, Int.reduceToNat, Int.reduceBEq, Int.reduceBNe, Int.reduceLT, Int.reduceLE, Int.reduceEq, Int.reduceNeg, decide_true, decide_false, rd1_own, rd_own, hset_notIn]
      refine vcall0 Try.func13 (by kernel_rfl) (by kernel_rfl) ?_
      refine c_live25 w0 _ _ ?_
      simp only [↓exP, ↓exA, exB, exC, reduceIte, Nat.reduceEqDiff, Nat.reduceAdd, Nat.reduceSub, Nat.reduceMul, Nat.reduceLeDiff, Nat.reduceLT, Int.reduceToNat, Int.reduceBEq, Int.reduceBNe, Int.reduceLT, Int.reduceLE, Int.reduceEq, Int.reduceNeg, decide_true, decide_false, rd1_own, rd_own, hset_notIn]
      refine vcall0 Try.func14 (by kernel_rfl) (by kernel_rfl) ?_
      refine c_PushN w0 _ _ _ ?_
      simp only [↓exP, ↓exA, exB, exC, reduceIte, Nat.reduceEqDiff, Nat.reduceAdd, Nat.reduceSub, Nat.reduceMul, Nat.reduceLeDiff, Nat.reduceLT, Int.reduceToNat, Int.reduceBEq, Int.reduceBNe, Int.reduceLT, Int.reduceLE, Int.reduceEq, Int.reduceNeg, decide_true, decide_false, rd1_own, rd_own, hset_notIn]
      refine vcall0 Try.func20 (by kernel_rfl) (by kernel_rfl) ?_
      refine c_SetN w0 _ _ _ ?_
      simp only [↓exP, ↓exA, exB, exC, reduceIte, Nat.reduceEqDiff, Nat.reduceAdd, Nat.reduceSub, Nat.reduceMul, Nat.reduceLeDiff, Nat.reduceLT, Int.reduceToNat, Int.reduceBEq, Int.reduceBNe, Int.reduceLT, Int.reduceLE, Int.reduceEq, Int.reduceNeg, decide_true, decide_false, rd1_own, rd_own, hset_notIn]
      refine vcall0 Try.func15 (by kernel_rfl) (by kernel_rfl) ?_
      refine c_LenN w0 _ _ ?_
      simp only [↓exP, ↓exA, exB, exC, reduceIte, Nat.reduceEqDiff, Nat.reduceAdd, Nat.reduceSub, Nat.reduceMul, Nat.reduceLeDiff, Nat.reduceLT, Int.reduceToNat, Int.reduceBEq, Int.reduceBNe, Int.reduceLT, Int.reduceLE, Int.reduceEq, Int.reduceNeg, decide_true, decide_false, rd1_own, rd_own, hset_notIn]
      refine vcall0 Try.func17 (by kernel_rfl) (by kernel_rfl) ?_
      refine c_PeakN w0 _ _ ?_
      simp only [↓exP, ↓exA, exB, exC, reduceIte, Nat.reduceEqDiff, Nat.reduceAdd, Nat.reduceSub, Nat.reduceMul, Nat.reduceLeDiff, Nat.reduceLT, Int.reduceToNat, Int.reduceBEq, Int.reduceBNe, Int.reduceLT, Int.reduceLE, Int.reduceEq, Int.reduceNeg, decide_true, decide_false, rd1_own, rd_own, hset_notIn, lb2, fD, fb2, resV_cell1 ti4]
      exact ends_mark H (by simp only [List.mem_cons, true_or]) (by repeat (first | exact sub_refl _ | exact sub_nil _ | (refine sub_cons (by simp only [List.mem_cons, true_or, or_true]) ?_) | refine sub_tail ?_)) fD.2.2 h1
  · repeat (first | exact sub_refl _ | exact sub_nil _ | (refine sub_cons (by simp only [List.mem_cons, true_or, or_true]) ?_) | refine sub_tail ?_)
end Go.SL
