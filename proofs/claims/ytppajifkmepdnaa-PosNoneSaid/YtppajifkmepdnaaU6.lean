/- The laws PosFrom and PosPlays, walked. -/
import Derived.Test.YtppajifkmepdnaaU5
set_option linter.unusedSimpArgs false
set_option linter.unusedVariables false
namespace Go.SL
open Go.Proofs
set_option maxRecDepth 8000
def b44 : Bd := ⟨4, 4⟩
theorem b44_v : Value.agg #[.int .i64 4, .int .i64 4] = bdv b44 := rfl
theorem live11_facts : ∃ P, fromP b44 [0, 1, 0, 1, 0, 1] = (P, 6, 0) ∧ winsP P 0 = true ∧ winsP P 1 = false ∧ canP P 0 = 0 ∧ wonP (dropP P 0) = 1 ∧ overP (dropP P 0) = true ∧ (dropP P 0).n = 7 ∧ P.n = 6 :=
  ⟨(fromP b44 [0, 1, 0, 1, 0, 1]).1, by kernel_rfl, by kernel_rfl, by kernel_rfl, by kernel_rfl, by kernel_rfl, by kernel_rfl, by kernel_rfl, by kernel_rfl⟩
def s28 : SFun := ⟨[], 51, [(.tmp 0)], (.seq (.reg [⟨none, (.pure 0 .mv [(.const (.bool false))])⟩]) (.seq (.reg [⟨none, (.pure 7 (.build [(.int .i64 0), (.int .i64 0)] [(0, 1), (1, 1)]) [(.const (.int .i64 4)), (.const (.int .i64 4))])⟩, ⟨none, (.bslice 8 6 [(.int .i64 0), (.int .i64 0), (.int .i64 0), (.int .i64 0), (.int .i64 0), (.int .i64 0)] [(0, 1), (1, 1), (2, 1), (3, 1), (4, 1), (5, 1)] [(.const (.int .i64 0)), (.const (.int .i64 1)), (.const (.int .i64 0)), (.const (.int .i64 1)), (.const (.int .i64 0)), (.const (.int .i64 1))])⟩, ⟨none, (.call (some 9) (.func 32) [(.tmp 7), (.tmp 8)])⟩, ⟨none, (.pure 6 .mv [(.tmp 9)])⟩, ⟨none, (.pure 10 (.ext 0) [(.tmp 6)])⟩, ⟨none, (.pure 11 (.ext 1) [(.tmp 6)])⟩, ⟨none, (.pure 12 (.ext 2) [(.tmp 6)])⟩, ⟨none, (.alloc 1 [(.int .i64 0), (.int .i64 0), (.int .u64 0), (.int .u64 0), (.int .u64 0), (.int .u64 0), (.int .u64 0), (.int .u64 0), (.int .u64 0), (.int .u64 0), (.int .i64 0), (.bool false)])⟩, ⟨none, (.storeN (.tmp 1) (.tmp 10) 12)⟩, ⟨none, (.pure 2 .mv [(.tmp 11)])⟩, ⟨none, (.pure 3 .mv [(.tmp 12)])⟩]) (.seq (.reg [⟨none, (.loadN 14 (.tmp 1) 12)⟩, ⟨none, (.call (some 15) (.func 29) [(.tmp 14), (.const (.int .i64 0))])⟩, ⟨none, (.pure 13 .mv [(.tmp 15)])⟩, ⟨none, (.pure 16 (.ext 0) [(.tmp 13)])⟩, ⟨none, (.pure 17 (.ext 1) [(.tmp 13)])⟩, ⟨none, (.alloc 4 [(.int .i64 0), (.int .i64 0), (.int .u64 0), (.int .u64 0), (.int .u64 0), (.int .u64 0), (.int .u64 0), (.int .u64 0), (.int .u64 0), (.int .u64 0), (.int .i64 0), (.bool false)])⟩, ⟨none, (.storeN (.tmp 4) (.tmp 16) 12)⟩, ⟨none, (.pure 5 .mv [(.tmp 17)])⟩]) (.seq (.reg [⟨none, (.pure 18 .mv [(.tmp 2)])⟩, ⟨none, (.pure 19 (.bin .eql) [(.tmp 18), (.const (.int .i64 6))])⟩, ⟨none, (.pure 20 .mv [(.tmp 19)])⟩, ⟨(some (20, true)), (.pure 21 .mv [(.tmp 3)])⟩, ⟨(some (20, true)), (.pure 22 (.bin .eql) [(.tmp 21), (.const (.int .i64 0))])⟩, ⟨none, (.pure 23 .pick [(.tmp 20), (.tmp 22), (.const (.bool false))])⟩, ⟨none, (.pure 24 .mv [(.tmp 23)])⟩, ⟨(some (24, true)), (.loadN 25 (.tmp 1) 12)⟩, ⟨(some (24, true)), (.call (some 26) (.func 41) [(.tmp 25), (.const (.int .i64 0))])⟩, ⟨none, (.pure 27 .pick [(.tmp 24), (.tmp 26), (.const (.bool false))])⟩, ⟨none, (.pure 28 .mv [(.tmp 27)])⟩, ⟨(some (28, true)), (.loadN 29 (.tmp 1) 12)⟩, ⟨(some (28, true)), (.call (some 30) (.func 41) [(.tmp 29), (.const (.int .i64 1))])⟩, ⟨(some (28, true)), (.pure 31 (.un .not) [(.tmp 30)])⟩, ⟨none, (.pure 32 .pick [(.tmp 28), (.tmp 31), (.const (.bool false))])⟩, ⟨none, (.pure 33 .mv [(.tmp 32)])⟩, ⟨(some (33, true)), (.pure 34 .mv [(.tmp 5)])⟩, ⟨(some (33, true)), (.pure 35 (.bin .eql) [(.tmp 34), (.const (.int .i64 0))])⟩, ⟨none, (.pure 36 .pick [(.tmp 33), (.tmp 35), (.const (.bool false))])⟩, ⟨none, (.pure 37 .mv [(.tmp 36)])⟩, ⟨(some (37, true)), (.loadN 38 (.tmp 4) 12)⟩, ⟨(some (37, true)), (.call (some 39) (.func 38) [(.tmp 38)])⟩, ⟨(some (37, true)), (.pure 40 (.bin .eql) [(.tmp 39), (.const (.int .i64 1))])⟩, ⟨none, (.pure 41 .pick [(.tmp 37), (.tmp 40), (.const (.bool false))])⟩, ⟨none, (.pure 42 .mv [(.tmp 41)])⟩, ⟨(some (42, true)), (.loadN 43 (.tmp 4) 12)⟩, ⟨(some (42, true)), (.call (some 44) (.func 37) [(.tmp 43)])⟩, ⟨none, (.pure 45 .pick [(.tmp 42), (.tmp 44), (.const (.bool false))])⟩, ⟨none, (.pure 46 .mv [(.tmp 45)])⟩, ⟨(some (46, true)), (.loadN 47 (.tmp 4) 12)⟩, ⟨(some (46, true)), (.call (some 48) (.func 40) [(.tmp 47)])⟩, ⟨(some (46, true)), (.pure 49 (.bin .eql) [(.tmp 48), (.const (.int .i64 7))])⟩, ⟨none, (.pure 50 .pick [(.tmp 46), (.tmp 49), (.const (.bool false))])⟩, ⟨none, (.pure 0 .mv [(.tmp 50)])⟩]) .ret))))⟩
theorem s28_ok : cFun Try.prog [] Try.f28 = some s28 := by kernel_rfl
theorem hb28 : HasBody Try.prog 28 := ⟨_, Try.func28, by kernel_rfl, by kernel_rfl⟩
set_option maxHeartbeats 2000000 in
theorem p_live11 : PF Try.prog 28 [] (.bool true) := by
  intro w
  refine quiet Try.func28 (by kernel_rfl) (by kernel_rfl) s28_ok (by kernel_rfl) ?_
  obtain ⟨P, h0, h1, h2, h3, h4, h5, h6, h7⟩ := live11_facts
  simp only [↓exP, ↓exQ, ↓need_ite, ↓need_ite', ↓exA, exB, exC, reduceIte, Nat.reduceEqDiff, Nat.reduceAdd, Nat.reduceSub, Nat.reduceMul, Nat.reduceLeDiff, Nat.reduceLT, Int.reduceToNat, Int.reduceBEq, Int.reduceBNe, Int.reduceLT, Int.reduceLE, Int.reduceEq, Int.reduceNeg, decide_true, decide_false, rd1_own, rd_own, hset_notIn, need_ite, need_ite', map_ite, s28]
  intro b8 lb8 fb8; try simp only [NotIn] at fb8
  simp only [↓exP, ↓exQ, ↓need_ite, ↓need_ite', ↓exA, exB, exC, reduceIte, Nat.reduceEqDiff, Nat.reduceAdd, Nat.reduceSub, Nat.reduceMul, Nat.reduceLeDiff, Nat.reduceLT, Int.reduceToNat, Int.reduceBEq, Int.reduceBNe, Int.reduceLT, Int.reduceLE, Int.reduceEq, Int.reduceNeg, decide_true, decide_false, rd1_own, rd_own, hset_notIn, need_ite, need_ite', map_ite, b44_v]
  refine vcall_q (fun w hs => p_PFrom w b44 _ [0, 1, 0, 1, 0, 1] (IntsIn.own hs (xs := [0, 1, 0, 1, 0, 1]) rfl (hget_here _ _ _) (by simp)) (by simp)) ?_
  rw [h0]
  have c6 : ((6 : Nat) : Int) = 6 := rfl
  simp only [↓exP, ↓exQ, ↓need_ite, ↓need_ite', ↓exA, exB, exC, reduceIte, Nat.reduceEqDiff, Nat.reduceAdd, Nat.reduceSub, Nat.reduceMul, Nat.reduceLeDiff, Nat.reduceLT, Int.reduceToNat, Int.reduceBEq, Int.reduceBNe, Int.reduceLT, Int.reduceLE, Int.reduceEq, Int.reduceNeg, decide_true, decide_false, rd1_own, rd_own, hset_notIn, need_ite, need_ite', map_ite, ppv_pc, pc_len, pc_take, pc_drop, pc_all, pc_fold, c6]
  intro b1 lb1 fb1; try simp only [NotIn] at fb1
  simp only [↓exP, ↓exQ, ↓need_ite, ↓need_ite', ↓exA, exB, exC, reduceIte, Nat.reduceEqDiff, Nat.reduceAdd, Nat.reduceSub, Nat.reduceMul, Nat.reduceLeDiff, Nat.reduceLT, Int.reduceToNat, Int.reduceBEq, Int.reduceBNe, Int.reduceLT, Int.reduceLE, Int.reduceEq, Int.reduceNeg, decide_true, decide_false, rd1_own, rd_own, hset_notIn, need_ite, need_ite', map_ite, lb8, lb1, fb1, ppv_pc, pc_len, pc_take, pc_drop, pc_all, pc_fold]
  refine vcall_q (fun w hs => p_PDrop P 0 (by omega) w) ?_
  simp only [↓exP, ↓exQ, ↓need_ite, ↓need_ite', ↓exA, exB, exC, reduceIte, Nat.reduceEqDiff, Nat.reduceAdd, Nat.reduceSub, Nat.reduceMul, Nat.reduceLeDiff, Nat.reduceLT, Int.reduceToNat, Int.reduceBEq, Int.reduceBNe, Int.reduceLT, Int.reduceLE, Int.reduceEq, Int.reduceNeg, decide_true, decide_false, rd1_own, rd_own, hset_notIn, need_ite, need_ite', map_ite, dropV, h3, ppv_pc, pc_len, pc_take, pc_drop, pc_all, pc_fold]
  intro b4 lb4 fb4; try simp only [NotIn] at fb4
  simp only [↓exP, ↓exQ, ↓need_ite, ↓need_ite', ↓exA, exB, exC, reduceIte, Nat.reduceEqDiff, Nat.reduceAdd, Nat.reduceSub, Nat.reduceMul, Nat.reduceLeDiff, Nat.reduceLT, Int.reduceToNat, Int.reduceBEq, Int.reduceBNe, Int.reduceLT, Int.reduceLE, Int.reduceEq, Int.reduceNeg, decide_true, decide_false, rd1_own, rd_own, hset_notIn, need_ite, need_ite', map_ite, lb8, lb1, fb1, lb4, fb4, ppv_pc, pc_len, pc_take, pc_drop, pc_all, pc_fold]
  refine vcall_q (fun w hs => p_PWins P 0 (by omega) w) ?_
  rw [h1]
  simp only [↓exP, ↓exQ, ↓need_ite, ↓need_ite', ↓exA, exB, exC, reduceIte, Nat.reduceEqDiff, Nat.reduceAdd, Nat.reduceSub, Nat.reduceMul, Nat.reduceLeDiff, Nat.reduceLT, Int.reduceToNat, Int.reduceBEq, Int.reduceBNe, Int.reduceLT, Int.reduceLE, Int.reduceEq, Int.reduceNeg, decide_true, decide_false, rd1_own, rd_own, hset_notIn, need_ite, need_ite', map_ite, lb8, lb1, fb1, lb4, fb4, ppv_pc, pc_len, pc_take, pc_drop, pc_all, pc_fold]
  refine vcall_q (fun w hs => p_PWins P 1 (by omega) w) ?_
  rw [h2]
  simp only [↓exP, ↓exQ, ↓need_ite, ↓need_ite', ↓exA, exB, exC, reduceIte, Nat.reduceEqDiff, Nat.reduceAdd, Nat.reduceSub, Nat.reduceMul, Nat.reduceLeDiff, Nat.reduceLT, Int.reduceToNat, Int.reduceBEq, Int.reduceBNe, Int.reduceLT, Int.reduceLE, Int.reduceEq, Int.reduceNeg, decide_true, decide_false, rd1_own, rd_own, hset_notIn, need_ite, need_ite', map_ite, lb8, lb1, fb1, lb4, fb4, ppv_pc, pc_len, pc_take, pc_drop, pc_all, pc_fold]
  refine vcall_q (fun w hs => p_PWon (dropP P 0) (by omega) w) ?_
  rw [h4]
  simp only [↓exP, ↓exQ, ↓need_ite, ↓need_ite', ↓exA, exB, exC, reduceIte, Nat.reduceEqDiff, Nat.reduceAdd, Nat.reduceSub, Nat.reduceMul, Nat.reduceLeDiff, Nat.reduceLT, Int.reduceToNat, Int.reduceBEq, Int.reduceBNe, Int.reduceLT, Int.reduceLE, Int.reduceEq, Int.reduceNeg, decide_true, decide_false, rd1_own, rd_own, hset_notIn, need_ite, need_ite', map_ite, lb8, lb1, fb1, lb4, fb4, ppv_pc, pc_len, pc_take, pc_drop, pc_all, pc_fold]
  refine vcall_q (fun w hs => p_POver (dropP P 0) w) ?_
  rw [h5]
  simp only [↓exP, ↓exQ, ↓need_ite, ↓need_ite', ↓exA, exB, exC, reduceIte, Nat.reduceEqDiff, Nat.reduceAdd, Nat.reduceSub, Nat.reduceMul, Nat.reduceLeDiff, Nat.reduceLT, Int.reduceToNat, Int.reduceBEq, Int.reduceBNe, Int.reduceLT, Int.reduceLE, Int.reduceEq, Int.reduceNeg, decide_true, decide_false, rd1_own, rd_own, hset_notIn, need_ite, need_ite', map_ite, lb8, lb1, fb1, lb4, fb4, ppv_pc, pc_len, pc_take, pc_drop, pc_all, pc_fold]
  refine vcall_q (fun w hs => p_PStones (dropP P 0) w) ?_
  rw [h6]
  simp only [↓exP, ↓exQ, ↓need_ite, ↓need_ite', ↓exA, exB, exC, reduceIte, Nat.reduceEqDiff, Nat.reduceAdd, Nat.reduceSub, Nat.reduceMul, Nat.reduceLeDiff, Nat.reduceLT, Int.reduceToNat, Int.reduceBEq, Int.reduceBNe, Int.reduceLT, Int.reduceLE, Int.reduceEq, Int.reduceNeg, decide_true, decide_false, rd1_own, rd_own, hset_notIn, need_ite, need_ite', map_ite]
  exact ends_q rfl

theorem isZ_ppZ : pv (.eqc false [some .i64, some .i64, some .u64, some .u64, some .u64, some .u64, some .u64, some .u64, some .u64, some .u64, some .i64, none]) [ppv ppZ, .agg #[.int .i64 0, .int .i64 0, .int .u64 0, .int .u64 0, .int .u64 0, .int .u64 0, .int .u64 0, .int .u64 0, .int .u64 0, .int .u64 0, .int .i64 0, .bool false]] = some (.bool true) := by
  rw [eqc_ppv', isZ_zero]; rfl
theorem isZ_ppZ' : pv (.eqc true [some .i64, some .i64, some .u64, some .u64, some .u64, some .u64, some .u64, some .u64, some .u64, some .u64, some .i64, none]) [ppv ppZ, .agg #[.int .i64 0, .int .i64 0, .int .u64 0, .int .u64 0, .int .u64 0, .int .u64 0, .int .u64 0, .int .u64 0, .int .u64 0, .int .u64 0, .int .i64 0, .bool false]] = some (.bool false) := by
  rw [eqc_ppv', isZ_zero]; rfl

/-- Both ways of a play, step by step. -/
theorem sim_from {p : PPos} {f : RPos} (h : Sim p f) : ∀ (xs : List Int) (i : Nat), (fromL p xs i).2 = (rFromL f xs i).2 ∧ Sim (fromL p xs i).1 (rFromL f xs i).1 := by
  intro xs
  induction xs generalizing p f with
  | nil => intro i; exact ⟨rfl, h⟩
  | cons x xs ih =>
    intro i
    have hc := (sim_like h).can x
    by_cases hz : rCan f x = 0
    · have h1 : canP p x = 0 := by rw [hc]; exact hz
      simp only [fromL, rFromL, hz, h1, if_true]
      exact ih (sim_put h hz) (i + 1)
    · have h1 : ¬ canP p x = 0 := by rw [hc]; exact hz
      simp only [fromL, rFromL, hz, h1, if_false]
      exact ⟨by rw [hc], h⟩
theorem sim_fromP (b : Bd) (xs : List Int) : (fromP b xs).2 = (rFrom b xs).2 := by
  unfold fromP rFrom
  split
  · rename_i h; exact (sim_from (sim_new h) xs 0).1
  · rfl
theorem like_fromP {b : Bd} (h : mayB b = true) (xs : List Int) : Like (fromP b xs).1 (rFrom b xs).1 := by
  unfold fromP rFrom
  rw [if_pos h, if_pos h]; exact sim_like (sim_from (sim_new h) xs 0).2
theorem fromL_ne10 (p : PPos) : ∀ (xs : List Int) (i : Nat), (fromL p xs i).2.2 ≠ 10 := by
  intro xs
  induction xs generalizing p with
  | nil => intro i; simp [fromL]
  | cons x xs ih =>
    intro i
    simp only [fromL]
    split
    · exact ih _ _
    · simp only [canP]; split <;> (try split) <;> (try split) <;> (try split) <;> simp
def s7 : SFun := ⟨[], 51, [(.tmp 4)], (.seq (.reg [⟨none, (.box 2 (.tmp 0))⟩, ⟨none, (.pure 4 .mv [(.const (.bool false))])⟩]) (.seq (.seq (.reg [⟨none, (.pure 11 .mv [(.tmp 1)])⟩, ⟨none, (.pure 12 .len [(.tmp 11)])⟩, ⟨none, (.pure 13 (.bin .gtr) [(.tmp 12), (.const (.int .i64 90))])⟩]) (.cond (.tmp 13) (.seq (.reg [⟨none, (.call (some 14) (.func 28) [])⟩, ⟨none, (.pure 4 .mv [(.tmp 14)])⟩]) .ret) .skip)) (.seq (.reg [⟨none, (.loadN 16 (.tmp 2) 2)⟩, ⟨none, (.pure 17 .mv [(.tmp 1)])⟩, ⟨none, (.call (some 18) (.func 32) [(.tmp 16), (.tmp 17)])⟩, ⟨none, (.pure 15 .mv [(.tmp 18)])⟩, ⟨none, (.pure 19 (.ext 0) [(.tmp 15)])⟩, ⟨none, (.pure 20 (.ext 1) [(.tmp 15)])⟩, ⟨none, (.pure 21 (.ext 2) [(.tmp 15)])⟩, ⟨none, (.alloc 5 [(.int .i64 0), (.int .i64 0), (.int .u64 0), (.int .u64 0), (.int .u64 0), (.int .u64 0), (.int .u64 0), (.int .u64 0), (.int .u64 0), (.int .u64 0), (.int .i64 0), (.bool false)])⟩, ⟨none, (.storeN (.tmp 5) (.tmp 19) 12)⟩, ⟨none, (.pure 6 .mv [(.tmp 20)])⟩, ⟨none, (.pure 7 .mv [(.tmp 21)])⟩]) (.seq (.reg [⟨none, (.loadN 23 (.tmp 2) 2)⟩, ⟨none, (.pure 24 .mv [(.tmp 1)])⟩, ⟨none, (.call (some 25) (.func 33) [(.tmp 23), (.tmp 24)])⟩, ⟨none, (.pure 22 .mv [(.tmp 25)])⟩, ⟨none, (.pure 26 (.ext 0) [(.tmp 22)])⟩, ⟨none, (.pure 27 (.ext 1) [(.tmp 22)])⟩, ⟨none, (.pure 28 (.ext 2) [(.tmp 22)])⟩, ⟨none, (.alloc 8 (rl [(132, (.int .i64 0))]))⟩, ⟨none, (.storeN (.tmp 8) (.tmp 26) 132)⟩, ⟨none, (.pure 9 .mv [(.tmp 27)])⟩, ⟨none, (.pure 10 .mv [(.tmp 28)])⟩]) (.seq (.seq (.reg [⟨none, (.pure 29 .mv [(.tmp 6)])⟩, ⟨none, (.pure 30 .mv [(.tmp 9)])⟩, ⟨none, (.pure 31 (.bin .neq) [(.tmp 29), (.tmp 30)])⟩, ⟨none, (.pure 32 .mv [(.tmp 31)])⟩, ⟨(some (32, false)), (.pure 33 .mv [(.tmp 7)])⟩, ⟨(some (32, false)), (.pure 34 .mv [(.tmp 10)])⟩, ⟨(some (32, false)), (.pure 35 (.bin .neq) [(.tmp 33), (.tmp 34)])⟩, ⟨none, (.pure 36 .pick [(.tmp 32), (.const (.bool true)), (.tmp 35)])⟩]) (.cond (.tmp 36) (.seq (.reg [⟨none, (.pure 4 .mv [(.const (.bool false))])⟩]) .ret) .skip)) (.seq (.seq (.reg [⟨none, (.pure 37 .mv [(.tmp 10)])⟩, ⟨none, (.pure 38 (.bin .eql) [(.tmp 37), (.const (.int .i64 10))])⟩]) (.cond (.tmp 38) (.seq (.reg [⟨none, (.call (some 39) (.func 28) [])⟩, ⟨none, (.pure 40 .mv [(.tmp 39)])⟩, ⟨(some (40, true)), (.loadN 41 (.tmp 5) 12)⟩, ⟨(some (40, true)), (.pure 42 (.build [(.int .i64 0), (.int .i64 0), (.int .u64 0), (.int .u64 0), (.int .u64 0), (.int .u64 0), (.int .u64 0), (.int .u64 0), (.int .u64 0), (.int .u64 0), (.int .i64 0), (.bool false)] []) [])⟩, ⟨(some (40, true)), (.pure 43 (.eqc false [(some .i64), (some .i64), (some .u64), (some .u64), (some .u64), (some .u64), (some .u64), (some .u64), (some .u64), (some .u64), (some .i64), none]) [(.tmp 41), (.tmp 42)])⟩, ⟨none, (.pure 44 .pick [(.tmp 40), (.tmp 43), (.const (.bool false))])⟩, ⟨none, (.pure 4 .mv [(.tmp 44)])⟩]) .ret) .skip)) (.seq (.reg [⟨none, (.call (some 45) (.func 28) [])⟩, ⟨none, (.pure 46 .mv [(.tmp 45)])⟩, ⟨(some (46, true)), (.loadN 47 (.tmp 5) 12)⟩, ⟨(some (46, true)), (.loadN 48 (.tmp 8) 132)⟩, ⟨(some (46, true)), (.call (some 49) (.func 31) [(.tmp 47), (.tmp 48)])⟩, ⟨none, (.pure 50 .pick [(.tmp 46), (.tmp 49), (.const (.bool false))])⟩, ⟨none, (.pure 4 .mv [(.tmp 50)])⟩]) .ret)))))))⟩
theorem s7_ok : cFun Try.prog [] Try.f7 = some s7 := by kernel_rfl
theorem hb7 : HasBody Try.prog 7 := ⟨_, Try.func7, by kernel_rfl, by kernel_rfl⟩
set_option maxHeartbeats 2000000 in
theorem c_PosFrom (w : World) (b : Bd) (v : Value) (xs : List Int) (hv : IntsIn w v xs) : Quiet Try.prog w 7 [bdv b, v] (.bool true) := by
  refine quiet Try.func7 (by kernel_rfl) (by kernel_rfl) s7_ok (by kernel_rfl) ?_
  obtain ⟨a, cap0, hv0⟩ := hv.len
  have hsm := hv.small
  have hlen : pv .len [v] = some (.int .i64 xs.length) := by rw [hv0]; rfl
  simp only [↓exP, ↓exQ, ↓need_ite, ↓need_ite', ↓exA, exB, exC, reduceIte, Nat.reduceEqDiff, Nat.reduceAdd, Nat.reduceSub, Nat.reduceMul, Nat.reduceLeDiff, Nat.reduceLT, Int.reduceToNat, Int.reduceBEq, Int.reduceBNe, Int.reduceLT, Int.reduceLE, Int.reduceEq, Int.reduceNeg, decide_true, decide_false, rd1_own, rd_own, hset_notIn, need_ite, need_ite', map_ite, s7, bdv_cells]
  intro b2 lb2 fb2; try simp only [NotIn] at fb2
  rcases Int.lt_or_le 90 (xs.length : Int) with h90 | h90
  · simp only [↓exP, ↓exQ, ↓need_ite, ↓need_ite', ↓exA, exB, exC, reduceIte, Nat.reduceEqDiff, Nat.reduceAdd, Nat.reduceSub, Nat.reduceMul, Nat.reduceLeDiff, Nat.reduceLT, Int.reduceToNat, Int.reduceBEq, Int.reduceBNe, Int.reduceLT, Int.reduceLE, Int.reduceEq, Int.reduceNeg, decide_true, decide_false, rd1_own, rd_own, hset_notIn, need_ite, need_ite', map_ite, hlen, h90]
    refine vcall_q (fun w hs => p_live11 w) ?_
    simp only [↓exP, ↓exQ, ↓need_ite, ↓need_ite', ↓exA, exB, exC, reduceIte, Nat.reduceEqDiff, Nat.reduceAdd, Nat.reduceSub, Nat.reduceMul, Nat.reduceLeDiff, Nat.reduceLT, Int.reduceToNat, Int.reduceBEq, Int.reduceBNe, Int.reduceLT, Int.reduceLE, Int.reduceEq, Int.reduceNeg, decide_true, decide_false, rd1_own, rd_own, hset_notIn, need_ite, need_ite', map_ite]
    exact ends_q rfl
  · have h90' : ¬ 90 < (xs.length : Int) := by omega
    simp only [↓exP, ↓exQ, ↓need_ite, ↓need_ite', ↓exA, exB, exC, reduceIte, Nat.reduceEqDiff, Nat.reduceAdd, Nat.reduceSub, Nat.reduceMul, Nat.reduceLeDiff, Nat.reduceLT, Int.reduceToNat, Int.reduceBEq, Int.reduceBNe, Int.reduceLT, Int.reduceLE, Int.reduceEq, Int.reduceNeg, decide_true, decide_false, rd1_own, rd_own, hset_notIn, need_ite, need_ite', map_ite, hlen, h90', lb2]
    refine vcall_q (fun w hs => p_PFrom w b v xs (hv.old hs) (by omega)) ?_
    simp only [↓exP, ↓exQ, ↓need_ite, ↓need_ite', ↓exA, exB, exC, reduceIte, Nat.reduceEqDiff, Nat.reduceAdd, Nat.reduceSub, Nat.reduceMul, Nat.reduceLeDiff, Nat.reduceLT, Int.reduceToNat, Int.reduceBEq, Int.reduceBNe, Int.reduceLT, Int.reduceLE, Int.reduceEq, Int.reduceNeg, decide_true, decide_false, rd1_own, rd_own, hset_notIn, need_ite, need_ite', map_ite, ppv_pc, pc_len, pc_take, pc_drop, pc_all, pc_fold]
    intro b5 lb5 fb5; try simp only [NotIn] at fb5
    simp only [↓exP, ↓exQ, ↓need_ite, ↓need_ite', ↓exA, exB, exC, reduceIte, Nat.reduceEqDiff, Nat.reduceAdd, Nat.reduceSub, Nat.reduceMul, Nat.reduceLeDiff, Nat.reduceLT, Int.reduceToNat, Int.reduceBEq, Int.reduceBNe, Int.reduceLT, Int.reduceLE, Int.reduceEq, Int.reduceNeg, decide_true, decide_false, rd1_own, rd_own, hset_notIn, need_ite, need_ite', map_ite, lb2, lb5, fb5, bdv_fold, ppv_pc, pc_len, pc_take, pc_drop, pc_all, pc_fold]
    refine vcall_q (fun w hs => p_rPlays w b v xs (hv.old hs)) ?_
    have hsame := sim_fromP b xs
    rcases hp : fromP b xs with ⟨p, n, e⟩
    rcases hr : rFrom b xs with ⟨f, n', e'⟩
    rw [hp, hr] at hsame
    simp only [Prod.mk.injEq] at hsame
    obtain ⟨rfl, rfl⟩ := hsame
    rcases Bool.eq_false_or_eq_true (mayB b) with hm | hm
    · have hlk := like_fromP hm xs
      rw [hp, hr] at hlk
      have he : ¬ e = 10 := by
        have := fromL_ne10 (newP b) xs 0
        have h2 : fromP b xs = fromL (newP b) xs 0 := if_pos hm
        rw [← h2, hp] at this; exact this
      simp only [↓exP, ↓exQ, ↓need_ite, ↓need_ite', ↓exA, exB, exC, reduceIte, Nat.reduceEqDiff, Nat.reduceAdd, Nat.reduceSub, Nat.reduceMul, Nat.reduceLeDiff, Nat.reduceLT, Int.reduceToNat, Int.reduceBEq, Int.reduceBNe, Int.reduceLT, Int.reduceLE, Int.reduceEq, Int.reduceNeg, decide_true, decide_false, rd1_own, rd_own, hset_notIn, need_ite, need_ite', map_ite, rv_cells, rc_len, rc_take, rc_drop, rc_all, rv_fold, rc_zero]
      intro b8 lb8 fb8; try simp only [NotIn] at fb8
      simp only [↓exP, ↓exQ, ↓need_ite, ↓need_ite', ↓exA, exB, exC, reduceIte, Nat.reduceEqDiff, Nat.reduceAdd, Nat.reduceSub, Nat.reduceMul, Nat.reduceLeDiff, Nat.reduceLT, Int.reduceToNat, Int.reduceBEq, Int.reduceBNe, Int.reduceLT, Int.reduceLE, Int.reduceEq, Int.reduceNeg, decide_true, decide_false, rd1_own, rd_own, hset_notIn, need_ite, need_ite', map_ite, lb2, lb5, lb8, fb5, fb8, ppv_pc, pc_len, pc_take, pc_drop, pc_all, pc_fold, rv_cells, rc_len, rc_take, rc_drop, rc_all, rv_fold, rc_zero, he]
      refine vcall_q (fun w hs => p_live11 w) ?_
      simp only [↓exP, ↓exQ, ↓need_ite, ↓need_ite', ↓exA, exB, exC, reduceIte, Nat.reduceEqDiff, Nat.reduceAdd, Nat.reduceSub, Nat.reduceMul, Nat.reduceLeDiff, Nat.reduceLT, Int.reduceToNat, Int.reduceBEq, Int.reduceBNe, Int.reduceLT, Int.reduceLE, Int.reduceEq, Int.reduceNeg, decide_true, decide_false, rd1_own, rd_own, hset_notIn, need_ite, need_ite', map_ite, lb2, lb5, lb8, fb5, fb8, ppv_pc, pc_len, pc_take, pc_drop, pc_all, pc_fold, rv_cells, rc_len, rc_take, rc_drop, rc_all, rv_fold, rc_zero]
      refine vcall_q (fun w hs => p_alike11 p f hlk w) ?_
      simp only [↓exP, ↓exQ, ↓need_ite, ↓need_ite', ↓exA, exB, exC, reduceIte, Nat.reduceEqDiff, Nat.reduceAdd, Nat.reduceSub, Nat.reduceMul, Nat.reduceLeDiff, Nat.reduceLT, Int.reduceToNat, Int.reduceBEq, Int.reduceBNe, Int.reduceLT, Int.reduceLE, Int.reduceEq, Int.reduceNeg, decide_true, decide_false, rd1_own, rd_own, hset_notIn, need_ite, need_ite', map_ite]
      exact ends_q rfl
    · have hx : fromP b xs = (ppZ, 0, 10) := by simp [fromP, hm]
      rw [hx] at hp
      obtain ⟨rfl, rfl, rfl⟩ : ppZ = p ∧ 0 = n ∧ (10 : Int) = e := by simpa using hp
      simp only [↓exP, ↓exQ, ↓need_ite, ↓need_ite', ↓exA, exB, exC, reduceIte, Nat.reduceEqDiff, Nat.reduceAdd, Nat.reduceSub, Nat.reduceMul, Nat.reduceLeDiff, Nat.reduceLT, Int.reduceToNat, Int.reduceBEq, Int.reduceBNe, Int.reduceLT, Int.reduceLE, Int.reduceEq, Int.reduceNeg, decide_true, decide_false, rd1_own, rd_own, hset_notIn, need_ite, need_ite', map_ite, rv_cells, rc_len, rc_take, rc_drop, rc_all, rv_fold, rc_zero]
      intro b8 lb8 fb8; try simp only [NotIn] at fb8
      simp only [↓exP, ↓exQ, ↓need_ite, ↓need_ite', ↓exA, exB, exC, reduceIte, Nat.reduceEqDiff, Nat.reduceAdd, Nat.reduceSub, Nat.reduceMul, Nat.reduceLeDiff, Nat.reduceLT, Int.reduceToNat, Int.reduceBEq, Int.reduceBNe, Int.reduceLT, Int.reduceLE, Int.reduceEq, Int.reduceNeg, decide_true, decide_false, rd1_own, rd_own, hset_notIn, need_ite, need_ite', map_ite, lb2, lb5, lb8, fb5, fb8, ppv_pc, pc_len, pc_take, pc_drop, pc_all, pc_fold, rv_cells, rc_len, rc_take, rc_drop, rc_all, rv_fold, rc_zero]
      refine vcall_q (fun w hs => p_live11 w) ?_
      simp only [↓exP, ↓exQ, ↓need_ite, ↓need_ite', ↓exA, exB, exC, reduceIte, Nat.reduceEqDiff, Nat.reduceAdd, Nat.reduceSub, Nat.reduceMul, Nat.reduceLeDiff, Nat.reduceLT, Int.reduceToNat, Int.reduceBEq, Int.reduceBNe, Int.reduceLT, Int.reduceLE, Int.reduceEq, Int.reduceNeg, decide_true, decide_false, rd1_own, rd_own, hset_notIn, need_ite, need_ite', map_ite, lb2, lb5, lb8, fb5, fb8, ppv_pc, pc_len, pc_take, pc_drop, pc_all, pc_fold, rv_cells, rc_len, rc_take, rc_drop, rc_all, rv_fold, rc_zero, isZ_ppZ]
      exact ends_q rfl
theorem RI_drop {f : RPos} {x : Int} (hf : RI f) : RI (rDrop f x) := by
  unfold rDrop; split
  · exact RI_put hf ‹_›
  · exact hf
def s6 : SFun := ⟨[], 84, [(.tmp 4)], (.seq (.reg [⟨none, (.box 2 (.tmp 0))⟩, ⟨none, (.pure 4 .mv [(.const (.bool false))])⟩]) (.seq (.reg [⟨none, (.loadN 15 (.tmp 2) 2)⟩, ⟨none, (.call (some 16) (.func 26) [(.tmp 15)])⟩, ⟨none, (.pure 14 .mv [(.tmp 16)])⟩, ⟨none, (.pure 17 (.ext 0) [(.tmp 14)])⟩, ⟨none, (.pure 18 (.ext 1) [(.tmp 14)])⟩, ⟨none, (.alloc 5 [(.int .i64 0), (.int .i64 0), (.int .u64 0), (.int .u64 0), (.int .u64 0), (.int .u64 0), (.int .u64 0), (.int .u64 0), (.int .u64 0), (.int .u64 0), (.int .i64 0), (.bool false)])⟩, ⟨none, (.storeN (.tmp 5) (.tmp 17) 12)⟩, ⟨none, (.pure 6 .mv [(.tmp 18)])⟩]) (.seq (.reg [⟨none, (.loadN 20 (.tmp 2) 2)⟩, ⟨none, (.call (some 21) (.func 27) [(.tmp 20)])⟩, ⟨none, (.pure 19 .mv [(.tmp 21)])⟩, ⟨none, (.pure 22 (.ext 0) [(.tmp 19)])⟩, ⟨none, (.pure 23 (.ext 1) [(.tmp 19)])⟩, ⟨none, (.alloc 7 (rl [(132, (.int .i64 0))]))⟩, ⟨none, (.storeN (.tmp 7) (.tmp 22) 132)⟩, ⟨none, (.pure 8 .mv [(.tmp 23)])⟩]) (.seq (.seq (.reg [⟨none, (.pure 24 .mv [(.tmp 6)])⟩, ⟨none, (.pure 25 .mv [(.tmp 8)])⟩, ⟨none, (.pure 26 (.bin .neq) [(.tmp 24), (.tmp 25)])⟩]) (.cond (.tmp 26) (.seq (.reg [⟨none, (.pure 4 .mv [(.const (.bool false))])⟩]) .ret) .skip)) (.seq (.seq (.reg [⟨none, (.pure 27 .mv [(.tmp 8)])⟩, ⟨none, (.pure 28 (.bin .neq) [(.tmp 27), (.const (.int .i64 0))])⟩]) (.cond (.tmp 28) (.seq (.reg [⟨none, (.call (some 29) (.func 28) [])⟩, ⟨none, (.pure 30 .mv [(.tmp 29)])⟩, ⟨(some (30, true)), (.loadN 31 (.tmp 5) 12)⟩, ⟨(some (30, true)), (.pure 32 (.build [(.int .i64 0), (.int .i64 0), (.int .u64 0), (.int .u64 0), (.int .u64 0), (.int .u64 0), (.int .u64 0), (.int .u64 0), (.int .u64 0), (.int .u64 0), (.int .i64 0), (.bool false)] []) [])⟩, ⟨(some (30, true)), (.pure 33 (.eqc false [(some .i64), (some .i64), (some .u64), (some .u64), (some .u64), (some .u64), (some .u64), (some .u64), (some .u64), (some .u64), (some .i64), none]) [(.tmp 31), (.tmp 32)])⟩, ⟨none, (.pure 34 .pick [(.tmp 30), (.tmp 33), (.const (.bool false))])⟩, ⟨none, (.pure 4 .mv [(.tmp 34)])⟩]) .ret) .skip)) (.seq (.seq (.reg [⟨none, (.pure 9 .mv [(.const (.int .i64 0))])⟩]) (.block 0 (.loop (.seq (.seq (.reg [⟨none, (.pure 35 .mv [(.tmp 9)])⟩, ⟨none, (.pure 36 .mv [(.tmp 1)])⟩, ⟨none, (.pure 37 .len [(.tmp 36)])⟩, ⟨none, (.pure 38 (.bin .lss) [(.tmp 35), (.tmp 37)])⟩, ⟨none, (.pure 39 .mv [(.tmp 38)])⟩, ⟨(some (39, true)), (.pure 40 .mv [(.tmp 9)])⟩, ⟨(some (39, true)), (.pure 41 (.bin .lss) [(.tmp 40), (.const (.int .i64 90))])⟩, ⟨none, (.pure 42 .pick [(.tmp 39), (.tmp 41), (.const (.bool false))])⟩]) (.cond (.tmp 42) .skip (.exit 0))) (.seq (.block 1 (.seq (.draw ⟨[(⟨none, (.loadN 46 (.tmp 5) 12)⟩, false), (⟨none, (.pure 47 .mv [(.tmp 1)])⟩, false), (⟨none, (.pure 48 .mv [(.tmp 9)])⟩, false), (⟨none, (.pure 49 (.iaS 1) [(.tmp 47), (.tmp 48)])⟩, false), (⟨none, (.load1 50 (.tmp 49))⟩, false), (⟨none, (.call (some 51) (.func 29) [(.tmp 46), (.tmp 50)])⟩, false), (⟨none, (.pure 45 .mv [(.tmp 51)])⟩, false), (⟨none, (.pure 52 (.ext 0) [(.tmp 45)])⟩, false), (⟨none, (.pure 53 (.ext 1) [(.tmp 45)])⟩, true)], [], (some (10, [(.int .i64 0), (.int .i64 0), (.int .u64 0), (.int .u64 0), (.int .u64 0), (.int .u64 0), (.int .u64 0), (.int .u64 0), (.int .u64 0), (.int .u64 0), (.int .i64 0), (.bool false)])), [⟨none, (.storeN (.tmp 10) (.tmp 52) 12)⟩, ⟨none, (.pure 11 .mv [(.tmp 53)])⟩]⟩) (.seq (.draw ⟨[(⟨none, (.loadN 55 (.tmp 7) 132)⟩, false), (⟨none, (.pure 56 .mv [(.tmp 1)])⟩, false), (⟨none, (.pure 57 .mv [(.tmp 9)])⟩, false), (⟨none, (.pure 58 (.iaS 1) [(.tmp 56), (.tmp 57)])⟩, false), (⟨none, (.load1 59 (.tmp 58))⟩, false), (⟨none, (.call (some 60) (.func 30) [(.tmp 55), (.tmp 59)])⟩, false), (⟨none, (.pure 54 .mv [(.tmp 60)])⟩, false), (⟨none, (.pure 61 (.ext 0) [(.tmp 54)])⟩, false), (⟨none, (.pure 62 (.ext 1) [(.tmp 54)])⟩, true)], [], (some (12, (rl [(132, (.int .i64 0))]))), [⟨none, (.storeN (.tmp 12) (.tmp 61) 132)⟩, ⟨none, (.pure 13 .mv [(.tmp 62)])⟩]⟩) (.seq (.seq (.reg [⟨none, (.pure 63 .mv [(.tmp 11)])⟩, ⟨none, (.pure 64 .mv [(.tmp 13)])⟩, ⟨none, (.pure 65 (.bin .neq) [(.tmp 63), (.tmp 64)])⟩, ⟨none, (.pure 66 .mv [(.tmp 65)])⟩, ⟨(some (66, false)), (.pure 67 .mv [(.tmp 11)])⟩, ⟨(some (66, false)), (.pure 68 (.bin .neq) [(.tmp 67), (.const (.int .i64 0))])⟩, ⟨(some (66, false)), (.pure 69 .mv [(.tmp 68)])⟩, ⟨(some (69, true)), (.loadN 70 (.tmp 10) 12)⟩, ⟨(some (69, true)), (.pure 71 (.build [(.int .i64 0), (.int .i64 0), (.int .u64 0), (.int .u64 0), (.int .u64 0), (.int .u64 0), (.int .u64 0), (.int .u64 0), (.int .u64 0), (.int .u64 0), (.int .i64 0), (.bool false)] []) [])⟩, ⟨(some (69, true)), (.pure 72 (.eqc true [(some .i64), (some .i64), (some .u64), (some .u64), (some .u64), (some .u64), (some .u64), (some .u64), (some .u64), (some .u64), (some .i64), none]) [(.tmp 70), (.tmp 71)])⟩, ⟨(some (66, false)), (.pure 73 .pick [(.tmp 69), (.tmp 72), (.const (.bool false))])⟩, ⟨none, (.pure 74 .pick [(.tmp 66), (.const (.bool true)), (.tmp 73)])⟩]) (.cond (.tmp 74) (.seq (.reg [⟨none, (.pure 4 .mv [(.const (.bool false))])⟩]) .ret) .skip)) (.seq (.seq (.reg [⟨none, (.pure 75 .mv [(.tmp 11)])⟩, ⟨none, (.pure 76 (.bin .eql) [(.tmp 75), (.const (.int .i64 0))])⟩]) (.cond (.tmp 76) (.seq (.reg [⟨none, (.loadN 77 (.tmp 10) 12)⟩, ⟨none, (.storeN (.tmp 5) (.tmp 77) 12)⟩]) (.reg [⟨none, (.loadN 78 (.tmp 12) 132)⟩, ⟨none, (.storeN (.tmp 7) (.tmp 78) 132)⟩])) .skip)) (.seq (.reg [⟨none, (.loadN 79 (.tmp 5) 12)⟩, ⟨none, (.loadN 80 (.tmp 7) 132)⟩, ⟨none, (.call (some 81) (.func 31) [(.tmp 79), (.tmp 80)])⟩, ⟨none, (.pure 82 (.un .not) [(.tmp 81)])⟩]) (.cond (.tmp 82) (.seq (.reg [⟨none, (.pure 4 .mv [(.const (.bool false))])⟩]) .ret) .skip))))))) (.reg [⟨none, (.pure 43 .mv [(.tmp 9)])⟩, ⟨none, (.pure 44 (.bin .add) [(.tmp 43), (.const (.int .i64 1))])⟩, ⟨none, (.pure 9 .mv [(.tmp 44)])⟩])))))) (.seq (.reg [⟨none, (.call (some 83) (.func 28) [])⟩, ⟨none, (.pure 4 .mv [(.tmp 83)])⟩]) .ret)))))))⟩
theorem s6_ok : cFun Try.prog [] Try.f6 = some s6 := by kernel_rfl
theorem hb6 : HasBody Try.prog 6 := ⟨_, Try.func6, by kernel_rfl, by kernel_rfl⟩
set_option maxHeartbeats 2000000 in
theorem c_PosPlays (w : World) (b : Bd) (v : Value) (xs : List Int) (hv : IntsIn w v xs) : Quiet Try.prog w 6 [bdv b, v] (.bool true) := by
  refine quiet Try.func6 (by kernel_rfl) (by kernel_rfl) s6_ok (by kernel_rfl) ?_
  obtain ⟨a, cap0, hv0⟩ := hv.len
  have hsm := hv.small
  have hlen : pv .len [v] = some (.int .i64 xs.length) := by rw [hv0]; rfl
  simp only [↓exP, ↓exQ, ↓need_ite, ↓need_ite', ↓exA, exB, exC, reduceIte, Nat.reduceEqDiff, Nat.reduceAdd, Nat.reduceSub, Nat.reduceMul, Nat.reduceLeDiff, Nat.reduceLT, Int.reduceToNat, Int.reduceBEq, Int.reduceBNe, Int.reduceLT, Int.reduceLE, Int.reduceEq, Int.reduceNeg, decide_true, decide_false, rd1_own, rd_own, hset_notIn, need_ite, need_ite', map_ite, s6, bdv_cells]
  intro b2 lb2 fb2; try simp only [NotIn] at fb2
  simp only [↓exP, ↓exQ, ↓need_ite, ↓need_ite', ↓exA, exB, exC, reduceIte, Nat.reduceEqDiff, Nat.reduceAdd, Nat.reduceSub, Nat.reduceMul, Nat.reduceLeDiff, Nat.reduceLT, Int.reduceToNat, Int.reduceBEq, Int.reduceBNe, Int.reduceLT, Int.reduceLE, Int.reduceEq, Int.reduceNeg, decide_true, decide_false, rd1_own, rd_own, hset_notIn, need_ite, need_ite', map_ite, lb2, bdv_fold]
  refine vcall_q (fun w hs => p_PNew b w) ?_
  simp only [↓exP, ↓exQ, ↓need_ite, ↓need_ite', ↓exA, exB, exC, reduceIte, Nat.reduceEqDiff, Nat.reduceAdd, Nat.reduceSub, Nat.reduceMul, Nat.reduceLeDiff, Nat.reduceLT, Int.reduceToNat, Int.reduceBEq, Int.reduceBNe, Int.reduceLT, Int.reduceLE, Int.reduceEq, Int.reduceNeg, decide_true, decide_false, rd1_own, rd_own, hset_notIn, need_ite, need_ite', map_ite, ppv_pc, pc_len, pc_take, pc_drop, pc_all, pc_fold]
  intro b5 lb5 fb5; try simp only [NotIn] at fb5
  simp only [↓exP, ↓exQ, ↓need_ite, ↓need_ite', ↓exA, exB, exC, reduceIte, Nat.reduceEqDiff, Nat.reduceAdd, Nat.reduceSub, Nat.reduceMul, Nat.reduceLeDiff, Nat.reduceLT, Int.reduceToNat, Int.reduceBEq, Int.reduceBNe, Int.reduceLT, Int.reduceLE, Int.reduceEq, Int.reduceNeg, decide_true, decide_false, rd1_own, rd_own, hset_notIn, need_ite, need_ite', map_ite, lb2, lb5, fb5, bdv_fold, ppv_pc, pc_len, pc_take, pc_drop, pc_all, pc_fold]
  refine vcall_q (fun w hs => p_rNew b w) ?_
  simp only [↓exP, ↓exQ, ↓need_ite, ↓need_ite', ↓exA, exB, exC, reduceIte, Nat.reduceEqDiff, Nat.reduceAdd, Nat.reduceSub, Nat.reduceMul, Nat.reduceLeDiff, Nat.reduceLT, Int.reduceToNat, Int.reduceBEq, Int.reduceBNe, Int.reduceLT, Int.reduceLE, Int.reduceEq, Int.reduceNeg, decide_true, decide_false, rd1_own, rd_own, hset_notIn, need_ite, need_ite', map_ite, rv_cells, rc_len, rc_take, rc_drop, rc_all, rv_fold, rc_zero]
  intro b7 lb7 fb7; try simp only [NotIn] at fb7
  rcases Bool.eq_false_or_eq_true (mayB b) with hm | hm
  · have e1 : newE b = 0 := if_pos hm
    simp only [↓exP, ↓exQ, ↓need_ite, ↓need_ite', ↓exA, exB, exC, reduceIte, Nat.reduceEqDiff, Nat.reduceAdd, Nat.reduceSub, Nat.reduceMul, Nat.reduceLeDiff, Nat.reduceLT, Int.reduceToNat, Int.reduceBEq, Int.reduceBNe, Int.reduceLT, Int.reduceLE, Int.reduceEq, Int.reduceNeg, decide_true, decide_false, rd1_own, rd_own, hset_notIn, need_ite, need_ite', map_ite, lb2, lb5, lb7, fb5, fb7, bdv_fold, ppv_pc, pc_len, pc_take, pc_drop, pc_all, pc_fold, rv_cells, rc_len, rc_take, rc_drop, rc_all, rv_fold, rc_zero, e1]
    refine SWS.loop (σ := Nat × PPos × RPos) (0, newP b, rNew b) (fun s => s.1 ≤ xs.length ∧ s.1 ≤ 90 ∧ Sim s.2.1 s.2.2) (fun s => [(1, v), (5, .pointer (some ⟨b5, 0, none⟩)), (7, .pointer (some ⟨b7, 0, none⟩)), (9, .int .i64 (s.1 : Nat))])
      (fun s => [(b7, .cells (rc s.2.2) 132), (b5, .cells (pc s.2.1) 12)]) (fun s => 90 - s.1) ⟨Nat.zero_le _, Nat.zero_le _, sim_new hm⟩ ?_ ?_ ?_
    · simp [subR, lk]
    · repeat (first | exact sub_refl _ | exact sub_nil _ | (refine sub_cons (by simp only [List.mem_cons, true_or, or_true]) ?_) | refine sub_tail ?_)
    · rintro ⟨i, p, f⟩ ⟨hil, hi90, hsim⟩
      simp only at hil hi90 hsim
      have hlk := sim_like hsim
      have e6 : IntKind.i64.wrap ((i : Int) + 1) = ((i + 1 : Nat) : Int) := by rw [wrap64 _ (by omega)]; omega
      rcases Decidable.em (i < xs.length ∧ i < 90) with hin | hin
      · obtain ⟨hin, h90⟩ := hin
        have a1 : (i : Int) < (xs.length : Int) := by omega
        have a2 : (i : Int) < 90 := by omega
        obtain ⟨b9, o9, hb9, hpv, hcell⟩ := hv.get i xs[i] (List.getElem?_eq_getElem hin)
        have hr : ∀ H, rd1 w H b9 o9 = some (.int .i64 xs[i]) := fun H => rd1_old hb9 hcell
        clear hcell
        generalize xs[i] = x at hr
        have hca := hlk.can x
        have hri := hlk.ri
        have hmul := mul_bd (x := f 0) (h := f 1) (A := 8) (B := 8) (by have := hri.1.1; omega) (by have := hri.1.2; omega)
        have hn : -1000000 ≤ p.n ∧ p.n ≤ 1000000 := by have := hlk.n; have := hri.2; omega
        simp only [↓exP, ↓exQ, ↓need_ite, ↓need_ite', ↓exA, exB, exC, reduceIte, Nat.reduceEqDiff, Nat.reduceAdd, Nat.reduceSub, Nat.reduceMul, Nat.reduceLeDiff, Nat.reduceLT, Int.reduceToNat, Int.reduceBEq, Int.reduceBNe, Int.reduceLT, Int.reduceLE, Int.reduceEq, Int.reduceNeg, decide_true, decide_false, rd1_own, rd_own, hset_notIn, need_ite, need_ite', map_ite, hlen, a1, a2, hpv, hr, lb5, lb7, fb5, fb7, ppv_pc, pc_len, pc_take, pc_drop, pc_all, pc_fold, rv_cells, rc_len, rc_take, rc_drop, rc_all, rv_fold, rc_zero]
        refine qcall_q (fun w hs => p_PDrop p x hn w) ?_
        simp only [↓exP, ↓exQ, ↓need_ite, ↓need_ite', ↓exA, exB, exC, reduceIte, Nat.reduceEqDiff, Nat.reduceAdd, Nat.reduceSub, Nat.reduceMul, Nat.reduceLeDiff, Nat.reduceLT, Int.reduceToNat, Int.reduceBEq, Int.reduceBNe, Int.reduceLT, Int.reduceLE, Int.reduceEq, Int.reduceNeg, decide_true, decide_false, rd1_own, rd_own, hset_notIn, need_ite, need_ite', map_ite, dropV, ppv_pc, pc_len, pc_take, pc_drop, pc_all, pc_fold, rv_cells, rc_len, rc_take, rc_drop, rc_all, rv_fold, rc_zero]
        intro b10 lb10 fb10; try simp only [NotIn] at fb10
        simp only [↓exP, ↓exQ, ↓need_ite, ↓need_ite', ↓exA, exB, exC, reduceIte, Nat.reduceEqDiff, Nat.reduceAdd, Nat.reduceSub, Nat.reduceMul, Nat.reduceLeDiff, Nat.reduceLT, Int.reduceToNat, Int.reduceBEq, Int.reduceBNe, Int.reduceLT, Int.reduceLE, Int.reduceEq, Int.reduceNeg, decide_true, decide_false, rd1_own, rd_own, hset_notIn, need_ite, need_ite', map_ite, hlen, a1, a2, hpv, hr, lb5, lb7, lb10, fb5, fb7, fb10, ppv_pc, pc_len, pc_take, pc_drop, pc_all, pc_fold, rv_cells, rc_len, rc_take, rc_drop, rc_all, rv_fold, rc_zero]
        refine qcall_q (fun w hs => p_rDrop f x hri w) ?_
        simp only [↓exP, ↓exQ, ↓need_ite, ↓need_ite', ↓exA, exB, exC, reduceIte, Nat.reduceEqDiff, Nat.reduceAdd, Nat.reduceSub, Nat.reduceMul, Nat.reduceLeDiff, Nat.reduceLT, Int.reduceToNat, Int.reduceBEq, Int.reduceBNe, Int.reduceLT, Int.reduceLE, Int.reduceEq, Int.reduceNeg, decide_true, decide_false, rd1_own, rd_own, hset_notIn, need_ite, need_ite', map_ite, ppv_pc, pc_len, pc_take, pc_drop, pc_all, pc_fold, rv_cells, rc_len, rc_take, rc_drop, rc_all, rv_fold, rc_zero]
        intro b12 lb12 fb12; try simp only [NotIn] at fb12
        rw [hca]
        rcases Decidable.em (rCan f x = 0) with hz | hz
        · have h1 : canP p x = 0 := by rw [hca]; exact hz
          have d1 : dropP p x = putP p x := if_pos h1
          have d2 : rDrop f x = rPut f x := if_pos hz
          have hs2 := sim_put hsim hz
          rw [d1, d2, hz]
          simp only [↓exP, ↓exQ, ↓need_ite, ↓need_ite', ↓exA, exB, exC, reduceIte, Nat.reduceEqDiff, Nat.reduceAdd, Nat.reduceSub, Nat.reduceMul, Nat.reduceLeDiff, Nat.reduceLT, Int.reduceToNat, Int.reduceBEq, Int.reduceBNe, Int.reduceLT, Int.reduceLE, Int.reduceEq, Int.reduceNeg, decide_true, decide_false, rd1_own, rd_own, hset_notIn, need_ite, need_ite', map_ite, lb5, lb7, lb10, lb12, fb5, fb7, fb10, fb12, ppv_pc, pc_len, pc_take, pc_drop, pc_all, pc_fold, rv_cells, rc_len, rc_take, rc_drop, rc_all, rv_fold, rc_zero]
          refine vcall_q (fun w hs => p_alike11 _ _ (sim_like hs2) w) ?_
          simp only [↓exP, ↓exQ, ↓need_ite, ↓need_ite', ↓exA, exB, exC, reduceIte, Nat.reduceEqDiff, Nat.reduceAdd, Nat.reduceSub, Nat.reduceMul, Nat.reduceLeDiff, Nat.reduceLT, Int.reduceToNat, Int.reduceBEq, Int.reduceBNe, Int.reduceLT, Int.reduceLE, Int.reduceEq, Int.reduceNeg, decide_true, decide_false, rd1_own, rd_own, hset_notIn, need_ite, need_ite', map_ite, e6]
          refine ⟨(i + 1, putP p x, rPut f x), ⟨⟨by dsimp only; omega, by dsimp only; omega, hs2⟩, by dsimp only; omega⟩, by simp [subR, lk], ?_⟩
          repeat (first | exact sub_refl _ | exact sub_nil _ | (refine sub_cons (by simp only [List.mem_cons, true_or, or_true]) ?_) | refine sub_tail ?_)
        · have h1 : ¬ canP p x = 0 := by rw [hca]; exact hz
          have d1 : dropP p x = ppZ := if_neg h1
          have d2 : rDrop f x = f := if_neg hz
          rw [d1, d2]
          simp only [↓exP, ↓exQ, ↓need_ite, ↓need_ite', ↓exA, exB, exC, reduceIte, Nat.reduceEqDiff, Nat.reduceAdd, Nat.reduceSub, Nat.reduceMul, Nat.reduceLeDiff, Nat.reduceLT, Int.reduceToNat, Int.reduceBEq, Int.reduceBNe, Int.reduceLT, Int.reduceLE, Int.reduceEq, Int.reduceNeg, decide_true, decide_false, rd1_own, rd_own, hset_notIn, need_ite, need_ite', map_ite, lb5, lb7, lb10, lb12, fb5, fb7, fb10, fb12, hz, isZ_ppZ', ppv_pc, pc_len, pc_take, pc_drop, pc_all, pc_fold, rv_cells, rc_len, rc_take, rc_drop, rc_all, rv_fold, rc_zero]
          refine vcall_q (fun w hs => p_alike11 _ _ hlk w) ?_
          simp only [↓exP, ↓exQ, ↓need_ite, ↓need_ite', ↓exA, exB, exC, reduceIte, Nat.reduceEqDiff, Nat.reduceAdd, Nat.reduceSub, Nat.reduceMul, Nat.reduceLeDiff, Nat.reduceLT, Int.reduceToNat, Int.reduceBEq, Int.reduceBNe, Int.reduceLT, Int.reduceLE, Int.reduceEq, Int.reduceNeg, decide_true, decide_false, rd1_own, rd_own, hset_notIn, need_ite, need_ite', map_ite, e6]
          refine ⟨(i + 1, p, f), ⟨⟨by dsimp only; omega, by dsimp only; omega, hsim⟩, by dsimp only; omega⟩, by simp [subR, lk], ?_⟩
          repeat (first | exact sub_refl _ | exact sub_nil _ | (refine sub_cons (by simp only [List.mem_cons, true_or, or_true]) ?_) | refine sub_tail ?_)
      · rcases Nat.lt_or_ge i xs.length with h1 | h1
        · have a1 : (i : Int) < (xs.length : Int) := by omega
          have a2 : ¬ (i : Int) < 90 := by omega
          simp only [↓exP, ↓exQ, ↓need_ite, ↓need_ite', ↓exA, exB, exC, reduceIte, Nat.reduceEqDiff, Nat.reduceAdd, Nat.reduceSub, Nat.reduceMul, Nat.reduceLeDiff, Nat.reduceLT, Int.reduceToNat, Int.reduceBEq, Int.reduceBNe, Int.reduceLT, Int.reduceLE, Int.reduceEq, Int.reduceNeg, decide_true, decide_false, rd1_own, rd_own, hset_notIn, need_ite, need_ite', map_ite, hlen, a1, a2]
          refine vcall_q (fun w hs => p_live11 w) ?_
          simp only [↓exP, ↓exQ, ↓need_ite, ↓need_ite', ↓exA, exB, exC, reduceIte, Nat.reduceEqDiff, Nat.reduceAdd, Nat.reduceSub, Nat.reduceMul, Nat.reduceLeDiff, Nat.reduceLT, Int.reduceToNat, Int.reduceBEq, Int.reduceBNe, Int.reduceLT, Int.reduceLE, Int.reduceEq, Int.reduceNeg, decide_true, decide_false, rd1_own, rd_own, hset_notIn, need_ite, need_ite', map_ite]
          exact ends_q rfl
        · have a1 : ¬ (i : Int) < (xs.length : Int) := by omega
          simp only [↓exP, ↓exQ, ↓need_ite, ↓need_ite', ↓exA, exB, exC, reduceIte, Nat.reduceEqDiff, Nat.reduceAdd, Nat.reduceSub, Nat.reduceMul, Nat.reduceLeDiff, Nat.reduceLT, Int.reduceToNat, Int.reduceBEq, Int.reduceBNe, Int.reduceLT, Int.reduceLE, Int.reduceEq, Int.reduceNeg, decide_true, decide_false, rd1_own, rd_own, hset_notIn, need_ite, need_ite', map_ite, hlen, a1]
          refine vcall_q (fun w hs => p_live11 w) ?_
          simp only [↓exP, ↓exQ, ↓need_ite, ↓need_ite', ↓exA, exB, exC, reduceIte, Nat.reduceEqDiff, Nat.reduceAdd, Nat.reduceSub, Nat.reduceMul, Nat.reduceLeDiff, Nat.reduceLT, Int.reduceToNat, Int.reduceBEq, Int.reduceBNe, Int.reduceLT, Int.reduceLE, Int.reduceEq, Int.reduceNeg, decide_true, decide_false, rd1_own, rd_own, hset_notIn, need_ite, need_ite', map_ite]
          exact ends_q rfl
  · have e1 : newE b = 10 := by simp [newE, hm]
    have e2 : newP b = ppZ := by simp [newP, hm]
    rw [e2]
    simp only [↓exP, ↓exQ, ↓need_ite, ↓need_ite', ↓exA, exB, exC, reduceIte, Nat.reduceEqDiff, Nat.reduceAdd, Nat.reduceSub, Nat.reduceMul, Nat.reduceLeDiff, Nat.reduceLT, Int.reduceToNat, Int.reduceBEq, Int.reduceBNe, Int.reduceLT, Int.reduceLE, Int.reduceEq, Int.reduceNeg, decide_true, decide_false, rd1_own, rd_own, hset_notIn, need_ite, need_ite', map_ite, lb2, lb5, lb7, fb5, fb7, bdv_fold, ppv_pc, pc_len, pc_take, pc_drop, pc_all, pc_fold, rv_cells, rc_len, rc_take, rc_drop, rc_all, rv_fold, rc_zero, e1]
    refine vcall_q (fun w hs => p_live11 w) ?_
    simp only [↓exP, ↓exQ, ↓need_ite, ↓need_ite', ↓exA, exB, exC, reduceIte, Nat.reduceEqDiff, Nat.reduceAdd, Nat.reduceSub, Nat.reduceMul, Nat.reduceLeDiff, Nat.reduceLT, Int.reduceToNat, Int.reduceBEq, Int.reduceBNe, Int.reduceLT, Int.reduceLE, Int.reduceEq, Int.reduceNeg, decide_true, decide_false, rd1_own, rd_own, hset_notIn, need_ite, need_ite', map_ite, lb2, lb5, lb7, fb5, fb7, isZ_ppZ, ppv_pc, pc_len, pc_take, pc_drop, pc_all, pc_fold, rv_cells, rc_len, rc_take, rc_drop, rc_all, rv_fold, rc_zero]
    exact ends_q rfl
end Go.SL
