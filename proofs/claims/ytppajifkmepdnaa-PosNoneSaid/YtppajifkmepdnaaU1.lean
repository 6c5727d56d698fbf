/- Words of 128 bits: what the functions of package wide come to. -/
import Derived.Test.YtppajifkmepdnaaM2
import Derived.Laws.Externs
import Derived.Test.YtppajifkmepdnaaProg
import Derived.KernelRfl
set_option linter.unusedSimpArgs false
set_option linter.unusedVariables false
namespace Go.SL
open Go.Proofs
theorem ti4 : tinfo Try.prog 4 = some (false, 1) := by kernel_rfl
theorem ti46 : tinfo Try.prog 46 = some (true, 2) := by kernel_rfl
theorem ti49 : tinfo Try.prog 49 = some (true, 2) := by kernel_rfl
theorem ti51 : tinfo Try.prog 51 = some (true, 12) := by kernel_rfl
theorem ti59 : tinfo Try.prog 59 = some (true, 132) := by kernel_rfl
theorem ti117 : tinfo Try.prog 117 = some (true, 128) := by kernel_rfl
theorem slt22 : slt Try.prog 22 = some (1, (8, [(.int .i64 0)])) := by kernel_rfl
theorem slt33 : slt Try.prog 33 = some (2, (16, [(.int .i64 0), (.int .i64 0)])) := by kernel_rfl
theorem slt105 : slt Try.prog 105 = some (1, (16, [(.string (.mk #[]))])) := by kernel_rfl
theorem slt125 : slt Try.prog 125 = some (2, (16, [(.int .u64 0), (.int .u64 0)])) := by kernel_rfl
theorem slt126 : slt Try.prog 126 = some (2, (16, [(.int .i64 0), (.int .i64 0)])) := by kernel_rfl
def s84 : SFun := ⟨[], 16, [(.cell 4 49)], (.seq (.reg [⟨none, (.box 2 (.tmp 0))⟩, ⟨none, (.box 3 (.tmp 1))⟩, ⟨none, (.alloc 4 [(.int .u64 0), (.int .u64 0)])⟩]) (.seq (.reg [⟨none, (.pure 5 (.fad 0) [(.tmp 2)])⟩, ⟨none, (.load1 6 (.tmp 5))⟩, ⟨none, (.pure 7 (.fad 0) [(.tmp 3)])⟩, ⟨none, (.load1 8 (.tmp 7))⟩, ⟨none, (.pure 9 (.bin .and) [(.tmp 6), (.tmp 8)])⟩, ⟨none, (.pure 10 (.fad 1) [(.tmp 2)])⟩, ⟨none, (.load1 11 (.tmp 10))⟩, ⟨none, (.pure 12 (.fad 1) [(.tmp 3)])⟩, ⟨none, (.load1 13 (.tmp 12))⟩, ⟨none, (.pure 14 (.bin .and) [(.tmp 11), (.tmp 13)])⟩, ⟨none, (.pure 15 (.build [(.int .u64 0), (.int .u64 0)] [(0, 1), (1, 1)]) [(.tmp 9), (.tmp 14)])⟩, ⟨none, (.storeN (.tmp 4) (.tmp 15) 2)⟩]) .ret))⟩
theorem s84_ok : cFun Try.prog [] Try.f84 = some s84 := by kernel_rfl
theorem hb84 : HasBody Try.prog 84 := ⟨_, Try.func84, by kernel_rfl, by kernel_rfl⟩
theorem p_And (a b : BitVec 128) : PF Try.prog 84 [wv a, wv b] (wv (a &&& b)) := by
  intro w
  refine quiet Try.func84 (by kernel_rfl) (by kernel_rfl) s84_ok (by kernel_rfl) ?_
  repeat' (first
    | (simp only [↓exP, ↓exQ, ↓need_ite, ↓need_ite', ↓exA, exB, exC, reduceIte, Nat.reduceEqDiff, Nat.reduceAdd, Nat.reduceSub, Nat.reduceMul, Nat.reduceLeDiff, Nat.reduceLT, Int.reduceToNat, Int.reduceBEq, Int.reduceBNe, Int.reduceLT, Int.reduceLE, Int.reduceEq, Int.reduceNeg, decide_true, decide_false, rd1_own, rd_own, hset_notIn, need_ite, need_ite', map_ite, s84, resV_cellN ti49, wv_cells, wv_fold, *]; done)
    | simp only [↓exP, ↓exQ, ↓need_ite, ↓need_ite', ↓exA, exB, exC, reduceIte, Nat.reduceEqDiff, Nat.reduceAdd, Nat.reduceSub, Nat.reduceMul, Nat.reduceLeDiff, Nat.reduceLT, Int.reduceToNat, Int.reduceBEq, Int.reduceBNe, Int.reduceLT, Int.reduceLE, Int.reduceEq, Int.reduceNeg, decide_true, decide_false, rd1_own, rd_own, hset_notIn, need_ite, need_ite', map_ite, s84, resV_cellN ti49, wv_cells, wv_fold, *]
    | (intro xb hl hf; try simp only [NotIn] at hf)
    | refine And.intro (fun hc => ?_) (fun hc => ?_)
    | refine ends_q ?_
    | exact wv_fold _
    | (refine And.intro (by first | omega | (simp only [*]; omega)) ?_))
  refine wv_ext ?_ ?_ <;> rw [iand_nat (by first | exact hi_lt _ | exact lo_lt _) (by first | exact hi_lt _ | exact lo_lt _)]
  · rw [hi_and]
  · rw [lo_and]
def s61 : SFun := ⟨[], 16, [(.cell 4 49)], (.seq (.reg [⟨none, (.box 2 (.tmp 0))⟩, ⟨none, (.box 3 (.tmp 1))⟩, ⟨none, (.alloc 4 [(.int .u64 0), (.int .u64 0)])⟩]) (.seq (.reg [⟨none, (.pure 5 (.fad 0) [(.tmp 2)])⟩, ⟨none, (.load1 6 (.tmp 5))⟩, ⟨none, (.pure 7 (.fad 0) [(.tmp 3)])⟩, ⟨none, (.load1 8 (.tmp 7))⟩, ⟨none, (.pure 9 (.bin .or) [(.tmp 6), (.tmp 8)])⟩, ⟨none, (.pure 10 (.fad 1) [(.tmp 2)])⟩, ⟨none, (.load1 11 (.tmp 10))⟩, ⟨none, (.pure 12 (.fad 1) [(.tmp 3)])⟩, ⟨none, (.load1 13 (.tmp 12))⟩, ⟨none, (.pure 14 (.bin .or) [(.tmp 11), (.tmp 13)])⟩, ⟨none, (.pure 15 (.build [(.int .u64 0), (.int .u64 0)] [(0, 1), (1, 1)]) [(.tmp 9), (.tmp 14)])⟩, ⟨none, (.storeN (.tmp 4) (.tmp 15) 2)⟩]) .ret))⟩
theorem s61_ok : cFun Try.prog [] Try.f61 = some s61 := by kernel_rfl
theorem hb61 : HasBody Try.prog 61 := ⟨_, Try.func61, by kernel_rfl, by kernel_rfl⟩
theorem p_Or (a b : BitVec 128) : PF Try.prog 61 [wv a, wv b] (wv (a ||| b)) := by
  intro w
  refine quiet Try.func61 (by kernel_rfl) (by kernel_rfl) s61_ok (by kernel_rfl) ?_
  repeat' (first
    | (simp only [↓exP, ↓exQ, ↓need_ite, ↓need_ite', ↓exA, exB, exC, reduceIte, Nat.reduceEqDiff, Nat.reduceAdd, Nat.reduceSub, Nat.reduceMul, Nat.reduceLeDiff, Nat.reduceLT, Int.reduceToNat, Int.reduceBEq, Int.reduceBNe, Int.reduceLT, Int.reduceLE, Int.reduceEq, Int.reduceNeg, decide_true, decide_false, rd1_own, rd_own, hset_notIn, need_ite, need_ite', map_ite, s61, resV_cellN ti49, wv_cells, wv_fold, *]; done)
    | simp only [↓exP, ↓exQ, ↓need_ite, ↓need_ite', ↓exA, exB, exC, reduceIte, Nat.reduceEqDiff, Nat.reduceAdd, Nat.reduceSub, Nat.reduceMul, Nat.reduceLeDiff, Nat.reduceLT, Int.reduceToNat, Int.reduceBEq, Int.reduceBNe, Int.reduceLT, Int.reduceLE, Int.reduceEq, Int.reduceNeg, decide_true, decide_false, rd1_own, rd_own, hset_notIn, need_ite, need_ite', map_ite, s61, resV_cellN ti49, wv_cells, wv_fold, *]
    | (intro xb hl hf; try simp only [NotIn] at hf)
    | refine And.intro (fun hc => ?_) (fun hc => ?_)
    | refine ends_q ?_
    | exact wv_fold _
    | (refine And.intro (by first | omega | (simp only [*]; omega)) ?_))
  refine wv_ext ?_ ?_ <;> rw [ior_nat (by first | exact hi_lt _ | exact lo_lt _) (by first | exact hi_lt _ | exact lo_lt _)]
  · rw [hi_or]
  · rw [lo_or]
def s75 : SFun := ⟨[], 16, [(.cell 4 49)], (.seq (.reg [⟨none, (.box 2 (.tmp 0))⟩, ⟨none, (.box 3 (.tmp 1))⟩, ⟨none, (.alloc 4 [(.int .u64 0), (.int .u64 0)])⟩]) (.seq (.reg [⟨none, (.pure 5 (.fad 0) [(.tmp 2)])⟩, ⟨none, (.load1 6 (.tmp 5))⟩, ⟨none, (.pure 7 (.fad 0) [(.tmp 3)])⟩, ⟨none, (.load1 8 (.tmp 7))⟩, ⟨none, (.pure 9 (.bin .xor) [(.tmp 6), (.tmp 8)])⟩, ⟨none, (.pure 10 (.fad 1) [(.tmp 2)])⟩, ⟨none, (.load1 11 (.tmp 10))⟩, ⟨none, (.pure 12 (.fad 1) [(.tmp 3)])⟩, ⟨none, (.load1 13 (.tmp 12))⟩, ⟨none, (.pure 14 (.bin .xor) [(.tmp 11), (.tmp 13)])⟩, ⟨none, (.pure 15 (.build [(.int .u64 0), (.int .u64 0)] [(0, 1), (1, 1)]) [(.tmp 9), (.tmp 14)])⟩, ⟨none, (.storeN (.tmp 4) (.tmp 15) 2)⟩]) .ret))⟩
theorem s75_ok : cFun Try.prog [] Try.f75 = some s75 := by kernel_rfl
theorem hb75 : HasBody Try.prog 75 := ⟨_, Try.func75, by kernel_rfl, by kernel_rfl⟩
theorem p_Xor (a b : BitVec 128) : PF Try.prog 75 [wv a, wv b] (wv (a ^^^ b)) := by
  intro w
  refine quiet Try.func75 (by kernel_rfl) (by kernel_rfl) s75_ok (by kernel_rfl) ?_
  repeat' (first
    | (simp only [↓exP, ↓exQ, ↓need_ite, ↓need_ite', ↓exA, exB, exC, reduceIte, Nat.reduceEqDiff, Nat.reduceAdd, Nat.reduceSub, Nat.reduceMul, Nat.reduceLeDiff, Nat.reduceLT, Int.reduceToNat, Int.reduceBEq, Int.reduceBNe, Int.reduceLT, Int.reduceLE, Int.reduceEq, Int.reduceNeg, decide_true, decide_false, rd1_own, rd_own, hset_notIn, need_ite, need_ite', map_ite, s75, resV_cellN ti49, wv_cells, wv_fold, *]; done)
    | simp only [↓exP, ↓exQ, ↓need_ite, ↓need_ite', ↓exA, exB, exC, reduceIte, Nat.reduceEqDiff, Nat.reduceAdd, Nat.reduceSub, Nat.reduceMul, Nat.reduceLeDiff, Nat.reduceLT, Int.reduceToNat, Int.reduceBEq, Int.reduceBNe, Int.reduceLT, Int.reduceLE, Int.reduceEq, Int.reduceNeg, decide_true, decide_false, rd1_own, rd_own, hset_notIn, need_ite, need_ite', map_ite, s75, resV_cellN ti49, wv_cells, wv_fold, *]
    | (intro xb hl hf; try simp only [NotIn] at hf)
    | refine And.intro (fun hc => ?_) (fun hc => ?_)
    | refine ends_q ?_
    | exact wv_fold _
    | (refine And.intro (by first | omega | (simp only [*]; omega)) ?_))
  refine wv_ext ?_ ?_ <;> rw [ixor_nat (by first | exact hi_lt _ | exact lo_lt _) (by first | exact hi_lt _ | exact lo_lt _)]
  · rw [hi_xor]
  · rw [lo_xor]

theorem p_Add64 (x y c : Nat) (hc : c ≤ 1) : PF Try.prog 99 [.int .u64 x, .int .u64 y, .int .u64 c] (.tuple #[.int .u64 ((x + y + c) % 2 ^ 64 : Nat), .int .u64 ((x + y + c) / 2 ^ 64 : Nat)]) := by
  refine fun w => .inr fun w' => ?_
  rw [run_callFunc_extern Try.func99 (by kernel_rfl) (by kernel_rfl) (by kernel_rfl) (e := add64Entry) (by kernel_rfl), run_add64 x y c (by omega) (by omega) (by omega) (by omega)]
  simp only [Result.andThen]
  congr 5
def sub64E : Array Value → Sem Value := fun args => do
  let (x, y, b) ← Extern.MathBitsCarry.three "Sub64" args
  pure (Extern.MathBitsCarry.pair ((x + Extern.MathBitsCarry.m64 - y - b) % Extern.MathBitsCarry.m64) (if x < y + b then 1 else 0))
theorem run_sub64E {P : Program} (x y b : Nat) (hb : b ≤ 1) (w : World) :
    (sub64E #[.int .u64 x, .int .u64 y, .int .u64 b]).run P w =
      .ok (.tuple #[.int .u64 (((x + 2 ^ 64 - y - b) % 2 ^ 64 : Nat) : Int), .int .u64 ((if x < y + b then 1 else 0 : Nat) : Int)]) w := by
  have : b = 0 ∨ b = 1 := by omega
  rcases this with rfl | rfl <;> rfl
theorem p_Sub64 (x y c : Nat) (hc : c ≤ 1) : PF Try.prog 97 [.int .u64 x, .int .u64 y, .int .u64 c] (.tuple #[.int .u64 ((x + 2 ^ 64 - y - c) % 2 ^ 64 : Nat), .int .u64 ((if x < y + c then 1 else 0 : Nat) : Int)]) := by
  refine fun w => .inr fun w' => ?_
  rw [run_callFunc_extern Try.func97 (by kernel_rfl) (by kernel_rfl) (by kernel_rfl) (e := sub64E) (by kernel_rfl), run_sub64E x y c hc]
  rfl

def s85 : SFun := ⟨[], 29, [(.cell 4 49)], (.seq (.reg [⟨none, (.box 2 (.tmp 0))⟩, ⟨none, (.box 3 (.tmp 1))⟩, ⟨none, (.alloc 4 [(.int .u64 0), (.int .u64 0)])⟩]) (.seq (.reg [⟨none, (.pure 10 (.fad 1) [(.tmp 2)])⟩, ⟨none, (.load1 11 (.tmp 10))⟩, ⟨none, (.pure 12 (.fad 1) [(.tmp 3)])⟩, ⟨none, (.load1 13 (.tmp 12))⟩, ⟨none, (.call (some 14) (.func 99) [(.tmp 11), (.tmp 13), (.const (.int .u64 0))])⟩, ⟨none, (.pure 9 .mv [(.tmp 14)])⟩, ⟨none, (.pure 15 (.ext 0) [(.tmp 9)])⟩, ⟨none, (.pure 16 (.ext 1) [(.tmp 9)])⟩, ⟨none, (.pure 5 .mv [(.tmp 15)])⟩, ⟨none, (.pure 6 .mv [(.tmp 16)])⟩]) (.seq (.reg [⟨none, (.pure 18 (.fad 0) [(.tmp 2)])⟩, ⟨none, (.load1 19 (.tmp 18))⟩, ⟨none, (.pure 20 (.fad 0) [(.tmp 3)])⟩, ⟨none, (.load1 21 (.tmp 20))⟩, ⟨none, (.pure 22 .mv [(.tmp 6)])⟩, ⟨none, (.call (some 23) (.func 99) [(.tmp 19), (.tmp 21), (.tmp 22)])⟩, ⟨none, (.pure 17 .mv [(.tmp 23)])⟩, ⟨none, (.pure 24 (.ext 0) [(.tmp 17)])⟩, ⟨none, (.pure 25 (.ext 1) [(.tmp 17)])⟩, ⟨none, (.pure 7 .mv [(.tmp 24)])⟩, ⟨none, (.pure 8 .mv [(.tmp 25)])⟩]) (.seq (.reg [⟨none, (.pure 26 .mv [(.tmp 7)])⟩, ⟨none, (.pure 27 .mv [(.tmp 5)])⟩, ⟨none, (.pure 28 (.build [(.int .u64 0), (.int .u64 0)] [(0, 1), (1, 1)]) [(.tmp 26), (.tmp 27)])⟩, ⟨none, (.storeN (.tmp 4) (.tmp 28) 2)⟩]) .ret))))⟩
theorem s85_ok : cFun Try.prog [] Try.f85 = some s85 := by kernel_rfl
theorem hb85 : HasBody Try.prog 85 := ⟨_, Try.func85, by kernel_rfl, by kernel_rfl⟩
theorem p_Add (a b : BitVec 128) : PF Try.prog 85 [wv a, wv b] (wv (a + b)) := by
  intro w
  refine quiet Try.func85 (by kernel_rfl) (by kernel_rfl) s85_ok (by kernel_rfl) ?_
  repeat' (first
    | (simp only [↓exP, ↓exQ, ↓need_ite, ↓need_ite', ↓exA, exB, exC, reduceIte, Nat.reduceEqDiff, Nat.reduceAdd, Nat.reduceSub, Nat.reduceMul, Nat.reduceLeDiff, Nat.reduceLT, Int.reduceToNat, Int.reduceBEq, Int.reduceBNe, Int.reduceLT, Int.reduceLE, Int.reduceEq, Int.reduceNeg, decide_true, decide_false, rd1_own, rd_own, hset_notIn, need_ite, need_ite', map_ite, s85, resV_cellN ti49, wv_cells, wv_fold, *]; done)
    | simp only [↓exP, ↓exQ, ↓need_ite, ↓need_ite', ↓exA, exB, exC, reduceIte, Nat.reduceEqDiff, Nat.reduceAdd, Nat.reduceSub, Nat.reduceMul, Nat.reduceLeDiff, Nat.reduceLT, Int.reduceToNat, Int.reduceBEq, Int.reduceBNe, Int.reduceLT, Int.reduceLE, Int.reduceEq, Int.reduceNeg, decide_true, decide_false, rd1_own, rd_own, hset_notIn, need_ite, need_ite', map_ite, s85, resV_cellN ti49, wv_cells, wv_fold, *]
    | (intro xb hl hf; try simp only [NotIn] at hf)
    | refine And.intro (fun hc => ?_) (fun hc => ?_)
    | refine ends_q ?_
    | exact wv_fold _
    | (refine And.intro (by first | omega | (simp only [*]; omega)) ?_))
  refine vcall_q (fun w _ => p_Add64 (lo a) (lo b) 0 (by omega) w) ?_
  repeat' (first
    | (simp only [↓exP, ↓exQ, ↓need_ite, ↓need_ite', ↓exA, exB, exC, reduceIte, Nat.reduceEqDiff, Nat.reduceAdd, Nat.reduceSub, Nat.reduceMul, Nat.reduceLeDiff, Nat.reduceLT, Int.reduceToNat, Int.reduceBEq, Int.reduceBNe, Int.reduceLT, Int.reduceLE, Int.reduceEq, Int.reduceNeg, decide_true, decide_false, rd1_own, rd_own, hset_notIn, need_ite, need_ite', map_ite, wv_cells, wv_fold, *]; done)
    | simp only [↓exP, ↓exQ, ↓need_ite, ↓need_ite', ↓exA, exB, exC, reduceIte, Nat.reduceEqDiff, Nat.reduceAdd, Nat.reduceSub, Nat.reduceMul, Nat.reduceLeDiff, Nat.reduceLT, Int.reduceToNat, Int.reduceBEq, Int.reduceBNe, Int.reduceLT, Int.reduceLE, Int.reduceEq, Int.reduceNeg, decide_true, decide_false, rd1_own, rd_own, hset_notIn, need_ite, need_ite', map_ite, wv_cells, wv_fold, *]
    | (intro xb hl hf; try simp only [NotIn] at hf)
    | refine And.intro (fun hc => ?_) (fun hc => ?_)
    | refine ends_q ?_
    | exact wv_fold _
    | (refine And.intro (by first | omega | (simp only [*]; omega)) ?_))
  refine vcall_q (fun w _ => p_Add64 (hi a) (hi b) ((lo a + lo b + 0) / 2 ^ 64) (by have := lo_lt a; have := lo_lt b; omega) w) ?_
  repeat' (first
    | (simp only [↓exP, ↓exQ, ↓need_ite, ↓need_ite', ↓exA, exB, exC, reduceIte, Nat.reduceEqDiff, Nat.reduceAdd, Nat.reduceSub, Nat.reduceMul, Nat.reduceLeDiff, Nat.reduceLT, Int.reduceToNat, Int.reduceBEq, Int.reduceBNe, Int.reduceLT, Int.reduceLE, Int.reduceEq, Int.reduceNeg, decide_true, decide_false, rd1_own, rd_own, hset_notIn, need_ite, need_ite', map_ite, s85, resV_cellN ti49, wv_cells, wv_fold, *]; done)
    | simp only [↓exP, ↓exQ, ↓need_ite, ↓need_ite', ↓exA, exB, exC, reduceIte, Nat.reduceEqDiff, Nat.reduceAdd, Nat.reduceSub, Nat.reduceMul, Nat.reduceLeDiff, Nat.reduceLT, Int.reduceToNat, Int.reduceBEq, Int.reduceBNe, Int.reduceLT, Int.reduceLE, Int.reduceEq, Int.reduceNeg, decide_true, decide_false, rd1_own, rd_own, hset_notIn, need_ite, need_ite', map_ite, s85, resV_cellN ti49, wv_cells, wv_fold, *]
    | (intro xb hl hf; try simp only [NotIn] at hf)
    | refine And.intro (fun hc => ?_) (fun hc => ?_)
    | refine ends_q ?_
    | exact wv_fold _
    | (refine And.intro (by first | omega | (simp only [*]; omega)) ?_))
  refine wv_ext ?_ ?_
  · rw [hi_add]
  · rw [lo_add]
def s81 : SFun := ⟨[], 29, [(.cell 4 49)], (.seq (.reg [⟨none, (.box 2 (.tmp 0))⟩, ⟨none, (.box 3 (.tmp 1))⟩, ⟨none, (.alloc 4 [(.int .u64 0), (.int .u64 0)])⟩]) (.seq (.reg [⟨none, (.pure 10 (.fad 1) [(.tmp 2)])⟩, ⟨none, (.load1 11 (.tmp 10))⟩, ⟨none, (.pure 12 (.fad 1) [(.tmp 3)])⟩, ⟨none, (.load1 13 (.tmp 12))⟩, ⟨none, (.call (some 14) (.func 97) [(.tmp 11), (.tmp 13), (.const (.int .u64 0))])⟩, ⟨none, (.pure 9 .mv [(.tmp 14)])⟩, ⟨none, (.pure 15 (.ext 0) [(.tmp 9)])⟩, ⟨none, (.pure 16 (.ext 1) [(.tmp 9)])⟩, ⟨none, (.pure 5 .mv [(.tmp 15)])⟩, ⟨none, (.pure 6 .mv [(.tmp 16)])⟩]) (.seq (.reg [⟨none, (.pure 18 (.fad 0) [(.tmp 2)])⟩, ⟨none, (.load1 19 (.tmp 18))⟩, ⟨none, (.pure 20 (.fad 0) [(.tmp 3)])⟩, ⟨none, (.load1 21 (.tmp 20))⟩, ⟨none, (.pure 22 .mv [(.tmp 6)])⟩, ⟨none, (.call (some 23) (.func 97) [(.tmp 19), (.tmp 21), (.tmp 22)])⟩, ⟨none, (.pure 17 .mv [(.tmp 23)])⟩, ⟨none, (.pure 24 (.ext 0) [(.tmp 17)])⟩, ⟨none, (.pure 25 (.ext 1) [(.tmp 17)])⟩, ⟨none, (.pure 7 .mv [(.tmp 24)])⟩, ⟨none, (.pure 8 .mv [(.tmp 25)])⟩]) (.seq (.reg [⟨none, (.pure 26 .mv [(.tmp 7)])⟩, ⟨none, (.pure 27 .mv [(.tmp 5)])⟩, ⟨none, (.pure 28 (.build [(.int .u64 0), (.int .u64 0)] [(0, 1), (1, 1)]) [(.tmp 26), (.tmp 27)])⟩, ⟨none, (.storeN (.tmp 4) (.tmp 28) 2)⟩]) .ret))))⟩
theorem s81_ok : cFun Try.prog [] Try.f81 = some s81 := by kernel_rfl
theorem hb81 : HasBody Try.prog 81 := ⟨_, Try.func81, by kernel_rfl, by kernel_rfl⟩
theorem p_Sub (a b : BitVec 128) : PF Try.prog 81 [wv a, wv b] (wv (a - b)) := by
  intro w
  refine quiet Try.func81 (by kernel_rfl) (by kernel_rfl) s81_ok (by kernel_rfl) ?_
  repeat' (first
    | (simp only [↓exP, ↓exQ, ↓need_ite, ↓need_ite', ↓exA, exB, exC, reduceIte, Nat.reduceEqDiff, Nat.reduceAdd, Nat.reduceSub, Nat.reduceMul, Nat.reduceLeDiff, Nat.reduceLT, Int.reduceToNat, Int.reduceBEq, Int.reduceBNe, Int.reduceLT, Int.reduceLE, Int.reduceEq, Int.reduceNeg, decide_true, decide_false, rd1_own, rd_own, hset_notIn, need_ite, need_ite', map_ite, s81, resV_cellN ti49, wv_cells, wv_fold, *]; done)
    | simp only [↓exP, ↓exQ, ↓need_ite, ↓need_ite', ↓exA, exB, exC, reduceIte, Nat.reduceEqDiff, Nat.reduceAdd, Nat.reduceSub, Nat.reduceMul, Nat.reduceLeDiff, Nat.reduceLT, Int.reduceToNat, Int.reduceBEq, Int.reduceBNe, Int.reduceLT, Int.reduceLE, Int.reduceEq, Int.reduceNeg, decide_true, decide_false, rd1_own, rd_own, hset_notIn, need_ite, need_ite', map_ite, s81, resV_cellN ti49, wv_cells, wv_fold, *]
    | (intro xb hl hf; try simp only [NotIn] at hf)
    | refine And.intro (fun hc => ?_) (fun hc => ?_)
    | refine ends_q ?_
    | exact wv_fold _
    | (refine And.intro (by first | omega | (simp only [*]; omega)) ?_))
  refine vcall_q (fun w _ => p_Sub64 (lo a) (lo b) 0 (by omega) w) ?_
  repeat' (first
    | (simp only [↓exP, ↓exQ, ↓need_ite, ↓need_ite', ↓exA, exB, exC, reduceIte, Nat.reduceEqDiff, Nat.reduceAdd, Nat.reduceSub, Nat.reduceMul, Nat.reduceLeDiff, Nat.reduceLT, Int.reduceToNat, Int.reduceBEq, Int.reduceBNe, Int.reduceLT, Int.reduceLE, Int.reduceEq, Int.reduceNeg, decide_true, decide_false, rd1_own, rd_own, hset_notIn, need_ite, need_ite', map_ite, wv_cells, wv_fold, *]; done)
    | simp only [↓exP, ↓exQ, ↓need_ite, ↓need_ite', ↓exA, exB, exC, reduceIte, Nat.reduceEqDiff, Nat.reduceAdd, Nat.reduceSub, Nat.reduceMul, Nat.reduceLeDiff, Nat.reduceLT, Int.reduceToNat, Int.reduceBEq, Int.reduceBNe, Int.reduceLT, Int.reduceLE, Int.reduceEq, Int.reduceNeg, decide_true, decide_false, rd1_own, rd_own, hset_notIn, need_ite, need_ite', map_ite, wv_cells, wv_fold, *]
    | (intro xb hl hf; try simp only [NotIn] at hf)
    | refine And.intro (fun hc => ?_) (fun hc => ?_)
    | refine ends_q ?_
    | exact wv_fold _
    | (refine And.intro (by first | omega | (simp only [*]; omega)) ?_))
  refine vcall_q (fun w _ => p_Sub64 (hi a) (hi b) (if lo a < lo b then 1 else 0) (by split <;> omega) w) ?_
  repeat' (first
    | (simp only [↓exP, ↓exQ, ↓need_ite, ↓need_ite', ↓exA, exB, exC, reduceIte, Nat.reduceEqDiff, Nat.reduceAdd, Nat.reduceSub, Nat.reduceMul, Nat.reduceLeDiff, Nat.reduceLT, Int.reduceToNat, Int.reduceBEq, Int.reduceBNe, Int.reduceLT, Int.reduceLE, Int.reduceEq, Int.reduceNeg, decide_true, decide_false, rd1_own, rd_own, hset_notIn, need_ite, need_ite', map_ite, s81, resV_cellN ti49, wv_cells, wv_fold, *]; done)
    | simp only [↓exP, ↓exQ, ↓need_ite, ↓need_ite', ↓exA, exB, exC, reduceIte, Nat.reduceEqDiff, Nat.reduceAdd, Nat.reduceSub, Nat.reduceMul, Nat.reduceLeDiff, Nat.reduceLT, Int.reduceToNat, Int.reduceBEq, Int.reduceBNe, Int.reduceLT, Int.reduceLE, Int.reduceEq, Int.reduceNeg, decide_true, decide_false, rd1_own, rd_own, hset_notIn, need_ite, need_ite', map_ite, s81, resV_cellN ti49, wv_cells, wv_fold, *]
    | (intro xb hl hf; try simp only [NotIn] at hf)
    | refine And.intro (fun hc => ?_) (fun hc => ?_)
    | refine ends_q ?_
    | exact wv_fold _
    | (refine And.intro (by first | omega | (simp only [*]; omega)) ?_))
  refine wv_ext ?_ ?_
  · rw [hi_sub]
  · rw [lo_sub]

theorem wrap64n (n : Int) (h : 0 ≤ n ∧ n < 2 ^ 63) : IntKind.u64.wrap n = (n.toNat : Int) := by rw [wrap_u64']; omega
def s103 : SFun := ⟨[], 41, [(.cell 4 49)], (.seq (.reg [⟨none, (.box 2 (.tmp 0))⟩, ⟨none, (.alloc 4 [(.int .u64 0), (.int .u64 0)])⟩]) (.seq (.block 0 (.seq (.reg [⟨none, (.pure 6 .mv [(.tmp 1)])⟩, ⟨none, (.pure 7 (.bin .leq) [(.tmp 6), (.const (.int .i64 0))])⟩, ⟨none, (.pure 5 .mv [(.tmp 7)])⟩]) (.cond (.tmp 5) (.seq (.reg [⟨none, (.loadN 8 (.tmp 2) 2)⟩, ⟨none, (.storeN (.tmp 4) (.tmp 8) 2)⟩]) .ret) (.seq (.reg [⟨none, (.pure 10 .mv [(.tmp 1)])⟩, ⟨none, (.pure 11 (.bin .gtr) [(.tmp 10), (.const (.int .i64 127))])⟩, ⟨none, (.pure 9 .mv [(.tmp 11)])⟩]) (.cond (.tmp 9) (.seq (.reg [⟨none, (.pure 12 (.build [(.int .u64 0), (.int .u64 0)] []) [])⟩, ⟨none, (.storeN (.tmp 4) (.tmp 12) 2)⟩]) .ret) (.seq (.reg [⟨none, (.pure 14 .mv [(.tmp 1)])⟩, ⟨none, (.pure 15 (.bin .geq) [(.tmp 14), (.const (.int .i64 64))])⟩, ⟨none, (.pure 13 .mv [(.tmp 15)])⟩]) (.cond (.tmp 13) (.seq (.reg [⟨none, (.pure 16 (.fad 1) [(.tmp 2)])⟩, ⟨none, (.load1 17 (.tmp 16))⟩, ⟨none, (.pure 18 .mv [(.tmp 1)])⟩, ⟨none, (.pure 19 (.bin .sub) [(.tmp 18), (.const (.int .i64 64))])⟩, ⟨none, (.pure 20 (.conv .u64) [(.tmp 19)])⟩, ⟨none, (.pure 21 (.bin .shl) [(.tmp 17), (.tmp 20)])⟩, ⟨none, (.pure 22 (.build [(.int .u64 0), (.int .u64 0)] [(0, 1)]) [(.tmp 21)])⟩, ⟨none, (.storeN (.tmp 4) (.tmp 22) 2)⟩]) .ret) .skip))))))) (.seq (.reg [⟨none, (.pure 23 (.fad 0) [(.tmp 2)])⟩, ⟨none, (.load1 24 (.tmp 23))⟩, ⟨none, (.pure 25 .mv [(.tmp 1)])⟩, ⟨none, (.pure 26 (.conv .u64) [(.tmp 25)])⟩, ⟨none, (.pure 27 (.bin .shl) [(.tmp 24), (.tmp 26)])⟩, ⟨none, (.pure 28 (.fad 1) [(.tmp 2)])⟩, ⟨none, (.load1 29 (.tmp 28))⟩, ⟨none, (.pure 30 .mv [(.tmp 1)])⟩, ⟨none, (.pure 31 (.bin .sub) [(.const (.int .i64 64)), (.tmp 30)])⟩, ⟨none, (.pure 32 (.conv .u64) [(.tmp 31)])⟩, ⟨none, (.pure 33 (.bin .shr) [(.tmp 29), (.tmp 32)])⟩, ⟨none, (.pure 34 (.bin .or) [(.tmp 27), (.tmp 33)])⟩, ⟨none, (.pure 35 (.fad 1) [(.tmp 2)])⟩, ⟨none, (.load1 36 (.tmp 35))⟩, ⟨none, (.pure 37 .mv [(.tmp 1)])⟩, ⟨none, (.pure 38 (.conv .u64) [(.tmp 37)])⟩, ⟨none, (.pure 39 (.bin .shl) [(.tmp 36), (.tmp 38)])⟩, ⟨none, (.pure 40 (.build [(.int .u64 0), (.int .u64 0)] [(0, 1), (1, 1)]) [(.tmp 34), (.tmp 39)])⟩, ⟨none, (.storeN (.tmp 4) (.tmp 40) 2)⟩]) .ret)))⟩
theorem s103_ok : cFun Try.prog [] Try.f103 = some s103 := by kernel_rfl
theorem hb103 : HasBody Try.prog 103 := ⟨_, Try.func103, by kernel_rfl, by kernel_rfl⟩
set_option maxHeartbeats 1000000 in
theorem p_Up (x : BitVec 128) (n : Int) : PF Try.prog 103 [wv x, .int .i64 n] (wv (upW x n)) := by
  intro w
  refine quiet Try.func103 (by kernel_rfl) (by kernel_rfl) s103_ok (by kernel_rfl) ?_
  rcases Int.lt_or_le 127 n with h1 | h1
  · have h2 : ¬ n ≤ 0 := by omega
    repeat' (first
    | (simp only [↓exP, ↓exQ, ↓need_ite, ↓need_ite', ↓exA, exB, exC, reduceIte, Nat.reduceEqDiff, Nat.reduceAdd, Nat.reduceSub, Nat.reduceMul, Nat.reduceLeDiff, Nat.reduceLT, Int.reduceToNat, Int.reduceBEq, Int.reduceBNe, Int.reduceLT, Int.reduceLE, Int.reduceEq, Int.reduceNeg, decide_true, decide_false, rd1_own, rd_own, hset_notIn, need_ite, need_ite', map_ite, s103, resV_cellN ti49, wv_cells, wv_fold, *]; done)
    | simp only [↓exP, ↓exQ, ↓need_ite, ↓need_ite', ↓exA, exB, exC, reduceIte, Nat.reduceEqDiff, Nat.reduceAdd, Nat.reduceSub, Nat.reduceMul, Nat.reduceLeDiff, Nat.reduceLT, Int.reduceToNat, Int.reduceBEq, Int.reduceBNe, Int.reduceLT, Int.reduceLE, Int.reduceEq, Int.reduceNeg, decide_true, decide_false, rd1_own, rd_own, hset_notIn, need_ite, need_ite', map_ite, s103, resV_cellN ti49, wv_cells, wv_fold, *]
    | (intro xb hl hf; try simp only [NotIn] at hf)
    | refine And.intro (fun hc => ?_) (fun hc => ?_)
    | refine ends_q ?_
    | exact wv_fold _
    | (refine And.intro (by first | omega | (simp only [*]; omega)) ?_))
    rw [wv_zero]; congr 1
    unfold upW
    rw [BitVec.shiftLeft_eq_zero (by omega)]; rfl
  rcases Int.lt_or_le n 1 with h2 | h2
  · have h3 : n ≤ 0 := by omega
    repeat' (first
    | (simp only [↓exP, ↓exQ, ↓need_ite, ↓need_ite', ↓exA, exB, exC, reduceIte, Nat.reduceEqDiff, Nat.reduceAdd, Nat.reduceSub, Nat.reduceMul, Nat.reduceLeDiff, Nat.reduceLT, Int.reduceToNat, Int.reduceBEq, Int.reduceBNe, Int.reduceLT, Int.reduceLE, Int.reduceEq, Int.reduceNeg, decide_true, decide_false, rd1_own, rd_own, hset_notIn, need_ite, need_ite', map_ite, s103, resV_cellN ti49, wv_cells, wv_fold, *]; done)
    | simp only [↓exP, ↓exQ, ↓need_ite, ↓need_ite', ↓exA, exB, exC, reduceIte, Nat.reduceEqDiff, Nat.reduceAdd, Nat.reduceSub, Nat.reduceMul, Nat.reduceLeDiff, Nat.reduceLT, Int.reduceToNat, Int.reduceBEq, Int.reduceBNe, Int.reduceLT, Int.reduceLE, Int.reduceEq, Int.reduceNeg, decide_true, decide_false, rd1_own, rd_own, hset_notIn, need_ite, need_ite', map_ite, s103, resV_cellN ti49, wv_cells, wv_fold, *]
    | (intro xb hl hf; try simp only [NotIn] at hf)
    | refine And.intro (fun hc => ?_) (fun hc => ?_)
    | refine ends_q ?_
    | exact wv_fold _
    | (refine And.intro (by first | omega | (simp only [*]; omega)) ?_))
    congr 1
    unfold upW
    rw [show n.toNat = 0 from by omega]; simp
  obtain ⟨m, rfl⟩ := Int.eq_ofNat_of_zero_le (show 0 ≤ n by omega)
  have h3 : ¬ (m : Int) ≤ 0 := by omega
  have h4 : ¬ 127 < (m : Int) := by omega
  rcases Int.lt_or_le (m : Int) 64 with h5 | h5
  · have h6 : ¬ 64 ≤ (m : Int) := by omega
    have e1 : IntKind.u64.wrap (m : Int) = (m : Int) := wrapu _ (by omega)
    have e2 : IntKind.i64.wrap (64 - (m : Int)) = ((64 - m : Nat) : Int) := by rw [wrap64 _ (by omega)]; omega
    have e3 : IntKind.u64.wrap ((64 - m : Nat) : Int) = ((64 - m : Nat) : Int) := wrapu _ (by omega)
    have e4 : ¬ ((64 - m : Nat) : Int) < 0 := by omega
    have e5 : ¬ (m : Int) < 0 := by omega
    clear h1 h2 h5
    repeat' (first
    | (simp only [↓exP, ↓exQ, ↓need_ite, ↓need_ite', ↓exA, exB, exC, reduceIte, Nat.reduceEqDiff, Nat.reduceAdd, Nat.reduceSub, Nat.reduceMul, Nat.reduceLeDiff, Nat.reduceLT, Int.reduceToNat, Int.reduceBEq, Int.reduceBNe, Int.reduceLT, Int.reduceLE, Int.reduceEq, Int.reduceNeg, decide_true, decide_false, rd1_own, rd_own, hset_notIn, need_ite, need_ite', map_ite, s103, resV_cellN ti49, wv_cells, wv_fold, *]; done)
    | simp only [↓exP, ↓exQ, ↓need_ite, ↓need_ite', ↓exA, exB, exC, reduceIte, Nat.reduceEqDiff, Nat.reduceAdd, Nat.reduceSub, Nat.reduceMul, Nat.reduceLeDiff, Nat.reduceLT, Int.reduceToNat, Int.reduceBEq, Int.reduceBNe, Int.reduceLT, Int.reduceLE, Int.reduceEq, Int.reduceNeg, decide_true, decide_false, rd1_own, rd_own, hset_notIn, need_ite, need_ite', map_ite, s103, resV_cellN ti49, wv_cells, wv_fold, *]
    | (intro xb hl hf; try simp only [NotIn] at hf)
    | refine And.intro (fun hc => ?_) (fun hc => ?_)
    | refine ends_q ?_
    | exact wv_fold _
    | (refine And.intro (by first | omega | (simp only [*]; omega)) ?_))
    refine wv_ext ?_ ?_
    · rw [ishl_nat (hi_lt x), ishr_nat (lo_lt x), ior_nat (Nat.mod_lt _ (by omega)) (Nat.lt_of_le_of_lt (Nat.shiftRight_le _ _) (lo_lt x)), ← hi_up x m (by omega)]
      rfl
    · rw [ishl_nat (lo_lt x), ← lo_up x m]
      rfl
  · have e2 : IntKind.i64.wrap ((m : Int) - 64) = ((m - 64 : Nat) : Int) := by rw [wrap64 _ (by omega)]; omega
    have e3 : IntKind.u64.wrap ((m - 64 : Nat) : Int) = ((m - 64 : Nat) : Int) := wrapu _ (by omega)
    have e4 : ¬ ((m - 64 : Nat) : Int) < 0 := by omega
    repeat' (first
    | (simp only [↓exP, ↓exQ, ↓need_ite, ↓need_ite', ↓exA, exB, exC, reduceIte, Nat.reduceEqDiff, Nat.reduceAdd, Nat.reduceSub, Nat.reduceMul, Nat.reduceLeDiff, Nat.reduceLT, Int.reduceToNat, Int.reduceBEq, Int.reduceBNe, Int.reduceLT, Int.reduceLE, Int.reduceEq, Int.reduceNeg, decide_true, decide_false, rd1_own, rd_own, hset_notIn, need_ite, need_ite', map_ite, s103, resV_cellN ti49, wv_cells, wv_fold, *]; done)
    | simp only [↓exP, ↓exQ, ↓need_ite, ↓need_ite', ↓exA, exB, exC, reduceIte, Nat.reduceEqDiff, Nat.reduceAdd, Nat.reduceSub, Nat.reduceMul, Nat.reduceLeDiff, Nat.reduceLT, Int.reduceToNat, Int.reduceBEq, Int.reduceBNe, Int.reduceLT, Int.reduceLE, Int.reduceEq, Int.reduceNeg, decide_true, decide_false, rd1_own, rd_own, hset_notIn, need_ite, need_ite', map_ite, s103, resV_cellN ti49, wv_cells, wv_fold, *]
    | (intro xb hl hf; try simp only [NotIn] at hf)
    | refine And.intro (fun hc => ?_) (fun hc => ?_)
    | refine ends_q ?_
    | exact wv_fold _
    | (refine And.intro (by first | omega | (simp only [*]; omega)) ?_))
    refine wv_ext ?_ ?_
    · rw [ishl_nat (lo_lt x), ← hi_up64 x m (by omega)]
      rfl
    · exact congrArg Nat.cast (lo_up64 x m (by omega)).symm
def s102 : SFun := ⟨[], 41, [(.cell 4 49)], (.seq (.reg [⟨none, (.box 2 (.tmp 0))⟩, ⟨none, (.alloc 4 [(.int .u64 0), (.int .u64 0)])⟩]) (.seq (.block 0 (.seq (.reg [⟨none, (.pure 6 .mv [(.tmp 1)])⟩, ⟨none, (.pure 7 (.bin .leq) [(.tmp 6), (.const (.int .i64 0))])⟩, ⟨none, (.pure 5 .mv [(.tmp 7)])⟩]) (.cond (.tmp 5) (.seq (.reg [⟨none, (.loadN 8 (.tmp 2) 2)⟩, ⟨none, (.storeN (.tmp 4) (.tmp 8) 2)⟩]) .ret) (.seq (.reg [⟨none, (.pure 10 .mv [(.tmp 1)])⟩, ⟨none, (.pure 11 (.bin .gtr) [(.tmp 10), (.const (.int .i64 127))])⟩, ⟨none, (.pure 9 .mv [(.tmp 11)])⟩]) (.cond (.tmp 9) (.seq (.reg [⟨none, (.pure 12 (.build [(.int .u64 0), (.int .u64 0)] []) [])⟩, ⟨none, (.storeN (.tmp 4) (.tmp 12) 2)⟩]) .ret) (.seq (.reg [⟨none, (.pure 14 .mv [(.tmp 1)])⟩, ⟨none, (.pure 15 (.bin .geq) [(.tmp 14), (.const (.int .i64 64))])⟩, ⟨none, (.pure 13 .mv [(.tmp 15)])⟩]) (.cond (.tmp 13) (.seq (.reg [⟨none, (.pure 16 (.fad 0) [(.tmp 2)])⟩, ⟨none, (.load1 17 (.tmp 16))⟩, ⟨none, (.pure 18 .mv [(.tmp 1)])⟩, ⟨none, (.pure 19 (.bin .sub) [(.tmp 18), (.const (.int .i64 64))])⟩, ⟨none, (.pure 20 (.conv .u64) [(.tmp 19)])⟩, ⟨none, (.pure 21 (.bin .shr) [(.tmp 17), (.tmp 20)])⟩, ⟨none, (.pure 22 (.build [(.int .u64 0), (.int .u64 0)] [(1, 1)]) [(.tmp 21)])⟩, ⟨none, (.storeN (.tmp 4) (.tmp 22) 2)⟩]) .ret) .skip))))))) (.seq (.reg [⟨none, (.pure 23 (.fad 0) [(.tmp 2)])⟩, ⟨none, (.load1 24 (.tmp 23))⟩, ⟨none, (.pure 25 .mv [(.tmp 1)])⟩, ⟨none, (.pure 26 (.conv .u64) [(.tmp 25)])⟩, ⟨none, (.pure 27 (.bin .shr) [(.tmp 24), (.tmp 26)])⟩, ⟨none, (.pure 28 (.fad 1) [(.tmp 2)])⟩, ⟨none, (.load1 29 (.tmp 28))⟩, ⟨none, (.pure 30 .mv [(.tmp 1)])⟩, ⟨none, (.pure 31 (.conv .u64) [(.tmp 30)])⟩, ⟨none, (.pure 32 (.bin .shr) [(.tmp 29), (.tmp 31)])⟩, ⟨none, (.pure 33 (.fad 0) [(.tmp 2)])⟩, ⟨none, (.load1 34 (.tmp 33))⟩, ⟨none, (.pure 35 .mv [(.tmp 1)])⟩, ⟨none, (.pure 36 (.bin .sub) [(.const (.int .i64 64)), (.tmp 35)])⟩, ⟨none, (.pure 37 (.conv .u64) [(.tmp 36)])⟩, ⟨none, (.pure 38 (.bin .shl) [(.tmp 34), (.tmp 37)])⟩, ⟨none, (.pure 39 (.bin .or) [(.tmp 32), (.tmp 38)])⟩, ⟨none, (.pure 40 (.build [(.int .u64 0), (.int .u64 0)] [(0, 1), (1, 1)]) [(.tmp 27), (.tmp 39)])⟩, ⟨none, (.storeN (.tmp 4) (.tmp 40) 2)⟩]) .ret)))⟩
theorem s102_ok : cFun Try.prog [] Try.f102 = some s102 := by kernel_rfl
theorem hb102 : HasBody Try.prog 102 := ⟨_, Try.func102, by kernel_rfl, by kernel_rfl⟩
set_option maxHeartbeats 1000000 in
theorem p_Down (x : BitVec 128) (n : Int) : PF Try.prog 102 [wv x, .int .i64 n] (wv (downW x n)) := by
  intro w
  refine quiet Try.func102 (by kernel_rfl) (by kernel_rfl) s102_ok (by kernel_rfl) ?_
  rcases Int.lt_or_le 127 n with h1 | h1
  · have h2 : ¬ n ≤ 0 := by omega
    repeat' (first
    | (simp only [↓exP, ↓exQ, ↓need_ite, ↓need_ite', ↓exA, exB, exC, reduceIte, Nat.reduceEqDiff, Nat.reduceAdd, Nat.reduceSub, Nat.reduceMul, Nat.reduceLeDiff, Nat.reduceLT, Int.reduceToNat, Int.reduceBEq, Int.reduceBNe, Int.reduceLT, Int.reduceLE, Int.reduceEq, Int.reduceNeg, decide_true, decide_false, rd1_own, rd_own, hset_notIn, need_ite, need_ite', map_ite, s102, resV_cellN ti49, wv_cells, wv_fold, *]; done)
    | simp only [↓exP, ↓exQ, ↓need_ite, ↓need_ite', ↓exA, exB, exC, reduceIte, Nat.reduceEqDiff, Nat.reduceAdd, Nat.reduceSub, Nat.reduceMul, Nat.reduceLeDiff, Nat.reduceLT, Int.reduceToNat, Int.reduceBEq, Int.reduceBNe, Int.reduceLT, Int.reduceLE, Int.reduceEq, Int.reduceNeg, decide_true, decide_false, rd1_own, rd_own, hset_notIn, need_ite, need_ite', map_ite, s102, resV_cellN ti49, wv_cells, wv_fold, *]
    | (intro xb hl hf; try simp only [NotIn] at hf)
    | refine And.intro (fun hc => ?_) (fun hc => ?_)
    | refine ends_q ?_
    | exact wv_fold _
    | (refine And.intro (by first | omega | (simp only [*]; omega)) ?_))
    rw [wv_zero]; congr 1
    unfold downW
    rw [BitVec.ushiftRight_eq_zero (by omega)]; rfl
  rcases Int.lt_or_le n 1 with h2 | h2
  · have h3 : n ≤ 0 := by omega
    repeat' (first
    | (simp only [↓exP, ↓exQ, ↓need_ite, ↓need_ite', ↓exA, exB, exC, reduceIte, Nat.reduceEqDiff, Nat.reduceAdd, Nat.reduceSub, Nat.reduceMul, Nat.reduceLeDiff, Nat.reduceLT, Int.reduceToNat, Int.reduceBEq, Int.reduceBNe, Int.reduceLT, Int.reduceLE, Int.reduceEq, Int.reduceNeg, decide_true, decide_false, rd1_own, rd_own, hset_notIn, need_ite, need_ite', map_ite, s102, resV_cellN ti49, wv_cells, wv_fold, *]; done)
    | simp only [↓exP, ↓exQ, ↓need_ite, ↓need_ite', ↓exA, exB, exC, reduceIte, Nat.reduceEqDiff, Nat.reduceAdd, Nat.reduceSub, Nat.reduceMul, Nat.reduceLeDiff, Nat.reduceLT, Int.reduceToNat, Int.reduceBEq, Int.reduceBNe, Int.reduceLT, Int.reduceLE, Int.reduceEq, Int.reduceNeg, decide_true, decide_false, rd1_own, rd_own, hset_notIn, need_ite, need_ite', map_ite, s102, resV_cellN ti49, wv_cells, wv_fold, *]
    | (intro xb hl hf; try simp only [NotIn] at hf)
    | refine And.intro (fun hc => ?_) (fun hc => ?_)
    | refine ends_q ?_
    | exact wv_fold _
    | (refine And.intro (by first | omega | (simp only [*]; omega)) ?_))
    congr 1
    unfold downW
    rw [show n.toNat = 0 from by omega]; simp
  obtain ⟨m, rfl⟩ := Int.eq_ofNat_of_zero_le (show 0 ≤ n by omega)
  have h3 : ¬ (m : Int) ≤ 0 := by omega
  have h4 : ¬ 127 < (m : Int) := by omega
  rcases Int.lt_or_le (m : Int) 64 with h5 | h5
  · have h6 : ¬ 64 ≤ (m : Int) := by omega
    have e1 : IntKind.u64.wrap (m : Int) = (m : Int) := wrapu _ (by omega)
    have e2 : IntKind.i64.wrap (64 - (m : Int)) = ((64 - m : Nat) : Int) := by rw [wrap64 _ (by omega)]; omega
    have e3 : IntKind.u64.wrap ((64 - m : Nat) : Int) = ((64 - m : Nat) : Int) := wrapu _ (by omega)
    have e4 : ¬ ((64 - m : Nat) : Int) < 0 := by omega
    have e5 : ¬ (m : Int) < 0 := by omega
    clear h1 h2 h5
    repeat' (first
    | (simp only [↓exP, ↓exQ, ↓need_ite, ↓need_ite', ↓exA, exB, exC, reduceIte, Nat.reduceEqDiff, Nat.reduceAdd, Nat.reduceSub, Nat.reduceMul, Nat.reduceLeDiff, Nat.reduceLT, Int.reduceToNat, Int.reduceBEq, Int.reduceBNe, Int.reduceLT, Int.reduceLE, Int.reduceEq, Int.reduceNeg, decide_true, decide_false, rd1_own, rd_own, hset_notIn, need_ite, need_ite', map_ite, s102, resV_cellN ti49, wv_cells, wv_fold, *]; done)
    | simp only [↓exP, ↓exQ, ↓need_ite, ↓need_ite', ↓exA, exB, exC, reduceIte, Nat.reduceEqDiff, Nat.reduceAdd, Nat.reduceSub, Nat.reduceMul, Nat.reduceLeDiff, Nat.reduceLT, Int.reduceToNat, Int.reduceBEq, Int.reduceBNe, Int.reduceLT, Int.reduceLE, Int.reduceEq, Int.reduceNeg, decide_true, decide_false, rd1_own, rd_own, hset_notIn, need_ite, need_ite', map_ite, s102, resV_cellN ti49, wv_cells, wv_fold, *]
    | (intro xb hl hf; try simp only [NotIn] at hf)
    | refine And.intro (fun hc => ?_) (fun hc => ?_)
    | refine ends_q ?_
    | exact wv_fold _
    | (refine And.intro (by first | omega | (simp only [*]; omega)) ?_))
    refine wv_ext ?_ ?_
    · rw [ishr_nat (hi_lt x), ← hi_down x m]
      rfl
    · rw [ishl_nat (hi_lt x), ishr_nat (lo_lt x), ior_nat (Nat.lt_of_le_of_lt (Nat.shiftRight_le _ _) (lo_lt x)) (Nat.mod_lt _ (by omega)), ← lo_down x m (by omega)]
      rfl
  · have e2 : IntKind.i64.wrap ((m : Int) - 64) = ((m - 64 : Nat) : Int) := by rw [wrap64 _ (by omega)]; omega
    have e3 : IntKind.u64.wrap ((m - 64 : Nat) : Int) = ((m - 64 : Nat) : Int) := wrapu _ (by omega)
    have e4 : ¬ ((m - 64 : Nat) : Int) < 0 := by omega
    repeat' (first
    | (simp only [↓exP, ↓exQ, ↓need_ite, ↓need_ite', ↓exA, exB, exC, reduceIte, Nat.reduceEqDiff, Nat.reduceAdd, Nat.reduceSub, Nat.reduceMul, Nat.reduceLeDiff, Nat.reduceLT, Int.reduceToNat, Int.reduceBEq, Int.reduceBNe, Int.reduceLT, Int.reduceLE, Int.reduceEq, Int.reduceNeg, decide_true, decide_false, rd1_own, rd_own, hset_notIn, need_ite, need_ite', map_ite, s102, resV_cellN ti49, wv_cells, wv_fold, *]; done)
    | simp only [↓exP, ↓exQ, ↓need_ite, ↓need_ite', ↓exA, exB, exC, reduceIte, Nat.reduceEqDiff, Nat.reduceAdd, Nat.reduceSub, Nat.reduceMul, Nat.reduceLeDiff, Nat.reduceLT, Int.reduceToNat, Int.reduceBEq, Int.reduceBNe, Int.reduceLT, Int.reduceLE, Int.reduceEq, Int.reduceNeg, decide_true, decide_false, rd1_own, rd_own, hset_notIn, need_ite, need_ite', map_ite, s102, resV_cellN ti49, wv_cells, wv_fold, *]
    | (intro xb hl hf; try simp only [NotIn] at hf)
    | refine And.intro (fun hc => ?_) (fun hc => ?_)
    | refine ends_q ?_
    | exact wv_fold _
    | (refine And.intro (by first | omega | (simp only [*]; omega)) ?_))
    refine wv_ext ?_ ?_
    · exact congrArg Nat.cast (hi_down64 x m (by omega)).symm
    · rw [ishr_nat (hi_lt x), ← lo_down64 x m (by omega)]
      rfl

theorem hi_or_bitZ (x : BitVec 128) (p : Int) : hi (x ||| bitZ p) = hi x ||| hi (bitZ p) := hi_or _ _
def s98 : SFun := ⟨[], 43, [(.cell 2 49)], (.seq (.reg [⟨none, (.alloc 2 [(.int .u64 0), (.int .u64 0)])⟩]) (.seq (.reg [⟨none, (.alloc 3 [(.int .u64 0), (.int .u64 0)])⟩]) (.seq (.seq (.reg [⟨none, (.pure 6 .mv [(.tmp 0)])⟩, ⟨none, (.pure 7 .len [(.tmp 6)])⟩, ⟨none, (.pure 8 .mv [(.const (.int .i64 0))])⟩]) (.block 0 (.loop (.seq (.reg [⟨none, (.pure 9 (.bin .lss) [(.tmp 8), (.tmp 7)])⟩]) (.seq (.cond (.tmp 9) .skip (.exit 0)) (.seq (.block 1 (.seq (.reg [⟨none, (.pure 10 (.iaS 1) [(.tmp 6), (.tmp 8)])⟩, ⟨none, (.load1 11 (.tmp 10))⟩, ⟨none, (.pure 5 .mv [(.tmp 11)])⟩]) (.block 2 (.seq (.reg [⟨none, (.pure 13 .mv [(.tmp 5)])⟩, ⟨none, (.pure 14 (.bin .geq) [(.tmp 13), (.const (.int .i64 0))])⟩, ⟨none, (.pure 15 .mv [(.tmp 14)])⟩, ⟨(some (15, true)), (.pure 16 .mv [(.tmp 5)])⟩, ⟨(some (15, true)), (.pure 17 (.bin .lss) [(.tmp 16), (.const (.int .i64 64))])⟩, ⟨none, (.pure 18 .pick [(.tmp 15), (.tmp 17), (.const (.bool false))])⟩, ⟨none, (.pure 12 .mv [(.tmp 18)])⟩]) (.cond (.tmp 12) (.reg [⟨none, (.pure 19 (.fad 1) [(.tmp 3)])⟩, ⟨none, (.load1 20 (.tmp 19))⟩, ⟨none, (.pure 21 .mv [(.tmp 5)])⟩, ⟨none, (.pure 22 (.conv .u64) [(.tmp 21)])⟩, ⟨none, (.pure 23 (.bin .shl) [(.const (.int .u64 1)), (.tmp 22)])⟩, ⟨none, (.pure 24 (.bin .or) [(.tmp 20), (.tmp 23)])⟩, ⟨none, (.pure 25 (.fad 1) [(.tmp 3)])⟩, ⟨none, (.store1 (.tmp 25) (.tmp 24))⟩]) (.seq (.reg [⟨none, (.pure 27 .mv [(.tmp 5)])⟩, ⟨none, (.pure 28 (.bin .geq) [(.tmp 27), (.const (.int .i64 64))])⟩, ⟨none, (.pure 29 .mv [(.tmp 28)])⟩, ⟨(some (29, true)), (.pure 30 .mv [(.tmp 5)])⟩, ⟨(some (29, true)), (.pure 31 (.bin .lss) [(.tmp 30), (.const (.int .i64 128))])⟩, ⟨none, (.pure 32 .pick [(.tmp 29), (.tmp 31), (.const (.bool false))])⟩, ⟨none, (.pure 26 .mv [(.tmp 32)])⟩]) (.cond (.tmp 26) (.reg [⟨none, (.pure 33 (.fad 0) [(.tmp 3)])⟩, ⟨none, (.load1 34 (.tmp 33))⟩, ⟨none, (.pure 35 .mv [(.tmp 5)])⟩, ⟨none, (.pure 36 (.bin .sub) [(.tmp 35), (.const (.int .i64 64))])⟩, ⟨none, (.pure 37 (.conv .u64) [(.tmp 36)])⟩, ⟨none, (.pure 38 (.bin .shl) [(.const (.int .u64 1)), (.tmp 37)])⟩, ⟨none, (.pure 39 (.bin .or) [(.tmp 34), (.tmp 38)])⟩, ⟨none, (.pure 40 (.fad 0) [(.tmp 3)])⟩, ⟨none, (.store1 (.tmp 40) (.tmp 39))⟩]) .skip))))))) (.reg [⟨none, (.pure 41 (.bin .add) [(.tmp 8), (.const (.int .i64 1))])⟩, ⟨none, (.pure 8 .mv [(.tmp 41)])⟩]))))))) (.seq (.reg [⟨none, (.loadN 42 (.tmp 3) 2)⟩, ⟨none, (.storeN (.tmp 2) (.tmp 42) 2)⟩]) .ret))))⟩
theorem s98_ok : cFun Try.prog [] Try.f98 = some s98 := by kernel_rfl
theorem hb98 : HasBody Try.prog 98 := ⟨_, Try.func98, by kernel_rfl, by kernel_rfl⟩
set_option maxHeartbeats 1000000 in
theorem p_Of (w : World) (v : Value) (xs : List Int) (hv : IntsIn w v xs) : Quiet Try.prog w 98 [v] (wv (ofL xs)) := by
  refine quiet Try.func98 (by kernel_rfl) (by kernel_rfl) s98_ok (by kernel_rfl) ?_
  obtain ⟨a, cap0, hv0⟩ := hv.len
  have hsm := hv.small
  simp only [↓exP, ↓exQ, ↓need_ite, ↓need_ite', ↓exA, exB, exC, reduceIte, Nat.reduceEqDiff, Nat.reduceAdd, Nat.reduceSub, Nat.reduceMul, Nat.reduceLeDiff, Nat.reduceLT, Int.reduceToNat, Int.reduceBEq, Int.reduceBNe, Int.reduceLT, Int.reduceLE, Int.reduceEq, Int.reduceNeg, decide_true, decide_false, rd1_own, rd_own, hset_notIn, need_ite, need_ite', map_ite, s98]
  intro b2 lb2 fb2; try simp only [NotIn] at fb2
  simp only [↓exP, ↓exQ, ↓need_ite, ↓need_ite', ↓exA, exB, exC, reduceIte, Nat.reduceEqDiff, Nat.reduceAdd, Nat.reduceSub, Nat.reduceMul, Nat.reduceLeDiff, Nat.reduceLT, Int.reduceToNat, Int.reduceBEq, Int.reduceBNe, Int.reduceLT, Int.reduceLE, Int.reduceEq, Int.reduceNeg, decide_true, decide_false, rd1_own, rd_own, hset_notIn, need_ite, need_ite', map_ite]
  intro b3 lb3 fb3; try simp only [NotIn] at fb3
  simp only [↓exP, ↓exQ, ↓need_ite, ↓need_ite', ↓exA, exB, exC, reduceIte, Nat.reduceEqDiff, Nat.reduceAdd, Nat.reduceSub, Nat.reduceMul, Nat.reduceLeDiff, Nat.reduceLT, Int.reduceToNat, Int.reduceBEq, Int.reduceBNe, Int.reduceLT, Int.reduceLE, Int.reduceEq, Int.reduceNeg, decide_true, decide_false, rd1_own, rd_own, hset_notIn, need_ite, need_ite', map_ite, hv0]
  refine SWS.loop (σ := Nat) 0 (fun i => i ≤ xs.length) (fun i => [(6, v), (7, .int .i64 xs.length), (8, .int .i64 (i : Nat)), (3, .pointer (some ⟨b3, 0, none⟩)), (2, .pointer (some ⟨b2, 0, none⟩))])
    (fun i => [(b3, .cells (wv (ofL (xs.take i))).cells.toList 2), (b2, .cells [.int .u64 0, .int .u64 0] 2)]) (fun i => xs.length - i) (Nat.zero_le _) ?_ ?_ ?_
  · simp [subR, lk, hv0]
  · have : (wv (ofL (xs.take 0))).cells.toList = [.int .u64 0, .int .u64 0] := by kernel_rfl
    rw [this]; repeat (first | exact sub_refl _ | exact sub_nil _ | (refine sub_cons (by simp only [List.mem_cons, true_or, or_true]) ?_) | refine sub_tail ?_)
  · intro i hi
    simp only [↓exP, ↓exQ, ↓need_ite, ↓need_ite', ↓exA, exB, exC, reduceIte, Nat.reduceEqDiff, Nat.reduceAdd, Nat.reduceSub, Nat.reduceMul, Nat.reduceLeDiff, Nat.reduceLT, Int.reduceToNat, Int.reduceBEq, Int.reduceBNe, Int.reduceLT, Int.reduceLE, Int.reduceEq, Int.reduceNeg, decide_true, decide_false, rd1_own, rd_own, hset_notIn, need_ite, need_ite', map_ite]
    refine ⟨fun g1 => ?_, fun g1 => ?_⟩
    · have hin : i < xs.length := by omega
      obtain ⟨b4, o4, hb4, hpv, hcell⟩ := hv.get i xs[i] (List.getElem?_eq_getElem hin)
      have hstep : ofL (xs.take (i + 1)) = ofL (xs.take i) ||| bitZ xs[i] := by
        rw [List.take_add_one, List.getElem?_eq_getElem hin]
        simp only [ofL, Option.toList_some, List.foldl_append, List.foldl_cons, List.foldl_nil]
      have hw : IntKind.i64.wrap ((i : Int) + 1) = ((i + 1 : Nat) : Int) := by rw [wrap64 _ (by omega)]; omega
      generalize xs[i] = p at hcell hstep
      generalize ofL (xs.take i) = x at hstep
      have fin : ∀ cs r, cs = [.int .u64 (SL.hi (x ||| bitZ p) : Nat), .int .u64 (SL.lo (x ||| bitZ p) : Nat)] → lk 6 r = some v → lk 7 r = some (.int .i64 xs.length) → lk 8 r = some (.int .i64 (IntKind.i64.wrap ((i : Int) + 1))) →
          lk 3 r = some (.pointer (some ⟨b3, 0, none⟩)) → lk 2 r = some (.pointer (some ⟨b2, 0, none⟩)) → ∃ x', (x' ≤ xs.length ∧ xs.length - x' < xs.length - i) ∧
            subR [(6, v), (7, .int .i64 xs.length), (8, .int .i64 (x' : Nat)), (3, .pointer (some ⟨b3, 0, none⟩)), (2, .pointer (some ⟨b2, 0, none⟩))] r ∧
              ∀ q ∈ [(b3, Blk.cells [Value.int .u64 (SL.hi (ofL (xs.take x')) : Nat), .int .u64 (SL.lo (ofL (xs.take x')) : Nat)] 2), (b2, .cells [.int .u64 0, .int .u64 0] 2)],
                q ∈ [(b3, Blk.cells cs 2), (b2, .cells [.int .u64 0, .int .u64 0] 2)] := by
        intro cs r h1 h2 h3 h4 h5 h6
        refine ⟨i + 1, ⟨by omega, by omega⟩, ?_, ?_⟩
        · rw [hw] at h4; exact ⟨h2, h3, h4, h5, h6, trivial⟩
        · rw [h1, hstep]; exact fun q hq => hq
      simp only [↓exP, ↓exQ, ↓need_ite, ↓need_ite', ↓exA, exB, exC, reduceIte, Nat.reduceEqDiff, Nat.reduceAdd, Nat.reduceSub, Nat.reduceMul, Nat.reduceLeDiff, Nat.reduceLT, Int.reduceToNat, Int.reduceBEq, Int.reduceBNe, Int.reduceLT, Int.reduceLE, Int.reduceEq, Int.reduceNeg, decide_true, decide_false, rd1_own, rd_own, hset_notIn, need_ite, need_ite', map_ite, hpv, rd1_old hb4 hcell, wv_cells, lb2, lb3, fb3]
      have hno : (0 ≤ p → p < 64 → False) → (64 ≤ p → p < 128 → False) → bitZ p = 0 := by
        intro h1 h2; unfold bitZ; rw [if_neg]; intro h; rcases Int.lt_or_le p 64 with h3 | h3
        · exact h1 h.1 h3
        · exact h2 h3 h.2
      have hx0 : ∀ y, y = (0 : BitVec 128) → x ||| y = x := by rintro _ rfl; simp
      have hlow : 0 ≤ p → p < 64 → ¬ IntKind.u64.wrap p < 0 ∧ [Value.int .u64 (SL.hi x : Nat), .int .u64 (ior .u64 (SL.lo x : Nat) (ishl .u64 1 (IntKind.u64.wrap p)))] = [.int .u64 (SL.hi (x ||| bitZ p) : Nat), .int .u64 (SL.lo (x ||| bitZ p) : Nat)] := by
        intro h1 h2
        obtain ⟨m, rfl⟩ := Int.eq_ofNat_of_zero_le h1
        have e1 : IntKind.u64.wrap (m : Int) = (m : Int) := wrapu _ (by omega)
        have e2 : bitZ (m : Int) = bit m := by unfold bitZ; rw [if_pos (by omega)]; rfl
        refine ⟨by omega, ?_⟩
        have e3 : ishl .u64 1 (m : Int) = (((1 <<< m) % 2 ^ 64 : Nat) : Int) := ishl_nat (a := 1) (by omega)
        rw [e1, e2, hi_or, hi_bitn m (by omega), lo_or, lo_bitn m (by omega), e3, ior_nat (lo_lt x) (Nat.mod_lt _ (by omega)), Nat.or_zero]
      have hhigh : 64 ≤ p → p < 128 → ¬ IntKind.u64.wrap (IntKind.i64.wrap (p - 64)) < 0 ∧ [Value.int .u64 (ior .u64 (SL.hi x : Nat) (ishl .u64 1 (IntKind.u64.wrap (IntKind.i64.wrap (p - 64))))), .int .u64 (SL.lo x : Nat)] = [.int .u64 (SL.hi (x ||| bitZ p) : Nat), .int .u64 (SL.lo (x ||| bitZ p) : Nat)] := by
        intro h1 h2
        obtain ⟨m, rfl⟩ := Int.eq_ofNat_of_zero_le (show 0 ≤ p by omega)
        have e0 : IntKind.i64.wrap ((m : Int) - 64) = ((m - 64 : Nat) : Int) := by rw [wrap64 _ (by omega)]; omega
        have e1 : IntKind.u64.wrap ((m - 64 : Nat) : Int) = ((m - 64 : Nat) : Int) := wrapu _ (by omega)
        have e2 : bitZ (m : Int) = bit m := by unfold bitZ; rw [if_pos (by omega)]; rfl
        rw [e0, e1]
        refine ⟨by omega, ?_⟩
        have e3 : ishl .u64 1 ((m - 64 : Nat) : Int) = (((1 <<< (m - 64)) % 2 ^ 64 : Nat) : Int) := ishl_nat (a := 1) (by omega)
        rw [e2, hi_or, hi_bitn64 m (by omega), lo_or, lo_bitn64 m (by omega), e3, ior_nat (hi_lt x) (Nat.mod_lt _ (by omega)), Nat.or_zero]
      refine ⟨fun h1 => ⟨fun h2 => ⟨(hlow h1 h2).1, fin _ _ (hlow h1 h2).2 rfl rfl rfl rfl rfl⟩, fun h2 => ⟨fun h3 => ⟨fun h4 => ⟨(hhigh h3 h4).1, fin _ _ (hhigh h3 h4).2 rfl rfl rfl rfl rfl⟩, fun h4 => ?_⟩, fun h3 => ?_⟩⟩, fun h1 => ⟨fun h3 => ⟨fun h4 => ?_, fun h4 => ?_⟩, fun h3 => ?_⟩⟩
      all_goals first
        | (exfalso; omega)
        | (refine fin _ _ ?_ rfl rfl rfl rfl rfl; rw [hx0 _ (hno (by intros; omega) (by intros; omega))])
    · have hi' : i = xs.length := by omega
      subst hi'
      simp only [↓exP, ↓exQ, ↓need_ite, ↓need_ite', ↓exA, exB, exC, reduceIte, Nat.reduceEqDiff, Nat.reduceAdd, Nat.reduceSub, Nat.reduceMul, Nat.reduceLeDiff, Nat.reduceLT, Int.reduceToNat, Int.reduceBEq, Int.reduceBNe, Int.reduceLT, Int.reduceLE, Int.reduceEq, Int.reduceNeg, decide_true, decide_false, rd1_own, rd_own, hset_notIn, need_ite, need_ite', map_ite, wv_cells, lb2, lb3, fb3, resV_cellN ti49]
      refine ends_q ?_
      rw [List.take_length]
      rfl

theorem IntsIn.own {w0 w : World} {H : Heap} (hs : St w0 H w) {b cap size : Nat} {c : List Value} {xs : List Int} (hx : c = xs.map (.int .i64)) (hg : hget H b = some (.cells c size)) (hn : xs.length ≤ 9223372036854775807) :
    IntsIn w (.slice (some ⟨b, 0, none⟩) xs.length cap) xs := by
  refine ⟨⟨_, _, rfl⟩, hn, fun i x hi => ?_⟩
  have hlt := (List.getElem?_eq_some_iff.1 hi).1
  have hmem := hget_mem hg
  have hc : w.cell? ⟨b, i, none⟩ = some (.int .i64 x) := hs.cell ⟨rfl, .inr ⟨c, size, hmem, by rw [hx, List.getElem?_map, hi]; rfl⟩⟩
  refine ⟨b, i, cell_lt hc, ?_, hc⟩
  simp [pv, hlt]
/-- The bit at one place. -/
theorem p_Of1 {w0 w : World} {H : Heap} (hs : St w0 H w) {b cap size : Nat} {p : Int} (hg : hget H b = some (.cells [.int .i64 p] size)) : Quiet Try.prog w 98 [.slice (some ⟨b, 0, none⟩) 1 cap] (wv (bitZ p)) := by
  have := p_Of w _ [p] (IntsIn.own hs (cap := cap) (xs := [p]) rfl hg (by simp))
  have e : ofL [p] = bitZ p := by simp [ofL]
  rwa [e] at this
end Go.SL
