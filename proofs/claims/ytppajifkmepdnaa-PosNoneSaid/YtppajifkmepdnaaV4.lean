/- The cells of a side: what the functions of plummetref09 and plummetref11 come to. -/
import Derived.Test.YtppajifkmepdnaaV3
set_option linter.unusedSimpArgs false
set_option linter.unusedVariables false
namespace Go.SL
open Go.Proofs
set_option maxRecDepth 8000
def s104 : SFun := ⟨[], 25, [(.cell 4 49)], (.seq (.reg [⟨none, (.box 2 (.tmp 0))⟩, ⟨none, (.alloc 4 [(.int .u64 0), (.int .u64 0)])⟩]) (.seq (.reg [⟨none, (.bslice 7 0 [] [] [])⟩, ⟨none, (.pure 5 .mv [(.tmp 7)])⟩]) (.seq (.seq (.reg [⟨none, (.pure 6 .mv [(.const (.int .i64 0))])⟩]) (.block 0 (.loop (.seq (.seq (.reg [⟨none, (.pure 8 .mv [(.tmp 6)])⟩, ⟨none, (.pure 9 .mv [(.tmp 1)])⟩, ⟨none, (.pure 10 .len [(.tmp 9)])⟩, ⟨none, (.pure 11 (.bin .lss) [(.tmp 8), (.tmp 10)])⟩]) (.cond (.tmp 11) .skip (.exit 0))) (.seq (.block 1 (.draw ⟨[(⟨none, (.pure 14 .mv [(.tmp 5)])⟩, false), (⟨none, (.loadN 15 (.tmp 2) 2)⟩, false), (⟨none, (.pure 16 .mv [(.tmp 1)])⟩, false), (⟨none, (.pure 17 .mv [(.tmp 6)])⟩, false), (⟨none, (.pure 18 (.iaS 2) [(.tmp 16), (.tmp 17)])⟩, false), (⟨none, (.loadN 19 (.tmp 18) 2)⟩, false), (⟨none, (.call (some 20) (.func 106) [(.tmp 15), (.tmp 19)])⟩, false)], [⟨none, (.bslice 21 1 [(.int .i64 0)] [(0, 1)] [(.tmp 20)])⟩], none, [⟨none, (.append 22 [22, 22] 22 (.tmp 14) (.tmp 21))⟩, ⟨none, (.pure 5 .mv [(.tmp 22)])⟩]⟩)) (.reg [⟨none, (.pure 12 .mv [(.tmp 6)])⟩, ⟨none, (.pure 13 (.bin .add) [(.tmp 12), (.const (.int .i64 1))])⟩, ⟨none, (.pure 6 .mv [(.tmp 13)])⟩])))))) (.seq (.reg [⟨none, (.pure 23 .mv [(.tmp 5)])⟩, ⟨none, (.call (some 24) (.func 107) [(.tmp 23)])⟩, ⟨none, (.storeN (.tmp 4) (.tmp 24) 2)⟩]) .ret))))⟩
theorem s104_ok : cFun Try.prog [] Try.f104 = some s104 := by kernel_rfl
theorem hb104 : HasBody Try.prog 104 := ⟨_, Try.func104, by kernel_rfl, by kernel_rfl⟩
set_option maxHeartbeats 2000000 in
theorem p_rSet (w : World) (b : Bd) (v : Value) (l : List (Int × Int)) (hv : SlIn w 2 v (cellsV l)) (hl : l.length ≤ 1000000) (hb : 0 ≤ b.H ∧ b.H ≤ 100) (hm : ∀ c ∈ l, (-1000 ≤ c.1 ∧ c.1 ≤ 1000) ∧ (-1000 ≤ c.2 ∧ c.2 ≤ 1000)) :
    Quiet Try.prog w 104 [bdv b, v] (wv (setW b l)) := by
  refine quiet Try.func104 (by kernel_rfl) (by kernel_rfl) s104_ok (by kernel_rfl) ?_
  obtain ⟨a, cap0, hv0⟩ := hv.len
  rw [cellsV_len] at hv0
  have hlen : pv .len [v] = some (.int .i64 l.length) := by rw [hv0]; rfl
  simp only [↓exP, ↓exQ, ↓need_ite, ↓need_ite', ↓exA, exB, exC, reduceIte, Nat.reduceEqDiff, Nat.reduceAdd, Nat.reduceSub, Nat.reduceMul, Nat.reduceLeDiff, Nat.reduceLT, Int.reduceToNat, Int.reduceBEq, Int.reduceBNe, Int.reduceLT, Int.reduceLE, Int.reduceEq, Int.reduceNeg, decide_true, decide_false, rd1_own, rd_own, hset_notIn, need_ite, need_ite', map_ite, s104, bdv_cells]
  intro b2 lb2 fb2; try simp only [NotIn] at fb2
  simp only [↓exP, ↓exQ, ↓need_ite, ↓need_ite', ↓exA, exB, exC, reduceIte, Nat.reduceEqDiff, Nat.reduceAdd, Nat.reduceSub, Nat.reduceMul, Nat.reduceLeDiff, Nat.reduceLT, Int.reduceToNat, Int.reduceBEq, Int.reduceBNe, Int.reduceLT, Int.reduceLE, Int.reduceEq, Int.reduceNeg, decide_true, decide_false, rd1_own, rd_own, hset_notIn, need_ite, need_ite', map_ite]
  intro b4 lb4 fb4; try simp only [NotIn] at fb4
  simp only [↓exP, ↓exQ, ↓need_ite, ↓need_ite', ↓exA, exB, exC, reduceIte, Nat.reduceEqDiff, Nat.reduceAdd, Nat.reduceSub, Nat.reduceMul, Nat.reduceLeDiff, Nat.reduceLT, Int.reduceToNat, Int.reduceBEq, Int.reduceBNe, Int.reduceLT, Int.reduceLE, Int.reduceEq, Int.reduceNeg, decide_true, decide_false, rd1_own, rd_own, hset_notIn, need_ite, need_ite', map_ite]
  intro b5 lb5 fb5; try simp only [NotIn] at fb5
  simp only [↓exP, ↓exQ, ↓need_ite, ↓need_ite', ↓exA, exB, exC, reduceIte, Nat.reduceEqDiff, Nat.reduceAdd, Nat.reduceSub, Nat.reduceMul, Nat.reduceLeDiff, Nat.reduceLT, Int.reduceToNat, Int.reduceBEq, Int.reduceBNe, Int.reduceLT, Int.reduceLE, Int.reduceEq, Int.reduceNeg, decide_true, decide_false, rd1_own, rd_own, hset_notIn, need_ite, need_ite', map_ite]
  refine SWS.loop (σ := Nat × Nat × Nat × List Value) (0, b5, 0, []) (fun s => s.1 ≤ l.length ∧ ¬ s.2.1 < w.heap.size ∧ ((¬ b2 = s.2.1 ∧ ¬ s.2.1 = b2) ∧ (¬ b4 = s.2.1 ∧ ¬ s.2.1 = b4)) ∧ s.1 ≤ s.2.2.1 ∧ s.1 ≤ s.2.2.2.length ∧ s.2.2.2.take s.1 = ((l.take s.1).map (placeB b)).map (.int .i64))
    (fun s => [(1, v), (2, .pointer (some ⟨b2, 0, none⟩)), (4, .pointer (some ⟨b4, 0, none⟩)), (5, .slice (some ⟨s.2.1, 0, none⟩) s.1 s.2.2.1), (6, .int .i64 (s.1 : Nat))])
    (fun s => [(s.2.1, .cells s.2.2.2 s.2.2.1), (b4, .cells [.int .u64 0, .int .u64 0] 2), (b2, .cells [.int .i64 b.W, .int .i64 b.H] 2)]) (fun s => l.length - s.1) ⟨Nat.zero_le _, lb5, ⟨fb5.2.1, fb5.1⟩, Nat.le_refl _, Nat.le_refl _, rfl⟩ ?_ ?_ ?_
  · simp [subR, lk]
  · repeat (first | exact sub_refl _ | exact sub_nil _ | (refine sub_cons (by simp only [List.mem_cons, true_or, or_true]) ?_) | refine sub_tail ?_)
  · rintro ⟨i, b7, cap, c⟩ ⟨hil, lb7, fb7, hcap, hclen, hct⟩
    simp only at hil lb7 fb7 hcap hclen hct
    have e6 : IntKind.i64.wrap ((i : Int) + 1) = ((i + 1 : Nat) : Int) := by rw [wrap64 _ (by omega)]; omega
    rcases Nat.lt_or_ge i l.length with hlt | hge
    · have a1 : (i : Int) < (l.length : Int) := by omega
      obtain ⟨q, hq⟩ : ∃ q, l[i]? = some q := ⟨_, List.getElem?_eq_getElem hlt⟩
      obtain ⟨_, b8, o8, hpv, hcs⟩ := hv.get i [.int .i64 q.1, .int .i64 q.2] (by simp only [cellsV, List.getElem?_map, hq, Option.map_some])
      have hrd : ∀ H, rd w H b8 o8 2 = some [.int .i64 q.1, .int .i64 q.2] := fun H => hcs.rd rfl
      have hqm := hm q (List.mem_of_getElem? hq)
      simp only [↓exP, ↓exQ, ↓need_ite, ↓need_ite', ↓exA, exB, exC, reduceIte, Nat.reduceEqDiff, Nat.reduceAdd, Nat.reduceSub, Nat.reduceMul, Nat.reduceLeDiff, Nat.reduceLT, Int.reduceToNat, Int.reduceBEq, Int.reduceBNe, Int.reduceLT, Int.reduceLE, Int.reduceEq, Int.reduceNeg, decide_true, decide_false, rd1_own, rd_own, hset_notIn, need_ite, need_ite', map_ite, hlen, a1, hpv, hrd, lb2, lb4, lb7, fb4, fb7, bdv_fold]
      refine qcall_q (fun w hs => p_rPlace b q.1 q.2 (by omega) (by omega) (by omega) w) ?_
      simp only [↓exP, ↓exQ, ↓need_ite, ↓need_ite', ↓exA, exB, exC, reduceIte, Nat.reduceEqDiff, Nat.reduceAdd, Nat.reduceSub, Nat.reduceMul, Nat.reduceLeDiff, Nat.reduceLT, Int.reduceToNat, Int.reduceBEq, Int.reduceBNe, Int.reduceLT, Int.reduceLE, Int.reduceEq, Int.reduceNeg, decide_true, decide_false, rd1_own, rd_own, hset_notIn, need_ite, need_ite', map_ite]
      intro b9 lb9 fb9; try simp only [NotIn] at fb9
      simp only [↓exP, ↓exQ, ↓need_ite, ↓need_ite', ↓exA, exB, exC, reduceIte, Nat.reduceEqDiff, Nat.reduceAdd, Nat.reduceSub, Nat.reduceMul, Nat.reduceLeDiff, Nat.reduceLT, Int.reduceToNat, Int.reduceBEq, Int.reduceBNe, Int.reduceLT, Int.reduceLE, Int.reduceEq, Int.reduceNeg, decide_true, decide_false, rd1_own, rd_own, hset_notIn, need_ite, need_ite', map_ite]
      refine AppE slt22 (n := i) (c := c) (e := [.int .i64 (q.1 * (b.H + 1) + q.2)]) [(b4, .cells [.int .u64 0, .int .u64 0] 2), (b2, .cells [.int .i64 b.W, .int .i64 b.H] 2)] (by repeat (first | exact sub_refl _ | exact sub_nil _ | (refine sub_cons (by simp only [List.mem_cons, true_or, or_true]) ?_) | refine sub_tail ?_)) (by simp [hget, fb7, fb9]) hcap (by omega) (by simp [NotIn, fb7]) (hget_here _ _ _) lb9 rfl rfl (by omega) (by omega) ?_
      intro b' cap' c' lb' fb' hcap' hlen' htake'
      simp only [NotIn] at fb'
      simp only [↓exP, ↓exQ, ↓need_ite, ↓need_ite', ↓exA, exB, exC, reduceIte, Nat.reduceEqDiff, Nat.reduceAdd, Nat.reduceSub, Nat.reduceMul, Nat.reduceLeDiff, Nat.reduceLT, Int.reduceToNat, Int.reduceBEq, Int.reduceBNe, Int.reduceLT, Int.reduceLE, Int.reduceEq, Int.reduceNeg, decide_true, decide_false, rd1_own, rd_own, hset_notIn, need_ite, need_ite', map_ite, e6]
      refine ⟨(i + 1, b', cap', c'), ⟨⟨by dsimp only; omega, lb', ⟨fb'.2.1, fb'.1⟩, by dsimp only; omega, by dsimp only; omega, ?_⟩, by dsimp only; omega⟩, by simp [subR, lk], ?_⟩
      · dsimp only
        simp only [Nat.mul_one] at htake'
        rw [htake', hct, List.take_add_one, hq, Option.toList_some, List.map_append, List.map_append]; rfl
      · repeat (first | exact sub_refl _ | exact sub_nil _ | (refine sub_cons (by simp only [List.mem_cons, true_or, or_true]) ?_) | refine sub_tail ?_)
    · have hi' : i = l.length := by omega
      have a1 : ¬ (l.length : Int) < (l.length : Int) := by omega
      subst hi'
      rw [List.take_length] at hct
      simp only [↓exP, ↓exQ, ↓need_ite, ↓need_ite', ↓exA, exB, exC, reduceIte, Nat.reduceEqDiff, Nat.reduceAdd, Nat.reduceSub, Nat.reduceMul, Nat.reduceLeDiff, Nat.reduceLT, Int.reduceToNat, Int.reduceBEq, Int.reduceBNe, Int.reduceLT, Int.reduceLE, Int.reduceEq, Int.reduceNeg, decide_true, decide_false, rd1_own, rd_own, hset_notIn, need_ite, need_ite', map_ite, hlen, a1]
      refine vcall_q (fun w hs => p_rAt w _ (l.map (placeB b)) (IntsIn.cells hs hct (by simp) (hget_here _ _ _) (by omega))) ?_
      simp only [↓exP, ↓exQ, ↓need_ite, ↓need_ite', ↓exA, exB, exC, reduceIte, Nat.reduceEqDiff, Nat.reduceAdd, Nat.reduceSub, Nat.reduceMul, Nat.reduceLeDiff, Nat.reduceLT, Int.reduceToNat, Int.reduceBEq, Int.reduceBNe, Int.reduceLT, Int.reduceLE, Int.reduceEq, Int.reduceNeg, decide_true, decide_false, rd1_own, rd_own, hset_notIn, need_ite, need_ite', map_ite, lb4, fb4, fb7, wv_cells, resV_cellN ti49]
      exact ends_q rfl
def s92 : SFun := ⟨[], 39, [(.cell 4 49)], (.seq (.reg [⟨none, (.box 2 (.tmp 0))⟩, ⟨none, (.alloc 4 [(.int .u64 0), (.int .u64 0)])⟩]) (.seq (.reg [⟨none, (.bslice 8 0 [] [] [])⟩, ⟨none, (.pure 5 .mv [(.tmp 8)])⟩]) (.seq (.seq (.reg [⟨none, (.pure 6 .mv [(.const (.int .i64 0))])⟩]) (.block 0 (.loop (.seq (.seq (.reg [⟨none, (.pure 9 .mv [(.tmp 6)])⟩, ⟨none, (.pure 10 (.fad 0) [(.tmp 2)])⟩, ⟨none, (.pure 11 (.fad 0) [(.tmp 10)])⟩, ⟨none, (.load1 12 (.tmp 11))⟩, ⟨none, (.pure 13 (.bin .lss) [(.tmp 9), (.tmp 12)])⟩]) (.cond (.tmp 13) .skip (.exit 0))) (.seq (.block 1 (.seq (.reg [⟨none, (.pure 7 .mv [(.const (.int .i64 0))])⟩]) (.block 2 (.loop (.seq (.seq (.reg [⟨none, (.pure 16 .mv [(.tmp 7)])⟩, ⟨none, (.pure 17 (.fad 0) [(.tmp 2)])⟩, ⟨none, (.pure 18 (.fad 1) [(.tmp 17)])⟩, ⟨none, (.load1 19 (.tmp 18))⟩, ⟨none, (.pure 20 (.bin .lss) [(.tmp 16), (.tmp 19)])⟩]) (.cond (.tmp 20) .skip (.exit 2))) (.seq (.block 3 (.seq (.reg [⟨none, (.loadN 23 (.tmp 2) 132)⟩, ⟨none, (.pure 24 .mv [(.tmp 6)])⟩, ⟨none, (.pure 25 .mv [(.tmp 7)])⟩, ⟨none, (.call (some 26) (.func 90) [(.tmp 23), (.tmp 24), (.tmp 25)])⟩, ⟨none, (.pure 27 .mv [(.tmp 1)])⟩, ⟨none, (.pure 28 (.bin .eql) [(.tmp 26), (.tmp 27)])⟩]) (.cond (.tmp 28) (.reg [⟨none, (.pure 29 .mv [(.tmp 5)])⟩, ⟨none, (.pure 30 .mv [(.tmp 6)])⟩, ⟨none, (.pure 31 .mv [(.tmp 7)])⟩, ⟨none, (.pure 32 (.build [(.int .i64 0), (.int .i64 0)] [(0, 1), (1, 1)]) [(.tmp 30), (.tmp 31)])⟩, ⟨none, (.bslice 33 1 [(.int .i64 0), (.int .i64 0)] [(0, 2)] [(.tmp 32)])⟩, ⟨none, (.append 34 [126, 126] 126 (.tmp 29) (.tmp 33))⟩, ⟨none, (.pure 5 .mv [(.tmp 34)])⟩]) .skip))) (.reg [⟨none, (.pure 21 .mv [(.tmp 7)])⟩, ⟨none, (.pure 22 (.bin .add) [(.tmp 21), (.const (.int .i64 1))])⟩, ⟨none, (.pure 7 .mv [(.tmp 22)])⟩]))))))) (.reg [⟨none, (.pure 14 .mv [(.tmp 6)])⟩, ⟨none, (.pure 15 (.bin .add) [(.tmp 14), (.const (.int .i64 1))])⟩, ⟨none, (.pure 6 .mv [(.tmp 15)])⟩])))))) (.seq (.reg [⟨none, (.pure 35 (.fad 0) [(.tmp 2)])⟩, ⟨none, (.loadN 36 (.tmp 35) 2)⟩, ⟨none, (.pure 37 .mv [(.tmp 5)])⟩, ⟨none, (.call (some 38) (.func 104) [(.tmp 36), (.tmp 37)])⟩, ⟨none, (.storeN (.tmp 4) (.tmp 38) 2)⟩]) .ret))))⟩
theorem s92_ok : cFun Try.prog [] Try.f92 = some s92 := by kernel_rfl
theorem hb92 : HasBody Try.prog 92 := ⟨_, Try.func92, by kernel_rfl, by kernel_rfl⟩
set_option maxHeartbeats 4000000 in
theorem p_rOf11 (f : RPos) (who : Int) (hf : RW f) : PF Try.prog 92 [rv f, .int .i64 who] (wv (ofW f who)) := by
  intro w
  refine quiet Try.func92 (by kernel_rfl) (by kernel_rfl) s92_ok (by kernel_rfl) ?_
  have hf' := hf
  obtain ⟨⟨w1, w2⟩, w3, w4⟩ := hf
  simp only [↓exP, ↓exQ, ↓need_ite, ↓need_ite', ↓exA, exB, exC, reduceIte, Nat.reduceEqDiff, Nat.reduceAdd, Nat.reduceSub, Nat.reduceMul, Nat.reduceLeDiff, Nat.reduceLT, Int.reduceToNat, Int.reduceBEq, Int.reduceBNe, Int.reduceLT, Int.reduceLE, Int.reduceEq, Int.reduceNeg, decide_true, decide_false, rd1_own, rd_own, hset_notIn, need_ite, need_ite', map_ite, s92, rv_cells, rc_len]
  intro b2 lb2 fb2; try simp only [NotIn] at fb2
  simp only [↓exP, ↓exQ, ↓need_ite, ↓need_ite', ↓exA, exB, exC, reduceIte, Nat.reduceEqDiff, Nat.reduceAdd, Nat.reduceSub, Nat.reduceMul, Nat.reduceLeDiff, Nat.reduceLT, Int.reduceToNat, Int.reduceBEq, Int.reduceBNe, Int.reduceLT, Int.reduceLE, Int.reduceEq, Int.reduceNeg, decide_true, decide_false, rd1_own, rd_own, hset_notIn, need_ite, need_ite', map_ite]
  intro b4 lb4 fb4; try simp only [NotIn] at fb4
  simp only [↓exP, ↓exQ, ↓need_ite, ↓need_ite', ↓exA, exB, exC, reduceIte, Nat.reduceEqDiff, Nat.reduceAdd, Nat.reduceSub, Nat.reduceMul, Nat.reduceLeDiff, Nat.reduceLT, Int.reduceToNat, Int.reduceBEq, Int.reduceBNe, Int.reduceLT, Int.reduceLE, Int.reduceEq, Int.reduceNeg, decide_true, decide_false, rd1_own, rd_own, hset_notIn, need_ite, need_ite', map_ite]
  intro b5 lb5 fb5; try simp only [NotIn] at fb5
  simp only [↓exP, ↓exQ, ↓need_ite, ↓need_ite', ↓exA, exB, exC, reduceIte, Nat.reduceEqDiff, Nat.reduceAdd, Nat.reduceSub, Nat.reduceMul, Nat.reduceLeDiff, Nat.reduceLT, Int.reduceToNat, Int.reduceBEq, Int.reduceBNe, Int.reduceLT, Int.reduceLE, Int.reduceEq, Int.reduceNeg, decide_true, decide_false, rd1_own, rd_own, hset_notIn, need_ite, need_ite', map_ite]
  refine SWS.loop (σ := Nat × Nat × Nat × List Value) (0, b5, 0, []) (fun s => (s.1 : Int) ≤ f 0 ∧ ¬ s.2.1 < w.heap.size ∧ ((¬ b2 = s.2.1 ∧ ¬ s.2.1 = b2) ∧ (¬ b4 = s.2.1 ∧ ¬ s.2.1 = b4)) ∧ (colCells f who s.1).length ≤ s.2.2.1 ∧ (colCells f who s.1).length * 2 ≤ s.2.2.2.length ∧ s.2.2.2.take ((colCells f who s.1).length * 2) = (cellsV (colCells f who s.1)).flatten)
    (fun s => [(1, .int .i64 who), (2, .pointer (some ⟨b2, 0, none⟩)), (4, .pointer (some ⟨b4, 0, none⟩)), (5, .slice (some ⟨s.2.1, 0, none⟩) (colCells f who s.1).length s.2.2.1), (6, .int .i64 (s.1 : Nat))])
    (fun s => [(s.2.1, .cells s.2.2.2 (s.2.2.1 * 2)), (b4, .cells [.int .u64 0, .int .u64 0] 2), (b2, .cells (rc f) 132)]) (fun s => (f 0).toNat - s.1) ⟨by dsimp only; omega, lb5, ⟨fb5.2.1, fb5.1⟩, Nat.le_refl _, Nat.le_refl _, rfl⟩ ?_ ?_ ?_
  · simp [subR, lk, colCells]
  · repeat (first | exact sub_refl _ | exact sub_nil _ | (refine sub_cons (by simp only [List.mem_cons, true_or, or_true]) ?_) | refine sub_tail ?_)
  · rintro ⟨x, b7, cap, c⟩ ⟨hil, lb7, fb7, hcap, hclen, hct⟩
    simp only at hil lb7 fb7 hcap hclen hct
    have e6 : IntKind.i64.wrap ((x : Int) + 1) = ((x + 1 : Nat) : Int) := by rw [wrap64 _ (by omega)]; omega
    have hcl := colCells_len f who x
    have hcl2 : x * (f 1).toNat ≤ 8 * 8 := Nat.mul_le_mul (by omega) (by omega)
    rcases Int.lt_or_le (x : Int) (f 0) with hlt | hge
    · simp only [↓exP, ↓exQ, ↓need_ite, ↓need_ite', ↓exA, exB, exC, reduceIte, Nat.reduceEqDiff, Nat.reduceAdd, Nat.reduceSub, Nat.reduceMul, Nat.reduceLeDiff, Nat.reduceLT, Int.reduceToNat, Int.reduceBEq, Int.reduceBNe, Int.reduceLT, Int.reduceLE, Int.reduceEq, Int.reduceNeg, decide_true, decide_false, rd1_own, rd_own, hset_notIn, need_ite, need_ite', map_ite, lb2, fb4, fb7, rc_0, rc_len, hlt]
      refine SWS.loop (σ := Nat × Nat × Nat × List Value) (0, b7, cap, c) (fun s => (s.1 : Int) ≤ f 1 ∧ ¬ s.2.1 < w.heap.size ∧ ((¬ b2 = s.2.1 ∧ ¬ s.2.1 = b2) ∧ (¬ b4 = s.2.1 ∧ ¬ s.2.1 = b4)) ∧ (colCells f who x ++ rowCells f who x s.1).length ≤ s.2.2.1 ∧ (colCells f who x ++ rowCells f who x s.1).length * 2 ≤ s.2.2.2.length ∧ s.2.2.2.take ((colCells f who x ++ rowCells f who x s.1).length * 2) = (cellsV (colCells f who x ++ rowCells f who x s.1)).flatten)
        (fun s => [(1, .int .i64 who), (2, .pointer (some ⟨b2, 0, none⟩)), (4, .pointer (some ⟨b4, 0, none⟩)), (5, .slice (some ⟨s.2.1, 0, none⟩) (colCells f who x ++ rowCells f who x s.1).length s.2.2.1), (6, .int .i64 (x : Nat)), (7, .int .i64 (s.1 : Nat))])
        (fun s => [(s.2.1, .cells s.2.2.2 (s.2.2.1 * 2)), (b4, .cells [.int .u64 0, .int .u64 0] 2), (b2, .cells (rc f) 132)]) (fun s => (f 1).toNat - s.1) ⟨by dsimp only; omega, lb7, fb7, by simpa [rowCells] using hcap, by simpa [rowCells] using hclen, by simpa [rowCells] using hct⟩ ?_ ?_ ?_
      · simp [subR, lk, rowCells]
      · exact fun p hp => hp
      · rintro ⟨y, b8, cap8, c8⟩ ⟨hyl, lb8, fb8, hcap8, hclen8, hct8⟩
        simp only at hyl lb8 fb8 hcap8 hclen8 hct8
        have e7 : IntKind.i64.wrap ((y : Int) + 1) = ((y + 1 : Nat) : Int) := by rw [wrap64 _ (by omega)]; omega
        have hrl := rowCells_len f who x y
        have hsum : (colCells f who x ++ rowCells f who x y).length ≤ 1000 := by rw [List.length_append]; omega
        rcases Int.lt_or_le (y : Int) (f 1) with hlt2 | hge2
        · simp only [↓exP, ↓exQ, ↓need_ite, ↓need_ite', ↓exA, exB, exC, reduceIte, Nat.reduceEqDiff, Nat.reduceAdd, Nat.reduceSub, Nat.reduceMul, Nat.reduceLeDiff, Nat.reduceLT, Int.reduceToNat, Int.reduceBEq, Int.reduceBNe, Int.reduceLT, Int.reduceLE, Int.reduceEq, Int.reduceNeg, decide_true, decide_false, rd1_own, rd_own, hset_notIn, need_ite, need_ite', map_ite, lb2, fb4, fb8, rc_1, rc_len, rc_take, rv_fold, hlt2]
          refine vcall_q (fun w hs => p_rAt8 f x y hf' w) ?_
          rcases Decidable.em (rAt f x y = who) with hc | hc
          · have hs1 : colCells f who x ++ rowCells f who x (y + 1) = (colCells f who x ++ rowCells f who x y) ++ [((x : Int), (y : Int))] := by rw [rowCells_succ, if_pos hc, List.append_assoc]
            generalize hL : colCells f who x ++ rowCells f who x y = L at *
            simp only [↓exP, ↓exQ, ↓need_ite, ↓need_ite', ↓exA, exB, exC, reduceIte, Nat.reduceEqDiff, Nat.reduceAdd, Nat.reduceSub, Nat.reduceMul, Nat.reduceLeDiff, Nat.reduceLT, Int.reduceToNat, Int.reduceBEq, Int.reduceBNe, Int.reduceLT, Int.reduceLE, Int.reduceEq, Int.reduceNeg, decide_true, decide_false, rd1_own, rd_own, hset_notIn, need_ite, need_ite', map_ite, hc, e7]
            intro b9 lb9 fb9; try simp only [NotIn] at fb9
            simp only [↓exP, ↓exQ, ↓need_ite, ↓need_ite', ↓exA, exB, exC, reduceIte, Nat.reduceEqDiff, Nat.reduceAdd, Nat.reduceSub, Nat.reduceMul, Nat.reduceLeDiff, Nat.reduceLT, Int.reduceToNat, Int.reduceBEq, Int.reduceBNe, Int.reduceLT, Int.reduceLE, Int.reduceEq, Int.reduceNeg, decide_true, decide_false, rd1_own, rd_own, hset_notIn, need_ite, need_ite', map_ite]
            refine AppE slt126 (n := L.length) (c := c8) (e := [.int .i64 (x : Nat), .int .i64 (y : Nat)]) [(b4, .cells [.int .u64 0, .int .u64 0] 2), (b2, .cells (rc f) 132)] (by repeat (first | exact sub_refl _ | exact sub_nil _ | (refine sub_cons (by simp only [List.mem_cons, true_or, or_true]) ?_) | refine sub_tail ?_)) (by simp [hget, fb8, fb9]) hcap8 hclen8 (by simp [NotIn, fb8]) (hget_here _ _ _) lb9 rfl rfl (by omega) (by omega) ?_
            intro b' cap' c' lb' fb' hcap' hlen' htake'
            simp only [NotIn] at fb'
            simp only [↓exP, ↓exQ, ↓need_ite, ↓need_ite', ↓exA, exB, exC, reduceIte, Nat.reduceEqDiff, Nat.reduceAdd, Nat.reduceSub, Nat.reduceMul, Nat.reduceLeDiff, Nat.reduceLT, Int.reduceToNat, Int.reduceBEq, Int.reduceBNe, Int.reduceLT, Int.reduceLE, Int.reduceEq, Int.reduceNeg, decide_true, decide_false, rd1_own, rd_own, hset_notIn, need_ite, need_ite', map_ite, e7]
            have hln : (colCells f who x ++ rowCells f who x (y + 1)).length = L.length + 1 := by rw [hs1]; simp
            refine ⟨(y + 1, b', cap', c'), ⟨⟨by dsimp only; omega, lb', ⟨fb'.2.1, fb'.1⟩, ?_, ?_, ?_⟩, by dsimp only; omega⟩, ?_, ?_⟩
            · dsimp only; rw [hln]; exact hcap'
            · dsimp only; rw [hln]; exact hlen'
            · dsimp only; rw [hln, htake', hct8, hs1, cellsV_snoc]
            · dsimp only; rw [hln]; simp [subR, lk]
            · repeat (first | exact sub_refl _ | exact sub_nil _ | (refine sub_cons (by simp only [List.mem_cons, true_or, or_true]) ?_) | refine sub_tail ?_)
          · have hs1 : colCells f who x ++ rowCells f who x (y + 1) = colCells f who x ++ rowCells f who x y := by rw [rowCells_succ, if_neg hc, List.append_nil]
            simp only [↓exP, ↓exQ, ↓need_ite, ↓need_ite', ↓exA, exB, exC, reduceIte, Nat.reduceEqDiff, Nat.reduceAdd, Nat.reduceSub, Nat.reduceMul, Nat.reduceLeDiff, Nat.reduceLT, Int.reduceToNat, Int.reduceBEq, Int.reduceBNe, Int.reduceLT, Int.reduceLE, Int.reduceEq, Int.reduceNeg, decide_true, decide_false, rd1_own, rd_own, hset_notIn, need_ite, need_ite', map_ite, hc, e7]
            refine ⟨(y + 1, b8, cap8, c8), ⟨⟨by dsimp only; omega, lb8, fb8, ?_, ?_, ?_⟩, by dsimp only; omega⟩, ?_, ?_⟩
            all_goals (try dsimp only); (try rw [hs1]); first | exact hcap8 | exact hclen8 | exact hct8 | simp [subR, lk] | exact fun p hp => hp
        · have hy' : y = (f 1).toNat := by omega
          have a1 : ¬ (y : Int) < f 1 := by omega
          have hs1 : colCells f who (x + 1) = colCells f who x ++ rowCells f who x y := by rw [colCells_succ, hy']
          simp only [↓exP, ↓exQ, ↓need_ite, ↓need_ite', ↓exA, exB, exC, reduceIte, Nat.reduceEqDiff, Nat.reduceAdd, Nat.reduceSub, Nat.reduceMul, Nat.reduceLeDiff, Nat.reduceLT, Int.reduceToNat, Int.reduceBEq, Int.reduceBNe, Int.reduceLT, Int.reduceLE, Int.reduceEq, Int.reduceNeg, decide_true, decide_false, rd1_own, rd_own, hset_notIn, need_ite, need_ite', map_ite, lb2, fb4, fb8, rc_1, a1, e6]
          refine ⟨(x + 1, b8, cap8, c8), ⟨⟨by dsimp only; omega, lb8, fb8, ?_, ?_, ?_⟩, by dsimp only; omega⟩, ?_, ?_⟩
          all_goals (try dsimp only); (try rw [hs1]); first | exact hcap8 | exact hclen8 | exact hct8 | simp [subR, lk] | exact fun p hp => hp
    · have hx' : x = (f 0).toNat := by omega
      have a1 : ¬ (x : Int) < f 0 := by omega
      have hbf : (⟨f 0, f 1⟩ : Bd) = rB f := rfl
      simp only [↓exP, ↓exQ, ↓need_ite, ↓need_ite', ↓exA, exB, exC, reduceIte, Nat.reduceEqDiff, Nat.reduceAdd, Nat.reduceSub, Nat.reduceMul, Nat.reduceLeDiff, Nat.reduceLT, Int.reduceToNat, Int.reduceBEq, Int.reduceBNe, Int.reduceLT, Int.reduceLE, Int.reduceEq, Int.reduceNeg, decide_true, decide_false, rd1_own, rd_own, hset_notIn, need_ite, need_ite', map_ite, lb2, fb4, fb7, rc_0, rc_1, rc_len, rc_take2, a1]
      refine vcall_q (fun w hs => p_rSet w (rB f) _ (colCells f who x) (SlIn.own hs (hget_here _ _ _) hct (cellsV_el _) (cellsV_len _) (by omega)) (by omega) (by simp only [rB]; omega) (fun q hq => by have := colCells_mem hq; omega)) ?_
      simp only [↓exP, ↓exQ, ↓need_ite, ↓need_ite', ↓exA, exB, exC, reduceIte, Nat.reduceEqDiff, Nat.reduceAdd, Nat.reduceSub, Nat.reduceMul, Nat.reduceLeDiff, Nat.reduceLT, Int.reduceToNat, Int.reduceBEq, Int.reduceBNe, Int.reduceLT, Int.reduceLE, Int.reduceEq, Int.reduceNeg, decide_true, decide_false, rd1_own, rd_own, hset_notIn, need_ite, need_ite', map_ite, lb4, fb4, fb7, wv_cells, resV_cellN ti49]
      refine ends_q ?_
      rw [wv_fold, hx']; rfl
def s67 : SFun := ⟨[], 7, [(.cell 2 49)], (.seq (.reg [⟨none, (.box 1 (.tmp 0))⟩, ⟨none, (.alloc 2 [(.int .u64 0), (.int .u64 0)])⟩]) (.seq (.draw ⟨[(⟨none, (.loadN 3 (.tmp 1) 132)⟩, false), (⟨none, (.loadN 4 (.tmp 1) 132)⟩, false), (⟨none, (.call (some 5) (.func 65) [(.tmp 4)])⟩, false), (⟨none, (.call (some 6) (.func 92) [(.tmp 3), (.tmp 5)])⟩, false)], [], none, [⟨none, (.storeN (.tmp 2) (.tmp 6) 2)⟩]⟩) .ret))⟩
theorem s67_ok : cFun Try.prog [] Try.f67 = some s67 := by kernel_rfl
theorem hb67 : HasBody Try.prog 67 := ⟨_, Try.func67, by kernel_rfl, by kernel_rfl⟩
theorem p_rMine (f : RPos) (hf : RW f) : PF Try.prog 67 [rv f] (wv (rMine f)) := by
  intro w
  refine quiet Try.func67 (by kernel_rfl) (by kernel_rfl) s67_ok (by kernel_rfl) ?_
  repeat' (first
    | (simp only [↓exP, ↓exQ, ↓need_ite, ↓need_ite', ↓exA, exB, exC, reduceIte, Nat.reduceEqDiff, Nat.reduceAdd, Nat.reduceSub, Nat.reduceMul, Nat.reduceLeDiff, Nat.reduceLT, Int.reduceToNat, Int.reduceBEq, Int.reduceBNe, Int.reduceLT, Int.reduceLE, Int.reduceEq, Int.reduceNeg, decide_true, decide_false, rd1_own, rd_own, hset_notIn, need_ite, need_ite', map_ite, s67, resV_cellN ti49, rv_cells, rc_len, rc_take, wv_cells, wv_fold, bdv_fold, rv_fold, *]; done)
    | simp only [↓exP, ↓exQ, ↓need_ite, ↓need_ite', ↓exA, exB, exC, reduceIte, Nat.reduceEqDiff, Nat.reduceAdd, Nat.reduceSub, Nat.reduceMul, Nat.reduceLeDiff, Nat.reduceLT, Int.reduceToNat, Int.reduceBEq, Int.reduceBNe, Int.reduceLT, Int.reduceLE, Int.reduceEq, Int.reduceNeg, decide_true, decide_false, rd1_own, rd_own, hset_notIn, need_ite, need_ite', map_ite, s67, resV_cellN ti49, rv_cells, rc_len, rc_take, wv_cells, wv_fold, bdv_fold, rv_fold, *]
    | refine vcall_q (fun w hs => p_rTurn f w) ?_
    | refine qcall_q (fun w hs => p_rTurn f w) ?_
    | refine vcall_q (fun w hs => p_rOf11 f _ (by assumption) w) ?_
    | refine qcall_q (fun w hs => p_rOf11 f _ (by assumption) w) ?_
    | (intro xb hl hf; try simp only [NotIn] at hf)
    | refine And.intro (fun hc => ?_) (fun hc => ?_)
    | refine ends_q ?_
    | exact wv_fold _
    | (refine And.intro (by first | omega | (simp only [*]; omega)) ?_))
def s68 : SFun := ⟨[], 8, [(.cell 2 49)], (.seq (.reg [⟨none, (.box 1 (.tmp 0))⟩, ⟨none, (.alloc 2 [(.int .u64 0), (.int .u64 0)])⟩]) (.seq (.draw ⟨[(⟨none, (.loadN 3 (.tmp 1) 132)⟩, false), (⟨none, (.loadN 4 (.tmp 1) 132)⟩, false), (⟨none, (.call (some 5) (.func 65) [(.tmp 4)])⟩, false), (⟨none, (.pure 6 (.bin .sub) [(.const (.int .i64 3)), (.tmp 5)])⟩, false), (⟨none, (.call (some 7) (.func 92) [(.tmp 3), (.tmp 6)])⟩, false)], [], none, [⟨none, (.storeN (.tmp 2) (.tmp 7) 2)⟩]⟩) .ret))⟩
theorem s68_ok : cFun Try.prog [] Try.f68 = some s68 := by kernel_rfl
theorem hb68 : HasBody Try.prog 68 := ⟨_, Try.func68, by kernel_rfl, by kernel_rfl⟩
theorem p_rTheirs (f : RPos) (hf : RW f) : PF Try.prog 68 [rv f] (wv (rTheirs f)) := by
  intro w
  refine quiet Try.func68 (by kernel_rfl) (by kernel_rfl) s68_ok (by kernel_rfl) ?_
  have e1 : IntKind.i64.wrap (3 - rTurn f) = 3 - rTurn f := wrap64 _ (by unfold rTurn; split <;> omega)
  repeat' (first
    | (simp only [↓exP, ↓exQ, ↓need_ite, ↓need_ite', ↓exA, exB, exC, reduceIte, Nat.reduceEqDiff, Nat.reduceAdd, Nat.reduceSub, Nat.reduceMul, Nat.reduceLeDiff, Nat.reduceLT, Int.reduceToNat, Int.reduceBEq, Int.reduceBNe, Int.reduceLT, Int.reduceLE, Int.reduceEq, Int.reduceNeg, decide_true, decide_false, rd1_own, rd_own, hset_notIn, need_ite, need_ite', map_ite, s68, resV_cellN ti49, rv_cells, rc_len, rc_take, wv_cells, wv_fold, bdv_fold, rv_fold, *]; done)
    | simp only [↓exP, ↓exQ, ↓need_ite, ↓need_ite', ↓exA, exB, exC, reduceIte, Nat.reduceEqDiff, Nat.reduceAdd, Nat.reduceSub, Nat.reduceMul, Nat.reduceLeDiff, Nat.reduceLT, Int.reduceToNat, Int.reduceBEq, Int.reduceBNe, Int.reduceLT, Int.reduceLE, Int.reduceEq, Int.reduceNeg, decide_true, decide_false, rd1_own, rd_own, hset_notIn, need_ite, need_ite', map_ite, s68, resV_cellN ti49, rv_cells, rc_len, rc_take, wv_cells, wv_fold, bdv_fold, rv_fold, *]
    | refine vcall_q (fun w hs => p_rTurn f w) ?_
    | refine qcall_q (fun w hs => p_rTurn f w) ?_
    | refine vcall_q (fun w hs => p_rOf11 f _ (by assumption) w) ?_
    | refine qcall_q (fun w hs => p_rOf11 f _ (by assumption) w) ?_
    | (intro xb hl hf; try simp only [NotIn] at hf)
    | refine And.intro (fun hc => ?_) (fun hc => ?_)
    | refine ends_q ?_
    | exact wv_fold _
    | (refine And.intro (by first | omega | (simp only [*]; omega)) ?_))
def s71 : SFun := ⟨[], 20, [(.tmp 4)], (.seq (.reg [⟨none, (.box 2 (.tmp 0))⟩, ⟨none, (.pure 4 .mv [(.const (.bool false))])⟩]) (.seq (.reg [⟨none, (.loadN 8 (.tmp 2) 132)⟩, ⟨none, (.pure 9 .mv [(.tmp 1)])⟩, ⟨none, (.call (some 10) (.func 30) [(.tmp 8), (.tmp 9)])⟩, ⟨none, (.pure 7 .mv [(.tmp 10)])⟩, ⟨none, (.pure 11 (.ext 0) [(.tmp 7)])⟩, ⟨none, (.pure 12 (.ext 1) [(.tmp 7)])⟩, ⟨none, (.alloc 5 (rl [(132, (.int .i64 0))]))⟩, ⟨none, (.storeN (.tmp 5) (.tmp 11) 132)⟩, ⟨none, (.pure 6 .mv [(.tmp 12)])⟩]) (.seq (.reg [⟨none, (.pure 13 .mv [(.tmp 6)])⟩, ⟨none, (.pure 14 (.bin .eql) [(.tmp 13), (.const (.int .i64 0))])⟩, ⟨none, (.pure 15 .mv [(.tmp 14)])⟩, ⟨(some (15, true)), (.pure 16 (.fad 131) [(.tmp 5)])⟩, ⟨(some (15, true)), (.load1 17 (.tmp 16))⟩, ⟨(some (15, true)), (.pure 18 (.bin .neq) [(.tmp 17), (.const (.int .i64 0))])⟩, ⟨none, (.pure 19 .pick [(.tmp 15), (.tmp 18), (.const (.bool false))])⟩, ⟨none, (.pure 4 .mv [(.tmp 19)])⟩]) .ret)))⟩
theorem s71_ok : cFun Try.prog [] Try.f71 = some s71 := by kernel_rfl
theorem hb71 : HasBody Try.prog 71 := ⟨_, Try.func71, by kernel_rfl, by kernel_rfl⟩
theorem p_rWins (f : RPos) (x : Int) (hf : RI f) : PF Try.prog 71 [rv f, .int .i64 x] (.bool (rWins f x)) := by
  intro w
  refine quiet Try.func71 (by kernel_rfl) (by kernel_rfl) s71_ok (by kernel_rfl) ?_
  repeat' (first
    | (simp only [↓exP, ↓exQ, ↓need_ite, ↓need_ite', ↓exA, exB, exC, reduceIte, Nat.reduceEqDiff, Nat.reduceAdd, Nat.reduceSub, Nat.reduceMul, Nat.reduceLeDiff, Nat.reduceLT, Int.reduceToNat, Int.reduceBEq, Int.reduceBNe, Int.reduceLT, Int.reduceLE, Int.reduceEq, Int.reduceNeg, decide_true, decide_false, rd1_own, rd_own, hset_notIn, need_ite, need_ite', map_ite, s71, rv_cells, rc_zero, rc_len, rc_take, rc_drop, rc_all, rc_131, wv_fold, bdv_fold, rv_fold, *]; done)
    | simp only [↓exP, ↓exQ, ↓need_ite, ↓need_ite', ↓exA, exB, exC, reduceIte, Nat.reduceEqDiff, Nat.reduceAdd, Nat.reduceSub, Nat.reduceMul, Nat.reduceLeDiff, Nat.reduceLT, Int.reduceToNat, Int.reduceBEq, Int.reduceBNe, Int.reduceLT, Int.reduceLE, Int.reduceEq, Int.reduceNeg, decide_true, decide_false, rd1_own, rd_own, hset_notIn, need_ite, need_ite', map_ite, s71, rv_cells, rc_zero, rc_len, rc_take, rc_drop, rc_all, rc_131, wv_fold, bdv_fold, rv_fold, *]
    | refine vcall_q (fun w hs => p_rDrop f x (by assumption) w) ?_
    | refine qcall_q (fun w hs => p_rDrop f x (by assumption) w) ?_
    | (intro xb hl hf; try simp only [NotIn] at hf)
    | refine And.intro (fun hc => ?_) (fun hc => ?_)
    | refine ends_q ?_
    | exact wv_fold _
    | (refine And.intro (by first | omega | (simp only [*]; omega)) ?_))
  all_goals simp [rWins, hc]
end Go.SL
