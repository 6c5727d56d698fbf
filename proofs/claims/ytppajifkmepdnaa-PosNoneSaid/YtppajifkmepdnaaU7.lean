/- A position's columns, told one after another; the law PosNone, walked. -/
import Derived.Test.YtppajifkmepdnaaU6
set_option linter.unusedSimpArgs false
set_option linter.unusedVariables false
namespace Go.SL
open Go.Proofs
set_option maxRecDepth 8000
theorem pcZ : ([.int .i64 0, .int .i64 0, .int .u64 0, .int .u64 0, .int .u64 0, .int .u64 0, .int .u64 0, .int .u64 0, .int .u64 0, .int .u64 0, .int .i64 0, .bool false] : List Value) = pc ppZ := by kernel_rfl
theorem isZZ (k : Value → Prop) : need (pv (.eqc false [some .i64, some .i64, some .u64, some .u64, some .u64, some .u64, some .u64, some .u64, some .u64, some .u64, some .i64, none]) [ppv ppZ, ppv ppZ]) k = k (.bool true) := by
  have := isZ_ppZ
  rw [ppZ_v] at this
  rw [this, need_some]
def s34 : SFun := ⟨[], 4, [(.tmp 2)], (.seq (.reg [⟨none, (.box 1 (.tmp 0))⟩, ⟨none, (.pure 2 .mv [(.const .nilFunc)])⟩]) (.seq (.reg [⟨none, (.pure 3 (.mkf 72 0) [(.tmp 1)])⟩, ⟨none, (.pure 2 .mv [(.tmp 3)])⟩]) .ret))⟩
theorem s34_ok : cFun Try.prog [] Try.f34 = some s34 := by kernel_rfl
theorem hb34 : HasBody Try.prog 34 := ⟨_, Try.func34, by kernel_rfl, by kernel_rfl⟩
theorem c_PColumns (w0 : World) (p : PPos) (H : Heap) (K : Value → Heap → Prop)
    (h1 : ∀ b, ¬ b < w0.heap.size → NotIn b H → K (.func (.func 72) #[] #[.pointer (some ⟨b, 0, none⟩)]) ((b, .cells (pc p) 12) :: H)) : ACall Try.prog w0 34 #[ppv p] H K := by
  refine acall (args := [_]) Try.func34 s34_ok (by simp [s34]) ?_
  simp only [↓exP, ↓exQ, ↓need_ite, ↓need_ite', ↓exA, exB, exC, reduceIte, Nat.reduceEqDiff, Nat.reduceAdd, Nat.reduceSub, Nat.reduceMul, Nat.reduceLeDiff, Nat.reduceLT, Int.reduceToNat, Int.reduceBEq, Int.reduceBNe, Int.reduceLT, Int.reduceLE, Int.reduceEq, Int.reduceNeg, decide_true, decide_false, rd1_own, rd_own, hset_notIn, need_ite, need_ite', map_ite, s34, ppv_pc, pc_len, pc_take, pc_drop, pc_all, pc_fold]
  intro b lb fb
  simp only [↓exP, ↓exQ, ↓need_ite, ↓need_ite', ↓exA, exB, exC, reduceIte, Nat.reduceEqDiff, Nat.reduceAdd, Nat.reduceSub, Nat.reduceMul, Nat.reduceLeDiff, Nat.reduceLT, Int.reduceToNat, Int.reduceBEq, Int.reduceBNe, Int.reduceLT, Int.reduceLE, Int.reduceEq, Int.reduceNeg, decide_true, decide_false, rd1_own, rd_own, hset_notIn, need_ite, need_ite', map_ite, lb, ppv_pc, pc_len, pc_take, pc_drop, pc_all, pc_fold]
  exact ends_sub _ (fun p hp => hp) (h1 b lb fb)
def s72 : SFun := ⟨[], 21, [], (.seq (.reg [⟨none, (.pure 4 (.fad 0) [(.tmp 1)])⟩, ⟨none, (.pure 5 (.fad 0) [(.tmp 4)])⟩, ⟨none, (.load1 6 (.tmp 5))⟩, ⟨none, (.pure 7 .mv [(.const (.int .i64 0))])⟩]) (.block 0 (.loop (.seq (.reg [⟨none, (.pure 8 (.bin .lss) [(.tmp 7), (.tmp 6)])⟩]) (.seq (.cond (.tmp 8) .skip (.exit 0)) (.seq (.block 1 (.seq (.reg [⟨none, (.pure 9 .mv [(.tmp 7)])⟩, ⟨none, (.pure 3 .mv [(.tmp 9)])⟩]) (.seq (.reg [⟨none, (.loadN 10 (.tmp 1) 12)⟩, ⟨none, (.pure 11 .mv [(.tmp 3)])⟩, ⟨none, (.call (some 12) (.func 36) [(.tmp 10), (.tmp 11)])⟩, ⟨none, (.pure 13 (.bin .eql) [(.tmp 12), (.const (.int .i64 0))])⟩, ⟨none, (.pure 14 .mv [(.tmp 13)])⟩, ⟨(some (14, true)), (.pure 15 .mv [(.tmp 0)])⟩, ⟨(some (14, true)), (.pure 16 .mv [(.tmp 3)])⟩, ⟨(some (14, true)), (.call (some 17) (.tmp 15) [(.tmp 16)])⟩, ⟨(some (14, true)), (.pure 18 (.un .not) [(.tmp 17)])⟩, ⟨none, (.pure 19 .pick [(.tmp 14), (.tmp 18), (.const (.bool false))])⟩]) (.cond (.tmp 19) .ret .skip)))) (.reg [⟨none, (.pure 20 (.bin .add) [(.tmp 7), (.const (.int .i64 1))])⟩, ⟨none, (.pure 7 .mv [(.tmp 20)])⟩])))))))⟩
theorem s72_ok : cFun Try.prog [] Try.f72 = some s72 := by kernel_rfl
theorem hb72 : HasBody Try.prog 72 := ⟨_, Try.func72, by kernel_rfl, by kernel_rfl⟩
set_option maxHeartbeats 2000000 in
/-- What Columns gives: each column that can be dropped into is told, till one is refused. -/
theorem c_ColsF (w0 : World) (y : Value) (b : Nat) (p : PPos) (hw : 0 ≤ p.b.W ∧ p.b.W ≤ 1000) (I : Nat → Heap → Prop) (J : Heap → Prop) (F0 : Heap) (K : Value → Heap → Prop) (h0 : I 0 F0)
    (hy : ∀ (i : Nat) F, (i : Int) < p.b.W → canP p i = 0 → I i F → VCall Try.prog w0 y [.int .i64 (i : Nat)] ((b, .cells (pc p) 12) :: F)
      fun v H' => ∃ F', (∀ q ∈ (b, .cells (pc p) 12) :: F', q ∈ H') ∧ ((v = .bool true ∧ I (i + 1) F') ∨ (v = .bool false ∧ J F')))
    (hskip : ∀ (i : Nat) F, (i : Int) < p.b.W → canP p i ≠ 0 → I i F → I (i + 1) F)
    (hend : ∀ F, I p.b.W.toNat F → K (.tuple #[]) ((b, .cells (pc p) 12) :: F))
    (hstop : ∀ F, J F → K (.tuple #[]) ((b, .cells (pc p) 12) :: F)) :
    ACall Try.prog w0 72 #[y, .pointer (some ⟨b, 0, none⟩)] ((b, .cells (pc p) 12) :: F0) K := by
  refine ACall.new fun hnew => ?_
  obtain ⟨lb, _⟩ := hnew
  refine acall (args := [_, _]) Try.func72 s72_ok (by simp [s72]) ?_
  have pc0 : (pc p)[0]? = some (.int .i64 p.b.W) := rfl
  simp only [↓exP, ↓exQ, ↓need_ite, ↓need_ite', ↓exA, exB, exC, reduceIte, Nat.reduceEqDiff, Nat.reduceAdd, Nat.reduceSub, Nat.reduceMul, Nat.reduceLeDiff, Nat.reduceLT, Int.reduceToNat, Int.reduceBEq, Int.reduceBNe, Int.reduceLT, Int.reduceLE, Int.reduceEq, Int.reduceNeg, decide_true, decide_false, rd1_own, rd_own, hset_notIn, need_ite, need_ite', map_ite, s72, lb, pc0]
  refine SWS.loop (σ := Nat × Heap) (0, F0) (fun x => (x.1 : Int) ≤ p.b.W ∧ I x.1 x.2) (fun x => [(0, y), (1, .pointer (some ⟨b, 0, none⟩)), (6, .int .i64 p.b.W), (7, .int .i64 (x.1 : Nat))])
    (fun x => (b, .cells (pc p) 12) :: x.2) (fun x => p.b.W.toNat - x.1) ⟨by dsimp only; omega, h0⟩ ?_ ?_ ?_
  · simp [subR, lk]
  · exact fun q hq => hq
  · rintro ⟨i, F⟩ ⟨hi, hI⟩
    simp only at hi hI
    have e6 : IntKind.i64.wrap ((i : Int) + 1) = ((i + 1 : Nat) : Int) := by rw [wrap64 _ (by omega)]; omega
    rcases Int.lt_or_le (i : Int) p.b.W with hlt | hge
    · simp only [↓exP, ↓exQ, ↓need_ite, ↓need_ite', ↓exA, exB, exC, reduceIte, Nat.reduceEqDiff, Nat.reduceAdd, Nat.reduceSub, Nat.reduceMul, Nat.reduceLeDiff, Nat.reduceLT, Int.reduceToNat, Int.reduceBEq, Int.reduceBNe, Int.reduceLT, Int.reduceLE, Int.reduceEq, Int.reduceNeg, decide_true, decide_false, rd1_own, rd_own, hset_notIn, need_ite, need_ite', map_ite, hlt, lb, ppv_pc, pc_len, pc_take, pc_drop, pc_all, pc_fold]
      refine vcall_q (fun w hs => p_PCan p i w) ?_
      rcases Decidable.em (canP p i = 0) with hc | hc
      · simp only [↓exP, ↓exQ, ↓need_ite, ↓need_ite', ↓exA, exB, exC, reduceIte, Nat.reduceEqDiff, Nat.reduceAdd, Nat.reduceSub, Nat.reduceMul, Nat.reduceLeDiff, Nat.reduceLT, Int.reduceToNat, Int.reduceBEq, Int.reduceBNe, Int.reduceLT, Int.reduceLE, Int.reduceEq, Int.reduceNeg, decide_true, decide_false, rd1_own, rd_own, hset_notIn, need_ite, need_ite', map_ite, hc, lb, ppv_pc, pc_len, pc_take, pc_drop, pc_all, pc_fold]
        refine VCall.mono (hy i F hlt hc hI) ?_
        rintro v H' ⟨F', hF', ⟨rfl, hI'⟩ | ⟨rfl, hJ⟩⟩
        · simp only [↓exP, ↓exQ, ↓need_ite, ↓need_ite', ↓exA, exB, exC, reduceIte, Nat.reduceEqDiff, Nat.reduceAdd, Nat.reduceSub, Nat.reduceMul, Nat.reduceLeDiff, Nat.reduceLT, Int.reduceToNat, Int.reduceBEq, Int.reduceBNe, Int.reduceLT, Int.reduceLE, Int.reduceEq, Int.reduceNeg, decide_true, decide_false, rd1_own, rd_own, hset_notIn, need_ite, need_ite', map_ite, e6]
          exact ⟨(i + 1, F'), ⟨⟨by dsimp only; omega, hI'⟩, by dsimp only; omega⟩, by simp [subR, lk], hF'⟩
        · simp only [↓exP, ↓exQ, ↓need_ite, ↓need_ite', ↓exA, exB, exC, reduceIte, Nat.reduceEqDiff, Nat.reduceAdd, Nat.reduceSub, Nat.reduceMul, Nat.reduceLeDiff, Nat.reduceLT, Int.reduceToNat, Int.reduceBEq, Int.reduceBNe, Int.reduceLT, Int.reduceLE, Int.reduceEq, Int.reduceNeg, decide_true, decide_false, rd1_own, rd_own, hset_notIn, need_ite, need_ite', map_ite]
          exact ends_sub _ hF' (hstop F' hJ)
      · simp only [↓exP, ↓exQ, ↓need_ite, ↓need_ite', ↓exA, exB, exC, reduceIte, Nat.reduceEqDiff, Nat.reduceAdd, Nat.reduceSub, Nat.reduceMul, Nat.reduceLeDiff, Nat.reduceLT, Int.reduceToNat, Int.reduceBEq, Int.reduceBNe, Int.reduceLT, Int.reduceLE, Int.reduceEq, Int.reduceNeg, decide_true, decide_false, rd1_own, rd_own, hset_notIn, need_ite, need_ite', map_ite, hc, e6]
        exact ⟨(i + 1, F), ⟨⟨by dsimp only; omega, hskip i F hlt hc hI⟩, by dsimp only; omega⟩, by simp [subR, lk], fun q hq => hq⟩
    · have hn : ¬ (i : Int) < p.b.W := by omega
      simp only [↓exP, ↓exQ, ↓need_ite, ↓need_ite', ↓exA, exB, exC, reduceIte, Nat.reduceEqDiff, Nat.reduceAdd, Nat.reduceSub, Nat.reduceMul, Nat.reduceLeDiff, Nat.reduceLT, Int.reduceToNat, Int.reduceBEq, Int.reduceBNe, Int.reduceLT, Int.reduceLE, Int.reduceEq, Int.reduceNeg, decide_true, decide_false, rd1_own, rd_own, hset_notIn, need_ite, need_ite', map_ite, hn]
      have : i = p.b.W.toNat := by omega
      subst this
      exact ends_sub _ (fun q hq => hq) (hend F hI)
def s9 : SFun := ⟨[], 84, [(.cell 2 4)], (.seq (.reg [⟨none, (.alloc 2 [(.bool false)])⟩]) (.seq (.reg [⟨none, (.alloc 3 [(.int .i64 0), (.int .i64 0), (.int .u64 0), (.int .u64 0), (.int .u64 0), (.int .u64 0), (.int .u64 0), (.int .u64 0), (.int .u64 0), (.int .u64 0), (.int .i64 0), (.bool false)])⟩]) (.seq (.reg [⟨none, (.loadN 8 (.tmp 3) 12)⟩, ⟨none, (.pure 9 .mv [(.tmp 0)])⟩, ⟨none, (.call (some 10) (.func 29) [(.tmp 8), (.tmp 9)])⟩, ⟨none, (.pure 7 .mv [(.tmp 10)])⟩, ⟨none, (.pure 11 (.ext 0) [(.tmp 7)])⟩, ⟨none, (.pure 12 (.ext 1) [(.tmp 7)])⟩, ⟨none, (.alloc 4 [(.int .i64 0), (.int .i64 0), (.int .u64 0), (.int .u64 0), (.int .u64 0), (.int .u64 0), (.int .u64 0), (.int .u64 0), (.int .u64 0), (.int .u64 0), (.int .i64 0), (.bool false)])⟩, ⟨none, (.storeN (.tmp 4) (.tmp 11) 12)⟩, ⟨none, (.pure 5 .mv [(.tmp 12)])⟩]) (.seq (.seq (.reg [⟨none, (.loadN 13 (.tmp 3) 12)⟩, ⟨none, (.call (some 14) (.func 34) [(.tmp 13)])⟩, ⟨none, (.pure 6 .mv [(.tmp 14)])⟩]) (.seq (.reg [⟨none, (.pure 15 .mv [(.tmp 6)])⟩, ⟨none, (.pure 16 (.eqf true) [(.tmp 15), (.const .nilFunc)])⟩]) (.cond (.tmp 16) (.seq (.reg [⟨none, (.pure 17 .mv [(.tmp 6)])⟩]) (.block 0 (.rfun (.tmp 17) [18] .skip (.block 1 (.seq (.reg [⟨none, (.store1 (.tmp 2) (.const (.bool false)))⟩]) .ret))))) .skip))) (.seq (.reg [⟨none, (.call (some 19) (.func 28) [])⟩, ⟨none, (.pure 20 .mv [(.tmp 19)])⟩, ⟨(some (20, true)), (.pure 21 .mv [(.tmp 5)])⟩, ⟨(some (20, true)), (.pure 22 (.bin .eql) [(.tmp 21), (.const (.int .i64 1))])⟩, ⟨none, (.pure 23 .pick [(.tmp 20), (.tmp 22), (.const (.bool false))])⟩, ⟨none, (.pure 24 .mv [(.tmp 23)])⟩, ⟨(some (24, true)), (.loadN 25 (.tmp 4) 12)⟩, ⟨(some (24, true)), (.loadN 26 (.tmp 3) 12)⟩, ⟨(some (24, true)), (.pure 27 (.eqc false [(some .i64), (some .i64), (some .u64), (some .u64), (some .u64), (some .u64), (some .u64), (some .u64), (some .u64), (some .u64), (some .i64), none]) [(.tmp 25), (.tmp 26)])⟩, ⟨none, (.pure 28 .pick [(.tmp 24), (.tmp 27), (.const (.bool false))])⟩, ⟨none, (.pure 29 .mv [(.tmp 28)])⟩, ⟨(some (29, true)), (.loadN 30 (.tmp 3) 12)⟩, ⟨(some (29, true)), (.pure 31 .mv [(.tmp 0)])⟩, ⟨(some (29, true)), (.call (some 32) (.func 36) [(.tmp 30), (.tmp 31)])⟩, ⟨(some (29, true)), (.pure 33 (.bin .eql) [(.tmp 32), (.const (.int .i64 1))])⟩, ⟨none, (.pure 34 .pick [(.tmp 29), (.tmp 33), (.const (.bool false))])⟩, ⟨none, (.pure 35 .mv [(.tmp 34)])⟩, ⟨(some (35, true)), (.loadN 36 (.tmp 3) 12)⟩, ⟨(some (35, true)), (.call (some 37) (.func 37) [(.tmp 36)])⟩, ⟨none, (.pure 38 .pick [(.tmp 35), (.tmp 37), (.const (.bool false))])⟩, ⟨none, (.pure 39 .mv [(.tmp 38)])⟩, ⟨(some (39, true)), (.loadN 40 (.tmp 3) 12)⟩, ⟨(some (39, true)), (.call (some 41) (.func 38) [(.tmp 40)])⟩, ⟨(some (39, true)), (.pure 42 (.bin .eql) [(.tmp 41), (.const (.int .i64 0))])⟩, ⟨none, (.pure 43 .pick [(.tmp 39), (.tmp 42), (.const (.bool false))])⟩, ⟨none, (.pure 44 .mv [(.tmp 43)])⟩, ⟨(some (44, true)), (.loadN 45 (.tmp 3) 12)⟩, ⟨(some (44, true)), (.call (some 46) (.func 39) [(.tmp 45)])⟩, ⟨(some (44, true)), (.pure 47 (.bin .eql) [(.tmp 46), (.const (.int .i64 0))])⟩, ⟨none, (.pure 48 .pick [(.tmp 44), (.tmp 47), (.const (.bool false))])⟩, ⟨none, (.pure 49 .mv [(.tmp 48)])⟩, ⟨(some (49, true)), (.loadN 50 (.tmp 3) 12)⟩, ⟨(some (49, true)), (.call (some 51) (.func 40) [(.tmp 50)])⟩, ⟨(some (49, true)), (.pure 52 (.bin .eql) [(.tmp 51), (.const (.int .i64 0))])⟩, ⟨none, (.pure 53 .pick [(.tmp 49), (.tmp 52), (.const (.bool false))])⟩, ⟨none, (.pure 54 .mv [(.tmp 53)])⟩, ⟨(some (54, true)), (.loadN 55 (.tmp 3) 12)⟩, ⟨(some (54, true)), (.pure 56 .mv [(.tmp 0)])⟩, ⟨(some (54, true)), (.call (some 57) (.func 41) [(.tmp 55), (.tmp 56)])⟩, ⟨(some (54, true)), (.pure 58 (.un .not) [(.tmp 57)])⟩, ⟨none, (.pure 59 .pick [(.tmp 54), (.tmp 58), (.const (.bool false))])⟩, ⟨none, (.pure 60 .mv [(.tmp 59)])⟩, ⟨(some (60, true)), (.loadN 61 (.tmp 3) 12)⟩, ⟨(some (60, true)), (.call (some 62) (.func 42) [(.tmp 61)])⟩, ⟨(some (60, true)), (.pure 63 (.build [(.int .u64 0), (.int .u64 0)] []) [])⟩, ⟨(some (60, true)), (.pure 64 (.eqc false [(some .u64), (some .u64)]) [(.tmp 62), (.tmp 63)])⟩, ⟨none, (.pure 65 .pick [(.tmp 60), (.tmp 64), (.const (.bool false))])⟩, ⟨none, (.pure 66 .mv [(.tmp 65)])⟩, ⟨(some (66, true)), (.loadN 67 (.tmp 3) 12)⟩, ⟨(some (66, true)), (.call (some 68) (.func 43) [(.tmp 67)])⟩, ⟨(some (66, true)), (.pure 69 (.build [(.int .u64 0), (.int .u64 0)] []) [])⟩, ⟨(some (66, true)), (.pure 70 (.eqc false [(some .u64), (some .u64)]) [(.tmp 68), (.tmp 69)])⟩, ⟨none, (.pure 71 .pick [(.tmp 66), (.tmp 70), (.const (.bool false))])⟩, ⟨none, (.pure 72 .mv [(.tmp 71)])⟩, ⟨(some (72, true)), (.loadN 73 (.tmp 3) 12)⟩, ⟨(some (72, true)), (.call (some 74) (.func 44) [(.tmp 73)])⟩, ⟨(some (72, true)), (.pure 75 (.build [(.int .u64 0), (.int .u64 0)] []) [])⟩, ⟨(some (72, true)), (.pure 76 (.eqc false [(some .u64), (some .u64)]) [(.tmp 74), (.tmp 75)])⟩, ⟨none, (.pure 77 .pick [(.tmp 72), (.tmp 76), (.const (.bool false))])⟩, ⟨none, (.pure 78 .mv [(.tmp 77)])⟩, ⟨(some (78, true)), (.loadN 79 (.tmp 3) 12)⟩, ⟨(some (78, true)), (.call (some 80) (.func 45) [(.tmp 79)])⟩, ⟨(some (78, true)), (.pure 81 (.build [(.int .i64 0), (.int .i64 0)] []) [])⟩, ⟨(some (78, true)), (.pure 82 (.eqc false [(some .i64), (some .i64)]) [(.tmp 80), (.tmp 81)])⟩, ⟨none, (.pure 83 .pick [(.tmp 78), (.tmp 82), (.const (.bool false))])⟩, ⟨none, (.store1 (.tmp 2) (.tmp 83))⟩]) .ret)))))⟩
theorem s9_ok : cFun Try.prog [] Try.f9 = some s9 := by kernel_rfl
theorem hb9 : HasBody Try.prog 9 := ⟨_, Try.func9, by kernel_rfl, by kernel_rfl⟩
set_option maxHeartbeats 4000000 in
theorem c_PosNone (w0 : World) (x : Int) (H : Heap) (K : Value → Heap → Prop) (h1 : K (.bool true) H) : ACall Try.prog w0 9 #[.int .i64 x] H K := by
  refine acall (args := [_]) Try.func9 s9_ok (by simp [s9]) ?_
  have z1 : canP ppZ x = 1 := by simp [canP, isZ_zero]
  have z2 : dropP ppZ x = ppZ := by simp [dropP, z1]
  have z3 : overP ppZ = true := by kernel_rfl
  have z4 : wonP ppZ = 0 := rfl
  have z5 : turnP ppZ = 0 := by kernel_rfl
  have z6 : winsP ppZ x = false := by simp [winsP, z1]
  have z7 : theirsP ppZ = 0 := by kernel_rfl
  have z8 : ppZ.n = 0 := rfl
  have z9 : ppZ.mine = 0 := rfl
  have z10 : ppZ.stones = 0 := rfl
  have z11 : ppZ.b = ⟨0, 0⟩ := rfl
  simp only [↓exP, ↓exQ, ↓need_ite, ↓need_ite', ↓exA, exB, exC, reduceIte, Nat.reduceEqDiff, Nat.reduceAdd, Nat.reduceSub, Nat.reduceMul, Nat.reduceLeDiff, Nat.reduceLT, Int.reduceToNat, Int.reduceBEq, Int.reduceBNe, Int.reduceLT, Int.reduceLE, Int.reduceEq, Int.reduceNeg, decide_true, decide_false, rd1_own, rd_own, hset_notIn, need_ite, need_ite', map_ite, s9]
  intro b2 lb2 fb2; try simp only [NotIn] at fb2
  simp only [↓exP, ↓exQ, ↓need_ite, ↓need_ite', ↓exA, exB, exC, reduceIte, Nat.reduceEqDiff, Nat.reduceAdd, Nat.reduceSub, Nat.reduceMul, Nat.reduceLeDiff, Nat.reduceLT, Int.reduceToNat, Int.reduceBEq, Int.reduceBNe, Int.reduceLT, Int.reduceLE, Int.reduceEq, Int.reduceNeg, decide_true, decide_false, rd1_own, rd_own, hset_notIn, need_ite, need_ite', map_ite]
  intro b3 lb3 fb3; try simp only [NotIn] at fb3
  simp only [↓exP, ↓exQ, ↓need_ite, ↓need_ite', ↓exA, exB, exC, reduceIte, Nat.reduceEqDiff, Nat.reduceAdd, Nat.reduceSub, Nat.reduceMul, Nat.reduceLeDiff, Nat.reduceLT, Int.reduceToNat, Int.reduceBEq, Int.reduceBNe, Int.reduceLT, Int.reduceLE, Int.reduceEq, Int.reduceNeg, decide_true, decide_false, rd1_own, rd_own, hset_notIn, need_ite, need_ite', map_ite, lb2, lb3, fb3, pcZ, ppv_pc, pc_len, pc_take, pc_drop, pc_all, pc_fold]
  refine vcall_q (fun w hs => p_PDrop ppZ x (by rw [z8]; omega) w) ?_
  simp only [↓exP, ↓exQ, ↓need_ite, ↓need_ite', ↓exA, exB, exC, reduceIte, Nat.reduceEqDiff, Nat.reduceAdd, Nat.reduceSub, Nat.reduceMul, Nat.reduceLeDiff, Nat.reduceLT, Int.reduceToNat, Int.reduceBEq, Int.reduceBNe, Int.reduceLT, Int.reduceLE, Int.reduceEq, Int.reduceNeg, decide_true, decide_false, rd1_own, rd_own, hset_notIn, need_ite, need_ite', map_ite, dropV, z1, z2, pcZ, ppv_pc, pc_len, pc_take, pc_drop, pc_all, pc_fold]
  intro b4 lb4 fb4; try simp only [NotIn] at fb4
  simp only [↓exP, ↓exQ, ↓need_ite, ↓need_ite', ↓exA, exB, exC, reduceIte, Nat.reduceEqDiff, Nat.reduceAdd, Nat.reduceSub, Nat.reduceMul, Nat.reduceLeDiff, Nat.reduceLT, Int.reduceToNat, Int.reduceBEq, Int.reduceBNe, Int.reduceLT, Int.reduceLE, Int.reduceEq, Int.reduceNeg, decide_true, decide_false, rd1_own, rd_own, hset_notIn, need_ite, need_ite', map_ite, lb2, lb3, lb4, fb3, fb4, pcZ, ppv_pc, pc_len, pc_take, pc_drop, pc_all, pc_fold]
  refine vcall_body hb34 ?_
  refine c_PColumns w0 ppZ _ _ (fun b lb fb => ?_)
  simp only [NotIn] at fb
  simp only [↓exP, ↓exQ, ↓need_ite, ↓need_ite', ↓exA, exB, exC, reduceIte, Nat.reduceEqDiff, Nat.reduceAdd, Nat.reduceSub, Nat.reduceMul, Nat.reduceLeDiff, Nat.reduceLT, Int.reduceToNat, Int.reduceBEq, Int.reduceBNe, Int.reduceLT, Int.reduceLE, Int.reduceEq, Int.reduceNeg, decide_true, decide_false, rd1_own, rd_own, hset_notIn, need_ite, need_ite', map_ite, lb2, lb3, lb4, fb3, fb4, pcZ, ppv_pc, pc_len, pc_take, pc_drop, pc_all, pc_fold]
  refine SWS.rfun (gf := 72) (lb := #[.pointer (some ⟨b, 0, none⟩)]) (by simp [ev, lk]) Try.func72 (by kernel_rfl) (by kernel_rfl) fun R D L hR hRD lD lL fD fL => ?_
  simp only [NotIn] at fD fL
  refine ACall.sub (c_ColsF w0 (.func (.yield L) #[] #[]) b ppZ (by rw [z11]; decide) (fun _ F => F = (L, R.obj .ready none) :: (D, .obj (.deferred (some []))) :: (b4, .cells (pc ppZ) 12) :: (b3, .cells (pc ppZ) 12) :: (b2, .cells [.bool false] 1) :: H) (fun _ => False) ((L, R.obj .ready none) :: (D, .obj (.deferred (some []))) :: (b4, .cells (pc ppZ) 12) :: (b3, .cells (pc ppZ) 12) :: (b2, .cells [.bool false] 1) :: H) _ rfl ?_ ?_ ?_ ?_) ?_
  · intro i F hi; rw [z11] at hi; simp only at hi; omega
  · intro i F hi; rw [z11] at hi; simp only at hi; omega
  · rintro F rfl
    refine .inl ⟨by simp [hget, fL], (D, .obj (.deferred (some []))) :: (b4, .cells (pc ppZ) 12) :: (b3, .cells (pc ppZ) 12) :: (b2, .cells [.bool false] 1) :: H, ?_, ?_⟩
    · intro q hq
      refine ⟨List.mem_cons_of_mem _ (List.mem_cons_of_mem _ hq), fun hL => ?_⟩
      have h9 : NotIn L ((D, Blk.obj (.deferred (some []))) :: (b4, .cells (pc ppZ) 12) :: (b3, .cells (pc ppZ) 12) :: (b2, .cells [.bool false] 1) :: H) := by simp [NotIn, fL]
      exact h9.ne (k := q.1) (x := q.2) hq hL
    · have wB : ∀ k, need (pv (.eqc false [some .i64, some .i64]) [bdv ⟨0, 0⟩, .agg #[.int .i64 0, .int .i64 0]]) k = k (.bool true) := fun k => need_bdv ⟨0, 0⟩ false k
      have wW : ∀ k, need (pv (.eqc false [some .u64, some .u64]) [wv 0, .agg #[.int .u64 0, .int .u64 0]]) k = k (.bool true) := fun k => by rw [eqc_wv0, need_some]; rfl
      simp only [↓exP, ↓exQ, ↓need_ite, ↓need_ite', ↓exA, exB, exC, reduceIte, Nat.reduceEqDiff, Nat.reduceAdd, Nat.reduceSub, Nat.reduceMul, Nat.reduceLeDiff, Nat.reduceLT, Int.reduceToNat, Int.reduceBEq, Int.reduceBNe, Int.reduceLT, Int.reduceLE, Int.reduceEq, Int.reduceNeg, decide_true, decide_false, rd1_own, rd_own, hset_notIn, need_ite, need_ite', map_ite]
      refine vcall_q (fun w hs => p_live11 w) ?_
      simp only [↓exP, ↓exQ, ↓need_ite, ↓need_ite', ↓exA, exB, exC, reduceIte, Nat.reduceEqDiff, Nat.reduceAdd, Nat.reduceSub, Nat.reduceMul, Nat.reduceLeDiff, Nat.reduceLT, Int.reduceToNat, Int.reduceBEq, Int.reduceBNe, Int.reduceLT, Int.reduceLE, Int.reduceEq, Int.reduceNeg, decide_true, decide_false, rd1_own, rd_own, hset_notIn, need_ite, need_ite', map_ite, lb2, lb3, lb4, fb2, fb3, fb4, fD, pcZ, ppv_pc, pc_len, pc_take, pc_drop, pc_all, pc_fold, ↓isZZ]
      refine vcall_q (fun w hs => p_PCan ppZ x w) ?_
      rw [z1]
      simp only [↓exP, ↓exQ, ↓need_ite, ↓need_ite', ↓exA, exB, exC, reduceIte, Nat.reduceEqDiff, Nat.reduceAdd, Nat.reduceSub, Nat.reduceMul, Nat.reduceLeDiff, Nat.reduceLT, Int.reduceToNat, Int.reduceBEq, Int.reduceBNe, Int.reduceLT, Int.reduceLE, Int.reduceEq, Int.reduceNeg, decide_true, decide_false, rd1_own, rd_own, hset_notIn, need_ite, need_ite', map_ite, lb2, lb3, lb4, fb2, fb3, fb4, fD, pcZ, ppv_pc, pc_len, pc_take, pc_drop, pc_all, pc_fold]
      refine vcall_q (fun w hs => p_POver ppZ w) ?_
      rw [z3]
      simp only [↓exP, ↓exQ, ↓need_ite, ↓need_ite', ↓exA, exB, exC, reduceIte, Nat.reduceEqDiff, Nat.reduceAdd, Nat.reduceSub, Nat.reduceMul, Nat.reduceLeDiff, Nat.reduceLT, Int.reduceToNat, Int.reduceBEq, Int.reduceBNe, Int.reduceLT, Int.reduceLE, Int.reduceEq, Int.reduceNeg, decide_true, decide_false, rd1_own, rd_own, hset_notIn, need_ite, need_ite', map_ite, lb2, lb3, lb4, fb2, fb3, fb4, fD, pcZ, ppv_pc, pc_len, pc_take, pc_drop, pc_all, pc_fold]
      refine vcall_q (fun w hs => p_PWon ppZ (by rw [z8]; omega) w) ?_
      rw [z4]
      simp only [↓exP, ↓exQ, ↓need_ite, ↓need_ite', ↓exA, exB, exC, reduceIte, Nat.reduceEqDiff, Nat.reduceAdd, Nat.reduceSub, Nat.reduceMul, Nat.reduceLeDiff, Nat.reduceLT, Int.reduceToNat, Int.reduceBEq, Int.reduceBNe, Int.reduceLT, Int.reduceLE, Int.reduceEq, Int.reduceNeg, decide_true, decide_false, rd1_own, rd_own, hset_notIn, need_ite, need_ite', map_ite, lb2, lb3, lb4, fb2, fb3, fb4, fD, pcZ, ppv_pc, pc_len, pc_take, pc_drop, pc_all, pc_fold]
      refine vcall_q (fun w hs => p_PTurn ppZ w) ?_
      rw [z5]
      simp only [↓exP, ↓exQ, ↓need_ite, ↓need_ite', ↓exA, exB, exC, reduceIte, Nat.reduceEqDiff, Nat.reduceAdd, Nat.reduceSub, Nat.reduceMul, Nat.reduceLeDiff, Nat.reduceLT, Int.reduceToNat, Int.reduceBEq, Int.reduceBNe, Int.reduceLT, Int.reduceLE, Int.reduceEq, Int.reduceNeg, decide_true, decide_false, rd1_own, rd_own, hset_notIn, need_ite, need_ite', map_ite, lb2, lb3, lb4, fb2, fb3, fb4, fD, pcZ, ppv_pc, pc_len, pc_take, pc_drop, pc_all, pc_fold]
      refine vcall_q (fun w hs => p_PStones ppZ w) ?_
      rw [z8]
      simp only [↓exP, ↓exQ, ↓need_ite, ↓need_ite', ↓exA, exB, exC, reduceIte, Nat.reduceEqDiff, Nat.reduceAdd, Nat.reduceSub, Nat.reduceMul, Nat.reduceLeDiff, Nat.reduceLT, Int.reduceToNat, Int.reduceBEq, Int.reduceBNe, Int.reduceLT, Int.reduceLE, Int.reduceEq, Int.reduceNeg, decide_true, decide_false, rd1_own, rd_own, hset_notIn, need_ite, need_ite', map_ite, lb2, lb3, lb4, fb2, fb3, fb4, fD, pcZ, ppv_pc, pc_len, pc_take, pc_drop, pc_all, pc_fold]
      refine vcall_q (fun w hs => p_PWins ppZ x (by rw [z8]; omega) w) ?_
      rw [z6]
      simp only [↓exP, ↓exQ, ↓need_ite, ↓need_ite', ↓exA, exB, exC, reduceIte, Nat.reduceEqDiff, Nat.reduceAdd, Nat.reduceSub, Nat.reduceMul, Nat.reduceLeDiff, Nat.reduceLT, Int.reduceToNat, Int.reduceBEq, Int.reduceBNe, Int.reduceLT, Int.reduceLE, Int.reduceEq, Int.reduceNeg, decide_true, decide_false, rd1_own, rd_own, hset_notIn, need_ite, need_ite', map_ite, lb2, lb3, lb4, fb2, fb3, fb4, fD, pcZ, ppv_pc, pc_len, pc_take, pc_drop, pc_all, pc_fold]
      refine vcall_q (fun w hs => p_PMine ppZ w) ?_
      rw [z9]
      simp only [↓exP, ↓exQ, ↓need_ite, ↓need_ite', ↓exA, exB, exC, reduceIte, Nat.reduceEqDiff, Nat.reduceAdd, Nat.reduceSub, Nat.reduceMul, Nat.reduceLeDiff, Nat.reduceLT, Int.reduceToNat, Int.reduceBEq, Int.reduceBNe, Int.reduceLT, Int.reduceLE, Int.reduceEq, Int.reduceNeg, decide_true, decide_false, rd1_own, rd_own, hset_notIn, need_ite, need_ite', map_ite, lb2, lb3, lb4, fb2, fb3, fb4, fD, pcZ, ppv_pc, pc_len, pc_take, pc_drop, pc_all, pc_fold, ↓wW]
      refine vcall_q (fun w hs => p_PTheirs ppZ w) ?_
      rw [z7]
      simp only [↓exP, ↓exQ, ↓need_ite, ↓need_ite', ↓exA, exB, exC, reduceIte, Nat.reduceEqDiff, Nat.reduceAdd, Nat.reduceSub, Nat.reduceMul, Nat.reduceLeDiff, Nat.reduceLT, Int.reduceToNat, Int.reduceBEq, Int.reduceBNe, Int.reduceLT, Int.reduceLE, Int.reduceEq, Int.reduceNeg, decide_true, decide_false, rd1_own, rd_own, hset_notIn, need_ite, need_ite', map_ite, lb2, lb3, lb4, fb2, fb3, fb4, fD, pcZ, ppv_pc, pc_len, pc_take, pc_drop, pc_all, pc_fold, ↓wW]
      refine vcall_q (fun w hs => p_PAll ppZ w) ?_
      rw [z10]
      simp only [↓exP, ↓exQ, ↓need_ite, ↓need_ite', ↓exA, exB, exC, reduceIte, Nat.reduceEqDiff, Nat.reduceAdd, Nat.reduceSub, Nat.reduceMul, Nat.reduceLeDiff, Nat.reduceLT, Int.reduceToNat, Int.reduceBEq, Int.reduceBNe, Int.reduceLT, Int.reduceLE, Int.reduceEq, Int.reduceNeg, decide_true, decide_false, rd1_own, rd_own, hset_notIn, need_ite, need_ite', map_ite, lb2, lb3, lb4, fb2, fb3, fb4, fD, pcZ, ppv_pc, pc_len, pc_take, pc_drop, pc_all, pc_fold, ↓wW]
      refine vcall_q (fun w hs => p_PBoard ppZ w) ?_
      rw [z11]
      simp only [↓exP, ↓exQ, ↓need_ite, ↓need_ite', ↓exA, exB, exC, reduceIte, Nat.reduceEqDiff, Nat.reduceAdd, Nat.reduceSub, Nat.reduceMul, Nat.reduceLeDiff, Nat.reduceLT, Int.reduceToNat, Int.reduceBEq, Int.reduceBNe, Int.reduceLT, Int.reduceLE, Int.reduceEq, Int.reduceNeg, decide_true, decide_false, rd1_own, rd_own, hset_notIn, need_ite, need_ite', map_ite, lb2, lb3, lb4, fb2, fb3, fb4, fD, pcZ, ppv_pc, pc_len, pc_take, pc_drop, pc_all, pc_fold, ↓wB, resV_cell1 ti4]
      exact ends_mark H (by simp only [List.mem_cons, true_or]) (by repeat (first | exact sub_refl _ | exact sub_nil _ | (refine sub_cons (by simp only [List.mem_cons, true_or, or_true]) ?_) | refine sub_tail ?_)) fD.2.2.2.2 h1
  · rintro F h; exact h.elim
  · repeat (first | exact sub_refl _ | exact sub_nil _ | (refine sub_cons (by simp only [List.mem_cons, true_or, or_true]) ?_) | refine sub_tail ?_)
end Go.SL
