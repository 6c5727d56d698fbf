/- Words of a board: what the functions of package bits come to. -/
import Derived.Test.YtppajifkmepdnaaU2
set_option linter.unusedSimpArgs false
set_option linter.unusedVariables false
namespace Go.SL
open Go.Proofs
set_option maxRecDepth 8000
def wvs (ys : List (BitVec 128)) : List (List Value) := ys.map fun y => (wv y).cells.toList
def s89 : SFun := ⟨[], 18, [(.cell 4 49)], (.seq (.reg [⟨none, (.box 2 (.tmp 0))⟩, ⟨none, (.alloc 4 [(.int .u64 0), (.int .u64 0)])⟩]) (.seq (.seq (.reg [⟨none, (.pure 7 .mv [(.tmp 1)])⟩, ⟨none, (.pure 8 .len [(.tmp 7)])⟩, ⟨none, (.pure 9 .mv [(.const (.int .i64 0))])⟩]) (.block 0 (.loop (.seq (.reg [⟨none, (.pure 10 (.bin .lss) [(.tmp 9), (.tmp 8)])⟩]) (.seq (.cond (.tmp 10) .skip (.exit 0)) (.seq (.block 1 (.seq (.reg [⟨none, (.pure 11 (.iaS 2) [(.tmp 7), (.tmp 9)])⟩, ⟨none, (.loadN 12 (.tmp 11) 2)⟩, ⟨none, (.alloc 6 [(.int .u64 0), (.int .u64 0)])⟩, ⟨none, (.storeN (.tmp 6) (.tmp 12) 2)⟩]) (.reg [⟨none, (.loadN 13 (.tmp 2) 2)⟩, ⟨none, (.loadN 14 (.tmp 6) 2)⟩, ⟨none, (.call (some 15) (.func 84) [(.tmp 13), (.tmp 14)])⟩, ⟨none, (.storeN (.tmp 2) (.tmp 15) 2)⟩]))) (.reg [⟨none, (.pure 16 (.bin .add) [(.tmp 9), (.const (.int .i64 1))])⟩, ⟨none, (.pure 9 .mv [(.tmp 16)])⟩]))))))) (.seq (.reg [⟨none, (.loadN 17 (.tmp 2) 2)⟩, ⟨none, (.storeN (.tmp 4) (.tmp 17) 2)⟩]) .ret)))⟩
theorem s89_ok : cFun Try.prog [] Try.f89 = some s89 := by kernel_rfl
theorem hb89 : HasBody Try.prog 89 := ⟨_, Try.func89, by kernel_rfl, by kernel_rfl⟩
theorem p_all (w : World) (x : BitVec 128) (v : Value) (ys : List (BitVec 128)) (hv : SlIn w 2 v (wvs ys)) : Quiet Try.prog w 89 [wv x, v] (wv (andAll x ys)) := by
  refine quiet Try.func89 (by kernel_rfl) (by kernel_rfl) s89_ok (by kernel_rfl) ?_
  obtain ⟨a, cap0, hv0⟩ := hv.len
  have hsm := hv.small
  have hln : (wvs ys).length = ys.length := by simp [wvs]
  rw [hln] at hv0 hsm
  simp only [↓exP, ↓exQ, ↓need_ite, ↓need_ite', ↓exA, exB, exC, reduceIte, Nat.reduceEqDiff, Nat.reduceAdd, Nat.reduceSub, Nat.reduceMul, Nat.reduceLeDiff, Nat.reduceLT, Int.reduceToNat, Int.reduceBEq, Int.reduceBNe, Int.reduceLT, Int.reduceLE, Int.reduceEq, Int.reduceNeg, decide_true, decide_false, rd1_own, rd_own, hset_notIn, need_ite, need_ite', map_ite, s89, wv_cells]
  intro b2 lb2 fb2; try simp only [NotIn] at fb2
  simp only [↓exP, ↓exQ, ↓need_ite, ↓need_ite', ↓exA, exB, exC, reduceIte, Nat.reduceEqDiff, Nat.reduceAdd, Nat.reduceSub, Nat.reduceMul, Nat.reduceLeDiff, Nat.reduceLT, Int.reduceToNat, Int.reduceBEq, Int.reduceBNe, Int.reduceLT, Int.reduceLE, Int.reduceEq, Int.reduceNeg, decide_true, decide_false, rd1_own, rd_own, hset_notIn, need_ite, need_ite', map_ite]
  intro b4 lb4 fb4; try simp only [NotIn] at fb4
  simp only [↓exP, ↓exQ, ↓need_ite, ↓need_ite', ↓exA, exB, exC, reduceIte, Nat.reduceEqDiff, Nat.reduceAdd, Nat.reduceSub, Nat.reduceMul, Nat.reduceLeDiff, Nat.reduceLT, Int.reduceToNat, Int.reduceBEq, Int.reduceBNe, Int.reduceLT, Int.reduceLE, Int.reduceEq, Int.reduceNeg, decide_true, decide_false, rd1_own, rd_own, hset_notIn, need_ite, need_ite', map_ite, hv0]
  refine SWS.loop (σ := Nat) 0 (fun i => i ≤ ys.length) (fun i => [(2, .pointer (some ⟨b2, 0, none⟩)), (4, .pointer (some ⟨b4, 0, none⟩)), (7, v), (8, .int .i64 ys.length), (9, .int .i64 (i : Nat))])
    (fun i => [(b4, .cells [.int .u64 0, .int .u64 0] 2), (b2, .cells (wv (andAll x (ys.take i))).cells.toList 2)]) (fun i => ys.length - i) (Nat.zero_le _) ?_ ?_ ?_
  · simp [subR, lk, hv0]
  · exact fun p hp => hp
  · intro i hil
    simp only [↓exP, ↓exQ, ↓need_ite, ↓need_ite', ↓exA, exB, exC, reduceIte, Nat.reduceEqDiff, Nat.reduceAdd, Nat.reduceSub, Nat.reduceMul, Nat.reduceLeDiff, Nat.reduceLT, Int.reduceToNat, Int.reduceBEq, Int.reduceBNe, Int.reduceLT, Int.reduceLE, Int.reduceEq, Int.reduceNeg, decide_true, decide_false, rd1_own, rd_own, hset_notIn, need_ite, need_ite', map_ite, wv_cells]
    refine ⟨fun g1 => ?_, fun g1 => ?_⟩
    · have e6 : IntKind.i64.wrap ((i : Int) + 1) = ((i + 1 : Nat) : Int) := by rw [wrap64 _ (by omega)]; omega
      have hin : i < ys.length := by omega
      obtain ⟨y, hy⟩ : ∃ y, ys[i]? = some y := ⟨_, List.getElem?_eq_getElem hin⟩
      obtain ⟨_, b5, o5, hpv, hcs⟩ := hv.get i (wv y).cells.toList (by simp only [wvs, List.getElem?_map, hy, Option.map_some])
      have hrd : ∀ H, rd w H b5 o5 2 = some [.int .u64 (hi y : Nat), .int .u64 (lo y : Nat)] := fun H => hcs.rd rfl
      have hstep : andAll x (ys.take (i + 1)) = andAll x (ys.take i) &&& y := by
        rw [List.take_add_one, hy]
        simp only [Option.toList_some, andAll_snoc]
      simp only [↓exP, ↓exQ, ↓need_ite, ↓need_ite', ↓exA, exB, exC, reduceIte, Nat.reduceEqDiff, Nat.reduceAdd, Nat.reduceSub, Nat.reduceMul, Nat.reduceLeDiff, Nat.reduceLT, Int.reduceToNat, Int.reduceBEq, Int.reduceBNe, Int.reduceLT, Int.reduceLE, Int.reduceEq, Int.reduceNeg, decide_true, decide_false, rd1_own, rd_own, hset_notIn, need_ite, need_ite', map_ite, hpv, hrd]
      intro b6 lb6 fb6; try simp only [NotIn] at fb6
      simp only [↓exP, ↓exQ, ↓need_ite, ↓need_ite', ↓exA, exB, exC, reduceIte, Nat.reduceEqDiff, Nat.reduceAdd, Nat.reduceSub, Nat.reduceMul, Nat.reduceLeDiff, Nat.reduceLT, Int.reduceToNat, Int.reduceBEq, Int.reduceBNe, Int.reduceLT, Int.reduceLE, Int.reduceEq, Int.reduceNeg, decide_true, decide_false, rd1_own, rd_own, hset_notIn, need_ite, need_ite', map_ite, wv_cells, lb2, lb4, lb6, fb2, fb4, fb6, e6]
      refine vcall_q (fun w hs => p_And (andAll x (ys.take i)) y w) ?_
      simp only [↓exP, ↓exQ, ↓need_ite, ↓need_ite', ↓exA, exB, exC, reduceIte, Nat.reduceEqDiff, Nat.reduceAdd, Nat.reduceSub, Nat.reduceMul, Nat.reduceLeDiff, Nat.reduceLT, Int.reduceToNat, Int.reduceBEq, Int.reduceBNe, Int.reduceLT, Int.reduceLE, Int.reduceEq, Int.reduceNeg, decide_true, decide_false, rd1_own, rd_own, hset_notIn, need_ite, need_ite', map_ite, wv_cells, lb2, lb4, lb6, fb2, fb4, fb6, e6]
      refine ⟨i + 1, ⟨by omega, by omega⟩, by simp [subR, lk], ?_⟩
      rw [hstep]
      repeat (first | exact sub_refl _ | exact sub_nil _ | (refine sub_cons (by simp only [List.mem_cons, true_or, or_true]) ?_) | refine sub_tail ?_)
    · have hi' : i = ys.length := by omega
      subst hi'
      simp only [↓exP, ↓exQ, ↓need_ite, ↓need_ite', ↓exA, exB, exC, reduceIte, Nat.reduceEqDiff, Nat.reduceAdd, Nat.reduceSub, Nat.reduceMul, Nat.reduceLeDiff, Nat.reduceLT, Int.reduceToNat, Int.reduceBEq, Int.reduceBNe, Int.reduceLT, Int.reduceLE, Int.reduceEq, Int.reduceNeg, decide_true, decide_false, rd1_own, rd_own, hset_notIn, need_ite, need_ite', map_ite, wv_cells, lb2, lb4, fb2, fb4, resV_cellN ti49]
      refine ends_q ?_
      rw [List.take_length]
      rfl
def s101 : SFun := ⟨[], 18, [(.cell 4 49)], (.seq (.reg [⟨none, (.alloc 4 [(.int .u64 0), (.int .u64 0)])⟩]) (.seq (.seq (.reg [⟨none, (.pure 5 .mv [(.tmp 0)])⟩, ⟨none, (.pure 6 (.bin .lss) [(.tmp 5), (.const (.int .i64 0))])⟩]) (.cond (.tmp 6) (.seq (.reg [⟨none, (.loadN 7 (.tmp 1) 2)⟩, ⟨none, (.pure 8 .mv [(.tmp 0)])⟩, ⟨none, (.pure 9 (.un .neg) [(.tmp 8)])⟩, ⟨none, (.load1 10 (.tmp 2))⟩, ⟨none, (.pure 11 (.bin .mul) [(.tmp 9), (.tmp 10)])⟩, ⟨none, (.call (some 12) (.func 102) [(.tmp 7), (.tmp 11)])⟩, ⟨none, (.storeN (.tmp 4) (.tmp 12) 2)⟩]) .ret) .skip)) (.seq (.reg [⟨none, (.loadN 13 (.tmp 1) 2)⟩, ⟨none, (.pure 14 .mv [(.tmp 0)])⟩, ⟨none, (.load1 15 (.tmp 2))⟩, ⟨none, (.pure 16 (.bin .mul) [(.tmp 14), (.tmp 15)])⟩, ⟨none, (.call (some 17) (.func 103) [(.tmp 13), (.tmp 16)])⟩, ⟨none, (.storeN (.tmp 4) (.tmp 17) 2)⟩]) .ret)))⟩
theorem s101_ok : cFun Try.prog [] Try.f101 = some s101 := by kernel_rfl
theorem hb101 : HasBody Try.prog 101 := ⟨_, Try.func101, by kernel_rfl, by kernel_rfl⟩
theorem p_ways1 (w : World) (x : BitVec 128) (d s : Int) (b4 b9 : Nat) (h4 : Cs w b4 0 (wv x).cells.toList) (h9 : Cs w b9 0 [.int .i64 d]) (hd : 0 ≤ d ∧ d ≤ 20) (hs : -10 ≤ s ∧ s ≤ 10) :
    Quiet Try.prog w 101 [.int .i64 s, .pointer (some ⟨b4, 0, none⟩), .pointer (some ⟨b9, 0, none⟩)] (wv (moveW x d s)) := by
  refine quiet Try.func101 (by kernel_rfl) (by kernel_rfl) s101_ok (by kernel_rfl) ?_
  have r4 : ∀ H, rd w H b4 0 2 = some [.int .u64 (hi x : Nat), .int .u64 (lo x : Nat)] := fun H => h4.rd rfl
  have r9 : ∀ H, rd1 w H b9 0 = some (.int .i64 d) := fun H => h9.rd1 0 rfl
  have m1 := mul_bd (x := s) (h := d) (A := 10) (B := 20) (by omega) (by omega)
  have m2 := mul_bd (x := -s) (h := d) (A := 10) (B := 20) (by omega) (by omega)
  have e1 : IntKind.i64.wrap (s * d) = s * d := wrap64 _ (by omega)
  have e2 : IntKind.i64.wrap (-s * d) = -s * d := wrap64 _ (by omega)
  have e3 : IntKind.i64.wrap (0 - s) = -s := by rw [wrap64 _ (by omega)]; omega
  clear h4 h9 m1 m2 hd
  rcases Int.lt_or_le s 0 with hs' | hs'
  · rw [show moveW x d s = downW x (-s * d) from if_pos hs']
    repeat' (first
    | (simp only [↓exP, ↓exQ, ↓need_ite, ↓need_ite', ↓exA, exB, exC, reduceIte, Nat.reduceEqDiff, Nat.reduceAdd, Nat.reduceSub, Nat.reduceMul, Nat.reduceLeDiff, Nat.reduceLT, Int.reduceToNat, Int.reduceBEq, Int.reduceBNe, Int.reduceLT, Int.reduceLE, Int.reduceEq, Int.reduceNeg, decide_true, decide_false, rd1_own, rd_own, hset_notIn, need_ite, need_ite', map_ite, s101, resV_cellN ti49, wv_cells, wv_fold, *]; done)
    | simp only [↓exP, ↓exQ, ↓need_ite, ↓need_ite', ↓exA, exB, exC, reduceIte, Nat.reduceEqDiff, Nat.reduceAdd, Nat.reduceSub, Nat.reduceMul, Nat.reduceLeDiff, Nat.reduceLT, Int.reduceToNat, Int.reduceBEq, Int.reduceBNe, Int.reduceLT, Int.reduceLE, Int.reduceEq, Int.reduceNeg, decide_true, decide_false, rd1_own, rd_own, hset_notIn, need_ite, need_ite', map_ite, s101, resV_cellN ti49, wv_cells, wv_fold, *]
    | refine vcall_q (fun w hs => p_Down x _ w) ?_
    | refine qcall_q (fun w hs => p_Down x _ w) ?_
    | (intro xb hl hf; try simp only [NotIn] at hf)
    | refine And.intro (fun hc => ?_) (fun hc => ?_)
    | refine ends_q ?_
    | exact wv_fold _
    | (refine And.intro (by first | omega | (simp only [*]; omega)) ?_))
  · have hs2 : ¬ s < 0 := by omega
    rw [show moveW x d s = upW x (s * d) from if_neg hs2]
    clear hs'
    repeat' (first
    | (simp only [↓exP, ↓exQ, ↓need_ite, ↓need_ite', ↓exA, exB, exC, reduceIte, Nat.reduceEqDiff, Nat.reduceAdd, Nat.reduceSub, Nat.reduceMul, Nat.reduceLeDiff, Nat.reduceLT, Int.reduceToNat, Int.reduceBEq, Int.reduceBNe, Int.reduceLT, Int.reduceLE, Int.reduceEq, Int.reduceNeg, decide_true, decide_false, rd1_own, rd_own, hset_notIn, need_ite, need_ite', map_ite, s101, resV_cellN ti49, wv_cells, wv_fold, *]; done)
    | simp only [↓exP, ↓exQ, ↓need_ite, ↓need_ite', ↓exA, exB, exC, reduceIte, Nat.reduceEqDiff, Nat.reduceAdd, Nat.reduceSub, Nat.reduceMul, Nat.reduceLeDiff, Nat.reduceLT, Int.reduceToNat, Int.reduceBEq, Int.reduceBNe, Int.reduceLT, Int.reduceLE, Int.reduceEq, Int.reduceNeg, decide_true, decide_false, rd1_own, rd_own, hset_notIn, need_ite, need_ite', map_ite, s101, resV_cellN ti49, wv_cells, wv_fold, *]
    | refine vcall_q (fun w hs => p_Up x _ w) ?_
    | refine qcall_q (fun w hs => p_Up x _ w) ?_
    | (intro xb hl hf; try simp only [NotIn] at hf)
    | refine And.intro (fun hc => ?_) (fun hc => ?_)
    | refine ends_q ?_
    | exact wv_fold _
    | (refine And.intro (by first | omega | (simp only [*]; omega)) ?_))
def clW (b4 b9 : Nat) : Value := .func (.func 101) #[] #[.pointer (some ⟨b4, 0, none⟩), .pointer (some ⟨b9, 0, none⟩)]
def s88 : SFun := ⟨[], 13, [(.cell 2 49)], (.seq (.reg [⟨none, (.alloc 2 [(.int .u64 0), (.int .u64 0)])⟩]) (.seq (.reg [⟨none, (.pure 3 .mv [(.tmp 0)])⟩, ⟨none, (.call (some 4) (.tmp 3) [(.const (.int .i64 0))])⟩, ⟨none, (.pure 5 .mv [(.tmp 0)])⟩, ⟨none, (.call (some 6) (.tmp 5) [(.const (.int .i64 1))])⟩, ⟨none, (.pure 7 .mv [(.tmp 0)])⟩, ⟨none, (.call (some 8) (.tmp 7) [(.const (.int .i64 2))])⟩, ⟨none, (.pure 9 .mv [(.tmp 0)])⟩, ⟨none, (.call (some 10) (.tmp 9) [(.const (.int .i64 3))])⟩, ⟨none, (.bslice 11 3 [(.int .u64 0), (.int .u64 0), (.int .u64 0), (.int .u64 0), (.int .u64 0), (.int .u64 0)] [(0, 2), (2, 2), (4, 2)] [(.tmp 6), (.tmp 8), (.tmp 10)])⟩, ⟨none, (.call (some 12) (.func 89) [(.tmp 4), (.tmp 11)])⟩, ⟨none, (.storeN (.tmp 2) (.tmp 12) 2)⟩]) .ret))⟩
theorem s88_ok : cFun Try.prog [] Try.f88 = some s88 := by kernel_rfl
theorem hb88 : HasBody Try.prog 88 := ⟨_, Try.func88, by kernel_rfl, by kernel_rfl⟩
theorem p_Four1 (w : World) (x : BitVec 128) (d : Int) (b4 b9 : Nat) (h4 : Cs w b4 0 (wv x).cells.toList) (h9 : Cs w b9 0 [.int .i64 d]) (hd : 0 ≤ d ∧ d ≤ 20) :
    Quiet Try.prog w 88 [clW b4 b9] (wv (dirW x d)) := by
  refine quiet Try.func88 (by kernel_rfl) (by kernel_rfl) s88_ok (by kernel_rfl) ?_
  have hmv : ∀ (s : Int) (w2 : World) (H : Heap), -10 ≤ s ∧ s ≤ 10 → St w H w2 → Quiet Try.prog w2 101 ([.int .i64 s] ++ (#[Value.pointer (some ⟨b4, 0, none⟩), .pointer (some ⟨b9, 0, none⟩)]).toList) (wv (moveW x d s)) := fun s w2 H hs h => p_ways1 w2 x d s b4 b9 (h4.old h) (h9.old h) hd hs
  simp only [↓exP, ↓exQ, ↓need_ite, ↓need_ite', ↓exA, exB, exC, reduceIte, Nat.reduceEqDiff, Nat.reduceAdd, Nat.reduceSub, Nat.reduceMul, Nat.reduceLeDiff, Nat.reduceLT, Int.reduceToNat, Int.reduceBEq, Int.reduceBNe, Int.reduceLT, Int.reduceLE, Int.reduceEq, Int.reduceNeg, decide_true, decide_false, rd1_own, rd_own, hset_notIn, need_ite, need_ite', map_ite, s88, clW]
  intro b2 lb2 fb2; try simp only [NotIn] at fb2
  simp only [↓exP, ↓exQ, ↓need_ite, ↓need_ite', ↓exA, exB, exC, reduceIte, Nat.reduceEqDiff, Nat.reduceAdd, Nat.reduceSub, Nat.reduceMul, Nat.reduceLeDiff, Nat.reduceLT, Int.reduceToNat, Int.reduceBEq, Int.reduceBNe, Int.reduceLT, Int.reduceLE, Int.reduceEq, Int.reduceNeg, decide_true, decide_false, rd1_own, rd_own, hset_notIn, need_ite, need_ite', map_ite]
  refine vcall_qc (fun w2 hs => hmv 0 w2 _ (by omega) hs) ?_
  simp only [↓exP, ↓exQ, ↓need_ite, ↓need_ite', ↓exA, exB, exC, reduceIte, Nat.reduceEqDiff, Nat.reduceAdd, Nat.reduceSub, Nat.reduceMul, Nat.reduceLeDiff, Nat.reduceLT, Int.reduceToNat, Int.reduceBEq, Int.reduceBNe, Int.reduceLT, Int.reduceLE, Int.reduceEq, Int.reduceNeg, decide_true, decide_false, rd1_own, rd_own, hset_notIn, need_ite, need_ite', map_ite]
  refine vcall_qc (fun w2 hs => hmv 1 w2 _ (by omega) hs) ?_
  simp only [↓exP, ↓exQ, ↓need_ite, ↓need_ite', ↓exA, exB, exC, reduceIte, Nat.reduceEqDiff, Nat.reduceAdd, Nat.reduceSub, Nat.reduceMul, Nat.reduceLeDiff, Nat.reduceLT, Int.reduceToNat, Int.reduceBEq, Int.reduceBNe, Int.reduceLT, Int.reduceLE, Int.reduceEq, Int.reduceNeg, decide_true, decide_false, rd1_own, rd_own, hset_notIn, need_ite, need_ite', map_ite]
  refine vcall_qc (fun w2 hs => hmv 2 w2 _ (by omega) hs) ?_
  simp only [↓exP, ↓exQ, ↓need_ite, ↓need_ite', ↓exA, exB, exC, reduceIte, Nat.reduceEqDiff, Nat.reduceAdd, Nat.reduceSub, Nat.reduceMul, Nat.reduceLeDiff, Nat.reduceLT, Int.reduceToNat, Int.reduceBEq, Int.reduceBNe, Int.reduceLT, Int.reduceLE, Int.reduceEq, Int.reduceNeg, decide_true, decide_false, rd1_own, rd_own, hset_notIn, need_ite, need_ite', map_ite]
  refine vcall_qc (fun w2 hs => hmv 3 w2 _ (by omega) hs) ?_
  simp only [↓exP, ↓exQ, ↓need_ite, ↓need_ite', ↓exA, exB, exC, reduceIte, Nat.reduceEqDiff, Nat.reduceAdd, Nat.reduceSub, Nat.reduceMul, Nat.reduceLeDiff, Nat.reduceLT, Int.reduceToNat, Int.reduceBEq, Int.reduceBNe, Int.reduceLT, Int.reduceLE, Int.reduceEq, Int.reduceNeg, decide_true, decide_false, rd1_own, rd_own, hset_notIn, need_ite, need_ite', map_ite, wv_cells]
  intro b11 lb11 fb11; try simp only [NotIn] at fb11
  simp only [↓exP, ↓exQ, ↓need_ite, ↓need_ite', ↓exA, exB, exC, reduceIte, Nat.reduceEqDiff, Nat.reduceAdd, Nat.reduceSub, Nat.reduceMul, Nat.reduceLeDiff, Nat.reduceLT, Int.reduceToNat, Int.reduceBEq, Int.reduceBNe, Int.reduceLT, Int.reduceLE, Int.reduceEq, Int.reduceNeg, decide_true, decide_false, rd1_own, rd_own, hset_notIn, need_ite, need_ite', map_ite]
  refine vcall_q (fun w2 hs => p_all w2 (moveW x d 0) _ [moveW x d 1, moveW x d 2, moveW x d 3] (SlIn.own hs (hget_here _ _ _) rfl (by simp [wvs, wv_cells]) rfl (by omega))) ?_
  repeat' (first
    | (simp only [↓exP, ↓exQ, ↓need_ite, ↓need_ite', ↓exA, exB, exC, reduceIte, Nat.reduceEqDiff, Nat.reduceAdd, Nat.reduceSub, Nat.reduceMul, Nat.reduceLeDiff, Nat.reduceLT, Int.reduceToNat, Int.reduceBEq, Int.reduceBNe, Int.reduceLT, Int.reduceLE, Int.reduceEq, Int.reduceNeg, decide_true, decide_false, rd1_own, rd_own, hset_notIn, need_ite, need_ite', map_ite, s88, resV_cellN ti49, wv_cells, wv_fold, *]; done)
    | simp only [↓exP, ↓exQ, ↓need_ite, ↓need_ite', ↓exA, exB, exC, reduceIte, Nat.reduceEqDiff, Nat.reduceAdd, Nat.reduceSub, Nat.reduceMul, Nat.reduceLeDiff, Nat.reduceLT, Int.reduceToNat, Int.reduceBEq, Int.reduceBNe, Int.reduceLT, Int.reduceLE, Int.reduceEq, Int.reduceNeg, decide_true, decide_false, rd1_own, rd_own, hset_notIn, need_ite, need_ite', map_ite, s88, resV_cellN ti49, wv_cells, wv_fold, *]
    | (intro xb hl hf; try simp only [NotIn] at hf)
    | refine And.intro (fun hc => ?_) (fun hc => ?_)
    | refine ends_q ?_
    | exact wv_fold _
    | (refine And.intro (by first | omega | (simp only [*]; omega)) ?_))
theorem dir_get (b : Bd) (i : Nat) (h : i < 4) : ([.int .i64 1, .int .i64 b.H, .int .i64 (b.H + 1), .int .i64 (b.H + 2)] : List Value)[i]? = some (.int .i64 (dirN b i)) := by
  match i, h with
  | 0, _ => rfl
  | 1, _ => rfl
  | 2, _ => rfl
  | 3, _ => rfl
def s87 : SFun := ⟨[], 38, [(.cell 6 49)], (.seq (.reg [⟨none, (.box 3 (.tmp 0))⟩, ⟨none, (.box 4 (.tmp 1))⟩, ⟨none, (.alloc 6 [(.int .u64 0), (.int .u64 0)])⟩]) (.seq (.reg [⟨none, (.pure 10 (.build [(.int .u64 0), (.int .u64 0)] []) [])⟩, ⟨none, (.alloc 7 [(.int .u64 0), (.int .u64 0)])⟩, ⟨none, (.storeN (.tmp 7) (.tmp 10) 2)⟩]) (.seq (.seq (.reg [⟨none, (.loadN 11 (.tmp 3) 2)⟩, ⟨none, (.call (some 12) (.func 56) [(.tmp 11)])⟩, ⟨none, (.pure 13 (.un .not) [(.tmp 12)])⟩]) (.cond (.tmp 13) (.seq (.reg [⟨none, (.loadN 14 (.tmp 7) 2)⟩, ⟨none, (.storeN (.tmp 6) (.tmp 14) 2)⟩]) .ret) .skip)) (.seq (.draw ⟨[(⟨none, (.loadN 15 (.tmp 4) 2)⟩, false), (⟨none, (.loadN 16 (.tmp 3) 2)⟩, false), (⟨none, (.call (some 17) (.func 57) [(.tmp 16)])⟩, false), (⟨none, (.call (some 18) (.func 84) [(.tmp 15), (.tmp 17)])⟩, false)], [], none, [⟨none, (.storeN (.tmp 4) (.tmp 18) 2)⟩]⟩) (.seq (.seq (.reg [⟨none, (.pure 19 (.fad 1) [(.tmp 3)])⟩, ⟨none, (.load1 20 (.tmp 19))⟩, ⟨none, (.pure 21 (.fad 1) [(.tmp 3)])⟩, ⟨none, (.load1 22 (.tmp 21))⟩, ⟨none, (.pure 23 (.bin .add) [(.tmp 22), (.const (.int .i64 1))])⟩, ⟨none, (.pure 24 (.fad 1) [(.tmp 3)])⟩, ⟨none, (.load1 25 (.tmp 24))⟩, ⟨none, (.pure 26 (.bin .add) [(.tmp 25), (.const (.int .i64 2))])⟩, ⟨none, (.pure 27 (.build [(.int .i64 0), (.int .i64 0), (.int .i64 0), (.int .i64 0)] [(0, 1), (1, 1), (2, 1), (3, 1)]) [(.const (.int .i64 1)), (.tmp 20), (.tmp 23), (.tmp 26)])⟩, ⟨none, (.pure 28 .mv [(.const (.int .i64 0))])⟩]) (.block 0 (.loop (.seq (.reg [⟨none, (.pure 29 (.bin .lss) [(.tmp 28), (.const (.int .i64 4))])⟩]) (.seq (.cond (.tmp 29) .skip (.exit 0)) (.seq (.block 1 (.seq (.reg [⟨none, (.pure 30 (.ix 4 false 1) [(.tmp 27), (.tmp 28)])⟩, ⟨none, (.alloc 9 [(.int .i64 0)])⟩, ⟨none, (.store1 (.tmp 9) (.tmp 30))⟩]) (.draw ⟨[(⟨none, (.loadN 31 (.tmp 7) 2)⟩, false), (⟨none, (.pure 32 .mv [(.tmp 2)])⟩, false), (⟨none, (.pure 33 (.mkf 101 0) [(.tmp 4), (.tmp 9)])⟩, false), (⟨none, (.call (some 34) (.tmp 32) [(.tmp 33)])⟩, false), (⟨none, (.call (some 35) (.func 61) [(.tmp 31), (.tmp 34)])⟩, false)], [], none, [⟨none, (.storeN (.tmp 7) (.tmp 35) 2)⟩]⟩))) (.reg [⟨none, (.pure 36 (.bin .add) [(.tmp 28), (.const (.int .i64 1))])⟩, ⟨none, (.pure 28 .mv [(.tmp 36)])⟩]))))))) (.seq (.reg [⟨none, (.loadN 37 (.tmp 7) 2)⟩, ⟨none, (.storeN (.tmp 6) (.tmp 37) 2)⟩]) .ret))))))⟩
theorem s87_ok : cFun Try.prog [] Try.f87 = some s87 := by kernel_rfl
theorem hb87 : HasBody Try.prog 87 := ⟨_, Try.func87, by kernel_rfl, by kernel_rfl⟩
set_option maxHeartbeats 1000000 in
theorem p_ways (w : World) (b : Bd) (x : BitVec 128) (f : FuncId) (g : BitVec 128 → Int → BitVec 128)
    (hf : ∀ w y d b4 b9, Cs w b4 0 (wv y).cells.toList → Cs w b9 0 [.int .i64 d] → 0 ≤ d ∧ d ≤ 20 → Quiet Try.prog w f [clW b4 b9] (wv (g y d))) :
    Quiet Try.prog w 87 [bdv b, wv x, .func (.func f) #[] #[]] (wv (waysW b x g)) := by
  refine quiet Try.func87 (by kernel_rfl) (by kernel_rfl) s87_ok (by kernel_rfl) ?_
  rcases Bool.eq_false_or_eq_true (mayB b) with h1 | h1
  · have hb := mayB_iff.1 h1
    have e1 : IntKind.i64.wrap (b.H + 1) = b.H + 1 := wrap64 _ (by omega)
    have e2 : IntKind.i64.wrap (b.H + 2) = b.H + 2 := wrap64 _ (by omega)
    simp only [↓exP, ↓exQ, ↓need_ite, ↓need_ite', ↓exA, exB, exC, reduceIte, Nat.reduceEqDiff, Nat.reduceAdd, Nat.reduceSub, Nat.reduceMul, Nat.reduceLeDiff, Nat.reduceLT, Int.reduceToNat, Int.reduceBEq, Int.reduceBNe, Int.reduceLT, Int.reduceLE, Int.reduceEq, Int.reduceNeg, decide_true, decide_false, rd1_own, rd_own, hset_notIn, need_ite, need_ite', map_ite, s87, bdv_cells]
    intro b3 lb3 fb3; try simp only [NotIn] at fb3
    simp only [↓exP, ↓exQ, ↓need_ite, ↓need_ite', ↓exA, exB, exC, reduceIte, Nat.reduceEqDiff, Nat.reduceAdd, Nat.reduceSub, Nat.reduceMul, Nat.reduceLeDiff, Nat.reduceLT, Int.reduceToNat, Int.reduceBEq, Int.reduceBNe, Int.reduceLT, Int.reduceLE, Int.reduceEq, Int.reduceNeg, decide_true, decide_false, rd1_own, rd_own, hset_notIn, need_ite, need_ite', map_ite, wv_cells]
    intro b4 lb4 fb4; try simp only [NotIn] at fb4
    simp only [↓exP, ↓exQ, ↓need_ite, ↓need_ite', ↓exA, exB, exC, reduceIte, Nat.reduceEqDiff, Nat.reduceAdd, Nat.reduceSub, Nat.reduceMul, Nat.reduceLeDiff, Nat.reduceLT, Int.reduceToNat, Int.reduceBEq, Int.reduceBNe, Int.reduceLT, Int.reduceLE, Int.reduceEq, Int.reduceNeg, decide_true, decide_false, rd1_own, rd_own, hset_notIn, need_ite, need_ite', map_ite]
    intro b6 lb6 fb6; try simp only [NotIn] at fb6
    simp only [↓exP, ↓exQ, ↓need_ite, ↓need_ite', ↓exA, exB, exC, reduceIte, Nat.reduceEqDiff, Nat.reduceAdd, Nat.reduceSub, Nat.reduceMul, Nat.reduceLeDiff, Nat.reduceLT, Int.reduceToNat, Int.reduceBEq, Int.reduceBNe, Int.reduceLT, Int.reduceLE, Int.reduceEq, Int.reduceNeg, decide_true, decide_false, rd1_own, rd_own, hset_notIn, need_ite, need_ite', map_ite]
    intro b7 lb7 fb7; try simp only [NotIn] at fb7
    simp only [↓exP, ↓exQ, ↓need_ite, ↓need_ite', ↓exA, exB, exC, reduceIte, Nat.reduceEqDiff, Nat.reduceAdd, Nat.reduceSub, Nat.reduceMul, Nat.reduceLeDiff, Nat.reduceLT, Int.reduceToNat, Int.reduceBEq, Int.reduceBNe, Int.reduceLT, Int.reduceLE, Int.reduceEq, Int.reduceNeg, decide_true, decide_false, rd1_own, rd_own, hset_notIn, need_ite, need_ite', map_ite, lb3, lb4, lb6, lb7, fb3, fb4, fb6, fb7]
    refine vcall_q (fun w hs => p_May b w) ?_
    simp only [↓exP, ↓exQ, ↓need_ite, ↓need_ite', ↓exA, exB, exC, reduceIte, Nat.reduceEqDiff, Nat.reduceAdd, Nat.reduceSub, Nat.reduceMul, Nat.reduceLeDiff, Nat.reduceLT, Int.reduceToNat, Int.reduceBEq, Int.reduceBNe, Int.reduceLT, Int.reduceLE, Int.reduceEq, Int.reduceNeg, decide_true, decide_false, rd1_own, rd_own, hset_notIn, need_ite, need_ite', map_ite, h1, lb3, lb4, lb6, lb7, fb3, fb4, fb6, fb7]
    refine qcall_q (fun w hs => p_Full b w) ?_
    simp only [↓exP, ↓exQ, ↓need_ite, ↓need_ite', ↓exA, exB, exC, reduceIte, Nat.reduceEqDiff, Nat.reduceAdd, Nat.reduceSub, Nat.reduceMul, Nat.reduceLeDiff, Nat.reduceLT, Int.reduceToNat, Int.reduceBEq, Int.reduceBNe, Int.reduceLT, Int.reduceLE, Int.reduceEq, Int.reduceNeg, decide_true, decide_false, rd1_own, rd_own, hset_notIn, need_ite, need_ite', map_ite]
    refine qcall_q (fun w hs => p_And x (fullB b) w) ?_
    simp only [↓exP, ↓exQ, ↓need_ite, ↓need_ite', ↓exA, exB, exC, reduceIte, Nat.reduceEqDiff, Nat.reduceAdd, Nat.reduceSub, Nat.reduceMul, Nat.reduceLeDiff, Nat.reduceLT, Int.reduceToNat, Int.reduceBEq, Int.reduceBNe, Int.reduceLT, Int.reduceLE, Int.reduceEq, Int.reduceNeg, decide_true, decide_false, rd1_own, rd_own, hset_notIn, need_ite, need_ite', map_ite, wv_cells, e1, e2, lb3, lb4, lb6, lb7, fb3, fb4, fb6, fb7]
    refine SWS.loop (σ := Nat) 0 (fun i => i ≤ 4) (fun i => [(2, .func (.func f) #[] #[]), (4, .pointer (some ⟨b4, 0, none⟩)), (6, .pointer (some ⟨b6, 0, none⟩)), (7, .pointer (some ⟨b7, 0, none⟩)), (27, .agg #[.int .i64 1, .int .i64 b.H, .int .i64 (b.H + 1), .int .i64 (b.H + 2)]), (28, .int .i64 (i : Nat))])
      (fun i => [(b7, .cells (wv (waysN b x g i)).cells.toList 2), (b6, .cells [.int .u64 0, .int .u64 0] 2), (b4, .cells (wv (x &&& fullB b)).cells.toList 2)]) (fun i => 4 - i) (Nat.zero_le _) ?_ ?_ ?_
    · simp [subR, lk]
    · have : (wv (waysN b x g 0)).cells.toList = [.int .u64 0, .int .u64 0] := by kernel_rfl
      rw [this]; simp only [wv_cells]; repeat (first | exact sub_refl _ | exact sub_nil _ | (refine sub_cons (by simp only [List.mem_cons, true_or, or_true]) ?_) | refine sub_tail ?_)
    · intro i hil
      have e6 : IntKind.i64.wrap ((i : Int) + 1) = ((i + 1 : Nat) : Int) := by rw [wrap64 _ (by omega)]; omega
      simp only [↓exP, ↓exQ, ↓need_ite, ↓need_ite', ↓exA, exB, exC, reduceIte, Nat.reduceEqDiff, Nat.reduceAdd, Nat.reduceSub, Nat.reduceMul, Nat.reduceLeDiff, Nat.reduceLT, Int.reduceToNat, Int.reduceBEq, Int.reduceBNe, Int.reduceLT, Int.reduceLE, Int.reduceEq, Int.reduceNeg, decide_true, decide_false, rd1_own, rd_own, hset_notIn, need_ite, need_ite', map_ite, wv_cells, e6]
      refine ⟨fun g1 => ?_, fun g1 => ?_⟩
      · have hin : i < 4 := by omega
        have hdir := dir_get b i hin
        simp only [↓exP, ↓exQ, ↓need_ite, ↓need_ite', ↓exA, exB, exC, reduceIte, Nat.reduceEqDiff, Nat.reduceAdd, Nat.reduceSub, Nat.reduceMul, Nat.reduceLeDiff, Nat.reduceLT, Int.reduceToNat, Int.reduceBEq, Int.reduceBNe, Int.reduceLT, Int.reduceLE, Int.reduceEq, Int.reduceNeg, decide_true, decide_false, rd1_own, rd_own, hset_notIn, need_ite, need_ite', map_ite, hdir]
        refine ⟨by omega, ?_⟩
        intro b9 lb9 fb9; try simp only [NotIn] at fb9
        simp only [↓exP, ↓exQ, ↓need_ite, ↓need_ite', ↓exA, exB, exC, reduceIte, Nat.reduceEqDiff, Nat.reduceAdd, Nat.reduceSub, Nat.reduceMul, Nat.reduceLeDiff, Nat.reduceLT, Int.reduceToNat, Int.reduceBEq, Int.reduceBNe, Int.reduceLT, Int.reduceLE, Int.reduceEq, Int.reduceNeg, decide_true, decide_false, rd1_own, rd_own, hset_notIn, need_ite, need_ite', map_ite, lb4, lb6, lb7, lb9, fb4, fb6, fb7, fb9]
        refine qcall_q (fun w hs => hf w (x &&& fullB b) (dirN b i) b4 b9 (Cs.own hs (size := 2) (by simp [hget, fb4, fb6, fb7, fb9]; rfl)) (Cs.own hs (size := 1) (by simp [hget])) ?_) ?_
        · match i, hin with
          | 0, _ => exact ⟨by simp only [dirN]; omega, by simp only [dirN]; omega⟩
          | 1, _ => exact ⟨by simp only [dirN]; omega, by simp only [dirN]; omega⟩
          | 2, _ => exact ⟨by simp only [dirN]; omega, by simp only [dirN]; omega⟩
          | 3, _ => exact ⟨by simp only [dirN]; omega, by simp only [dirN]; omega⟩
        simp only [↓exP, ↓exQ, ↓need_ite, ↓need_ite', ↓exA, exB, exC, reduceIte, Nat.reduceEqDiff, Nat.reduceAdd, Nat.reduceSub, Nat.reduceMul, Nat.reduceLeDiff, Nat.reduceLT, Int.reduceToNat, Int.reduceBEq, Int.reduceBNe, Int.reduceLT, Int.reduceLE, Int.reduceEq, Int.reduceNeg, decide_true, decide_false, rd1_own, rd_own, hset_notIn, need_ite, need_ite', map_ite]
        refine qcall_q (fun w hs => p_Or (waysN b x g i) _ w) ?_
        simp only [↓exP, ↓exQ, ↓need_ite, ↓need_ite', ↓exA, exB, exC, reduceIte, Nat.reduceEqDiff, Nat.reduceAdd, Nat.reduceSub, Nat.reduceMul, Nat.reduceLeDiff, Nat.reduceLT, Int.reduceToNat, Int.reduceBEq, Int.reduceBNe, Int.reduceLT, Int.reduceLE, Int.reduceEq, Int.reduceNeg, decide_true, decide_false, rd1_own, rd_own, hset_notIn, need_ite, need_ite', map_ite, wv_cells, lb4, lb6, lb7, lb9, fb4, fb6, fb7, fb9, e6]
        refine ⟨i + 1, ⟨by omega, by omega⟩, by simp [subR, lk], ?_⟩
        rw [waysN_succ]
        repeat (first | exact sub_refl _ | exact sub_nil _ | (refine sub_cons (by simp only [List.mem_cons, true_or, or_true]) ?_) | refine sub_tail ?_)
      · have hi' : i = 4 := by omega
        subst hi'
        simp only [↓exP, ↓exQ, ↓need_ite, ↓need_ite', ↓exA, exB, exC, reduceIte, Nat.reduceEqDiff, Nat.reduceAdd, Nat.reduceSub, Nat.reduceMul, Nat.reduceLeDiff, Nat.reduceLT, Int.reduceToNat, Int.reduceBEq, Int.reduceBNe, Int.reduceLT, Int.reduceLE, Int.reduceEq, Int.reduceNeg, decide_true, decide_false, rd1_own, rd_own, hset_notIn, need_ite, need_ite', map_ite, wv_cells, lb4, lb6, lb7, fb4, fb6, fb7, resV_cellN ti49]
        refine ends_q ?_
        rw [waysW, if_pos h1]
        rfl
  · have hz : waysW b x g = 0 := by simp [waysW, h1]
    rw [hz, ← wv_zero]
    clear hz hf
    repeat' (first
    | (simp only [↓exP, ↓exQ, ↓need_ite, ↓need_ite', ↓exA, exB, exC, reduceIte, Nat.reduceEqDiff, Nat.reduceAdd, Nat.reduceSub, Nat.reduceMul, Nat.reduceLeDiff, Nat.reduceLT, Int.reduceToNat, Int.reduceBEq, Int.reduceBNe, Int.reduceLT, Int.reduceLE, Int.reduceEq, Int.reduceNeg, decide_true, decide_false, rd1_own, rd_own, hset_notIn, need_ite, need_ite', map_ite, s87, resV_cellN ti49, bdv_cells, wv_fold, *]; done)
    | simp only [↓exP, ↓exQ, ↓need_ite, ↓need_ite', ↓exA, exB, exC, reduceIte, Nat.reduceEqDiff, Nat.reduceAdd, Nat.reduceSub, Nat.reduceMul, Nat.reduceLeDiff, Nat.reduceLT, Int.reduceToNat, Int.reduceBEq, Int.reduceBNe, Int.reduceLT, Int.reduceLE, Int.reduceEq, Int.reduceNeg, decide_true, decide_false, rd1_own, rd_own, hset_notIn, need_ite, need_ite', map_ite, s87, resV_cellN ti49, bdv_cells, wv_fold, *]
    | refine vcall_q (fun w hs => p_May b w) ?_
    | refine qcall_q (fun w hs => p_May b w) ?_
    | (intro xb hl hf; try simp only [NotIn] at hf)
    | refine And.intro (fun hc => ?_) (fun hc => ?_)
    | refine ends_q ?_
    | exact wv_fold _
    | (refine And.intro (by first | omega | (simp only [*]; omega)) ?_))
def s62 : SFun := ⟨[], 10, [(.tmp 4)], (.seq (.reg [⟨none, (.box 2 (.tmp 0))⟩, ⟨none, (.box 3 (.tmp 1))⟩, ⟨none, (.pure 4 .mv [(.const (.bool false))])⟩]) (.seq (.reg [⟨none, (.loadN 5 (.tmp 2) 2)⟩, ⟨none, (.loadN 6 (.tmp 3) 2)⟩, ⟨none, (.call (some 7) (.func 87) [(.tmp 5), (.tmp 6), (.func 88)])⟩, ⟨none, (.pure 8 (.build [(.int .u64 0), (.int .u64 0)] []) [])⟩, ⟨none, (.pure 9 (.eqc true [(some .u64), (some .u64)]) [(.tmp 7), (.tmp 8)])⟩, ⟨none, (.pure 4 .mv [(.tmp 9)])⟩]) .ret))⟩
theorem s62_ok : cFun Try.prog [] Try.f62 = some s62 := by kernel_rfl
theorem hb62 : HasBody Try.prog 62 := ⟨_, Try.func62, by kernel_rfl, by kernel_rfl⟩
theorem p_Four (b : Bd) (x : BitVec 128) : PF Try.prog 62 [bdv b, wv x] (.bool (fourB b x)) := by
  intro w
  refine quiet Try.func62 (by kernel_rfl) (by kernel_rfl) s62_ok (by kernel_rfl) ?_
  repeat' (first
    | (simp only [↓exP, ↓exQ, ↓need_ite, ↓need_ite', ↓exA, exB, exC, reduceIte, Nat.reduceEqDiff, Nat.reduceAdd, Nat.reduceSub, Nat.reduceMul, Nat.reduceLeDiff, Nat.reduceLT, Int.reduceToNat, Int.reduceBEq, Int.reduceBNe, Int.reduceLT, Int.reduceLE, Int.reduceEq, Int.reduceNeg, decide_true, decide_false, rd1_own, rd_own, hset_notIn, need_ite, need_ite', map_ite, s62, bdv_cells, wv_cells, eqc_wv0, wv_fold, *]; done)
    | simp only [↓exP, ↓exQ, ↓need_ite, ↓need_ite', ↓exA, exB, exC, reduceIte, Nat.reduceEqDiff, Nat.reduceAdd, Nat.reduceSub, Nat.reduceMul, Nat.reduceLeDiff, Nat.reduceLT, Int.reduceToNat, Int.reduceBEq, Int.reduceBNe, Int.reduceLT, Int.reduceLE, Int.reduceEq, Int.reduceNeg, decide_true, decide_false, rd1_own, rd_own, hset_notIn, need_ite, need_ite', map_ite, s62, bdv_cells, wv_cells, eqc_wv0, wv_fold, *]
    | refine vcall_q (fun w hs => p_ways w b x _ dirW (fun w y d b4 b9 h4 h9 hd => p_Four1 w y d b4 b9 h4 h9 hd)) ?_
    | refine qcall_q (fun w hs => p_ways w b x _ dirW (fun w y d b4 b9 h4 h9 hd => p_Four1 w y d b4 b9 h4 h9 hd)) ?_
    | (intro xb hl hf; try simp only [NotIn] at hf)
    | refine And.intro (fun hc => ?_) (fun hc => ?_)
    | refine ends_q ?_
    | exact wv_fold _
    | (refine And.intro (by first | omega | (simp only [*]; omega)) ?_))
  rfl
end Go.SL
