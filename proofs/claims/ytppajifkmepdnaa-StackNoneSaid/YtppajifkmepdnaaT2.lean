/- What the functions of a stack do: one contract each. -/
import Derived.Test.YtppajifkmepdnaaSlI
import Derived.Test.YtppajifkmepdnaaProg
import Derived.KernelRfl
namespace Go.SL
set_option linter.unusedSimpArgs false
set_option linter.unusedVariables false
open Go.Proofs

def s12 : SFun := ⟨[], 14, [(.tmp 2), (.tmp 3)], (.seq (.reg [⟨none, (.pure 2 .mv [(.const (.pointer none))])⟩, ⟨none, (.pure 3 .mv [(.const (.int .i64 0))])⟩]) (.seq (.seq (.reg [⟨none, (.pure 4 .mv [(.tmp 0)])⟩, ⟨none, (.pure 5 (.bin .lss) [(.tmp 4), (.const (.int .i64 1))])⟩, ⟨none, (.pure 6 .mv [(.tmp 5)])⟩, ⟨(some (6, false)), (.pure 7 .mv [(.tmp 0)])⟩, ⟨(some (6, false)), (.pure 8 (.bin .gtr) [(.tmp 7), (.const (.int .i64 1000))])⟩, ⟨none, (.pure 9 .pick [(.tmp 6), (.const (.bool true)), (.tmp 8)])⟩]) (.cond (.tmp 9) (.seq (.reg [⟨none, (.pure 2 .mv [(.const (.pointer none))])⟩, ⟨none, (.pure 3 .mv [(.const (.int .i64 2))])⟩]) .ret) .skip)) (.seq (.reg [⟨none, (.pure 10 .mv [(.tmp 0)])⟩, ⟨none, (.mkslice 11 22 (.const (.int .i64 0)) (.tmp 10))⟩, ⟨none, (.pure 12 (.build [(.slice none 0 0), (.int .i64 0)] [(0, 1)]) [(.tmp 11)])⟩, ⟨none, (.box 13 (.tmp 12))⟩, ⟨none, (.pure 2 .mv [(.tmp 13)])⟩, ⟨none, (.pure 3 .mv [(.const (.int .i64 0))])⟩]) .ret)))⟩
theorem s12_ok : cFun Try.prog [] Try.f12 = some s12 := by kernel_rfl
def s14 : SFun := ⟨[], 43, [(.tmp 4)], (.seq (.reg [⟨none, (.pure 4 .mv [(.const (.int .i64 0))])⟩]) (.seq (.block 0 (.seq (.reg [⟨none, (.pure 6 .mv [(.tmp 0)])⟩, ⟨none, (.pure 7 (.eqn false) [(.tmp 6), (.const (.pointer none))])⟩, ⟨none, (.pure 5 .mv [(.tmp 7)])⟩]) (.cond (.tmp 5) (.seq (.reg [⟨none, (.pure 4 .mv [(.const (.int .i64 1))])⟩]) .ret) (.seq (.draw ⟨[(⟨none, (.pure 9 .mv [(.tmp 0)])⟩, false), (⟨none, (.pure 10 .nilck [(.tmp 9)])⟩, false), (⟨none, (.pure 11 (.fad 0) [(.tmp 10)])⟩, false), (⟨none, (.load1 12 (.tmp 11))⟩, false), (⟨none, (.pure 13 .len [(.tmp 12)])⟩, false), (⟨none, (.pure 14 .mv [(.tmp 0)])⟩, false), (⟨none, (.pure 15 .nilck [(.tmp 14)])⟩, false), (⟨none, (.pure 16 (.fad 0) [(.tmp 15)])⟩, false), (⟨none, (.load1 17 (.tmp 16))⟩, false), (⟨none, (.pure 18 .cap [(.tmp 17)])⟩, false), (⟨none, (.pure 19 (.bin .eql) [(.tmp 13), (.tmp 18)])⟩, false)], [], none, [⟨none, (.pure 8 .mv [(.tmp 19)])⟩]⟩) (.cond (.tmp 8) (.seq (.reg [⟨none, (.pure 4 .mv [(.const (.int .i64 6))])⟩]) .ret) .skip))))) (.seq (.reg [⟨none, (.pure 20 .mv [(.tmp 0)])⟩, ⟨none, (.pure 21 .mv [(.tmp 0)])⟩, ⟨none, (.pure 22 .nilck [(.tmp 21)])⟩, ⟨none, (.pure 23 (.fad 0) [(.tmp 22)])⟩, ⟨none, (.load1 24 (.tmp 23))⟩, ⟨none, (.pure 25 .mv [(.tmp 1)])⟩, ⟨none, (.bslice 26 1 [(.int .i64 0)] [(0, 1)] [(.tmp 25)])⟩, ⟨none, (.append 27 [22, 22] 22 (.tmp 24) (.tmp 26))⟩, ⟨none, (.pure 28 .nilck [(.tmp 20)])⟩, ⟨none, (.pure 29 (.fad 0) [(.tmp 28)])⟩, ⟨none, (.store1 (.tmp 29) (.tmp 27))⟩]) (.seq (.draw ⟨[(⟨none, (.pure 30 .mv [(.tmp 0)])⟩, false), (⟨none, (.pure 31 .mv [(.tmp 0)])⟩, false), (⟨none, (.pure 32 .nilck [(.tmp 31)])⟩, false), (⟨none, (.pure 33 (.fad 1) [(.tmp 32)])⟩, false), (⟨none, (.load1 34 (.tmp 33))⟩, false), (⟨none, (.pure 35 .mv [(.tmp 0)])⟩, false), (⟨none, (.pure 36 .nilck [(.tmp 35)])⟩, false), (⟨none, (.pure 37 (.fad 0) [(.tmp 36)])⟩, false), (⟨none, (.load1 38 (.tmp 37))⟩, false), (⟨none, (.pure 39 .len [(.tmp 38)])⟩, false), (⟨none, (.pure 40 .mx [(.tmp 34), (.tmp 39)])⟩, false), (⟨none, (.pure 41 .nilck [(.tmp 30)])⟩, false), (⟨none, (.pure 42 (.fad 1) [(.tmp 41)])⟩, false)], [], none, [⟨none, (.store1 (.tmp 42) (.tmp 40))⟩]⟩) (.seq (.reg [⟨none, (.pure 4 .mv [(.const (.int .i64 0))])⟩]) .ret)))))⟩
theorem s14_ok : cFun Try.prog [] Try.f14 = some s14 := by kernel_rfl
def s15 : SFun := ⟨[], 10, [(.tmp 2)], (.seq (.reg [⟨none, (.pure 2 .mv [(.const (.int .i64 0))])⟩]) (.seq (.seq (.reg [⟨none, (.pure 3 .mv [(.tmp 0)])⟩, ⟨none, (.pure 4 (.eqn false) [(.tmp 3), (.const (.pointer none))])⟩]) (.cond (.tmp 4) (.seq (.reg [⟨none, (.pure 2 .mv [(.const (.int .i64 0))])⟩]) .ret) .skip)) (.seq (.reg [⟨none, (.pure 5 .mv [(.tmp 0)])⟩, ⟨none, (.pure 6 .nilck [(.tmp 5)])⟩, ⟨none, (.pure 7 (.fad 0) [(.tmp 6)])⟩, ⟨none, (.load1 8 (.tmp 7))⟩, ⟨none, (.pure 9 .len [(.tmp 8)])⟩, ⟨none, (.pure 2 .mv [(.tmp 9)])⟩]) .ret)))⟩
theorem s15_ok : cFun Try.prog [] Try.f15 = some s15 := by kernel_rfl
def s16 : SFun := ⟨[], 28, [(.tmp 2), (.tmp 3)], (.seq (.reg [⟨none, (.pure 2 .mv [(.const (.int .i64 0))])⟩, ⟨none, (.pure 3 .mv [(.const (.bool false))])⟩]) (.seq (.reg [⟨none, (.pure 7 .mv [(.tmp 0)])⟩, ⟨none, (.call (some 8) (.func 22) [(.tmp 7)])⟩, ⟨none, (.pure 6 .mv [(.tmp 8)])⟩, ⟨none, (.pure 9 (.ext 0) [(.tmp 6)])⟩, ⟨none, (.pure 10 (.ext 1) [(.tmp 6)])⟩, ⟨none, (.pure 4 .mv [(.tmp 9)])⟩, ⟨none, (.pure 5 .mv [(.tmp 10)])⟩]) (.seq (.seq (.reg [⟨none, (.pure 11 .mv [(.tmp 5)])⟩]) (.cond (.tmp 11) (.draw ⟨[(⟨none, (.pure 12 .mv [(.tmp 0)])⟩, false), (⟨none, (.pure 13 .mv [(.tmp 0)])⟩, false), (⟨none, (.pure 14 .nilck [(.tmp 13)])⟩, false), (⟨none, (.pure 15 (.fad 0) [(.tmp 14)])⟩, false), (⟨none, (.load1 16 (.tmp 15))⟩, false), (⟨none, (.pure 17 .mv [(.tmp 0)])⟩, false), (⟨none, (.pure 18 .nilck [(.tmp 17)])⟩, false), (⟨none, (.pure 19 (.fad 0) [(.tmp 18)])⟩, false), (⟨none, (.load1 20 (.tmp 19))⟩, false), (⟨none, (.pure 21 .len [(.tmp 20)])⟩, false), (⟨none, (.pure 22 (.bin .sub) [(.tmp 21), (.const (.int .i64 1))])⟩, false), (⟨none, (.pure 23 (.slc 1 false true) [(.tmp 16), (.tmp 22)])⟩, false), (⟨none, (.pure 24 .nilck [(.tmp 12)])⟩, false), (⟨none, (.pure 25 (.fad 0) [(.tmp 24)])⟩, false)], [], none, [⟨none, (.store1 (.tmp 25) (.tmp 23))⟩]⟩) .skip)) (.seq (.reg [⟨none, (.pure 26 .mv [(.tmp 4)])⟩, ⟨none, (.pure 27 .mv [(.tmp 5)])⟩, ⟨none, (.pure 2 .mv [(.tmp 26)])⟩, ⟨none, (.pure 3 .mv [(.tmp 27)])⟩]) .ret))))⟩
theorem s16_ok : cFun Try.prog [] Try.f16 = some s16 := by kernel_rfl
def s22 : SFun := ⟨[], 19, [(.tmp 2), (.tmp 3)], (.seq (.reg [⟨none, (.pure 2 .mv [(.const (.int .i64 0))])⟩, ⟨none, (.pure 3 .mv [(.const (.bool false))])⟩]) (.seq (.reg [⟨none, (.pure 6 .mv [(.tmp 0)])⟩, ⟨none, (.call (some 7) (.func 15) [(.tmp 6)])⟩, ⟨none, (.pure 4 .mv [(.tmp 7)])⟩]) (.seq (.seq (.reg [⟨none, (.pure 8 .mv [(.tmp 4)])⟩, ⟨none, (.pure 9 (.bin .eql) [(.tmp 8), (.const (.int .i64 0))])⟩]) (.cond (.tmp 9) (.seq (.reg [⟨none, (.pure 5 .mv [(.const (.int .i64 0))])⟩]) (.seq (.reg [⟨none, (.pure 10 .mv [(.tmp 5)])⟩, ⟨none, (.pure 2 .mv [(.tmp 10)])⟩, ⟨none, (.pure 3 .mv [(.const (.bool false))])⟩]) .ret)) .skip)) (.seq (.reg [⟨none, (.pure 11 .mv [(.tmp 0)])⟩, ⟨none, (.pure 12 .nilck [(.tmp 11)])⟩, ⟨none, (.pure 13 (.fad 0) [(.tmp 12)])⟩, ⟨none, (.load1 14 (.tmp 13))⟩, ⟨none, (.pure 15 .mv [(.tmp 4)])⟩, ⟨none, (.pure 16 (.bin .sub) [(.tmp 15), (.const (.int .i64 1))])⟩, ⟨none, (.pure 17 (.iaS 1) [(.tmp 14), (.tmp 16)])⟩, ⟨none, (.load1 18 (.tmp 17))⟩, ⟨none, (.pure 2 .mv [(.tmp 18)])⟩, ⟨none, (.pure 3 .mv [(.const (.bool true))])⟩]) .ret))))⟩
theorem s22_ok : cFun Try.prog [] Try.f22 = some s22 := by kernel_rfl
def s17 : SFun := ⟨[], 9, [(.tmp 2)], (.seq (.reg [⟨none, (.pure 2 .mv [(.const (.int .i64 0))])⟩]) (.seq (.seq (.reg [⟨none, (.pure 3 .mv [(.tmp 0)])⟩, ⟨none, (.pure 4 (.eqn false) [(.tmp 3), (.const (.pointer none))])⟩]) (.cond (.tmp 4) (.seq (.reg [⟨none, (.pure 2 .mv [(.const (.int .i64 0))])⟩]) .ret) .skip)) (.seq (.reg [⟨none, (.pure 5 .mv [(.tmp 0)])⟩, ⟨none, (.pure 6 .nilck [(.tmp 5)])⟩, ⟨none, (.pure 7 (.fad 1) [(.tmp 6)])⟩, ⟨none, (.load1 8 (.tmp 7))⟩, ⟨none, (.pure 2 .mv [(.tmp 8)])⟩]) .ret)))⟩
theorem s17_ok : cFun Try.prog [] Try.f17 = some s17 := by kernel_rfl
theorem slt22 : slt Try.prog 22 = some (1, 8, [.int .i64 0]) := by kernel_rfl

set_option maxHeartbeats 1000000 in
theorem c_New (w0 : World) (most : Int) (H : Heap) (K : Value → Heap → Prop)
    (h1 : most < 1 ∨ 1000 < most → K (.tuple #[.pointer none, .int .i64 2]) H)
    (h2 : ∀ s b, ¬ (most < 1 ∨ 1000 < most) → NotIn s ((b, .cells [] 0) :: H) → NotIn b H →
      K (.tuple #[.pointer (some ⟨s, 0, none⟩), .int .i64 0]) ((s, .cells [.slice (some ⟨b, 0, none⟩) 0 most.toNat, .int .i64 0] 2) :: (b, .cells (List.replicate most.toNat (.int .i64 0)) most.toNat) :: H)) :
    ACall Try.prog w0 12 #[.int .i64 most] H K := by
  refine acall (args := [_]) Try.func12 s12_ok (by simp [s12]) ?_
  simp only [↓exP, ↓exA, exB, exC, reduceIte, Nat.reduceEqDiff, Nat.reduceAdd, Nat.reduceSub, Nat.reduceMul, Nat.reduceLeDiff, Nat.reduceLT, Int.reduceToNat, Int.reduceBEq, Int.reduceBNe, Int.reduceLT, Int.reduceLE, Int.reduceEq, Int.reduceNeg, decide_true, decide_false, rd1_own, rd_own, hset_notIn, s12]
  refine ⟨fun h => ?_, fun h => ⟨fun h' => ?_, fun h' => ?_⟩⟩
  · exact ends_sub _ (fun p hp => hp) (h1 (.inl h))
  · exact ends_sub _ (fun p hp => hp) (h1 (.inr h'))
  · refine MkSl.rule slt22 (by omega) (by omega) (by omega) (by omega) fun b lb fb => ?_
    rw [show (most.toNat * 1) = most.toNat from by omega, madeCells_one]
    simp only [↓exP, ↓exA, exB, exC, reduceIte, Nat.reduceEqDiff, Nat.reduceAdd, Nat.reduceSub, Nat.reduceMul, Nat.reduceLeDiff, Nat.reduceLT, Int.reduceToNat, Int.reduceBEq, Int.reduceBNe, Int.reduceLT, Int.reduceLE, Int.reduceEq, Int.reduceNeg, decide_true, decide_false, rd1_own, rd_own, hset_notIn]
    intro s ls fs; simp only [NotIn] at fs
    simp only [↓exP, ↓exA, exB, exC, reduceIte, Nat.reduceEqDiff, Nat.reduceAdd, Nat.reduceSub, Nat.reduceMul, Nat.reduceLeDiff, Nat.reduceLT, Int.reduceToNat, Int.reduceBEq, Int.reduceBNe, Int.reduceLT, Int.reduceLE, Int.reduceEq, Int.reduceNeg, decide_true, decide_false, rd1_own, rd_own, hset_notIn]
    refine ends_sub _ ?_ (h2 s b (by omega) ?_ fb)
    · repeat (first | exact sub_refl _ | exact sub_nil _ | (refine sub_cons (by simp only [List.mem_cons, true_or, or_true]) ?_) | refine sub_tail ?_)
    · simp only [NotIn]; exact fs

set_option maxHeartbeats 1000000 in
theorem c_Push (w0 : World) (s b n cap : Nat) (peak : Int) (x : Value) (c : List Value) (F : Heap) (K : Value → Heap → Prop) (hx : x.cells = #[x]) (hx2 : isCell x = true)
    (hsb : ¬ s = b ∧ ¬ b = s) (fs : NotIn s F) (fb : NotIn b F) (hn : n ≤ cap) (hc : n ≤ c.length) (hcap : cap ≤ 1000)
    (h1 : n = cap → K (.int .i64 6) ((s, .cells [.slice (some ⟨b, 0, none⟩) n cap, .int .i64 peak] 2) :: (b, .cells c cap) :: F))
    (h2 : ∀ c', ¬ n = cap → n + 1 ≤ c'.length → c'.take (n + 1) = c.take n ++ [x] →
      K (.int .i64 0) ((s, .cells [.slice (some ⟨b, 0, none⟩) (n + 1) cap, .int .i64 (if peak < (n + 1 : Nat) then (n + 1 : Nat) else peak)] 2) :: (b, .cells c' cap) :: F)) :
    ACall Try.prog w0 14 #[.pointer (some ⟨s, 0, none⟩), x] ((s, .cells [.slice (some ⟨b, 0, none⟩) n cap, .int .i64 peak] 2) :: (b, .cells c cap) :: F) K := by
  refine ACall.new fun hnew => ?_
  obtain ⟨ls, lb, _⟩ := hnew
  refine acall (args := [_, _]) Try.func14 s14_ok (by simp [s14]) ?_
  simp only [↓exP, ↓exA, exB, exC, reduceIte, Nat.reduceEqDiff, Nat.reduceAdd, Nat.reduceSub, Nat.reduceMul, Nat.reduceLeDiff, Nat.reduceLT, Int.reduceToNat, Int.reduceBEq, Int.reduceBNe, Int.reduceLT, Int.reduceLE, Int.reduceEq, Int.reduceNeg, decide_true, decide_false, rd1_own, rd_own, hset_notIn, s14, ls, lb, hsb, hx, List.size_toArray]
  refine ⟨fun h => ?_, fun h => ?_⟩
  · exact ends_sub _ (fun p hp => hp) (h1 (by omega))
  · intro b4 lb4 fb4; simp only [NotIn] at fb4
    simp only [↓exP, ↓exA, exB, exC, reduceIte, Nat.reduceEqDiff, Nat.reduceAdd, Nat.reduceSub, Nat.reduceMul, Nat.reduceLeDiff, Nat.reduceLT, Int.reduceToNat, Int.reduceBEq, Int.reduceBNe, Int.reduceLT, Int.reduceLE, Int.reduceEq, Int.reduceNeg, decide_true, decide_false, rd1_own, rd_own, hset_notIn, ls, lb, hsb, lb4, fb4]
    refine App.rule slt22 (some (b, cap, c)) ((s, .cells [.slice (some ⟨b, 0, none⟩) n cap, .int .i64 peak] 2) :: F) (m := 1) (news := [x]) ?_ ?_ ?_ ?_ ?_ ?_ ?_ ?_
    · repeat (first | exact sub_refl _ | exact sub_nil _ | (refine sub_cons (by simp only [List.mem_cons, true_or, or_true]) ?_) | refine sub_tail ?_)
    · simp [gsOk, hget, fb4, hn, hc, hsb, NotIn, fb]
    · simp [rd_own, lb4, hget, cellsOf, rdL]
    · simp [hx2]
    · omega
    · simp only [maxLen]; omega
    · omega
    · intro b' cap' c' l' f' hcap' hlen' htake' hin
      obtain ⟨rfl, rfl⟩ := hin b cap c rfl (by omega)
      simp only [↓exP, ↓exA, exB, exC, reduceIte, Nat.reduceEqDiff, Nat.reduceAdd, Nat.reduceSub, Nat.reduceMul, Nat.reduceLeDiff, Nat.reduceLT, Int.reduceToNat, Int.reduceBEq, Int.reduceBNe, Int.reduceLT, Int.reduceLE, Int.reduceEq, Int.reduceNeg, decide_true, decide_false, rd1_own, rd_own, hset_notIn, ls, lb, hsb, fs]
      refine ends_sub _ ?_ (h2 c' (by omega) (by omega) (by simpa [gsC] using htake'))
      repeat (first | exact sub_refl _ | exact sub_nil _ | (refine sub_cons (by simp only [List.mem_cons, true_or, or_true]) ?_) | refine sub_tail ?_)

set_option maxHeartbeats 1000000 in
theorem c_Len (w0 : World) (s b n cap : Nat) (peak : Int) (F : Heap) (K : Value → Heap → Prop)
    (h1 : K (.int .i64 n) ((s, .cells [.slice (some ⟨b, 0, none⟩) n cap, .int .i64 peak] 2) :: F)) :
    ACall Try.prog w0 15 #[.pointer (some ⟨s, 0, none⟩)] ((s, .cells [.slice (some ⟨b, 0, none⟩) n cap, .int .i64 peak] 2) :: F) K := by
  refine ACall.new fun hnew => ?_
  obtain ⟨ls, _⟩ := hnew
  refine acall (args := [_]) Try.func15 s15_ok (by simp [s15]) ?_
  simp only [↓exP, ↓exA, exB, exC, reduceIte, Nat.reduceEqDiff, Nat.reduceAdd, Nat.reduceSub, Nat.reduceMul, Nat.reduceLeDiff, Nat.reduceLT, Int.reduceToNat, Int.reduceBEq, Int.reduceBNe, Int.reduceLT, Int.reduceLE, Int.reduceEq, Int.reduceNeg, decide_true, decide_false, rd1_own, rd_own, hset_notIn, s15, ls]
  exact ends_sub _ (fun p hp => hp) h1

theorem c_LenN (w0 : World) (H : Heap) (K : Value → Heap → Prop) (h1 : K (.int .i64 0) H) : ACall Try.prog w0 15 #[.pointer none] H K := by
  refine acall (args := [_]) Try.func15 s15_ok (by simp [s15]) ?_
  simp only [↓exP, ↓exA, exB, exC, reduceIte, Nat.reduceEqDiff, Nat.reduceAdd, Nat.reduceSub, Nat.reduceMul, Nat.reduceLeDiff, Nat.reduceLT, Int.reduceToNat, Int.reduceBEq, Int.reduceBNe, Int.reduceLT, Int.reduceLE, Int.reduceEq, Int.reduceNeg, decide_true, decide_false, rd1_own, rd_own, hset_notIn, s15]
  exact ends_sub _ (fun p hp => hp) h1

theorem c_Peak (w0 : World) (s : Nat) (v : Value) (peak : Int) (F : Heap) (K : Value → Heap → Prop)
    (h1 : K (.int .i64 peak) ((s, .cells [v, .int .i64 peak] 2) :: F)) :
    ACall Try.prog w0 17 #[.pointer (some ⟨s, 0, none⟩)] ((s, .cells [v, .int .i64 peak] 2) :: F) K := by
  refine ACall.new fun hnew => ?_
  obtain ⟨ls, _⟩ := hnew
  refine acall (args := [_]) Try.func17 s17_ok (by simp [s17]) ?_
  simp only [↓exP, ↓exA, exB, exC, reduceIte, Nat.reduceEqDiff, Nat.reduceAdd, Nat.reduceSub, Nat.reduceMul, Nat.reduceLeDiff, Nat.reduceLT, Int.reduceToNat, Int.reduceBEq, Int.reduceBNe, Int.reduceLT, Int.reduceLE, Int.reduceEq, Int.reduceNeg, decide_true, decide_false, rd1_own, rd_own, hset_notIn, s17, ls]
  exact ends_sub _ (fun p hp => hp) h1

theorem c_PeakN (w0 : World) (H : Heap) (K : Value → Heap → Prop) (h1 : K (.int .i64 0) H) : ACall Try.prog w0 17 #[.pointer none] H K := by
  refine acall (args := [_]) Try.func17 s17_ok (by simp [s17]) ?_
  simp only [↓exP, ↓exA, exB, exC, reduceIte, Nat.reduceEqDiff, Nat.reduceAdd, Nat.reduceSub, Nat.reduceMul, Nat.reduceLeDiff, Nat.reduceLT, Int.reduceToNat, Int.reduceBEq, Int.reduceBNe, Int.reduceLT, Int.reduceLE, Int.reduceEq, Int.reduceNeg, decide_true, decide_false, rd1_own, rd_own, hset_notIn, s17]
  exact ends_sub _ (fun p hp => hp) h1

set_option maxHeartbeats 1000000 in
theorem c_Top (w0 : World) (s b n cap : Nat) (peak : Int) (c : List Value) (F : Heap) (K : Value → Heap → Prop) (hsb : ¬ s = b ∧ ¬ b = s) (hc : n ≤ c.length) (hn : n ≤ 1000)
    (h1 : n = 0 → K (.tuple #[.int .i64 0, .bool false]) ((s, .cells [.slice (some ⟨b, 0, none⟩) n cap, .int .i64 peak] 2) :: (b, .cells c cap) :: F))
    (h2 : ∀ x, 0 < n → c[n - 1]? = some x → K (.tuple #[x, .bool true]) ((s, .cells [.slice (some ⟨b, 0, none⟩) n cap, .int .i64 peak] 2) :: (b, .cells c cap) :: F)) :
    ACall Try.prog w0 22 #[.pointer (some ⟨s, 0, none⟩)] ((s, .cells [.slice (some ⟨b, 0, none⟩) n cap, .int .i64 peak] 2) :: (b, .cells c cap) :: F) K := by
  refine ACall.new fun hnew => ?_
  obtain ⟨ls, lb, _⟩ := hnew
  refine acall (args := [_]) Try.func22 s22_ok (by simp [s22]) ?_
  simp only [↓exP, ↓exA, exB, exC, reduceIte, Nat.reduceEqDiff, Nat.reduceAdd, Nat.reduceSub, Nat.reduceMul, Nat.reduceLeDiff, Nat.reduceLT, Int.reduceToNat, Int.reduceBEq, Int.reduceBNe, Int.reduceLT, Int.reduceLE, Int.reduceEq, Int.reduceNeg, decide_true, decide_false, rd1_own, rd_own, hset_notIn, s22, ls, lb, hsb]
  refine vcall0 Try.func15 (by kernel_rfl) (by kernel_rfl) ?_
  refine c_Len w0 s b n cap peak _ _ ?_
  simp only [↓exP, ↓exA, exB, exC, reduceIte, Nat.reduceEqDiff, Nat.reduceAdd, Nat.reduceSub, Nat.reduceMul, Nat.reduceLeDiff, Nat.reduceLT, Int.reduceToNat, Int.reduceBEq, Int.reduceBNe, Int.reduceLT, Int.reduceLE, Int.reduceEq, Int.reduceNeg, decide_true, decide_false, rd1_own, rd_own, hset_notIn]
  refine ⟨fun h => ?_, fun h => ?_⟩
  · exact ends_sub _ (fun p hp => hp) (h1 (by omega))
  · simp only [↓exP, ↓exA, exB, exC, reduceIte, Nat.reduceEqDiff, Nat.reduceAdd, Nat.reduceSub, Nat.reduceMul, Nat.reduceLeDiff, Nat.reduceLT, Int.reduceToNat, Int.reduceBEq, Int.reduceBNe, Int.reduceLT, Int.reduceLE, Int.reduceEq, Int.reduceNeg, decide_true, decide_false, rd1_own, rd_own, hset_notIn, ls, lb, hsb]
    rw [wrap64 _ (by omega), if_pos (by omega), show ((n : Int) - 1).toNat = n - 1 from by omega]
    obtain ⟨x, hx⟩ : ∃ x, c[n - 1]? = some x := ⟨c[n - 1], List.getElem?_eq_getElem (by omega)⟩
    simp only [↓exP, ↓exA, exB, exC, reduceIte, Nat.reduceEqDiff, Nat.reduceAdd, Nat.reduceSub, Nat.reduceMul, Nat.reduceLeDiff, Nat.reduceLT, Int.reduceToNat, Int.reduceBEq, Int.reduceBNe, Int.reduceLT, Int.reduceLE, Int.reduceEq, Int.reduceNeg, decide_true, decide_false, rd1_own, rd_own, hset_notIn, ls, lb, hsb, hx]
    exact ends_sub _ (fun p hp => hp) (h2 x (by omega) hx)

set_option maxHeartbeats 1000000 in
theorem c_TopN (w0 : World) (H : Heap) (K : Value → Heap → Prop) (h1 : K (.tuple #[.int .i64 0, .bool false]) H) : ACall Try.prog w0 22 #[.pointer none] H K := by
  refine acall (args := [_]) Try.func22 s22_ok (by simp [s22]) ?_
  simp only [↓exP, ↓exA, exB, exC, reduceIte, Nat.reduceEqDiff, Nat.reduceAdd, Nat.reduceSub, Nat.reduceMul, Nat.reduceLeDiff, Nat.reduceLT, Int.reduceToNat, Int.reduceBEq, Int.reduceBNe, Int.reduceLT, Int.reduceLE, Int.reduceEq, Int.reduceNeg, decide_true, decide_false, rd1_own, rd_own, hset_notIn, s22]
  refine vcall0 Try.func15 (by kernel_rfl) (by kernel_rfl) ?_
  refine c_LenN w0 _ _ ?_
  simp only [↓exP, ↓exA, exB, exC, reduceIte, Nat.reduceEqDiff, Nat.reduceAdd, Nat.reduceSub, Nat.reduceMul, Nat.reduceLeDiff, Nat.reduceLT, Int.reduceToNat, Int.reduceBEq, Int.reduceBNe, Int.reduceLT, Int.reduceLE, Int.reduceEq, Int.reduceNeg, decide_true, decide_false, rd1_own, rd_own, hset_notIn]
  exact ends_sub _ (fun p hp => hp) h1

set_option maxHeartbeats 1000000 in
theorem c_PushN (w0 : World) (x : Value) (H : Heap) (K : Value → Heap → Prop) (h1 : K (.int .i64 1) H) : ACall Try.prog w0 14 #[.pointer none, x] H K := by
  refine acall (args := [_, _]) Try.func14 s14_ok (by simp [s14]) ?_
  simp only [↓exP, ↓exA, exB, exC, reduceIte, Nat.reduceEqDiff, Nat.reduceAdd, Nat.reduceSub, Nat.reduceMul, Nat.reduceLeDiff, Nat.reduceLT, Int.reduceToNat, Int.reduceBEq, Int.reduceBNe, Int.reduceLT, Int.reduceLE, Int.reduceEq, Int.reduceNeg, decide_true, decide_false, rd1_own, rd_own, hset_notIn, s14]
  exact ends_sub _ (fun p hp => hp) h1

set_option maxHeartbeats 1000000 in
theorem c_PopN (w0 : World) (H : Heap) (K : Value → Heap → Prop) (h1 : K (.tuple #[.int .i64 0, .bool false]) H) : ACall Try.prog w0 16 #[.pointer none] H K := by
  refine acall (args := [_]) Try.func16 s16_ok (by simp [s16]) ?_
  simp only [↓exP, ↓exA, exB, exC, reduceIte, Nat.reduceEqDiff, Nat.reduceAdd, Nat.reduceSub, Nat.reduceMul, Nat.reduceLeDiff, Nat.reduceLT, Int.reduceToNat, Int.reduceBEq, Int.reduceBNe, Int.reduceLT, Int.reduceLE, Int.reduceEq, Int.reduceNeg, decide_true, decide_false, rd1_own, rd_own, hset_notIn, s16]
  refine vcall0 Try.func22 (by kernel_rfl) (by kernel_rfl) ?_
  refine c_TopN w0 _ _ ?_
  simp only [↓exP, ↓exA, exB, exC, reduceIte, Nat.reduceEqDiff, Nat.reduceAdd, Nat.reduceSub, Nat.reduceMul, Nat.reduceLeDiff, Nat.reduceLT, Int.reduceToNat, Int.reduceBEq, Int.reduceBNe, Int.reduceLT, Int.reduceLE, Int.reduceEq, Int.reduceNeg, decide_true, decide_false, rd1_own, rd_own, hset_notIn]
  exact ends_sub _ (fun p hp => hp) h1

set_option maxHeartbeats 1000000 in
theorem c_Pop (w0 : World) (s b n cap : Nat) (peak : Int) (c : List Value) (F : Heap) (K : Value → Heap → Prop) (hsb : ¬ s = b ∧ ¬ b = s) (fs : NotIn s F) (hc : n ≤ c.length) (hn : n ≤ cap) (hcap : cap ≤ 1000)
    (h1 : n = 0 → K (.tuple #[.int .i64 0, .bool false]) ((s, .cells [.slice (some ⟨b, 0, none⟩) n cap, .int .i64 peak] 2) :: (b, .cells c cap) :: F))
    (h2 : ∀ x, 0 < n → c[n - 1]? = some x → K (.tuple #[x, .bool true]) ((s, .cells [.slice (some ⟨b, 0, none⟩) (n - 1) cap, .int .i64 peak] 2) :: (b, .cells c cap) :: F)) :
    ACall Try.prog w0 16 #[.pointer (some ⟨s, 0, none⟩)] ((s, .cells [.slice (some ⟨b, 0, none⟩) n cap, .int .i64 peak] 2) :: (b, .cells c cap) :: F) K := by
  refine ACall.new fun hnew => ?_
  obtain ⟨ls, lb, _⟩ := hnew
  refine acall (args := [_]) Try.func16 s16_ok (by simp [s16]) ?_
  simp only [↓exP, ↓exA, exB, exC, reduceIte, Nat.reduceEqDiff, Nat.reduceAdd, Nat.reduceSub, Nat.reduceMul, Nat.reduceLeDiff, Nat.reduceLT, Int.reduceToNat, Int.reduceBEq, Int.reduceBNe, Int.reduceLT, Int.reduceLE, Int.reduceEq, Int.reduceNeg, decide_true, decide_false, rd1_own, rd_own, hset_notIn, s16, ls, lb, hsb]
  refine vcall0 Try.func22 (by kernel_rfl) (by kernel_rfl) ?_
  refine c_Top w0 s b n cap peak c _ _ hsb hc (by omega) (fun h => ?_) (fun x h hx => ?_)
  · simp only [↓exP, ↓exA, exB, exC, reduceIte, Nat.reduceEqDiff, Nat.reduceAdd, Nat.reduceSub, Nat.reduceMul, Nat.reduceLeDiff, Nat.reduceLT, Int.reduceToNat, Int.reduceBEq, Int.reduceBNe, Int.reduceLT, Int.reduceLE, Int.reduceEq, Int.reduceNeg, decide_true, decide_false, rd1_own, rd_own, hset_notIn]
    exact ends_sub _ (fun p hp => hp) (h1 h)
  · simp only [↓exP, ↓exA, exB, exC, reduceIte, Nat.reduceEqDiff, Nat.reduceAdd, Nat.reduceSub, Nat.reduceMul, Nat.reduceLeDiff, Nat.reduceLT, Int.reduceToNat, Int.reduceBEq, Int.reduceBNe, Int.reduceLT, Int.reduceLE, Int.reduceEq, Int.reduceNeg, decide_true, decide_false, rd1_own, rd_own, hset_notIn, ls, lb, hsb, fs]
    rw [wrap64 _ (by omega), if_pos (by omega), show ((n : Int) - 1).toNat = n - 1 from by omega]
    simp only [↓exP, ↓exA, exB, exC, reduceIte, Nat.reduceEqDiff, Nat.reduceAdd, Nat.reduceSub, Nat.reduceMul, Nat.reduceLeDiff, Nat.reduceLT, Int.reduceToNat, Int.reduceBEq, Int.reduceBNe, Int.reduceLT, Int.reduceLE, Int.reduceEq, Int.reduceNeg, decide_true, decide_false, rd1_own, rd_own, hset_notIn, ls, lb, hsb, fs]
    exact ends_sub _ (fun p hp => hp) (h2 x h hx)

def s49 : SFun := ⟨[], 14, [(.tmp 2), (.tmp 3)], (.seq (.reg [⟨none, (.pure 2 .mv [(.const (.pointer none))])⟩, ⟨none, (.pure 3 .mv [(.const (.int .i64 0))])⟩]) (.seq (.seq (.reg [⟨none, (.pure 4 .mv [(.tmp 0)])⟩, ⟨none, (.pure 5 (.bin .lss) [(.tmp 4), (.const (.int .i64 1))])⟩, ⟨none, (.pure 6 .mv [(.tmp 5)])⟩, ⟨(some (6, false)), (.pure 7 .mv [(.tmp 0)])⟩, ⟨(some (6, false)), (.pure 8 (.bin .gtr) [(.tmp 7), (.const (.int .i64 1000))])⟩, ⟨none, (.pure 9 .pick [(.tmp 6), (.const (.bool true)), (.tmp 8)])⟩]) (.cond (.tmp 9) (.seq (.reg [⟨none, (.pure 2 .mv [(.const (.pointer none))])⟩, ⟨none, (.pure 3 .mv [(.const (.int .i64 2))])⟩]) .ret) .skip)) (.seq (.reg [⟨none, (.pure 10 .mv [(.tmp 0)])⟩, ⟨none, (.mkslice 11 105 (.const (.int .i64 0)) (.tmp 10))⟩, ⟨none, (.pure 12 (.build [(.slice none 0 0), (.int .i64 0)] [(0, 1)]) [(.tmp 11)])⟩, ⟨none, (.box 13 (.tmp 12))⟩, ⟨none, (.pure 2 .mv [(.tmp 13)])⟩, ⟨none, (.pure 3 .mv [(.const (.int .i64 0))])⟩]) .ret)))⟩
theorem s49_ok : cFun Try.prog [] Try.f49 = some s49 := by kernel_rfl
def s50 : SFun := ⟨[], 43, [(.tmp 4)], (.seq (.reg [⟨none, (.pure 4 .mv [(.const (.int .i64 0))])⟩]) (.seq (.block 0 (.seq (.reg [⟨none, (.pure 6 .mv [(.tmp 0)])⟩, ⟨none, (.pure 7 (.eqn false) [(.tmp 6), (.const (.pointer none))])⟩, ⟨none, (.pure 5 .mv [(.tmp 7)])⟩]) (.cond (.tmp 5) (.seq (.reg [⟨none, (.pure 4 .mv [(.const (.int .i64 1))])⟩]) .ret) (.seq (.draw ⟨[(⟨none, (.pure 9 .mv [(.tmp 0)])⟩, false), (⟨none, (.pure 10 .nilck [(.tmp 9)])⟩, false), (⟨none, (.pure 11 (.fad 0) [(.tmp 10)])⟩, false), (⟨none, (.load1 12 (.tmp 11))⟩, false), (⟨none, (.pure 13 .len [(.tmp 12)])⟩, false), (⟨none, (.pure 14 .mv [(.tmp 0)])⟩, false), (⟨none, (.pure 15 .nilck [(.tmp 14)])⟩, false), (⟨none, (.pure 16 (.fad 0) [(.tmp 15)])⟩, false), (⟨none, (.load1 17 (.tmp 16))⟩, false), (⟨none, (.pure 18 .cap [(.tmp 17)])⟩, false), (⟨none, (.pure 19 (.bin .eql) [(.tmp 13), (.tmp 18)])⟩, false)], [], none, [⟨none, (.pure 8 .mv [(.tmp 19)])⟩]⟩) (.cond (.tmp 8) (.seq (.reg [⟨none, (.pure 4 .mv [(.const (.int .i64 6))])⟩]) .ret) .skip))))) (.seq (.reg [⟨none, (.pure 20 .mv [(.tmp 0)])⟩, ⟨none, (.pure 21 .mv [(.tmp 0)])⟩, ⟨none, (.pure 22 .nilck [(.tmp 21)])⟩, ⟨none, (.pure 23 (.fad 0) [(.tmp 22)])⟩, ⟨none, (.load1 24 (.tmp 23))⟩, ⟨none, (.pure 25 .mv [(.tmp 1)])⟩, ⟨none, (.bslice 26 1 [(.string (.mk #[]))] [(0, 1)] [(.tmp 25)])⟩, ⟨none, (.append 27 [105, 105] 105 (.tmp 24) (.tmp 26))⟩, ⟨none, (.pure 28 .nilck [(.tmp 20)])⟩, ⟨none, (.pure 29 (.fad 0) [(.tmp 28)])⟩, ⟨none, (.store1 (.tmp 29) (.tmp 27))⟩]) (.seq (.draw ⟨[(⟨none, (.pure 30 .mv [(.tmp 0)])⟩, false), (⟨none, (.pure 31 .mv [(.tmp 0)])⟩, false), (⟨none, (.pure 32 .nilck [(.tmp 31)])⟩, false), (⟨none, (.pure 33 (.fad 1) [(.tmp 32)])⟩, false), (⟨none, (.load1 34 (.tmp 33))⟩, false), (⟨none, (.pure 35 .mv [(.tmp 0)])⟩, false), (⟨none, (.pure 36 .nilck [(.tmp 35)])⟩, false), (⟨none, (.pure 37 (.fad 0) [(.tmp 36)])⟩, false), (⟨none, (.load1 38 (.tmp 37))⟩, false), (⟨none, (.pure 39 .len [(.tmp 38)])⟩, false), (⟨none, (.pure 40 .mx [(.tmp 34), (.tmp 39)])⟩, false), (⟨none, (.pure 41 .nilck [(.tmp 30)])⟩, false), (⟨none, (.pure 42 (.fad 1) [(.tmp 41)])⟩, false)], [], none, [⟨none, (.store1 (.tmp 42) (.tmp 40))⟩]⟩) (.seq (.reg [⟨none, (.pure 4 .mv [(.const (.int .i64 0))])⟩]) .ret)))))⟩
theorem s50_ok : cFun Try.prog [] Try.f50 = some s50 := by kernel_rfl
def s54 : SFun := ⟨[], 10, [(.tmp 2)], (.seq (.reg [⟨none, (.pure 2 .mv [(.const (.int .i64 0))])⟩]) (.seq (.seq (.reg [⟨none, (.pure 3 .mv [(.tmp 0)])⟩, ⟨none, (.pure 4 (.eqn false) [(.tmp 3), (.const (.pointer none))])⟩]) (.cond (.tmp 4) (.seq (.reg [⟨none, (.pure 2 .mv [(.const (.int .i64 0))])⟩]) .ret) .skip)) (.seq (.reg [⟨none, (.pure 5 .mv [(.tmp 0)])⟩, ⟨none, (.pure 6 .nilck [(.tmp 5)])⟩, ⟨none, (.pure 7 (.fad 0) [(.tmp 6)])⟩, ⟨none, (.load1 8 (.tmp 7))⟩, ⟨none, (.pure 9 .len [(.tmp 8)])⟩, ⟨none, (.pure 2 .mv [(.tmp 9)])⟩]) .ret)))⟩
theorem s54_ok : cFun Try.prog [] Try.f54 = some s54 := by kernel_rfl
def s51 : SFun := ⟨[], 28, [(.tmp 2), (.tmp 3)], (.seq (.reg [⟨none, (.pure 2 .mv [(.const (.string (.mk #[])))])⟩, ⟨none, (.pure 3 .mv [(.const (.bool false))])⟩]) (.seq (.reg [⟨none, (.pure 7 .mv [(.tmp 0)])⟩, ⟨none, (.call (some 8) (.func 52) [(.tmp 7)])⟩, ⟨none, (.pure 6 .mv [(.tmp 8)])⟩, ⟨none, (.pure 9 (.ext 0) [(.tmp 6)])⟩, ⟨none, (.pure 10 (.ext 1) [(.tmp 6)])⟩, ⟨none, (.pure 4 .mv [(.tmp 9)])⟩, ⟨none, (.pure 5 .mv [(.tmp 10)])⟩]) (.seq (.seq (.reg [⟨none, (.pure 11 .mv [(.tmp 5)])⟩]) (.cond (.tmp 11) (.draw ⟨[(⟨none, (.pure 12 .mv [(.tmp 0)])⟩, false), (⟨none, (.pure 13 .mv [(.tmp 0)])⟩, false), (⟨none, (.pure 14 .nilck [(.tmp 13)])⟩, false), (⟨none, (.pure 15 (.fad 0) [(.tmp 14)])⟩, false), (⟨none, (.load1 16 (.tmp 15))⟩, false), (⟨none, (.pure 17 .mv [(.tmp 0)])⟩, false), (⟨none, (.pure 18 .nilck [(.tmp 17)])⟩, false), (⟨none, (.pure 19 (.fad 0) [(.tmp 18)])⟩, false), (⟨none, (.load1 20 (.tmp 19))⟩, false), (⟨none, (.pure 21 .len [(.tmp 20)])⟩, false), (⟨none, (.pure 22 (.bin .sub) [(.tmp 21), (.const (.int .i64 1))])⟩, false), (⟨none, (.pure 23 (.slc 1 false true) [(.tmp 16), (.tmp 22)])⟩, false), (⟨none, (.pure 24 .nilck [(.tmp 12)])⟩, false), (⟨none, (.pure 25 (.fad 0) [(.tmp 24)])⟩, false)], [], none, [⟨none, (.store1 (.tmp 25) (.tmp 23))⟩]⟩) .skip)) (.seq (.reg [⟨none, (.pure 26 .mv [(.tmp 4)])⟩, ⟨none, (.pure 27 .mv [(.tmp 5)])⟩, ⟨none, (.pure 2 .mv [(.tmp 26)])⟩, ⟨none, (.pure 3 .mv [(.tmp 27)])⟩]) .ret))))⟩
theorem s51_ok : cFun Try.prog [] Try.f51 = some s51 := by kernel_rfl
def s52 : SFun := ⟨[], 19, [(.tmp 2), (.tmp 3)], (.seq (.reg [⟨none, (.pure 2 .mv [(.const (.string (.mk #[])))])⟩, ⟨none, (.pure 3 .mv [(.const (.bool false))])⟩]) (.seq (.reg [⟨none, (.pure 6 .mv [(.tmp 0)])⟩, ⟨none, (.call (some 7) (.func 54) [(.tmp 6)])⟩, ⟨none, (.pure 4 .mv [(.tmp 7)])⟩]) (.seq (.seq (.reg [⟨none, (.pure 8 .mv [(.tmp 4)])⟩, ⟨none, (.pure 9 (.bin .eql) [(.tmp 8), (.const (.int .i64 0))])⟩]) (.cond (.tmp 9) (.seq (.reg [⟨none, (.pure 5 .mv [(.const (.string (.mk #[])))])⟩]) (.seq (.reg [⟨none, (.pure 10 .mv [(.tmp 5)])⟩, ⟨none, (.pure 2 .mv [(.tmp 10)])⟩, ⟨none, (.pure 3 .mv [(.const (.bool false))])⟩]) .ret)) .skip)) (.seq (.reg [⟨none, (.pure 11 .mv [(.tmp 0)])⟩, ⟨none, (.pure 12 .nilck [(.tmp 11)])⟩, ⟨none, (.pure 13 (.fad 0) [(.tmp 12)])⟩, ⟨none, (.load1 14 (.tmp 13))⟩, ⟨none, (.pure 15 .mv [(.tmp 4)])⟩, ⟨none, (.pure 16 (.bin .sub) [(.tmp 15), (.const (.int .i64 1))])⟩, ⟨none, (.pure 17 (.iaS 1) [(.tmp 14), (.tmp 16)])⟩, ⟨none, (.load1 18 (.tmp 17))⟩, ⟨none, (.pure 2 .mv [(.tmp 18)])⟩, ⟨none, (.pure 3 .mv [(.const (.bool true))])⟩]) .ret))))⟩
theorem s52_ok : cFun Try.prog [] Try.f52 = some s52 := by kernel_rfl
def s53 : SFun := ⟨[], 9, [(.tmp 2)], (.seq (.reg [⟨none, (.pure 2 .mv [(.const (.int .i64 0))])⟩]) (.seq (.seq (.reg [⟨none, (.pure 3 .mv [(.tmp 0)])⟩, ⟨none, (.pure 4 (.eqn false) [(.tmp 3), (.const (.pointer none))])⟩]) (.cond (.tmp 4) (.seq (.reg [⟨none, (.pure 2 .mv [(.const (.int .i64 0))])⟩]) .ret) .skip)) (.seq (.reg [⟨none, (.pure 5 .mv [(.tmp 0)])⟩, ⟨none, (.pure 6 .nilck [(.tmp 5)])⟩, ⟨none, (.pure 7 (.fad 1) [(.tmp 6)])⟩, ⟨none, (.load1 8 (.tmp 7))⟩, ⟨none, (.pure 2 .mv [(.tmp 8)])⟩]) .ret)))⟩
theorem s53_ok : cFun Try.prog [] Try.f53 = some s53 := by kernel_rfl
theorem slt105 : slt Try.prog 105 = some (1, 16, [.string (.mk #[])]) := by kernel_rfl

set_option maxHeartbeats 1000000 in
theorem c_NewS (w0 : World) (most : Int) (H : Heap) (K : Value → Heap → Prop)
    (h1 : most < 1 ∨ 1000 < most → K (.tuple #[.pointer none, .int .i64 2]) H)
    (h2 : ∀ s b, ¬ (most < 1 ∨ 1000 < most) → NotIn s ((b, .cells [] 0) :: H) → NotIn b H →
      K (.tuple #[.pointer (some ⟨s, 0, none⟩), .int .i64 0]) ((s, .cells [.slice (some ⟨b, 0, none⟩) 0 most.toNat, .int .i64 0] 2) :: (b, .cells (List.replicate most.toNat (.string (.mk #[]))) most.toNat) :: H)) :
    ACall Try.prog w0 49 #[.int .i64 most] H K := by
  refine acall (args := [_]) Try.func49 s49_ok (by simp [s49]) ?_
  simp only [↓exP, ↓exA, exB, exC, reduceIte, Nat.reduceEqDiff, Nat.reduceAdd, Nat.reduceSub, Nat.reduceMul, Nat.reduceLeDiff, Nat.reduceLT, Int.reduceToNat, Int.reduceBEq, Int.reduceBNe, Int.reduceLT, Int.reduceLE, Int.reduceEq, Int.reduceNeg, decide_true, decide_false, rd1_own, rd_own, hset_notIn, s49]
  refine ⟨fun h => ?_, fun h => ⟨fun h' => ?_, fun h' => ?_⟩⟩
  · exact ends_sub _ (fun p hp => hp) (h1 (.inl h))
  · exact ends_sub _ (fun p hp => hp) (h1 (.inr h'))
  · refine MkSl.rule slt105 (by omega) (by omega) (by omega) (by omega) fun b lb fb => ?_
    rw [show (most.toNat * 1) = most.toNat from by omega, madeCells_one]
    simp only [↓exP, ↓exA, exB, exC, reduceIte, Nat.reduceEqDiff, Nat.reduceAdd, Nat.reduceSub, Nat.reduceMul, Nat.reduceLeDiff, Nat.reduceLT, Int.reduceToNat, Int.reduceBEq, Int.reduceBNe, Int.reduceLT, Int.reduceLE, Int.reduceEq, Int.reduceNeg, decide_true, decide_false, rd1_own, rd_own, hset_notIn]
    intro s ls fs; simp only [NotIn] at fs
    simp only [↓exP, ↓exA, exB, exC, reduceIte, Nat.reduceEqDiff, Nat.reduceAdd, Nat.reduceSub, Nat.reduceMul, Nat.reduceLeDiff, Nat.reduceLT, Int.reduceToNat, Int.reduceBEq, Int.reduceBNe, Int.reduceLT, Int.reduceLE, Int.reduceEq, Int.reduceNeg, decide_true, decide_false, rd1_own, rd_own, hset_notIn]
    refine ends_sub _ ?_ (h2 s b (by omega) ?_ fb)
    · repeat (first | exact sub_refl _ | exact sub_nil _ | (refine sub_cons (by simp only [List.mem_cons, true_or, or_true]) ?_) | refine sub_tail ?_)
    · simp only [NotIn]; exact fs

set_option maxHeartbeats 1000000 in
theorem c_PushS (w0 : World) (s b n cap : Nat) (peak : Int) (x : Value) (c : List Value) (F : Heap) (K : Value → Heap → Prop) (hx : x.cells = #[x]) (hx2 : isCell x = true)
    (hsb : ¬ s = b ∧ ¬ b = s) (fs : NotIn s F) (fb : NotIn b F) (hn : n ≤ cap) (hc : n ≤ c.length) (hcap : cap ≤ 1000)
    (h1 : n = cap → K (.int .i64 6) ((s, .cells [.slice (some ⟨b, 0, none⟩) n cap, .int .i64 peak] 2) :: (b, .cells c cap) :: F))
    (h2 : ∀ c', ¬ n = cap → n + 1 ≤ c'.length → c'.take (n + 1) = c.take n ++ [x] →
      K (.int .i64 0) ((s, .cells [.slice (some ⟨b, 0, none⟩) (n + 1) cap, .int .i64 (if peak < (n + 1 : Nat) then (n + 1 : Nat) else peak)] 2) :: (b, .cells c' cap) :: F)) :
    ACall Try.prog w0 50 #[.pointer (some ⟨s, 0, none⟩), x] ((s, .cells [.slice (some ⟨b, 0, none⟩) n cap, .int .i64 peak] 2) :: (b, .cells c cap) :: F) K := by
  refine ACall.new fun hnew => ?_
  obtain ⟨ls, lb, _⟩ := hnew
  refine acall (args := [_, _]) Try.func50 s50_ok (by simp [s50]) ?_
  simp only [↓exP, ↓exA, exB, exC, reduceIte, Nat.reduceEqDiff, Nat.reduceAdd, Nat.reduceSub, Nat.reduceMul, Nat.reduceLeDiff, Nat.reduceLT, Int.reduceToNat, Int.reduceBEq, Int.reduceBNe, Int.reduceLT, Int.reduceLE, Int.reduceEq, Int.reduceNeg, decide_true, decide_false, rd1_own, rd_own, hset_notIn, s50, ls, lb, hsb, hx, List.size_toArray]
  refine ⟨fun h => ?_, fun h => ?_⟩
  · exact ends_sub _ (fun p hp => hp) (h1 (by omega))
  · intro b4 lb4 fb4; simp only [NotIn] at fb4
    simp only [↓exP, ↓exA, exB, exC, reduceIte, Nat.reduceEqDiff, Nat.reduceAdd, Nat.reduceSub, Nat.reduceMul, Nat.reduceLeDiff, Nat.reduceLT, Int.reduceToNat, Int.reduceBEq, Int.reduceBNe, Int.reduceLT, Int.reduceLE, Int.reduceEq, Int.reduceNeg, decide_true, decide_false, rd1_own, rd_own, hset_notIn, ls, lb, hsb, lb4, fb4]
    refine App.rule slt105 (some (b, cap, c)) ((s, .cells [.slice (some ⟨b, 0, none⟩) n cap, .int .i64 peak] 2) :: F) (m := 1) (news := [x]) ?_ ?_ ?_ ?_ ?_ ?_ ?_ ?_
    · repeat (first | exact sub_refl _ | exact sub_nil _ | (refine sub_cons (by simp only [List.mem_cons, true_or, or_true]) ?_) | refine sub_tail ?_)
    · simp [gsOk, hget, fb4, hn, hc, hsb, NotIn, fb]
    · simp [rd_own, lb4, hget, cellsOf, rdL]
    · simp [hx2]
    · omega
    · simp only [maxLen]; omega
    · omega
    · intro b' cap' c' l' f' hcap' hlen' htake' hin
      obtain ⟨rfl, rfl⟩ := hin b cap c rfl (by omega)
      simp only [↓exP, ↓exA, exB, exC, reduceIte, Nat.reduceEqDiff, Nat.reduceAdd, Nat.reduceSub, Nat.reduceMul, Nat.reduceLeDiff, Nat.reduceLT, Int.reduceToNat, Int.reduceBEq, Int.reduceBNe, Int.reduceLT, Int.reduceLE, Int.reduceEq, Int.reduceNeg, decide_true, decide_false, rd1_own, rd_own, hset_notIn, ls, lb, hsb, fs]
      refine ends_sub _ ?_ (h2 c' (by omega) (by omega) (by simpa [gsC] using htake'))
      repeat (first | exact sub_refl _ | exact sub_nil _ | (refine sub_cons (by simp only [List.mem_cons, true_or, or_true]) ?_) | refine sub_tail ?_)

set_option maxHeartbeats 1000000 in
theorem c_LenS (w0 : World) (s b n cap : Nat) (peak : Int) (F : Heap) (K : Value → Heap → Prop)
    (h1 : K (.int .i64 n) ((s, .cells [.slice (some ⟨b, 0, none⟩) n cap, .int .i64 peak] 2) :: F)) :
    ACall Try.prog w0 54 #[.pointer (some ⟨s, 0, none⟩)] ((s, .cells [.slice (some ⟨b, 0, none⟩) n cap, .int .i64 peak] 2) :: F) K := by
  refine ACall.new fun hnew => ?_
  obtain ⟨ls, _⟩ := hnew
  refine acall (args := [_]) Try.func54 s54_ok (by simp [s54]) ?_
  simp only [↓exP, ↓exA, exB, exC, reduceIte, Nat.reduceEqDiff, Nat.reduceAdd, Nat.reduceSub, Nat.reduceMul, Nat.reduceLeDiff, Nat.reduceLT, Int.reduceToNat, Int.reduceBEq, Int.reduceBNe, Int.reduceLT, Int.reduceLE, Int.reduceEq, Int.reduceNeg, decide_true, decide_false, rd1_own, rd_own, hset_notIn, s54, ls]
  exact ends_sub _ (fun p hp => hp) h1

theorem c_LenNS (w0 : World) (H : Heap) (K : Value → Heap → Prop) (h1 : K (.int .i64 0) H) : ACall Try.prog w0 54 #[.pointer none] H K := by
  refine acall (args := [_]) Try.func54 s54_ok (by simp [s54]) ?_
  simp only [↓exP, ↓exA, exB, exC, reduceIte, Nat.reduceEqDiff, Nat.reduceAdd, Nat.reduceSub, Nat.reduceMul, Nat.reduceLeDiff, Nat.reduceLT, Int.reduceToNat, Int.reduceBEq, Int.reduceBNe, Int.reduceLT, Int.reduceLE, Int.reduceEq, Int.reduceNeg, decide_true, decide_false, rd1_own, rd_own, hset_notIn, s54]
  exact ends_sub _ (fun p hp => hp) h1

theorem c_PeakS (w0 : World) (s : Nat) (v : Value) (peak : Int) (F : Heap) (K : Value → Heap → Prop)
    (h1 : K (.int .i64 peak) ((s, .cells [v, .int .i64 peak] 2) :: F)) :
    ACall Try.prog w0 53 #[.pointer (some ⟨s, 0, none⟩)] ((s, .cells [v, .int .i64 peak] 2) :: F) K := by
  refine ACall.new fun hnew => ?_
  obtain ⟨ls, _⟩ := hnew
  refine acall (args := [_]) Try.func53 s53_ok (by simp [s53]) ?_
  simp only [↓exP, ↓exA, exB, exC, reduceIte, Nat.reduceEqDiff, Nat.reduceAdd, Nat.reduceSub, Nat.reduceMul, Nat.reduceLeDiff, Nat.reduceLT, Int.reduceToNat, Int.reduceBEq, Int.reduceBNe, Int.reduceLT, Int.reduceLE, Int.reduceEq, Int.reduceNeg, decide_true, decide_false, rd1_own, rd_own, hset_notIn, s53, ls]
  exact ends_sub _ (fun p hp => hp) h1

theorem c_PeakNS (w0 : World) (H : Heap) (K : Value → Heap → Prop) (h1 : K (.int .i64 0) H) : ACall Try.prog w0 53 #[.pointer none] H K := by
  refine acall (args := [_]) Try.func53 s53_ok (by simp [s53]) ?_
  simp only [↓exP, ↓exA, exB, exC, reduceIte, Nat.reduceEqDiff, Nat.reduceAdd, Nat.reduceSub, Nat.reduceMul, Nat.reduceLeDiff, Nat.reduceLT, Int.reduceToNat, Int.reduceBEq, Int.reduceBNe, Int.reduceLT, Int.reduceLE, Int.reduceEq, Int.reduceNeg, decide_true, decide_false, rd1_own, rd_own, hset_notIn, s53]
  exact ends_sub _ (fun p hp => hp) h1

set_option maxHeartbeats 1000000 in
theorem c_TopS (w0 : World) (s b n cap : Nat) (peak : Int) (c : List Value) (F : Heap) (K : Value → Heap → Prop) (hsb : ¬ s = b ∧ ¬ b = s) (hc : n ≤ c.length) (hn : n ≤ 1000)
    (h1 : n = 0 → K (.tuple #[.string (.mk #[]), .bool false]) ((s, .cells [.slice (some ⟨b, 0, none⟩) n cap, .int .i64 peak] 2) :: (b, .cells c cap) :: F))
    (h2 : ∀ x, 0 < n → c[n - 1]? = some x → K (.tuple #[x, .bool true]) ((s, .cells [.slice (some ⟨b, 0, none⟩) n cap, .int .i64 peak] 2) :: (b, .cells c cap) :: F)) :
    ACall Try.prog w0 52 #[.pointer (some ⟨s, 0, none⟩)] ((s, .cells [.slice (some ⟨b, 0, none⟩) n cap, .int .i64 peak] 2) :: (b, .cells c cap) :: F) K := by
  refine ACall.new fun hnew => ?_
  obtain ⟨ls, lb, _⟩ := hnew
  refine acall (args := [_]) Try.func52 s52_ok (by simp [s52]) ?_
  simp only [↓exP, ↓exA, exB, exC, reduceIte, Nat.reduceEqDiff, Nat.reduceAdd, Nat.reduceSub, Nat.reduceMul, Nat.reduceLeDiff, Nat.reduceLT, Int.reduceToNat, Int.reduceBEq, Int.reduceBNe, Int.reduceLT, Int.reduceLE, Int.reduceEq, Int.reduceNeg, decide_true, decide_false, rd1_own, rd_own, hset_notIn, s52, ls, lb, hsb]
  refine vcall0 Try.func54 (by kernel_rfl) (by kernel_rfl) ?_
  refine c_LenS w0 s b n cap peak _ _ ?_
  simp only [↓exP, ↓exA, exB, exC, reduceIte, Nat.reduceEqDiff, Nat.reduceAdd, Nat.reduceSub, Nat.reduceMul, Nat.reduceLeDiff, Nat.reduceLT, Int.reduceToNat, Int.reduceBEq, Int.reduceBNe, Int.reduceLT, Int.reduceLE, Int.reduceEq, Int.reduceNeg, decide_true, decide_false, rd1_own, rd_own, hset_notIn]
  refine ⟨fun h => ?_, fun h => ?_⟩
  · exact ends_sub _ (fun p hp => hp) (h1 (by omega))
  · simp only [↓exP, ↓exA, exB, exC, reduceIte, Nat.reduceEqDiff, Nat.reduceAdd, Nat.reduceSub, Nat.reduceMul, Nat.reduceLeDiff, Nat.reduceLT, Int.reduceToNat, Int.reduceBEq, Int.reduceBNe, Int.reduceLT, Int.reduceLE, Int.reduceEq, Int.reduceNeg, decide_true, decide_false, rd1_own, rd_own, hset_notIn, ls, lb, hsb]
    rw [wrap64 _ (by omega), if_pos (by omega), show ((n : Int) - 1).toNat = n - 1 from by omega]
    obtain ⟨x, hx⟩ : ∃ x, c[n - 1]? = some x := ⟨c[n - 1], List.getElem?_eq_getElem (by omega)⟩
    simp only [↓exP, ↓exA, exB, exC, reduceIte, Nat.reduceEqDiff, Nat.reduceAdd, Nat.reduceSub, Nat.reduceMul, Nat.reduceLeDiff, Nat.reduceLT, Int.reduceToNat, Int.reduceBEq, Int.reduceBNe, Int.reduceLT, Int.reduceLE, Int.reduceEq, Int.reduceNeg, decide_true, decide_false, rd1_own, rd_own, hset_notIn, ls, lb, hsb, hx]
    exact ends_sub _ (fun p hp => hp) (h2 x (by omega) hx)

set_option maxHeartbeats 1000000 in
theorem c_TopNS (w0 : World) (H : Heap) (K : Value → Heap → Prop) (h1 : K (.tuple #[.string (.mk #[]), .bool false]) H) : ACall Try.prog w0 52 #[.pointer none] H K := by
  refine acall (args := [_]) Try.func52 s52_ok (by simp [s52]) ?_
  simp only [↓exP, ↓exA, exB, exC, reduceIte, Nat.reduceEqDiff, Nat.reduceAdd, Nat.reduceSub, Nat.reduceMul, Nat.reduceLeDiff, Nat.reduceLT, Int.reduceToNat, Int.reduceBEq, Int.reduceBNe, Int.reduceLT, Int.reduceLE, Int.reduceEq, Int.reduceNeg, decide_true, decide_false, rd1_own, rd_own, hset_notIn, s52]
  refine vcall0 Try.func54 (by kernel_rfl) (by kernel_rfl) ?_
  refine c_LenNS w0 _ _ ?_
  simp only [↓exP, ↓exA, exB, exC, reduceIte, Nat.reduceEqDiff, Nat.reduceAdd, Nat.reduceSub, Nat.reduceMul, Nat.reduceLeDiff, Nat.reduceLT, Int.reduceToNat, Int.reduceBEq, Int.reduceBNe, Int.reduceLT, Int.reduceLE, Int.reduceEq, Int.reduceNeg, decide_true, decide_false, rd1_own, rd_own, hset_notIn]
  exact ends_sub _ (fun p hp => hp) h1

set_option maxHeartbeats 1000000 in
theorem c_PushNS (w0 : World) (x : Value) (H : Heap) (K : Value → Heap → Prop) (h1 : K (.int .i64 1) H) : ACall Try.prog w0 50 #[.pointer none, x] H K := by
  refine acall (args := [_, _]) Try.func50 s50_ok (by simp [s50]) ?_
  simp only [↓exP, ↓exA, exB, exC, reduceIte, Nat.reduceEqDiff, Nat.reduceAdd, Nat.reduceSub, Nat.reduceMul, Nat.reduceLeDiff, Nat.reduceLT, Int.reduceToNat, Int.reduceBEq, Int.reduceBNe, Int.reduceLT, Int.reduceLE, Int.reduceEq, Int.reduceNeg, decide_true, decide_false, rd1_own, rd_own, hset_notIn, s50]
  exact ends_sub _ (fun p hp => hp) h1

set_option maxHeartbeats 1000000 in
theorem c_PopNS (w0 : World) (H : Heap) (K : Value → Heap → Prop) (h1 : K (.tuple #[.string (.mk #[]), .bool false]) H) : ACall Try.prog w0 51 #[.pointer none] H K := by
  refine acall (args := [_]) Try.func51 s51_ok (by simp [s51]) ?_
  simp only [↓exP, ↓exA, exB, exC, reduceIte, Nat.reduceEqDiff, Nat.reduceAdd, Nat.reduceSub, Nat.reduceMul, Nat.reduceLeDiff, Nat.reduceLT, Int.reduceToNat, Int.reduceBEq, Int.reduceBNe, Int.reduceLT, Int.reduceLE, Int.reduceEq, Int.reduceNeg, decide_true, decide_false, rd1_own, rd_own, hset_notIn, s51]
  refine vcall0 Try.func52 (by kernel_rfl) (by kernel_rfl) ?_
  refine c_TopNS w0 _ _ ?_
  simp only [↓exP, ↓exA, exB, exC, reduceIte, Nat.reduceEqDiff, Nat.reduceAdd, Nat.reduceSub, Nat.reduceMul, Nat.reduceLeDiff, Nat.reduceLT, Int.reduceToNat, Int.reduceBEq, Int.reduceBNe, Int.reduceLT, Int.reduceLE, Int.reduceEq, Int.reduceNeg, decide_true, decide_false, rd1_own, rd_own, hset_notIn]
  exact ends_sub _ (fun p hp => hp) h1

set_option maxHeartbeats 1000000 in
theorem c_PopS (w0 : World) (s b n cap : Nat) (peak : Int) (c : List Value) (F : Heap) (K : Value → Heap → Prop) (hsb : ¬ s = b ∧ ¬ b = s) (fs : NotIn s F) (hc : n ≤ c.length) (hn : n ≤ cap) (hcap : cap ≤ 1000)
    (h1 : n = 0 → K (.tuple #[.string (.mk #[]), .bool false]) ((s, .cells [.slice (some ⟨b, 0, none⟩) n cap, .int .i64 peak] 2) :: (b, .cells c cap) :: F))
    (h2 : ∀ x, 0 < n → c[n - 1]? = some x → K (.tuple #[x, .bool true]) ((s, .cells [.slice (some ⟨b, 0, none⟩) (n - 1) cap, .int .i64 peak] 2) :: (b, .cells c cap) :: F)) :
    ACall Try.prog w0 51 #[.pointer (some ⟨s, 0, none⟩)] ((s, .cells [.slice (some ⟨b, 0, none⟩) n cap, .int .i64 peak] 2) :: (b, .cells c cap) :: F) K := by
  refine ACall.new fun hnew => ?_
  obtain ⟨ls, lb, _⟩ := hnew
  refine acall (args := [_]) Try.func51 s51_ok (by simp [s51]) ?_
  simp only [↓exP, ↓exA, exB, exC, reduceIte, Nat.reduceEqDiff, Nat.reduceAdd, Nat.reduceSub, Nat.reduceMul, Nat.reduceLeDiff, Nat.reduceLT, Int.reduceToNat, Int.reduceBEq, Int.reduceBNe, Int.reduceLT, Int.reduceLE, Int.reduceEq, Int.reduceNeg, decide_true, decide_false, rd1_own, rd_own, hset_notIn, s51, ls, lb, hsb]
  refine vcall0 Try.func52 (by kernel_rfl) (by kernel_rfl) ?_
  refine c_TopS w0 s b n cap peak c _ _ hsb hc (by omega) (fun h => ?_) (fun x h hx => ?_)
  · simp only [↓exP, ↓exA, exB, exC, reduceIte, Nat.reduceEqDiff, Nat.reduceAdd, Nat.reduceSub, Nat.reduceMul, Nat.reduceLeDiff, Nat.reduceLT, Int.reduceToNat, Int.reduceBEq, Int.reduceBNe, Int.reduceLT, Int.reduceLE, Int.reduceEq, Int.reduceNeg, decide_true, decide_false, rd1_own, rd_own, hset_notIn]
    exact ends_sub _ (fun p hp => hp) (h1 h)
  · simp only [↓exP, ↓exA, exB, exC, reduceIte, Nat.reduceEqDiff, Nat.reduceAdd, Nat.reduceSub, Nat.reduceMul, Nat.reduceLeDiff, Nat.reduceLT, Int.reduceToNat, Int.reduceBEq, Int.reduceBNe, Int.reduceLT, Int.reduceLE, Int.reduceEq, Int.reduceNeg, decide_true, decide_false, rd1_own, rd_own, hset_notIn, ls, lb, hsb, fs]
    rw [wrap64 _ (by omega), if_pos (by omega), show ((n : Int) - 1).toNat = n - 1 from by omega]
    simp only [↓exP, ↓exA, exB, exC, reduceIte, Nat.reduceEqDiff, Nat.reduceAdd, Nat.reduceSub, Nat.reduceMul, Nat.reduceLeDiff, Nat.reduceLT, Int.reduceToNat, Int.reduceBEq, Int.reduceBNe, Int.reduceLT, Int.reduceLE, Int.reduceEq, Int.reduceNeg, decide_true, decide_false, rd1_own, rd_own, hset_notIn, ls, lb, hsb, fs]
    exact ends_sub _ (fun p hp => hp) (h2 x h hx)

end Go.SL
