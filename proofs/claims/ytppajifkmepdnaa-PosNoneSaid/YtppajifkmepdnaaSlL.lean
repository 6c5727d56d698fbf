/- Quiet calls out of contracts that hold at whatever world. No program in sight. -/
import Derived.Test.YtppajifkmepdnaaSlK
set_option linter.unusedSimpArgs false
set_option linter.unusedVariables false
namespace Go.SL
open Go.RowKit

theorem cell_lt {w : World} {a : Addr} {v : Value} (h : w.cell? a = some v) : a.block < w.heap.size := by
  unfold World.cell? at h
  cases hh : w.heap[a.block]? with
  | none => simp [hh] at h
  | some o => exact (Array.getElem?_eq_some_iff.1 hh).1

/-- What is read of the facts is read of the world that meets them. -/
theorem rd1_at {w0 w : World} {H : Heap} (hs : St w0 H w) {b o : Nat} {v : Value} (h : rd1 w0 H b o = some v) : rd1 w [] b o = some v := by
  have := hs.cell (rd1_has h)
  exact rd1_old (cell_lt this) this
theorem rd_at {w0 w : World} {H : Heap} (hs : St w0 H w) {b o n : Nat} {cs : List Value} (h : rd w0 H b o n = some cs) : rdOld w b o n = some cs := by
  obtain ⟨hl, hc⟩ := rd_has h
  subst hl
  have hc' : ∀ i x, cs[i]? = some x → w.cell? ⟨b, o + i, none⟩ = some x := fun i x hi => by have := hs.cell (hc i x hi); rwa [Addr.add_off] at this
  clear h hc
  induction cs generalizing o with
  | nil => rfl
  | cons x cs ih =>
    have h0 := hc' 0 x (by simp)
    simp only [Nat.add_zero] at h0
    have h1 := ih (o := o + 1) fun i y hi => by have := hc' (i + 1) y (by simpa using hi); rwa [show o + (i + 1) = o + 1 + i from by omega] at this
    simp only [List.length_cons, rdOld, h0, h1]

/-- **A QUIET CALL**, of a function by its name. -/
theorem qcall0 {P : Program} {w0 : World} {f : FuncId} {fn : Func} {args : List Value} {H : Heap} {K : Value → Prop} (hf : P.funcs[f]? = some fn) (hb : fn.body.isSome = true) (hnm : (fn.name == "runtime.NumGoroutine") = false) (v : Value)
    (h : ∀ w, St w0 H w → ACall P w f args.toArray [] fun v' _ => v' = v) (hk : K v) : QCall P w0 (.func (.func f) #[] #[]) args H K := by
  refine ⟨v, fun w hs => ?_, hk⟩
  have hno : fn.body.isNone = false := by cases hh : fn.body <;> simp_all
  refine ⟨.enter f args.toArray, ?_, .inr ⟨f, args.toArray, rfl, ?_⟩⟩
  · simp only [Deferred.ofValue, pure_bind, invoke, callFunc, Sem.run_bind, program, Sem.run, Result.andThen, hf, hnm, hno, Bool.false_eq_true, if_false]
    simp
  · refine (h w hs w (St.nil w)).mono ?_
    rintro e w' ⟨v', H', rfl, rfl, hst⟩
    exact ⟨rfl, hst.below⟩
end Go.SL
