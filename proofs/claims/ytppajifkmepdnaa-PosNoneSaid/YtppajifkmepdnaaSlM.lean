/- Calls that turn nothing: contracts that hold at whatever world, and their use. No program in sight. -/
import Derived.Test.YtppajifkmepdnaaSlJ
import Derived.Test.YtppajifkmepdnaaSlL
set_option linter.unusedSimpArgs false
set_option linter.unusedVariables false
namespace Go.SL
open Go.RowKit

/-- A function that is entered when it is called. -/
def HasBody (P : Program) (f : FuncId) : Prop := ∃ fn : Func, P.funcs[f]? = some fn ∧ fn.body.isSome = true ∧ (fn.name == "runtime.NumGoroutine") = false

/-- In the world w a call of f comes to v, and turns nothing that lay there. -/
def Quiet (P : Program) (w : World) (f : FuncId) (args : List Value) (v : Value) : Prop :=
  (HasBody P f ∧ ACall P w f args.toArray [] (fun v' _ => v' = v)) ∨ (∀ w', (callFunc f args.toArray).run P w' = .ok (.value v) w')

/-- The same in each world. -/
def PF (P : Program) (f : FuncId) (args : List Value) (v : Value) : Prop := ∀ w, Quiet P w f args v

theorem HasBody.run {P : Program} {f : FuncId} (h : HasBody P f) (args : Array Value) (w : World) : (callFunc f args).run P w = .ok (.enter f args) w := by
  obtain ⟨fn, hf, hb, hnm⟩ := h
  have hno : fn.body.isNone = false := by cases hh : fn.body <;> simp_all
  simp only [callFunc, Sem.run_bind, program, Sem.run, Result.andThen, hf, hnm, hno, Bool.false_eq_true, if_false]
  simp

theorem inv_run {P : Program} {f : FuncId} {first cap : Array Value} {args : List Value} (w : World) :
    (do let d ← Deferred.ofValue (.func (.func f) first cap) args.toArray; invoke d.target d.args : Sem Next).run P w = (callFunc f (first ++ args.toArray ++ cap)).run P w := by
  simp only [Deferred.ofValue, pure_bind, invoke]

theorem qcall_q {P : Program} {w0 : World} {f : FuncId} {args : List Value} {H : Heap} {K : Value → Prop} {v : Value} (h : ∀ w, St w0 H w → Quiet P w f args v) (hk : K v) : QCall P w0 (.func (.func f) #[] #[]) args H K := by
  refine ⟨v, fun w hs => ?_, hk⟩
  rw [inv_run]
  have he : #[] ++ args.toArray ++ #[] = args.toArray := by simp
  rw [he]
  rcases h w hs with ⟨hb, hc⟩ | hv
  · refine ⟨.enter f args.toArray, hb.run _ _, .inr ⟨f, args.toArray, rfl, ?_⟩⟩
    refine (hc w (St.nil w)).mono ?_
    rintro e w' ⟨v', H', rfl, rfl, hst⟩
    exact ⟨rfl, hst.below⟩
  · exact ⟨.value v, hv w, .inl rfl⟩

/-- A call whose blocks are all new: what it tells, beside what was known. -/
theorem acall_fresh {P : Program} {w0 : World} {f : FuncId} {args : Array Value} {H : Heap} {K Post : Value → Heap → Prop}
    (h : ∀ w, St w0 H w → ACall P w f args [] Post) (hk : ∀ v H', Post v H' → AllNew w0 H' → (∀ p ∈ H', NotIn p.1 H) → K v (H' ++ H)) : ACall P w0 f args H K := by
  intro w hs
  refine (h w hs w (St.nil w)).mono ?_
  rintro e w' ⟨v, H', rfl, hp, hst⟩
  have h0 : St w0 H w' := St.other hs hst.below
  have hsz := hs.below.size
  refine ⟨v, H' ++ H, rfl, hk v H' hp (AllNew.of fun p hp => Nat.le_trans hsz (hst.new p hp)) fun p hp => notIn_of fun hm => ?_, ⟨h0.below, fun p hp => ?_, fun p hp => ?_⟩⟩
  · obtain ⟨q, hq, he⟩ := List.mem_map.1 hm
    have := Blk.sat_lt (hs.sat q hq)
    have := hst.new p hp
    omega
  · rcases List.mem_append.1 hp with hp | hp
    · exact Nat.le_trans hsz (hst.new p hp)
    · exact h0.new p hp
  · rcases List.mem_append.1 hp with hp | hp
    · exact hst.sat p hp
    · exact h0.sat p hp

theorem vcall_body {P : Program} {w0 : World} {f : FuncId} {first cap : Array Value} {args : List Value} {H : Heap} {K : Value → Heap → Prop} (hb : HasBody P f)
    (h : ACall P w0 f (first ++ args.toArray ++ cap) H K) : VCall P w0 (.func (.func f) first cap) args H K := by
  obtain ⟨fn, hf, hb, hnm⟩ := hb
  exact vcall_func hf hb hnm h

theorem vcall_q {P : Program} {w0 : World} {f : FuncId} {args : List Value} {H : Heap} {K : Value → Heap → Prop} {v : Value} (h : ∀ w, St w0 H w → Quiet P w f args v) (hk : K v H) : VCall P w0 (.func (.func f) #[] #[]) args H K := by
  intro w hs
  rw [inv_run]
  have he : #[] ++ args.toArray ++ #[] = args.toArray := by simp
  rw [he]
  rcases h w hs with ⟨hb, _⟩ | hv
  · refine ⟨_, H, w, hb.run _ _, ?_, hs⟩
    show ACall P w0 f args.toArray H K
    refine acall_fresh (Post := fun v' H' => v' = v ∧ H' = []) (fun w2 hs2 => ?_) ?_
    · rcases h w2 hs2 with ⟨_, hc⟩ | hv
      · intro w3 hs3
        refine (hc w3 hs3).mono ?_
        rintro e w' ⟨v', H', rfl, rfl, hst⟩
        exact ⟨_, [], rfl, ⟨rfl, rfl⟩, hst.sub (by simp)⟩
      · have h1 := hv w2
        rw [hb.run] at h1
        cases h1
    · rintro v' H' ⟨rfl, rfl⟩ _ _
      exact hk
  · exact ⟨.value v, H, w, hv w, hk, hs⟩

/-- A call that makes new blocks. -/
theorem vcall_new {P : Program} {w0 : World} {f : FuncId} {args : List Value} {H : Heap} {K Post : Value → Heap → Prop} (hb : HasBody P f)
    (h : ∀ w, St w0 H w → ACall P w f args.toArray [] Post) (hk : ∀ v H', Post v H' → AllNew w0 H' → (∀ p ∈ H', NotIn p.1 H) → K v (H' ++ H)) : VCall P w0 (.func (.func f) #[] #[]) args H K :=
  vcall_body hb (by simpa using acall_fresh h hk)

theorem pf_of {P : Program} {f : FuncId} {args : List Value} {v : Value} (hb : HasBody P f) (h : ∀ w, ACall P w f args.toArray [] (fun v' _ => v' = v)) : PF P f args v :=
  fun w => .inl ⟨hb, h w⟩

theorem acall_of_quiet {P : Program} {w : World} {f : FuncId} {args : List Value} {v : Value} (hb : HasBody P f) (h : Quiet P w f args v) : ACall P w f args.toArray [] (fun v' _ => v' = v) := by
  rcases h with ⟨_, h⟩ | h
  · exact h
  · have := h w
    rw [hb.run] at this
    cases this

/-- **A QUIET FUNCTION**, out of the walk over its small code. -/
theorem quiet {P : Program} {w : World} {O : List FuncId} {f : FuncId} {fn : Func} {sf : SFun} {args : List Value} {v : Value}
    (hf : P.funcs[f]? = some fn) (hb : fn.body.isSome = true) (hnm : (fn.name == "runtime.NumGoroutine") = false) (hc : cFun P O fn = some sf) (hn : decide (args.length ≤ sf.n) = true)
    (h : aw P w sf.O sf.n none sf.body (endPost P w sf.rs (fun v' _ => v' = v)) ⟨envOf 0 args, []⟩ []) : Quiet P w f args v :=
  .inl ⟨⟨fn, hf, hb, hnm⟩, acall hf hc (by simpa using hn) h⟩

theorem ends_q {r : List (Nat × Value)} {u v : Value} {H : Heap} (h : u = v) : ends (fun v' _ => v' = v) ⟨r, []⟩ H u :=
  ends_sub [] (by simp) h


theorem need_ite {α : Type} (c : Prop) [Decidable c] (v : α) (k : α → Prop) : need (if c then some v else none) k = (c ∧ k v) := by
  by_cases h : c <;> simp [h, need]
theorem need_ite' {α : Type} (c : Prop) [Decidable c] (v : α) (k : α → Prop) : need (if c then none else some v) k = (¬ c ∧ k v) := by
  by_cases h : c <;> simp [h, need]
theorem map_ite {α β : Type} (c : Prop) [Decidable c] (v : α) (f : α → β) : Option.map f (if c then some v else none) = if c then some (f v) else none := by
  by_cases h : c <;> simp [h]
end Go.SL
