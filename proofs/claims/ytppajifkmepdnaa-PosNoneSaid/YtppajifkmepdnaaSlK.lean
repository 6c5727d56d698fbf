/- A range over a function, and what a call of its yield does. No program in sight. -/
import Derived.Test.YtppajifkmepdnaaSlI
import Derived.RangeFuncNested
set_option linter.unusedSimpArgs false
set_option linter.unusedVariables false
namespace Go.SL
open Go.RowKit

/-- What the record of a range over a function bears. -/
structure LRec where
  fn : FuncId
  tmps : Array Value
  ps : List Nat
  a : Code
  b : Code
  D : Nat

def LRec.loop (R : LRec) (st : LoopState) (pend : Option Code) : Loop := { state := st, pending := pend, fn := R.fn, tmps := R.tmps, params := R.ps.toArray, assign := R.a, body := R.b, defers := R.D }
def LRec.obj (R : LRec) (st : LoopState) (pend : Option Code) : Blk := .obj (.loop (R.loop st pend))

/-- The record is of this statement, met in this environment. -/
structure LOk (P : Program) (O : List FuncId) (n : Nat) (sa sb : SCode) (ps : List Nat) (r : List (Nat × Value)) (R : LRec) : Prop where
  size : R.tmps.size = n
  get : ∀ t v, lk t r = some v → R.tmps[t]? = some v
  ps : R.ps = ps
  ca : cCode P O n R.a = some sa
  cb : cCode P O n R.b = some sb

/-- What a round leaves. -/
def rdPost (R : LRec) (L : Nat) (K : Value → Heap → Prop) : Exit → Env → Heap → Prop
  | .normal, _, H => hget H L = some (R.obj .busy none) ∧ K (.bool true) (hset H L (R.obj .ready none))
  | .ret, _, H => hget H L = some (R.obj .busy none) ∧ K (.bool false) (hset H L (R.obj .done (some .ret)))
  | .exit id, _, H => hget H L = some (R.obj .busy none) ∧ K (.bool false) (hset H L (R.obj .done (some (.exit id))))
  | .goto l, _, H => hget H L = some (R.obj .busy none) ∧ K (.bool false) (hset H L (R.obj .done (some (.goto l))))
  | _, _, _ => False

theorem sat_loop {H : Heap} {w0 w : World} {R : LRec} {L : Nat} {st : LoopState} {pe : Option Code} (hs : St w0 H w) (h : hget H L = some (R.obj st pe)) : w.heap[L]? = some (.loop (R.loop st pe)) :=
  (hs.sat _ (hget_mem h)).2

theorem St.putLoop {w0 w : World} {H : Heap} (hs : St w0 H w) {R : LRec} {L : Nat} {st st' : LoopState} {pe pe' : Option Code} (h : hget H L = some (R.obj st pe)) :
    St w0 (hset H L (R.obj st' pe')) (w.putObj L (.loop (R.loop st' pe'))) :=
  hs.putObj (o' := .loop (R.loop st pe)) (by simp) (hget_mem h)

theorem foldl_set_get : ∀ (l : List (Nat × Value)) (tmps : Array Value) (r : List (Nat × Value)), (∀ t v, lk t r = some v → tmps[t]? = some v) → (∀ p ∈ l, p.1 < tmps.size) →
    ∀ t v, lk t (l.reverse ++ r) = some v → (l.foldl (fun tm (p : Nat × Value) => tm.setIfInBounds p.1 p.2) tmps)[t]? = some v := by
  intro l
  induction l with
  | nil => intro tmps r h _ t v hv; exact h t v (by simpa using hv)
  | cons p l ih =>
    intro tmps r h hl t v hv
    obtain ⟨k, u⟩ := p
    have hk : k < tmps.size := hl (k, u) (by simp)
    refine ih (tmps.setIfInBounds k u) ((k, u) :: r) ?_ (fun q hq => by simpa using hl q (List.mem_cons_of_mem _ hq)) t v (by simpa using hv)
    intro t' v' hv'
    simp only [lk] at hv'
    split at hv'
    · rename_i he; cases hv'; subst he
      simp [hk]
    · rename_i he
      rw [Array.getElem?_setIfInBounds_ne he]
      exact h t' v' hv'

theorem size_foldl_set : ∀ (l : List (Nat × Value)) (tmps : Array Value), (l.foldl (fun tm (p : Nat × Value) => tm.setIfInBounds p.1 p.2) tmps).size = tmps.size := by
  intro l
  induction l with
  | nil => intro tmps; rfl
  | cons p l ih => intro tmps; simp only [List.foldl_cons]; rw [ih]; simp

theorem ARound.mono {P : Program} {w0 : World} {l : Nat} {f : FuncId} {tmps : Array Value} {asg body : Code} {H : Heap} {K K' : Value → Heap → Prop} (h : ARound P w0 l f tmps asg body H K) (hk : ∀ v H', K v H' → K' v H') : ARound P w0 l f tmps asg body H K' :=
  fun w hs => (h w hs).mono fun _ _ ⟨v, H', h1, h2, h3⟩ => ⟨v, H', h1, hk _ _ h2, h3⟩

theorem VCall.mono {P : Program} {w0 : World} {f : Value} {args : List Value} {H : Heap} {K K' : Value → Heap → Prop} (h : VCall P w0 f args H K) (hk : ∀ v H', K v H' → K' v H') : VCall P w0 f args H K' := by
  refine RunTo.mono h ?_
  intro nx H' hh
  cases nx <;> first
    | exact hk _ _ hh
    | exact ACall.mono hh hk
    | exact ARound.mono hh hk
    | exact hh

theorem VCall.sub {P : Program} {w0 : World} {f : Value} {args : List Value} {H H2 : Heap} {K : Value → Heap → Prop} (h : VCall P w0 f args H2 K) (hs : ∀ p ∈ H2, p ∈ H) : VCall P w0 f args H K :=
  fun w hw => h w (hw.sub hs)

/-- **A CALL OF yield**: a round. -/
theorem vcall_yield {P : Program} {w0 : World} {O : List FuncId} {n : Nat} {sa sb : SCode} {ps : List Nat} {r : List (Nat × Value)} {R : LRec} {L : Nat} {args : List Value} {H : Heap} {K : Value → Heap → Prop}
    (hR : LOk P O n sa sb ps r R) (hL : hget H L = some (R.obj .ready none)) (hlen : args.length = ps.length) (hps : ps.all (fun t => decide (t < n)) = true)
    (h : aw P w0 O n (some L) sa (thn (fun e1 H1 => hget H1 L = some (R.obj .ready none) ∧ aw P w0 O n (some L) sb (rdPost R L K) e1 (hset H1 L (R.obj .busy none))) (fun _ _ _ => False)) ⟨(ps.zip args).reverse ++ r, []⟩ H) :
    VCall P w0 (.func (.yield L) #[] #[]) args H K := by
  unfold VCall
  simp only [Deferred.ofValue, pure_bind, invoke]
  intro w hs
  have hw := sat_loop hs hL
  have hsz : (#[] ++ args.toArray ++ #[]).size = (R.loop .ready none).params.size := by simp [LRec.loop, hR.ps, hlen]
  refine ⟨_, H, w, run_yield hw (by simpa using hsz), ?_, hs⟩
  show ARound P w0 L _ _ _ _ H K
  intro w hs
  refine roundIn_of_wpIn trivial ?_
  have hsw := aw_sound sa _ _ _ h R.a hR.ca
  have hzip : (((R.loop .ready none).params.zip (#[] ++ args.toArray ++ #[])).foldl (fun tmps (x : Nat × Value) => tmps.setIfInBounds x.1 x.2) R.tmps) = (ps.zip args).foldl (fun tm (p : Nat × Value) => tm.setIfInBounds p.1 p.2) R.tmps := by
    simp [LRec.loop, hR.ps, ← Array.foldl_toList]
  have he : EnvOk n ⟨(ps.zip args).reverse ++ r, []⟩ { tmps := (ps.zip args).foldl (fun tm (p : Nat × Value) => tm.setIfInBounds p.1 p.2) R.tmps, defers := [] } := by
    refine ⟨by rw [size_foldl_set]; exact hR.size, ?_, rfl⟩
    refine foldl_set_get _ _ _ hR.get fun p hp => ?_
    rw [hR.size]
    have := List.all_eq_true.1 hps p.1 (List.of_mem_zip (a := p.1) (b := p.2) hp).1
    simpa using this
  have hwp := hsw w _ hs he
  rw [← hzip] at hwp
  refine wpIn_mono (F := Fr (some L)) hwp ?_
  rintro ex a1 w1 ⟨e1, H1, hq, hs1, he1⟩
  cases ex with
  | normal =>
    obtain ⟨hL1, hb⟩ := hq
    refine ⟨_, run_beginRound (sat_loop hs1 hL1) rfl, ?_⟩
    have hs2 : St w0 (hset H1 L (R.obj .busy none)) (w1.putObj L (.loop { R.loop .ready none with state := .busy })) := hs1.putLoop (st' := .busy) (pe' := none) hL1
    refine wpIn_mono (F := Fr (some L)) (aw_sound sb _ _ _ hb R.b hR.cb _ _ hs2 he1) ?_
    have fin : ∀ (jump : Option Code) (st : LoopState) (H3 : Heap) (w3 : World), (if jump.isNone then LoopState.ready else LoopState.done) = st → St w0 H3 w3 → hget H3 L = some (R.obj .busy none) → K (.bool jump.isNone) (hset H3 L (R.obj st jump)) →
        ∃ v w', (Instr.endRound L jump).run P w3 = .ok v w' ∧ ∃ v' H', Ending.returned v = Ending.returned v' ∧ K v' H' ∧ St w0 H' w' := by
      intro jump st H3 w3 hst hs3 hL3 hk
      subst hst
      exact ⟨_, _, run_endRound jump (sat_loop hs3 hL3), _, _, rfl, hk, hs3.putLoop hL3⟩
    rintro ex a3 w3 ⟨e3, H3, hq3, hs3, _⟩
    cases ex with
    | normal => exact fin none _ H3 w3 rfl hs3 hq3.1 hq3.2
    | ret => exact fin (some .ret) _ H3 w3 rfl hs3 hq3.1 hq3.2
    | exit id => exact fin (some (.exit id)) _ H3 w3 rfl hs3 hq3.1 hq3.2
    | goto t => exact fin (some (.goto t)) _ H3 w3 rfl hs3 hq3.1 hq3.2
    | panic ch => exact hq3.elim
    | outgrown => exact hq3.elim
  | _ => exact hq.elim

/-- What is asked when the function that was ranged over has ended. -/
def rfPost (R : LRec) (L : Nat) (Q : Exit → Env → Heap → Prop) (e2 : Env) (H2 : Heap) : Prop :=
  (hget H2 L = some (R.obj .ready none) ∧ ∃ H3, (∀ p ∈ H3, p ∈ H2 ∧ ¬ p.1 = L) ∧ Q .normal e2 H3) ∨
  (hget H2 L = some (R.obj .done (some .ret)) ∧ ∃ H3, (∀ p ∈ H3, p ∈ H2 ∧ ¬ p.1 = L) ∧ Q .ret e2 H3) ∨
  (∃ id, hget H2 L = some (R.obj .done (some (.exit id))) ∧ ∃ H3, (∀ p ∈ H3, p ∈ H2 ∧ ¬ p.1 = L) ∧ Q (.exit id) e2 H3) ∨
  (∃ l, hget H2 L = some (R.obj .done (some (.goto l))) ∧ ∃ H3, (∀ p ∈ H3, p ∈ H2 ∧ ¬ p.1 = L) ∧ Q (.goto l) e2 H3)

theorem hset_keep {H : Heap} {b : Nat} {x : Blk} {H3 : Heap} (h : ∀ p ∈ H3, p ∈ H ∧ ¬ p.1 = b) : ∀ p ∈ H3, p ∈ hset H b x := fun p hp => hset_other_mem (h p hp).1 (h p hp).2

/-- **A RANGE OVER A FUNCTION**, outside of any round. -/
theorem SWS.rfun {P : Program} {w0 : World} {O : List FuncId} {n : Nat} {Q : Exit → Env → Heap → Prop} {e : Env} {H : Heap} {f : Operand} {ps : List Nat} {sa sb : SCode} {gf : FuncId} {gfn : Func} {lb : Array Value}
    (hf : ev e f = some (.func (.func gf) #[] lb)) (hg : P.funcs[gf]? = some gfn) (hb : gfn.body.isSome = true) (hnm : (gfn.name == "runtime.NumGoroutine") = false)
    (h : ∀ R D L, LOk P O n sa sb ps e.r R → R.D = D → ¬ D < w0.heap.size → ¬ L < w0.heap.size → NotIn D H → NotIn L ((D, .obj (.deferred (some []))) :: H) →
      ACall P w0 gf (#[.func (.yield L) #[] #[]] ++ lb) ((L, R.obj .ready none) :: (D, .obj (.deferred (some []))) :: H) (fun _ H2 => rfPost R L Q ⟨e.r, D :: e.m⟩ H2)) :
    SWS P w0 O n none (.rfun f ps sa sb) Q e H := by
  intro c hc
  obtain ⟨a, b, rfl, ha, hbb⟩ := made hc
  intro w act hs he
  refine wpIn_rangeFunc (F := Fr none) ?_
  intro fn hfn
  have hcall : ∀ args w, (callFunc gf args).run P w = .ok (.enter gf args) w := by
    intro args w
    have : gfn.body.isNone = false := by cases hh : gfn.body <;> simp_all
    simp only [callFunc, program, Sem.run_bind, Sem.run, Result.andThen, hg, hnm, this, Bool.false_eq_true, if_false]
    rfl
  have hev : act.eval f = .func (.func gf) #[] lb := he.agree _ _ hf
  obtain ⟨R, hRR⟩ : ∃ R : LRec, R = ⟨fn, act.tmps, ps, a, b, w.heap.size⟩ := ⟨_, rfl⟩
  have hok : LOk P O n sa sb ps e.r R := by subst hRR; exact ⟨he.size, he.get, rfl, ha, hbb⟩
  have hs1 : St w0 ((w.heap.size, .obj (.deferred (some []))) :: H) (w.alloc (.deferred (some []))) := hs.alloc _ (.obj (.deferred (some []))) ⟨by simp, World.alloc_heap_new _ _⟩
  have hf1 := hs1.fresh
  have hs2 := hs1.alloc (.loop (R.loop .ready none)) (R.obj .ready none) ⟨by simp, World.alloc_heap_new _ _⟩
  rw [World.size_alloc] at hs2 hf1
  have hloop : ({ state := .ready, pending := none, fn := fn, tmps := act.tmps, params := ps.toArray, assign := a, body := b, defers := w.heap.size } : Loop) = R.loop .ready none := by subst hRR; rfl
  refine ⟨w.heap.size + 1, [{ target := .collected w.heap.size, args := #[] }], (w.alloc (.deferred (some []))).alloc (.loop (R.loop .ready none)), { target := .fn (.func gf) lb, args := #[.func (.yield (w.heap.size + 1)) #[] #[]] }, (w.alloc (.deferred (some []))).alloc (.loop (R.loop .ready none)), gf,
    #[.func (.yield (w.heap.size + 1)) #[] #[]] ++ lb, (w.alloc (.deferred (some []))).alloc (.loop (R.loop .ready none)), ?_, ?_, ?_, ?_, fun hh => by simp [Fr, Fence.wide] at hh, ?_⟩
  · rw [← hloop]; exact run_enterLoop_outer _ _ _ _ _
  · simp only [resolve, hev]
    simp [go_sem]
  · intro f' hf'; trivial
  · simp [invoke, go_sem, hcall]
  · have hcl := h R w.heap.size (w.heap.size + 1) hok (by subst hRR; rfl) (Nat.not_lt.2 hs.fresh.1) (by have := hs.fresh.1; omega) (notIn_of hs.fresh.2) (notIn_of hf1.2) _ hs2
    refine CallsIn.mono (F := Fr none) hcl ?_
    rintro e2 W2 ⟨v, H2, rfl, hpost, hst⟩
    have henv : EnvOk n ⟨e.r, w.heap.size :: e.m⟩ { act with defers := [{ target := .collected w.heap.size, args := #[] }] ++ act.defers } := ⟨he.size, he.get, by simp [markOf, he.defers]⟩
    have fin : ∀ (st : LoopState) (pe : Option Code) (H3 : Heap), hget H2 (w.heap.size + 1) = some (R.obj st pe) → st ≠ .busy → (∀ p ∈ H3, p ∈ H2 ∧ ¬ p.1 = w.heap.size + 1) →
        (Instr.endLoop (w.heap.size + 1)).run P W2 = .ok pe (W2.putObj (w.heap.size + 1) (.loop (R.loop .exhausted pe))) ∧ St w0 H3 (W2.putObj (w.heap.size + 1) (.loop (R.loop .exhausted pe))) := by
      intro st pe H3 hL hst' hk
      exact ⟨run_endLoop (sat_loop hst hL) hst', (hst.putLoop (st' := .exhausted) (pe' := pe) hL).sub (hset_keep hk)⟩
    rcases hpost with ⟨hL, H3, hk, hq⟩ | ⟨hL, H3, hk, hq⟩ | ⟨id, hL, H3, hk, hq⟩ | ⟨l, hL, H3, hk, hq⟩
    · obtain ⟨h1, h2⟩ := fin _ _ H3 hL (by simp) hk
      exact ⟨none, _, h1, ⟨_, H3, hq, h2, henv⟩⟩
    · obtain ⟨h1, h2⟩ := fin _ _ H3 hL (by simp) hk
      exact ⟨_, _, h1, wpIn_ret ⟨_, H3, hq, h2, henv⟩⟩
    · obtain ⟨h1, h2⟩ := fin _ _ H3 hL (by simp) hk
      exact ⟨_, _, h1, wpIn_exit ⟨_, H3, hq, h2, henv⟩⟩
    · obtain ⟨h1, h2⟩ := fin _ _ H3 hL (by simp) hk
      exact ⟨_, _, h1, wpIn_goto ⟨_, H3, hq, h2, henv⟩⟩
/-- **A RANGE OVER A FUNCTION**, within a round. -/
theorem SWS.rfunIn {P : Program} {w0 : World} {O : List FuncId} {n : Nat} {Q : Exit → Env → Heap → Prop} {e : Env} {H : Heap} {f : Operand} {ps : List Nat} {sa sb : SCode} {gf : FuncId} {gfn : Func} {lb : Array Value} {l0 : Nat} {R0 : LRec} {st0 : LoopState} {pe0 : Option Code} (hl0 : hget H l0 = some (R0.obj st0 pe0))
    (hf : ev e f = some (.func (.func gf) #[] lb)) (hg : P.funcs[gf]? = some gfn) (hb : gfn.body.isSome = true) (hnm : (gfn.name == "runtime.NumGoroutine") = false)
    (h : ∀ R L, LOk P O n sa sb ps e.r R → ¬ L < w0.heap.size → NotIn L H →
      ACall P w0 gf (#[.func (.yield L) #[] #[]] ++ lb) ((L, R.obj .ready none) :: H) (fun _ H2 => rfPost R L Q ⟨e.r, e.m⟩ H2)) :
    SWS P w0 O n (some l0) (.rfun f ps sa sb) Q e H := by
  intro c hc
  obtain ⟨a, b, rfl, ha, hbb⟩ := made hc
  intro w act hs he
  refine wpIn_rangeFunc (F := Fr (some l0)) ?_
  intro fn hfn
  have hcall : ∀ args w, (callFunc gf args).run P w = .ok (.enter gf args) w := by
    intro args w
    have : gfn.body.isNone = false := by cases hh : gfn.body <;> simp_all
    simp only [callFunc, program, Sem.run_bind, Sem.run, Result.andThen, hg, hnm, this, Bool.false_eq_true, if_false]
    rfl
  have hev : act.eval f = .func (.func gf) #[] lb := he.agree _ _ hf
  obtain ⟨R, hRR⟩ : ∃ R : LRec, R = ⟨fn, act.tmps, ps, a, b, R0.D⟩ := ⟨_, rfl⟩
  have hok : LOk P O n sa sb ps e.r R := by subst hRR; exact ⟨he.size, he.get, rfl, ha, hbb⟩
  have hf1 := hs.fresh
  have hs2 := hs.alloc (.loop (R.loop .ready none)) (R.obj .ready none) ⟨by simp, World.alloc_heap_new _ _⟩
  have hloop : ({ state := .ready, pending := none, fn := fn, tmps := act.tmps, params := ps.toArray, assign := a, body := b, defers := R0.D } : Loop) = R.loop .ready none := by subst hRR; rfl
  refine ⟨w.heap.size, [], w.alloc (.loop (R.loop .ready none)), { target := .fn (.func gf) lb, args := #[.func (.yield (w.heap.size)) #[] #[]] }, w.alloc (.loop (R.loop .ready none)), gf,
    #[.func (.yield (w.heap.size)) #[] #[]] ++ lb, w.alloc (.loop (R.loop .ready none)), ?_, ?_, ?_, ?_, fun hh => by simp [Fr, Fence.wide] at hh, ?_⟩
  · rw [← hloop]; exact run_enterLoop_inner (sat_loop hs hl0) _ _ _ _ _
  · simp only [resolve, hev]
    simp [go_sem]
  · intro f' hf'; trivial
  · simp [invoke, go_sem, hcall]
  · have hcl := h R w.heap.size hok (Nat.not_lt.2 hs.fresh.1) (notIn_of hs.fresh.2) _ hs2
    refine CallsIn.mono (F := Fr (some l0)) hcl ?_
    rintro e2 W2 ⟨v, H2, rfl, hpost, hst⟩
    have henv : EnvOk n ⟨e.r, e.m⟩ { act with defers := [] ++ act.defers } := ⟨he.size, he.get, by simp [he.defers]⟩
    have fin : ∀ (st : LoopState) (pe : Option Code) (H3 : Heap), hget H2 (w.heap.size) = some (R.obj st pe) → st ≠ .busy → (∀ p ∈ H3, p ∈ H2 ∧ ¬ p.1 = w.heap.size) →
        (Instr.endLoop (w.heap.size)).run P W2 = .ok pe (W2.putObj (w.heap.size) (.loop (R.loop .exhausted pe))) ∧ St w0 H3 (W2.putObj (w.heap.size) (.loop (R.loop .exhausted pe))) := by
      intro st pe H3 hL hst' hk
      exact ⟨run_endLoop (sat_loop hst hL) hst', (hst.putLoop (st' := .exhausted) (pe' := pe) hL).sub (hset_keep hk)⟩
    rcases hpost with ⟨hL, H3, hk, hq⟩ | ⟨hL, H3, hk, hq⟩ | ⟨id, hL, H3, hk, hq⟩ | ⟨l, hL, H3, hk, hq⟩
    · obtain ⟨h1, h2⟩ := fin _ _ H3 hL (by simp) hk
      exact ⟨none, _, h1, ⟨_, H3, hq, h2, henv⟩⟩
    · obtain ⟨h1, h2⟩ := fin _ _ H3 hL (by simp) hk
      exact ⟨_, _, h1, wpIn_ret ⟨_, H3, hq, h2, henv⟩⟩
    · obtain ⟨h1, h2⟩ := fin _ _ H3 hL (by simp) hk
      exact ⟨_, _, h1, wpIn_exit ⟨_, H3, hq, h2, henv⟩⟩
    · obtain ⟨h1, h2⟩ := fin _ _ H3 hL (by simp) hk
      exact ⟨_, _, h1, wpIn_goto ⟨_, H3, hq, h2, henv⟩⟩

/-- At the end of a function with one mark. -/
theorem ends_mark {K : Value → Heap → Prop} {r : List (Nat × Value)} {v : Value} {D : Nat} {H : Heap} (H2 : Heap) (hD : (D, Blk.obj (.deferred (some []))) ∈ H) (hs : ∀ p ∈ H2, p ∈ H) (hn : NotIn D H2) (h : K v H2) : ends K ⟨r, [D]⟩ H v :=
  ⟨H2, hs, ⟨by simpa using ⟨hD, hn.keys⟩, by simp⟩, h⟩

end Go.SL
