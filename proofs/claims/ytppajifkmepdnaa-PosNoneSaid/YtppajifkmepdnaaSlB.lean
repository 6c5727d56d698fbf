/- The walk over a function's body, said over points-to facts: regions, branches, loops, calls. No program in sight. -/
import Derived.Test.YtppajifkmepdnaaSlA
set_option linter.unusedSimpArgs false
set_option linter.unusedVariables false
namespace Go.SL
open Go.RowKit

/-- What is known of a frame: of some temporaries what they hold; which marks lie among its deferred calls. -/
structure Env where
  r : List (Nat × Value)
  m : List Nat

def lk (t : Nat) : List (Nat × Value) → Option Value
  | [] => none
  | (k, v) :: r => if k = t then some v else lk t r

def Env.put (e : Env) (d : Option Tmp) (v : Value) : Env :=
  match d with
  | some d => ⟨(d, v) :: e.r, e.m⟩
  | none => e

def markOf (r : Nat) : Deferred := { target := .collected r, args := #[] }

structure EnvOk (n : Nat) (e : Env) (a : Act) : Prop where
  size : a.tmps.size = n
  get : ∀ t v, lk t e.r = some v → a.tmps[t]? = some v
  defers : a.defers = e.m.map markOf

def ev (e : Env) : Operand → Option Value
  | .tmp t => lk t e.r
  | .const v => some v
  | .global g => some (.pointer (some ⟨g, 0, none⟩))
  | .func f => some (.func (.func f) #[] #[])

def Agree (e : Env) (ρ : Operand → Value) : Prop := ∀ x v, ev e x = some v → ρ x = v

theorem EnvOk.agree {n : Nat} {e : Env} {a : Act} (h : EnvOk n e a) : Agree e a.eval := by
  intro x v hx
  cases x with
  | tmp t => have := h.get t v hx; simp [Act.eval, this]
  | const u => simpa [ev, Act.eval] using hx
  | global g => simpa [ev, Act.eval] using hx
  | func f => simpa [ev, Act.eval] using hx

theorem EnvOk.put {n : Nat} {e : Env} {a : Act} (h : EnvOk n e a) (d : Option Tmp) (hd : ∀ x, d = some x → x < n) (v : Value) : EnvOk n (e.put d v) (a.put d v) := by
  cases d with
  | none => exact h
  | some d =>
    refine ⟨by simpa [Act.put] using h.size, fun t u ht => ?_, h.defers⟩
    have hdn : d < a.tmps.size := by rw [h.size]; exact hd d rfl
    simp only [Env.put, lk] at ht
    split at ht
    · rename_i e1; cases ht; subst e1; simp [Act.put, hdn]
    · rename_i e1; simp only [Act.put]; rw [Array.getElem?_setIfInBounds_ne e1]; exact h.get t u ht

theorem EnvOk.sub {n : Nat} {e e' : Env} {a : Act} (h : EnvOk n e a) (hm : e'.m = e.m) (hs : ∀ t v, lk t e'.r = some v → lk t e.r = some v) : EnvOk n e' a :=
  ⟨h.size, fun t v ht => h.get t v (hs t v ht), by rw [hm]; exact h.defers⟩

def Fr (r : Option Nat) : Fence := { Fence.wide with round := r }

theorem Fr_none : Fr none = Fence.wide := rfl

/-- A call of function f: it returns, and what it hands back and leaves meets K. -/
def ACall (P : Program) (w0 : World) (f : FuncId) (args : Array Value) (H : Heap) (K : Value → Heap → Prop) : Prop :=
  ∀ w, St w0 H w → CallsIn Fence.wide 0 P f args w fun e w' => ∃ v H', e = .returned v ∧ K v H' ∧ St w0 H' w'

def ARound (P : Program) (w0 : World) (l : Nat) (f : FuncId) (tmps : Array Value) (assign body : Code) (H : Heap) (K : Value → Heap → Prop) : Prop :=
  ∀ w, St w0 H w → RoundIn Fence.wide 0 P l f tmps assign body w fun e w' => ∃ v H', e = .returned v ∧ K v H' ∧ St w0 H' w'

theorem ACall.mono {P : Program} {w0 : World} {f : FuncId} {args : Array Value} {H : Heap} {K K' : Value → Heap → Prop} (h : ACall P w0 f args H K)
    (hk : ∀ v H', K v H' → K' v H') : ACall P w0 f args H K' :=
  fun w hs => (h w hs).mono fun _ _ ⟨v, H', h1, h2, h3⟩ => ⟨v, H', h1, hk _ _ h2, h3⟩

theorem ACall.sub {P : Program} {w0 : World} {f : FuncId} {args : Array Value} {H H2 : Heap} {K : Value → Heap → Prop} (h : ACall P w0 f args H2 K)
    (hs : ∀ p ∈ H2, p ∈ H) : ACall P w0 f args H K :=
  fun w hw => h w (hw.sub hs)

/-- What comes behind an operation's run. -/
def aft (P : Program) (w0 : World) (dst : Option Tmp) (e : Env) (K : Env → Heap → Prop) : Next → Heap → Prop
  | .value v, H => K (e.put dst v) H
  | .skip, H => K (e.put dst undef) H
  | .enter f args, H => ACall P w0 f args H fun v H' => K (e.put dst v) H'
  | .round l f tmps asg body, H => ARound P w0 l f tmps asg body H fun v H' => K (e.put dst v) H'
  | _, _ => False

/-- From whatever world meets the facts, s runs to its end, and K holds of what it comes to. -/
def RunTo (P : Program) (w0 : World) {α : Type} (s : Sem α) (H : Heap) (K : α → Heap → Prop) : Prop :=
  ∀ w, St w0 H w → ∃ x H' w', s.run P w = .ok x w' ∧ K x H' ∧ St w0 H' w'

theorem RunTo.of_abs {P : Program} {w0 : World} {α : Type} {s : Sem α} {H : Heap} {K : α → Heap → Prop} (h : absRun P w0 s H K) : RunTo P w0 s H K :=
  fun _ hs => absRun_sound _ _ _ _ h hs

theorem RunTo.of_run {P : Program} {w0 : World} {α : Type} {s : Sem α} {H : Heap} {K : α → Heap → Prop} {x : α} (h : ∀ w, s.run P w = .ok x w) (hk : K x H) : RunTo P w0 s H K :=
  fun w hs => ⟨x, H, w, h w, hk, hs⟩

def absOp (P : Program) (w0 : World) (r : Option Nat) (o : Oper) (e : Env) (H : Heap) (K : Env → Heap → Prop) : Prop :=
  ∀ ρ, Agree e ρ → RunTo P w0 (o.semAt r ρ) H (aft P w0 o.dst e K)

def absOpG (P : Program) (w0 : World) (r : Option Nat) (ops : Array Oper) (i : Nat) (e : Env) (H : Heap) (K : Env → Heap → Prop) : Prop :=
  match ops[i]? with
  | none => K e H
  | some o =>
    match o.guard with
    | none => absOp P w0 r o e H K
    | some (j, want) => ∃ t b, (ops[j]?).bind (·.dst) = some t ∧ lk t e.r = some (.bool b) ∧
        ((b = want → absOp P w0 r o e H K) ∧ (b ≠ want → K (e.put o.dst undef) H))

def absOps (P : Program) (w0 : World) (r : Option Nat) (ops : Array Oper) : List Nat → Env → Heap → (Env → Heap → Prop) → Prop
  | [], e, H, K => K e H
  | i :: l, e, H, K => absOpG P w0 r ops i e H fun e' H' => absOps P w0 r ops l e' H' K

def dstOk (n : Nat) (o : Oper) : Bool := match o.dst with | some d => decide (d < n) | none => true

theorem dstOk_lt {n : Nat} {o : Oper} (h : dstOk n o = true) : ∀ x, o.dst = some x → x < n := by
  intro x hx; simpa [dstOk, hx] using h

theorem absOp_sound {P : Program} {w0 : World} {r : Option Nat} {n : Nat} {o : Oper} {e : Env} {H : Heap} {K : Env → Heap → Prop} {a : Act} {w : World}
    {next : Act → World → Prop} {Q : Exit → Act → World → Prop} (hd : dstOk n o = true)
    (h : absOp P w0 r o e H K) (hs : St w0 H w) (he : EnvOk n e a)
    (hn : ∀ e' H' a' w', K e' H' → St w0 H' w' → EnvOk n e' a' → next a' w') : o.wpIn (Fr r) 0 P a w next Q := by
  refine ⟨fun _ _ => trivial, ?_⟩
  obtain ⟨x, H', w', hr, hk, hs'⟩ := h a.eval he.agree w hs
  show o.uponIn (Fr r) 0 P a next Q ((o.semAt r a.eval).run P w)
  rw [hr]
  cases x <;> simp only [aft] at hk
  case value v => exact hn _ _ _ _ hk hs' (he.put _ (dstOk_lt hd) v)
  case skip => exact hn _ _ _ _ hk hs' (he.put _ (dstOk_lt hd) undef)
  case enter f args =>
    refine ⟨fun hh => by simp [Fr, Fence.wide] at hh, ?_⟩
    refine CallsIn.mono (F := Fr r) (hk w' hs') ?_
    rintro e' w'' ⟨v, H'', rfl, hk', hs''⟩
    exact hn _ _ _ _ hk' hs'' (he.put _ (dstOk_lt hd) v)
  case round l f tmps asg body =>
    refine ⟨fun hh => by simp [Fr, Fence.wide] at hh, ?_⟩
    refine RoundIn.mono (F := Fr r) (hk w' hs') ?_
    rintro e' w'' ⟨v, H'', rfl, hk', hs''⟩
    exact hn _ _ _ _ hk' hs'' (he.put _ (dstOk_lt hd) v)

theorem absOps_sound {P : Program} {w0 : World} {r : Option Nat} {n : Nat} {ops : Array Oper} {Q : Exit → Act → World → Prop} {K : Env → Heap → Prop}
    (hd : ∀ (i : Nat) (o : Oper), ops[i]? = some o → dstOk n o = true) (hn : ∀ e' H' a' w', K e' H' → St w0 H' w' → EnvOk n e' a' → Q .normal a' w') :
    ∀ (l : List Nat) (e : Env) (H : Heap) (a : Act) (w : World), absOps P w0 r ops l e H K → St w0 H w → EnvOk n e a → wpOpsIn (Fr r) 0 P ops Q l a w := by
  intro l
  induction l with
  | nil => intro e H a w h hs he; exact hn _ _ _ _ h hs he
  | cons i l ih =>
    intro e H a w h hs he
    simp only [absOps, absOpG] at h
    unfold wpOpsIn
    cases ho : ops[i]? with
    | none => rw [ho] at h; exact ih _ _ _ _ h hs he
    | some o =>
      rw [ho] at h
      simp only at h ⊢
      cases hg : o.guard with
      | none =>
        rw [hg] at h
        have hw : Region.wanted o (yielded ops a.tmps) = true := by simp [Region.wanted, hg]
        simp only [hw, if_true]
        exact absOp_sound (hd i o ho) h hs he fun e' H' a' w' hk hs' he' => ih _ _ _ _ hk hs' he'
      | some jw =>
        obtain ⟨j, want⟩ := jw
        rw [hg] at h
        obtain ⟨t, b, ht, hb, h1, h2⟩ := h
        have hy : yielded ops a.tmps j = some b := by
          unfold yielded
          rw [ht]
          simp [he.get t _ hb]
        have hwd : Region.wanted o (yielded ops a.tmps) = (b == want) := by simp [Region.wanted, hg, hy]
        rw [hwd]
        by_cases hbw : b = want
        · simp only [hbw, beq_self_eq_true, if_true]
          exact absOp_sound (hd i o ho) (h1 hbw) hs he fun e' H' a' w' hk hs' he' => ih _ _ _ _ hk hs' he'
        · have : (b == want) = false := by simpa using hbw
          simp only [this, Bool.false_eq_true, if_false]
          exact ⟨fun _ _ => trivial, ih _ _ _ _ (h2 hbw) hs (he.put _ (dstOk_lt (hd i o ho)) undef)⟩

/-- The walk's own word: from whatever world and frame meet what is known, the code ends as Q says. -/
def SW (P : Program) (w0 : World) (n : Nat) (r : Option Nat) (c : Code) (Q : Exit → Env → Heap → Prop) (e : Env) (H : Heap) : Prop :=
  ∀ w a, St w0 H w → EnvOk n e a → c.wpIn (Fr r) 0 P (fun ex a' w' => ∃ e' H', Q ex e' H' ∧ St w0 H' w' ∧ EnvOk n e' a') a w

section rules
variable {P : Program} {w0 : World} {n : Nat} {r : Option Nat} {Q : Exit → Env → Heap → Prop} {e : Env} {H : Heap}

theorem SW.mono {c : Code} {Q' : Exit → Env → Heap → Prop} (h : SW P w0 n r c Q e H) (hq : ∀ ex e' H', Q ex e' H' → Q' ex e' H') : SW P w0 n r c Q' e H :=
  fun w a hs he => wpIn_mono (h w a hs he) fun _ _ _ ⟨e', H', q, s, k⟩ => ⟨e', H', hq _ _ _ q, s, k⟩

theorem SW.weak {c : Code} {e2 : Env} {H2 : Heap} (h : SW P w0 n r c Q e2 H2) (hm : e2.m = e.m) (hs : ∀ t v, lk t e2.r = some v → lk t e.r = some v) (hh : ∀ p ∈ H2, p ∈ H) :
    SW P w0 n r c Q e H :=
  fun w a hw he => h w a (hw.sub hh) (he.sub hm hs)

theorem SW.skip (h : Q .normal e H) : SW P w0 n r .skip Q e H := fun _ _ hs he => wpIn_skip ⟨e, H, h, hs, he⟩
theorem SW.label {l : Nat} (h : Q .normal e H) : SW P w0 n r (.label l) Q e H := fun _ _ hs he => wpIn_label ⟨e, H, h, hs, he⟩
theorem SW.exit {id : Nat} (h : Q (.exit id) e H) : SW P w0 n r (.exit id) Q e H := fun _ _ hs he => wpIn_exit ⟨e, H, h, hs, he⟩
theorem SW.goto {l : Nat} (h : Q (.goto l) e H) : SW P w0 n r (.goto l) Q e H := fun _ _ hs he => wpIn_goto ⟨e, H, h, hs, he⟩
theorem SW.ret (h : Q .ret e H) : SW P w0 n r .ret Q e H := fun _ _ hs he => wpIn_ret ⟨e, H, h, hs, he⟩

def thn (K : Env → Heap → Prop) (Q : Exit → Env → Heap → Prop) : Exit → Env → Heap → Prop
  | .normal, e, H => K e H
  | ex, e, H => Q ex e H

theorem SW.seq {x y : Code} (h : SW P w0 n r x (thn (SW P w0 n r y Q) Q) e H) : SW P w0 n r (.seq x y) Q e H := by
  intro w a hs he
  refine wpIn_seq (wpIn_mono (h w a hs he) ?_)
  rintro ex a' w' ⟨e', H', q, hs', he'⟩
  cases ex with
  | normal => exact q w' a' hs' he'
  | _ => exact ⟨e', H', q, hs', he'⟩

theorem SW.cond {c : Operand} {x y : Code} {b : Bool} (hc : ev e c = some (.bool b)) (h1 : b = true → SW P w0 n r x Q e H) (h2 : b = false → SW P w0 n r y Q e H) :
    SW P w0 n r (.cond c x y) Q e H :=
  fun w a hs he => wpIn_cond_split (he.agree _ _ hc) (fun hb => h1 hb w a hs he) (fun hb => h2 hb w a hs he)

def inBlk (id : Nat) (Q : Exit → Env → Heap → Prop) : Exit → Env → Heap → Prop
  | .exit id', e, H => if id' = id then Q .normal e H else Q (.exit id') e H
  | ex, e, H => Q ex e H

theorem SW.block {id : Nat} {c : Code} (h : SW P w0 n r c (inBlk id Q) e H) : SW P w0 n r (.block id c) Q e H := by
  intro w a hs he
  refine wpIn_block (wpIn_mono (h w a hs he) ?_)
  rintro ex a' w' ⟨e', H', q, hs', he'⟩
  cases ex with
  | exit id' =>
    simp only [inBlk] at q
    simp only [Exit.inBlock]
    split
    · rename_i h1; rw [if_pos h1] at q; exact ⟨e', H', q, hs', he'⟩
    · rename_i h1; rw [if_neg h1] at q; exact ⟨e', H', q, hs', he'⟩
  | _ => exact ⟨e', H', q, hs', he'⟩

/-- A loop: what is known at its head is a function of a state of the prover's own; a measure of that state falls. -/
theorem SW.loop {σ : Type} {c : Code} (x0 : σ) (I : σ → Prop) (E : σ → Env) (HH : σ → Heap) (μ : σ → Nat)
    (h0 : I x0) (hm : (E x0).m = e.m) (he : ∀ t v, lk t (E x0).r = some v → lk t e.r = some v) (hh : ∀ p ∈ HH x0, p ∈ H)
    (round : ∀ x, I x → SW P w0 n r c (thn (fun e' H' => ∃ x', I x' ∧ μ x' < μ x ∧ (E x').m = e'.m ∧ (∀ t v, lk t (E x').r = some v → lk t e'.r = some v) ∧ ∀ p ∈ HH x', p ∈ H') Q) (E x) (HH x)) :
    SW P w0 n r (.loop c) Q e H := by
  intro w a hs hE b kk cs hro hb hr
  have key : ∀ k x, μ x = k → I x → ∀ w a, St w0 (HH x) w → EnvOk n (E x) a →
      ∃ ex a' w', (∃ e' H', Q ex e' H' ∧ St w0 H' w' ∧ EnvOk n e' a') ∧
        ArrivesIn (Machine.fenced P (Fr r)) P (lone (b.atR a (.code c :: .inLoop c :: kk)) cs w) b kk cs ex a' w' := by
    intro k
    induction k using Nat.strongRecOn with
    | _ k ih =>
      intro x hk hI w a hs hE
      obtain ⟨ex, a₁, w₁, ⟨e₁, H₁, hq, hs₁, he₁⟩, harr⟩ := round x hI w a hs hE b (.inLoop c :: kk) cs hro hb hr
      cases ex with
      | normal =>
        obtain ⟨x', hI', hlt, hm', hE', hH'⟩ := hq
        obtain ⟨e₂, a₂, w₂, hq₂, harr₂⟩ := ih (μ x') (hk ▸ hlt) x' rfl hI' w₁ a₁ (hs₁.sub hH') (he₁.sub hm' hE')
        exact ⟨e₂, a₂, w₂, hq₂, .of_steps (StepsIn.trans harr (.one (fenced_calm hb hr rfl) stepR_inLoop)) harr₂⟩
      | exit id => exact ⟨_, a₁, w₁, ⟨e₁, H₁, hq, hs₁, he₁⟩, .pass (x := .inLoop c) rfl (fun _ _ => .inl (by simp)) harr⟩
      | goto l => exact ⟨_, a₁, w₁, ⟨e₁, H₁, hq, hs₁, he₁⟩, .pass (x := .inLoop c) rfl (fun _ _ => .inl (by simp)) harr⟩
      | ret => exact ⟨_, a₁, w₁, ⟨e₁, H₁, hq, hs₁, he₁⟩, .pass (x := .inLoop c) rfl (fun _ _ => .inl (by simp)) harr⟩
      | panic ch => exact ⟨_, a₁, w₁, ⟨e₁, H₁, hq, hs₁, he₁⟩, .pass (x := .inLoop c) rfl (fun _ _ => .inl (by simp)) harr⟩
      | outgrown => exact ⟨_, a₁, w₁, ⟨e₁, H₁, hq, hs₁, he₁⟩, .pass (x := .inLoop c) rfl (fun _ _ => .inl (by simp)) harr⟩
  obtain ⟨ex, a', w', hq, harr⟩ := key _ x0 rfl h0 w a (hs.sub hh) (hE.sub hm he)
  exact ⟨ex, a', w', hq, .of_steps (.one (fenced_calm hb hr rfl) stepR_loop) harr⟩
theorem SW.region {id : Nat} {ops : Array Oper} (hd : ops.all (dstOk n) = true) (h : absOps P w0 r ops (List.range ops.size) e H (Q .normal)) :
    SW P w0 n r (.region id ops false) Q e H :=
  fun _ _ hs he => wpIn_region (absOps_sound (fun _ _ ho => Array.all_eq_true_iff_forall_mem.1 hd _ (Array.mem_of_getElem? ho))
    (fun e' H' _ _ hk hs' he' => ⟨e', H', hk, hs', he'⟩) _ _ _ _ _ h hs he)

end rules

/-! ### Leaving a function -/

/-- What a variable of type T at a holds. (agg, sz: of the type.) -/
def LoadV (w0 : World) (H : Heap) (agg : Bool) (sz : Nat) (a : Addr) (v : Value) : Prop :=
  if agg then ∃ cs : List Value, cs.length = sz ∧ v = .agg cs.toArray ∧ ∀ i x, cs[i]? = some x → HasCell w0 H (a.add i) x else HasCell w0 H a v

/-- What the type table says: is it a struct or an array; how many cells. -/
def tinfo (P : Program) (T : TypeId) : Option (Bool × Nat) :=
  match P.underlying T, P.info? T with
  | some d, some i => some ((match d with | .struct _ => true | .array _ _ => true | _ => false), i.size)
  | _, _ => none

def ResV (P : Program) (w0 : World) (e : Env) (H : Heap) : ResultVar → Value → Prop
  | .tmp t, v => lk t e.r = some v
  | .cell a T, v => ∃ ad agg sz, lk a e.r = some (.pointer (some ad)) ∧ tinfo P T = some (agg, sz) ∧ LoadV w0 H agg sz ad v

def tupleOf (vs : List Value) : Value :=
  match vs with
  | [v] => v
  | vs => .tuple vs.toArray

theorem run_loadCellsFrom {P : Program} {w : World} {a : Addr} : ∀ (cs : List Value) (i : Nat) (acc : Array Value), (∀ j x, cs[j]? = some x → w.cell? (a.add (i + j)) = some x) →
    (loadCellsFrom a i cs.length acc).run P w = .ok (acc ++ cs.toArray) w := by
  intro cs
  induction cs with
  | nil => intro i acc _; simp [loadCellsFrom]
  | cons c cs ih =>
    intro i acc h
    have h0 := h 0 c rfl
    have := ih (i + 1) (acc.push c) (fun j x hj => by have := h (j + 1) x hj; rwa [show i + (j + 1) = i + 1 + j from by omega] at this)
    simp only [List.length_cons, loadCellsFrom, Sem.run_bind]
    simp only [Nat.add_zero] at h0
    have hl : (load (a.add i)).run P w = .ok c w := by simp [load, Sem.run, h0]
    rw [hl]
    simp only [Result.andThen]
    rw [this]
    congr 1
    apply Array.ext'
    simp

theorem run_loadVar {P : Program} {w0 w : World} {H : Heap} {T : TypeId} {agg : Bool} {sz : Nat} {a : Addr} {v : Value} (hs : St w0 H w) (ht : tinfo P T = some (agg, sz)) (h : LoadV w0 H agg sz a v) :
    (loadVar T a).run P w = .ok v w := by
  unfold tinfo at ht
  split at ht
  · rename_i d i hd hi
    simp only [Option.some.injEq, Prod.mk.injEq] at ht
    obtain ⟨h1, h2⟩ := ht
    have hu : (underlying T).run P w = .ok d w := by simp [underlying, program, Sem.run, Sem.run_bind, Result.andThen, hd]
    have hz : (sizeOf T).run P w = .ok sz w := by simp [sizeOf, typeInfo, program, Sem.run, Sem.run_bind, Result.andThen, hi, h2]
    have ha : (isAgg T).run P w = .ok agg w := by
      simp only [isAgg, Sem.run_bind, hu, Result.andThen]
      cases d <;> simp_all
    unfold LoadV at h
    cases agg with
    | false =>
      simp only [Bool.false_eq_true, if_false] at h
      simp [loadVar, Sem.run_bind, ha, Result.andThen, load, Sem.run, hs.cell h]
    | true =>
      simp only [if_true] at h
      obtain ⟨cs, hl, rfl, hc⟩ := h
      have := run_loadCellsFrom (P := P) (w := w) (a := a) cs 0 #[] (fun j x hj => by rw [Nat.zero_add]; exact hs.cell (hc j x hj))
      simp only [loadVar, Sem.run_bind, ha, Result.andThen, if_true, hz, loadCells, ← hl, this]
      simp
  · cases ht

inductive All2 {α β : Type} (R : α → β → Prop) : List α → List β → Prop
  | nil : All2 R [] []
  | cons {a b as bs} : R a b → All2 R as bs → All2 R (a :: as) (b :: bs)

theorem run_results {P : Program} {w0 w : World} {H : Heap} {e : Env} {fn : Func} {tmps : Array Value} {vs : List Value} (hs : St w0 H w)
    (ht : ∀ t v, lk t e.r = some v → tmps[t]? = some v) (h : All2 (ResV P w0 e H) fn.results.toList vs) : (results fn tmps).run P w = .ok (tupleOf vs) w := by
  have key : ∀ (rs : List ResultVar) (vs : List Value), All2 (ResV P w0 e H) rs vs →
      (rs.mapM (m := Sem) fun | .tmp t => pure (tmps.getD t undef) | .cell a t => do loadVar t (← asAddr (tmps.getD a undef))).run P w = .ok vs w := by
    intro rs vs h
    induction h with
    | nil => simp
    | cons h1 h2 ih =>
      rename_i a b as bs
      have one : Sem.run P ((fun | .tmp t => pure (tmps.getD t undef) | .cell a t => do loadVar t (← asAddr (tmps.getD a undef)) : ResultVar → Sem Value) a) w = .ok b w := by
        cases a with
        | tmp t =>
          have := ht t b h1
          simp [this]
        | cell t T =>
          obtain ⟨ad, agg, sz, h3, h4, h5⟩ := h1
          have := ht t _ h3
          simp [this, asAddr, run_loadVar hs h4 h5]
      rw [List.mapM_cons, Sem.run_bind, one]
      simp only [Result.andThen]
      rw [Sem.run_bind, ih]
      rfl
  have := key _ _ h
  have hm : Sem.run P (fn.results.mapM (m := Sem) fun | .tmp t => pure (tmps.getD t undef) | .cell a t => do loadVar t (← asAddr (tmps.getD a undef))) w = .ok vs.toArray w := by
    rw [Array.mapM_eq_mapM_toList, map_eq_pure_bind, Sem.run_bind, this]
    rfl
  have hf : ∀ (vs : List Value), (if h : vs.toArray.size = 1 then vs.toArray[0] else Value.tuple vs.toArray) = tupleOf vs := by
    intro vs
    match vs with
    | [] => rfl
    | [v] => rfl
    | a :: b :: l => simp [tupleOf]
  unfold results
  rw [Sem.run_bind]
  refine Eq.trans (congrArg (fun x : Result (Array Value) => x.andThen fun a w' => Sem.run P (pure (if h : a.size = 1 then a[0] else Value.tuple a)) w') hm) ?_
  simp only [Result.andThen, Sem.run_pure]
  rw [hf]

/-- What is asked at a function's end. -/
def exitPost (P : Program) (w0 : World) (rs : Array ResultVar) (K : Value → Heap → Prop) (ex : Exit) (e : Env) (H : Heap) : Prop :=
  (ex = .normal ∨ ex = .ret) ∧ ∃ vs H2, All2 (ResV P w0 e H) rs.toList vs ∧ (∀ p ∈ H2, p ∈ H) ∧ (∀ r ∈ e.m, (r, Blk.obj (.deferred (some []))) ∈ H ∧ r ∉ keys H2) ∧ K (tupleOf vs) H2


theorem hset_cells {w0 w : World} {H : Heap} (hs : St w0 H w) {r : Nat} {o o' : Obj} (hm : (r, Blk.obj o) ∈ H) {a : Addr} {v : Value} (h : HasCell w0 H a v) :
    HasCell w0 (hset H r (.obj o')) a v := by
  obtain ⟨hsp, h | ⟨c, size, hc, hv⟩⟩ := h
  · exact ⟨hsp, .inl h⟩
  · refine ⟨hsp, .inr ⟨c, size, List.mem_map.2 ⟨_, hc, ?_⟩, hv⟩⟩
    have hne : a.block ≠ r := by
      intro heq
      obtain ⟨cs, e, fr, hh, _⟩ := hs.sat _ hc
      obtain ⟨hn, hh2⟩ := hs.sat _ hm
      simp only at hh hh2
      rw [heq, hh2] at hh
      cases hh
      exact hn _ _ _ rfl
    simp [hne]

theorem hset_loadV {w0 w : World} {H : Heap} (hs : St w0 H w) {r : Nat} {o o' : Obj} (hm : (r, Blk.obj o) ∈ H) {agg : Bool} {sz : Nat} {a : Addr} {v : Value} (h : LoadV w0 H agg sz a v) :
    LoadV w0 (hset H r (.obj o')) agg sz a v := by
  unfold LoadV at *
  cases agg with
  | false => simp only [Bool.false_eq_true, if_false] at *; exact hset_cells hs hm h
  | true =>
    simp only [if_true] at *
    obtain ⟨cs, h1, h2, h3⟩ := h
    exact ⟨cs, h1, h2, fun i x hx => hset_cells hs hm (h3 i x hx)⟩

theorem All2.imp {α β : Type} {R R' : α → β → Prop} (h : ∀ a b, R a b → R' a b) {as : List α} {bs : List β} (hh : All2 R as bs) : All2 R' as bs := by
  induction hh with
  | nil => exact .nil
  | cons h1 _ ih => exact .cons (h _ _ h1) ih

theorem hset_other {H : Heap} {r : Nat} {x : Blk} {p : Nat × Blk} (hp : p ∈ H) (hne : p.1 ≠ r) : p ∈ hset H r x :=
  List.mem_map.2 ⟨p, hp, by simp [hne]⟩

theorem leaves {P : Program} {w0 : World} {fn : Func} {tmps : Array Value} {r : Option Nat} {K : Value → Heap → Prop} {e : Env} {vs : List Value} {H2 : Heap} (ht : ∀ t v, lk t e.r = some v → tmps[t]? = some v) (hk : K (tupleOf vs) H2) :
    ∀ (m : List Nat) (H : Heap) (w : World), St w0 H w → All2 (ResV P w0 e H) fn.results.toList vs → (∀ p ∈ H2, p ∈ H) → (∀ r ∈ m, ((∃ o, (r, Blk.obj (.deferred o)) ∈ H)) ∧ r ∉ keys H2) → m.Nodup →
      (∀ r ∈ m, (r, Blk.obj (.deferred (some []))) ∈ H) →
      LeavesInM (Fr r) 0 P fn tmps (fun e w' => ∃ v H', e = .returned v ∧ K v H' ∧ St w0 H' w') (m.map markOf) .returning w := by
  intro m
  induction m with
  | nil =>
    intro H w hs hr hsub _ _ _
    exact ⟨tupleOf vs, run_results hs ht hr, tupleOf vs, H2, rfl, hk, hs.sub hsub⟩
  | cons x m ih =>
    intro H w hs hr hsub hm hnd hall
    have hx := hall x (by simp)
    obtain ⟨_, hh⟩ := hs.sat _ hx
    refine ⟨by simp, .inl ⟨x, _, rfl, run_takeDeferred hh, ?_⟩⟩
    refine ih (hset H x (.obj (.deferred none))) _ (hs.putObj (by simp) hx) ?_ ?_ ?_ (List.nodup_cons.1 hnd).2 ?_
    · refine hr.imp fun a b h => ?_
      cases a with
      | tmp t => exact h
      | cell t T =>
        obtain ⟨ad, agg, sz, h3, h4, h5⟩ := h
        exact ⟨ad, agg, sz, h3, h4, hset_loadV hs hx h5⟩
    · intro p hp
      refine hset_other (hsub p hp) ?_
      intro heq
      exact (hm x (by simp)).2 (List.mem_map.2 ⟨p, hp, heq⟩)
    · intro y hy
      refine ⟨?_, (hm y (by simp [hy])).2⟩
      by_cases hyx : y = x
      · subst hyx; exact ⟨none, List.mem_map.2 ⟨_, hx, by simp⟩⟩
      · exact ⟨_, hset_other (hall y (by simp [hy])) hyx⟩
    · intro y hy
      refine hset_other (hall y (by simp [hy])) ?_
      intro heq
      simp only at heq
      subst heq
      exact (List.nodup_cons.1 hnd).1 hy

/-- **A CALL OUT OF ITS BODY's WALK.** -/
theorem acall_of_body {P : Program} {w0 : World} {f : FuncId} {fn : Func} {c : Code} {args : Array Value} {H : Heap} {K : Value → Heap → Prop} {e : Env}
    (hf : P.funcs[f]? = some fn) (hb : fn.body = some c) (hn : args.size ≤ fn.ntmps) (hm : e.m = []) (he : ∀ t v, lk t e.r = some v → args[t]? = some v)
    (h : SW P w0 fn.ntmps none c (fun ex e' H' => exitPost P w0 fn.results K ex e' H' ∧ e'.m.Nodup) e H) : ACall P w0 f args H K := by
  intro w hs
  refine callsIn_of_wp_marks hf hb trivial (wpIn_mono (h w _ hs ⟨?_, ?_, by simp [hm]⟩) ?_)
  · simp; omega
  · intro t v ht
    have := he t v ht
    rw [Array.getElem?_append_left (Array.getElem?_eq_some_iff.1 this).1]
    exact this
  · rintro ex a' w' ⟨e', H', ⟨⟨hex, vs, H2, hr, hsub, hmk, hk⟩, hnd⟩, hs', he'⟩
    have := leaves (r := none) (K := K) (fn := fn) (tmps := a'.tmps) he'.get hk e'.m H' w' hs' hr hsub (fun r hr => ⟨⟨_, (hmk r hr).1⟩, (hmk r hr).2⟩) hnd (fun r hr => (hmk r hr).1)
    rw [← he'.defers] at this
    rcases hex with rfl | rfl
    · exact this
    · exact this

end Go.SL
