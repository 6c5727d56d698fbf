/- A region whose order Go leaves open: its quiet operations come to the same in whatever order; what writes comes behind them, in one order. No program in sight. -/
import Derived.Test.YtppajifkmepdnaaSlE
set_option linter.unusedSimpArgs false
set_option linter.unusedVariables false
namespace Go.SL
open Go.RowKit

/-- A call that turns nothing that was there. -/
def QCall (P : Program) (w0 : World) (f : Value) (args : List Value) (H : Heap) (K : Value → Prop) : Prop :=
  ∃ v, (∀ w, St w0 H w → ∃ nx, (do let d ← Deferred.ofValue f args.toArray; invoke d.target d.args : Sem Next).run P w = .ok nx w ∧
      (nx = .value v ∨ ∃ g as, nx = .enter g as ∧ CallsIn Fence.wide 0 P g as w fun e w' => e = .returned v ∧ Below w.heap.size w w')) ∧ K v

@[congr] theorem QCall_congr {P : Program} {w0 : World} {f f' : Value} {args args' : List Value} {H H' : Heap} {K : Value → Prop} (h1 : f = f') (h2 : args = args') (h3 : H = H') :
    QCall P w0 f args H K = QCall P w0 f' args' H' K := by rw [h1, h2, h3]

def need1 (w0 : World) (fl : Bool) (H : Heap) (b o : Nat) : Option Value := if fl then w0.cell? ⟨b, o, none⟩ else rd1 w0 H b o
def needN (w0 : World) (fl : Bool) (H : Heap) (b o n : Nat) : Option (List Value) := if fl then rdOld w0 b o n else rd w0 H b o n

/-- A quiet operation. (fl: it may come behind what writes: what it reads lay there when the law was called.) -/
def stOp (P : Program) (w0 : World) (fl : Bool) (o : SOp) (e : Env) (H : Heap) (K : Nat → Value → Prop) : Prop :=
  match o with
  | .pure d p xs => need (evs e xs) fun vs => need (pv p vs) fun v => K d v
  | .load1 d x => need (ev e x) fun a => need (ptrOf a) fun p => need (need1 w0 fl H p.1 p.2) fun v => K d v
  | .loadN d x sz => need (ev e x) fun a => need (ptrOf a) fun p => need (needN w0 fl H p.1 p.2 sz) fun cs => K d (.agg cs.toArray)
  | .call (some d) f xs => fl = false ∧ need (ev e f) fun f => need (evs e xs) fun vs => QCall P w0 f vs H fun v => K d v
  | _ => False

def stI (P : Program) (w0 : World) (fl : Bool) (i : SI) (e : Env) (H : Heap) (K : Env → Prop) : Prop :=
  match i.g with
  | none => stOp P w0 fl i.op e H fun d v => K ⟨(d, v) :: e.r, e.m⟩
  | some (t, want) => need (lk t e.r) fun u => match u with
    | .bool b => (b = want → stOp P w0 fl i.op ⟨(t, .bool want) :: e.r, e.m⟩ H fun d v => K ⟨(d, v) :: (t, .bool want) :: e.r, e.m⟩) ∧
        (b = !want → need i.op.dst fun d => K ⟨(d, undef) :: (t, .bool !want) :: e.r, e.m⟩)
    | .tuple _ => need i.op.dst fun d => K ⟨(d, undef) :: e.r, e.m⟩
    | _ => False

def runSt (P : Program) (w0 : World) : List (SI × Bool) → Env → Heap → (Env → Prop) → Prop
  | [], e, _, K => K e
  | (i, fl) :: l, e, H, K => stI P w0 fl i e H fun e' => runSt P w0 l e' H K

/-- What an operation yields in every world that meets H, by operand values that are told. -/
def Yl (P : Program) (w0 : World) (r : Option Nat) (ops : Array Oper) (H : Heap) (e : Env) (o : Oper) (d : Nat) : Prop :=
  o.dst = some d ∧ ∃ v, lk d e.r = some v ∧ ∀ (a : Act) (w : World), (∀ t ∈ o.looksAt ops, ∀ u, lk t e.r = some u → a.tmps[t]? = some u) → St w0 H w →
    (Region.wanted o (yielded ops a.tmps) = true → ∃ nx, (o.semAt r a.eval).run P w = .ok nx w ∧
      (nx = .value v ∨ ∃ g as, nx = .enter g as ∧ CallsIn Fence.wide 0 P g as w fun e w' => e = .returned v ∧ Below w.heap.size w w')) ∧
    (Region.wanted o (yielded ops a.tmps) = false → v = undef)

/-- The operands that an operation's run looks at. -/
theorem semAt_congr {r : Option Nat} {ρ ρ' : Operand → Value} (o : Oper) (hs : ∀ cs b, o.op ≠ .select cs b) (hd : ∀ c, o.op ≠ .defer c) (h : ∀ x ∈ o.op.operands, ρ x = ρ' x) :
    o.semAt r ρ = o.semAt r ρ' := by
  rw [Oper.semAt_eq _ _ _ hd, Oper.semAt_eq _ _ _ hd]; exact execOp_congr o hs h

theorem mem_looks {ops : Array Oper} {o : Oper} {t : Nat} (h : Operand.tmp t ∈ o.op.operands) : t ∈ o.looksAt ops :=
  List.mem_append_left _ (List.mem_filterMap.2 ⟨.tmp t, by simpa using h, rfl⟩)

theorem cOp_plain {P : Program} {o : Oper} {s : SOp} (h : cOp P o = some s) : (∀ cs b, o.op ≠ .select cs b) ∧ (∀ c, o.op ≠ .defer c) := by
  constructor
  · intro c b hh
    unfold cOp at h
    simp only [hh] at h
    split at h
    · rename_i h1; simp [cPure] at h1
    · cases h
  · intro c hh
    unfold cOp at h
    simp only [hh] at h
    split at h
    · rename_i h1; simp [cPure] at h1
    · cases h

theorem St.all {w0 w : World} {H : Heap} (h : St w0 H w) : St w0 [] w := ⟨h.below, by simp, by simp⟩

/-- A quiet operation that is run yields. -/
theorem stOp_yields {P : Program} {w0 : World} {r : Option Nat} {o : Oper} {s : SOp} (hc : cOp P o = some s) {fl : Bool} {e : Env} {H : Heap} {K : Nat → Value → Prop} (h : stOp P w0 fl s e H K) :
    ∃ d v, s.dst = some d ∧ o.dst = some d ∧ K d v ∧ ∀ ρ, (∀ x ∈ o.op.operands, ∀ u, ev e x = some u → ρ x = u) → ∀ w, St w0 (if fl then [] else H) w → ∃ nx, (o.semAt r ρ).run P w = .ok nx w ∧
      (nx = .value v ∨ ∃ g as, nx = .enter g as ∧ CallsIn Fence.wide 0 P g as w fun e w' => e = .returned v ∧ Below w.heap.size w w') := by
  obtain ⟨hsel, hdef⟩ := cOp_plain hc
  -- ρ may be turned outside the operands
  have tot : ∀ (Z : (Operand → Value) → Prop), (∀ ρ, Agree e ρ → Z ρ) → (∀ ρ ρ', (∀ x ∈ o.op.operands, ρ x = ρ' x) → Z ρ → Z ρ') →
      ∀ ρ, (∀ x ∈ o.op.operands, ∀ u, ev e x = some u → ρ x = u) → Z ρ := by
    intro Z h1 h2 ρ hρ
    refine h2 (fun x => (ev e x).getD (ρ x)) ρ (fun x hx => ?_) (h1 _ fun x v hx => by simp [hx])
    cases hv : ev e x with
    | none => rfl
    | some u => exact (hρ x hx u hv).symm
  have fin : ∀ (v : Value) (HH : Heap), (∀ ρ, Agree e ρ → ∀ w, St w0 HH w → (o.semAt r ρ).run P w = .ok (.value v) w) →
      ∀ ρ, (∀ x ∈ o.op.operands, ∀ u, ev e x = some u → ρ x = u) → ∀ w, St w0 HH w → ∃ nx, (o.semAt r ρ).run P w = .ok nx w ∧
      (nx = .value v ∨ ∃ g as, nx = .enter g as ∧ CallsIn Fence.wide 0 P g as w fun e w' => e = .returned v ∧ Below w.heap.size w w') := by
    intro v HH h1 ρ hρ w hs
    refine ⟨_, ?_, .inl rfl⟩
    exact tot (fun ρ => ∀ w, St w0 HH w → (o.semAt r ρ).run P w = .ok (.value v) w) h1 (fun ρ ρ' he hz => by rw [← semAt_congr o hsel hdef he]; exact hz) ρ hρ w hs
  unfold cOp at hc
  split at hc
  · rename_i T x hx
    split at hc
    · rename_i d sz hd ht
      cases hc
      obtain ⟨a, h1, p, h2, cs, h3, hk⟩ := h
      obtain ⟨b, off⟩ := p
      unfold ptrOf at h2
      split at h2 <;> cases h2
      have hcell : cs.length = sz ∧ ∀ i x, cs[i]? = some x → HasCell w0 (if fl then [] else H) ((⟨b, off, none⟩ : Addr).add i) x := by
        unfold needN at h3
        cases fl with
        | true =>
          simp only [if_true] at h3 ⊢
          obtain ⟨h4, h5⟩ := rdOld_get _ _ _ h3
          exact ⟨h4, fun i x hx => by rw [Addr.add_off]; exact ⟨rfl, .inl (h5 i x hx)⟩⟩
        | false => exact rd_has h3
      refine ⟨d, _, rfl, hd, hk, fin _ _ fun ρ ha w hs => ?_⟩
      rw [Oper.semAt_eq _ _ _ hdef]
      have := run_loadVar hs ht (a := ⟨b, off, none⟩) (v := .agg cs.toArray) (by unfold LoadV; rw [if_pos rfl]; exact ⟨cs, hcell.1, rfl, hcell.2⟩)
      simp [execOp, hx, ha x _ h1, Instr.loadAt, Instr.sureAddr, Sem.run_bind, this, Result.andThen]
    · rename_i d sz hd ht
      cases hc
      obtain ⟨a, h1, p, h2, v, h3, hk⟩ := h
      obtain ⟨b, off⟩ := p
      unfold ptrOf at h2
      split at h2 <;> cases h2
      have hcell : HasCell w0 (if fl then [] else H) ⟨b, off, none⟩ v := by
        unfold need1 at h3
        cases fl with
        | true => exact ⟨rfl, .inl h3⟩
        | false => exact rd1_has h3
      refine ⟨d, _, rfl, hd, hk, fin _ _ fun ρ ha w hs => ?_⟩
      rw [Oper.semAt_eq _ _ _ hdef]
      have := run_loadVar hs ht (a := ⟨b, off, none⟩) (v := v) (by unfold LoadV; rw [if_neg (by simp)]; exact hcell)
      simp [execOp, hx, ha x _ h1, Instr.loadAt, Instr.sureAddr, Sem.run_bind, this, Result.andThen]
    · cases hc
  · split at hc
    · split at hc <;> cases hc; exact h.elim
    · split at hc <;> cases hc; exact h.elim
    · cases hc
  · split at hc <;> cases hc; exact h.elim
  · simp only [Option.map_eq_some_iff] at hc; obtain ⟨d, _, rfl⟩ := hc; exact h.elim
  · split at hc
    · split at hc
      · split at hc
        · split at hc <;> cases hc; exact h.elim
        · cases hc
      · cases hc
    · cases hc
  · simp only [Option.map_eq_some_iff] at hc; obtain ⟨d, _, rfl⟩ := hc; exact h.elim
  · -- a call
    rename_i f args at' hx
    cases hc
    cases hd : o.dst with
    | none => rw [hd] at h; exact h.elim
    | some d =>
      rw [hd] at h
      obtain ⟨hfl, fv, h1, vs, h2, v, hq, hk⟩ := h
      subst hfl
      refine ⟨d, v, rfl, rfl, hk, fun ρ hρ w hs => ?_⟩
      have hf := hρ f (by simp [hx, Op.operands, Call.operands]) _ h1
      have hargs : args.map ρ = vs.toArray := by
        have hm : ∀ (xs : List Operand) (us : List Value), (∀ x ∈ xs, ∀ u, ev e x = some u → ρ x = u) → evs e xs = some us → xs.map ρ = us := by
          intro xs
          induction xs with
          | nil => intro us _ h; simpa [evs] using h
          | cons x xs ih =>
            intro us hh h
            simp only [evs] at h
            split at h
            · rename_i v vs' h1 h2
              cases h
              simp [hh x (by simp) v h1, ih vs' (fun y hy => hh y (by simp [hy])) h2]
            · cases h
        apply Array.ext'
        simpa using hm args.toList vs (fun x hx' => hρ x (by simp [hx, Op.operands, Call.operands]; right; simpa using hx')) h2
      obtain ⟨nx, hr, hn⟩ := hq w hs
      refine ⟨nx, ?_, hn⟩
      rw [Oper.semAt_eq _ _ _ hdef]
      simp only [execOp, hx, resolve, hf, hargs]
      exact hr
  · split at hc <;> cases hc; exact h.elim
  · -- values alone
    split at hc
    · rename_i d p xs hd hq
      cases hc
      obtain ⟨vs, h1, v, h2, hk⟩ := h
      refine ⟨d, v, rfl, hd, hk, fin _ _ fun ρ ha w hs => ?_⟩
      rw [Oper.semAt_eq _ _ _ hdef]
      rw [← evs_map ha _ _ h1] at h2
      exact cPure_sound hq h2 o rfl w
    · cases hc


theorem lk_cons_ne {t k : Nat} {v : Value} {r : List (Nat × Value)} (h : k ≠ t) : lk t ((k, v) :: r) = lk t r := by simp [lk, h]
theorem lk_cons_eq {t : Nat} {v : Value} {r : List (Nat × Value)} : lk t ((t, v) :: r) = some v := by simp [lk]

/-- One quiet operation: it yields, by any frame that knows what e knows of what it looks at. -/
theorem stI_yields {P : Program} {w0 : World} {r : Option Nat} {n : Nat} {ops : Array Oper} {o : Oper} {si : SI} (hc : cI P n ops o = some si) {fl : Bool} {e : Env} {H : Heap} {K : Env → Prop}
    (h : stI P w0 fl si e H K) (hown : ∀ t ∈ o.looksAt ops, o.dst ≠ some t) :
    ∃ d v e', o.dst = some d ∧ K e' ∧ e'.m = e.m ∧ lk d e'.r = some v ∧ (∀ t, t ≠ d → lk t e'.r = lk t e.r) ∧
      ∀ (a : Act) (w : World), (∀ t ∈ o.looksAt ops, ∀ u, lk t e.r = some u → a.tmps[t]? = some u) → St w0 (if fl then [] else H) w →
        (Region.wanted o (yielded ops a.tmps) = true → ∃ nx, (o.semAt r a.eval).run P w = .ok nx w ∧
          (nx = .value v ∨ ∃ g as, nx = .enter g as ∧ CallsIn Fence.wide 0 P g as w fun e w' => e = .returned v ∧ Below w.heap.size w w')) ∧
        (Region.wanted o (yielded ops a.tmps) = false → v = undef) := by
  have agree : ∀ (e : Env) (a : Act), (∀ t ∈ o.looksAt ops, ∀ u, lk t e.r = some u → a.tmps[t]? = some u) → ∀ x ∈ o.op.operands, ∀ u, ev e x = some u → a.eval x = u := by
    intro e a hl x hx u hu
    cases x with
    | tmp t => have := hl t (mem_looks hx) u hu; simp [Act.eval, this]
    | const c => simpa [ev, Act.eval] using hu
    | global g => simpa [ev, Act.eval] using hu
    | func f => simpa [ev, Act.eval] using hu
  unfold cI at hc
  split at hc
  · split at hc
    · rename_i hg
      simp only [Option.map_eq_some_iff] at hc
      obtain ⟨s, hc, rfl⟩ := hc
      simp only [stI] at h
      obtain ⟨d, v, hd, hd2, hk, hy⟩ := stOp_yields (r := r) hc h
      refine ⟨d, v, _, hd2, hk, rfl, lk_cons_eq, fun t ht => lk_cons_ne (Ne.symm ht), fun a w hl hs => ⟨fun _ => hy _ (agree e a hl) w hs, fun hw => ?_⟩⟩
      simp [Region.wanted, hg] at hw
    · rename_i j want hg
      split at hc
      · rename_i t ht
        simp only [Option.map_eq_some_iff] at hc
        obtain ⟨s, hc, rfl⟩ := hc
        simp only [stI] at h
        obtain ⟨u, hu, h⟩ := h
        cases u <;> simp only at h
        case tuple us =>
          have htl : t ∈ o.looksAt ops := by
            unfold Oper.looksAt
            refine List.mem_append_right _ ?_
            simp [hg, ht]
          have hwd : ∀ a : Act, (∀ t ∈ o.looksAt ops, ∀ u, lk t e.r = some u → a.tmps[t]? = some u) → Region.wanted o (yielded ops a.tmps) = false := by
            intro a hl
            have : yielded ops a.tmps j = none := by
              unfold yielded
              rw [ht]
              simp [hl t htl _ hu]
            simp [Region.wanted, hg, this]
          obtain ⟨d, hd, hk⟩ := h
          refine ⟨d, undef, _, by rw [← cOp_dst hc]; exact hd, hk, rfl, lk_cons_eq, fun t' ht' => lk_cons_ne (Ne.symm ht'), fun a w hl hs => ⟨fun hw => ?_, fun _ => rfl⟩⟩
          rw [hwd a hl] at hw; cases hw
        rename_i b
        have htl : t ∈ o.looksAt ops := by
          unfold Oper.looksAt
          refine List.mem_append_right _ ?_
          simp [hg, ht]
        have hwd : ∀ a : Act, (∀ t ∈ o.looksAt ops, ∀ u, lk t e.r = some u → a.tmps[t]? = some u) → Region.wanted o (yielded ops a.tmps) = (b == want) := by
          intro a hl
          have : yielded ops a.tmps j = some b := by
            unfold yielded
            rw [ht]
            simp [hl t htl _ hu]
          simp [Region.wanted, hg, this]
        have same : ∀ (c : Bool), b = c → ∀ t', lk t' ((t, .bool c) :: e.r) = lk t' e.r := by
          intro c hbc t'
          by_cases h1 : t = t'
          · subst h1; rw [lk_cons_eq, hu, hbc]
          · exact lk_cons_ne h1
        by_cases hbw : b = want
        · obtain ⟨d, v, hd, hd2, hk, hy⟩ := stOp_yields (r := r) hc (h.1 hbw)
          have hdt : d ≠ t := fun hh => hown t htl (by rw [hd2, hh])
          refine ⟨d, v, _, hd2, hk, rfl, lk_cons_eq, fun t' ht' => (lk_cons_ne (Ne.symm ht')).trans (same want hbw t'), fun a w hl hs => ⟨fun _ => ?_, fun hw => ?_⟩⟩
          · refine hy _ (agree _ a fun t' ht' u' hu' => hl t' ht' u' ?_) w hs
            rwa [same want hbw t'] at hu'
          · rw [hwd a hl] at hw; simp [hbw] at hw
        · have h4 : b = !want := by cases b <;> cases want <;> simp_all
          obtain ⟨d, hd, hk⟩ := h.2 h4
          have hdst : s.dst = o.dst := cOp_dst hc
          refine ⟨d, undef, _, by rw [← hdst]; exact hd, hk, rfl, lk_cons_eq, fun t' ht' => (lk_cons_ne (Ne.symm ht')).trans (same _ h4 t'), fun a w hl hs => ⟨fun hw => ?_, fun _ => rfl⟩⟩
          rw [hwd a hl] at hw; simp at hw; exact absurd hw hbw
      · cases hc
  · cases hc

def dstAt (ops : Array Oper) (i : Nat) : Option Nat := (ops[i]?).bind (·.dst)
def looksAtI (ops : Array Oper) (i : Nat) : List Nat := match ops[i]? with | some o => o.looksAt ops | none => []

/-- What the quiet operations come to. -/
theorem runSt_facts {P : Program} {w0 : World} {r : Option Nat} {n : Nat} {ops : Array Oper} {H : Heap} {K : Env → Prop} :
    ∀ (S : List Nat) (sis : List (SI × Bool)) (e : Env), All2 (fun i (p : SI × Bool) => ∃ o, ops[i]? = some o ∧ cI P n ops o = some p.1) S sis →
      S.Pairwise (fun i j => (∀ t ∈ looksAtI ops i, dstAt ops j ≠ some t) ∧ dstAt ops j ≠ dstAt ops i) → (∀ i ∈ S, ∀ t ∈ looksAtI ops i, dstAt ops i ≠ some t) →
      runSt P w0 sis e H K →
      ∃ e1, K e1 ∧ e1.m = e.m ∧ (∀ t, (∀ j ∈ S, dstAt ops j ≠ some t) → lk t e1.r = lk t e.r) ∧
        All2 (fun i (p : SI × Bool) => ∃ o d, ops[i]? = some o ∧ Yl P w0 r ops (if p.2 then [] else H) e1 o d) S sis := by
  intro S
  induction S with
  | nil => intro sis e hl _ _ h; cases hl; exact ⟨e, h, rfl, fun _ _ => rfl, .nil⟩
  | cons i S ih =>
    intro sis e hl hp ho h
    cases hl with
    | cons h1 h2 =>
      rename_i p sis
      obtain ⟨si, fl⟩ := p
      obtain ⟨o, hoo, hc⟩ := h1
      have hlk : looksAtI ops i = o.looksAt ops := by simp [looksAtI, hoo]
      have hds : dstAt ops i = o.dst := by simp [dstAt, hoo]
      simp only [runSt] at h
      obtain ⟨d, v, e', hd, hk, hm, hv, hother, hy⟩ := stI_yields (r := r) hc h (fun t ht => by rw [← hds]; exact ho i (by simp) t (by rw [hlk]; exact ht))
      obtain ⟨e1, hk1, hm1, hsame, hall⟩ := ih sis e' h2 (List.pairwise_cons.1 hp).2 (fun j hj => ho j (by simp [hj])) hk
      have hpi := (List.pairwise_cons.1 hp).1
      refine ⟨e1, hk1, hm1.trans hm, fun t ht => ?_, .cons ⟨o, d, hoo, hd, v, ?_, ?_⟩ hall⟩
      · rw [hsame t fun j hj => ht j (by simp [hj])]
        refine hother t fun hh => ht i (by simp) (by rw [hds, hd, hh])
      · rw [hsame d fun j hj => by rw [← hd, ← hds]; exact (hpi j hj).2]
        exact hv
      · intro a w hl hs
        refine hy a w (fun t ht u hu => hl t ht u ?_) hs
        rw [hsame t fun j hj => (hpi j hj).1 t (by rw [hlk]; exact ht)]
        rw [hother t fun hh => ?_]
        · exact hu
        · have := ho i (by simp) t (by rw [hlk]; exact ht)
          rw [hds, hd, hh] at this
          exact this rfl


/-! ### Whatever order -/
def waits (ops : Array Oper) (i j : Nat) : Bool := match ops[i]? with
  | some o => o.after.any fun e => Region.binds .any e && e.on == j
  | none => false

theorem countP_lt {p q : Nat → Bool} (hpq : ∀ j, p j = true → q j = true) {i : Nat} (hq : q i = true) (hp : p i = false) : ∀ (l : List Nat), i ∈ l → l.countP p < l.countP q := by
  intro l
  induction l with
  | nil => intro h; cases h
  | cons a l ih =>
    intro h
    have hle : ∀ l : List Nat, l.countP p ≤ l.countP q := by
      intro l
      induction l with
      | nil => simp
      | cons b l ih => simp only [List.countP_cons]; by_cases h : p b = true <;> by_cases h' : q b = true <;> simp [h, h'] <;> first | omega | exact absurd (hpq b h) h' | skip
    simp only [List.countP_cons]
    rcases List.mem_cons.1 h with rfl | h
    · have := hle l
      simp [hq, hp]; omega
    · have := ih h
      by_cases h1 : p a = true
      · simp [h1, hpq a h1]; omega
      · simp [h1]; omega

def unl (ops : Array Oper) (listed : Array Bool) : Nat := (List.range ops.size).countP fun i => !listed.getD i true

theorem unl_set {ops : Array Oper} {listed : Array Bool} {i : Nat} (hi : i < ops.size) (hl : listed.getD i true = false) : unl ops (listed.setIfInBounds i true) < unl ops listed := by
  have hlt : i < listed.size := by
    rcases Nat.lt_or_ge i listed.size with h | h
    · exact h
    · simp [Array.getElem?_eq_none h] at hl
  refine countP_lt (fun j hj => ?_) (i := i) (by simp [hl]) (by simp [hlt]) _ (List.mem_range.2 hi)
  by_cases hji : i = j
  · subst hji; simp [hlt] at hj
  · rwa [getD_set_ne true hji] at hj

theorem ready_exists {ops : Array Oper} {listed : Array Bool} (hsz : listed.size = ops.size) (hasc : ∀ i j, waits ops i j = true → j < i) (h : 0 < unl ops listed) : Region.ready .any ops listed ≠ [] := by
  have hex : ∃ i, i < ops.size ∧ listed.getD i true = false := by
    unfold unl at h
    rw [List.countP_pos_iff] at h
    obtain ⟨i, hi, hp⟩ := h
    exact ⟨i, List.mem_range.1 hi, by simpa using hp⟩
  -- the least of them
  have key : ∀ k i, i ≤ k → i < ops.size → listed.getD i true = false → ∃ j, j ∈ Region.ready .any ops listed := by
    intro k
    induction k with
    | zero =>
      intro i hi hlt hl
      obtain rfl : i = 0 := by omega
      refine ⟨0, mem_ready.2 ⟨hl, ops[0], by simp [hlt], fun e he hb => ?_⟩⟩
      have := hasc 0 e.on (by unfold waits; simp only [Array.getElem?_eq_getElem hlt]; exact Array.any_eq_true'.2 ⟨e, he, by simp [hb]⟩)
      omega
    | succ k ih =>
      intro i hi hlt hl
      by_cases hall : ∀ e ∈ (ops[i]).after, Region.binds .any e = true → listed.getD e.on false = true
      · exact ⟨i, mem_ready.2 ⟨hl, ops[i], by simp [hlt], hall⟩⟩
      · simp only [Classical.not_forall] at hall
        obtain ⟨e, he, hb, hn⟩ := hall
        have hlt2 := hasc i e.on (by unfold waits; simp only [Array.getElem?_eq_getElem hlt]; exact Array.any_eq_true'.2 ⟨e, he, by simp [hb]⟩)
        refine ih e.on (by omega) (by omega) ?_
        have h3 : e.on < listed.size := by omega
        simp only [Bool.not_eq_true] at hn
        simp [h3] at hn ⊢
        exact hn
  obtain ⟨i, hi, hl⟩ := hex
  obtain ⟨j, hj⟩ := key i i (Nat.le_refl _) hi hl
  intro hnil
  rw [hnil] at hj
  cases hj

theorem ready_spec {ops : Array Oper} {listed : Array Bool} {i : Nat} (h : i ∈ Region.ready .any ops listed) (hsz : listed.size = ops.size) :
    i < ops.size ∧ listed.getD i true = false ∧ ∀ j, waits ops i j = true → listed.getD j true = true := by
  obtain ⟨h0, o, ho, hall⟩ := mem_ready.1 h
  refine ⟨(Array.getElem?_eq_some_iff.1 ho).1, h0, fun j hj => ?_⟩
  unfold waits at hj
  rw [ho] at hj
  obtain ⟨e, he, hb⟩ := Array.any_eq_true'.1 hj
  simp only [Bool.and_eq_true, beq_iff_eq] at hb
  have := hall e he hb.1
  rw [hb.2] at this
  rcases Nat.lt_or_ge j listed.size with h' | h'
  · simp [h'] at this ⊢; exact this
  · simp [Array.getElem?_eq_none h'] at this

/-- Each but the first waits for the one ahead of it. -/
def Chn (ops : Array Oper) : List Nat → Prop
  | [] => True
  | [_] => True
  | x :: y :: l => waits ops y x = true ∧ Chn ops (y :: l)

theorem Chn.pred {ops : Array Oper} : ∀ {l : List Nat} {x i : Nat}, Chn ops (x :: l) → i ∈ l → ∃ y ∈ x :: l, waits ops i y = true := by
  intro l
  induction l with
  | nil => intro x i _ h; cases h
  | cons y l ih =>
    intro x i hc hi
    rcases List.mem_cons.1 hi with rfl | hi
    · exact ⟨x, by simp, hc.1⟩
    · obtain ⟨z, hz, hw⟩ := ih hc.2 hi
      exact ⟨z, List.mem_cons_of_mem _ hz, hw⟩

theorem Chn.tail {ops : Array Oper} : ∀ {l m : List Nat}, Chn ops (l ++ m) → Chn ops m := by
  intro l
  induction l with
  | nil => intro m h; exact h
  | cons x l ih =>
    intro m h
    cases l with
    | nil =>
      cases m with
      | nil => trivial
      | cons y m => exact h.2
    | cons y l => exact ih h.2

def Clos (ops : Array Oper) (listed : Array Bool) : Prop := ∀ x j, listed.getD x true = true → x < ops.size → waits ops x j = true → listed.getD j true = true

/-- x waits for i, by itself or through others. -/
def Waits (ops : Array Oper) (x i : Nat) : Prop := ∀ listed : Array Bool, Clos ops listed → (∀ j, waits ops x j = true → listed.getD j true = true) → listed.getD i true = true

/-- The first of R waits for i. -/
def HeadWaits (ops : Array Oper) (R : List Nat) (i : Nat) : Prop := ∀ r, R.head? = some r → Waits ops r i

theorem Clos.waits {ops : Array Oper} {listed : Array Bool} (hc : Clos ops listed) {x i : Nat} (hx : listed.getD x true = true) (hs : x < ops.size) (h : Waits ops x i) : listed.getD i true = true :=
  h listed hc fun j hj => hc x j hx hs hj

/-- An operation that makes a block, by the look of it. -/
def mkAt (ops : Array Oper) (i : Nat) : Bool := match ops[i]? with
  | some o => o.guard.isNone && (match o.op with | .alloc _ | .box _ _ | .buildSlice _ _ _ => true | _ => false)
  | none => false

/-- Of a region's operations: which are quiet (S), which one makes a block whenever it comes (A), which make blocks, or lean on such, in this order (M), which come last, in this order (R). -/
structure DrawP (ops : Array Oper) (S : List Nat) (A : Option Nat) (M R : List Nat) (fl : Nat → Bool) : Prop where
  cov : ∀ i, i < ops.size → i ∈ S ∨ A = some i ∨ i ∈ M ∨ i ∈ R
  inS : ∀ i ∈ S, i < ops.size ∧ i ∉ R ∧ A ≠ some i ∧ i ∉ M
  inA : ∀ a, A = some a → a < ops.size ∧ a ∉ R ∧ a ∉ M
  inM : ∀ i ∈ M, i < ops.size ∧ i ∉ R
  inR : ∀ i ∈ R, i < ops.size
  sdst : ∀ i, (i ∈ S ∨ A = some i ∨ i ∈ M) → (∃ d, dstAt ops i = some d) ∧ ∀ j, j < ops.size → j ≠ i → dstAt ops j ≠ dstAt ops i
  look : ∀ i, (i ∈ S ∨ A = some i) → ∀ t ∈ looksAtI ops i, ∀ j, j < ops.size → dstAt ops j = some t → (j ∈ S ∧ waits ops i j = true) ∨ (j ∈ R ∧ HeadWaits ops R i)
  mlook : ∀ i ∈ M, ∀ t ∈ looksAtI ops i, ∀ j, j < ops.size → dstAt ops j = some t → ((j ∈ S ∨ j ∈ M) ∧ waits ops i j = true) ∨ (j ∈ R ∧ HeadWaits ops R i)
  nofl : ∀ i ∈ S, fl i = false → HeadWaits ops R i
  aR : ∀ a, A = some a → HeadWaits ops R a
  mR : ∀ i ∈ M, HeadWaits ops R i
  ordM : ∀ x ∈ M, mkAt ops x = true ∨ ∀ y ∈ M, y < x → Waits ops x y
  chain : Chn ops R
  rlook : ∀ i ∈ R, ∀ t ∈ looksAtI ops i, ∀ j, (j ∈ S ∨ A = some j ∨ j ∈ M) → dstAt ops j = some t → waits ops i j = true
  asc : ∀ i j, waits ops i j = true → j < i
  ndR : R.Nodup
  ascM : M.Pairwise (· < ·)

def Pend (ops : Array Oper) (S : List Nat) (listed : Array Bool) (t : Nat) : Prop := ∃ i ∈ S, listed.getD i true = false ∧ dstAt ops i = some t

/-- The frame knows what e knows, but for what is still to come. -/
structure EnvBut (n : Nat) (X : Nat → Prop) (e : Env) (a : Act) : Prop where
  size : a.tmps.size = n
  get : ∀ t v, lk t e.r = some v → ¬ X t → a.tmps[t]? = some v
  defers : a.defers = e.m.map markOf

theorem EnvBut.put {n : Nat} {X : Nat → Prop} {e : Env} {a : Act} (h : EnvBut n X e a) (d : Option Tmp) (hd : ∀ x, d = some x → x < n) (v : Value) : EnvBut n X (e.put d v) (a.put d v) := by
  cases d with
  | none => exact h
  | some d =>
    refine ⟨by simpa [Act.put] using h.size, fun t u ht hx => ?_, h.defers⟩
    have hdn : d < a.tmps.size := by rw [h.size]; exact hd d rfl
    simp only [Env.put, lk] at ht
    split at ht
    · rename_i e1; cases ht; subst e1; simp [Act.put, hdn]
    · rename_i e1; simp only [Act.put]; rw [Array.getElem?_setIfInBounds_ne e1]; exact h.get t u ht hx

/-- An operation that comes last, run in a frame of which something is still to come. -/
theorem runI_but {P : Program} {w0 : World} {r : Option Nat} {n : Nat} {ops : Array Oper} {X : Nat → Prop} {i : Nat} {o : Oper} {si : SI} {e : Env} {H : Heap} {K : Env → Heap → Prop} {a : Act} {w : World} {Q : Exit → Act → World → Prop}
    {next : Act → World → Prop} (ho : ops[i]? = some o) (hc : cI P n ops o = some si) (h : runI P w0 si e H K) (hs : St w0 H w) (he : EnvBut n X e a) (hx : ∀ t ∈ o.looksAt ops, ¬ X t)
    (hn : ∀ e' H' a' w', K e' H' → St w0 H' w' → EnvBut n X e' a' → e'.m = e.m → (∀ t, o.dst ≠ some t → lk t e'.r = lk t e.r) → next a' w') :
    wpOpIn (Fr r) 0 P ops Q i next a w := by
  unfold wpOpIn
  simp only [ho]
  unfold cI at hc
  split at hc
  · rename_i hd
    -- one run, with e2 for e: the same to every look
    have run : ∀ (s : SOp) (e2 : Env) (K2 : Env → Heap → Prop), cOp P o = some s → runOp P w0 s e2 H K2 → EnvBut n X e2 a →
        (∀ e' H' a' w', K2 e' H' → St w0 H' w' → EnvBut n X e' a' → (∃ v, e' = e2.put o.dst v) → next a' w') → o.wpIn (Fr r) 0 P a w next Q := by
      intro s e2 K2 hcs h2 he2 hn2
      obtain ⟨hsel, hdef⟩ := cOp_plain hcs
      let ρ : Operand → Value := fun x => (ev e2 x).getD (a.eval x)
      have hag : Agree e2 ρ := fun x v hx => by simp [ρ, hx]
      have hsame : ∀ x ∈ o.op.operands, ρ x = a.eval x := by
        intro x hx'
        cases hv : ev e2 x with
        | none => simp [ρ, hv]
        | some u =>
          simp only [ρ, hv, Option.getD_some]
          cases x with
          | tmp t => have := he2.get t u hv (hx t (mem_looks hx')); simp [Act.eval, this]
          | const c => simpa [ev, Act.eval] using hv.symm
          | global g => simpa [ev, Act.eval] using hv.symm
          | func f => simpa [ev, Act.eval] using hv.symm
      have hrun := cOp_sound (r := r) hcs h2 ρ hag w hs
      rw [semAt_congr o hsel hdef hsame] at hrun
      obtain ⟨x, H', w', hr, hk, hs'⟩ := hrun
      refine ⟨fun _ _ => trivial, ?_⟩
      show o.uponIn (Fr r) 0 P a next Q ((o.semAt r a.eval).run P w)
      rw [hr]
      cases x <;> simp only [aft] at hk
      case value v => exact hn2 _ _ _ _ hk hs' (he2.put _ (dstOk_lt hd) v) ⟨v, rfl⟩
      case skip => exact hn2 _ _ _ _ hk hs' (he2.put _ (dstOk_lt hd) undef) ⟨undef, rfl⟩
      case enter f args =>
        refine ⟨fun hh => by simp [Fr, Fence.wide] at hh, ?_⟩
        refine CallsIn.mono (F := Fr r) (hk w' hs') ?_
        rintro e' w'' ⟨v, H'', rfl, hk', hs''⟩
        exact hn2 _ _ _ _ hk' hs'' (he2.put _ (dstOk_lt hd) v) ⟨v, rfl⟩
      case round l f tmps asg body =>
        refine ⟨fun hh => by simp [Fr, Fence.wide] at hh, ?_⟩
        refine RoundIn.mono (F := Fr r) (hk w' hs') ?_
        rintro e' w'' ⟨v, H'', rfl, hk', hs''⟩
        exact hn2 _ _ _ _ hk' hs'' (he2.put _ (dstOk_lt hd) v) ⟨v, rfl⟩
    have fin : ∀ (e2 : Env), e2.m = e.m → (∀ t, lk t e2.r = lk t e.r) → ∀ e' H' a' w', K e' H' → St w0 H' w' → EnvBut n X e' a' → (∃ v, e' = e2.put o.dst v) → next a' w' := by
      intro e2 hm2 hl2 e' H' a' w' hk hs' he' hv
      obtain ⟨v, rfl⟩ := hv
      refine hn _ _ _ _ hk hs' he' ?_ ?_
      · cases o.dst <;> exact hm2
      · intro t ht
        rw [← hl2]
        cases hdd : o.dst with
        | none => rfl
        | some d =>
          have : d ≠ t := fun hh => ht (by rw [hdd, hh])
          exact lk_cons_ne this
    simp only [runI] at h
    split at hc
    · rename_i hg
      simp only [Option.map_eq_some_iff] at hc
      obtain ⟨s, hc, rfl⟩ := hc
      have hw : Region.wanted o (yielded ops a.tmps) = true := by simp [Region.wanted, hg]
      simp only [hw, if_true]
      exact run s e K hc h he (fin e rfl fun _ => rfl)
    · rename_i j want hg
      split at hc
      · rename_i t ht
        simp only [Option.map_eq_some_iff] at hc
        obtain ⟨s, hc, rfl⟩ := hc
        obtain ⟨v, hv, h⟩ := h
        cases v <;> simp only at h
        case tuple us =>
          have htl : t ∈ o.looksAt ops := by
            unfold Oper.looksAt
            refine List.mem_append_right _ ?_
            simp [hg, ht]
          have hy : yielded ops a.tmps j = none := by
            unfold yielded
            rw [ht]
            simp [he.get t _ hv (hx t htl)]
          have hwd : Region.wanted o (yielded ops a.tmps) = false := by simp [Region.wanted, hg, hy]
          rw [hwd]
          simp only [Bool.false_eq_true, if_false]
          refine ⟨fun _ _ => trivial, ?_⟩
          rw [cOp_dst hc] at h
          exact fin e rfl (fun _ => rfl) _ _ _ _ h hs (he.put _ (dstOk_lt hd) undef) ⟨undef, rfl⟩
        rename_i b
        have htl : t ∈ o.looksAt ops := by
          unfold Oper.looksAt
          refine List.mem_append_right _ ?_
          simp [hg, ht]
        have hy : yielded ops a.tmps j = some b := by
          unfold yielded
          rw [ht]
          simp [he.get t _ hv (hx t htl)]
        have hwd : Region.wanted o (yielded ops a.tmps) = (b == want) := by simp [Region.wanted, hg, hy]
        have hl2 : ∀ t', lk t' ((t, .bool b) :: e.r) = lk t' e.r := by
          intro t'
          by_cases h1 : t = t'
          · subst h1; rw [lk_cons_eq, hv]
          · exact lk_cons_ne h1
        have he2 : EnvBut n X ⟨(t, .bool b) :: e.r, e.m⟩ a := ⟨he.size, fun t' u ht' hx' => he.get t' u (by rwa [hl2] at ht') hx', he.defers⟩
        rw [hwd]
        by_cases hbw : b = want
        · subst hbw
          simp only [beq_self_eq_true, if_true]
          exact run s _ K hc (h.1 rfl) he2 (fin _ rfl hl2)
        · have h3 : (b == want) = false := by simpa using hbw
          have h4 : b = !want := by cases b <;> cases want <;> simp_all
          simp only [h3, Bool.false_eq_true, if_false]
          refine ⟨fun _ _ => trivial, ?_⟩
          have := h.2 h4
          rw [cOp_dst hc] at this
          exact fin ⟨(t, .bool !want) :: e.r, e.m⟩ rfl (by rw [← h4]; exact hl2) _ _ _ _ this hs ((h4 ▸ he2).put _ (dstOk_lt hd) undef) ⟨undef, rfl⟩
      · cases hc
  · cases hc


theorem St.other {w0 w w' : World} {H : Heap} (h : St w0 H w) (hb : Below w.heap.size w w') : St w0 H w' := by
  refine ⟨h.below.trans (hb.mono h.below.size), h.new, fun p hp => ?_⟩
  have hlt := Blk.sat_lt (h.sat p hp)
  have hk := hb.block p.1 hlt
  have := h.sat p hp
  cases hx : p.2 with
  | cells c2 s2 => rw [hx] at this; simp only [Blk.sat, hk] at this ⊢; exact this
  | obj o2 => rw [hx] at this; simp only [Blk.sat, hk] at this ⊢; exact this

theorem Region.ready_nil_of {ops : Array Oper} {listed : Array Bool} (h : unl ops listed = 0) : Region.ready .any ops listed = [] := by
  cases hr : Region.ready .any ops listed with
  | nil => rfl
  | cons i l =>
    exfalso
    obtain ⟨h0, o, ho, _⟩ := mem_ready.1 (show i ∈ Region.ready .any ops listed by rw [hr]; simp)
    unfold unl at h
    rw [List.countP_eq_zero] at h
    have := h i (List.mem_range.2 (Array.getElem?_eq_some_iff.1 ho).1)
    simp [h0] at this

theorem unl_zero {ops : Array Oper} {listed : Array Bool} (h : unl ops listed = 0) {i : Nat} (hi : i < ops.size) : listed.getD i true = true := by
  unfold unl at h
  rw [List.countP_eq_zero] at h
  have := h i (List.mem_range.2 hi)
  simpa using this

/-- An operation that makes a block, or leans on one. -/
def mOp (P : Program) (w0 : World) (o : SOp) (e : Env) (H : Heap) (K : Nat → Value → Heap → Prop) : Prop :=
  match o with
  | .alloc d z => AllFresh w0 H fun b => K d (.pointer (some ⟨b, 0, none⟩)) ((b, .cells z z.length) :: H)
  | .box d x => need (ev e x) fun v => AllFresh w0 H fun b => K d (.pointer (some ⟨b, 0, none⟩)) ((b, .cells v.cells.toList v.cells.toList.length) :: H)
  | .bslice d len z places xs => need (evs e xs) fun vs => need (fillL places vs z) fun cs => AllFresh w0 H fun b => K d (.slice (some ⟨b, 0, none⟩) len len) ((b, .cells cs cs.length) :: H)
  | o => stOp P w0 false o e H fun d v => K d v H

def mI (P : Program) (w0 : World) (i : SI) (e : Env) (H : Heap) (K : Env → Heap → Prop) : Prop :=
  match i.g with
  | none => mOp P w0 i.op e H fun d v H' => K ⟨(d, v) :: e.r, e.m⟩ H'
  | some (t, want) => need (lk t e.r) fun u => match u with
    | .bool b => (b = want → mOp P w0 i.op ⟨(t, .bool want) :: e.r, e.m⟩ H fun d v H' => K ⟨(d, v) :: (t, .bool want) :: e.r, e.m⟩ H') ∧
        (b = !want → need i.op.dst fun d => K ⟨(d, undef) :: (t, .bool !want) :: e.r, e.m⟩ H)
    | .tuple _ => need i.op.dst fun d => K ⟨(d, undef) :: e.r, e.m⟩ H
    | _ => False

def runM (P : Program) (w0 : World) : List SI → Env → Heap → (Env → Heap → Prop) → Prop
  | [], e, H, K => K e H
  | i :: l, e, H, K => mI P w0 i e H fun e' H' => runM P w0 l e' H' K

theorem newRow_ok {P : Program} {w0 w : World} {T : TypeId} {cells : Array Value} {H : Heap} (hs : St w0 H w) :
    ∃ b w', (newRow T cells).run P w = .ok ⟨b, 0, none⟩ w' ∧ ¬ b < w0.heap.size ∧ NotIn b H ∧ St w0 ((b, .cells cells.toList cells.toList.length) :: H) w' := by
  have h1 := hs.alloc (.cells cells T) (.cells cells.toList cells.size) ⟨cells, T, (0, 0), World.alloc_heap_new _ _, Nat.le_refl _, rfl, List.prefix_refl _⟩
  refine ⟨w.heap.size, w.alloc (.cells cells T), rfl, Nat.not_lt.2 hs.fresh.1, notIn_of hs.fresh.2, ?_⟩
  simpa using h1

theorem NotIn.sub {b : Nat} {H H' : Heap} (h : NotIn b H) (hs : ∀ p ∈ H', p ∈ H) : NotIn b H' :=
  notIn_of fun hk => by
    obtain ⟨p, hp, he⟩ := List.mem_map.1 hk
    exact h.keys (List.mem_map.2 ⟨p, hs p hp, he⟩)

theorem NotIn.ne {b k : Nat} {x : Blk} {H : Heap} (h : NotIn b H) (hm : (k, x) ∈ H) : k ≠ b := fun he => h.keys (List.mem_map.2 ⟨_, hm, he⟩)

/-- What an operation that makes a block, or leans on one, comes to: its value; more facts. -/
theorem mOp_yields {P : Program} {w0 : World} {r : Option Nat} {o : Oper} {s : SOp} (hc : cOp P o = some s) {e : Env} {H : Heap} {K : Nat → Value → Heap → Prop} (h : mOp P w0 s e H K) :
    ∃ d, s.dst = some d ∧ o.dst = some d ∧ ∀ ρ, (∀ x ∈ o.op.operands, ∀ u, ev e x = some u → ρ x = u) → ∀ HX w, (∀ p ∈ H, p ∈ HX) → St w0 HX w → ∃ nx w1, (o.semAt r ρ).run P w = .ok nx w1 ∧
      ((∃ v, K d v H ∧ w1 = w ∧ (nx = .value v ∨ ∃ g as, nx = .enter g as ∧ CallsIn Fence.wide 0 P g as w fun e w' => e = .returned v ∧ Below w.heap.size w w')) ∨
       (∃ v b x, nx = .value v ∧ K d v ((b, x) :: H) ∧ St w0 ((b, x) :: HX) w1 ∧ NotIn b HX)) := by
  have hdst := cOp_dst hc
  obtain ⟨hsel, hdef⟩ := cOp_plain hc
  have quiet : stOp P w0 false s e H (fun d v => K d v H) → ∃ d, s.dst = some d ∧ o.dst = some d ∧ ∀ ρ, (∀ x ∈ o.op.operands, ∀ u, ev e x = some u → ρ x = u) → ∀ HX w, (∀ p ∈ H, p ∈ HX) → St w0 HX w → ∃ nx w1, (o.semAt r ρ).run P w = .ok nx w1 ∧
      ((∃ v, K d v H ∧ w1 = w ∧ (nx = .value v ∨ ∃ g as, nx = .enter g as ∧ CallsIn Fence.wide 0 P g as w fun e w' => e = .returned v ∧ Below w.heap.size w w')) ∨
       (∃ v b x, nx = .value v ∧ K d v ((b, x) :: H) ∧ St w0 ((b, x) :: HX) w1 ∧ NotIn b HX)) := by
    intro h
    obtain ⟨d, v, h1, h2, hk, hy⟩ := stOp_yields (r := r) hc h
    refine ⟨d, h1, h2, fun ρ hρ HX w hsub hs => ?_⟩
    obtain ⟨nx, hr, hn⟩ := hy ρ hρ w (by simpa using hs.sub hsub)
    exact ⟨nx, w, hr, .inl ⟨v, hk, rfl, hn⟩⟩
  cases s with
  | alloc d z =>
    refine ⟨d, rfl, hdst.symm, fun ρ hρ HX w hsub hs => ?_⟩
    unfold cOp at hc
    split at hc
    · split at hc <;> cases hc
    · split at hc
      · split at hc <;> cases hc
      · split at hc <;> cases hc
      · cases hc
    · rename_i T hx
      split at hc
      · rename_i d2 z2 hd2 hz2
        cases hc
        obtain ⟨b, w', hr, h1, h2, h3⟩ := newRow_ok (P := P) (T := T) (cells := z2.cells) hs
        refine ⟨_, w', ?_, .inr ⟨_, b, _, rfl, h b h1 (h2.sub hsub), h3, h2⟩⟩
        rw [Oper.semAt_eq _ _ _ hdef]
        simp [execOp, hx, Instr.alloc, Sem.run_bind, zero_run hz2 w, Result.andThen, newVar, hr]
      · cases hc
    · simp only [Option.map_eq_some_iff] at hc; obtain ⟨_, _, h⟩ := hc; cases h
    · split at hc
      · split at hc
        · split at hc
          · split at hc <;> cases hc
          · cases hc
        · cases hc
      · cases hc
    · simp only [Option.map_eq_some_iff] at hc; obtain ⟨_, _, h⟩ := hc; cases h
    · cases hc
    · split at hc <;> cases hc
    · split at hc <;> cases hc
  | box d x =>
    obtain ⟨v, hv, h⟩ := h
    refine ⟨d, rfl, hdst.symm, fun ρ hρ HX w hsub hs => ?_⟩
    unfold cOp at hc
    split at hc
    · split at hc <;> cases hc
    · split at hc
      · split at hc <;> cases hc
      · split at hc <;> cases hc
      · cases hc
    · split at hc <;> cases hc
    · rename_i T x' hx
      simp only [Option.map_eq_some_iff] at hc
      obtain ⟨_, _, h'⟩ := hc
      cases h'
      obtain ⟨b, w', hr, h1, h2, h3⟩ := newRow_ok (P := P) (T := T) (cells := v.cells) hs
      refine ⟨_, w', ?_, .inr ⟨_, b, _, rfl, h b h1 (h2.sub hsub), h3, h2⟩⟩
      have hxv := hρ x (by simp [hx, Op.operands]) v hv
      rw [Oper.semAt_eq _ _ _ hdef]
      simp [execOp, hx, Instr.box, Sem.run_bind, Result.andThen, newVar, hxv, hr]
    · split at hc
      · split at hc
        · split at hc
          · split at hc <;> cases hc
          · cases hc
        · cases hc
      · cases hc
    · simp only [Option.map_eq_some_iff] at hc; obtain ⟨_, _, h⟩ := hc; cases h
    · cases hc
    · split at hc <;> cases hc
    · split at hc <;> cases hc
  | bslice d len z places xs =>
    obtain ⟨vs, h1, cs, h2, h⟩ := h
    refine ⟨d, rfl, hdst.symm, fun ρ hρ HX w hsub hs => ?_⟩
    unfold cOp at hc
    split at hc
    · split at hc <;> cases hc
    · split at hc
      · split at hc <;> cases hc
      · split at hc <;> cases hc
      · cases hc
    · split at hc <;> cases hc
    · simp only [Option.map_eq_some_iff] at hc; obtain ⟨_, _, h⟩ := hc; cases h
    · rename_i T len' parts hx
      split at hc
      · rename_i el hu
        split at hc
        · rename_i d' i hd hi
          split at hc
          · rename_i z' hz
            split at hc
            · rename_i hsz
              cases hc
              have hm : ∀ (xs : List Operand) (us : List Value), (∀ x ∈ xs, ∀ u, ev e x = some u → ρ x = u) → evs e xs = some us → xs.map ρ = us := by
                intro xs
                induction xs with
                | nil => intro us _ h; simpa [evs] using h
                | cons x xs ih =>
                  intro us hh h
                  simp only [evs] at h
                  split at h
                  · rename_i v vs' h1 h2
                    cases h
                    simp [hh x (by simp) v h1, ih vs' (fun y hy => hh y (by simp [hy])) h2]
                  · cases h
              have hmap := hm _ vs (fun x hx' => hρ x (by simpa [hx, Op.operands] using hx')) h1
              have hrun := run_buildSlice hu hi hz (len := len) hsz (ps := parts.map fun x => match x with | (i, x) => (i, ρ x)) (cs := cs)
                (by rw [← hmap] at h2; simpa [Function.comp_def] using h2) w
              obtain ⟨b, w', hr, h3, h4, h5⟩ := newRow_ok (P := P) (T := el) (cells := cs.toArray) hs
              refine ⟨_, w', ?_, .inr ⟨_, b, _, rfl, h b h3 (h4.sub hsub), by simpa using h5, h4⟩⟩
              rw [hr] at hrun
              rw [Oper.semAt_eq _ _ _ hdef]
              simp only [execOp, hx, Sem.run_bind, hrun, Result.andThen, Sem.run_pure]
            · cases hc
          · cases hc
        · cases hc
      · cases hc
    · simp only [Option.map_eq_some_iff] at hc; obtain ⟨_, _, h⟩ := hc; cases h
    · cases hc
    · split at hc <;> cases hc
    · split at hc <;> cases hc
  | pure d p xs => exact quiet h
  | load1 d x => exact quiet h
  | loadN d x sz => exact quiet h
  | store1 x v => exact h.elim
  | storeN x v sz => exact h.elim
  | mkslice d T l c => exact h.elim
  | append d Ts T s x => exact h.elim
  | call d f xs => exact quiet h

/-! ### Operations that make a block may come ahead of their turn -/
def opOps : SOp → List Operand
  | .pure _ _ xs => xs
  | .load1 _ x => [x]
  | .loadN _ x _ => [x]
  | .store1 x y => [x, y]
  | .storeN x y _ => [x, y]
  | .alloc _ _ => []
  | .box _ x => [x]
  | .bslice _ _ _ _ xs => xs
  | .mkslice _ _ x y => [x, y]
  | .append _ _ _ x y => [x, y]
  | .call _ f xs => f :: xs

def tmpsOf : List Operand → List Nat
  | [] => []
  | .tmp t :: xs => t :: tmpsOf xs
  | _ :: xs => tmpsOf xs

def siTmps (s : SI) : List Nat := (match s.g with | some (t, _) => [t] | none => []) ++ tmpsOf (opOps s.op)

def isMk (s : SI) : Bool := s.g.isNone && match s.op with | .alloc _ _ | .box _ _ | .bslice _ _ _ _ _ => true | _ => false

structure RelE (D : List (Nat × Value)) (e e2 : Env) : Prop where
  m : e2.m = e.m
  lk : ∀ t, lk t e2.r = lk t (D ++ e.r)

structure RelH (L H H2 : Heap) : Prop where
  get : ∀ b, hget H2 b = hget (L ++ H) b
  mem : ∀ p, p ∈ H2 ↔ p ∈ L ++ H
  new : ∀ p ∈ L, NotIn p.1 H

theorem lk_app {t : Nat} : ∀ {D r : List (Nat × Value)}, (∀ p ∈ D, p.1 ≠ t) → lk t (D ++ r) = lk t r := by
  intro D
  induction D with
  | nil => intro r _; rfl
  | cons p D ih => intro r h; obtain ⟨k, v⟩ := p; exact (lk_cons_ne (h (k, v) (by simp))).trans (ih fun q hq => h q (List.mem_cons_of_mem _ hq))

theorem lk_app_congr {t : Nat} {r r2 : List (Nat × Value)} (hr : lk t r = lk t r2) : ∀ {D : List (Nat × Value)}, lk t (D ++ r) = lk t (D ++ r2) := by
  intro D
  induction D with
  | nil => exact hr
  | cons p D ih =>
    obtain ⟨k, v⟩ := p
    simp only [List.cons_append, lk]
    split
    · rfl
    · exact ih

theorem RelE.cons {D : List (Nat × Value)} {e e2 : Env} (h : RelE D e e2) {d : Nat} (hd : ∀ p ∈ D, p.1 ≠ d) (v : Value) : RelE D ⟨(d, v) :: e.r, e.m⟩ ⟨(d, v) :: e2.r, e2.m⟩ := by
  refine ⟨h.m, fun t => ?_⟩
  by_cases ht : d = t
  · subst ht
    rw [lk_app hd]; simp [Go.SL.lk]
  · show Go.SL.lk t ((d, v) :: e2.r) = Go.SL.lk t (D ++ (d, v) :: e.r)
    rw [lk_cons_ne ht, h.lk t]
    exact lk_app_congr (lk_cons_ne ht).symm

theorem RelE.same {D : List (Nat × Value)} {e e2 : Env} (h : RelE D e e2) {t : Nat} (ht : ∀ p ∈ D, p.1 ≠ t) : Go.SL.lk t e2.r = Go.SL.lk t e.r := by rw [h.lk, lk_app ht]

theorem RelE.ev {D : List (Nat × Value)} {e e2 : Env} (h : RelE D e e2) {x : Operand} (hx : ∀ t ∈ tmpsOf [x], ∀ p ∈ D, p.1 ≠ t) : ev e2 x = ev e x := by
  cases x with
  | tmp t => exact h.same (hx t (by simp [tmpsOf]))
  | const c => rfl
  | global g => rfl
  | func f => rfl

theorem RelE.evs {D : List (Nat × Value)} {e e2 : Env} (h : RelE D e e2) : ∀ {xs : List Operand}, (∀ t ∈ tmpsOf xs, ∀ p ∈ D, p.1 ≠ t) → evs e2 xs = evs e xs := by
  intro xs
  induction xs with
  | nil => intro _; rfl
  | cons x xs ih =>
    intro hx
    simp only [Go.SL.evs]
    rw [h.ev (x := x), ih]
    · intro t ht; refine hx t ?_; cases x <;> simp [tmpsOf, ht]
    · intro t ht; refine hx t ?_; cases x <;> simp [tmpsOf] at ht ⊢; exact .inl ht

theorem hget_app {H : Heap} {b : Nat} : ∀ {L : Heap}, (∀ p ∈ L, p.1 ≠ b) → hget (L ++ H) b = hget H b := by
  intro L
  induction L with
  | nil => intro _; rfl
  | cons p L ih =>
    intro h
    obtain ⟨k, y⟩ := p
    have : k ≠ b := h (k, y) (by simp)
    simp only [List.cons_append, hget]
    rw [if_neg this]
    exact ih fun q hq => h q (List.mem_cons_of_mem _ hq)

theorem hget_app_congr {H H2 : Heap} {b : Nat} (h : hget H b = hget H2 b) : ∀ {L : Heap}, hget (L ++ H) b = hget (L ++ H2) b := by
  intro L
  induction L with
  | nil => exact h
  | cons p L ih =>
    obtain ⟨k, y⟩ := p
    simp only [List.cons_append, hget]
    split
    · rfl
    · exact ih

theorem RelH.some' {L H H2 : Heap} (h : RelH L H H2) {b : Nat} {x : Blk} (hx : hget H b = some x) : hget H2 b = some x := by
  rw [h.get, hget_app, hx]
  intro p hp hb
  exact (h.new p hp).ne (hget_mem hx) hb.symm

theorem RelH.sub {L H H2 : Heap} (h : RelH L H H2) : ∀ p ∈ H, p ∈ H2 := fun p hp => (h.mem p).2 (List.mem_append_right _ hp)

theorem RelH.notIn {L H H2 : Heap} (h : RelH L H H2) {b : Nat} (hb : NotIn b H2) : NotIn b H := hb.sub h.sub

theorem RelH.cons {L H H2 : Heap} (h : RelH L H H2) {b : Nat} (hb : NotIn b H2) (x : Blk) : RelH L ((b, x) :: H) ((b, x) :: H2) := by
  have hL : ∀ p ∈ L, p.1 ≠ b := fun p hp => hb.ne (k := p.1) (x := p.2) ((h.mem p).2 (List.mem_append_left _ hp))
  refine ⟨fun k => ?_, fun p => ?_, fun p hp => ⟨⟨(hL p hp).symm, hL p hp⟩, h.new p hp⟩⟩
  · by_cases hk : b = k
    · subst hk
      rw [hget_app hL]; simp [hget]
    · have h1 : hget ((b, x) :: H2) k = hget H2 k := by simp [hget, hk]
      have h2 : hget ((b, x) :: H) k = hget H k := by simp [hget, hk]
      rw [h1, h.get k]
      exact hget_app_congr h2.symm
  · have := h.mem p
    simp only [List.mem_cons, List.mem_append] at this ⊢
    rw [this]
    exact ⟨fun hh => hh.elim (fun a => .inr (.inl a)) (fun a => a.elim .inl (fun b => .inr (.inr b))), fun hh => hh.elim (fun a => .inr (.inl a)) (fun a => a.elim .inl (fun b => .inr (.inr b)))⟩

theorem RelH.rd1 {L H H2 : Heap} (h : RelH L H H2) {w0 : World} {b o : Nat} {v : Value} (hv : Go.SL.rd1 w0 H b o = Option.some v) : Go.SL.rd1 w0 H2 b o = Option.some v := by
  unfold Go.SL.rd1 at hv ⊢
  split
  · rename_i hb; rwa [if_pos hb] at hv
  · rename_i hb
    rw [if_neg hb] at hv
    cases hx : hget H b with
    | none => rw [hx] at hv; cases hv
    | some x => rw [h.some' hx]; rwa [hx] at hv

theorem RelH.rd {L H H2 : Heap} (h : RelH L H H2) {w0 : World} {b o n : Nat} {v : List Value} (hv : Go.SL.rd w0 H b o n = Option.some v) : Go.SL.rd w0 H2 b o n = Option.some v := by
  unfold Go.SL.rd at hv ⊢
  split
  · rename_i hb; rwa [if_pos hb] at hv
  · rename_i hb
    rw [if_neg hb] at hv
    cases hx : hget H b with
    | none => rw [hx] at hv; cases hv
    | some x => rw [h.some' hx]; rwa [hx] at hv

theorem mOp_rel {P : Program} {w0 : World} {D : List (Nat × Value)} {L H H2 : Heap} {e e2 : Env} {o : SOp} {K1 K2 : Nat → Value → Heap → Prop} (h : mOp P w0 o e H K1) (he : RelE D e e2) (hh : RelH L H H2)
    (hx : ∀ t ∈ tmpsOf (opOps o), ∀ p ∈ D, p.1 ≠ t) (hk : ∀ d v H', o.dst = some d → K1 d v H' → ∀ H2', RelH L H' H2' → K2 d v H2') : mOp P w0 o e2 H2 K2 := by
  cases o with
  | pure d p xs =>
    obtain ⟨vs, h1, v, h2, h3⟩ := h
    exact ⟨vs, (he.evs hx).trans h1, v, h2, hk d v H rfl h3 H2 hh⟩
  | load1 d x =>
    obtain ⟨a, h1, p, h2, v, h3, h4⟩ := h
    exact ⟨a, (he.ev hx).trans h1, p, h2, v, hh.rd1 h3, hk d v H rfl h4 H2 hh⟩
  | loadN d x sz =>
    obtain ⟨a, h1, p, h2, v, h3, h4⟩ := h
    exact ⟨a, (he.ev hx).trans h1, p, h2, v, hh.rd h3, hk d _ H rfl h4 H2 hh⟩
  | store1 x v => exact h.elim
  | storeN x v sz => exact h.elim
  | mkslice d T l c => exact h.elim
  | append d Ts T s x => exact h.elim
  | call d f xs =>
    cases d with
    | none => exact h.elim
    | some d =>
      obtain ⟨hf, fv, h1, vs, h2, v, h3, h4⟩ := h
      refine ⟨hf, fv, (he.ev fun t ht => hx t ?_).trans h1, vs, (he.evs fun t ht => hx t ?_).trans h2, v, fun w hs => h3 w (hs.sub hh.sub), hk d v H rfl h4 H2 hh⟩
      · cases f <;> simp [opOps, tmpsOf] at ht ⊢; exact .inl ht
      · cases f <;> simp [opOps, tmpsOf, ht]
  | alloc d z => exact fun b hb hf => hk d _ _ rfl (h b hb (hh.notIn hf)) _ (hh.cons hf _)
  | box d x =>
    obtain ⟨v, h1, h2⟩ := h
    exact ⟨v, (he.ev hx).trans h1, fun b hb hf => hk d _ _ rfl (h2 b hb (hh.notIn hf)) _ (hh.cons hf _)⟩
  | bslice d len z places xs =>
    obtain ⟨vs, h1, cs, h2, h3⟩ := h
    exact ⟨vs, (he.evs hx).trans h1, cs, h2, fun b hb hf => hk d _ _ rfl (h3 b hb (hh.notIn hf)) _ (hh.cons hf _)⟩

theorem lk_known {t t' : Nat} {v : Value} {r : List (Nat × Value)} (h : lk t r = some v) : lk t' ((t, v) :: r) = lk t' r := by
  by_cases h1 : t = t'
  · subst h1; rw [lk_cons_eq, h]
  · exact lk_cons_ne h1

theorem mI_rel {P : Program} {w0 : World} {D : List (Nat × Value)} {L H H2 : Heap} {e e2 : Env} {i : SI} {K1 K2 : Env → Heap → Prop} (h : mI P w0 i e H K1) (he : RelE D e e2) (hh : RelH L H H2)
    (hx : ∀ t ∈ siTmps i, ∀ p ∈ D, p.1 ≠ t) (hd : ∀ d, i.op.dst = some d → ∀ p ∈ D, p.1 ≠ d)
    (hk : ∀ e' H', K1 e' H' → (∀ t, i.op.dst ≠ some t → lk t e'.r = lk t e.r) → ∀ e2' H2', RelE D e' e2' → RelH L H' H2' → K2 e2' H2') : mI P w0 i e2 H2 K2 := by
  obtain ⟨g, op⟩ := i
  cases g with
  | none =>
    show mOp P w0 op e2 H2 fun d v H' => K2 ⟨(d, v) :: e2.r, e2.m⟩ H'
    refine mOp_rel (K1 := fun d v H' => K1 ⟨(d, v) :: e.r, e.m⟩ H') h he hh (fun t ht => hx t (by simpa [siTmps] using ht)) fun d v H' hd' hk1 H2' hh' => ?_
    exact hk _ _ hk1 (fun t ht => lk_cons_ne fun hh => ht (by rw [← hh]; exact hd')) _ _ (he.cons (hd d hd') v) hh'
  | some g =>
    obtain ⟨t, want⟩ := g
    obtain ⟨u, hu, h⟩ := h
    have ht : ∀ p ∈ D, p.1 ≠ t := hx t (by simp [siTmps])
    refine ⟨u, (he.same ht).trans hu, ?_⟩
    cases u <;> simp only at h ⊢
    case tuple us =>
      obtain ⟨d, hd', hk1⟩ := h
      exact ⟨d, hd', hk _ _ hk1 (fun t' ht' => lk_cons_ne fun hh => ht' (by rw [← hh]; exact hd')) _ _ (he.cons (hd d hd') _) hh⟩
    rename_i b
    refine ⟨fun hb => ?_, fun hb => ?_⟩
    · subst hb
      refine mOp_rel (h.1 rfl) (he.cons ht _) hh (fun t ht => hx t (List.mem_append_right _ ht)) fun d v H' hd' hk1 H2' hh' => ?_
      exact hk _ _ hk1 (fun t' ht' => (lk_cons_ne fun hh => ht' (by rw [← hh]; exact hd')).trans (lk_known hu)) _ _ ((he.cons ht _).cons (hd d hd') v) hh'
    · subst hb
      obtain ⟨d, hd', hk1⟩ := h.2 rfl
      refine ⟨d, hd', hk _ _ hk1 (fun t' ht' => (lk_cons_ne fun hh => ht' (by rw [← hh]; exact hd')).trans (lk_known hu)) _ _ ((he.cons ht _).cons (hd d hd') _) hh⟩

theorem runM_rel {P : Program} {w0 : World} {D : List (Nat × Value)} {L : Heap} {K1 K2 : Env → Heap → Prop} (hk : ∀ e' H', K1 e' H' → ∀ e2' H2', RelE D e' e2' → RelH L H' H2' → K2 e2' H2') :
    ∀ {l : List SI} {H H2 : Heap} {e e2 : Env}, runM P w0 l e H K1 → RelE D e e2 → RelH L H H2 → (∀ i ∈ l, (∀ t ∈ siTmps i, ∀ p ∈ D, p.1 ≠ t) ∧ ∀ d, i.op.dst = some d → ∀ p ∈ D, p.1 ≠ d) → runM P w0 l e2 H2 K2 := by
  intro l
  induction l with
  | nil => intro H H2 e e2 h he hh _; exact hk _ _ h _ _ he hh
  | cons i l ih =>
    intro H H2 e e2 h he hh hd
    refine mI_rel h he hh (hd i (by simp)).1 (hd i (by simp)).2 fun e' H' hk' _ e2' H2' he' hh' => ?_
    exact ih hk' he' hh' fun j hj => hd j (List.mem_cons_of_mem _ hj)

theorem RelE.rfl' (e : Env) : RelE [] e e := ⟨rfl, fun _ => rfl⟩
theorem RelH.rfl' (H : Heap) : RelH [] H H := ⟨fun _ => rfl, fun _ => Iff.rfl, fun _ h => nomatch h⟩
theorem RelE.trans' {e e1 e2 : Env} (h : RelE [] e e1) (h2 : RelE [] e1 e2) : RelE [] e e2 := ⟨h2.m.trans h.m, fun t => (h2.lk t).trans (h.lk t)⟩
theorem RelH.trans' {e e1 e2 : Heap} (h : RelH [] e e1) (h2 : RelH [] e1 e2) : RelH [] e e2 := ⟨fun b => (h2.get b).trans (h.get b), fun p => (h2.mem p).trans (h.mem p), fun _ h => nomatch h⟩

/-- What holds of a state that is the same but for the order of its facts. -/
def KC (K : Env → Heap → Prop) (e2 : Env) (H2 : Heap) : Prop := ∃ e H, K e H ∧ RelE [] e e2 ∧ RelH [] H H2

theorem KC.of {K : Env → Heap → Prop} {e : Env} {H : Heap} (h : K e H) : KC K e H := ⟨e, H, h, .rfl' e, .rfl' H⟩

theorem runM_KC {P : Program} {w0 : World} {K : Env → Heap → Prop} {l : List SI} {H H2 : Heap} {e e2 : Env} (h : runM P w0 l e H (KC K)) (he : RelE [] e e2) (hh : RelH [] H H2) : runM P w0 l e2 H2 (KC K) :=
  runM_rel (fun _ _ ⟨e0, H0, hk, h1, h2⟩ _ _ h3 h4 => ⟨e0, H0, hk, h1.trans' h3, h2.trans' h4⟩) h he hh fun i hi => ⟨fun _ _ p hp => (nomatch hp), fun _ _ p hp => (nomatch hp)⟩

theorem runM_toKC {P : Program} {w0 : World} {K : Env → Heap → Prop} {l : List SI} {H : Heap} {e : Env} (h : runM P w0 l e H K) : runM P w0 l e H (KC K) :=
  runM_rel (fun _ _ hk _ _ h3 h4 => ⟨_, _, hk, h3, h4⟩) h (.rfl' e) (.rfl' H) fun i hi => ⟨fun _ _ p hp => (nomatch hp), fun _ _ p hp => (nomatch hp)⟩

/-- What an operation that makes a block makes. -/
def mkA (o : SOp) (e : Env) : Option (Nat × List Value × (Nat → Value)) :=
  match o with
  | .alloc d z => some (d, z, fun b => .pointer (some ⟨b, 0, none⟩))
  | .box d x => (ev e x).map fun v => (d, v.cells.toList, fun b => .pointer (some ⟨b, 0, none⟩))
  | .bslice d len z places xs => (evs e xs).bind fun vs => (fillL places vs z).map fun cs => (d, cs, fun b => .slice (some ⟨b, 0, none⟩) len len)
  | _ => none

theorem mOp_mk {P : Program} {w0 : World} {i : SI} (hm : isMk i = true) {e : Env} {H : Heap} {K : Env → Heap → Prop} :
    mI P w0 i e H K ↔ ∃ d c V, mkA i.op e = some (d, c, V) ∧ AllFresh w0 H fun b => K ⟨(d, V b) :: e.r, e.m⟩ ((b, .cells c c.length) :: H) := by
  obtain ⟨g, op⟩ := i
  cases g with
  | some g => simp [isMk] at hm
  | none =>
    cases op with
    | alloc d z => exact ⟨fun h => ⟨d, z, _, rfl, h⟩, fun ⟨_, _, _, h1, h2⟩ => by cases h1; exact h2⟩
    | box d x =>
      refine ⟨fun ⟨v, h1, h2⟩ => ⟨d, _, _, by simp only [mkA, h1]; rfl, h2⟩, fun ⟨_, _, _, h1, h2⟩ => ?_⟩
      simp only [mkA, Option.map_eq_some_iff] at h1
      obtain ⟨v, h3, h4⟩ := h1
      cases h4
      exact ⟨v, h3, h2⟩
    | bslice d len z places xs =>
      constructor
      · intro h
        obtain ⟨vs, h1, cs, h2, h3⟩ := h
        exact ⟨d, cs, _, by simp only [mkA, h1, Option.bind_some, h2]; rfl, h3⟩
      · intro h
        obtain ⟨d', c', V', h1, h2⟩ := h
        simp only [mkA, Option.bind_eq_some_iff, Option.map_eq_some_iff] at h1
        obtain ⟨vs, h3, cs, h4, h5⟩ := h1
        cases h5
        exact ⟨vs, h3, _, h4, h2⟩
    | _ => simp [isMk] at hm

theorem mkA_same {o : SOp} {e e2 : Env} (h : ∀ t ∈ tmpsOf (opOps o), lk t e2.r = lk t e.r) : mkA o e2 = mkA o e := by
  have hev : ∀ x, (∀ t ∈ tmpsOf [x], lk t e2.r = lk t e.r) → ev e2 x = ev e x := by
    intro x hx
    cases x with
    | tmp t => exact hx t (by simp [tmpsOf])
    | const c => rfl
    | global g => rfl
    | func f => rfl
  have hevs : ∀ xs, (∀ t ∈ tmpsOf xs, lk t e2.r = lk t e.r) → evs e2 xs = evs e xs := by
    intro xs
    induction xs with
    | nil => intro _; rfl
    | cons x xs ih =>
      intro hx
      simp only [evs]
      rw [hev x, ih]
      · intro t ht; refine hx t ?_; cases x <;> simp [tmpsOf, ht]
      · intro t ht; refine hx t ?_; cases x <;> simp [tmpsOf] at ht ⊢; exact .inl ht
  cases o with
  | box d x => simp only [mkA]; rw [hev x h]
  | bslice d len z places xs => simp only [mkA]; rw [hevs xs h]
  | _ => rfl

theorem fresh_exists (w0 : World) (H : Heap) : ∃ b, ¬ b < w0.heap.size ∧ NotIn b H := by
  refine ⟨(keys H).foldr max 0 + w0.heap.size + 1, by omega, notIn_of fun h => ?_⟩
  have : ∀ (l : List Nat) (k : Nat), k ∈ l → k ≤ l.foldr max 0 := by
    intro l
    induction l with
    | nil => intro k hk; cases hk
    | cons a l ih =>
      intro k hk
      rcases List.mem_cons.1 hk with rfl | hk
      · simp only [List.foldr_cons]; omega
      · have := ih k hk; simp only [List.foldr_cons]; omega
  have := this _ _ h
  omega

theorem mI_ex {P : Program} {w0 : World} {i : SI} {e : Env} {H : Heap} {K : Env → Heap → Prop} (h : mI P w0 i e H K) : ∃ e' H', K e' H' ∧ ∀ t, i.op.dst ≠ some t → lk t e'.r = lk t e.r := by
  have key : ∀ (o : SOp) (e : Env) (K : Nat → Value → Heap → Prop), mOp P w0 o e H K → ∃ d v H', o.dst = some d ∧ K d v H' := by
    intro o e K h
    cases o with
    | pure d p xs => obtain ⟨vs, h1, v, h2, h3⟩ := h; exact ⟨d, v, H, rfl, h3⟩
    | load1 d x => obtain ⟨a, h1, p, h2, v, h3, h4⟩ := h; exact ⟨d, v, H, rfl, h4⟩
    | loadN d x sz => obtain ⟨a, h1, p, h2, v, h3, h4⟩ := h; exact ⟨d, _, H, rfl, h4⟩
    | store1 x v => exact h.elim
    | storeN x v sz => exact h.elim
    | mkslice d T l c => exact h.elim
    | append d Ts T s x => exact h.elim
    | call d f xs =>
      cases d with
      | none => exact h.elim
      | some d => obtain ⟨hf, fv, h1, vs, h2, v, h3, h4⟩ := h; exact ⟨d, v, H, rfl, h4⟩
    | alloc d z => obtain ⟨b, hb, hf⟩ := fresh_exists w0 H; exact ⟨d, _, _, rfl, h b hb hf⟩
    | box d x => obtain ⟨v, h1, h2⟩ := h; obtain ⟨b, hb, hf⟩ := fresh_exists w0 H; exact ⟨d, _, _, rfl, h2 b hb hf⟩
    | bslice d len z places xs => obtain ⟨vs, h1, cs, h2, h3⟩ := h; obtain ⟨b, hb, hf⟩ := fresh_exists w0 H; exact ⟨d, _, _, rfl, h3 b hb hf⟩
  obtain ⟨g, op⟩ := i
  cases g with
  | none =>
    obtain ⟨d, v, H', hd, hk⟩ := key op e (fun d v H' => K ⟨(d, v) :: e.r, e.m⟩ H') h
    exact ⟨_, _, hk, fun t ht => lk_cons_ne fun hh => ht (by rw [← hh]; exact hd)⟩
  | some g =>
    obtain ⟨t, want⟩ := g
    obtain ⟨u, hu, h⟩ := h
    cases u <;> simp only at h
    case tuple us =>
      obtain ⟨d, hd, hk⟩ := h
      exact ⟨_, _, hk, fun t' ht => lk_cons_ne fun hh => ht (by rw [← hh]; exact hd)⟩
    rename_i b
    by_cases hb : b = want
    · subst hb
      obtain ⟨d, v, H', hd, hk⟩ := key op _ _ (h.1 rfl)
      exact ⟨_, _, hk, fun t' ht => (lk_cons_ne fun hh => ht (by rw [← hh]; exact hd)).trans (lk_known hu)⟩
    · have hb2 : b = !want := by cases b <;> cases want <;> simp_all
      subst hb2
      obtain ⟨d, hd, hk⟩ := h.2 rfl
      exact ⟨_, _, hk, fun t' ht => (lk_cons_ne fun hh => ht (by rw [← hh]; exact hd)).trans (lk_known hu)⟩

/-- **AHEAD OF ITS TURN**: an operation that makes a block may be run ahead of those that neither look at it nor write what it looks at. -/
theorem runM_pull {P : Program} {w0 : World} {K : Env → Heap → Prop} {i : SI} (hm : isMk i = true) {post : List SI} : ∀ {pre : List SI} {e : Env} {H : Heap}, runM P w0 (pre ++ i :: post) e H (KC K) →
    (∀ j ∈ pre, (∀ d, i.op.dst = some d → d ∉ siTmps j ∧ j.op.dst ≠ some d) ∧ ∀ d, j.op.dst = some d → d ∉ siTmps i) → mI P w0 i e H fun e' H' => runM P w0 (pre ++ post) e' H' (KC K) := by
  have htm : siTmps i = tmpsOf (opOps i.op) := by
    obtain ⟨g, op⟩ := i
    cases g with
    | none => simp [siTmps]
    | some g => simp [isMk] at hm
  have hdst : ∀ e d c V, mkA i.op e = some (d, c, V) → i.op.dst = some d := by
    intro e d c V h
    obtain ⟨g, op⟩ := i
    cases op with
    | alloc d z => cases h; rfl
    | box d x => simp only [mkA, Option.map_eq_some_iff] at h; obtain ⟨v, _, h⟩ := h; cases h; rfl
    | bslice d len z places xs => simp only [mkA, Option.bind_eq_some_iff, Option.map_eq_some_iff] at h; obtain ⟨_, _, _, _, h⟩ := h; cases h; rfl
    | _ => cases h
  intro pre
  induction pre with
  | nil =>
    intro e H h _
    exact h
  | cons j pre ih =>
    intro e H h hc
    have hj := hc j (by simp)
    have hstep : ∀ e' H', runM P w0 (pre ++ i :: post) e' H' (KC K) → ∃ d c V, mkA i.op e' = some (d, c, V) ∧ AllFresh w0 H' fun b => runM P w0 (pre ++ post) ⟨(d, V b) :: e'.r, e'.m⟩ ((b, .cells c c.length) :: H') (KC K) :=
      fun e' H' h => (mOp_mk hm).1 (ih h fun k hk => hc k (List.mem_cons_of_mem _ hk))
    have hsame : ∀ e' : Env, (∀ t, j.op.dst ≠ some t → lk t e'.r = lk t e.r) → mkA i.op e' = mkA i.op e := fun e' hs => mkA_same fun t ht => hs t fun hh => hj.2 t hh (by rw [htm]; exact ht)
    obtain ⟨e1, H1, hk1, hs1⟩ := mI_ex (show mI P w0 j e H _ from h)
    obtain ⟨d, c, V, h1, _⟩ := hstep e1 H1 hk1
    rw [hsame e1 hs1] at h1
    have hd := hdst _ _ _ _ h1
    refine (mOp_mk hm).2 ⟨d, c, V, h1, fun b hb hf => ?_⟩
    refine mI_rel (D := [(d, V b)]) (L := [(b, .cells c c.length)]) (show mI P w0 j e H _ from h) ⟨rfl, fun _ => rfl⟩ ⟨fun _ => rfl, fun _ => Iff.rfl, fun p hp => by simp at hp; subst hp; exact hf⟩ ?_ ?_ ?_
    · intro t ht p hp hpt
      simp at hp; subst hp
      exact (hj.1 d hd).1 (by rw [show d = t from hpt]; exact ht)
    · intro t ht p hp hpt
      simp at hp; subst hp
      exact (hj.1 d hd).2 (by rw [show d = t from hpt]; exact ht)
    · intro e' H' hk' hs' e2' H2' he' hh'
      obtain ⟨d', c', V', h3, h4⟩ := hstep e' H' hk'
      rw [hsame e' hs', h1] at h3
      cases h3
      exact runM_KC (h4 b hb (hh'.new (b, .cells c c.length) (by simp))) ⟨he'.m, he'.lk⟩ ⟨hh'.get, hh'.mem, fun _ h => nomatch h⟩

/-- What the small operation looks at the operation looks at; what makes a block by its look does so. -/
def siOk (ops : Array Oper) (i : Nat) (si : SI) : Bool := (siTmps si).all (fun t => (looksAtI ops i).contains t) && (!mkAt ops i || isMk si)

theorem All2.split {α β : Type} {R : α → β → Prop} : ∀ {pre : List α} {x : α} {post : List α} {l : List β}, All2 R (pre ++ x :: post) l → ∃ lp y lq, l = lp ++ y :: lq ∧ All2 R pre lp ∧ R x y ∧ All2 R post lq := by
  intro pre
  induction pre with
  | nil => intro x post l h; cases h with | cons h1 h2 => exact ⟨[], _, _, rfl, .nil, h1, h2⟩
  | cons a pre ih =>
    intro x post l h
    cases h with
    | cons h1 h2 =>
      obtain ⟨lp, y, lq, rfl, h3, h4, h5⟩ := ih h2
      exact ⟨_ :: lp, y, lq, rfl, .cons h1 h3, h4, h5⟩

theorem All2.append {α β : Type} {R : α → β → Prop} {p q : List α} {lp lq : List β} (h : All2 R p lp) (h2 : All2 R q lq) : All2 R (p ++ q) (lp ++ lq) := by
  induction h with
  | nil => exact h2
  | cons h1 _ ih => exact .cons h1 ih

theorem All2.right {α β : Type} {R : α → β → Prop} {p : List α} {lp : List β} (h : All2 R p lp) : ∀ y ∈ lp, ∃ x ∈ p, R x y := by
  induction h with
  | nil => intro y hy; cases hy
  | cons h1 _ ih =>
    intro y hy
    rcases List.mem_cons.1 hy with rfl | hy
    · exact ⟨_, by simp, h1⟩
    · obtain ⟨x, hx, hr⟩ := ih y hy; exact ⟨x, List.mem_cons_of_mem _ hx, hr⟩

theorem cI_dst {P : Program} {n : Nat} {ops : Array Oper} {o : Oper} {si : SI} (h : cI P n ops o = some si) : si.op.dst = o.dst := by
  unfold cI at h
  split at h
  · split at h
    · simp only [Option.map_eq_some_iff] at h; obtain ⟨s, hs, rfl⟩ := h; exact cOp_dst hs
    · split at h
      · simp only [Option.map_eq_some_iff] at h; obtain ⟨s, hs, rfl⟩ := h; exact cOp_dst hs
      · cases h
  · cases h

section sim
variable {P : Program} {w0 : World} {r : Option Nat} {n : Nat} {ops : Array Oper} {S : List Nat} {A : Option Nat} {M R : List Nat} {fl : Nat → Bool} {Q : Exit → Act → World → Prop} {K : Env → Heap → Prop}
  {e1 : Env} {H : Heap} {dA : Nat} {cA : List Value}

/-- One such operation's turn. -/
theorem m_step {X : Nat → Prop} {i : Nat} {o : Oper} {si : SI} {e : Env} {HM HX : Heap} {KM : Env → Heap → Prop} {a : Act} {w : World} {next : Act → World → Prop} (ho : ops[i]? = some o) (hc : cI P n ops o = some si)
    (h : mI P w0 si e HM KM) (hsub : ∀ p ∈ HM, p ∈ HX) (hs : St w0 HX w) (he : EnvBut n X e a) (hx : ∀ t ∈ o.looksAt ops, ¬ X t)
    (hn : ∀ d v e' H' HX' a' w', o.dst = some d → a' = a.put o.dst v → KM e' H' → e'.m = e.m → EnvBut n X e' a' → (∀ t, t ≠ d → lk t e'.r = lk t e.r) → St w0 HX' w' → (∀ p ∈ HX, p ∈ HX') → (∀ p ∈ H', p ∈ HX') → (∀ p ∈ HM, p ∈ H') →
      (∀ b x, (b, x) ∈ HX → NotIn b HM → NotIn b H') → next a' w') :
    wpOpIn (Fr r) 0 P ops Q i next a w := by
  unfold wpOpIn
  simp only [ho]
  unfold cI at hc
  split at hc
  · rename_i hd
    have run : ∀ (s : SOp) (e2 : Env) (K2 : Nat → Value → Heap → Prop), cOp P o = some s → mOp P w0 s e2 HM K2 → EnvBut n X e2 a →
        (∀ d v H', o.dst = some d → K2 d v H' → KM ⟨(d, v) :: e2.r, e2.m⟩ H') → e2.m = e.m → (∀ t, lk t e2.r = lk t e.r) → o.wpIn (Fr r) 0 P a w next Q := by
      intro s e2 K2 hcs h2 he2 hk2 hm2 hl2
      obtain ⟨d, _, hod, hy⟩ := mOp_yields (r := r) hcs h2
      obtain ⟨nx, w1, hr, hres⟩ := hy a.eval (fun x hx' u hu => by
        cases x with
        | tmp t => have := he2.get t u hu (hx t (mem_looks hx')); simp [Act.eval, this]
        | const c => simpa [ev, Act.eval] using hu
        | global g => simpa [ev, Act.eval] using hu
        | func f => simpa [ev, Act.eval] using hu) HX w hsub hs
      refine ⟨fun _ _ => trivial, ?_⟩
      show o.uponIn (Fr r) 0 P a next Q ((o.semAt r a.eval).run P w)
      rw [hr]
      have hput : ∀ v, EnvBut n X ⟨(d, v) :: e2.r, e2.m⟩ (a.put o.dst v) := fun v => by
        have := he2.put o.dst (dstOk_lt hd) v
        rw [hod] at this ⊢
        exact this
      have hoth : ∀ v t, t ≠ d → lk t ((d, v) :: e2.r) = lk t e.r := fun v t ht => (lk_cons_ne (Ne.symm ht)).trans (hl2 t)
      rcases hres with ⟨v, hk, rfl, hnx⟩ | ⟨v, b, x, rfl, hk, hst, hf⟩
      · rcases hnx with rfl | ⟨g, as, rfl, hcall⟩
        · exact hn d v _ HM HX _ _ hod rfl (hk2 d v HM hod hk) hm2 (hput v) (hoth v) hs (fun _ h => h) hsub (fun _ h => h) (fun _ _ _ h => h)
        · refine ⟨fun hh => by simp [Fr, Fence.wide] at hh, ?_⟩
          refine CallsIn.mono (F := Fr r) hcall ?_
          rintro e' w'' ⟨rfl, hb⟩
          exact hn d v _ HM HX _ _ hod rfl (hk2 d v HM hod hk) hm2 (hput v) (hoth v) (hs.other hb) (fun _ h => h) hsub (fun _ h => h) (fun _ _ _ h => h)
      · refine hn d v _ ((b, x) :: HM) ((b, x) :: HX) _ _ hod rfl (hk2 d v _ hod hk) hm2 (hput v) (hoth v) hst (fun _ h => List.mem_cons_of_mem _ h) ?_ (fun _ h => List.mem_cons_of_mem _ h) ?_
        · intro p hp
          rcases List.mem_cons.1 hp with rfl | hp
          · simp
          · exact List.mem_cons_of_mem _ (hsub p hp)
        · intro k y hky hni
          have := hf.ne hky
          exact ⟨⟨Ne.symm this, this⟩, hni⟩
    simp only [mI] at h
    split at hc
    · rename_i hg
      simp only [Option.map_eq_some_iff] at hc
      obtain ⟨s, hc, rfl⟩ := hc
      have hw : Region.wanted o (yielded ops a.tmps) = true := by simp [Region.wanted, hg]
      simp only [hw, if_true]
      exact run s e _ hc h he (fun _ _ _ _ hk => hk) rfl fun _ => rfl
    · rename_i j want hg
      split at hc
      · rename_i t ht
        simp only [Option.map_eq_some_iff] at hc
        obtain ⟨s, hc, rfl⟩ := hc
        obtain ⟨v, hv, h⟩ := h
        cases v <;> simp only at h
        case tuple us =>
          have htl : t ∈ o.looksAt ops := by
            unfold Oper.looksAt
            refine List.mem_append_right _ ?_
            simp [hg, ht]
          have hy : yielded ops a.tmps j = none := by
            unfold yielded
            rw [ht]
            simp [he.get t _ hv (hx t htl)]
          have hwd : Region.wanted o (yielded ops a.tmps) = false := by simp [Region.wanted, hg, hy]
          rw [hwd]
          simp only [Bool.false_eq_true, if_false]
          refine ⟨fun _ _ => trivial, ?_⟩
          obtain ⟨d, hdd, hk⟩ := h
          have hod : o.dst = some d := by rw [← cOp_dst hc]; exact hdd
          have hp := he.put o.dst (dstOk_lt hd) undef
          refine hn d undef _ HM HX _ _ hod rfl hk rfl ?_ ?_ hs (fun _ h => h) hsub (fun _ h => h) (fun _ _ _ h => h)
          · rw [hod] at hp ⊢; exact hp
          · intro t' ht'
            exact lk_cons_ne (Ne.symm ht')
        rename_i b
        have htl : t ∈ o.looksAt ops := by
          unfold Oper.looksAt
          refine List.mem_append_right _ ?_
          simp [hg, ht]
        have hy : yielded ops a.tmps j = some b := by
          unfold yielded
          rw [ht]
          simp [he.get t _ hv (hx t htl)]
        have hwd : Region.wanted o (yielded ops a.tmps) = (b == want) := by simp [Region.wanted, hg, hy]
        have hl2 : ∀ t', lk t' ((t, .bool b) :: e.r) = lk t' e.r := by
          intro t'
          by_cases h1 : t = t'
          · subst h1; rw [lk_cons_eq, hv]
          · exact lk_cons_ne h1
        have he2 : EnvBut n X ⟨(t, .bool b) :: e.r, e.m⟩ a := ⟨he.size, fun t' u ht' hx' => he.get t' u (by rwa [hl2] at ht') hx', he.defers⟩
        rw [hwd]
        by_cases hbw : b = want
        · subst hbw
          simp only [beq_self_eq_true, if_true]
          exact run s ⟨(t, .bool b) :: e.r, e.m⟩ _ hc (h.1 rfl) he2 (fun _ _ _ _ hk => hk) rfl hl2
        · have h3 : (b == want) = false := by simpa using hbw
          have h4 : b = !want := by cases b <;> cases want <;> simp_all
          simp only [h3, Bool.false_eq_true, if_false]
          refine ⟨fun _ _ => trivial, ?_⟩
          obtain ⟨d, hdd, hk⟩ := h.2 h4
          have hod : o.dst = some d := by rw [← cOp_dst hc]; exact hdd
          have hp := (h4 ▸ he2).put o.dst (dstOk_lt hd) undef
          refine hn d undef _ HM HX _ _ hod rfl hk rfl ?_ ?_ hs (fun _ h => h) hsub (fun _ h => h) (fun _ _ _ h => h)
          · rw [hod] at hp ⊢; exact hp
          · intro t' ht'
            refine (lk_cons_ne (Ne.symm ht')).trans ?_
            have := hl2 t'
            rwa [h4] at this
      · cases hc
  · cases hc

/-- Behind the first of those that come last. -/
structure Late (P : Program) (w0 : World) (n : Nat) (ops : Array Oper) (S : List Nat) (A : Option Nat) (M R : List Nat) (K : Env → Heap → Prop) (e1 : Env)
    (Rd Rr : List Nat) (sis : List SI) (listed : Array Bool) (a : Act) (w : World) (eR : Env) (HR : Heap) : Prop where
  part : R = Rd ++ Rr
  some : Rd ≠ []
  done : ∀ x ∈ Rd, listed.getD x true = true
  open_ : ∀ x ∈ Rr, listed.getD x true = false
  made : All2 (fun i si => ∃ o, ops[i]? = .some o ∧ cI P n ops o = .some si) Rr sis
  rest : runOps P w0 sis eR HR K
  st : St w0 HR w
  env : EnvBut n (Pend ops S listed) eR a
  m : eR.m = e1.m
  same : ∀ t, (∀ x ∈ R, dstAt ops x ≠ .some t) → (∀ x, A = .some x → dstAt ops x ≠ .some t) → (∀ x ∈ M, dstAt ops x ≠ .some t) → lk t eR.r = lk t e1.r

/-- Ahead of them. -/
structure Early (P : Program) (w0 : World) (n : Nat) (ops : Array Oper) (S : List Nat) (A : Option Nat) (M R : List Nat) (KM : Env → Heap → Prop) (e1 : Env) (H : Heap) (dA : Nat) (cA : List Value)
    (Mr : List Nat) (sis : List SI) (eM : Env) (HM HX : Heap) (listed : Array Bool) (a : Act) (w : World) : Prop where
  open_ : ∀ x ∈ R, listed.getD x true = false
  part : ∀ x ∈ M, listed.getD x true = true ∨ x ∈ Mr
  subM : Mr.Sublist M
  openM : ∀ x ∈ Mr, listed.getD x true = false
  made : All2 (fun i si => (∃ o, ops[i]? = some o ∧ cI P n ops o = some si) ∧ siOk ops i si = true) Mr sis
  rest : runM P w0 sis eM HM (KC KM)
  m : eM.m = e1.m
  same : ∀ t, (∀ x ∈ M, dstAt ops x ≠ some t) → lk t eM.r = lk t e1.r
  sub1 : ∀ p ∈ H, p ∈ HM
  sub2 : ∀ p ∈ HM, p ∈ HX
  st : St w0 HX w
  env : EnvBut n (fun t => Pend ops S listed t ∨ (A.isSome = true ∧ t = dA)) eM a
  aDone : ∀ x, A = some x → listed.getD x true = true → ∃ b, ¬ b < w0.heap.size ∧ NotIn b HM ∧ (b, Blk.cells cA cA.length) ∈ HX ∧ a.tmps[dA]? = some (.pointer (some ⟨b, 0, none⟩))

theorem getD_set {listed : Array Bool} {i j : Nat} (hi : i < listed.size) : (listed.setIfInBounds i true).getD j true = if i = j then true else listed.getD j true := by
  by_cases h : i = j
  · subst h; simp [hi]
  · rw [getD_set_ne true h, if_neg h]

/-- A quiet operation's turn: whatever world it is, its value comes. -/
theorem quiet_step {next : Act → World → Prop} {HH HX : Heap} {i : Nat} {o : Oper} {d : Nat} {a : Act} {w : World} (ho : ops[i]? = some o) (hy : Yl P w0 r ops HH e1 o d)
    (hk : ∀ t ∈ o.looksAt ops, ∀ u, lk t e1.r = some u → a.tmps[t]? = some u) (hs : St w0 HX w) (hsub : St w0 HX w → St w0 HH w)
    (hn : ∀ v w', lk d e1.r = some v → St w0 HX w' → next (a.put o.dst v) w') : wpOpIn (Fr r) 0 P ops Q i next a w := by
  obtain ⟨hd, v, hv, hrun⟩ := hy
  obtain ⟨h1, h2⟩ := hrun a w hk (hsub hs)
  unfold wpOpIn
  simp only [ho]
  cases hw : Region.wanted o (yielded ops a.tmps) with
  | false =>
    simp only [Bool.false_eq_true, if_false]
    refine ⟨fun _ _ => trivial, ?_⟩
    rw [← h2 hw]
    exact hn v w hv hs
  | true =>
    simp only [if_true]
    obtain ⟨nx, hr, hnx⟩ := h1 hw
    refine ⟨fun _ _ => trivial, ?_⟩
    show o.uponIn (Fr r) 0 P a next Q ((o.semAt r a.eval).run P w)
    rw [hr]
    rcases hnx with rfl | ⟨g, as, rfl, hc⟩
    · exact hn v w hv hs
    · refine ⟨fun hh => by simp [Fr, Fence.wide] at hh, ?_⟩
      refine CallsIn.mono (F := Fr r) hc ?_
      rintro e' w'' ⟨rfl, hb⟩
      exact hn v w'' hv (hs.other hb)

theorem looksAtI_eq {i : Nat} {o : Oper} (ho : ops[i]? = some o) : looksAtI ops i = o.looksAt ops := by simp [looksAtI, ho]
theorem dstAt_eq {i : Nat} {o : Oper} (ho : ops[i]? = some o) : dstAt ops i = o.dst := by simp [dstAt, ho]

/-- What is to come behind a quiet one's turn. -/
theorem pend_put {listed : Array Bool} {i : Nat} {o : Oper} {d : Nat} {v : Value} {e : Env} {a : Act} {X : Nat → Prop} (hi : i < listed.size) (ho : ops[i]? = some o) (hd : o.dst = some d) (hdn : d < n) (hv : lk d e.r = some v)
    (he : EnvBut n (fun t => Pend ops S listed t ∨ X t) e a) : EnvBut n (fun t => Pend ops S (listed.setIfInBounds i true) t ∨ X t) e (a.put o.dst v) := by
  refine ⟨by rw [hd]; simpa [Act.put] using he.size, fun t u ht hx => ?_, by rw [hd]; exact he.defers⟩
  rw [hd]
  have hds : d < a.tmps.size := by rw [he.size]; exact hdn
  by_cases htd : d = t
  · subst htd
    rw [hv] at ht; cases ht
    simp [Act.put, hds]
  · simp only [Act.put]
    rw [Array.getElem?_setIfInBounds_ne htd]
    refine he.get t u ht fun hp => hx ?_
    rcases hp with ⟨j, hj, hl, hdj⟩ | hp
    · refine .inl ⟨j, hj, ?_, hdj⟩
      rw [getD_set hi, if_neg]
      · exact hl
      · intro hij; subst hij
        rw [dstAt_eq ho, hd] at hdj
        exact htd (Option.some.inj hdj)
    · exact .inr hp



theorem clos_set {listed : Array Bool} {i : Nat} (hc : Clos ops listed) (hi : i < listed.size) (hw : ∀ j, waits ops i j = true → listed.getD j true = true) : Clos ops (listed.setIfInBounds i true) := by
  intro x j hx hxs hwx
  rw [getD_set hi] at hx ⊢
  split
  · rfl
  · split at hx
    · rename_i h1; subst h1; exact hw j hwx
    · exact hc x j hx hxs hwx

/-- A step of those that come last. -/
theorem r_step (D : DrawP ops S A M R fl) {listed : Array Bool} {a : Act} {w : World} {i : Nat} {Rd Rr : List Nat} {si : SI} {sis : List SI} {eR : Env} {HR : Heap} {o : Oper} {next : Act → World → Prop}
    (hsz : listed.size = ops.size) (hl : listed.getD i true = false) (hwt : ∀ j, waits ops i j = true → listed.getD j true = true) (hpart : R = Rd ++ i :: Rr)
    (hdone : ∀ x ∈ Rd, listed.getD x true = true) (hopen : ∀ x ∈ Rr, listed.getD x true = false) (ho : ops[i]? = some o) (hc : cI P n ops o = some si) (hmade : All2 (fun i si => ∃ o, ops[i]? = some o ∧ cI P n ops o = some si) Rr sis) (hrun : runOps P w0 (si :: sis) eR HR K) (hst : St w0 HR w)
    (henv : EnvBut n (Pend ops S listed) eR a) (hm : eR.m = e1.m)
    (hsame : ∀ t, (∀ x ∈ R, dstAt ops x ≠ some t) → (∀ x, A = some x → dstAt ops x ≠ some t) → (∀ x ∈ M, dstAt ops x ≠ some t) → lk t eR.r = lk t e1.r)
    (hn : ∀ a' w' e' H', Late P w0 n ops S A M R K e1 (Rd ++ [i]) Rr sis (listed.setIfInBounds i true) a' w' e' H' → next a' w') : wpOpIn (Fr r) 0 P ops Q i next a w := by
  have hiR : i ∈ R := by rw [hpart]; simp
  have hi : i < listed.size := by rw [hsz]; exact D.inR i hiR
  have hnd := D.ndR
  rw [hpart] at hnd
  have hiS : ∀ j ∈ S, j ≠ i := fun j hj h => (D.inS j hj).2.1 (h ▸ hiR)
  refine runI_but ho hc hrun hst henv ?_ ?_
  · rintro t ht ⟨j, hj, hjl, hjd⟩
    have := hwt j (D.rlook i hiR t (by rw [looksAtI_eq ho]; exact ht) j (.inl hj) hjd)
    rw [this] at hjl; cases hjl
  · intro e' H' a' w' hk hs' he' hm' hsame'
    refine hn a' w' e' H' ⟨by rw [hpart]; simp, by simp, ?_, ?_, hmade, hk, hs', ?_, hm'.trans hm, ?_⟩
    · intro x hx
      rw [getD_set hi]
      rcases List.mem_append.1 hx with hx | hx
      · split
        · rfl
        · exact hdone x hx
      · simp only [List.mem_singleton] at hx; simp [hx]
    · intro x hx
      rw [getD_set hi, if_neg]
      · exact hopen x hx
      · intro h; subst h
        have := (List.nodup_append.1 hnd).2.1
        exact (List.nodup_cons.1 this).1 hx
    · refine ⟨he'.size, fun t v ht hp => he'.get t v ht fun hp2 => hp ?_, he'.defers⟩
      obtain ⟨j, hj, hjl, hjd⟩ := hp2
      exact ⟨j, hj, by rw [getD_set hi, if_neg (Ne.symm (hiS j hj))]; exact hjl, hjd⟩
    · intro t h1 h2 h3
      rw [hsame' t (by rw [← dstAt_eq ho]; exact h1 i hiR)]
      exact hsame t h1 h2 h3

theorem all2_cons_inv {α β : Type} {Z : α → β → Prop} {x : α} {l : List α} {m : List β} (h : All2 Z (x :: l) m) : ∃ y m', m = y :: m' ∧ Z x y ∧ All2 Z l m' := by
  cases h with
  | cons h1 h2 => exact ⟨_, _, rfl, h1, h2⟩

theorem late_sim (D : DrawP ops S A M R fl) (hS : ∀ i ∈ S, ∃ o d, ops[i]? = some o ∧ d < n ∧ Yl P w0 r ops (if fl i then [] else H) e1 o d)
    (hQ : ∀ e H a w, K e H → St w0 H w → EnvOk n e a → Q .normal a w) :
    ∀ (fuel : Nat) (listed : Array Bool) (a : Act) (w : World) (Rd Rr : List Nat) (sis : List SI) (eR : Env) (HR : Heap), listed.size = ops.size → unl ops listed ≤ fuel → Clos ops listed →
      Late P w0 n ops S A M R K e1 Rd Rr sis listed a w eR HR → wpAnyIn (Fr r) 0 P .any ops Q fuel listed a w := by
  intro fuel
  induction fuel with
  | zero =>
    intro listed a w Rd Rr sis eR HR hsz hu hcl L
    have h0 : unl ops listed = 0 := by omega
    refine ⟨Region.ready_nil_of h0, ?_⟩
    have hRr : Rr = [] := by
      cases hh : Rr with
      | nil => rfl
      | cons x l =>
        have h1 := L.open_ x (by rw [hh]; simp)
        rw [unl_zero h0 (D.inR x (by rw [L.part, hh]; simp))] at h1; cases h1
    have hsis : sis = [] := by have := L.made; rw [hRr] at this; cases this; rfl
    have hk := L.rest
    rw [hsis] at hk
    refine hQ _ _ _ _ hk L.st ⟨L.env.size, fun t v ht => L.env.get t v ht ?_, L.env.defers⟩
    rintro ⟨j, hj, hl, _⟩
    rw [unl_zero h0 (D.inS j hj).1] at hl; cases hl
  | succ fuel ih =>
    intro listed a w Rd Rr sis eR HR hsz hu hcl L
    refine ⟨fun hnil => ?_, fun i hi => ?_⟩
    · have h0 : unl ops listed = 0 := by
        rcases Nat.eq_zero_or_pos (unl ops listed) with h | h
        · exact h
        · exact absurd hnil (ready_exists hsz D.asc h)
      have hRr : Rr = [] := by
        cases hh : Rr with
        | nil => rfl
        | cons x l =>
          have h1 := L.open_ x (by rw [hh]; simp)
          rw [unl_zero h0 (D.inR x (by rw [L.part, hh]; simp))] at h1; cases h1
      have hsis : sis = [] := by have := L.made; rw [hRr] at this; cases this; rfl
      have hk := L.rest
      rw [hsis] at hk
      refine hQ _ _ _ _ hk L.st ⟨L.env.size, fun t v ht => L.env.get t v ht ?_, L.env.defers⟩
      rintro ⟨j, hj, hl, _⟩
      rw [unl_zero h0 (D.inS j hj).1] at hl; cases hl
    · obtain ⟨hlt, hl, hwt⟩ := ready_spec hi hsz
      have hils : i < listed.size := by omega
      have hu' : unl ops (listed.setIfInBounds i true) ≤ fuel := by have := unl_set hlt hl; omega
      have hcl' := clos_set hcl hils hwt
      have hsz' : (listed.setIfInBounds i true).size = ops.size := by simpa using hsz
      have headDone : ∀ j, HeadWaits ops R j → listed.getD j true = true := by
        intro j hj
        obtain ⟨x, l, hx⟩ := List.exists_cons_of_ne_nil L.some
        have hxR : R.head? = some x := by rw [L.part, hx]; rfl
        exact hcl.waits (L.done x (by rw [hx]; simp)) (D.inR x (by rw [L.part, hx]; simp)) (hj x hxR)
      rcases D.cov i hlt with hiS | hiA | hiM | hiR
      · obtain ⟨o, d, ho, hdn, hy⟩ := hS i hiS
        have hfl : fl i = true := by
          cases hf : fl i with
          | true => rfl
          | false => rw [headDone i (D.nofl i hiS hf)] at hl; cases hl
        rw [hfl] at hy
        simp only [if_true] at hy
        have hd : o.dst = some d := hy.1
        have notR : ∀ x ∈ R, dstAt ops x ≠ some d := fun x hx hh => (D.sdst i (.inl hiS)).2 x (D.inR x hx) (fun h => (D.inS i hiS).2.1 (h ▸ hx)) (by rw [hh, dstAt_eq ho, hd])
        have notA : ∀ x, A = some x → dstAt ops x ≠ some d := fun x hx hh => (D.sdst i (.inl hiS)).2 x (D.inA x hx).1 (fun h => (D.inS i hiS).2.2.1 (h ▸ hx)) (by rw [hh, dstAt_eq ho, hd])
        have notM : ∀ x ∈ M, dstAt ops x ≠ some d := fun x hx hh => (D.sdst i (.inl hiS)).2 x (D.inM x hx).1 (fun h => (D.inS i hiS).2.2.2 (h ▸ hx)) (by rw [hh, dstAt_eq ho, hd])
        refine quiet_step ho hy ?_ L.st (fun h => h.all) ?_
        · intro t ht u hu
          have ht' : t ∈ looksAtI ops i := by rw [looksAtI_eq ho]; exact ht
          have h1 : ∀ x ∈ R, dstAt ops x ≠ some t := by
            intro x hx hh
            rcases D.look i (.inl hiS) t ht' x (D.inR x hx) hh with ⟨h, _⟩ | ⟨_, h⟩
            · exact (D.inS x h).2.1 hx
            · rw [headDone i h] at hl; cases hl
          have h2 : ∀ x, A = some x → dstAt ops x ≠ some t := by
            intro x hx hh
            rcases D.look i (.inl hiS) t ht' x (D.inA x hx).1 hh with ⟨h, _⟩ | ⟨h, _⟩
            · exact (D.inS x h).2.2.1 hx
            · exact (D.inA x hx).2.1 h
          have h3 : ∀ x ∈ M, dstAt ops x ≠ some t := by
            intro x hx hh
            rcases D.look i (.inl hiS) t ht' x (D.inM x hx).1 hh with ⟨h, _⟩ | ⟨h, _⟩
            · exact (D.inS x h).2.2.2 hx
            · exact (D.inM x hx).2 h
          refine L.env.get t u (by rw [L.same t h1 h2 h3]; exact hu) ?_
          rintro ⟨j, hj, hjl, hjd⟩
          rcases D.look i (.inl hiS) t ht' j (D.inS j hj).1 hjd with ⟨_, h⟩ | ⟨h, _⟩
          · rw [hwt j h] at hjl; cases hjl
          · exact (D.inS j hj).2.1 h
        · intro v w' hv hs'
          refine ih _ _ _ Rd Rr sis eR HR hsz' hu' hcl' ⟨L.part, L.some, ?_, ?_, L.made, L.rest, hs', ?_, L.m, L.same⟩
          · intro x hx; rw [getD_set hils]; split
            · rfl
            · exact L.done x hx
          · intro x hx; rw [getD_set hils, if_neg]
            · exact L.open_ x hx
            · intro h; subst h; exact (D.inS i hiS).2.1 (by rw [L.part]; exact List.mem_append_right _ hx)
          · have := pend_put (S := S) (X := fun _ => False) (v := v) hils ho hd hdn (by rw [L.same d notR notA notM]; exact hv) (n := n) (a := a) (e := eR) ⟨L.env.size, fun t u ht hx => L.env.get t u ht fun h => hx (.inl h), L.env.defers⟩
            exact ⟨this.size, fun t u ht hx => this.get t u ht fun h => hx (h.resolve_right id), this.defers⟩
      · rw [headDone i (D.aR i hiA)] at hl; cases hl
      · rw [headDone i (D.mR i hiM)] at hl; cases hl
      · -- the next of those that come last
        have hmem : i ∈ Rd ++ Rr := by rw [← L.part]; exact hiR
        have hiRr : i ∈ Rr := by
          rcases List.mem_append.1 hmem with h | h
          · rw [L.done i h] at hl; cases hl
          · exact h
        cases hRr : Rr with
        | nil => rw [hRr] at hiRr; cases hiRr
        | cons x l =>
          have hxi : x = i := by
            rw [hRr] at hiRr
            rcases List.mem_cons.1 hiRr with h | h
            · exact h.symm
            · have hch := D.chain
              rw [L.part, hRr] at hch
              obtain ⟨y, hy, hw⟩ := Chn.pred (Chn.tail hch) h
              have h4 := hwt y hw
              rw [L.open_ y (by rw [hRr]; exact hy)] at h4; cases h4
          subst hxi
          have hmade := L.made
          rw [hRr] at hmade
          obtain ⟨si, sis', rfl, ⟨o, ho, hc⟩, hmade'⟩ := all2_cons_inv hmade
          refine r_step D hsz hl hwt (by rw [L.part, hRr]) L.done (fun y hy => L.open_ y (by rw [hRr]; exact List.mem_cons_of_mem _ hy)) ho hc hmade' L.rest L.st L.env L.m L.same ?_
          intro a' w' e' H' L'
          exact ih _ _ _ _ _ _ _ _ hsz' hu' hcl' L'


theorem early_sim (D : DrawP ops S A M R fl) (hS : ∀ i ∈ S, ∃ o d, ops[i]? = some o ∧ d < n ∧ Yl P w0 r ops (if fl i then [] else H) e1 o d)
    (hA : ∀ x, A = some x → ∃ o, ops[x]? = some o ∧ dA < n ∧ cI P n ops o = some ⟨none, .alloc dA cA⟩) {RS : List SI} (hR : All2 (fun i si => ∃ o, ops[i]? = some o ∧ cI P n ops o = some si) R RS) {KM : Env → Heap → Prop}
    (hV0 : ∀ e2 H2, KM e2 H2 → A = none → runOps P w0 RS e2 H2 K)
    (hV1 : ∀ e2 H2, KM e2 H2 → ∀ x, A = some x → ∀ b, ¬ b < w0.heap.size → NotIn b H2 → runOps P w0 RS ⟨(dA, .pointer (some ⟨b, 0, none⟩)) :: e2.r, e2.m⟩ ((b, .cells cA cA.length) :: H2) K)
    (hQ : ∀ e H a w, K e H → St w0 H w → EnvOk n e a → Q .normal a w) :
    ∀ (fuel : Nat) (listed : Array Bool) (a : Act) (w : World) (Mr : List Nat) (sis : List SI) (eM : Env) (HM HX : Heap), listed.size = ops.size → unl ops listed ≤ fuel → Clos ops listed →
      Early P w0 n ops S A M R KM e1 H dA cA Mr sis eM HM HX listed a w → wpAnyIn (Fr r) 0 P .any ops Q fuel listed a w := by
  have hAd : ∀ x o, A = some x → ops[x]? = some o → o.dst = some dA := by
    intro x o hx ho
    obtain ⟨o', ho', _, hc⟩ := hA x hx
    rw [ho] at ho'; cases ho'
    unfold cI at hc
    split at hc
    · split at hc
      · simp only [Option.map_eq_some_iff] at hc
        obtain ⟨s, hc, hs⟩ := hc
        cases hs
        exact (cOp_dst hc).symm
      · split at hc
        · simp only [Option.map_eq_some_iff] at hc; obtain ⟨s, _, hs⟩ := hc; cases hs
        · cases hc
    · cases hc
  have turn : ∀ (listed : Array Bool) (a : Act) (w : World) (Mr : List Nat) (sis : List SI) (eM : Env) (HM HX : Heap), Early P w0 n ops S A M R KM e1 H dA cA Mr sis eM HM HX listed a w →
      (∀ x, A = some x → listed.getD x true = true) → (∀ x ∈ M, listed.getD x true = true) →
      ∃ eR HR, runOps P w0 RS eR HR K ∧ St w0 HR w ∧ EnvBut n (Pend ops S listed) eR a ∧ eR.m = e1.m ∧
        ∀ t, (∀ x ∈ R, dstAt ops x ≠ some t) → (∀ x, A = some x → dstAt ops x ≠ some t) → (∀ x ∈ M, dstAt ops x ≠ some t) → lk t eR.r = lk t e1.r := by
    intro listed a w Mr sis eM HM HX E hAl hMl
    have hMr : Mr = [] := by
      cases hh : Mr with
      | nil => rfl
      | cons x l =>
        have h1 := E.openM x (by rw [hh]; simp)
        rw [hMl x (E.subM.subset (by rw [hh]; simp))] at h1; cases h1
    have hsis : sis = [] := by have := E.made; rw [hMr] at this; cases this; rfl
    have hk0 := E.rest
    rw [hsis] at hk0
    obtain ⟨eM', HM', hk, hre, hrh⟩ := hk0
    have hlk : ∀ t, lk t eM'.r = lk t eM.r := fun t => (hre.lk t).symm
    cases hAA : A with
    | none =>
      refine ⟨eM', HM', hV0 _ _ hk hAA, E.st.sub fun p hp => E.sub2 p (hrh.sub p hp), ⟨E.env.size, fun t v ht hp => E.env.get t v ((hlk t).symm.trans ht) ?_, by rw [← hre.m]; exact E.env.defers⟩, hre.m.symm.trans E.m, fun t _ _ h3 => (hlk t).trans (E.same t h3)⟩
      rintro (h | ⟨h, _⟩)
      · exact hp h
      · rw [hAA] at h; cases h
    | some x =>
      obtain ⟨b, hb, hf, hbm, hbv⟩ := E.aDone x hAA (hAl x hAA)
      obtain ⟨o, ho, hdn, _⟩ := hA x hAA
      refine ⟨⟨(dA, .pointer (some ⟨b, 0, none⟩)) :: eM'.r, eM'.m⟩, _, hV1 _ _ hk x hAA b hb (hf.sub hrh.sub), E.st.sub ?_, ⟨E.env.size, fun t v ht hp => ?_, by rw [← hre.m]; exact E.env.defers⟩, hre.m.symm.trans E.m, fun t _ h2 h3 => ?_⟩
      · intro p hp
        rcases List.mem_cons.1 hp with rfl | hp
        · exact hbm
        · exact E.sub2 p (hrh.sub p hp)
      · simp only [lk] at ht
        split at ht
        · rename_i h1; cases ht; subst h1; exact hbv
        · rename_i h1
          refine E.env.get t v ((hlk t).symm.trans ht) ?_
          rintro (h | ⟨_, h⟩)
          · exact hp h
          · exact h1 h.symm
      · refine (lk_cons_ne fun h => h2 x rfl ?_).trans ((hlk t).trans (E.same t h3))
        rw [dstAt_eq ho, hAd x o hAA ho, h]
  have final : ∀ (listed : Array Bool) (a : Act) (w : World) (Mr : List Nat) (sis : List SI) (eM : Env) (HM HX : Heap), Early P w0 n ops S A M R KM e1 H dA cA Mr sis eM HM HX listed a w → unl ops listed = 0 → Q .normal a w := by
    intro listed a w Mr sis eM HM HX E h0
    have hRn : R = [] := by
      cases hh : R with
      | nil => rfl
      | cons x l =>
        have h1 := E.open_ x (by rw [hh]; simp)
        rw [unl_zero h0 (D.inR x (by rw [hh]; simp))] at h1; cases h1
    obtain ⟨eR, HR, hk, hst, henv, _, _⟩ := turn _ _ _ _ _ _ _ _ E (fun x hx => unl_zero h0 (D.inA x hx).1) (fun x hx => unl_zero h0 (D.inM x hx).1)
    have hRS : RS = [] := by rw [hRn] at hR; cases hR; rfl
    rw [hRS] at hk
    refine hQ _ _ _ _ hk hst ⟨henv.size, fun t v ht => henv.get t v ht ?_, henv.defers⟩
    rintro ⟨j, hj, hl, _⟩
    rw [unl_zero h0 (D.inS j hj).1] at hl; cases hl
  intro fuel
  induction fuel with
  | zero =>
    intro listed a w Mr sis eM HM HX hsz hu hcl E
    have h0 : unl ops listed = 0 := by omega
    exact ⟨Region.ready_nil_of h0, final _ _ _ _ _ _ _ _ E h0⟩
  | succ fuel ih =>
    intro listed a w Mr sis eM HM HX hsz hu hcl E
    refine ⟨fun hnil => ?_, fun i hi => ?_⟩
    · have h0 : unl ops listed = 0 := by
        rcases Nat.eq_zero_or_pos (unl ops listed) with h | h
        · exact h
        · exact absurd hnil (ready_exists hsz D.asc h)
      exact final _ _ _ _ _ _ _ _ E h0
    · obtain ⟨hlt, hl, hwt⟩ := ready_spec hi hsz
      have hils : i < listed.size := by omega
      have hu' : unl ops (listed.setIfInBounds i true) ≤ fuel := by have := unl_set hlt hl; omega
      have hcl' := clos_set hcl hils hwt
      have hsz' : (listed.setIfInBounds i true).size = ops.size := by simpa using hsz
      have keepT : ∀ x, listed.getD x true = true → (listed.setIfInBounds i true).getD x true = true := by
        intro x hx; rw [getD_set hils]; split
        · rfl
        · exact hx
      have keepF : ∀ x, x ≠ i → listed.getD x true = false → (listed.setIfInBounds i true).getD x true = false := by
        intro x hne hx; rw [getD_set hils, if_neg (Ne.symm hne)]; exact hx
      have backT : ∀ x, x ≠ i → (listed.setIfInBounds i true).getD x true = true → listed.getD x true = true := by
        intro x hne hx; rwa [getD_set hils, if_neg (Ne.symm hne)] at hx
      rcases D.cov i hlt with hiS | hiA | hiM | hiR
      · -- a quiet one
        obtain ⟨o, d, ho, hdn, hy⟩ := hS i hiS
        have hd : o.dst = some d := hy.1
        have notM : ∀ x ∈ M, dstAt ops x ≠ some d := fun x hx hh => (D.sdst i (.inl hiS)).2 x (D.inM x hx).1 (fun h => (D.inS i hiS).2.2.2 (h ▸ hx)) (by rw [hh, dstAt_eq ho, hd])
        refine quiet_step ho hy ?_ E.st ?_ ?_
        · intro t ht u hu
          have ht' : t ∈ looksAtI ops i := by rw [looksAtI_eq ho]; exact ht
          have h3 : ∀ x ∈ M, dstAt ops x ≠ some t := by
            intro x hx hh
            rcases D.look i (.inl hiS) t ht' x (D.inM x hx).1 hh with ⟨h, _⟩ | ⟨h, _⟩
            · exact (D.inS x h).2.2.2 hx
            · exact (D.inM x hx).2 h
          refine E.env.get t u (by rw [E.same t h3]; exact hu) ?_
          rintro (⟨j, hj, hjl, hjd⟩ | ⟨hsome, htd⟩)
          · rcases D.look i (.inl hiS) t ht' j (D.inS j hj).1 hjd with ⟨_, h⟩ | ⟨h, _⟩
            · rw [hwt j h] at hjl; cases hjl
            · exact (D.inS j hj).2.1 h
          · obtain ⟨x, hx⟩ := Option.isSome_iff_exists.1 hsome
            obtain ⟨o', ho', _, _⟩ := hA x hx
            rcases D.look i (.inl hiS) t ht' x (D.inA x hx).1 (by rw [dstAt_eq ho', hAd x o' hx ho', htd]) with ⟨h, _⟩ | ⟨h, _⟩
            · exact (D.inS x h).2.2.1 hx
            · exact (D.inA x hx).2.1 h
        · intro hst
          cases hf : fl i with
          | true => simpa using hst.all
          | false => simpa using hst.sub fun p hp => E.sub2 p (E.sub1 p hp)
        · intro v w' hv hs'
          refine ih _ _ _ Mr sis eM HM HX hsz' hu' hcl' ⟨?_, fun x hx => (E.part x hx).imp (keepT x) id, E.subM, ?_, E.made, E.rest, E.m, E.same, E.sub1, E.sub2, hs', pend_put hils ho hd hdn (by rw [E.same d notM]; exact hv) E.env, ?_⟩
          · intro x hx
            exact keepF x (fun h => (D.inS i hiS).2.1 (h ▸ hx)) (E.open_ x hx)
          · intro x hx
            exact keepF x (fun h => (D.inS i hiS).2.2.2 (h ▸ E.subM.subset hx)) (E.openM x hx)
          · intro x hx hxl
            obtain ⟨b, hb, hf, hbm, hv'⟩ := E.aDone x hx (backT x (fun h => (D.inS i hiS).2.2.1 (h ▸ hx)) hxl)
            refine ⟨b, hb, hf, hbm, ?_⟩
            obtain ⟨o', ho', _, _⟩ := hA x hx
            rw [hd]
            simp only [Act.put]
            rw [Array.getElem?_setIfInBounds_ne]
            · exact hv'
            · intro hdd
              refine (D.sdst i (.inl hiS)).2 x (D.inA x hx).1 (fun h => (D.inS i hiS).2.2.1 (h ▸ hx)) ?_
              rw [dstAt_eq ho', hAd x o' hx ho', dstAt_eq ho, hd, hdd]
      · -- the one that makes a block whenever it comes
        obtain ⟨o, ho, hdn, hc⟩ := hA i hiA
        have hod := hAd i o hiA ho
        have hds : dA < a.tmps.size := by rw [E.env.size]; exact hdn
        unfold wpOpIn
        simp only [ho]
        unfold cI at hc
        split at hc
        · split at hc
          · rename_i hg
            simp only [Option.map_eq_some_iff] at hc
            obtain ⟨s, hc, hs⟩ := hc
            cases hs
            have hw : Region.wanted o (yielded ops a.tmps) = true := by simp [Region.wanted, hg]
            simp only [hw, if_true]
            obtain ⟨d', hd', _, hy⟩ := mOp_yields (P := P) (w0 := w0) (r := r) hc (e := ⟨[], []⟩) (H := HX) (K := fun d v H' => ∃ b, ¬ b < w0.heap.size ∧ NotIn b HX ∧ d = dA ∧ v = .pointer (some ⟨b, 0, none⟩) ∧ H' = (b, .cells cA cA.length) :: HX)
              (fun b hb hf => ⟨b, hb, hf, rfl, rfl, rfl⟩)
            obtain ⟨nx, w1, hr, hres⟩ := hy a.eval (fun x hx u hu => by
              cases x with
              | tmp t => cases hu
              | const c => simpa [ev, Act.eval] using hu
              | global g => simpa [ev, Act.eval] using hu
              | func f => simpa [ev, Act.eval] using hu) HX w (fun _ h => h) E.st
            refine ⟨fun _ _ => trivial, ?_⟩
            show o.uponIn (Fr r) 0 P a _ Q ((o.semAt r a.eval).run P w)
            rw [hr]
            rcases hres with ⟨v, ⟨b, _, _, _, _, hH⟩, _, _⟩ | ⟨v, b', x', rfl, ⟨b, hb, hf, _, rfl, hH⟩, hst, _⟩
            · have := congrArg List.length hH
              simp at this
            · cases hH
              refine ih _ _ _ Mr sis eM HM _ hsz' hu' hcl' ⟨?_, fun x hx => (E.part x hx).imp (keepT x) id, E.subM, ?_, E.made, E.rest, E.m, E.same, E.sub1, fun p hp => List.mem_cons_of_mem _ (E.sub2 p hp), hst, ?_, ?_⟩
              · intro x hx
                exact keepF x (fun h => (D.inA i hiA).2.1 (h ▸ hx)) (E.open_ x hx)
              · intro x hx
                exact keepF x (fun h => (D.inA i hiA).2.2 (h ▸ E.subM.subset hx)) (E.openM x hx)
              · rw [hod]
                refine ⟨by simpa [Act.put] using E.env.size, fun t u ht hx => ?_, E.env.defers⟩
                have hne : dA ≠ t := fun h => hx (.inr ⟨by rw [hiA]; rfl, h.symm⟩)
                simp only [Act.put]
                rw [Array.getElem?_setIfInBounds_ne hne]
                refine E.env.get t u ht ?_
                rintro (⟨j, hj, hjl, hjd⟩ | h)
                · exact hx (.inl ⟨j, hj, keepF j (fun h => (D.inS j hj).2.2.1 (by rw [h]; exact hiA)) hjl, hjd⟩)
                · exact hx (.inr h)
              · intro x hx _
                refine ⟨b', hb, hf.sub E.sub2, by simp, ?_⟩
                rw [hod]
                simp [Act.put, hds]
          · split at hc
            · simp only [Option.map_eq_some_iff] at hc; obtain ⟨s, _, hs⟩ := hc; cases hs
            · cases hc
        · cases hc
      · -- the next of those that make blocks
        have hiMr : i ∈ Mr := (E.part i hiM).resolve_left (by rw [hl]; simp)
        obtain ⟨pre, post, hMr⟩ := List.append_of_mem hiMr
        have hmade := E.made
        rw [hMr] at hmade
        obtain ⟨spre, si, spost, hsis, hm1, ⟨⟨o, ho, hc⟩, hsi⟩, hm2⟩ := hmade.split
        have hsub := E.subM
        rw [hMr] at hsub
        have hpw := D.ascM.sublist hsub
        have hpre : ∀ y ∈ pre, y ∈ M ∧ y < i ∧ listed.getD y true = false := fun y hy =>
          ⟨hsub.subset (List.mem_append_left _ hy), (List.pairwise_append.1 hpw).2.2 y hy i (by simp), E.openM y (by rw [hMr]; exact List.mem_append_left _ hy)⟩
        have hnotIn : ∀ y ∈ pre ++ post, y ≠ i := by
          intro y hy h
          subst h
          rcases List.mem_append.1 hy with hy | hy
          · exact absurd (hpre y hy).2.1 (Nat.lt_irrefl _)
          · exact absurd ((List.pairwise_cons.1 (List.pairwise_append.1 hpw).2.1).1 y hy) (Nat.lt_irrefl _)
        have hsubM : (pre ++ post).Sublist M := ((List.Sublist.refl pre).append (List.sublist_cons_self i post)).trans hsub
        have hrest := E.rest
        rw [hsis] at hrest
        have hod' : ∀ y o' (s : SI), ops[y]? = some o' → cI P n ops o' = some s → s.op.dst = dstAt ops y := fun y o' s h1 h2 => by rw [dstAt_eq h1]; exact cI_dst h2
        have hlook : ∀ y (s : SI), siOk ops y s = true → ∀ t ∈ siTmps s, t ∈ looksAtI ops y := by
          intro y s hs t ht
          simp only [siOk, Bool.and_eq_true, List.all_eq_true] at hs
          simpa using hs.1 t ht
        have hmI : mI P w0 si eM HM fun e' H' => runM P w0 (spre ++ spost) e' H' (KC KM) := by
          cases hp : pre with
          | nil => rw [hp] at hm1; cases hm1; exact hrest
          | cons y0 l0 =>
            have hy0 := hpre y0 (by rw [hp]; simp)
            have hmk : isMk si = true := by
              rcases D.ordM i hiM with h | h
              · simp only [siOk, Bool.and_eq_true, Bool.or_eq_true] at hsi
                rw [h] at hsi
                simpa using hsi.2
              · have := h y0 hy0.1 hy0.2.1 listed hcl hwt
                rw [hy0.2.2] at this; cases this
            refine runM_pull hmk hrest ?_
            intro sj hsj
            obtain ⟨y, hy, ⟨⟨oy, hoy, hcy⟩, hsy⟩⟩ := hm1.right sj hsj
            obtain ⟨hyM, hyi, hyl⟩ := hpre y hy
            refine ⟨fun d hd => ⟨fun hh => ?_, fun hh => ?_⟩, fun d hd hh => ?_⟩
            · rcases D.mlook y hyM d (hlook y sj hsy d hh) i hlt (by rw [← hod' i o si ho hc]; exact hd) with ⟨_, h⟩ | ⟨h, _⟩
              · have := D.asc y i h; omega
              · exact (D.inM i hiM).2 h
            · refine (D.sdst i (.inr (.inr hiM))).2 y (D.inM y hyM).1 (by omega) ?_
              rw [← hod' i o si ho hc, ← hod' y oy sj hoy hcy, hh, hd]
            · rcases D.mlook i hiM d (hlook i si hsi d hh) y (D.inM y hyM).1 (by rw [← hod' y oy sj hoy hcy]; exact hd) with ⟨_, h⟩ | ⟨h, _⟩
              · rw [hwt y h] at hyl; cases hyl
              · exact (D.inM y hyM).2 h
        refine m_step ho hc hmI E.sub2 E.st E.env ?_ ?_
        · intro t ht
          have ht' : t ∈ looksAtI ops i := by rw [looksAtI_eq ho]; exact ht
          rintro (⟨j, hj, hjl, hjd⟩ | ⟨hsome, htd⟩)
          · rcases D.mlook i hiM t ht' j (D.inS j hj).1 hjd with ⟨_, h⟩ | ⟨h, _⟩
            · rw [hwt j h] at hjl; cases hjl
            · exact (D.inS j hj).2.1 h
          · obtain ⟨y, hy⟩ := Option.isSome_iff_exists.1 hsome
            obtain ⟨o', ho', _, _⟩ := hA y hy
            rcases D.mlook i hiM t ht' y (D.inA y hy).1 (by rw [dstAt_eq ho', hAd y o' hy ho', htd]) with ⟨h | h, _⟩ | ⟨h, _⟩
            · exact (D.inS y h).2.2.1 hy
            · exact (D.inA y hy).2.2 h
            · exact (D.inA y hy).2.1 h
        · intro d v e' H' HX' a' w' hod hput hk hm' he' hoth hs' hXX hHX hHH hni
          refine ih _ _ _ (pre ++ post) (spre ++ spost) e' H' HX' hsz' hu' hcl' ⟨?_, ?_, hsubM, ?_, hm1.append hm2, hk, hm'.trans E.m, ?_, fun p hp => hHH p (E.sub1 p hp), hHX, hs', ?_, ?_⟩
          · intro y hy
            exact keepF y (fun h => (D.inM i hiM).2 (h ▸ hy)) (E.open_ y hy)
          · intro y hy
            rcases E.part y hy with h | h
            · exact .inl (keepT y h)
            · rw [hMr] at h
              by_cases hyi : y = i
              · subst hyi; rw [getD_set hils]; simp
              · rcases List.mem_append.1 h with h | h
                · exact .inr (List.mem_append_left _ h)
                · rcases List.mem_cons.1 h with h | h
                  · exact absurd h hyi
                  · exact .inr (List.mem_append_right _ h)
          · intro y hy
            refine keepF y (hnotIn y hy) (E.openM y ?_)
            rw [hMr]
            rcases List.mem_append.1 hy with h | h
            · exact List.mem_append_left _ h
            · exact List.mem_append_right _ (List.mem_cons_of_mem _ h)
          · intro t ht
            rw [hoth t fun h => ht i hiM (by rw [dstAt_eq ho, hod, h])]
            exact E.same t ht
          · refine ⟨he'.size, fun t u ht hx => he'.get t u ht ?_, he'.defers⟩
            rintro (⟨j, hj, hjl, hjd⟩ | h)
            · exact hx (.inl ⟨j, hj, keepF j (fun h => (D.inS j hj).2.2.2 (by rw [h]; exact hiM)) hjl, hjd⟩)
            · exact hx (.inr h)
          · intro y hy hyl
            have hyx : y ≠ i := fun h => (D.inA y hy).2.2 (by rw [h]; exact hiM)
            obtain ⟨b, hb, hf, hbm, hv'⟩ := E.aDone y hy (backT y hyx hyl)
            refine ⟨b, hb, hni b _ hbm hf, hXX _ hbm, ?_⟩
            obtain ⟨o', ho', _, _⟩ := hA y hy
            rw [hput, hod]
            simp only [Act.put]
            rw [Array.getElem?_setIfInBounds_ne]
            · exact hv'
            · intro hdd
              refine (D.sdst i (.inr (.inr hiM))).2 y (D.inA y hy).1 hyx ?_
              rw [dstAt_eq ho', hAd y o' hy ho', dstAt_eq ho, hod, hdd]
      · -- the first of those that come last
        cases hRl : R with
        | nil => rw [hRl] at hiR; cases hiR
        | cons x l =>
          have hxi : x = i := by
            rw [hRl] at hiR
            rcases List.mem_cons.1 hiR with h | h
            · exact h.symm
            · have hch := D.chain
              rw [hRl] at hch
              obtain ⟨y, hy, hw⟩ := Chn.pred hch h
              have h4 := hwt y hw
              rw [E.open_ y (by rw [hRl]; exact hy)] at h4; cases h4
          subst hxi
          have hhead : R.head? = some x := by rw [hRl]; rfl
          obtain ⟨eR, HR, hk, hst, henv, hm, hsame⟩ := turn _ _ _ _ _ _ _ _ E (fun y hy => D.aR y hy x hhead listed hcl hwt) (fun y hy => D.mR y hy x hhead listed hcl hwt)
          have hmade := hR
          rw [hRl] at hmade
          obtain ⟨si, sis', hRS, ⟨o, ho, hc⟩, hmade'⟩ := all2_cons_inv hmade
          rw [hRS] at hk
          refine r_step (Rd := []) (Rr := l) D hsz hl hwt (by rw [hRl]; rfl) (fun y hy => by cases hy) (fun y hy => E.open_ y (by rw [hRl]; exact List.mem_cons_of_mem _ hy))
            ho hc hmade' hk hst henv hm hsame ?_
          intro a' w' e' H' L'
          exact late_sim D hS hQ _ _ _ _ _ _ _ _ _ hsz' hu' hcl' L'

end sim

/-! ### The check, and the walk's rule -/
/-- Of a region that draws: which operations come last, in this order; which make blocks, or lean on such, in this order; which one makes a block whenever it comes; which may come late. -/
structure DW where
  R : List Nat
  M : List Nat
  A : Option Nat
  fl : List Nat

def restOf (N : Nat) (d : DW) : List Nat := (List.range N).filter fun i => !d.R.contains i && (d.A != some i) && !d.M.contains i

def chnB (ops : Array Oper) : List Nat → Bool
  | [] => true
  | [_] => true
  | x :: y :: l => waits ops y x && chnB ops (y :: l)

theorem chnB_spec {ops : Array Oper} : ∀ {l : List Nat}, chnB ops l = true → Chn ops l
  | [], _ => trivial
  | [_], _ => trivial
  | x :: y :: l, h => by
    simp only [chnB, Bool.and_eq_true] at h
    exact ⟨h.1, chnB_spec h.2⟩

def ascB : List Nat → Bool
  | [] => true
  | x :: l => l.all (fun y => decide (x < y)) && ascB l

theorem ascB_pw : ∀ {l : List Nat}, ascB l = true → l.Pairwise (· < ·) := by
  intro l
  induction l with
  | nil => intro _; exact List.Pairwise.nil
  | cons x l ih =>
    intro h
    simp only [ascB, Bool.and_eq_true, List.all_eq_true, decide_eq_true_eq] at h
    exact List.pairwise_cons.2 ⟨h.1, ih h.2⟩

/-- What x waits for, by itself or through others. -/
def reachL (ops : Array Oper) (x : Nat) : List Nat :=
  (List.range x).reverse.foldl (fun acc i => if acc.contains i then acc ++ (List.range i).filter (fun j => waits ops i j && !acc.contains j) else acc) ((List.range x).filter (waits ops x))

theorem reachL_spec {ops : Array Oper} {x i : Nat} (h : (reachL ops x).contains i = true) : Waits ops x i := by
  intro listed hc hw
  have key : ∀ (l acc : List Nat), (∀ y ∈ acc, listed.getD y true = true) →
      ∀ y ∈ l.foldl (fun acc i => if acc.contains i then acc ++ (List.range i).filter (fun j => waits ops i j && !acc.contains j) else acc) acc, listed.getD y true = true := by
    intro l
    induction l with
    | nil => intro acc ha; exact ha
    | cons k l ih =>
      intro acc ha
      refine ih _ ?_
      show ∀ y ∈ (if acc.contains k then acc ++ (List.range k).filter (fun j => waits ops k j && !acc.contains j) else acc), listed.getD y true = true
      split
      · rename_i hk
        intro y hy
        rcases List.mem_append.1 hy with hy | hy
        · exact ha y hy
        · obtain ⟨_, h2⟩ := List.mem_filter.1 hy
          simp only [Bool.and_eq_true] at h2
          refine hc k y (ha k (by simpa using hk)) ?_ h2.1
          have := h2.1
          unfold waits at this
          split at this
          · rename_i o ho; exact (Array.getElem?_eq_some_iff.1 ho).1
          · cases this
      · exact ha
  refine key (List.range x).reverse ((List.range x).filter (waits ops x)) ?_ i (List.contains_iff_mem.1 h)
  intro y hy
  exact hw y (List.mem_filter.1 hy).2

def ordB (ops : Array Oper) (M : List Nat) : Bool := M.all fun x => mkAt ops x || M.all fun y => !decide (y < x) || (reachL ops x).contains y

theorem ordB_spec {ops : Array Oper} {M : List Nat} (h : ordB ops M = true) : ∀ x ∈ M, mkAt ops x = true ∨ ∀ y ∈ M, y < x → Waits ops x y := by
  intro x hx
  simp only [ordB, List.all_eq_true, Bool.or_eq_true] at h
  rcases h x hx with h | h
  · exact .inl h
  · refine .inr fun y hy hlt => ?_
    have := h y hy
    simp only [Bool.not_eq_true', decide_eq_false_iff_not] at this
    exact reachL_spec (this.resolve_left fun hh => hh hlt)

theorem ascB_nodup : ∀ {l : List Nat}, ascB l = true → l.Nodup := by
  intro l
  induction l with
  | nil => intro _; exact List.nodup_nil
  | cons x l ih =>
    intro h
    simp only [ascB, Bool.and_eq_true, List.all_eq_true, decide_eq_true_eq] at h
    exact List.nodup_cons.2 ⟨fun hm => Nat.lt_irrefl _ (h.1 x hm), ih h.2⟩

def headB (ops : Array Oper) (R : List Nat) (i : Nat) : Bool := match R with
  | [] => true
  | r :: _ => (reachL ops r).contains i

theorem headB_spec {ops : Array Oper} {R : List Nat} {i : Nat} (h : headB ops R i = true) : HeadWaits ops R i := by
  intro r hr
  cases R with
  | nil => cases hr
  | cons x l => cases hr; exact reachL_spec h

def drawOk (ops : Array Oper) (d : DW) : Bool :=
  let N := ops.size
  let S := restOf N d
  let SA := S ++ d.A.toList
  d.A.toList.all (fun a => decide (a < N) && !d.R.contains a && !d.M.contains a) &&
  d.R.all (fun i => decide (i < N)) &&
  d.M.all (fun i => decide (i < N) && !d.R.contains i) &&
  (SA ++ d.M).all (fun i => (dstAt ops i).isSome && (List.range N).all fun j => j == i || dstAt ops j != dstAt ops i) &&
  SA.all (fun i => (looksAtI ops i).all fun t => (List.range N).all fun j => dstAt ops j != some t || (S.contains j && waits ops i j) || (d.R.contains j && headB ops d.R i)) &&
  d.M.all (fun i => (looksAtI ops i).all fun t => (List.range N).all fun j => dstAt ops j != some t || ((S.contains j || d.M.contains j) && waits ops i j) || (d.R.contains j && headB ops d.R i)) &&
  S.all (fun i => d.fl.contains i || headB ops d.R i) &&
  d.A.toList.all (headB ops d.R) &&
  d.M.all (headB ops d.R) &&
  ordB ops d.M &&
  chnB ops d.R &&
  d.R.all (fun i => (looksAtI ops i).all fun t => (SA ++ d.M).all fun j => dstAt ops j != some t || waits ops i j) &&
  (List.range N).all (fun i => match ops[i]? with | some o => o.after.all fun e => !Region.binds .any e || decide (e.on < i) | none => true) &&
  ascB d.R && ascB d.M

theorem drawOk_spec {ops : Array Oper} {d : DW} (h : drawOk ops d = true) : DrawP ops (restOf ops.size d) d.A d.M d.R (fun i => d.fl.contains i) := by
  simp only [drawOk, Bool.and_eq_true, List.all_eq_true] at h
  obtain ⟨⟨⟨⟨⟨⟨⟨⟨⟨⟨⟨⟨⟨⟨h1, h2⟩, hM⟩, h3⟩, h4⟩, h4m⟩, h5⟩, h6⟩, h6m⟩, h7m⟩, h7⟩, h8⟩, h9⟩, hn⟩, hnm⟩ := h
  have memS : ∀ i, i ∈ restOf ops.size d ↔ i < ops.size ∧ i ∉ d.R ∧ d.A ≠ some i ∧ i ∉ d.M := by
    intro i
    simp [restOf, List.mem_filter, List.mem_range, and_assoc]
  have memSA : ∀ i, (i ∈ restOf ops.size d ∨ d.A = some i) → i ∈ restOf ops.size d ++ d.A.toList := by
    intro i h; simpa [Option.mem_toList, eq_comm] using h
  have memSAM : ∀ i, (i ∈ restOf ops.size d ∨ d.A = some i ∨ i ∈ d.M) → i ∈ restOf ops.size d ++ d.A.toList ++ d.M := by
    intro i h; simpa [Option.mem_toList, eq_comm, or_assoc] using h
  have asc : ∀ i j, waits ops i j = true → j < i := by
    intro i j hw
    unfold waits at hw
    split at hw
    · rename_i o ho
      have hi := (Array.getElem?_eq_some_iff.1 ho).1
      have := h9 i (List.mem_range.2 hi)
      rw [ho] at this
      obtain ⟨e, he, hb⟩ := Array.any_eq_true'.1 hw
      have h10 := Array.all_eq_true_iff_forall_mem.1 this e he
      simp only [Bool.and_eq_true, beq_iff_eq] at hb
      simp [hb.1] at h10
      omega
    · cases hw
  refine ⟨?_, ?_, ?_, ?_, ?_, ?_, ?_, ?_, ?_, ?_, ?_, ordB_spec h7m, chnB_spec h7, ?_, asc, ascB_nodup hn, ascB_pw hnm⟩
  · intro i hi
    by_cases hR : i ∈ d.R
    · exact .inr (.inr (.inr hR))
    · by_cases hA : d.A = some i
      · exact .inr (.inl hA)
      · by_cases hM : i ∈ d.M
        · exact .inr (.inr (.inl hM))
        · exact .inl ((memS i).2 ⟨hi, hR, hA, hM⟩)
  · intro i hi; exact (memS i).1 hi
  · intro a ha
    have := h1 a (by simp [ha])
    simp at this
    exact ⟨this.1.1, this.1.2, this.2⟩
  · intro i hi
    have := hM i hi
    simpa using this
  · intro i hi; have := h2 i hi; simpa using this
  · intro i hi
    have := h3 i (memSAM i hi)
    refine ⟨Option.isSome_iff_exists.1 this.1, fun j hj hne => ?_⟩
    have h10 := this.2 j (List.mem_range.2 hj)
    simp only [Bool.or_eq_true, beq_iff_eq, bne_iff_ne] at h10
    exact h10.resolve_left hne
  · intro i hi t ht j hj hd
    have := h4 i (memSA i hi) t ht j (List.mem_range.2 hj)
    simp only [Bool.or_eq_true, bne_iff_ne, Bool.and_eq_true, List.contains_iff_mem] at this
    rcases this with (h | h) | h
    · exact absurd hd h
    · exact .inl h
    · exact .inr ⟨h.1, headB_spec h.2⟩
  · intro i hi t ht j hj hd
    have := h4m i hi t ht j (List.mem_range.2 hj)
    simp only [Bool.or_eq_true, bne_iff_ne, Bool.and_eq_true, List.contains_iff_mem] at this
    rcases this with (h | h) | h
    · exact absurd hd h
    · exact .inl h
    · exact .inr ⟨h.1, headB_spec h.2⟩
  · intro i hi hf
    have := h5 i hi
    simp only [Bool.or_eq_true] at this
    rcases this with h | h
    · rw [h] at hf; cases hf
    · exact headB_spec h
  · intro a ha; exact headB_spec (h6 a (by simp [ha]))
  · intro i hi; exact headB_spec (h6m i hi)
  · intro i hi t ht j hj hd
    have := h8 i hi t ht j (memSAM j hj)
    simp only [Bool.or_eq_true, bne_iff_ne] at this
    exact this.resolve_left fun h => h hd

structure CDraw where
  S : List (SI × Bool)
  M : List SI
  A : Option (Nat × List Value)
  R : List SI

/-- A region that draws, run: the quiet ones, those that make blocks, the one that makes one whenever it comes, the last ones. -/
def runDraw (P : Program) (w0 : World) (d : CDraw) (e : Env) (H : Heap) (K : Env → Heap → Prop) : Prop :=
  runSt P w0 d.S e H fun e1 => runM P w0 d.M e1 H fun e2 H2 => match d.A with
    | none => runOps P w0 d.R e2 H2 K
    | some (t, z) => AllFresh w0 H2 fun b => runOps P w0 d.R ⟨(t, .pointer (some ⟨b, 0, none⟩)) :: e2.r, e2.m⟩ ((b, .cells z z.length) :: H2) K

def cAt (P : Program) (n : Nat) (ops : Array Oper) (i : Nat) : Option SI := (ops[i]?).bind (cI P n ops)

def allocOf : SI → Option (Nat × List Value)
  | ⟨none, .alloc d z⟩ => some (d, z)
  | _ => none

def cDraw (P : Program) (n : Nat) (ops : Array Oper) (d : DW) : Option CDraw :=
  if P.follows .mixedOrders = true ∧ drawOk ops d = true then
    match (restOf ops.size d).mapM (fun i => (cAt P n ops i).map fun s => (s, d.fl.contains i)), d.M.mapM (fun i => (cAt P n ops i).bind fun s => if siOk ops i s then some s else none), d.R.mapM (cAt P n ops) with
    | some S, some M, some R => match d.A with
      | none => some ⟨S, M, none, R⟩
      | some a => ((cAt P n ops a).bind allocOf).map fun s => ⟨S, M, some s, R⟩
    | _, _, _ => none
  else none

theorem All2.of_mapM' {α β : Type} {f : α → Option β} : ∀ {l : List α} {l' : List β}, l.mapM f = some l' → All2 (fun a b => f a = some b) l l' := by
  intro l
  induction l with
  | nil => intro l' h; simp at h; subst h; exact .nil
  | cons a l ih =>
    intro l' h
    rw [List.mapM_cons] at h
    cases h1 : f a with
    | none => simp [h1] at h
    | some b =>
      cases h2 : l.mapM f with
      | none => simp [h1, h2] at h
      | some bs => simp [h1, h2] at h; subst h; exact .cons h1 (ih h2)

theorem All2.mem {α β : Type} {Z : α → β → Prop} {l : List α} {m : List β} (h : All2 Z l m) : ∀ a ∈ l, ∃ b, Z a b := by
  induction h with
  | nil => intro a h; cases h
  | cons h1 _ ih => intro a ha; rcases List.mem_cons.1 ha with rfl | ha; exact ⟨_, h1⟩; exact ih a ha

theorem All2.and {α β : Type} {Z Y : α → β → Prop} {l : List α} {m : List β} (h : All2 Z l m) (h' : All2 Y l m) : All2 (fun a b => Z a b ∧ Y a b) l m := by
  induction h with
  | nil => exact .nil
  | cons h1 _ ih => cases h' with | cons h2 h3 => exact .cons ⟨h1, h2⟩ (ih h3)

theorem cAt_spec {P : Program} {n : Nat} {ops : Array Oper} {i : Nat} {si : SI} (h : cAt P n ops i = some si) : ∃ o, ops[i]? = some o ∧ cI P n ops o = some si := by
  unfold cAt at h
  cases ho : ops[i]? with
  | none => rw [ho] at h; cases h
  | some o => rw [ho] at h; exact ⟨o, rfl, h⟩

theorem cI_lt {P : Program} {n : Nat} {ops : Array Oper} {o : Oper} {si : SI} (h : cI P n ops o = some si) : dstOk n o = true := by
  unfold cI at h
  split at h
  · assumption
  · cases h

/-- **A REGION THAT DRAWS.** -/
theorem draw_wp {P : Program} {w0 : World} {r : Option Nat} {n : Nat} {rid : Nat} {ops : Array Oper} {dw : DW} {cd : CDraw} (hc : cDraw P n ops dw = some cd) {Q : Exit → Env → Heap → Prop} {e : Env} {H : Heap}
    (h : runDraw P w0 cd e H (Q .normal)) : SW P w0 n r (.region rid ops true) Q e H := by
  intro w a hs he
  unfold cDraw at hc
  split at hc
  · rename_i hok
    have D := drawOk_spec hok.2
    split at hc
    · rename_i S M R hS hM hR
      have aS := All2.of_mapM' hS
      have aR : All2 (fun i si => ∃ o, ops[i]? = some o ∧ cI P n ops o = some si) dw.R R := (All2.of_mapM' hR).imp fun i si h => cAt_spec h
      have aM : All2 (fun i si => (∃ o, ops[i]? = some o ∧ cI P n ops o = some si) ∧ siOk ops i si = true) dw.M M := (All2.of_mapM' hM).imp fun i si h => by
        simp only [Option.bind_eq_some_iff] at h
        obtain ⟨s, h1, h2⟩ := h
        split at h2
        · rename_i hok; cases h2; exact ⟨cAt_spec h1, hok⟩
        · cases h2
      have aS1 : All2 (fun i (p : SI × Bool) => ∃ o, ops[i]? = some o ∧ cI P n ops o = some p.1) (restOf ops.size dw) S := aS.imp fun i p h => by
        simp only [Option.map_eq_some_iff] at h
        obtain ⟨s, hs, rfl⟩ := h
        exact cAt_spec hs
      have sorted : (restOf ops.size dw).Pairwise (· < ·) := List.Pairwise.filter _ List.pairwise_lt_range
      have hcd : ∃ AA, cd = ⟨S, M, AA, R⟩ ∧ ((dw.A = none ∧ AA = none) ∨ ∃ x t z, dw.A = some x ∧ cAt P n ops x = some ⟨none, .alloc t z⟩ ∧ AA = some (t, z)) := by
        split at hc
        · rename_i hA; cases hc; exact ⟨none, rfl, .inl ⟨hA, rfl⟩⟩
        · rename_i x hA
          simp only [Option.map_eq_some_iff, Option.bind_eq_some_iff] at hc
          obtain ⟨⟨t, z⟩, ⟨si, hsi, hal⟩, rfl⟩ := hc
          refine ⟨_, rfl, .inr ⟨x, t, z, hA, ?_, rfl⟩⟩
          unfold allocOf at hal
          split at hal
          · cases hal; exact hsi
          · cases hal
      obtain ⟨AA, rfl, hA⟩ := hcd
      unfold runDraw at h
      simp only at h
      obtain ⟨e1, hk, hm1, hlk1, hall⟩ := runSt_facts (r := r) (n := n) (ops := ops) _ _ _ aS1 (by
          refine List.Pairwise.imp_of_mem ?_ sorted
          intro i j hi hj hlt
          refine ⟨fun t ht hd => ?_, ?_⟩
          · rcases D.look i (.inl hi) t ht j (D.inS j hj).1 hd with ⟨_, hw⟩ | ⟨hR', _⟩
            · have := D.asc i j hw; omega
            · exact (D.inS j hj).2.1 hR'
          · exact (D.sdst i (.inl hi)).2 j (D.inS j hj).1 (by omega)) (by
          intro i hi t ht hd
          rcases D.look i (.inl hi) t ht i (D.inS i hi).1 hd with ⟨_, hw⟩ | ⟨hR', _⟩
          · have := D.asc i i hw; omega
          · exact (D.inS i hi).2.1 hR') h
      have hSy : ∀ i ∈ restOf ops.size dw, ∃ o d, ops[i]? = some o ∧ d < n ∧ Yl P w0 r ops (if dw.fl.contains i then [] else H) e1 o d := by
        intro i hi
        obtain ⟨p, ⟨⟨o, d, ho, hy⟩, hp⟩, o2, ho2, hc2⟩ := ((hall.and aS).and aS1).mem i hi
        simp only [Option.map_eq_some_iff] at hp
        obtain ⟨s, _, rfl⟩ := hp
        refine ⟨o, d, ho, ?_, hy⟩
        rw [ho] at ho2; cases ho2
        exact dstOk_lt (cI_lt hc2) d hy.1
      have hQ : ∀ e' H' (a' : Act) (w' : World), Q .normal e' H' → St w0 H' w' → EnvOk n e' a' → (fun ex a' w' => ∃ e' H', Q ex e' H' ∧ St w0 H' w' ∧ EnvOk n e' a') Exit.normal a' w' :=
        fun e' H' a' w' hq hs' he' => ⟨e', H', hq, hs', he'⟩
      refine wpIn_region_any hok.1 ?_
      have hs2 : St w0 H { w with drawn := w.drawn + 1 } := hs.drew _
      have hsz : (Array.replicate ops.size false).size = ops.size := by simp
      have hnone : ∀ i, i < ops.size → (Array.replicate ops.size false).getD i true = false := by
        intro i hi; simp [hi]
      have hcl : Clos ops (Array.replicate ops.size false) := by
        intro x j hx hxs _
        rw [hnone x hxs] at hx; cases hx
      have hu : unl ops (Array.replicate ops.size false) ≤ ops.size := by
        unfold unl; exact Nat.le_trans List.countP_le_length (by simp)
      have known : ∀ (X : Nat → Prop), (∀ t, (∀ i ∈ restOf ops.size dw, dstAt ops i ≠ some t) ∨ X t) → EnvBut n X e1 a := by
        intro X hX
        refine ⟨he.size, fun t v ht hx => ?_, by rw [hm1]; exact he.defers⟩
        refine he.get t v ?_
        rw [← hlk1 t ((hX t).resolve_right hx)]; exact ht
      have pendX : ∀ t, (∀ i ∈ restOf ops.size dw, dstAt ops i ≠ some t) ∨ Pend ops (restOf ops.size dw) (Array.replicate ops.size false) t := by
        intro t
        by_cases hh : ∃ i ∈ restOf ops.size dw, dstAt ops i = some t
        · obtain ⟨i, hi, hd⟩ := hh; exact .inr ⟨i, hi, hnone i (D.inS i hi).1, hd⟩
        · exact .inl fun i hi hd => hh ⟨i, hi, hd⟩
      rcases hA with ⟨hA0, rfl⟩ | ⟨x, t, z, hA1, hsx, rfl⟩
      · refine early_sim (dA := 0) (cA := []) (H := H) (e1 := e1) D hSy (fun y hy => by rw [hA0] at hy; cases hy) aR (fun e2 H2 hk _ => hk) (fun e2 H2 _ y hy => by rw [hA0] at hy; cases hy) hQ _ _ _ _ dw.M M e1 H H hsz hu hcl ?_
        exact ⟨fun y hy => hnone y (D.inR y hy), (fun y hy => .inr hy), List.Sublist.refl _, fun y hy => hnone y (D.inM y hy).1, aM, runM_toKC hk, rfl, fun _ _ => rfl, fun _ h => h, fun _ h => h, hs2, known _ fun t => (pendX t).imp id .inl, fun y hy => by rw [hA0] at hy; cases hy⟩
      · obtain ⟨o, ho, hco⟩ := cAt_spec hsx
        have hod : o.dst = some t := by rw [← cI_dst hco]; rfl
        refine early_sim (dA := t) (cA := z) (H := H) (e1 := e1) D hSy (fun y hy => ?_) aR (fun e2 H2 _ hh => by rw [hA1] at hh; cases hh) (fun e2 H2 hk y hy b hb hf => (id hk : AllFresh w0 H2 _) b hb hf) hQ _ _ _ _ dw.M M e1 H H hsz hu hcl ?_
        · rw [hA1] at hy; cases hy
          exact ⟨o, ho, dstOk_lt (cI_lt hco) t hod, hco⟩
        · refine ⟨fun y hy => hnone y (D.inR y hy), (fun y hy => .inr hy), List.Sublist.refl _, fun y hy => hnone y (D.inM y hy).1, aM, runM_toKC hk, rfl, fun _ _ => rfl, fun _ h => h, fun _ h => h, hs2, known _ fun t => (pendX t).imp id .inl, fun y hy hl => ?_⟩
          rw [hnone y (D.inA y hy).1] at hl; cases hl
    · cases hc
  · cases hc

/-- A guess at a region's parts: stores, assignments, appends, and calls of what 'eff' names come last. -/
def lastKind (eff : List FuncId) (o : Oper) : Bool :=
  match o.op with
  | .store _ _ _ | .assign _ | .makeSlice _ _ _ => true
  | .call { callee := .builtin b, .. } => match b with | .append | .copy => true | _ => false
  | .call { callee := .value (.func f), .. } => eff.contains f
  | .call { callee := .value _, .. } => eff.contains 1000000
  | _ => false

def isAlloc (o : Oper) : Bool := match o.op with | .alloc _ => true | _ => false
def isMake (o : Oper) : Bool := match o.op with | .alloc _ | .box _ _ | .buildSlice _ _ _ => true | _ => false

/-- Those of a kind, and those that look at what they write. -/
def closeUp (ops : Array Oper) (kind : Nat → Bool) : List Nat :=
  (List.range ops.size).foldl (fun R i => match ops[i]? with
    | some o => if kind i || (o.looksAt ops).any (fun t => R.any fun j => dstAt ops j == some t) then R ++ [i] else R
    | none => R) []

def autoDW (eff : List FuncId) (ops : Array Oper) : DW :=
  let at_ (i : Nat) (f : Oper → Bool) : Bool := match ops[i]? with | some o => f o | none => false
  let as := (List.range ops.size).filter fun i => at_ i isAlloc
  let A := match as with | [a] => some a | _ => none
  let R := closeUp ops fun i => at_ i (lastKind eff)
  let A := match A with | some a => if R.contains a then none else some a | none => none
  let M := (closeUp ops fun i => at_ i isMake && (A != some i)).filter fun i => !R.contains i && (A != some i)
  ⟨R, M, A, (List.range ops.size).filter fun i => !headB ops R i⟩

end Go.SL
