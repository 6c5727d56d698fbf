/- The small code whole: branches, loops, calls; a function's contract out of the walk over its small code. No program in sight. -/
import Derived.Test.YtppajifkmepdnaaSlDr
set_option linter.unusedSimpArgs false
set_option linter.unusedVariables false
namespace Go.SL
open Go.RowKit

theorem runOps_wp {P : Program} {w0 : World} {r : Option Nat} {n : Nat} {ops : Array Oper} {Q : Exit → Act → World → Prop} {K : Env → Heap → Prop}
    (hn : ∀ e' H' a' w', K e' H' → St w0 H' w' → EnvOk n e' a' → Q .normal a' w') :
    ∀ (l : List Nat) (sis : List SI) (e : Env) (H : Heap) (a : Act) (w : World), All2 (fun i si => ∃ o, ops[i]? = some o ∧ cI P n ops o = some si) l sis →
      runOps P w0 sis e H K → St w0 H w → EnvOk n e a → wpOpsIn (Fr r) 0 P ops Q l a w := by
  intro l
  induction l with
  | nil => intro sis e H a w hl h hs he; cases hl; exact hn _ _ _ _ h hs he
  | cons i l ih =>
    intro sis e H a w hl h hs he
    cases hl with
    | cons h1 h2 =>
      rename_i si sis
      obtain ⟨o, ho, hc⟩ := h1
      unfold wpOpsIn
      simp only [ho]
      unfold cI at hc
      split at hc
      · rename_i hd
        simp only [runOps, runI] at h
        split at hc
        · rename_i hg
          simp only [Option.map_eq_some_iff] at hc
          obtain ⟨s, hc, rfl⟩ := hc
          have hw : Region.wanted o (yielded ops a.tmps) = true := by simp [Region.wanted, hg]
          simp only [hw, if_true]
          exact absOp_sound hd (cOp_sound hc h) hs he fun e' H' a' w' hk hs' he' => ih _ _ _ _ _ h2 hk hs' he'
        · rename_i j want hg
          split at hc
          · rename_i t ht
            simp only [Option.map_eq_some_iff] at hc
            obtain ⟨s, hc, rfl⟩ := hc
            obtain ⟨v, hv, h⟩ := h
            cases v <;> simp only at h
            case tuple us =>
              have hy : yielded ops a.tmps j = none := by
                unfold yielded
                rw [ht]
                simp [he.get t _ hv]
              have hwd : Region.wanted o (yielded ops a.tmps) = false := by simp [Region.wanted, hg, hy]
              rw [hwd]
              simp only [Bool.false_eq_true, if_false]
              refine ⟨fun _ _ => trivial, ih _ _ _ _ _ h2 h hs ?_⟩
              rw [show s.dst = o.dst from cOp_dst hc]
              exact he.put _ (dstOk_lt hd) undef
            rename_i b
            have hy : yielded ops a.tmps j = some b := by
              unfold yielded
              rw [ht]
              simp [he.get t _ hv]
            have hwd : Region.wanted o (yielded ops a.tmps) = (b == want) := by simp [Region.wanted, hg, hy]
            have he2 : EnvOk n ⟨(t, .bool b) :: e.r, e.m⟩ a := by
              refine ⟨he.size, fun t' u ht' => ?_, he.defers⟩
              simp only [lk] at ht'
              split at ht'
              · rename_i h1; cases ht'; subst h1; exact he.get _ _ hv
              · exact he.get _ _ ht'
            rw [hwd]
            by_cases hbw : b = want
            · simp only [hbw, beq_self_eq_true, if_true]
              exact absOp_sound hd (cOp_sound hc (h.1 hbw)) hs (hbw ▸ he2) fun e' H' a' w' hk hs' he' => ih _ _ _ _ _ h2 hk hs' he'
            · have h3 : (b == want) = false := by simpa using hbw
              have h4 : b = !want := by cases b <;> cases want <;> simp_all
              simp only [h3, Bool.false_eq_true, if_false]
              have hdst : s.dst = o.dst := cOp_dst hc
              refine ⟨fun _ _ => trivial, ih _ _ _ _ _ h2 (h.2 h4) hs ?_⟩
              rw [hdst]
              exact (h4 ▸ he2).put _ (dstOk_lt hd) undef
          · cases hc
      · cases hc

inductive SCode where
  | skip
  | reg (ops : List SI)
  | draw (d : CDraw)
  | seq (a b : SCode)
  | cond (c : Operand) (x y : SCode)
  | block (id : Nat) (c : SCode)
  | loop (c : SCode)
  | rfun (f : Operand) (ps : List Nat) (assign body : SCode)
  | exit (id : Nat)
  | goto (l : Nat)
  | label (l : Nat)
  | ret

def cRegion (P : Program) (n : Nat) (ops : Array Oper) : Option (List SI) := ops.toList.mapM (cI P n ops)

def cCode (P : Program) (O : List FuncId) (n : Nat) : Code → Option SCode
  | .skip => some .skip
  | .region _ ops false => (cRegion P n ops).map .reg
  | .region id ops true => (cDraw P n ops (autoDW O ops)).map .draw
  | .seq a b => match cCode P O n a, cCode P O n b with
    | some x, some y => some (.seq x y)
    | _, _ => none
  | .cond c a b => match cCode P O n a, cCode P O n b with
    | some x, some y => some (.cond c x y)
    | _, _ => none
  | .block id c => (cCode P O n c).map (.block id)
  | .loop c => (cCode P O n c).map .loop
  | .rangeFunc f ps a b => match cCode P O n a, cCode P O n b with
    | some x, some y => some (.rfun f ps.toList x y)
    | _, _ => none
  | .exit id => some (.exit id)
  | .goto l => some (.goto l)
  | .label l => some (.label l)
  | .ret => some .ret
  | _ => none

/-- The walk's word on small code: on whatever code of the model's it was made of. -/
def SWS (P : Program) (w0 : World) (O : List FuncId) (n : Nat) (r : Option Nat) (s : SCode) (Q : Exit → Env → Heap → Prop) (e : Env) (H : Heap) : Prop :=
  ∀ c, cCode P O n c = some s → SW P w0 n r c Q e H

theorem All2.range_aux {ops : Array Oper} {P : Program} {n : Nat} : ∀ (os : List Oper) (sis : List SI) (k : Nat), All2 (fun a b => cI P n ops a = some b) os sis → (∀ i, os[i]? = ops[k + i]?) →
    All2 (fun i si => ∃ o, ops[i]? = some o ∧ cI P n ops o = some si) (List.range' k os.length) sis := by
  intro os
  induction os with
  | nil => intro sis k h _; cases h; exact .nil
  | cons o os ih =>
    intro sis k h hk
    cases h with
    | cons h1 h2 =>
      refine .cons ⟨o, by have := hk 0; simpa using this.symm, h1⟩ (ih _ (k + 1) h2 fun i => ?_)
      have := hk (i + 1)
      rw [show k + 1 + i = k + (i + 1) from by omega]
      simpa using this

theorem All2.range {ops : Array Oper} {P : Program} {n : Nat} {sis : List SI} (h : cRegion P n ops = some sis) :
    All2 (fun i si => ∃ o, ops[i]? = some o ∧ cI P n ops o = some si) (List.range ops.size) sis := by
  have := All2.range_aux (ops := ops) (P := P) (n := n) ops.toList sis 0 (All2.of_mapM' h) (fun i => by simp)
  simpa [List.range_eq_range'] using this

/-- What is to be shown of small code; at a loop, and at a range over a function, SWS itself. -/
def aw (P : Program) (w0 : World) (O : List FuncId) (n : Nat) (r : Option Nat) : SCode → (Exit → Env → Heap → Prop) → Env → Heap → Prop
  | .skip, Q, e, H => Q .normal e H
  | .reg ops, Q, e, H => runOps P w0 ops e H (Q .normal)
  | .draw d, Q, e, H => runDraw P w0 d e H (Q .normal)
  | .seq a b, Q, e, H => aw P w0 O n r a (thn (aw P w0 O n r b Q) Q) e H
  | .cond c x y, Q, e, H => need (ev e c) fun v => match v with
    | .bool t => (t = true → aw P w0 O n r x Q e H) ∧ (t = false → aw P w0 O n r y Q e H)
    | _ => False
  | .block id c, Q, e, H => aw P w0 O n r c (inBlk id Q) e H
  | .loop c, Q, e, H => SWS P w0 O n r (.loop c) Q e H
  | .rfun f ps a b, Q, e, H => SWS P w0 O n r (.rfun f ps a b) Q e H
  | .exit id, Q, e, H => Q (.exit id) e H
  | .goto l, Q, e, H => Q (.goto l) e H
  | .label _, Q, e, H => Q .normal e H
  | .ret, Q, e, H => Q .ret e H

theorem thn_mono {K K' : Env → Heap → Prop} {Q : Exit → Env → Heap → Prop} (h : ∀ e H, K e H → K' e H) : ∀ ex e H, thn K Q ex e H → thn K' Q ex e H := by
  intro ex e H hh
  cases ex <;> first | exact h _ _ hh | exact hh

def Made (P : Program) (O : List FuncId) (n : Nat) (c : Code) : SCode → Prop
  | .skip => c = .skip
  | .reg sis => ∃ id ops, c = .region id ops false ∧ cRegion P n ops = some sis
  | .draw d => ∃ id ops, c = .region id ops true ∧ cDraw P n ops (autoDW O ops) = some d
  | .seq x y => ∃ a b, c = .seq a b ∧ cCode P O n a = some x ∧ cCode P O n b = some y
  | .cond o x y => ∃ a b, c = .cond o a b ∧ cCode P O n a = some x ∧ cCode P O n b = some y
  | .block id x => ∃ a, c = .block id a ∧ cCode P O n a = some x
  | .loop x => ∃ a, c = .loop a ∧ cCode P O n a = some x
  | .rfun f ps x y => ∃ a b, c = .rangeFunc f ps.toArray a b ∧ cCode P O n a = some x ∧ cCode P O n b = some y
  | .exit id => c = .exit id
  | .goto l => c = .goto l
  | .label l => c = .label l
  | .ret => c = .ret

theorem made {P : Program} {O : List FuncId} {n : Nat} {c : Code} {s : SCode} (h : cCode P O n c = some s) : Made P O n c s := by
  cases c with
  | skip => cases h; rfl
  | region id ops d =>
    cases d with
    | true =>
      simp only [cCode, Option.map_eq_some_iff] at h
      obtain ⟨d, h1, rfl⟩ := h
      exact ⟨id, ops, rfl, h1⟩
    | false =>
      simp only [cCode, Option.map_eq_some_iff] at h
      obtain ⟨sis, h1, rfl⟩ := h
      exact ⟨id, ops, rfl, h1⟩
  | seq a b =>
    unfold cCode at h
    split at h
    · cases h; exact ⟨a, b, rfl, ‹_›, ‹_›⟩
    · cases h
  | cond o a b =>
    unfold cCode at h
    split at h
    · cases h; exact ⟨a, b, rfl, ‹_›, ‹_›⟩
    · cases h
  | block id a =>
    simp only [cCode, Option.map_eq_some_iff] at h
    obtain ⟨x, h1, rfl⟩ := h
    exact ⟨a, rfl, h1⟩
  | loop a =>
    simp only [cCode, Option.map_eq_some_iff] at h
    obtain ⟨x, h1, rfl⟩ := h
    exact ⟨a, rfl, h1⟩
  | rangeFunc f ps a b =>
    unfold cCode at h
    split at h
    · cases h; exact ⟨a, b, by simp, ‹_›, ‹_›⟩
    · cases h
  | exit id => cases h; rfl
  | scope b => cases h
  | label l => cases h; rfl
  | goto l => cases h; rfl
  | ret => cases h; rfl
  | refuse w => cases h

theorem aw_sound {P : Program} {w0 : World} {O : List FuncId} {n : Nat} {r : Option Nat} : ∀ (s : SCode) (Q : Exit → Env → Heap → Prop) (e : Env) (H : Heap), aw P w0 O n r s Q e H → SWS P w0 O n r s Q e H := by
  intro s
  induction s with
  | skip => intro Q e H h c hc; obtain rfl := made hc; exact SW.skip h
  | reg sis =>
    intro Q e H h c hc
    obtain ⟨id, ops, rfl, hr⟩ := made hc
    intro w a hs he
    exact wpIn_region (runOps_wp (fun e' H' a' w' hk hs' he' => ⟨e', H', hk, hs', he'⟩) _ _ e H a w (All2.range hr) h hs he)
  | draw d =>
    intro Q e H h c hc
    obtain ⟨id, ops, rfl, hr⟩ := made hc
    exact draw_wp hr h
  | seq x y ihx ihy =>
    intro Q e H h c hc
    obtain ⟨a, b, rfl, ha, hb⟩ := made hc
    refine SW.seq (SW.mono (ihx _ _ _ h a ha) ?_)
    exact thn_mono fun e' H' hk => ihy _ _ _ hk b hb
  | cond o x y ihx ihy =>
    intro Q e H h c hc
    obtain ⟨a, b, rfl, ha, hb⟩ := made hc
    obtain ⟨v, hv, h⟩ := h
    cases v <;> simp only at h
    exact SW.cond hv (fun ht => ihx _ _ _ (h.1 ht) a ha) (fun hf => ihy _ _ _ (h.2 hf) b hb)
  | block id x ih =>
    intro Q e H h c hc
    obtain ⟨a, rfl, ha⟩ := made hc
    exact SW.block (ih _ _ _ h a ha)
  | loop x ih => intro Q e H h; exact h
  | rfun f ps x y ihx ihy => intro Q e H h; exact h
  | exit id => intro Q e H h c hc; obtain rfl := made hc; exact SW.exit h
  | goto l => intro Q e H h c hc; obtain rfl := made hc; exact SW.goto h
  | label l => intro Q e H h c hc; obtain rfl := made hc; exact SW.label h
  | ret => intro Q e H h c hc; obtain rfl := made hc; exact SW.ret h

/-- What a state of the prover's own knows is known here. -/
def subR : List (Nat × Value) → List (Nat × Value) → Prop
  | [], _ => True
  | (t, v) :: l, r => lk t r = some v ∧ subR l r

theorem subR_lk : ∀ {l r : List (Nat × Value)}, subR l r → ∀ t v, lk t l = some v → lk t r = some v := by
  intro l
  induction l with
  | nil => intro r _ t v h; cases h
  | cons p l ih =>
    intro r h t v ht
    obtain ⟨t', v'⟩ := p
    simp only [lk] at ht
    split at ht
    · rename_i h1; cases ht; subst h1; exact h.1
    · exact ih h.2 t v ht

/-- Each fact of the first heap is one of the second. -/
def subH : Heap → Heap → Prop
  | [], _ => True
  | p :: l, H => p ∈ H ∧ subH l H

theorem subH_mem : ∀ {l H : Heap}, subH l H → ∀ p ∈ l, p ∈ H := by
  intro l
  induction l with
  | nil => intro H _ p hp; cases hp
  | cons q l ih =>
    intro H h p hp
    rcases List.mem_cons.1 hp with rfl | hp
    · exact h.1
    · exact ih h.2 p hp

/-- **THE LOOP's LAW**: x0, I, R, Hp, μ: the state at the head, what holds of it, which temporaries and which blocks it names, what falls. -/
theorem SWS.loop {P : Program} {w0 : World} {O : List FuncId} {n : Nat} {r : Option Nat} {Q : Exit → Env → Heap → Prop} {e : Env} {H : Heap} {σ : Type} {s : SCode} (x0 : σ) (I : σ → Prop) (R : σ → List (Nat × Value)) (Hp : σ → Heap) (μ : σ → Nat)
    (h0 : I x0) (he : subR (R x0) e.r) (hh : ∀ p ∈ Hp x0, p ∈ H)
    (round : ∀ x, I x → aw P w0 O n r s (thn (fun e' H' => ∃ x', (I x' ∧ μ x' < μ x) ∧ (e'.m = e.m ∧ subR (R x') e'.r) ∧ ∀ p ∈ Hp x', p ∈ H') Q) ⟨R x, e.m⟩ (Hp x)) :
    SWS P w0 O n r (.loop s) Q e H := by
  intro c hc
  obtain ⟨a, rfl, ha⟩ := made hc
  refine SW.loop x0 I (fun x => ⟨R x, e.m⟩) Hp μ h0 rfl (subR_lk he) hh fun x hx => ?_
  refine SW.mono (aw_sound s _ _ _ (round x hx) a ha) (thn_mono fun e' H' hk => ?_)
  obtain ⟨x', ⟨h1, h2⟩, ⟨h3, h4⟩, h5⟩ := hk
  exact ⟨x', h1, h2, h3.symm, subR_lk h4, h5⟩

theorem SWS.mono {P : Program} {w0 : World} {O : List FuncId} {n : Nat} {r : Option Nat} {s : SCode} {Q Q' : Exit → Env → Heap → Prop} {e : Env} {H : Heap} (h : SWS P w0 O n r s Q e H) (hq : ∀ ex e' H', Q ex e' H' → Q' ex e' H') :
    SWS P w0 O n r s Q' e H := fun c hc => (h c hc).mono hq

theorem SWS.weak {P : Program} {w0 : World} {O : List FuncId} {n : Nat} {r : Option Nat} {s : SCode} {Q : Exit → Env → Heap → Prop} {e : Env} {H : Heap} (R : List (Nat × Value)) (H2 : Heap) (he : subR R e.r) (hh : ∀ p ∈ H2, p ∈ H)
    (h : SWS P w0 O n r s Q ⟨R, e.m⟩ H2) : SWS P w0 O n r s Q e H :=
  fun c hc => (h c hc).weak rfl (subR_lk he) hh

/-! ### A function -/
structure SFun where
  O : List FuncId
  n : Nat
  rs : List ResultVar
  body : SCode

def cFun (P : Program) (O : List FuncId) (fn : Func) : Option SFun :=
  match fn.body with
  | some c => (cCode P O fn.ntmps c).map fun s => ⟨O, fn.ntmps, fn.results.toList, s⟩
  | none => none

def envOf : Nat → List Value → List (Nat × Value)
  | _, [] => []
  | k, v :: vs => (k, v) :: envOf (k + 1) vs

theorem envOf_lk : ∀ (vs : List Value) (k t : Nat) (v : Value), lk t (envOf k vs) = some v → k ≤ t ∧ vs[t - k]? = some v := by
  intro vs
  induction vs with
  | nil => intro k t v h; cases h
  | cons u vs ih =>
    intro k t v h
    simp only [envOf, lk] at h
    split at h
    · rename_i h1; subst h1; cases h; simp
    · obtain ⟨h2, h3⟩ := ih _ _ _ h
      refine ⟨by omega, ?_⟩
      rw [show t - k = t - (k + 1) + 1 from by omega]
      simpa using h3

/-- The value of one result variable. -/
def resV (P : Program) (w0 : World) (e : Env) (H : Heap) : ResultVar → Option Value
  | .tmp t => lk t e.r
  | .cell a T => match lk a e.r, tinfo P T with
    | some v, some (agg, sz) => match ptrOf v with
      | some (b, o) => if agg then (rd w0 H b o sz).map fun cs => .agg cs.toArray else rd1 w0 H b o
      | none => none
    | _, _ => none

def resVs (P : Program) (w0 : World) (e : Env) (H : Heap) : List ResultVar → Option (List Value)
  | [] => some []
  | x :: xs => match resV P w0 e H x, resVs P w0 e H xs with
    | some v, some vs => some (v :: vs)
    | _, _ => none

/-- What is asked at a function's end: the results are read; facts may be dropped; the marks are there, and no fact that is kept names their blocks. -/
def endPost (P : Program) (w0 : World) (rs : List ResultVar) (K : Value → Heap → Prop) (ex : Exit) (e : Env) (H : Heap) : Prop :=
  (match ex with | .normal => True | .ret => True | _ => False) ∧
  need (resVs P w0 e H rs) fun vs => ∃ H2, (∀ p ∈ H2, p ∈ H) ∧ ((∀ r ∈ e.m, (r, Blk.obj (.deferred (some []))) ∈ H ∧ r ∉ keys H2) ∧ e.m.Nodup) ∧ K (tupleOf vs) H2

theorem resVs_all {P : Program} {w0 : World} {e : Env} {H : Heap} : ∀ (rs : List ResultVar) (vs : List Value), resVs P w0 e H rs = some vs → All2 (ResV P w0 e H) rs vs := by
  intro rs
  induction rs with
  | nil => intro vs h; cases h; exact .nil
  | cons x xs ih =>
    intro vs h
    simp only [resVs] at h
    split at h
    · rename_i v vs' h1 h2
      cases h
      refine .cons ?_ (ih _ h2)
      cases x with
      | tmp t => exact h1
      | cell a T =>
        simp only [resV] at h1
        split at h1
        · rename_i u agg sz h3 h4
          split at h1
          · rename_i b o hp
            unfold ptrOf at hp
            split at hp <;> cases hp
            refine ⟨_, agg, sz, h3, h4, ?_⟩
            cases agg with
            | true =>
              simp only [if_true, Option.map_eq_some_iff] at h1
              obtain ⟨cs, h5, rfl⟩ := h1
              obtain ⟨h6, h7⟩ := rd_has h5
              unfold LoadV
              rw [if_pos rfl]
              exact ⟨cs, h6, rfl, h7⟩
            | false =>
              simp only [Bool.false_eq_true, if_false] at h1
              unfold LoadV
              rw [if_neg (by simp)]
              exact rd1_has h1
          · cases h1
        · cases h1
    · cases h

/-- **A CALL OUT OF THE WALK OVER ITS SMALL CODE.** -/
theorem acall {P : Program} {w0 : World} {O : List FuncId} {f : FuncId} {fn : Func} {sf : SFun} {args : List Value} {H : Heap} {K : Value → Heap → Prop}
    (hf : P.funcs[f]? = some fn) (hc : cFun P O fn = some sf) (hn : args.length ≤ sf.n)
    (h : aw P w0 sf.O sf.n none sf.body (endPost P w0 sf.rs K) ⟨envOf 0 args, []⟩ H) : ACall P w0 f args.toArray H K := by
  unfold cFun at hc
  split at hc
  · rename_i c hb
    simp only [Option.map_eq_some_iff] at hc
    obtain ⟨s, hs, rfl⟩ := hc
    refine acall_of_body hf hb (by simpa using hn) (e := ⟨envOf 0 args, []⟩) rfl ?_ (SW.mono (aw_sound _ _ _ _ h c hs) ?_)
    · intro t v ht
      have := (envOf_lk args 0 t v ht).2
      simpa using this
    · rintro ex e' H' ⟨hex, vs, hvs, H2, hsub, ⟨hm, hnd⟩, hk⟩
      refine ⟨⟨?_, vs, H2, resVs_all _ _ hvs, hsub, hm, hk⟩, hnd⟩
      cases ex <;> simp_all
  · cases hc

/-- A call of a function with a body. -/
theorem vcall_func {P : Program} {w0 : World} {f : FuncId} {fn : Func} {first cap : Array Value} {args : List Value} {H : Heap} {K : Value → Heap → Prop}
    (hf : P.funcs[f]? = some fn) (hb : fn.body.isSome = true) (hnm : (fn.name == "runtime.NumGoroutine") = false)
    (h : ACall P w0 f (first ++ args.toArray ++ cap) H K) : VCall P w0 (.func (.func f) first cap) args H K := by
  unfold VCall
  simp only [Deferred.ofValue, pure_bind, invoke, callFunc]
  refine RunTo.of_ok (x := P) (fun w => by simp [program, Sem.run]) ?_
  simp only [hf, hnm, Bool.false_eq_true, if_false]
  have : fn.body.isNone = false := by cases hh : fn.body <;> simp_all
  simp only [this, Bool.false_eq_true, if_false]
  exact RunTo.pure h

end Go.SL
