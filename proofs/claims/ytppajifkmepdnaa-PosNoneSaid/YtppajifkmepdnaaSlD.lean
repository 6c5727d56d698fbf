/- The small code's operations on values are the model's. No program in sight. -/
import Derived.Test.YtppajifkmepdnaaSlC
set_option linter.unusedSimpArgs false
set_option linter.unusedVariables false
namespace Go.SL
open Go.RowKit

variable {P : Program}

theorem run_eqGuard_any (op : BinOp) (t : TypeId) (x y : Operand) (a b : Value) (w : World)
    (h : (∀ xs ys, a = .agg xs → b = .agg ys → P.eqGuardType P.depth t = false)) (h2 : a ≠ .nilIface) : (eqGuard op t x y a b).run P w = .ok () w := by
  cases a <;> cases b <;> first
    | exact absurd rfl h2
    | exact run_eqGuard_agg w op t x y _ _ (h _ _ rfl rfl)
    | (cases op <;> simp [eqGuard])

theorem run_tinfo {T : TypeId} {agg : Bool} {sz : Nat} (ht : tinfo P T = some (agg, sz)) (w : World) :
    (isAgg T).run P w = .ok agg w ∧ (sizeOf T).run P w = .ok sz w := by
  unfold tinfo at ht
  split at ht
  · rename_i d i hd hi
    simp only [Option.some.injEq, Prod.mk.injEq] at ht
    obtain ⟨h1, h2⟩ := ht
    have hu : (underlying T).run P w = .ok d w := by simp [underlying, program, Sem.run, Sem.run_bind, Result.andThen, hd]
    refine ⟨?_, by simp [sizeOf, typeInfo, program, Sem.run, Sem.run_bind, Result.andThen, hi, h2]⟩
    simp only [isAgg, Sem.run_bind, hu, Result.andThen]
    cases d <;> simp_all
  · cases ht

theorem run_part {T : TypeId} {agg : Bool} {sz : Nat} (ht : tinfo P T = some (agg, sz)) {cs : Array Value} {off : Nat} {v : Value} (h : partOf agg sz cs.toList off = some v) (w : World) :
    (part T cs off).run P w = .ok v w := by
  obtain ⟨h1, h2⟩ := run_tinfo ht w
  unfold partOf at h
  cases agg with
  | true =>
    simp only [if_true, Option.some.injEq] at h
    subst h
    simp only [part, Sem.run_bind, h1, Result.andThen, if_true, h2]
    simp only [Sem.run_pure]
    congr 2
    apply Array.ext'
    simp [List.take_drop, Nat.add_comm]
  | false =>
    simp only [Bool.false_eq_true, if_false] at h
    simp only [part, Sem.run_bind, h1, Result.andThen, Bool.false_eq_true, if_false]
    rw [Array.getElem?_toList] at h
    rw [h]
    simp

/-! ### '==' on a flat struct -/
theorem eqCells_append : ∀ (k1 : List (Option IntKind)) (k2 : List (Option IntKind)) (xs ys : List Value) (r : Bool), eqCells (k1 ++ k2) xs ys = some r →
    ∃ r1 r2, eqCells k1 (xs.take k1.length) (ys.take k1.length) = some r1 ∧ eqCells k2 (xs.drop k1.length) (ys.drop k1.length) = some r2 ∧ r = (r1 && r2) := by
  intro k1
  induction k1 with
  | nil => intro k2 xs ys r h; exact ⟨true, r, rfl, by simpa using h, by simp⟩
  | cons k k1 ih =>
    intro k2 xs ys r h
    cases k with
    | some k =>
      match xs, ys, h with
      | .int a1 a :: xs, .int b1 b :: ys, h =>
        simp only [List.cons_append, eqCells] at h
        split at h
        · rename_i hk
          cases he : eqCells (k1 ++ k2) xs ys with
          | none => rw [he] at h; cases h
          | some r' =>
            rw [he] at h
            simp only [Option.map_some, Option.some.injEq] at h
            obtain ⟨r1, r2, h1, h2, h3⟩ := ih k2 xs ys r' he
            obtain ⟨rfl, rfl⟩ := hk
            refine ⟨decide (a = b) && r1, r2, ?_, by simpa using h2, ?_⟩
            · simp [eqCells, h1]
            · rw [← h, h3, Bool.and_assoc]
        · cases h
    | none =>
      match xs, ys, h with
      | .bool a :: xs, .bool b :: ys, h =>
        simp only [List.cons_append, eqCells] at h
        cases he : eqCells (k1 ++ k2) xs ys with
        | none => rw [he] at h; cases h
        | some r' =>
          rw [he] at h
          simp only [Option.map_some, Option.some.injEq] at h
          obtain ⟨r1, r2, h1, h2, h3⟩ := ih k2 xs ys r' he
          refine ⟨(a == b) && r1, r2, ?_, by simpa using h2, ?_⟩
          · simp [eqCells, h1]
          · rw [← h, h3, Bool.and_assoc]

theorem eqCells_length : ∀ (ks : List (Option IntKind)) (xs ys : List Value) (r : Bool), eqCells ks xs ys = some r → xs.length = ks.length ∧ ys.length = ks.length := by
  intro ks
  induction ks with
  | nil => intro xs ys r h; cases xs <;> cases ys <;> simp_all [eqCells]
  | cons k ks ih =>
    intro xs ys r h
    cases k with
    | some k =>
      match xs, ys, h with
      | .int a1 a :: xs, .int b1 b :: ys, h =>
        simp only [eqCells] at h
        split at h
        · cases he : eqCells ks xs ys with
          | none => rw [he] at h; cases h
          | some r' => obtain ⟨h1, h2⟩ := ih xs ys r' he; simp [h1, h2]
        · cases h
    | none =>
      match xs, ys, h with
      | .bool a :: xs, .bool b :: ys, h =>
        simp only [eqCells] at h
        cases he : eqCells ks xs ys with
        | none => rw [he] at h; cases h
        | some r' => obtain ⟨h1, h2⟩ := ih xs ys r' he; simp [h1, h2]

def fkStep (P : Program) (d : Nat) (acc : Option (List (Option IntKind))) (f : Field) : Option (List (Option IntKind)) :=
  match acc with
  | none => none
  | some l => if f.name = "_" ∨ f.offset ≠ l.length then none else match tinfo P f.type, flatKinds P d f.type with
    | some (agg, sz), some l2 => if l2.length = sz ∧ (agg = true ∨ sz = 1) then some (l ++ l2) else none
    | _, _ => none

theorem fk_none (d : Nat) (fs : List Field) : fs.foldl (fkStep P d) none = none := by
  induction fs with
  | nil => rfl
  | cons f fs ih => exact ih

theorem fk_prefix (d : Nat) : ∀ (fs : List Field) (l ks : List (Option IntKind)), fs.foldl (fkStep P d) (some l) = some ks → ∃ l', ks = l ++ l' := by
  intro fs
  induction fs with
  | nil => intro l ks h; simp only [List.foldl_nil, Option.some.injEq] at h; exact ⟨[], by simp [h]⟩
  | cons f fs ih =>
    intro l ks h
    rw [List.foldl_cons] at h
    cases hs : fkStep P d (some l) f with
    | none => rw [hs, fk_none] at h; cases h
    | some l1 =>
      rw [hs] at h
      obtain ⟨l', rfl⟩ := ih l1 ks h
      simp only [fkStep] at hs
      split at hs
      · cases hs
      · split at hs
        · split at hs
          · cases hs; exact ⟨_, List.append_assoc _ _ _⟩
          · cases hs
        · cases hs

/-- The value of a type with one cell, or the cells of a struct. -/
theorem equalIn_flat : ∀ (d : Nat) (T : TypeId) (ks : List (Option IntKind)), flatKinds P d T = some ks → ∀ (D : Nat), d ≤ D → ∀ (w : World) (r : Bool),
    ((∀ (xs ys : Array Value), (∃ fs, P.underlying T = some (.struct fs)) → eqCells ks xs.toList ys.toList = some r → (Op.equalIn D T (.agg xs) (.agg ys)).run P w = .ok r w) ∧
     (∀ x y, (¬ ∃ fs, P.underlying T = some (.struct fs)) → eqCells ks [x] [y] = some r → (Op.equalIn D T x y).run P w = .ok r w)) := by
  intro d
  induction d with
  | zero => intro T ks h; cases h
  | succ d ih =>
    intro T ks h D hD w r
    obtain ⟨D, rfl⟩ : ∃ D', D = D' + 1 := ⟨D - 1, by omega⟩
    unfold flatKinds at h
    split at h
    · rename_i k hu
      cases h
      refine ⟨fun xs ys hf => (by rw [hu] at hf; obtain ⟨_, hf⟩ := hf; cases hf), fun x y _ he => ?_⟩
      cases x <;> cases y <;> simp only [eqCells, Option.map_some, reduceCtorEq] at he
      split at he
      · rename_i hk
        simp only [Option.some.injEq, Bool.and_true] at he
        obtain ⟨rfl, rfl⟩ := hk
        rw [run_equalIn_int w D T _ _ _ _ hu, ← he]
        rfl
      · cases he
    · rename_i hu
      cases h
      refine ⟨fun xs ys hf => (by rw [hu] at hf; obtain ⟨_, hf⟩ := hf; cases hf), fun x y _ he => ?_⟩
      cases x <;> cases y <;> simp only [eqCells, Option.map_some, reduceCtorEq] at he
      simp only [Option.some.injEq, Bool.and_true] at he
      rw [run_equalIn_bool' w D T _ _ hu, ← he]
    · rename_i fs hu
      split at h
      · cases h
      · rename_i hst
        refine ⟨fun xs ys _ he => ?_, fun x y hf => absurd ⟨fs, hu⟩ hf⟩
        have hfs : P.fieldsOf T = fs := by simp [Program.fieldsOf, hu]
        rw [run_equalIn_struct w D T xs ys (by rw [hfs]; exact hu) (by simpa using hst), hfs]
        have h' : fs.toList.foldl (fkStep P d) (some []) = some ks := h
        have key : ∀ (gs : List Field) (l : List (Option IntKind)), gs.foldl (fkStep P d) (some l) = some ks → ∀ r, eqCells (ks.drop l.length) (xs.toList.drop l.length) (ys.toList.drop l.length) = some r →
            (Op.eqFields D xs ys gs).run P w = .ok r w := by
          intro gs
          induction gs with
          | nil =>
            intro l hl r hr
            simp only [List.foldl_nil, Option.some.injEq] at hl
            subst hl
            rw [List.drop_length] at hr
            have := eqCells_length _ _ _ _ hr
            simp only [List.length_nil, List.length_eq_zero_iff] at this
            rw [this.1, this.2] at hr
            simp only [eqCells, Option.some.injEq] at hr
            simp [Op.eqFields, ← hr]
          | cons f gs ihg =>
            intro l hl r hr
            rw [List.foldl_cons] at hl
            cases hs : fkStep P d (some l) f with
            | none => rw [hs, fk_none] at hl; cases hl
            | some l1 =>
              rw [hs] at hl
              simp only [fkStep] at hs
              split at hs
              · cases hs
              · rename_i hno
                split at hs
                · rename_i agg sz l2 ht hk2
                  split at hs
                  · rename_i hsz
                    cases hs
                    obtain ⟨l3, rfl⟩ := fk_prefix d gs _ _ hl
                    rw [List.append_assoc, List.drop_left] at hr
                    obtain ⟨r1, r2, h1, h2, rfl⟩ := eqCells_append _ _ _ _ _ hr
                    have hname : f.name ≠ "_" := fun hh => hno (.inl hh)
                    have hoff : f.offset = l.length := Classical.not_not.1 fun hh => hno (.inr hh)
                    have hrec : (Op.eqFields D xs ys gs).run P w = .ok r2 w := by
                      refine ihg (l ++ l2) hl r2 ?_
                      rw [List.drop_left, List.length_append, ← List.drop_drop, ← List.drop_drop]
                      exact h2
                    have hlen := eqCells_length _ _ _ _ h1
                    obtain ⟨ia, hI⟩ := ih f.type l2 hk2 D (by omega) w r1
                    have one : ∃ a b, (part f.type xs f.offset).run P w = .ok a w ∧ (part f.type ys f.offset).run P w = .ok b w ∧ (Op.equalIn D f.type a b).run P w = .ok r1 w := by
                      cases agg with
                      | true =>
                        refine ⟨_, _, run_part ht rfl w, run_part ht rfl w, ia _ _ ?_ ?_⟩
                        · unfold tinfo at ht
                          split at ht
                          · rename_i dd ii hd hi
                            simp only [Option.some.injEq, Prod.mk.injEq] at ht
                            cases dd <;> simp_all
                            -- an array has no kinds
                            all_goals (cases d <;> simp_all [flatKinds])
                          · cases ht
                        · simp only [hoff, ← hsz.1]
                          exact h1
                      | false =>
                        have hsz1 : sz = 1 := by simpa using hsz.2
                        rw [hsz.1, hsz1] at h1 hlen
                        match hx : xs.toList.drop l.length, hy : ys.toList.drop l.length, hlen with
                        | x :: xt, y :: yt, _ =>
                          rw [hx, hy] at h1
                          refine ⟨x, y, run_part ht ?_ w, run_part ht ?_ w, hI x y ?_ h1⟩
                          · have := congrArg (·[0]?) hx
                            simpa [partOf, hoff] using this
                          · have := congrArg (·[0]?) hy
                            simpa [partOf, hoff] using this
                          · rintro ⟨fs', hf'⟩
                            unfold tinfo at ht
                            rw [hf'] at ht
                            split at ht
                            · rename_i dd ii hd hi
                              cases hd
                              simp at ht
                            · cases ht
                    obtain ⟨a, b, ha, hb, hab⟩ := one
                    simp only [Op.eqFields, if_pos hname, Sem.run_bind, ha, hb, hab, Result.andThen]
                    cases r1 with
                    | true => simpa using hrec
                    | false => simp
                  · cases hs
                · cases hs
        exact key fs.toList [] h' r (by simpa using he)
    · cases h


theorem run_mapM_pure {α β : Type} (f : α → β) (l : List α) (w : World) : (l.mapM (m := Sem) fun x => pure (f x)).run P w = .ok (l.map f) w := by
  induction l with
  | nil => simp
  | cons a l ih => rw [List.mapM_cons, Sem.run_bind]; simp only [Sem.run_pure, Result.andThen]; rw [Sem.run_bind, ih]; simp [Result.andThen]

theorem fold_cells (off : Nat) : ∀ (vs : List Value) (k : Nat) (cs : Array Value), off + k + vs.length ≤ cs.size →
    ((vs.zipIdx k).foldl (fun cs (x : Value × Nat) => cs.setIfInBounds (off + x.2) x.1) cs).toList = cs.toList.take (off + k) ++ vs ++ cs.toList.drop (off + k + vs.length) := by
  intro vs
  induction vs with
  | nil => intro k cs _; simp
  | cons v vs ih =>
    intro k cs h
    simp only [List.zipIdx_cons, List.foldl_cons, List.length_cons] at *
    rw [ih (k + 1) _ (by simp; omega)]
    simp only [Array.toList_setIfInBounds]
    have hlt : off + k < cs.toList.length := by simp; omega
    have e1 : off + (k + 1) = off + k + 1 := by omega
    have e2 : off + (k + 1) + vs.length = off + k + (vs.length + 1) := by omega
    rw [e2, e1, List.take_set, List.drop_set_of_lt (by omega)]
    rw [List.take_succ_eq_append_getElem hlt]
    rw [List.set_append_right _ _ (by simp; omega)]
    have hmin : min (off + k) cs.size = off + k := Nat.min_eq_left (by simpa using Nat.le_of_lt hlt)
    simp [List.length_take, hmin]

theorem fill_fillL (place : Nat → Option (Nat × Nat)) : ∀ (ps : List (Nat × Value)) (places : List (Nat × Nat)) (cells : Array Value) (out : List Value),
    ps.mapM (fun p => place p.1) = some places → fillL places (ps.map (·.2)) cells.toList = some out → Instr.fill place cells ps = some out.toArray := by
  intro ps
  induction ps with
  | nil =>
    intro places cells out h h2
    simp at h
    subst h
    simp only [List.map_nil, fillL, Option.some.injEq] at h2
    simp [Instr.fill, ← h2]
  | cons p ps ih =>
    intro places cells out h h2
    obtain ⟨i, v⟩ := p
    rw [List.mapM_cons] at h
    cases hp : place i with
    | none => simp [hp] at h
    | some os =>
      obtain ⟨off, size⟩ := os
      cases hps : ps.mapM (fun p => place p.1) with
      | none => simp [hp, hps] at h
      | some places' =>
        simp [hp, hps] at h
        subst h
        simp only [List.map_cons, fillL] at h2
        split at h2
        · rename_i hsz
          simp only [Instr.fill, hp]
          have hc : (v.cells.size ≠ size || decide (off + v.cells.size > cells.size)) = false := by
            simp only [Array.length_toList] at hsz
            simp [hsz.1]; omega
          simp only [hc, Bool.false_eq_true, if_false]
          refine ih places' _ out hps ?_
          rw [← h2]
          congr 1
          rw [← Array.foldl_toList, Array.toList_zipIdx]
          rw [fold_cells off v.cells.toList 0 cells (by simp; have := hsz.2; simp at this; rw [hsz.1]; omega)]
          simp [hsz.1]
        · cases h2

theorem run_sliceBound (k : IntKind) (i : Int) (y : Nat) (code : BoundsCode) (w : World) (h : 0 ≤ i ∧ i ≤ y) : (Instr.sliceBound (.int k i) y code).run P w = .ok i.toNat w := by
  simp [Instr.sliceBound, asIntOf, h]


theorem slc_bounds {n c : Nat} {lo hi : Option (IntKind × Int)} {l h : Nat} (hb : slcBounds n c (lo.map (·.2)) (hi.map (·.2)) = some (l, h)) (w : World) :
    (Instr.sliceBounds true n c (lo.map fun p => .int p.1 p.2) (hi.map fun p => .int p.1 p.2) none).run P w = .ok (l, h, c) w := by
  unfold slcBounds at hb
  cases hi with
  | none =>
    cases lo with
    | none => simp at hb; simp [Instr.sliceBounds, hb]
    | some p =>
      simp only [Option.map_none, Option.map_some] at hb
      split at hb
      · rename_i h1
        simp at hb
        simp only [Instr.sliceBounds, Option.map_none, Option.map_some, Sem.run_bind, Sem.run_pure, Result.andThen]
        rw [run_sliceBound p.1 p.2 n _ w h1]
        simp [hb]
      · cases hb
  | some q =>
    simp only [Option.map_some] at hb
    split at hb
    · rename_i h2
      cases lo with
      | none =>
        simp at hb
        simp only [Instr.sliceBounds, Option.map_none, Option.map_some, Sem.run_bind, Sem.run_pure, Result.andThen, if_true]
        rw [run_sliceBound q.1 q.2 c _ w h2]
        simp [hb]
      | some p =>
        simp only [Option.map_some] at hb
        split at hb
        · rename_i h1
          simp at hb
          simp only [Instr.sliceBounds, Option.map_some, Sem.run_bind, Sem.run_pure, Result.andThen, if_true]
          rw [run_sliceBound q.1 q.2 c _ w h2]
          simp only [Result.andThen]
          rw [run_sliceBound p.1 p.2 q.2.toNat _ w ⟨h1.1, by omega⟩]
          simp [hb]
        · cases hb
    · cases hb

theorem run_slc {T e : TypeId} {inf : TypeInfo} (hu : P.underlying T = some (.slice e)) (hi : P.info? e = some inf) {a : Option Addr} {n c : Nat} {lo hi' : Option (IntKind × Int)} {l h : Nat}
    (hb : slcBounds n c (lo.map (·.2)) (hi'.map (·.2)) = some (l, h)) (w : World) :
    (Instr.sliceAt T (.slice a n c) (lo.map fun p => .int p.1 p.2) (hi'.map fun p => .int p.1 p.2) none).run P w = .ok (slcVal inf.size a c l h) w := by
  have hz : (sizeOf e).run P w = .ok inf.size w := by simp [sizeOf, typeInfo, program, Sem.run, Sem.run_bind, Result.andThen, hi]
  simp only [Instr.sliceAt, Instr.slice, Sem.run_bind, run_underlying hu, Result.andThen, slc_bounds hb w, hz, Sem.run_pure]
  rfl


theorem evs_one {ρ : Operand → Value} {x : Operand} {vs : List Value} (h : [x].map ρ = vs) : vs = [ρ x] := h.symm

theorem run_equalIn_ptr (d : Nat) {T el : TypeId} (hu : P.underlying T = some (.pointer el)) (a : Option Addr) (w : World) :
    (Op.equalIn (d + 1) T (.pointer a) (.pointer none)).run P w = .ok a.isNone w := by
  cases a <;> simp [Op.equalIn, Sem.run_bind, run_underlying hu, Result.andThen]

theorem run_equalIn_sl (d : Nat) {T el : TypeId} (hu : P.underlying T = some (.slice el)) (a : Option Addr) (n c n' c' : Nat) (w : World) :
    (Op.equalIn (d + 1) T (.slice a n c) (.slice none n' c')).run P w = .ok a.isNone w := by
  cases a <;> simp [Op.equalIn, Sem.run_bind, run_underlying hu, Result.andThen]

theorem run_equalIn_fn (d : Nat) {T : TypeId} {ps rs : Array TypeId} {v : Bool} (hu : P.underlying T = some (.func ps rs v)) (f : Fn) (xs ys : Array Value) (w : World) :
    (Op.equalIn (d + 1) T (.func f xs ys) .nilFunc).run P w = .ok false w := by
  simp [Op.equalIn, Sem.run_bind, run_underlying hu, Result.andThen]

theorem run_equalIn_fnil (d : Nat) {T : TypeId} {ps rs : Array TypeId} {v : Bool} (hu : P.underlying T = some (.func ps rs v)) (w : World) :
    (Op.equalIn (d + 1) T .nilFunc .nilFunc).run P w = .ok true w := by
  simp [Op.equalIn, Sem.run_bind, run_underlying hu, Result.andThen]

theorem cBin_sound {op : BinOp} {T : TypeId} {x y : Operand} {yt : TypeId} {p : PureOp} {xs : List Operand} (hc : cBin P op T x y = some (p, xs)) {ρ : Operand → Value} {v : Value}
    (hv : pv p (xs.map ρ) = some v) {o : Oper} (hx : o.op = .binOp op T x y yt) (w : World) : (execOp ρ o).run P w = .ok (.value v) w := by
  unfold cBin at hc
  split at hc
  · -- ints
    cases hc
    simp only [List.map_cons, List.map_nil] at hv
    cases hxv : ρ x <;> rw [hxv] at hv <;> simp only [pv, reduceCtorEq] at hv
    rename_i k a
    cases hyv : ρ y <;> rw [hyv] at hv <;> simp only [pv, reduceCtorEq] at hv
    rename_i k2 b
    split at hv
    · rename_i hk
      have hg : (eqGuard op T x y (.int k a) (.int k2 b)).run P w = .ok () w := run_eqGuard_any _ _ _ _ _ _ _ (by simp) (by simp)
      have : (binOp op T (.int k a) (.int k2 b)).run P w = .ok v w := by
        cases op <;> simp only [binI, reduceCtorEq, Option.some.injEq, or_false, or_true] at hv hk <;>
          first
          | (subst hk; simp only [binOp, ne_eq, not_true_eq_false, if_false, Op.intArith, Op.intBits, Op.intCmp, Sem.run_pure, hv]; done)
          | (subst hk
             split at hv
             · cases hv
             · rename_i h0; cases hv; simp [binOp, Op.intDiv, h0])
          | (split at hv
             · cases hv
             · rename_i h0; cases hv; simp [binOp, Op.shift, h0])
      simp [execOp, hx, hxv, hyv, Sem.run_bind, hg, Result.andThen, this]
    · cases hv
  · -- bools
    rename_i hu
    split at hc <;> first | cases hc | skip
    all_goals
      simp only [List.map_cons, List.map_nil] at hv
      cases hxv : ρ x <;> rw [hxv] at hv <;> try (cases hv; done)
      rename_i a
      cases hyv : ρ y <;> rw [hyv] at hv <;> simp only [pv, reduceCtorEq, Option.some.injEq] at hv
      rename_i b
      have hg : ∀ op, (eqGuard op T x y (.bool a) (.bool b)).run P w = .ok () w := fun op => run_eqGuard_any _ _ _ _ _ _ _ (by simp) (by simp)
      simp [execOp, hx, hxv, hyv, Sem.run_bind, hg, Result.andThen, binOp, Op.equal, Op.maxDepth, run_equalIn_bool' w 9999 T a b hu, ← hv]
  · -- structs
    rename_i fs hu
    split at hc
    · cases hc
    · rename_i hgt
      split at hc <;> first | cases hc | skip
      all_goals
        rename_i ks hks
        simp only [List.map_cons, List.map_nil] at hv
        cases hxv : ρ x <;> rw [hxv] at hv <;> try (cases hv; done)
        rename_i a
        cases hyv : ρ y <;> rw [hyv] at hv <;> simp only [pv, reduceCtorEq, Option.map_eq_some_iff] at hv
        rename_i b
        obtain ⟨r, hr, rfl⟩ := hv
        have hg : ∀ op, (eqGuard op T x y (.agg a) (.agg b)).run P w = .ok () w := fun op => run_eqGuard_any _ _ _ _ _ _ _ (fun _ _ _ _ => by simpa using hgt) (by simp)
        have heq := (equalIn_flat 20 T ks hks 10000 (by omega) w r).1 a b ⟨fs, hu⟩ hr
        simp [execOp, hx, hxv, hyv, Sem.run_bind, hg, Result.andThen, binOp, Op.equal, Op.maxDepth, heq]
  · -- pointers
    rename_i el hu
    split at hc <;> first | cases hc | skip
    all_goals
      simp only [List.map_cons, List.map_nil] at hv
      cases hxv : ρ x <;> cases hyv : ρ y <;> simp only [hxv, hyv, pv, reduceCtorEq] at hv
      rename_i a b
      cases b <;> simp only [pv, reduceCtorEq, Option.some.injEq] at hv
      have hg : ∀ op, (eqGuard op T x y (.pointer a) (.pointer none)).run P w = .ok () w := fun op => run_eqGuard_any _ _ _ _ _ _ _ (by simp) (by simp)
      have he := run_equalIn_ptr 9999 hu a w
      simp only [Nat.reduceAdd] at he
      simp [execOp, hx, hxv, hyv, Sem.run_bind, hg, Result.andThen, binOp, Op.equal, Op.maxDepth, he, ← hv]
  · -- function values
    rename_i hu
    split at hc <;> first | cases hc | skip
    all_goals
      simp only [List.map_cons, List.map_nil] at hv
      cases hxv : ρ x <;> cases hyv : ρ y <;> simp only [hxv, hyv, pv, reduceCtorEq, Option.some.injEq] at hv
      all_goals
        have hg : ∀ op a b, (∀ xs, a ≠ .agg xs) → a ≠ .nilIface → (eqGuard op T x y a b).run P w = .ok () w := fun op a b h1 h2 => run_eqGuard_any _ _ _ _ _ _ _ (fun xs _ h3 => absurd h3 (h1 xs)) h2
        simp [execOp, hx, hxv, hyv, Sem.run_bind, hg, Result.andThen, binOp, Op.equal, Op.maxDepth, run_equalIn_fn 9999 hu, run_equalIn_fnil 9999 hu, ← hv]
  · -- texts
    rename_i hu
    split at hc <;> first | cases hc | skip
    all_goals
      simp only [List.map_cons, List.map_nil] at hv
      cases hxv : ρ x <;> cases hyv : ρ y <;> simp only [hxv, hyv, pv, reduceCtorEq, Option.some.injEq] at hv
      rename_i a b
      have hg : ∀ op, (eqGuard op T x y (.string a) (.string b)).run P w = .ok () w := fun op => run_eqGuard_any _ _ _ _ _ _ _ (by simp) (by simp)
      simp [execOp, hx, hxv, hyv, Sem.run_bind, hg, Result.andThen, binOp, Op.stringOp, ← hv]
  · -- slices
    rename_i el hu
    split at hc <;> first | cases hc | skip
    all_goals
      simp only [List.map_cons, List.map_nil] at hv
      cases hxv : ρ x <;> cases hyv : ρ y <;> simp only [hxv, hyv, pv, reduceCtorEq] at hv
      rename_i a n c b n' c'
      cases b <;> simp only [pv, reduceCtorEq, Option.some.injEq] at hv
      have hg : ∀ op, (eqGuard op T x y (.slice a n c) (.slice none n' c')).run P w = .ok () w := fun op => run_eqGuard_any _ _ _ _ _ _ _ (by simp) (by simp)
      have he := run_equalIn_sl 9999 hu a n c n' c' w
      simp only [Nat.reduceAdd] at he
      simp [execOp, hx, hxv, hyv, Sem.run_bind, hg, Result.andThen, binOp, Op.equal, Op.maxDepth, he, ← hv]
  · cases hc

theorem cBuild_sound {T : TypeId} {parts : Array (Nat × Operand)} {p : PureOp} {xs : List Operand} (hc : cBuild P T parts = some (p, xs)) {ρ : Operand → Value} {v : Value}
    (hv : pv p (xs.map ρ) = some v) {o : Oper} (hx : o.op = .build T parts) (w : World) : (execOp ρ o).run P w = .ok (.value v) w := by
  unfold cBuild at hc
  split at hc
  · rename_i inf hi
    split at hc
    · rename_i z hz
      have hzv : (zeroValue T).run P w = .ok z w := by simp [zeroValue, typeInfo, program, Sem.run, Sem.run_bind, Result.andThen, hi, hz]
      split at hc
      · rename_i fs hu
        split at hc
        · rename_i places hpl
          split at hc
          · rename_i hall
            cases hc
            simp only [pv, Option.map_eq_some_iff] at hv
            obtain ⟨cs, hfl, rfl⟩ := hv
            have hm : ∀ (gs : List Field), gs.all (fun f => (P.info? f.type).isSome) = true →
                (gs.mapM (m := Sem) fun f => do pure (f.offset, ← sizeOf f.type)).run P w = .ok (gs.map fun f => (f.offset, ((P.info? f.type).map (·.size)).getD 0)) w := by
              intro gs hg
              induction gs with
              | nil => simp
              | cons g gs ih =>
                simp only [List.all_cons, Bool.and_eq_true] at hg
                obtain ⟨ig, hig⟩ := Option.isSome_iff_exists.1 hg.1
                have hsz : (sizeOf g.type).run P w = .ok ig.size w := by simp [sizeOf, typeInfo, program, Sem.run, Sem.run_bind, Result.andThen, hig]
                rw [List.mapM_cons, Sem.run_bind, Sem.run_bind, hsz]
                simp only [Result.andThen, Sem.run_pure]
                rw [Sem.run_bind, ih hg.2]
                simp [Result.andThen, hig]
            have hm2 := hm fs.toList (by simpa using hall)
            have hfill := fill_fillL (fun i => (fs.toList.map fun f => (f.offset, ((P.info? f.type).map (·.size)).getD 0)).toArray[i]?)
              (parts.toList.map fun p => (p.1, ρ p.2)) places z.cells cs ?_ (by simpa [Function.comp_def] using hfl)
            · simp only [execOp, hx, Instr.build, Sem.run_bind, hzv, Result.andThen, run_underlying hu]
              rw [Array.mapM_eq_mapM_toList, map_eq_pure_bind, Sem.run_bind, hm2]
              simp only [Result.andThen, Sem.run_pure]
              have e1 : (Array.map (fun x => match x with | (i, x) => (i, ρ x)) parts).toList = parts.toList.map fun p => (p.1, ρ p.2) := by simp
              rw [e1, hfill]
              rfl
            · rw [List.mapM_map]
              rw [← hpl]
              congr 1
              funext p
              simp only [Function.comp, List.getElem?_toArray, List.getElem?_map, Array.getElem?_toList]
              cases hfp : fs[p.1]? with
              | none => rfl
              | some f =>
                have := Array.all_eq_true_iff_forall_mem.1 hall f (Array.mem_of_getElem? hfp)
                obtain ⟨ig, hig⟩ := Option.isSome_iff_exists.1 this
                simp [hig]
          · cases hc
        · cases hc
      · rename_i n e hu
        split at hc
        · rename_i ie hie
          cases hc
          simp only [pv, Option.map_eq_some_iff] at hv
          obtain ⟨cs, hfl, rfl⟩ := hv
          have hsz : (sizeOf e).run P w = .ok ie.size w := by simp [sizeOf, typeInfo, program, Sem.run, Sem.run_bind, Result.andThen, hie]
          have hfill := fill_fillL (fun i => some (i * ie.size, ie.size)) (parts.toList.map fun p => (p.1, ρ p.2)) (parts.toList.map fun p => (p.1 * ie.size, ie.size)) z.cells cs
            (by
              generalize parts.toList = l
              induction l with
              | nil => rfl
              | cons a l ih => simp only [List.map_cons, List.mapM_cons]; rw [ih]; rfl) (by simpa [Function.comp_def] using hfl)
          simp only [execOp, hx, Instr.build, Sem.run_bind, hzv, Result.andThen, run_underlying hu, hsz]
          have e1 : (Array.map (fun x => match x with | (i, x) => (i, ρ x)) parts).toList = parts.toList.map fun p => (p.1, ρ p.2) := by simp
          rw [e1, hfill]
          rfl
        · cases hc
      · cases hc
    · cases hc
  · cases hc

theorem cBuiltin_sound {b : Builtin} {args : Array Operand} {argTypes : Array TypeId} {p : PureOp} {xs : List Operand} (hc : cBuiltin P b args.toList argTypes.toList = some (p, xs)) {ρ : Operand → Value} {v : Value}
    (hv : pv p (xs.map ρ) = some v) {o : Oper} (hx : o.op = .call { callee := .builtin b, args, argTypes }) (w : World) : (execOp ρ o).run P w = .ok (.value v) w := by
  have ha : args = args.toList.toArray := rfl
  have ht : argTypes = argTypes.toList.toArray := rfl
  generalize args.toList = al at *
  generalize argTypes.toList = tl at *
  subst ha ht
  unfold cBuiltin at hc
  split at hc
  · rename_i x T
    split at hc
    · rename_i e hu
      cases hc
      simp only [List.map_cons, List.map_nil] at hv
      cases hxv : ρ x <;> simp only [hxv, pv, reduceCtorEq, Option.some.injEq] at hv
      simp [execOp, hx, resolve, invoke, builtin, Builtin.len_, Sem.run_bind, run_underlying hu, Result.andThen, hxv, goInt, hv]
    · rename_i hu
      cases hc
      simp only [List.map_cons, List.map_nil] at hv
      cases hxv : ρ x <;> simp only [hxv, pv, reduceCtorEq, Option.some.injEq] at hv
      simp [execOp, hx, resolve, invoke, builtin, Builtin.len_, Sem.run_bind, run_underlying hu, Result.andThen, hxv, goInt, hv]
    · rename_i n e hu
      cases hc
      simp only [List.map_cons, List.map_nil, pv, Option.some.injEq] at hv
      simp [execOp, hx, resolve, invoke, builtin, Builtin.len_, Sem.run_bind, run_underlying hu, Result.andThen, goInt, hv]
    · cases hc
  · rename_i x T
    split at hc
    · rename_i e hu
      cases hc
      simp only [List.map_cons, List.map_nil] at hv
      cases hxv : ρ x <;> simp only [hxv, pv, reduceCtorEq, Option.some.injEq] at hv
      simp [execOp, hx, resolve, invoke, builtin, Builtin.cap_, Sem.run_bind, run_underlying hu, Result.andThen, hxv, goInt, hv]
    · cases hc
  · rename_i x y
    cases hc
    simp only [List.map_cons, List.map_nil] at hv
    cases hxv : ρ x <;> cases hyv : ρ y <;> simp only [hxv, hyv, pv, reduceCtorEq, Option.some.injEq] at hv
    simp [execOp, hx, resolve, invoke, builtin, Builtin.min_, Builtin.min2, Sem.run_bind, Result.andThen, hxv, hyv, hv]
  · rename_i x y
    cases hc
    simp only [List.map_cons, List.map_nil] at hv
    cases hxv : ρ x <;> cases hyv : ρ y <;> simp only [hxv, hyv, pv, reduceCtorEq, Option.some.injEq] at hv
    simp [execOp, hx, resolve, invoke, builtin, Builtin.max_, Builtin.max2, Sem.run_bind, Result.andThen, hxv, hyv, hv]
  · cases hc

theorem slice_sound {T e : TypeId} {inf : TypeInfo} (hu : P.underlying T = some (.slice e)) (hinf : P.info? e = some inf) {x : Operand} {lo hi : Option Operand} {ρ : Operand → Value} {v : Value}
    (hv : pv (.slc inf.size lo.isSome hi.isSome) (([x] ++ lo.toList ++ hi.toList).map ρ) = some v) {o : Oper} (hx : o.op = .slice T x lo hi none) (w : World) :
    (execOp ρ o).run P w = .ok (.value v) w := by
  simp only [pv] at hv
  unfold pvSlc at hv
  have fin : ∀ (a : Option Addr) (n c : Nat) (lo' hi' : Option (IntKind × Int)), ρ x = .slice a n c → lo.map ρ = lo'.map (fun p => .int p.1 p.2) → hi.map ρ = hi'.map (fun p => .int p.1 p.2) →
      (slcBounds n c (lo'.map (·.2)) (hi'.map (·.2))).map (fun p => slcVal inf.size a c p.1 p.2) = some v → (execOp ρ o).run P w = .ok (.value v) w := by
    intro a n c lo' hi' h1 h2 h3 h4
    simp only [Option.map_eq_some_iff] at h4
    obtain ⟨⟨l, h⟩, hb, rfl⟩ := h4
    have := run_slc hu hinf hb w (a := a)
    simp only [execOp, hx, h1, h2, h3, Option.map_none, Sem.run_bind, this, Result.andThen, Sem.run_pure]
  split at hv
  · rename_i a n c h1 h2 h3
    cases lo <;> cases hi <;> simp at h1 h2 h3
    exact fin a n c none none h3 rfl rfl hv
  · rename_i a n c k l h1 h2 h3
    cases lo <;> cases hi <;> simp at h1 h2 h3
    exact fin a n c (some (k, l)) none h3.1 (by simp [h3.2]) rfl hv
  · rename_i a n c k l h1 h2 h3
    cases lo <;> cases hi <;> simp at h1 h2 h3
    exact fin a n c none (some (k, l)) h3.1 rfl (by simp [h3.2]) hv
  · rename_i a n c k l k2 l2 h1 h2 h3
    cases lo <;> cases hi <;> simp at h1 h2 h3
    exact fin a n c (some (k, l)) (some (k2, l2)) h3.1 (by simp [h3.2.1]) (by simp [h3.2.2]) hv
  · cases hv

set_option maxHeartbeats 1000000 in
/-- **A pure operation's run**, whatever world. -/
theorem cPure_sound {op : Op} {p : PureOp} {xs : List Operand} (hc : cPure P op = some (p, xs)) {ρ : Operand → Value} {v : Value} (hv : pv p (xs.map ρ) = some v)
    (o : Oper) (ho : o.op = op) (w : World) : (execOp ρ o).run P w = .ok (.value v) w := by
  subst ho
  unfold cPure at hc
  split at hc
  case h_1 x hx => cases hc; simp only [List.map_cons, List.map_nil, pv, Option.some.injEq] at hv; simp [execOp, hx, hv]
  case h_2 x hx => cases hc; simp only [List.map_cons, List.map_nil, pv, Option.some.injEq] at hv; simp [execOp, hx, hv]
  case h_3 c a b hx =>
    cases hc
    simp only [List.map_cons, List.map_nil] at hv
    cases hcv : ρ c <;> rw [hcv] at hv <;> simp only [pv, reduceCtorEq, Option.some.injEq] at hv
    simp [execOp, hx, hcv, asBool, Sem.run_bind, Result.andThen, hv]
  case h_4 op T x y yt hx => exact cBin_sound hc hv hx w
  case h_5 op T x hx =>
    cases hc
    simp only [List.map_cons, List.map_nil] at hv
    cases op <;> cases hxv : ρ x <;> simp only [hxv, pv, reduceCtorEq, Option.some.injEq] at hv
    · simp only [execOp, hx, hxv, Op.unary, Op.intArith, Sem.run_bind, Result.andThen, Sem.run_pure, hv]
    · simp only [execOp, hx, hxv, Op.unary, Op.intBits, Sem.run_bind, Result.andThen, Sem.run_pure, hv]
    · simp [execOp, hx, hxv, Op.unary, Sem.run_bind, Result.andThen, hv]
  case h_6 src dst x hx =>
    split at hc
    · rename_i ks kd h1 h2
      cases hc
      simp only [List.map_cons, List.map_nil] at hv
      cases hxv : ρ x <;> simp only [hxv, pv, reduceCtorEq, Option.some.injEq] at hv
      simp [execOp, hx, hxv, convert, Sem.run_bind, run_underlying h1, run_underlying h2, Result.andThen, Conv.intToInt, hv]
    · cases hc
  case h_7 f first cap hx =>
    cases hc
    simp only [List.map_append, pv, Option.some.injEq] at hv
    simp only [execOp, hx, Instr.makeFunc, Sem.run_bind, Sem.run_pure, Result.andThen]
    rw [← hv]
    have e1 : (List.take first.size (List.map ρ first.toList ++ List.map ρ cap.toList)).toArray = Array.map ρ first := by
      apply Array.ext'; rw [List.take_left' (by simp)]; simp
    have e2 : (List.drop first.size (List.map ρ first.toList ++ List.map ρ cap.toList)).toArray = Array.map ρ cap := by
      apply Array.ext'; rw [List.drop_left' (by simp)]; simp
    rw [e1, e2]
  case h_8 S x i hx =>
    split at hc
    · rename_i fs hu
      split at hc
      · rename_i f hf
        split at hc
        · rename_i inf hi
          split at hc
          · cases hc
          · rename_i hz
            cases hc
            simp only [List.map_cons, List.map_nil] at hv
            cases hxv : ρ x <;> simp only [hxv, pv, reduceCtorEq] at hv
            rename_i a
            match a, hv with
            | some ⟨b, o', none⟩, hv =>
              simp only [pv, Option.some.injEq] at hv
              have hsz : (sizeOf f.type).run P w = .ok inf.size w := by simp [sizeOf, typeInfo, program, Sem.run, Sem.run_bind, Result.andThen, hi]
              simp only [execOp, hx, hxv, Instr.fieldAt, Sem.run_bind, run_underlying hu, Result.andThen, hf, Instr.sureAddr, Sem.run_pure, fieldPlace, hsz, if_neg hz]
              rw [← hv]
              unfold Addr.add
              split
              · rename_i h0; simp [h0]
              · rfl
            | none, hv => simp [pv] at hv
            | some ⟨b, o', some s⟩, hv => simp [pv] at hv
        · cases hc
      · cases hc
    · cases hc
  case h_9 S x i hx =>
    split at hc
    · rename_i fs hu
      split at hc
      · rename_i f hf
        split at hc
        · rename_i agg sz ht
          cases hc
          simp only [List.map_cons, List.map_nil] at hv
          cases hxv : ρ x <;> simp only [hxv, pv, reduceCtorEq] at hv
          have hp := run_part ht hv w
          simp [execOp, hx, hxv, Instr.field, Sem.run_bind, run_underlying hu, Result.andThen, hf, asAgg, hp]
        · cases hc
      · cases hc
    · cases hc
  case h_10 T x i hx =>
    split at hc
    · rename_i len e hu
      split at hc
      · rename_i inf hi
        cases hc
        have hsz : (sizeOf e).run P w = .ok inf.size w := by simp [sizeOf, typeInfo, program, Sem.run, Sem.run_bind, Result.andThen, hi]
        simp only [List.map_cons, List.map_nil] at hv
        cases hxv : ρ x <;> cases hiv : ρ i <;> simp only [hxv, hiv, pv, reduceCtorEq] at hv
        rename_i a k n
        match a, hv with
        | some ⟨b, o', none⟩, hv =>
          simp only [pv] at hv
          split at hv
          · rename_i hb
            simp only [Option.some.injEq] at hv
            simp only [execOp, hx, hxv, hiv, Instr.indexAt, Sem.run_bind, asIntOf, Sem.run_pure, Result.andThen, run_underlying hu, Instr.sureAddr, if_pos hb, hsz]
            rw [← hv]
            unfold Addr.add
            split
            · rename_i h0; simp [h0]
            · rfl
          · cases hv
        | none, hv => simp [pv] at hv
        | some ⟨b, o', some s⟩, hv => simp [pv] at hv
      · cases hc
    · rename_i e hu
      split at hc
      · rename_i inf hi
        cases hc
        have hsz : (sizeOf e).run P w = .ok inf.size w := by simp [sizeOf, typeInfo, program, Sem.run, Sem.run_bind, Result.andThen, hi]
        simp only [List.map_cons, List.map_nil] at hv
        cases hxv : ρ x <;> cases hiv : ρ i <;> simp only [hxv, hiv, pv, reduceCtorEq] at hv
        rename_i a ln cp k n
        match a, hv with
        | some ⟨b, o', none⟩, hv =>
          simp only [pv] at hv
          split at hv
          · rename_i hb
            simp only [Option.some.injEq] at hv
            simp only [execOp, hx, hxv, hiv, Instr.indexAt, Sem.run_bind, asIntOf, Sem.run_pure, Result.andThen, run_underlying hu, if_pos hb, hsz]
            rw [← hv]
            unfold Addr.add
            split
            · rename_i h0; simp [h0]
            · rfl
          · cases hv
        | none, hv => simp [pv] at hv
        | some ⟨b, o', some s⟩, hv => simp [pv] at hv
      · cases hc
    · cases hc
  case h_11 T x i hx =>
    split at hc
    · rename_i len e hu
      split at hc
      · rename_i agg sz ht
        cases hc
        simp only [List.map_cons, List.map_nil] at hv
        cases hxv : ρ x <;> cases hiv : ρ i <;> simp only [hxv, hiv, pv, reduceCtorEq] at hv
        split at hv
        · rename_i hb
          have hp := run_part ht hv w
          have hsz := (run_tinfo ht w).2
          simp only [execOp, hx, hxv, hiv, Instr.index, Sem.run_bind, asIntOf, Sem.run_pure, Result.andThen, run_underlying hu, if_pos hb, hsz, hp]
        · cases hv
      · cases hc
    · rename_i hu
      cases hc
      simp only [List.map_cons, List.map_nil] at hv
      cases hxv : ρ x <;> cases hiv : ρ i <;> simp only [hxv, hiv, pv, reduceCtorEq] at hv
      split at hv
      · rename_i hb
        simp only [Option.map_eq_some_iff] at hv
        obtain ⟨c, hc1, hc2⟩ := hv
        simp only [execOp, hx, hxv, hiv, Instr.index, Sem.run_bind, asIntOf, Sem.run_pure, Result.andThen, run_underlying hu, if_pos hb, hc1]
        rw [hc2]
      · cases hv
    · cases hc
  case h_12 T parts hx => exact cBuild_sound hc hv hx w
  case h_13 t i hx =>
    cases hc
    simp only [List.map_cons, List.map_nil] at hv
    cases hxv : ρ t <;> simp only [hxv, pv, reduceCtorEq] at hv
    simp [execOp, hx, hxv, Instr.extract, hv, Sem.run_bind, Result.andThen]
  case h_14 x hx =>
    cases hc
    simp only [List.map_cons, List.map_nil] at hv
    cases hxv : ρ x <;> simp only [hxv, pv, reduceCtorEq] at hv
    rename_i a
    cases a <;> simp only [pv, reduceCtorEq, Option.some.injEq] at hv
    subst hv
    simp [execOp, hx, hxv]
  case h_15 T x lo hi hx =>
    split at hc
    · rename_i e hu
      split at hc
      · rename_i inf hinf
        cases hc
        exact slice_sound hu hinf hv hx w
      · cases hc
    · cases hc
  case h_16 b args argTypes hx => exact cBuiltin_sound hc hv hx w
  case h_17 => cases hc

end Go.SL
