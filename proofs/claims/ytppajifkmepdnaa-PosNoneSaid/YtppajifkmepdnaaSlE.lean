/- The small code's run: a function of what is known. It gives what is to be shown. No program in sight. -/
import Derived.Test.YtppajifkmepdnaaSlD
set_option linter.unusedSimpArgs false
set_option linter.unusedVariables false
namespace Go.SL
open Go.RowKit

inductive SOp where
  | pure (d : Nat) (p : PureOp) (xs : List Operand)
  | load1 (d : Nat) (x : Operand)
  | loadN (d : Nat) (x : Operand) (sz : Nat)
  | store1 (x v : Operand)
  | storeN (x v : Operand) (sz : Nat)
  | alloc (d : Nat) (zero : List Value)
  | box (d : Nat) (x : Operand)
  | bslice (d : Nat) (len : Nat) (zero : List Value) (places : List (Nat × Nat)) (xs : List Operand)
  | mkslice (d : Nat) (T : TypeId) (len cap : Operand)
  | append (d : Nat) (Ts : List TypeId) (T : TypeId) (s x : Operand)
  | call (d : Option Nat) (f : Operand) (args : List Operand)

def SOp.dst : SOp → Option Nat
  | .pure d _ _ | .load1 d _ | .loadN d _ _ | .alloc d _ | .box d _ | .bslice d _ _ _ _ | .mkslice d _ _ _ | .append d _ _ _ _ => some d
  | .store1 _ _ | .storeN _ _ _ => none
  | .call d _ _ => d

structure SI where
  g : Option (Nat × Bool)
  op : SOp

/-- A marker beside a continuation: what is marked is left alone until it is called. -/
structure Tok {α : Type} (K : α) : Type where
def hold {α : Type} (K : α) (_ : Tok K) : α := K

def need {α : Type} (o : Option α) (k : α → Prop) (_t : Tok k := ⟨⟩) : Prop := ∃ a, o = some a ∧ k a

theorem need_some {α : Type} (a : α) (k : α → Prop) : need (some a) k = k a := by
  apply propext; exact ⟨fun ⟨_, h, hk⟩ => by cases h; exact hk, fun h => ⟨a, rfl, h⟩⟩

theorem need_congr {α : Type} {o o' : Option α} {k : α → Prop} (h : o = o') : need o k = need o' k := by rw [h]

def evs (e : Env) : List Operand → Option (List Value)
  | [] => some []
  | x :: xs => match ev e x, evs e xs with
    | some v, some vs => some (v :: vs)
    | _, _ => none

def ptrOf : Value → Option (Nat × Nat)
  | .pointer (some ⟨b, o, none⟩) => some (b, o)
  | _ => none

def hget : Heap → Nat → Option Blk
  | [], _ => none
  | (k, x) :: H, b => if k = b then some x else hget H b

def rdOld (w0 : World) (b : Nat) : Nat → Nat → Option (List Value)
  | _, 0 => some []
  | o, n + 1 => match w0.cell? ⟨b, o, none⟩, rdOld w0 b (o + 1) n with
    | some v, some vs => some (v :: vs)
    | _, _ => none

/-- n cells at ⟨b, o⟩. -/
def rd (w0 : World) (H : Heap) (b o n : Nat) : Option (List Value) :=
  if b < w0.heap.size then rdOld w0 b o n
  else match hget H b with
    | some (.cells c _) => if o + n ≤ c.length then some ((c.drop o).take n) else none
    | _ => none

/-- One cell at ⟨b, o⟩. -/
def rd1 (w0 : World) (H : Heap) (b o : Nat) : Option Value :=
  if b < w0.heap.size then w0.cell? ⟨b, o, none⟩
  else match hget H b with
    | some (.cells c _) => c[o]?
    | _ => none

def wr1 (H : Heap) (b o : Nat) (v : Value) : Option Heap :=
  match hget H b with
  | some (.cells c size) => (put1 c size o v).map fun c' => hset H b (.cells c' size)
  | _ => none

def putN (c : List Value) (size o : Nat) (vs : List Value) : Option (List Value) :=
  if o + vs.length ≤ c.length then some (c.take o ++ vs ++ c.drop (o + vs.length)) else if o = c.length ∧ o + vs.length ≤ size then some (c ++ vs) else none

def wrN (H : Heap) (b o : Nat) (vs : List Value) : Option Heap :=
  match hget H b with
  | some (.cells c size) => (putN c size o vs).map fun c' => hset H b (.cells c' size)
  | _ => none

/-- Block b is none of H's. -/
def NotIn (b : Nat) : Heap → Prop
  | [] => True
  | (k, _) :: H => (¬ k = b ∧ ¬ b = k) ∧ NotIn b H

theorem notIn_of : ∀ {H : Heap} {b : Nat}, b ∉ keys H → NotIn b H := by
  intro H
  induction H with
  | nil => intro b _; trivial
  | cons p H ih =>
    intro b h
    simp only [keys, List.map_cons, List.mem_cons, not_or] at h
    exact ⟨⟨fun e => h.1 e.symm, h.1⟩, ih h.2⟩

theorem NotIn.keys : ∀ {H : Heap} {b : Nat}, NotIn b H → b ∉ keys H := by
  intro H
  induction H with
  | nil => intro b _; simp [SL.keys]
  | cons p H ih =>
    intro b h
    simp only [SL.keys, List.map_cons, List.mem_cons, not_or]
    exact ⟨h.1.2, ih h.2⟩

/-- At every new block. -/
def AllFresh (w0 : World) (H : Heap) (K : Nat → Prop) : Prop := ∀ b, ¬ b < w0.heap.size → NotIn b H → K b

@[congr] theorem AllFresh_congr {w0 : World} {H H' : Heap} {K : Nat → Prop} (h : H = H') : AllFresh w0 H K = AllFresh w0 H' K := by rw [h]

def aftV (P : Program) (w0 : World) (K : Value → Heap → Prop) : Next → Heap → Prop
  | .value v, H => K v H
  | .enter f args, H => ACall P w0 f args H K
  | .round l f tmps asg body, H => ARound P w0 l f tmps asg body H K
  | _, _ => False

/-- A call of a function value. -/
def VCall (P : Program) (w0 : World) (f : Value) (args : List Value) (H : Heap) (K : Value → Heap → Prop) : Prop :=
  RunTo P w0 (do let d ← Deferred.ofValue f args.toArray; invoke d.target d.args) H (aftV P w0 K)

@[congr] theorem VCall_congr {P : Program} {w0 : World} {f f' : Value} {args args' : List Value} {H H' : Heap} {K : Value → Heap → Prop} (h1 : f = f') (h2 : args = args') (h3 : H = H') :
    VCall P w0 f args H K = VCall P w0 f' args' H' K := by rw [h1, h2, h3]

def App (P : Program) (w0 : World) (Ts : List TypeId) (T : TypeId) (s x : Value) (H : Heap) (K : Value → Heap → Prop) : Prop :=
  RunTo P w0 (Builtin.append_ Ts.toArray T #[s, x]) H K

@[congr] theorem App_congr {P : Program} {w0 : World} {Ts : List TypeId} {T : TypeId} {s s' x x' : Value} {H H' : Heap} {K : Value → Heap → Prop} (h1 : s = s') (h2 : x = x') (h3 : H = H') :
    App P w0 Ts T s x H K = App P w0 Ts T s' x' H' K := by rw [h1, h2, h3]

def MkSl (P : Program) (w0 : World) (T : TypeId) (l c : Value) (H : Heap) (K : Value → Heap → Prop) : Prop :=
  RunTo P w0 (Instr.makeSlice T l c) H K

@[congr] theorem MkSl_congr {P : Program} {w0 : World} {T : TypeId} {l l' c c' : Value} {H H' : Heap} {K : Value → Heap → Prop} (h1 : l = l') (h2 : c = c') (h3 : H = H') :
    MkSl P w0 T l c H K = MkSl P w0 T l' c' H' K := by rw [h1, h2, h3]

def runOp (P : Program) (w0 : World) (o : SOp) (e : Env) (H : Heap) (K : Env → Heap → Prop) : Prop :=
  match o with
  | .pure d p xs => need (evs e xs) fun vs => need (pv p vs) fun v => K ⟨(d, v) :: e.r, e.m⟩ H
  | .load1 d x => need (ev e x) fun a => need (ptrOf a) fun p => need (rd1 w0 H p.1 p.2) fun v => K ⟨(d, v) :: e.r, e.m⟩ H
  | .loadN d x sz => need (ev e x) fun a => need (ptrOf a) fun p => need (rd w0 H p.1 p.2 sz) fun cs => K ⟨(d, .agg cs.toArray) :: e.r, e.m⟩ H
  | .store1 x v => need (ev e x) fun a => need (ptrOf a) fun p => need (ev e v) fun v => isCell v = true ∧ need (wr1 H p.1 p.2 v) fun H' => K e H'
  | .storeN x v sz => need (ev e x) fun a => need (ptrOf a) fun p => need (ev e v) fun v => (v.cells.toList.length = sz ∧ v.cells.toList.all isCell = true) ∧ need (wrN H p.1 p.2 v.cells.toList) fun H' => K e H'
  | .alloc d z => AllFresh w0 H fun b => K ⟨(d, .pointer (some ⟨b, 0, none⟩)) :: e.r, e.m⟩ ((b, .cells z z.length) :: H)
  | .box d x => need (ev e x) fun v => AllFresh w0 H fun b => K ⟨(d, .pointer (some ⟨b, 0, none⟩)) :: e.r, e.m⟩ ((b, .cells v.cells.toList v.cells.toList.length) :: H)
  | .bslice d len z places xs => need (evs e xs) fun vs => need (fillL places vs z) fun cs => AllFresh w0 H fun b => K ⟨(d, .slice (some ⟨b, 0, none⟩) len len) :: e.r, e.m⟩ ((b, .cells cs cs.length) :: H)
  | .mkslice d T l c => need (ev e l) fun l => need (ev e c) fun c => MkSl P w0 T l c H fun v H' => K ⟨(d, v) :: e.r, e.m⟩ H'
  | .append d Ts T s x => need (ev e s) fun s => need (ev e x) fun x => App P w0 Ts T s x H fun v H' => K ⟨(d, v) :: e.r, e.m⟩ H'
  | .call d f args => need (ev e f) fun f => need (evs e args) fun vs => VCall P w0 f vs H fun v H' => K (e.put d v) H'

/-- A guard that is not decided yet parts the ways, and is decided from there on. -/
def runI (P : Program) (w0 : World) (i : SI) (e : Env) (H : Heap) (K : Env → Heap → Prop) : Prop :=
  match i.g with
  | none => runOp P w0 i.op e H K
  | some (t, want) => need (lk t e.r) fun v => match v with
    | .bool b => (b = want → runOp P w0 i.op ⟨(t, .bool want) :: e.r, e.m⟩ H K) ∧ (b = !want → K (Env.put ⟨(t, .bool !want) :: e.r, e.m⟩ i.op.dst undef) H)
    | .tuple _ => K (Env.put e i.op.dst undef) H
    | _ => False

def runOps (P : Program) (w0 : World) : List SI → Env → Heap → (Env → Heap → Prop) → Prop
  | [], e, H, K => K e H
  | i :: l, e, H, K => runI P w0 i e H fun e' H' => runOps P w0 l e' H' K

/-! ### Making it of the model's -/
def cOp (P : Program) (o : Oper) : Option SOp :=
  match o.op with
  | .load T x => match o.dst, tinfo P T with
    | some d, some (true, sz) => some (.loadN d x sz)
    | some d, some (false, _) => some (.load1 d x)
    | _, _ => none
  | .store T x v => match o.dst, tinfo P T with
    | none, some (true, sz) => if sz = 0 then none else some (.storeN x v sz)
    | none, some (false, sz) => if sz = 1 then some (.store1 x v) else none
    | _, _ => none
  | .alloc T => match o.dst, (P.info? T).bind (·.zero) with
    | some d, some z => some (.alloc d z.cells.toList)
    | _, _ => none
  | .box _ x => o.dst.map fun d => .box d x
  | .buildSlice T len parts => match P.underlying T with
    | some (.slice e) => match o.dst, P.info? e with
      | some d, some i => match i.zero with
        | some z => if len * i.size ≤ 2 ^ 24 then
            some (.bslice d len ((List.range (len * i.size)).map fun j => z.cells[j % z.cells.size]!) (parts.toList.map fun p => (p.1 * i.size, i.size)) (parts.toList.map (·.2))) else none
        | none => none
      | _, _ => none
    | _ => none
  | .makeSlice T l c => o.dst.map fun d => .mkslice d T l c
  | .call { callee := .value f, args, .. } => some (.call o.dst f args.toList)
  | .call { callee := .builtin .append, args, argTypes } => match o.dst, args.toList with
    | some d, [s, x] => some (.append d argTypes.toList o.type s x)
    | _, _ => none
  | op => match o.dst, cPure P op with
    | some d, some (p, xs) => some (.pure d p xs)
    | _, _ => none

def cI (P : Program) (n : Nat) (ops : Array Oper) (o : Oper) : Option SI :=
  if dstOk n o = true then
    match o.guard with
    | none => (cOp P o).map fun s => ⟨none, s⟩
    | some (j, want) => match (ops[j]?).bind (·.dst) with
      | some t => (cOp P o).map fun s => ⟨some (t, want), s⟩
      | none => none
  else none

theorem evs_map {e : Env} {ρ : Operand → Value} (ha : Agree e ρ) : ∀ (xs : List Operand) (vs : List Value), evs e xs = some vs → xs.map ρ = vs := by
  intro xs
  induction xs with
  | nil => intro vs h; simpa [evs] using h
  | cons x xs ih =>
    intro vs h
    simp only [evs] at h
    split at h
    · rename_i v vs' h1 h2
      cases h
      simp [ha x v h1, ih vs' h2]
    · cases h

theorem hget_mem : ∀ {H : Heap} {b : Nat} {x : Blk}, hget H b = some x → (b, x) ∈ H := by
  intro H
  induction H with
  | nil => intro b x h; cases h
  | cons p H ih =>
    intro b x h
    obtain ⟨k, y⟩ := p
    simp only [hget] at h
    split at h
    · rename_i hk; cases h; subst hk; simp
    · exact List.mem_cons_of_mem _ (ih h)

theorem rd1_has {w0 : World} {H : Heap} {b o : Nat} {v : Value} (h : rd1 w0 H b o = some v) : HasCell w0 H ⟨b, o, none⟩ v := by
  unfold rd1 at h
  split at h
  · exact ⟨rfl, .inl h⟩
  · split at h
    · rename_i c size hg; exact ⟨rfl, .inr ⟨c, size, hget_mem hg, h⟩⟩
    · cases h

theorem rdOld_get {w0 : World} {b : Nat} : ∀ (n o : Nat) (cs : List Value), rdOld w0 b o n = some cs → cs.length = n ∧ ∀ i x, cs[i]? = some x → w0.cell? ⟨b, o + i, none⟩ = some x := by
  intro n
  induction n with
  | zero => intro o cs h; cases h; exact ⟨rfl, fun i x h => by cases h⟩
  | succ n ih =>
    intro o cs h
    simp only [rdOld] at h
    split at h
    · rename_i v vs h1 h2
      cases h
      obtain ⟨h3, h4⟩ := ih _ _ h2
      refine ⟨by simp [h3], fun i x hx => ?_⟩
      cases i with
      | zero => simp only [List.getElem?_cons_zero, Option.some.injEq] at hx; rw [← hx]; exact h1
      | succ i => have := h4 i x hx; rwa [Nat.add_assoc, Nat.add_comm 1 i] at this
    · cases h

theorem Addr.add_off (b o i : Nat) : (⟨b, o, none⟩ : Addr).add i = ⟨b, o + i, none⟩ := by
  unfold Addr.add
  split
  · rename_i h; simp [h]
  · rfl

theorem rd_has {w0 : World} {H : Heap} {b o n : Nat} {cs : List Value} (h : rd w0 H b o n = some cs) : cs.length = n ∧ ∀ i x, cs[i]? = some x → HasCell w0 H ((⟨b, o, none⟩ : Addr).add i) x := by
  unfold rd at h
  split at h
  · obtain ⟨h1, h2⟩ := rdOld_get _ _ _ h
    exact ⟨h1, fun i x hx => by rw [Addr.add_off]; exact ⟨rfl, .inl (h2 i x hx)⟩⟩
  · split at h
    · rename_i c size hg
      split at h
      · cases h
        refine ⟨by simp; omega, fun i x hx => ?_⟩
        rw [Addr.add_off]
        refine ⟨rfl, .inr ⟨c, size, hget_mem hg, ?_⟩⟩
        rw [List.getElem?_take] at hx
        split at hx
        · rwa [List.getElem?_drop] at hx
        · cases hx
      · cases h
    · cases h

/-- Reading leaves the world as it is. -/
theorem runTo_load {P : Program} {w0 : World} {H : Heap} {T : TypeId} {agg : Bool} {sz : Nat} {a : Addr} {v : Value} {K : Value → Heap → Prop} (ht : tinfo P T = some (agg, sz))
    (h : LoadV w0 H agg sz a v) (hk : K v H) : RunTo P w0 (loadVar T a) H K :=
  fun w hs => ⟨v, H, w, run_loadVar hs ht h, hk, hs⟩

theorem RunTo.bind {P : Program} {w0 : World} {α β : Type} {s : Sem α} {f : α → Sem β} {H : Heap} {K : β → Heap → Prop} (h : RunTo P w0 s H fun x H' => RunTo P w0 (f x) H' K) :
    RunTo P w0 (s >>= f) H K := by
  intro w hs
  obtain ⟨x, H', w', hr, hk, hs'⟩ := h w hs
  obtain ⟨y, H'', w'', hr2, hk2, hs''⟩ := hk w' hs'
  exact ⟨y, H'', w'', by rw [Sem.run_bind, hr]; exact hr2, hk2, hs''⟩

theorem RunTo.pure {P : Program} {w0 : World} {α : Type} {x : α} {H : Heap} {K : α → Heap → Prop} (h : K x H) : RunTo P w0 (pure x) H K :=
  fun w hs => ⟨x, H, w, by simp, h, hs⟩

theorem RunTo.mono {P : Program} {w0 : World} {α : Type} {s : Sem α} {H : Heap} {K K' : α → Heap → Prop} (h : RunTo P w0 s H K) (hk : ∀ x H', K x H' → K' x H') : RunTo P w0 s H K' :=
  fun w hs => let ⟨x, H', w', hr, k, hs'⟩ := h w hs; ⟨x, H', w', hr, hk _ _ k, hs'⟩

theorem wr1_store {P : Program} {w0 : World} {H H' : Heap} {b o : Nat} {v : Value} {K : Unit → Heap → Prop} (hc : isCell v = true) (h : wr1 H b o v = some H') (hk : K () H') :
    RunTo P w0 (store ⟨b, o, none⟩ v) H K := by
  refine RunTo.of_abs ?_
  unfold wr1 at h
  split at h
  · rename_i c size hg
    simp only [Option.map_eq_some_iff] at h
    obtain ⟨c', hp, rfl⟩ := h
    exact ⟨hc, rfl, c, size, c', hget_mem hg, hp, hk⟩
  · cases h

theorem hset_get {H : Heap} {b : Nat} {x y : Blk} (h : hget H b = some y) : hget (hset H b x) b = some x := by
  induction H with
  | nil => cases h
  | cons p H ih =>
    obtain ⟨k, z⟩ := p
    simp only [hget] at h
    simp only [hset, List.map_cons]
    by_cases hk : k = b
    · simp [hk, hget]
    · simp only [hk, if_false, hget] at h ⊢
      exact ih h

theorem hset_hset {H : Heap} {b : Nat} {x y : Blk} : hset (hset H b x) b y = hset H b y := by
  simp only [hset, List.map_map]
  apply List.map_congr_left
  intro p _
  simp only [Function.comp]
  split
  · simp
  · rename_i h; simp [h]

theorem storeCells_run {P : Program} {w0 : World} {b o size : Nat} {K : Unit → Heap → Prop} : ∀ (vs : List Value) (i : Nat) (H : Heap) (c c' : List Value), vs.all isCell = true → hget H b = some (.cells c size) →
    (vs = [] → c' = c) → putN c size (o + i) vs = some c' → (vs = [] → K () H) → (vs ≠ [] → K () (hset H b (.cells c' size))) → RunTo P w0 (storeCells ⟨b, o, none⟩ vs i) H K := by
  intro vs
  induction vs with
  | nil => intro i H c c' _ hg hc hp hk hk2; exact RunTo.pure (hk rfl)
  | cons v vs ih =>
    intro i H c c' hall hg hc hp hk hk2
    simp only [List.all_cons, Bool.and_eq_true] at hall
    unfold storeCells
    refine RunTo.bind ?_
    rw [Addr.add_off]
    have h1 : ∃ c1, put1 c size (o + i) v = some c1 ∧ putN c1 size (o + i + 1) vs = some c' := by
      unfold putN at hp
      simp only [List.length_cons] at hp
      split at hp
      · rename_i hle
        cases hp
        refine ⟨c.set (o + i) v, by unfold put1; rw [if_pos (by omega)], ?_⟩
        unfold putN
        rw [if_pos (by simp; omega)]
        congr 1
        have hlt : o + i < c.length := by omega
        rw [List.take_set, List.drop_set_of_lt (by omega), List.take_succ_eq_append_getElem hlt, List.set_append_right _ _ (by simp; omega)]
        have hmin : min (o + i) c.length = o + i := by omega
        simp [hmin]
        congr 1; omega
      · split at hp
        · rename_i hlt hle
          cases hp
          refine ⟨c ++ [v], by unfold put1; rw [if_neg (by omega), if_pos (by omega)], ?_⟩
          unfold putN
          cases vs with
          | nil => rw [if_pos (by simp; omega)]; simp
          | cons x xs =>
            rw [if_neg (by simp; omega), if_pos (by simp at hle ⊢; omega)]
            simp
        · cases hp
    obtain ⟨c1, hp1, hp2⟩ := h1
    refine wr1_store (H' := hset H b (.cells c1 size)) hall.1 (by simp [wr1, hg, hp1]) ?_
    refine ih (i + 1) _ c1 c' hall.2 (hset_get hg) ?_ (by rwa [Nat.add_assoc] at hp2) ?_ ?_
    · intro hv; subst hv
      unfold putN at hp2
      split at hp2
      · simpa using hp2.symm
      · split at hp2
        · simpa using hp2.symm
        · cases hp2
    · intro hv; subst hv
      have : c' = c1 := by
        unfold putN at hp2
        split at hp2
        · simpa using hp2.symm
        · split at hp2
          · simpa using hp2.symm
          · cases hp2
      rw [← this]; exact hk2 (by simp)
    · intro _; rw [hset_hset]; exact hk2 (by simp)


theorem aft_of_aftV {P : Program} {w0 : World} {dst : Option Tmp} {e : Env} {K : Env → Heap → Prop} (nx : Next) (H : Heap) (h : aftV P w0 (fun v H' => K (e.put dst v) H') nx H) : aft P w0 dst e K nx H := by
  cases nx <;> first | exact h | exact h.elim

theorem zero_run {P : Program} {T : TypeId} {z : Value} (h : (P.info? T).bind (·.zero) = some z) (w : World) : (zeroValue T).run P w = .ok z w := by
  cases hi : P.info? T with
  | none => rw [hi] at h; cases h
  | some i => rw [hi] at h; simp at h; simp [zeroValue, typeInfo, program, Sem.run, Sem.run_bind, Result.andThen, hi, h]

theorem RunTo.of_ok {P : Program} {w0 : World} {α β : Type} {s : Sem α} {f : α → Sem β} {x : α} {H : Heap} {K : β → Heap → Prop} (h : ∀ w, s.run P w = .ok x w) (hk : RunTo P w0 (f x) H K) : RunTo P w0 (s >>= f) H K :=
  RunTo.bind (RunTo.of_run h hk)

theorem newRow_run {P : Program} {w0 : World} {T : TypeId} {cells : Array Value} {H : Heap} {K : Addr → Heap → Prop} (h : AllFresh w0 H fun b => K ⟨b, 0, none⟩ ((b, .cells cells.toList cells.size) :: H)) :
    RunTo P w0 (newRow T cells) H K := by
  refine RunTo.of_abs ?_
  refine ⟨fun c e fr hh => ?_, fun b hb hf => ?_⟩
  · cases hh; rfl
  · exact h b (Nat.not_lt.2 hb) (notIn_of hf)

theorem run_buildSlice {P : Program} {T el : TypeId} {i : TypeInfo} {z : Value} (hu : P.underlying T = some (.slice el)) (hi : P.info? el = some i) (hz : i.zero = some z) {len : Nat}
    (hsz : len * i.size ≤ 2 ^ 24) {ps : Array (Nat × Value)} {cs : List Value}
    (h : fillL (ps.toList.map fun p => (p.1 * i.size, i.size)) (ps.toList.map (·.2)) ((List.range (len * i.size)).map fun j => z.cells[j % z.cells.size]!) = some cs) (w : World) :
    (Instr.buildSlice T len ps).run P w = ((newRow el cs.toArray).run P w).andThen fun a w' => .ok (.slice (some a) len len) w' := by
  have hz1 : (sizeOf el).run P w = .ok i.size w := by simp [sizeOf, typeInfo, program, Sem.run, Sem.run_bind, Result.andThen, hi]
  have hz2 : (zeroValue el).run P w = .ok z w := zero_run (by simp [hi, hz]) w
  have hfill : ∀ zc : Array Value, ((Array.range (len * i.size)).map fun j => zc[j % zc.size]!).toList = ((List.range (len * i.size)).map fun j => z.cells[j % z.cells.size]!) →
      Instr.fill (fun j => some (j * i.size, i.size)) ((Array.range (len * i.size)).map fun j => zc[j % zc.size]!) ps.toList = some cs.toArray := by
    intro zc hzc
    refine fill_fillL _ _ (ps.toList.map fun p => (p.1 * i.size, i.size)) _ cs ?_ (by rw [hzc]; exact h)
    generalize ps.toList = l
    induction l with
    | nil => rfl
    | cons a l ih => simp only [List.map_cons, List.mapM_cons]; rw [ih]; rfl
  simp only [Instr.buildSlice, Sem.run_bind, run_underlying hu, Result.andThen, hz1, if_neg (show ¬ len * i.size > 2 ^ 24 by omega)]
  by_cases h0 : len * i.size = 0
  · simp only [h0, if_true, Sem.run_bind, Sem.run_pure, Result.andThen]
    have := hfill #[] (by simp [h0])
    simp only [h0] at this
    rw [this]
    simp only [Sem.run_bind]
    rfl
  · simp only [h0, if_false, Sem.run_bind, Sem.run_pure, Result.andThen, hz2]
    rw [hfill z.cells (by simp)]
    simp only [Sem.run_bind]
    rfl

theorem cOp_dst {P : Program} {o : Oper} {s : SOp} (hc : cOp P o = some s) : s.dst = o.dst := by
  unfold cOp at hc
  split at hc
  · split at hc <;> first | (cases hc; simp only [SOp.dst]; exact Eq.symm ‹_›) | cases hc
  · split at hc
    · split at hc <;> first | (cases hc; simp only [SOp.dst]; exact Eq.symm ‹_›) | cases hc
    · split at hc <;> first | (cases hc; simp only [SOp.dst]; exact Eq.symm ‹_›) | cases hc
    · cases hc
  · split at hc <;> first | (cases hc; simp only [SOp.dst]; exact Eq.symm ‹_›) | cases hc
  · simp only [Option.map_eq_some_iff] at hc; obtain ⟨d, hd, rfl⟩ := hc; exact hd.symm
  · split at hc
    · split at hc
      · split at hc
        · split at hc <;> first | (cases hc; simp only [SOp.dst]; exact Eq.symm ‹_›) | cases hc
        · cases hc
      · cases hc
    · cases hc
  · simp only [Option.map_eq_some_iff] at hc; obtain ⟨d, hd, rfl⟩ := hc; exact hd.symm
  · cases hc; rfl
  · split at hc <;> first | (cases hc; simp only [SOp.dst]; exact Eq.symm ‹_›) | cases hc
  · split at hc <;> first | (cases hc; simp only [SOp.dst]; exact Eq.symm ‹_›) | cases hc

theorem cOp_sound {P : Program} {w0 : World} {r : Option Nat} {o : Oper} {s : SOp} (hc : cOp P o = some s) {e : Env} {H : Heap} {K : Env → Heap → Prop} (h : runOp P w0 s e H K) :
    absOp P w0 r o e H K := by
  intro ρ ha
  have hnd : ∀ c, o.op ≠ .defer c := by
    intro c hh
    unfold cOp at hc
    simp only [hh] at hc
    split at hc
    · rename_i h1; simp [cPure] at h1
    · cases hc
  rw [Oper.semAt_eq _ _ _ hnd]
  unfold cOp at hc
  split at hc
  · -- load
    rename_i T x hx
    split at hc
    · rename_i d sz hd ht
      cases hc
      obtain ⟨a, h1, p, h2, cs, h3, hk⟩ := h
      obtain ⟨b, off⟩ := p
      unfold ptrOf at h2
      split at h2 <;> cases h2
      obtain ⟨hl, hcell⟩ := rd_has h3
      simp only [execOp, hx, ha x _ h1, Instr.loadAt, Instr.sureAddr, pure_bind, bind_assoc]
      refine RunTo.bind (runTo_load ht (by unfold LoadV; rw [if_pos rfl]; exact ⟨cs, hl, rfl, hcell⟩) ?_)
      exact RunTo.pure (by simpa [aft, Env.put, hd] using hk)
    · rename_i d sz hd ht
      cases hc
      obtain ⟨a, h1, p, h2, v, h3, hk⟩ := h
      obtain ⟨b, off⟩ := p
      unfold ptrOf at h2
      split at h2 <;> cases h2
      simp only [execOp, hx, ha x _ h1, Instr.loadAt, Instr.sureAddr, pure_bind, bind_assoc]
      refine RunTo.bind (runTo_load ht (by unfold LoadV; rw [if_neg (by simp)]; exact rd1_has h3) ?_)
      exact RunTo.pure (by simpa [aft, Env.put, hd] using hk)
    · cases hc
  · -- store
    rename_i T x v hx
    split at hc
    · rename_i sz hd ht
      split at hc
      · cases hc
      rename_i hz
      cases hc
      obtain ⟨a, h1, p, h2, u, h3, ⟨hsz, hall⟩, H', h4, hk⟩ := h
      obtain ⟨b, off⟩ := p
      unfold ptrOf at h2
      split at h2 <;> cases h2
      simp only [execOp, hx, ha x _ h1, ha v _ h3, Instr.storeAt, Instr.sureAddr, pure_bind, storeVar, bind_assoc]
      refine RunTo.of_ok (fun w => (run_tinfo ht w).2) ?_
      have hne : ¬ u.cells.size ≠ sz := by simpa using hsz
      simp only [if_neg hne]
      have hnn : u.cells.toList ≠ [] := by intro hh; rw [hh] at hsz; exact hz hsz.symm
      unfold wrN at h4
      split at h4
      · rename_i c size hg
        simp only [Option.map_eq_some_iff] at h4
        obtain ⟨c', hp, rfl⟩ := h4
        refine RunTo.bind (storeCells_run _ 0 H c c' hall hg (fun hv => absurd hv hnn) (by simpa using hp) (fun hv => absurd hv hnn) ?_)
        intro _
        exact RunTo.pure (by simpa [aft, Env.put, hd] using hk)
      · cases h4
    · rename_i sz hd ht
      split at hc
      · rename_i hz
        cases hc
        obtain ⟨a, h1, p, h2, u, h3, hcell, H', h4, hk⟩ := h
        obtain ⟨b, off⟩ := p
        unfold ptrOf at h2
        split at h2 <;> cases h2
        simp only [execOp, hx, ha x _ h1, ha v _ h3, Instr.storeAt, Instr.sureAddr, pure_bind, storeVar, bind_assoc]
        refine RunTo.of_ok (fun w => (run_tinfo ht w).2) ?_
        have hcl : u.cells = #[u] := by cases u <;> simp_all [Value.cells, isCell]
        have hne : ¬ (#[u] : Array Value).size ≠ sz := by rw [hz]; simp
        simp only [hcl, storeCells, Addr.add_off, Nat.add_zero, bind_assoc, pure_bind]
        rw [if_neg hne]
        refine RunTo.bind (wr1_store hcell h4 ?_)
        exact RunTo.pure (by simpa [aft, Env.put, hd] using hk)
      · cases hc
    · cases hc
  · -- alloc
    rename_i T hx
    split at hc
    · rename_i d z hd hz
      cases hc
      simp only [execOp, hx, Instr.alloc, bind_assoc]
      refine RunTo.of_ok (zero_run hz) ?_
      simp only [newVar, bind_assoc]
      refine RunTo.bind (newRow_run ?_)
      intro b hb hf
      have := h b hb hf
      exact RunTo.pure (by simpa [aft, Env.put, hd] using this)
    · cases hc
  · -- box
    rename_i T x hx
    simp only [Option.map_eq_some_iff] at hc
    obtain ⟨d, hd, rfl⟩ := hc
    obtain ⟨v, h1, hk⟩ := h
    simp only [execOp, hx, ha x _ h1, Instr.box, newVar, bind_assoc]
    refine RunTo.bind (newRow_run ?_)
    intro b hb hf
    have := hk b hb hf
    exact RunTo.pure (by simpa [aft, Env.put, hd] using this)
  · -- buildSlice
    rename_i T len parts hx
    split at hc
    · rename_i el hu
      split at hc
      · rename_i d i hd hi
        split at hc
        · rename_i z hz
          split at hc
          · rename_i hsz
            cases hc
            obtain ⟨vs, h1, cs, h2, hk⟩ := h
            have hmap := evs_map ha _ _ h1
            have hrun := run_buildSlice hu hi hz (len := len) hsz (ps := parts.map fun x => match x with | (i, x) => (i, ρ x)) (cs := cs)
              (by rw [← hmap] at h2; simpa [Function.comp_def] using h2)
            have h : RunTo P w0 (Instr.buildSlice T len (parts.map fun x => match x with | (i, x) => (i, ρ x)) >>= fun v => pure (Next.value v)) H (aft P w0 o.dst e K) := by
              refine RunTo.bind ?_
              intro w hs
              obtain ⟨a, H', w', hr, hk', hs'⟩ := newRow_run (P := P) (w0 := w0) (T := el) (cells := cs.toArray) (H := H)
                (K := fun a H' => K ⟨(d, .slice (some a) len len) :: e.r, e.m⟩ H') hk w hs
              refine ⟨.slice (some a) len len, H', w', by rw [hrun, hr]; rfl, ?_, hs'⟩
              exact RunTo.pure (by simpa [aft, Env.put, hd] using hk')
            simpa only [execOp, hx] using h
          · cases hc
        · cases hc
      · cases hc
    · cases hc
  · -- makeSlice
    rename_i T l c hx
    simp only [Option.map_eq_some_iff] at hc
    obtain ⟨d, hd, rfl⟩ := hc
    obtain ⟨lv, h1, cv, h2, hk⟩ := h
    simp only [execOp, hx, ha l _ h1, ha c _ h2]
    refine RunTo.bind (RunTo.mono hk ?_)
    intro v H' hk'
    exact RunTo.pure (by simpa [aft, Env.put, hd] using hk')
  · -- a call
    rename_i f args at' hx
    cases hc
    obtain ⟨fv, h1, vs, h2, hk⟩ := h
    have hmap := evs_map ha _ _ h2
    have hargs : args.map ρ = vs.toArray := by apply Array.ext'; simpa using hmap
    simp only [execOp, hx, resolve, ha f _ h1, hargs]
    exact RunTo.mono hk fun nx H' hh => aft_of_aftV nx H' hh
  · -- append
    rename_i args at' hx
    split at hc
    · rename_i d s x hd hargs
      cases hc
      obtain ⟨sv, h1, xv, h2, hk⟩ := h
      have hm : args.map ρ = #[sv, xv] := by apply Array.ext'; simp [hargs, ha s _ h1, ha x _ h2]
      simp only [execOp, hx, resolve, invoke, builtin, hm, pure_bind]
      refine RunTo.bind (RunTo.mono hk ?_)
      intro v H' hk'
      exact RunTo.pure (by simpa [aft, Env.put, hd] using hk')
    · cases hc
  · -- values alone
    rename_i op _ _ _ _ _ _ _ _
    split at hc
    · rename_i d p xs hd hq
      cases hc
      obtain ⟨vs, h1, v, h2, hk⟩ := h
      rw [← evs_map ha _ _ h1] at h2
      refine RunTo.of_run (cPure_sound hq h2 o rfl) ?_
      simpa [aft, Env.put, hd] using hk
    · cases hc

end Go.SL
