/- The walk's rules: one equation a form of the small code. No program in sight. (Written by a program of this claim's.) -/
import Derived.Test.YtppajifkmepdnaaSlF
set_option linter.unusedSimpArgs false
set_option linter.unusedVariables false
namespace Go.SL
open Go.RowKit

def ptr0 (b : Nat) : Value := .pointer (some ⟨b, 0, none⟩)
def sl0 (len b : Nat) : Value := .slice (some ⟨b, 0, none⟩) len len

theorem run_mv (P : Program) (w0 : World) (d : Nat) (x : Operand) (l : List SI) (r : List (Nat × Value)) (m : List Nat) (H : Heap) (K : Env → Heap → Prop) :
    runOps P w0 (⟨none, .pure d .mv [x]⟩ :: l) ⟨r, m⟩ H K = need (ev ⟨r, m⟩ x) fun v => runOps P w0 l ⟨(d, v) :: r, m⟩ H K := by
  show (need (evs ⟨r, m⟩ [x]) fun vs => need (pv .mv vs) fun v => runOps P w0 l ⟨(d, v) :: r, m⟩ H K) = _
  simp only [evs]
  cases ev ⟨r, m⟩ x with
  | none => simp [need]
  | some v => simp [need, pv]

/-- A test parts the ways. -/
def parts (t : Bool) (A B : Prop) : Prop := (t = true → A) ∧ (t = false → B)
theorem parts_true (A B : Prop) : parts true A B = A := by simp [parts]
theorem parts_false (A B : Prop) : parts false A B = B := by simp [parts]
theorem parts_dec (c : Prop) [Decidable c] (A B : Prop) : parts (decide c) A B = ((c → A) ∧ (¬ c → B)) := by simp [parts]
theorem parts_not (t : Bool) (A B : Prop) : parts (!t) A B = parts t B A := by cases t <;> simp [parts]
theorem parts_beq (a b : Int) (A B : Prop) : parts (a == b) A B = ((a = b → A) ∧ (¬ a = b → B)) := by simp [parts]
theorem parts_bne (a b : Int) (A B : Prop) : parts (a != b) A B = ((a = b → B) ∧ (¬ a = b → A)) := by
  by_cases h : a = b <;> simp [parts, h]
def cWay (v : Value) (A B : Prop) : Prop := match v with | .bool t => parts t A B | _ => False
theorem cWay_bool (t : Bool) (A B : Prop) : cWay (.bool t) A B = parts t A B := rfl
theorem hold1 (α : Type) (K : α → Prop) (t : Tok K) (a : α) : hold K t a = K a := rfl
theorem hold2 (α β : Type) (K : α → β → Prop) (t : Tok K) (a : α) (b : β) : hold K t a b = K a b := rfl
theorem hold3 (α β γ : Type) (K : α → β → γ → Prop) (t : Tok K) (a : α) (b : β) (c : γ) : hold K t a b c = K a b c := rfl
def gWay (v : Value) (want : Bool) (A B C : Prop) : Prop := match v with | .bool b => parts (b == want) A B | .tuple _ => C | _ => False
theorem gWay_undef (want : Bool) (A B C : Prop) : gWay undef want A B C = C := rfl
theorem gWay_true (t : Bool) (A B C : Prop) : gWay (.bool t) true A B C = parts t A B := by simp [gWay]
theorem gWay_false (t : Bool) (A B C : Prop) : gWay (.bool t) false A B C = parts t B A := by cases t <;> simp [gWay, parts]
@[congr] theorem parts_congr {b b' : Bool} {A B : Prop} (h : b = b') : parts b A B = parts b' A B := by rw [h]
@[congr] theorem cWay_congr {b b' : Value} {A B : Prop} (h : b = b') : cWay b A B = cWay b' A B := by rw [h]
@[congr] theorem gWay_congr {b b' : Value} {t : Bool} {A B C : Prop} (h : b = b') : gWay b t A B C = gWay b' t A B C := by rw [h]

theorem run_guard (P : Program) (w0 : World) (t : Nat) (want : Bool) (o : SOp) (l : List SI) (r : List (Nat × Value)) (m : List Nat) (H : Heap) (K : Env → Heap → Prop) :
    runOps P w0 (⟨some (t, want), o⟩ :: l) ⟨r, m⟩ H K = need (lk t r) fun v => gWay v want (runOps P w0 (⟨none, o⟩ :: l) ⟨(t, .bool want) :: r, m⟩ H K) (runOps P w0 l (Env.put ⟨(t, .bool !want) :: r, m⟩ o.dst undef) H K) (runOps P w0 l (Env.put ⟨r, m⟩ o.dst undef) H K) := by
  simp only [runOps, runI]
  refine congrArg (fun k => need (lk t r) k) (funext fun v => ?_)
  cases v <;> simp only [gWay]
  rename_i b
  cases b <;> cases want <;> simp [parts]

theorem run_cond (c : Operand) (x y : SCode) (P : Program) (w0 : World) (O : List FuncId) (n : Nat) (ro : Option Nat) (Q : Exit → Env → Heap → Prop) (e : Env) (H : Heap) :
    aw P w0 O n ro (.cond c x y) Q e H = need (ev e c) fun v => cWay v (aw P w0 O n ro x Q e H) (aw P w0 O n ro y Q e H) := rfl

theorem st_mv (P : Program) (w0 : World) (d : Nat) (x : Operand) (fl : Bool) (l : List (SI × Bool)) (r : List (Nat × Value)) (m : List Nat) (H : Heap) (K : Env → Prop) :
    runSt P w0 ((⟨none, .pure d .mv [x]⟩, fl) :: l) ⟨r, m⟩ H K = need (ev ⟨r, m⟩ x) fun v => runSt P w0 l ⟨(d, v) :: r, m⟩ H K := by
  show (need (evs ⟨r, m⟩ [x]) fun vs => need (pv .mv vs) fun v => runSt P w0 l ⟨(d, v) :: r, m⟩ H K) = _
  simp only [evs]
  cases ev ⟨r, m⟩ x with
  | none => simp [need]
  | some v => simp [need, pv]
theorem and_congr_eq {A A' B B' C D : Prop} (h1 : A = A') (h2 : B = B') : ((C → A) ∧ (D → B)) = ((C → A') ∧ (D → B')) := by rw [h1, h2]
theorem stI_eq (P : Program) (w0 : World) (fl : Bool) (o : SOp) (e : Env) (H : Heap) (K : Env → Prop) : stI P w0 fl ⟨none, o⟩ e H K = stOp P w0 fl o e H fun d v => K ⟨(d, v) :: e.r, e.m⟩ := rfl
theorem st_guard (P : Program) (w0 : World) (t : Nat) (want : Bool) (o : SOp) (fl : Bool) (l : List (SI × Bool)) (r : List (Nat × Value)) (m : List Nat) (H : Heap) (K : Env → Prop) :
    runSt P w0 ((⟨some (t, want), o⟩, fl) :: l) ⟨r, m⟩ H K = need (lk t r) fun v => gWay v want (runSt P w0 ((⟨none, o⟩, fl) :: l) ⟨(t, .bool want) :: r, m⟩ H K) (need o.dst fun d => runSt P w0 l ⟨(d, undef) :: (t, .bool !want) :: r, m⟩ H K) (need o.dst fun d => runSt P w0 l ⟨(d, undef) :: r, m⟩ H K) := by
  simp only [runSt, stI]
  refine congrArg (fun k => need (lk t r) k) (funext fun v => ?_)
  cases v <;> simp only [gWay]
  rename_i b
  cases b <;> cases want <;> simp [parts]
def kDraw (P : Program) (w0 : World) (A : Option (Nat × List Value)) (R : List SI) (K : Env → Heap → Prop) (e2 : Env) (H2 : Heap) : Prop :=
  match A with
  | none => runOps P w0 R e2 H2 K
  | some (t, z) => AllFresh w0 H2 fun b => runOps P w0 R ⟨(t, .pointer (some ⟨b, 0, none⟩)) :: e2.r, e2.m⟩ ((b, .cells z z.length) :: H2) K
def kM (P : Program) (w0 : World) (M : List SI) (H : Heap) (K : Env → Heap → Prop) (e1 : Env) : Prop := runM P w0 M e1 H K
theorem run_draw (d : CDraw) (P : Program) (w0 : World) (O : List FuncId) (n : Nat) (ro : Option Nat) (Q : Exit → Env → Heap → Prop) (e : Env) (H : Heap) :
    aw P w0 O n ro (.draw d) Q e H = runSt P w0 d.S e H (kM P w0 d.M H (kDraw P w0 d.A d.R (Q .normal))) := by
  obtain ⟨S, M, A, R⟩ := d
  cases A <;> rfl
theorem m_mv (P : Program) (w0 : World) (d : Nat) (x : Operand) (l : List SI) (r : List (Nat × Value)) (m : List Nat) (H : Heap) (K : Env → Heap → Prop) :
    runM P w0 (⟨none, .pure d .mv [x]⟩ :: l) ⟨r, m⟩ H K = need (ev ⟨r, m⟩ x) fun v => runM P w0 l ⟨(d, v) :: r, m⟩ H K := by
  show (need (evs ⟨r, m⟩ [x]) fun vs => need (pv .mv vs) fun v => runM P w0 l ⟨(d, v) :: r, m⟩ H K) = _
  simp only [evs]
  cases ev ⟨r, m⟩ x with
  | none => simp [need]
  | some v => simp [need, pv]
theorem m_guard (P : Program) (w0 : World) (t : Nat) (want : Bool) (o : SOp) (l : List SI) (r : List (Nat × Value)) (m : List Nat) (H : Heap) (K : Env → Heap → Prop) :
    runM P w0 (⟨some (t, want), o⟩ :: l) ⟨r, m⟩ H K = need (lk t r) fun v => gWay v want (runM P w0 (⟨none, o⟩ :: l) ⟨(t, .bool want) :: r, m⟩ H K) (need o.dst fun d => runM P w0 l ⟨(d, undef) :: (t, .bool !want) :: r, m⟩ H K) (need o.dst fun d => runM P w0 l ⟨(d, undef) :: r, m⟩ H K) := by
  simp only [runM, mI]
  refine congrArg (fun k => need (lk t r) k) (funext fun v => ?_)
  cases v <;> simp only [gWay]
  rename_i b
  cases b <;> cases want <;> simp [parts]

/-- The end of a function: what is kept of the facts. -/
def ends (K : Value → Heap → Prop) (e : Env) (H : Heap) (v : Value) : Prop :=
  ∃ H2, (∀ p ∈ H2, p ∈ H) ∧ ((∀ r ∈ e.m, (r, Blk.obj (.deferred (some []))) ∈ H ∧ r ∉ keys H2) ∧ e.m.Nodup) ∧ K v H2
theorem end_ret (P : Program) (w0 : World) (rs : List ResultVar) (K : Value → Heap → Prop) (e : Env) (H : Heap) : endPost P w0 rs K .ret e H = need (resVs P w0 e H rs) fun vs => ends K e H (tupleOf vs) := by
  simp [endPost, ends]
theorem end_normal (P : Program) (w0 : World) (rs : List ResultVar) (K : Value → Heap → Prop) (e : Env) (H : Heap) : endPost P w0 rs K .normal e H = need (resVs P w0 e H rs) fun vs => ends K e H (tupleOf vs) := by
  simp [endPost, ends]
/-- A function that keeps no block of its own. -/
theorem ends_pre {K : Value → Heap → Prop} {r : List (Nat × Value)} {v : Value} {H H2 : Heap} (hs : ∃ X, H = X ++ H2) (h : K v H2) : ends K ⟨r, []⟩ H v := by
  obtain ⟨X, rfl⟩ := hs
  exact ⟨H2, fun p hp => List.mem_append_right _ hp, ⟨by simp, List.nodup_nil⟩, h⟩

def kBlk (P : Program) (w0 : World) (d : Nat) (c : List Value) (V : Nat → Value) (l : List SI) (r : List (Nat × Value)) (m : List Nat) (H : Heap) (K : Env → Heap → Prop) : Nat → Prop := fun (b : Nat) => runOps P w0 l ⟨(d, V b) :: r, m⟩ ((b, .cells c c.length) :: H) K
def kVal (P : Program) (w0 : World) (d : Nat) (l : List SI) (r : List (Nat × Value)) (m : List Nat) (K : Env → Heap → Prop) : Value → Heap → Prop := fun (v : Value) (H : Heap) => runOps P w0 l ⟨(d, v) :: r, m⟩ H K
def kNil (P : Program) (w0 : World) (l : List SI) (r : List (Nat × Value)) (m : List Nat) (K : Env → Heap → Prop) : Value → Heap → Prop := fun (_ : Value) (H : Heap) => runOps P w0 l ⟨r, m⟩ H K
def kQ (P : Program) (w0 : World) (d : Nat) (l : List (SI × Bool)) (r : List (Nat × Value)) (m : List Nat) (H : Heap) (K : Env → Prop) : Value → Prop := fun (v : Value) => runSt P w0 l ⟨(d, v) :: r, m⟩ H K
def kBlkM (P : Program) (w0 : World) (d : Nat) (c : List Value) (V : Nat → Value) (l : List SI) (r : List (Nat × Value)) (m : List Nat) (H : Heap) (K : Env → Heap → Prop) : Nat → Prop := fun (b : Nat) => runM P w0 l ⟨(d, V b) :: r, m⟩ ((b, .cells c c.length) :: H) K
def kQM (P : Program) (w0 : World) (d : Nat) (l : List SI) (r : List (Nat × Value)) (m : List Nat) (H : Heap) (K : Env → Heap → Prop) : Value → Prop := fun (v : Value) => runM P w0 l ⟨(d, v) :: r, m⟩ H K

theorem hget_here (b : Nat) (x : Blk) (H : Heap) : hget ((b, x) :: H) b = some x := by simp [hget]
theorem hget_there {k b : Nat} {x : Blk} {H : Heap} (h : ¬ k = b) : hget ((k, x) :: H) b = hget H b := by simp [hget, h]
theorem hget_notIn {b : Nat} : ∀ {H : Heap}, NotIn b H → hget H b = none := by
  intro H
  induction H with
  | nil => intro _; rfl
  | cons p H ih => intro h; obtain ⟨k, x⟩ := p; rw [hget_there h.1.1]; exact ih h.2
theorem ne_of_get {H : Heap} {k b : Nat} {x : Blk} (h : hget H k = some x) (hf : NotIn b H) : ¬ b = k := by
  intro hh; subst hh; rw [hget_notIn hf] at h; cases h
theorem hset_nil (b : Nat) (x : Blk) : hset [] b x = [] := rfl
theorem hset_here (b : Nat) (x y : Blk) (H : Heap) : hset ((b, y) :: H) b x = (b, x) :: hset H b x := by simp [hset]
theorem hset_there {k b : Nat} {x y : Blk} {H : Heap} (h : ¬ k = b) : hset ((k, y) :: H) b x = (k, y) :: hset H b x := by simp [hset, h]
theorem hset_notIn {b : Nat} {x : Blk} : ∀ {H : Heap}, NotIn b H → hset H b x = H := by
  intro H
  induction H with
  | nil => intro _; rfl
  | cons p H ih => intro h; obtain ⟨k, y⟩ := p; rw [hset_there h.1.1, ih h.2]
def cellsOf : Option Blk → Option (List Value)
  | some (.cells c _) => some c
  | _ => none
theorem rd1_own {w0 : World} {H : Heap} {b o : Nat} (h : ¬ b < w0.heap.size) : rd1 w0 H b o = (cellsOf (hget H b)).bind fun c => c[o]? := by
  unfold rd1; rw [if_neg h]; cases hget H b with
  | none => rfl
  | some x => cases x <;> rfl
def rdL (c : List Value) (o k : Nat) : Option (List Value) := if o + k ≤ c.length then some ((c.drop o).take k) else none
theorem rdL_all (c : List Value) (k : Nat) (h : c.length = k) : rdL c 0 k = some c := by simp [rdL, ← h]
theorem rd_own {w0 : World} {H : Heap} {b o k : Nat} (h : ¬ b < w0.heap.size) : rd w0 H b o k = (cellsOf (hget H b)).bind fun c => rdL c o k := by
  unfold rd rdL; rw [if_neg h]; cases hget H b with
  | none => rfl
  | some x => cases x <;> rfl
theorem wr1_get {H : Heap} {b o size : Nat} {v : Value} {c : List Value} (h : hget H b = some (.cells c size)) : wr1 H b o v = (put1 c size o v).map fun c' => hset H b (.cells c' size) := by simp [wr1, h]
theorem wrN_get {H : Heap} {b o size : Nat} {vs : List Value} {c : List Value} (h : hget H b = some (.cells c size)) : wrN H b o vs = (putN c size o vs).map fun c' => hset H b (.cells c' size) := by simp [wrN, h]

/-- The rules that go first. -/
theorem exA :
    (∀ (P : Program) (w0 : World) (e : Env) (H : Heap) (K : Env → Heap → Prop), runOps P w0 [] e H K = K e H) ∧
    (∀ (P : Program) (w0 : World) (d : Nat) (x : Operand) (l : List SI) (r : List (Nat × Value)) (m : List Nat) (H : Heap) (K : Env → Heap → Prop), runOps P w0 (⟨none, .pure d .mv [x]⟩ :: l) ⟨r, m⟩ H K = need (ev ⟨r, m⟩ x) fun v => runOps P w0 l ⟨(d, v) :: r, m⟩ H K) ∧
    (∀ (P : Program) (w0 : World) (d : Nat) (p : PureOp) (xs : List Operand) (l : List SI) (r : List (Nat × Value)) (m : List Nat) (H : Heap) (K : Env → Heap → Prop), runOps P w0 (⟨none, .pure d p xs⟩ :: l) ⟨r, m⟩ H K = need (evs ⟨r, m⟩ xs) fun vs => need (pv p vs) fun v => runOps P w0 l ⟨(d, v) :: r, m⟩ H K) ∧
    (∀ (P : Program) (w0 : World) (d : Nat) (x : Operand) (l : List SI) (r : List (Nat × Value)) (m : List Nat) (H : Heap) (K : Env → Heap → Prop), runOps P w0 (⟨none, .load1 d x⟩ :: l) ⟨r, m⟩ H K = need (ev ⟨r, m⟩ x) fun a => need (ptrOf a) fun p => need (rd1 w0 H p.1 p.2) fun v => runOps P w0 l ⟨(d, v) :: r, m⟩ H K) ∧
    (∀ (P : Program) (w0 : World) (d : Nat) (x : Operand) (sz : Nat) (l : List SI) (r : List (Nat × Value)) (m : List Nat) (H : Heap) (K : Env → Heap → Prop), runOps P w0 (⟨none, .loadN d x sz⟩ :: l) ⟨r, m⟩ H K = need (ev ⟨r, m⟩ x) fun a => need (ptrOf a) fun p => need (rd w0 H p.1 p.2 sz) fun cs => runOps P w0 l ⟨(d, .agg cs.toArray) :: r, m⟩ H K) ∧
    (∀ (P : Program) (w0 : World) (x y : Operand) (l : List SI) (r : List (Nat × Value)) (m : List Nat) (H : Heap) (K : Env → Heap → Prop), runOps P w0 (⟨none, .store1 x y⟩ :: l) ⟨r, m⟩ H K = need (ev ⟨r, m⟩ x) fun a => need (ptrOf a) fun p => need (ev ⟨r, m⟩ y) fun v => isCell v = true ∧ need (wr1 H p.1 p.2 v) fun H' => runOps P w0 l ⟨r, m⟩ H' K) ∧
    (∀ (P : Program) (w0 : World) (x y : Operand) (sz : Nat) (l : List SI) (r : List (Nat × Value)) (m : List Nat) (H : Heap) (K : Env → Heap → Prop), runOps P w0 (⟨none, .storeN x y sz⟩ :: l) ⟨r, m⟩ H K = need (ev ⟨r, m⟩ x) fun a => need (ptrOf a) fun p => need (ev ⟨r, m⟩ y) fun v => (v.cells.toList.length = sz ∧ v.cells.toList.all isCell = true) ∧ need (wrN H p.1 p.2 v.cells.toList) fun H' => runOps P w0 l ⟨r, m⟩ H' K) ∧
    (∀ (P : Program) (w0 : World) (d : Nat) (z : List Value) (l : List SI) (r : List (Nat × Value)) (m : List Nat) (H : Heap) (K : Env → Heap → Prop), runOps P w0 (⟨none, .alloc d z⟩ :: l) ⟨r, m⟩ H K = AllFresh w0 H (hold (kBlk P w0 d z ptr0 l r m H K) ⟨⟩)) ∧
    (∀ (P : Program) (w0 : World) (d : Nat) (x : Operand) (l : List SI) (r : List (Nat × Value)) (m : List Nat) (H : Heap) (K : Env → Heap → Prop), runOps P w0 (⟨none, .box d x⟩ :: l) ⟨r, m⟩ H K = need (ev ⟨r, m⟩ x) fun v => AllFresh w0 H (hold (kBlk P w0 d v.cells.toList ptr0 l r m H K) ⟨⟩)) ∧
    (∀ (P : Program) (w0 : World) (d len : Nat) (z : List Value) (places : List (Nat × Nat)) (xs : List Operand) (l : List SI) (r : List (Nat × Value)) (m : List Nat) (H : Heap) (K : Env → Heap → Prop), runOps P w0 (⟨none, .bslice d len z places xs⟩ :: l) ⟨r, m⟩ H K = need (evs ⟨r, m⟩ xs) fun vs => need (fillL places vs z) fun cs => AllFresh w0 H (hold (kBlk P w0 d cs (sl0 len) l r m H K) ⟨⟩)) ∧
    (∀ (P : Program) (w0 : World) (d : Nat) (T : TypeId) (x y : Operand) (l : List SI) (r : List (Nat × Value)) (m : List Nat) (H : Heap) (K : Env → Heap → Prop), runOps P w0 (⟨none, .mkslice d T x y⟩ :: l) ⟨r, m⟩ H K = need (ev ⟨r, m⟩ x) fun x => need (ev ⟨r, m⟩ y) fun y => MkSl P w0 T x y H (hold (kVal P w0 d l r m K) ⟨⟩)) ∧
    (∀ (P : Program) (w0 : World) (d : Nat) (Ts : List TypeId) (T : TypeId) (x y : Operand) (l : List SI) (r : List (Nat × Value)) (m : List Nat) (H : Heap) (K : Env → Heap → Prop), runOps P w0 (⟨none, .append d Ts T x y⟩ :: l) ⟨r, m⟩ H K = need (ev ⟨r, m⟩ x) fun x => need (ev ⟨r, m⟩ y) fun y => App P w0 Ts T x y H (hold (kVal P w0 d l r m K) ⟨⟩)) ∧
    (∀ (P : Program) (w0 : World) (d : Nat) (f : Operand) (xs : List Operand) (l : List SI) (r : List (Nat × Value)) (m : List Nat) (H : Heap) (K : Env → Heap → Prop), runOps P w0 (⟨none, .call (some d) f xs⟩ :: l) ⟨r, m⟩ H K = need (ev ⟨r, m⟩ f) fun f => need (evs ⟨r, m⟩ xs) fun vs => VCall P w0 f vs H (hold (kVal P w0 d l r m K) ⟨⟩)) ∧
    (∀ (P : Program) (w0 : World) (f : Operand) (xs : List Operand) (l : List SI) (r : List (Nat × Value)) (m : List Nat) (H : Heap) (K : Env → Heap → Prop), runOps P w0 (⟨none, .call none f xs⟩ :: l) ⟨r, m⟩ H K = need (ev ⟨r, m⟩ f) fun f => need (evs ⟨r, m⟩ xs) fun vs => VCall P w0 f vs H (hold (kNil P w0 l r m K) ⟨⟩)) ∧
    (∀ (P : Program) (w0 : World) (t : Nat) (want : Bool) (o : SOp) (l : List SI) (r : List (Nat × Value)) (m : List Nat) (H : Heap) (K : Env → Heap → Prop), runOps P w0 (⟨some (t, want), o⟩ :: l) ⟨r, m⟩ H K = need (lk t r) fun v => gWay v want (runOps P w0 (⟨none, o⟩ :: l) ⟨(t, .bool want) :: r, m⟩ H K) (runOps P w0 l (Env.put ⟨(t, .bool !want) :: r, m⟩ o.dst undef) H K) (runOps P w0 l (Env.put ⟨r, m⟩ o.dst undef) H K)) ∧
    (∀ (P : Program) (w0 : World) (e : Env) (H : Heap) (K : Env → Prop), runSt P w0 [] e H K = K e) ∧
    (∀ (P : Program) (w0 : World) (d : Nat) (x : Operand) (fl : Bool) (l : List (SI × Bool)) (r : List (Nat × Value)) (m : List Nat) (H : Heap) (K : Env → Prop), runSt P w0 ((⟨none, .pure d .mv [x]⟩, fl) :: l) ⟨r, m⟩ H K = need (ev ⟨r, m⟩ x) fun v => runSt P w0 l ⟨(d, v) :: r, m⟩ H K) ∧
    (∀ (P : Program) (w0 : World) (d : Nat) (p : PureOp) (xs : List Operand) (fl : Bool) (l : List (SI × Bool)) (r : List (Nat × Value)) (m : List Nat) (H : Heap) (K : Env → Prop), runSt P w0 ((⟨none, .pure d p xs⟩, fl) :: l) ⟨r, m⟩ H K = need (evs ⟨r, m⟩ xs) fun vs => need (pv p vs) fun v => runSt P w0 l ⟨(d, v) :: r, m⟩ H K) ∧
    (∀ (P : Program) (w0 : World) (d : Nat) (x : Operand) (fl : Bool) (l : List (SI × Bool)) (r : List (Nat × Value)) (m : List Nat) (H : Heap) (K : Env → Prop), runSt P w0 ((⟨none, .load1 d x⟩, fl) :: l) ⟨r, m⟩ H K = need (ev ⟨r, m⟩ x) fun a => need (ptrOf a) fun p => need (need1 w0 fl H p.1 p.2) fun v => runSt P w0 l ⟨(d, v) :: r, m⟩ H K) ∧
    (∀ (P : Program) (w0 : World) (d : Nat) (x : Operand) (sz : Nat) (fl : Bool) (l : List (SI × Bool)) (r : List (Nat × Value)) (m : List Nat) (H : Heap) (K : Env → Prop), runSt P w0 ((⟨none, .loadN d x sz⟩, fl) :: l) ⟨r, m⟩ H K = need (ev ⟨r, m⟩ x) fun a => need (ptrOf a) fun p => need (needN w0 fl H p.1 p.2 sz) fun cs => runSt P w0 l ⟨(d, .agg cs.toArray) :: r, m⟩ H K) ∧
    (∀ (P : Program) (w0 : World) (d : Nat) (f : Operand) (xs : List Operand) (fl : Bool) (l : List (SI × Bool)) (r : List (Nat × Value)) (m : List Nat) (H : Heap) (K : Env → Prop), runSt P w0 ((⟨none, .call (some d) f xs⟩, fl) :: l) ⟨r, m⟩ H K = (fl = false ∧ need (ev ⟨r, m⟩ f) fun f => need (evs ⟨r, m⟩ xs) fun vs => QCall P w0 f vs H (hold (kQ P w0 d l r m H K) ⟨⟩))) ∧
    (∀ (P : Program) (w0 : World) (t : Nat) (want : Bool) (o : SOp) (fl : Bool) (l : List (SI × Bool)) (r : List (Nat × Value)) (m : List Nat) (H : Heap) (K : Env → Prop), runSt P w0 ((⟨some (t, want), o⟩, fl) :: l) ⟨r, m⟩ H K = need (lk t r) fun v => gWay v want (runSt P w0 ((⟨none, o⟩, fl) :: l) ⟨(t, .bool want) :: r, m⟩ H K) (need o.dst fun d => runSt P w0 l ⟨(d, undef) :: (t, .bool !want) :: r, m⟩ H K) (need o.dst fun d => runSt P w0 l ⟨(d, undef) :: r, m⟩ H K)) ∧
    (∀ (P : Program) (w0 : World) (R : List SI) (K : Env → Heap → Prop) (e : Env) (H : Heap), kDraw P w0 none R K e H = runOps P w0 R e H K) ∧
    (∀ (P : Program) (w0 : World) (d : Nat) (z : List Value) (R : List SI) (K : Env → Heap → Prop) (r : List (Nat × Value)) (m : List Nat) (H : Heap), kDraw P w0 (some (d, z)) R K ⟨r, m⟩ H = AllFresh w0 H (hold (kBlk P w0 d z ptr0 R r m H K) ⟨⟩)) ∧
    (∀ (P : Program) (w0 : World) (M : List SI) (H : Heap) (K : Env → Heap → Prop) (e : Env), kM P w0 M H K e = runM P w0 M e H K) ∧
    (∀ (P : Program) (w0 : World) (e : Env) (H : Heap) (K : Env → Heap → Prop), runM P w0 [] e H K = K e H) ∧
    (∀ (P : Program) (w0 : World) (d : Nat) (x : Operand) (l : List SI) (r : List (Nat × Value)) (m : List Nat) (H : Heap) (K : Env → Heap → Prop), runM P w0 (⟨none, .pure d .mv [x]⟩ :: l) ⟨r, m⟩ H K = need (ev ⟨r, m⟩ x) fun v => runM P w0 l ⟨(d, v) :: r, m⟩ H K) ∧
    (∀ (P : Program) (w0 : World) (d : Nat) (p : PureOp) (xs : List Operand) (l : List SI) (r : List (Nat × Value)) (m : List Nat) (H : Heap) (K : Env → Heap → Prop), runM P w0 (⟨none, .pure d p xs⟩ :: l) ⟨r, m⟩ H K = need (evs ⟨r, m⟩ xs) fun vs => need (pv p vs) fun v => runM P w0 l ⟨(d, v) :: r, m⟩ H K) ∧
    (∀ (P : Program) (w0 : World) (d : Nat) (x : Operand) (l : List SI) (r : List (Nat × Value)) (m : List Nat) (H : Heap) (K : Env → Heap → Prop), runM P w0 (⟨none, .load1 d x⟩ :: l) ⟨r, m⟩ H K = need (ev ⟨r, m⟩ x) fun a => need (ptrOf a) fun p => need (need1 w0 false H p.1 p.2) fun v => runM P w0 l ⟨(d, v) :: r, m⟩ H K) ∧
    (∀ (P : Program) (w0 : World) (d : Nat) (x : Operand) (sz : Nat) (l : List SI) (r : List (Nat × Value)) (m : List Nat) (H : Heap) (K : Env → Heap → Prop), runM P w0 (⟨none, .loadN d x sz⟩ :: l) ⟨r, m⟩ H K = need (ev ⟨r, m⟩ x) fun a => need (ptrOf a) fun p => need (needN w0 false H p.1 p.2 sz) fun cs => runM P w0 l ⟨(d, .agg cs.toArray) :: r, m⟩ H K) ∧
    (∀ (P : Program) (w0 : World) (d : Nat) (f : Operand) (xs : List Operand) (l : List SI) (r : List (Nat × Value)) (m : List Nat) (H : Heap) (K : Env → Heap → Prop), runM P w0 (⟨none, .call (some d) f xs⟩ :: l) ⟨r, m⟩ H K = (false = false ∧ need (ev ⟨r, m⟩ f) fun f => need (evs ⟨r, m⟩ xs) fun vs => QCall P w0 f vs H (hold (kQM P w0 d l r m H K) ⟨⟩))) ∧
    (∀ (P : Program) (w0 : World) (d : Nat) (z : List Value) (l : List SI) (r : List (Nat × Value)) (m : List Nat) (H : Heap) (K : Env → Heap → Prop), runM P w0 (⟨none, .alloc d z⟩ :: l) ⟨r, m⟩ H K = AllFresh w0 H (hold (kBlkM P w0 d z ptr0 l r m H K) ⟨⟩)) ∧
    (∀ (P : Program) (w0 : World) (d : Nat) (x : Operand) (l : List SI) (r : List (Nat × Value)) (m : List Nat) (H : Heap) (K : Env → Heap → Prop), runM P w0 (⟨none, .box d x⟩ :: l) ⟨r, m⟩ H K = need (ev ⟨r, m⟩ x) fun v => AllFresh w0 H (hold (kBlkM P w0 d v.cells.toList ptr0 l r m H K) ⟨⟩)) ∧
    (∀ (P : Program) (w0 : World) (d len : Nat) (z : List Value) (places : List (Nat × Nat)) (xs : List Operand) (l : List SI) (r : List (Nat × Value)) (m : List Nat) (H : Heap) (K : Env → Heap → Prop), runM P w0 (⟨none, .bslice d len z places xs⟩ :: l) ⟨r, m⟩ H K = need (evs ⟨r, m⟩ xs) fun vs => need (fillL places vs z) fun cs => AllFresh w0 H (hold (kBlkM P w0 d cs (sl0 len) l r m H K) ⟨⟩)) ∧
    (∀ (P : Program) (w0 : World) (t : Nat) (want : Bool) (o : SOp) (l : List SI) (r : List (Nat × Value)) (m : List Nat) (H : Heap) (K : Env → Heap → Prop), runM P w0 (⟨some (t, want), o⟩ :: l) ⟨r, m⟩ H K = need (lk t r) fun v => gWay v want (runM P w0 (⟨none, o⟩ :: l) ⟨(t, .bool want) :: r, m⟩ H K) (need o.dst fun d => runM P w0 l ⟨(d, undef) :: (t, .bool !want) :: r, m⟩ H K) (need o.dst fun d => runM P w0 l ⟨(d, undef) :: r, m⟩ H K)) ∧
    (∀ (P : Program) (w0 : World) (d : Nat) (c : List Value) (V : Nat → Value) (l : List SI) (r : List (Nat × Value)) (m : List Nat) (H : Heap) (K : Env → Heap → Prop) (b : Nat), kBlk P w0 d c V l r m H K b = runOps P w0 l ⟨(d, V b) :: r, m⟩ ((b, .cells c c.length) :: H) K) ∧
    (∀ (P : Program) (w0 : World) (d : Nat) (l : List SI) (r : List (Nat × Value)) (m : List Nat) (K : Env → Heap → Prop) (v : Value) (H : Heap), kVal P w0 d l r m K v H = runOps P w0 l ⟨(d, v) :: r, m⟩ H K) ∧
    (∀ (P : Program) (w0 : World) (l : List SI) (r : List (Nat × Value)) (m : List Nat) (K : Env → Heap → Prop) (u : Value) (H : Heap), kNil P w0 l r m K u H = runOps P w0 l ⟨r, m⟩ H K) ∧
    (∀ (P : Program) (w0 : World) (d : Nat) (l : List (SI × Bool)) (r : List (Nat × Value)) (m : List Nat) (H : Heap) (K : Env → Prop) (v : Value), kQ P w0 d l r m H K v = runSt P w0 l ⟨(d, v) :: r, m⟩ H K) ∧
    (∀ (P : Program) (w0 : World) (d : Nat) (c : List Value) (V : Nat → Value) (l : List SI) (r : List (Nat × Value)) (m : List Nat) (H : Heap) (K : Env → Heap → Prop) (b : Nat), kBlkM P w0 d c V l r m H K b = runM P w0 l ⟨(d, V b) :: r, m⟩ ((b, .cells c c.length) :: H) K) ∧
    (∀ (P : Program) (w0 : World) (d : Nat) (l : List SI) (r : List (Nat × Value)) (m : List Nat) (H : Heap) (K : Env → Heap → Prop) (v : Value), kQM P w0 d l r m H K v = runM P w0 l ⟨(d, v) :: r, m⟩ H K) ∧
    (∀ (P : Program) (w0 : World) (O : List FuncId) (n : Nat) (ro : Option Nat) (Q : Exit → Env → Heap → Prop) (e : Env) (H : Heap), aw P w0 O n ro .skip Q e H = Q .normal e H) ∧
    (∀ (l : List SI) (P : Program) (w0 : World) (O : List FuncId) (n : Nat) (ro : Option Nat) (Q : Exit → Env → Heap → Prop) (e : Env) (H : Heap), aw P w0 O n ro (.reg l) Q e H = runOps P w0 l e H (Q .normal)) ∧
    (∀ (d : CDraw) (P : Program) (w0 : World) (O : List FuncId) (n : Nat) (ro : Option Nat) (Q : Exit → Env → Heap → Prop) (e : Env) (H : Heap), aw P w0 O n ro (.draw d) Q e H = runSt P w0 d.S e H (kM P w0 d.M H (kDraw P w0 d.A d.R (Q .normal)))) ∧
    (∀ (a b : SCode) (P : Program) (w0 : World) (O : List FuncId) (n : Nat) (ro : Option Nat) (Q : Exit → Env → Heap → Prop) (e : Env) (H : Heap), aw P w0 O n ro (.seq a b) Q e H = aw P w0 O n ro a (thn (aw P w0 O n ro b Q) Q) e H) ∧
    (∀ (id : Nat) (c : SCode) (P : Program) (w0 : World) (O : List FuncId) (n : Nat) (ro : Option Nat) (Q : Exit → Env → Heap → Prop) (e : Env) (H : Heap), aw P w0 O n ro (.block id c) Q e H = aw P w0 O n ro c (inBlk id Q) e H) ∧
    (∀ (c : SCode) (P : Program) (w0 : World) (O : List FuncId) (n : Nat) (ro : Option Nat) (Q : Exit → Env → Heap → Prop) (e : Env) (H : Heap), aw P w0 O n ro (.loop c) Q e H = SWS P w0 O n ro (.loop c) (hold Q ⟨⟩) e H) ∧
    (∀ (f : Operand) (ps : List Nat) (a b : SCode) (P : Program) (w0 : World) (O : List FuncId) (n : Nat) (ro : Option Nat) (Q : Exit → Env → Heap → Prop) (e : Env) (H : Heap), aw P w0 O n ro (.rfun f ps a b) Q e H = SWS P w0 O n ro (.rfun f ps a b) (hold Q ⟨⟩) e H) ∧
    (∀ (id : Nat) (P : Program) (w0 : World) (O : List FuncId) (n : Nat) (ro : Option Nat) (Q : Exit → Env → Heap → Prop) (e : Env) (H : Heap), aw P w0 O n ro (.exit id) Q e H = Q (.exit id) e H) ∧
    (∀ (l : Nat) (P : Program) (w0 : World) (O : List FuncId) (n : Nat) (ro : Option Nat) (Q : Exit → Env → Heap → Prop) (e : Env) (H : Heap), aw P w0 O n ro (.goto l) Q e H = Q (.goto l) e H) ∧
    (∀ (l : Nat) (P : Program) (w0 : World) (O : List FuncId) (n : Nat) (ro : Option Nat) (Q : Exit → Env → Heap → Prop) (e : Env) (H : Heap), aw P w0 O n ro (.label l) Q e H = Q .normal e H) ∧
    (∀ (P : Program) (w0 : World) (O : List FuncId) (n : Nat) (ro : Option Nat) (Q : Exit → Env → Heap → Prop) (e : Env) (H : Heap), aw P w0 O n ro .ret Q e H = Q .ret e H) ∧
    (∀ (c : Operand) (x y : SCode) (P : Program) (w0 : World) (O : List FuncId) (n : Nat) (ro : Option Nat) (Q : Exit → Env → Heap → Prop) (e : Env) (H : Heap), aw P w0 O n ro (.cond c x y) Q e H = need (ev e c) fun v => cWay v (aw P w0 O n ro x Q e H) (aw P w0 O n ro y Q e H)) ∧
    (∀ (K : Env → Heap → Prop) (Q : Exit → Env → Heap → Prop) (e : Env) (H : Heap), thn K Q .normal e H = K e H) ∧
    (∀ (K : Env → Heap → Prop) (Q : Exit → Env → Heap → Prop) (e : Env) (H : Heap), thn K Q .ret e H = Q .ret e H) ∧
    (∀ (id : Nat) (K : Env → Heap → Prop) (Q : Exit → Env → Heap → Prop) (e : Env) (H : Heap), thn K Q (.exit id) e H = Q (.exit id) e H) ∧
    (∀ (id : Nat) (K : Env → Heap → Prop) (Q : Exit → Env → Heap → Prop) (e : Env) (H : Heap), thn K Q (.goto id) e H = Q (.goto id) e H) ∧
    (∀ (id : Nat) (Q : Exit → Env → Heap → Prop) (e : Env) (H : Heap), inBlk id Q .normal e H = Q .normal e H) ∧
    (∀ (id : Nat) (Q : Exit → Env → Heap → Prop) (e : Env) (H : Heap), inBlk id Q .ret e H = Q .ret e H) ∧
    (∀ (l : Nat) (id : Nat) (Q : Exit → Env → Heap → Prop) (e : Env) (H : Heap), inBlk id Q (.goto l) e H = Q (.goto l) e H) ∧
    (∀ (j : Nat) (id : Nat) (Q : Exit → Env → Heap → Prop) (e : Env) (H : Heap), inBlk id Q (.exit j) e H = if j = id then Q .normal e H else Q (.exit j) e H) ∧
    (∀ (P : Program) (w0 : World) (rs : List ResultVar) (K : Value → Heap → Prop) (e : Env) (H : Heap), endPost P w0 rs K .ret e H = need (resVs P w0 e H rs) fun vs => ends K e H (tupleOf vs)) ∧
    (∀ (P : Program) (w0 : World) (rs : List ResultVar) (K : Value → Heap → Prop) (e : Env) (H : Heap), endPost P w0 rs K .normal e H = need (resVs P w0 e H rs) fun vs => ends K e H (tupleOf vs)) :=
  ⟨by intros; rfl,
   by intros; exact run_mv _ _ _ _ _ _ _ _ _,
   by intros; rfl,
   by intros; rfl,
   by intros; rfl,
   by intros; rfl,
   by intros; rfl,
   by intros; rfl,
   by intros; rfl,
   by intros; rfl,
   by intros; rfl,
   by intros; rfl,
   by intros; rfl,
   by intros; rfl,
   by intros; exact run_guard _ _ _ _ _ _ _ _ _ _,
   by intros; rfl,
   by intros; exact st_mv _ _ _ _ _ _ _ _ _ _,
   by intros; rfl,
   by intros; rfl,
   by intros; rfl,
   by intros; rfl,
   by intros; exact st_guard _ _ _ _ _ _ _ _ _ _ _,
   by intros; rfl,
   by intros; rfl,
   by intros; rfl,
   by intros; rfl,
   by intros; exact m_mv _ _ _ _ _ _ _ _ _,
   by intros; rfl,
   by intros; rfl,
   by intros; rfl,
   by intros; rfl,
   by intros; rfl,
   by intros; rfl,
   by intros; rfl,
   by intros; exact m_guard _ _ _ _ _ _ _ _ _ _,
   by intros; rfl,
   by intros; rfl,
   by intros; rfl,
   by intros; rfl,
   by intros; rfl,
   by intros; rfl,
   by intros; rfl,
   by intros; rfl,
   by intros; exact run_draw _ _ _ _ _ _ _ _ _,
   by intros; rfl,
   by intros; rfl,
   by intros; rfl,
   by intros; rfl,
   by intros; rfl,
   by intros; rfl,
   by intros; rfl,
   by intros; rfl,
   by intros; exact run_cond _ _ _ _ _ _ _ _ _ _ _,
   by intros; rfl,
   by intros; rfl,
   by intros; rfl,
   by intros; rfl,
   by intros; rfl,
   by intros; rfl,
   by intros; rfl,
   by intros; rfl,
   by intros; exact end_ret _ _ _ _ _ _,
   by intros; exact end_normal _ _ _ _ _ _⟩

def iand (k : IntKind) (a b : Int) : Int := k.wrap (BitVec.ofInt k.bits a &&& BitVec.ofInt k.bits b).toNat
def ior (k : IntKind) (a b : Int) : Int := k.wrap (BitVec.ofInt k.bits a ||| BitVec.ofInt k.bits b).toNat
def ixor (k : IntKind) (a b : Int) : Int := k.wrap (BitVec.ofInt k.bits a ^^^ BitVec.ofInt k.bits b).toNat
def iandNot (k : IntKind) (a b : Int) : Int := k.wrap (BitVec.ofInt k.bits a &&& ~~~ BitVec.ofInt k.bits b).toNat
def ishl (k : IntKind) (a b : Int) : Int := k.wrap (a * 2 ^ (min b.toNat k.bits))
def ishr (k : IntKind) (a b : Int) : Int := a.fdiv (2 ^ (min b.toNat k.bits))
def inot (k : IntKind) (n : Int) : Int := k.wrap (BitVec.ofInt k.bits (if k.signed then -1 else k.max) ^^^ BitVec.ofInt k.bits n).toNat
def cons? : Option Value → Option (List Value) → Option (List Value)
  | some v, some vs => some (v :: vs)
  | _, _ => none
theorem evs_cons (e : Env) (x : Operand) (xs : List Operand) : evs e (x :: xs) = cons? (ev e x) (evs e xs) := by
  simp only [evs]; cases ev e x <;> cases evs e xs <;> rfl
theorem resVs_cons (P : Program) (w0 : World) (e : Env) (H : Heap) (x : ResultVar) (xs : List ResultVar) : resVs P w0 e H (x :: xs) = cons? (resV P w0 e H x) (resVs P w0 e H xs) := by
  simp only [resVs]; cases resV P w0 e H x <;> cases resVs P w0 e H xs <;> rfl
theorem resV_cellN {P : Program} {T : TypeId} {sz : Nat} (ht : tinfo P T = some (true, sz)) (w0 : World) (r : List (Nat × Value)) (m : List Nat) (H : Heap) (a : Nat) :
    resV P w0 ⟨r, m⟩ H (.cell a T) = (lk a r).bind fun v => (ptrOf v).bind fun p => (rd w0 H p.1 p.2 sz).map fun cs => .agg cs.toArray := by
  simp only [resV, ht]
  cases lk a r with
  | none => rfl
  | some v => cases h : ptrOf v with
    | none => simp [h]
    | some p => simp [h]
theorem resV_cell1 {P : Program} {T : TypeId} {sz : Nat} (ht : tinfo P T = some (false, sz)) (w0 : World) (r : List (Nat × Value)) (m : List Nat) (H : Heap) (a : Nat) :
    resV P w0 ⟨r, m⟩ H (.cell a T) = (lk a r).bind fun v => (ptrOf v).bind fun p => rd1 w0 H p.1 p.2 := by
  simp only [resV, ht]
  cases lk a r with
  | none => rfl
  | some v => cases h : ptrOf v with
    | none => simp [h]
    | some p => simp [h]
theorem fillL_cons (off size : Nat) (ps : List (Nat × Nat)) (v : Value) (vs cells : List Value) :
    fillL ((off, size) :: ps) (v :: vs) cells = if v.cells.size = size ∧ off + size ≤ cells.length then fillL ps vs (cells.take off ++ v.cells.toList ++ cells.drop (off + size)) else none := rfl

/-- The rules on what has been run. -/
theorem exB :
    (∀ (α : Type) (a : α) (k : α → Prop), need (some a) k = k a) ∧
    (∀ (w0 : World) (H : Heap) (b o : Nat), need1 w0 false H b o = rd1 w0 H b o) ∧
    (∀ (w0 : World) (H : Heap) (b o n : Nat), needN w0 false H b o n = rd w0 H b o n) ∧
    (∀ (w0 : World) (H : Heap) (b o : Nat), need1 w0 true H b o = w0.cell? ⟨b, o, none⟩) ∧
    (∀ (w0 : World) (H : Heap) (b o n : Nat), needN w0 true H b o n = rdOld w0 b o n) ∧
    (∀ (t k : Nat) (v : Value) (r : List (Nat × Value)), lk t ((k, v) :: r) = if k = t then some v else lk t r) ∧
    (∀ (r : List (Nat × Value)) (m : List Nat) (t : Nat), ev ⟨r, m⟩ (.tmp t) = lk t r) ∧
    (∀ (e : Env) (v : Value), ev e (.const v) = some v) ∧
    (∀ (e : Env) (f : Nat), ev e (.func f) = some (.func (.func f) #[] #[])) ∧
    (∀ (e : Env) (f : Nat), ev e (.global f) = some (.pointer (some ⟨f, 0, none⟩))) ∧
    (∀ (e : Env), evs e [] = some []) ∧
    (∀ (e : Env) (x : Operand) (xs : List Operand), evs e (x :: xs) = cons? (ev e x) (evs e xs)) ∧
    (∀ (v : Value) (vs : List Value), cons? (some v) (some vs) = some (v :: vs)) ∧
    (∀ (r : List (Nat × Value)) (m : List Nat) (d : Nat) (v : Value), Env.put ⟨r, m⟩ (some d) v = ⟨(d, v) :: r, m⟩) ∧
    (∀ (d : Nat) (p : PureOp) (xs : List Operand), SOp.dst (.pure d p xs) = some d) ∧
    (∀ (d : Nat) (x : Operand), SOp.dst (.load1 d x) = some d) ∧
    (∀ (d : Nat) (x : Operand) (n : Nat), SOp.dst (.loadN d x n) = some d) ∧
    (∀ (d : Option Nat) (x : Operand) (l : List Operand), SOp.dst (.call d x l) = d) ∧
    (∀ (b o : Nat), ptrOf (.pointer (some ⟨b, o, none⟩)) = some (b, o)) ∧
    (∀ (b : Nat), ptr0 b = .pointer (some ⟨b, 0, none⟩)) ∧
    (∀ (len b : Nat), sl0 len b = .slice (some ⟨b, 0, none⟩) len len) ∧
    (∀ (k : Nat) (vs : List Value) (v : Value), envOf k (v :: vs) = (k, v) :: envOf (k + 1) vs) ∧
    (∀ (k : Nat), envOf k [] = []) ∧
    (∀ (k b : Nat) (x : Blk) (H : Heap), hget ((k, x) :: H) b = if k = b then some x else hget H b) ∧
    (∀ (k b : Nat) (x y : Blk) (H : Heap), hset ((k, y) :: H) b x = (if k = b then (b, x) else (k, y)) :: hset H b x) ∧
    (∀ (b : Nat) (x : Blk), hset [] b x = []) ∧
    (∀ (c : List Value) (n : Nat), cellsOf (some (.cells c n)) = some c) ∧
    (∀ (α β : Type) (a : α) (f : α → Option β), (some a).bind f = f a) ∧
    (∀ (α β : Type) (a : α) (f : α → β), (some a).map f = some (f a)) ∧
    (∀ (t : Bool) (A B : Prop), cWay (.bool t) A B = parts t A B) ∧
    (∀ (t : Bool) (A B C : Prop), gWay (.bool t) true A B C = parts t A B) ∧
    (∀ (t : Bool) (A B C : Prop), gWay (.bool t) false A B C = parts t B A) ∧
    (∀ (t : Bool) (A B C : Prop), gWay undef t A B C = C) ∧
    (∀ (A B : Prop), parts true A B = A) ∧
    (∀ (A B : Prop), parts false A B = B) ∧
    (∀ (P : Program) (w0 : World) (e : Env) (H : Heap), resVs P w0 e H [] = some []) ∧
    (∀ (P : Program) (w0 : World) (e : Env) (H : Heap) (x : ResultVar) (xs : List ResultVar), resVs P w0 e H (x :: xs) = cons? (resV P w0 e H x) (resVs P w0 e H xs)) ∧
    (∀ (P : Program) (w0 : World) (r : List (Nat × Value)) (m : List Nat) (H : Heap) (t : Nat), resV P w0 ⟨r, m⟩ H (.tmp t) = lk t r) ∧
    (∀ (v : Value), tupleOf [v] = v) ∧
    (∀ (v u : Value), tupleOf [v, u] = .tuple #[v, u]) ∧
    (∀ (v u x : Value), tupleOf [v, u, x] = .tuple #[v, u, x]) ∧
    (∀ (v : Value), pv .mv [v] = some v) ∧
    (∀ (a c : Value), pv .pick [.bool true, a, c] = some a) ∧
    (∀ (a c : Value), pv .pick [.bool false, a, c] = some c) ∧
    (∀ (k : IntKind) (a c : Int), pv (.bin .add) [.int k a, .int k c] = some (.int k (k.wrap (a + c)))) ∧
    (∀ (k : IntKind) (a c : Int), pv (.bin .sub) [.int k a, .int k c] = some (.int k (k.wrap (a - c)))) ∧
    (∀ (k : IntKind) (a c : Int), pv (.bin .mul) [.int k a, .int k c] = some (.int k (k.wrap (a * c)))) ∧
    (∀ (k : IntKind) (a c : Int), pv (.bin .and) [.int k a, .int k c] = some (.int k (iand k a c))) ∧
    (∀ (k : IntKind) (a c : Int), pv (.bin .or) [.int k a, .int k c] = some (.int k (ior k a c))) ∧
    (∀ (k : IntKind) (a c : Int), pv (.bin .xor) [.int k a, .int k c] = some (.int k (ixor k a c))) ∧
    (∀ (k : IntKind) (a c : Int), pv (.bin .andNot) [.int k a, .int k c] = some (.int k (iandNot k a c))) ∧
    (∀ (k : IntKind) (a c : Int), pv (.bin .quo) [.int k a, .int k c] = if c = 0 then none else some (.int k (k.wrap (a.tdiv c)))) ∧
    (∀ (k : IntKind) (a c : Int), pv (.bin .rem) [.int k a, .int k c] = if c = 0 then none else some (.int k (a.tmod c))) ∧
    (∀ (k : IntKind) (a c : Int), pv (.bin .eql) [.int k a, .int k c] = some (.bool (a == c))) ∧
    (∀ (k : IntKind) (a c : Int), pv (.bin .neq) [.int k a, .int k c] = some (.bool (a != c))) ∧
    (∀ (k : IntKind) (a c : Int), pv (.bin .lss) [.int k a, .int k c] = some (.bool (decide (a < c)))) ∧
    (∀ (k : IntKind) (a c : Int), pv (.bin .leq) [.int k a, .int k c] = some (.bool (decide (a ≤ c)))) ∧
    (∀ (k : IntKind) (a c : Int), pv (.bin .gtr) [.int k a, .int k c] = some (.bool (decide (c < a)))) ∧
    (∀ (k : IntKind) (a c : Int), pv (.bin .geq) [.int k a, .int k c] = some (.bool (decide (c ≤ a)))) ∧
    (∀ (k k2 : IntKind) (a c : Int), pv (.bin .shl) [.int k a, .int k2 c] = if c < 0 then none else some (.int k (ishl k a c))) ∧
    (∀ (k k2 : IntKind) (a c : Int), pv (.bin .shr) [.int k a, .int k2 c] = if c < 0 then none else some (.int k (ishr k a c))) ∧
    (∀ (a c : Bool), pv (.eqb false) [.bool a, .bool c] = some (.bool (a == c))) ∧
    (∀ (a c : Bool), pv (.eqb true) [.bool a, .bool c] = some (.bool (!(a == c)))) ∧
    (∀ (ks : List (Option IntKind)) (xs ys : List Value), pv (.eqc false ks) [.agg xs.toArray, .agg ys.toArray] = (eqCells ks xs ys).map fun r => .bool r) ∧
    (∀ (ks : List (Option IntKind)) (xs ys : List Value), pv (.eqc true ks) [.agg xs.toArray, .agg ys.toArray] = (eqCells ks xs ys).map fun r => .bool !r) ∧
    ( eqCells [] [] [] = some true) ∧
    (∀ (k : IntKind) (a c : Int) (ks : List (Option IntKind)) (xs ys : List Value), eqCells (some k :: ks) (.int k a :: xs) (.int k c :: ys) = (eqCells ks xs ys).map (fun r => decide (a = c) && r)) ∧
    (∀ (a c : Bool) (ks : List (Option IntKind)) (xs ys : List Value), eqCells (none :: ks) (.bool a :: xs) (.bool c :: ys) = (eqCells ks xs ys).map (fun r => (a == c) && r)) ∧
    (∀ (a : Addr), pv (.eqn false) [.pointer (some a), .pointer none] = some (.bool false)) ∧
    (∀ (a : Addr), pv (.eqn true) [.pointer (some a), .pointer none] = some (.bool true)) ∧
    ( pv (.eqn false) [.pointer none, .pointer none] = some (.bool true)) ∧
    ( pv (.eqn true) [.pointer none, .pointer none] = some (.bool false)) ∧
    (∀ (f : Fn) (x y : Array Value), pv (.eqf false) [.func f x y, .nilFunc] = some (.bool false)) ∧
    (∀ (f : Fn) (x y : Array Value), pv (.eqf true) [.func f x y, .nilFunc] = some (.bool true)) ∧
    (∀ (a b : ByteArray), pv (.eqs false) [.string a, .string b] = some (.bool (a.toList == b.toList))) ∧
    (∀ (a b : ByteArray), pv (.eqs true) [.string a, .string b] = some (.bool (!(a.toList == b.toList)))) ∧
    (∀ (a : Option Addr) (n c n2 c2 : Nat), pv (.eqsl false) [.slice a n c, .slice none n2 c2] = some (.bool a.isNone)) ∧
    (∀ (a : Option Addr) (n c n2 c2 : Nat), pv (.eqsl true) [.slice a n c, .slice none n2 c2] = some (.bool (!a.isNone))) ∧
    (∀ (c : Bool), pv (.un .not) [.bool c] = some (.bool !c)) ∧
    (∀ (k : IntKind) (n : Int), pv (.un .neg) [.int k n] = some (.int k (k.wrap (0 - n)))) ∧
    (∀ (k : IntKind) (n : Int), pv (.un .xor) [.int k n] = some (.int k (inot k n))) ∧
    (∀ (k j : IntKind) (n : Int), pv (.conv k) [.int j n] = some (.int k (k.wrap n))) ∧
    (∀ (off c o : Nat), pv (.fad off) [.pointer (some ⟨c, o, none⟩)] = some (.pointer (some ⟨c, o + off, none⟩))) ∧
    (∀ (off : Nat) (agg : Bool) (sz : Nat) (cs : List Value), pv (.fld off agg sz) [.agg cs.toArray] = partOf agg sz cs off) ∧
    (∀ (len sz c o : Nat) (k : IntKind) (i : Int), pv (.iaA len sz) [.pointer (some ⟨c, o, none⟩), .int k i] = if 0 ≤ i ∧ i < (len : Int) then some (.pointer (some ⟨c, o + i.toNat * sz, none⟩)) else none) ∧
    (∀ (sz c o n cp : Nat) (k : IntKind) (i : Int), pv (.iaS sz) [.slice (some ⟨c, o, none⟩) n cp, .int k i] = if 0 ≤ i ∧ i < (n : Int) then some (.pointer (some ⟨c, o + i.toNat * sz, none⟩)) else none) ∧
    (∀ (len : Nat) (agg : Bool) (sz : Nat) (cs : List Value) (k : IntKind) (i : Int), pv (.ix len agg sz) [.agg cs.toArray, .int k i] = if 0 ≤ i ∧ i < (len : Int) then partOf agg sz cs (i.toNat * sz) else none) ∧
    (∀ (zero : List Value) (places : List (Nat × Nat)) (vs : List Value), pv (.build zero places) vs = (fillL places vs zero).map fun cs => .agg cs.toArray) ∧
    (∀ (i : Nat) (vs : List Value), pv (.ext i) [.tuple vs.toArray] = vs[i]?) ∧
    (∀ (f n : Nat) (vs : List Value), pv (.mkf f n) vs = some (.func (.func f) (vs.take n).toArray (vs.drop n).toArray)) ∧
    (∀ (a : Option Addr) (n c : Nat), pv .len [.slice a n c] = some (.int .i64 n)) ∧
    (∀ (s : ByteArray), pv .lens [.string s] = some (.int .i64 s.size)) ∧
    (∀ (n : Nat) (v : Value), pv (.lenA n) [v] = some (.int .i64 n)) ∧
    (∀ (a : Option Addr) (n c : Nat), pv .cap [.slice a n c] = some (.int .i64 c)) ∧
    (∀ (k j : IntKind) (x y : Int), pv .mn [.int k x, .int j y] = some (.int k (if y < x then y else x))) ∧
    (∀ (k j : IntKind) (x y : Int), pv .mx [.int k x, .int j y] = some (.int k (if x < y then y else x))) ∧
    (∀ (sz : Nat) (lo hi : Bool) (vs : List Value), pv (.slc sz lo hi) vs = pvSlc sz lo hi vs) ∧
    (∀ (a : Addr), pv .nilck [.pointer (some a)] = some (.pointer (some a))) ∧
    (∀ (cells : List Value), fillL [] [] cells = some cells) ∧
    (∀ (k : IntKind) (n : Int), (Value.int k n).cells = #[.int k n]) ∧
    (∀ (c : Bool), (Value.bool c).cells = #[.bool c]) ∧
    (∀ (s : ByteArray), (Value.string s).cells = #[.string s]) ∧
    (∀ (a : Option Addr), (Value.pointer a).cells = #[.pointer a]) ∧
    (∀ (a : Option Addr) (n c : Nat), (Value.slice a n c).cells = #[.slice a n c]) ∧
    (∀ (f : Fn) (x y : Array Value), (Value.func f x y).cells = #[.func f x y]) ∧
    (∀ (cs : Array Value), (Value.agg cs).cells = cs) ∧
    (∀ (l : List Value), l.toArray.toList = l) ∧
    (∀ (l : List Value), l.toArray.size = l.length) ∧
    (∀ (k : IntKind) (n : Int), isCell (.int k n) = true) ∧
    (∀ (c : Bool), isCell (.bool c) = true) ∧
    (∀ (a : Option Addr), isCell (.pointer a) = true) ∧
    (∀ (a : Option Addr) (n c : Nat), isCell (.slice a n c) = true) ∧
    (∀ (s : ByteArray), isCell (.string s) = true) ∧
    (∀ (f : Fn) (x y : Array Value), isCell (.func f x y) = true) :=
  ⟨by intros; exact need_some _ _,
   by intros; rfl,
   by intros; rfl,
   by intros; rfl,
   by intros; rfl,
   by intros; rfl,
   by intros; rfl,
   by intros; rfl,
   by intros; rfl,
   by intros; rfl,
   by intros; rfl,
   by intros; exact evs_cons _ _ _,
   by intros; rfl,
   by intros; rfl,
   by intros; rfl,
   by intros; rfl,
   by intros; rfl,
   by intros; rfl,
   by intros; rfl,
   by intros; rfl,
   by intros; rfl,
   by intros; rfl,
   by intros; rfl,
   by intros; rfl,
   by intros; rfl,
   by intros; rfl,
   by intros; rfl,
   by intros; rfl,
   by intros; rfl,
   by intros; rfl,
   by intros; exact gWay_true _ _ _ _,
   by intros; exact gWay_false _ _ _ _,
   by intros; exact gWay_undef _ _ _ _,
   by intros; exact parts_true _ _,
   by intros; exact parts_false _ _,
   by intros; rfl,
   by intros; exact resVs_cons _ _ _ _ _ _,
   by intros; rfl,
   by intros; rfl,
   by intros; rfl,
   by intros; rfl,
   by intros; rfl,
   by intros; rfl,
   by intros; rfl,
   by intros; simp [pv, binI],
   by intros; simp [pv, binI],
   by intros; simp [pv, binI],
   by intros; simp [pv, binI, iand],
   by intros; simp [pv, binI, ior],
   by intros; simp [pv, binI, ixor],
   by intros; simp [pv, binI, iandNot],
   by intros; simp [pv, binI],
   by intros; simp [pv, binI],
   by intros; simp [pv, binI],
   by intros; simp [pv, binI],
   by intros; simp [pv, binI],
   by intros; simp [pv, binI],
   by intros; simp [pv, binI],
   by intros; simp [pv, binI],
   by intros; simp [pv, binI, ishl],
   by intros; simp [pv, binI, ishr],
   by intros; simp [pv],
   by intros; simp [pv],
   by intros; simp [pv],
   by intros; simp [pv],
   by intros; rfl,
   by intros; simp [eqCells],
   by intros; rfl,
   by intros; simp [pv],
   by intros; simp [pv],
   by intros; simp [pv],
   by intros; simp [pv],
   by intros; simp [pv],
   by intros; simp [pv],
   by intros; simp [pv],
   by intros; simp [pv],
   by intros; simp [pv],
   by intros; simp [pv],
   by intros; rfl,
   by intros; rfl,
   by intros; simp [pv, inot],
   by intros; rfl,
   by intros; rfl,
   by intros; simp [pv],
   by intros; rfl,
   by intros; rfl,
   by intros; simp [pv],
   by intros; rfl,
   by intros; simp [pv],
   by intros; rfl,
   by intros; rfl,
   by intros; rfl,
   by intros; rfl,
   by intros; rfl,
   by intros; rfl,
   by intros; rfl,
   by intros; rfl,
   by intros; rfl,
   by intros; rfl,
   by intros; rfl,
   by intros; rfl,
   by intros; rfl,
   by intros; rfl,
   by intros; rfl,
   by intros; rfl,
   by intros; rfl,
   by intros; rfl,
   by intros; simp,
   by intros; rfl,
   by intros; rfl,
   by intros; rfl,
   by intros; rfl,
   by intros; rfl,
   by intros; rfl⟩

end Go.SL
