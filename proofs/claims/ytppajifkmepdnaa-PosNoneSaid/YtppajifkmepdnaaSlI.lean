/- Rules on lists, facts and numbers, bundled. No program in sight. (Written by a program of this claim's.) -/
import Derived.Test.YtppajifkmepdnaaSlH
set_option linter.unusedSimpArgs false
set_option linter.unusedVariables false
namespace Go.SL
open Go.RowKit

def wrB (H : Heap) (b o : Nat) (v : Value) (x : Option Blk) : Option Heap := match x with
  | some (.cells c size) => (put1 c size o v).map fun c' => hset H b (.cells c' size)
  | _ => none
theorem wr1_eq (H : Heap) (b o : Nat) (v : Value) : wr1 H b o v = wrB H b o v (hget H b) := by
  unfold wr1 wrB; rfl
def wrNB (H : Heap) (b o : Nat) (vs : List Value) (x : Option Blk) : Option Heap := match x with
  | some (.cells c size) => (putN c size o vs).map fun c' => hset H b (.cells c' size)
  | _ => none
theorem wrN_eq (H : Heap) (b o : Nat) (vs : List Value) : wrN H b o vs = wrNB H b o vs (hget H b) := by
  unfold wrN wrNB; rfl

/-- An i64 that fits. -/
theorem wrap64 (n : Int) (h : -9223372036854775808 ≤ n ∧ n ≤ 9223372036854775807) : IntKind.i64.wrap n = n := by
  rw [IntKind.wrap_i64]; omega

/-- The blocks of H are none of those that lay when the law was called. -/
def AllNew (w0 : World) : Heap → Prop
  | [] => True
  | (k, _) :: H => ¬ k < w0.heap.size ∧ AllNew w0 H
theorem AllNew.of {w0 : World} : ∀ {H : Heap}, (∀ p ∈ H, w0.heap.size ≤ p.1) → AllNew w0 H := by
  intro H
  induction H with
  | nil => intro _; trivial
  | cons p H ih => intro h; obtain ⟨k, x⟩ := p; exact ⟨Nat.not_lt.2 (h (k, x) (by simp)), ih fun q hq => h q (List.mem_cons_of_mem _ hq)⟩
theorem ACall.new {P : Program} {w0 : World} {f : FuncId} {args : Array Value} {H : Heap} {K : Value → Heap → Prop} (h : AllNew w0 H → ACall P w0 f args H K) : ACall P w0 f args H K :=
  fun w hw => h (AllNew.of hw.new) w hw
/-- At a function's end: what is kept is among the facts. -/
theorem ends_sub {K : Value → Heap → Prop} {r : List (Nat × Value)} {v : Value} {H : Heap} (H2 : Heap) (hs : ∀ p ∈ H2, p ∈ H) (h : K v H2) : ends K ⟨r, []⟩ H v :=
  ⟨H2, hs, ⟨by simp, List.nodup_nil⟩, h⟩

theorem sub_cons {p : Nat × Blk} {l H : Heap} (h : p ∈ H) (hl : ∀ q ∈ l, q ∈ H) : ∀ q ∈ p :: l, q ∈ H := fun q hq => by
  rcases List.mem_cons.1 hq with rfl | hq
  · exact h
  · exact hl q hq
theorem sub_tail {p : Nat × Blk} {F H : Heap} (h : ∀ q ∈ F, q ∈ H) : ∀ q ∈ F, q ∈ p :: H := fun q hq => List.mem_cons_of_mem _ (h q hq)
theorem sub_refl (F : Heap) : ∀ q ∈ F, q ∈ F := fun _ h => h
theorem sub_nil (H : Heap) : ∀ q ∈ ([] : Heap), q ∈ H := fun _ h => nomatch h

/-- A call of a function by its name. -/
theorem vcall0 {P : Program} {w0 : World} {f : FuncId} {fn : Func} {args : List Value} {H : Heap} {K : Value → Heap → Prop} (hf : P.funcs[f]? = some fn) (hb : fn.body.isSome = true) (hnm : (fn.name == "runtime.NumGoroutine") = false)
    (h : ACall P w0 f args.toArray H K) : VCall P w0 (.func (.func f) #[] #[]) args H K :=
  vcall_func (first := #[]) (cap := #[]) hf hb hnm (by simpa using h)

theorem slcVal_0 (sz b o c h : Nat) : slcVal sz (some ⟨b, o, none⟩) c 0 h = .slice (some ⟨b, o, none⟩) h c := by
  simp [slcVal, Addr.add_off]
theorem slcVal_none (sz c l h : Nat) : slcVal sz none c l h = .slice none (h - l) (c - l) := by
  simp [slcVal]
theorem pvSlc_1 (sz : Nat) (a : Option Addr) (n c : Nat) (k : IntKind) (l : Int) : pvSlc sz true false [.slice a n c, .int k l] = if 0 ≤ l ∧ l ≤ (n : Int) then some (slcVal sz a c l.toNat n) else none := by
  simp only [pvSlc, slcBounds]; split <;> rfl
theorem pvSlc_2 (sz : Nat) (a : Option Addr) (n c : Nat) (k : IntKind) (h : Int) : pvSlc sz false true [.slice a n c, .int k h] = if 0 ≤ h ∧ h ≤ (c : Int) then some (slcVal sz a c 0 h.toNat) else none := by
  simp only [pvSlc, slcBounds]; split <;> rfl

theorem take_last {c c' : List Value} {n : Nat} {x : Value} (hl : n ≤ c.length) (h : c'.take (n + 1) = c.take n ++ [x]) : c'[n]? = some x := by
  have h1 : (c'.take (n + 1))[n]? = c'[n]? := by rw [List.getElem?_take, if_pos (by omega)]
  rw [← h1, h, List.getElem?_append_right (by simp; omega)]
  simp [Nat.min_eq_left hl]
theorem take_prev {c c' : List Value} {n : Nat} {x : Value} (hl : n ≤ c.length) (h : c'.take (n + 1) = c.take n ++ [x]) : c'.take n = c.take n := by
  have h1 : (c'.take (n + 1)).take n = c'.take n := by rw [List.take_take, Nat.min_eq_left (by omega)]
  rw [← h1, h, List.take_append_of_le_length (by simp; omega), List.take_take, Nat.min_self]
theorem take_get {c c' : List Value} {n i : Nat} (h : c'.take n = c.take n) (hi : i < n) : c'[i]? = c[i]? := by
  have h1 : (c'.take n)[i]? = c'[i]? := by rw [List.getElem?_take, if_pos hi]
  have h2 : (c.take n)[i]? = c[i]? := by rw [List.getElem?_take, if_pos hi]
  rw [← h1, h, h2]

theorem parts_same (t : Bool) (A : Prop) : parts t A A = A := by cases t <;> simp [parts]

/-- Those that go ahead: a way that is known is gone alone. -/
theorem exP :
    (∀ (α : Type) (a : α) (k : α → Prop), need (some a) k = k a) ∧
    (∀ (t : Bool) (A B : Prop), cWay (.bool t) A B = parts t A B) ∧
    (∀ (α : Type) (K : α → Prop) (t : Tok K) (a : α), hold K t a = K a) ∧
    (∀ (α β : Type) (K : α → β → Prop) (t : Tok K) (a : α) (b : β), hold K t a b = K a b) ∧
    (∀ (α β γ : Type) (K : α → β → γ → Prop) (t : Tok K) (a : α) (b : β) (c : γ), hold K t a b c = K a b c) ∧
    (∀ (t : Bool) (A B C : Prop), gWay (.bool t) true A B C = parts t A B) ∧
    (∀ (t : Bool) (A B C : Prop), gWay undef t A B C = C) ∧
    (∀ (t : Bool) (A B C : Prop), gWay (.bool t) false A B C = parts t B A) ∧
    (∀ (A B : Prop), parts true A B = A) ∧
    (∀ (A B : Prop), parts false A B = B) :=
  ⟨by intros; exact need_some _ _, by intros; rfl, by intros; rfl, by intros; rfl, by intros; rfl, by intros; exact gWay_true _ _ _ _, by intros; rfl, by intros; exact gWay_false _ _ _ _, by intros; exact parts_true _ _, by intros; exact parts_false _ _⟩

theorem rd1_old {w0 : World} {H : Heap} {b o : Nat} {v : Value} (hb : b < w0.heap.size) (hc : w0.cell? ⟨b, o, none⟩ = some v) : rd1 w0 H b o = some v := by
  unfold rd1; rw [if_pos hb, hc]

/-- The rules. -/
theorem exC :
    (∀ (H : Heap) (b o : Nat) (v : Value), wr1 H b o v = wrB H b o v (hget H b)) ∧
    (∀ (H : Heap) (b o s : Nat) (v : Value) (x : List Value), wrB H b o v (some (.cells x s)) = (put1 x s o v).map fun c => hset H b (.cells c s)) ∧
    (∀ (H : Heap) (b o : Nat) (v : List Value), wrN H b o v = wrNB H b o v (hget H b)) ∧
    (∀ (H : Heap) (b o s : Nat) (v : List Value) (x : List Value), wrNB H b o v (some (.cells x s)) = (putN x s o v).map fun c => hset H b (.cells c s)) ∧
    (∀ (b : Nat), NotIn b [] = True) ∧
    (∀ (b k : Nat) (x : Blk) (H : Heap), NotIn b ((k, x) :: H) = ((¬ k = b ∧ ¬ b = k) ∧ NotIn b H)) ∧
    (∀ (x : List Value) (s o : Nat) (v : Value), put1 x s o v = if o < x.length then some (x.set o v) else if o = x.length ∧ o < s then some (x ++ [v]) else none) ∧
    (∀ (x : List Value) (s o : Nat) (v : List Value), putN x s o v = if o + v.length ≤ x.length then some (x.take o ++ v ++ x.drop (o + v.length)) else if o = x.length ∧ o + v.length ≤ s then some (x ++ v) else none) ∧
    (∀ (x : List Value) (o k : Nat), rdL x o k = if o + k ≤ x.length then some ((x.drop o).take k) else none) ∧
    (∀ (ag : Bool) (sz : Nat) (x : List Value) (o : Nat), partOf ag sz x o = if ag = true then some (.agg ((x.drop o).take sz).toArray) else x[o]?) ∧
    (∀ (off size : Nat) (ps : List (Nat × Nat)) (v : Value) (vs cells : List Value), fillL ((off, size) :: ps) (v :: vs) cells = if v.cells.size = size ∧ off + size ≤ cells.length then fillL ps vs (cells.take off ++ v.cells.toList ++ cells.drop (off + size)) else none) ∧
    (∀ (x : Value) (l : List Value), (x :: l)[0]? = some x) ∧
    (∀ (x : Value) (l : List Value) (n : Nat), (x :: l)[n + 1]? = l[n]?) ∧
    (∀ (x : Value) (l : List Value), (x :: l).length = l.length + 1) ∧
    (([] : List Value).length = 0) ∧
    (∀ (x : Value) (l : List Value) (v : Value), (x :: l).set 0 v = v :: l) ∧
    (∀ (x : Value) (l : List Value) (v : Value) (n : Nat), (x :: l).set (n + 1) v = x :: l.set n v) ∧
    (∀ (l : List Value), l.take 0 = []) ∧
    (∀ (x : Value) (l : List Value) (n : Nat), (x :: l).take (n + 1) = x :: l.take n) ∧
    (∀ (l : List Value), l.drop 0 = l) ∧
    (∀ (x : Value) (l : List Value) (n : Nat), (x :: l).drop (n + 1) = l.drop n) ∧
    (∀ (n : Nat), ([] : List Value).drop n = []) ∧
    (∀ (n : Nat), ([] : List Value).take n = []) ∧
    (∀ (l : List Value), [] ++ l = l) ∧
    (∀ (x : Value) (l : List Value) (l2 : List Value), (x :: l) ++ l2 = x :: (l ++ l2)) ∧
    (∀ (l : List Value), l ++ [] = l) ∧
    (∀ (p : Value → Bool) (x : Value) (l : List Value), (x :: l).all p = (p x && l.all p)) ∧
    (∀ (p : Value → Bool), ([] : List Value).all p = true) ∧
    (∀ (p : Prop), (True ∧ p) = p) ∧
    (∀ (p : Prop), (p ∧ True) = p) ∧
    (∀ (p : Prop), (p ∧ False) = False) ∧
    (∀ (p : Prop), (False ∧ p) = False) ∧
    ((¬ True) = False) ∧
    ((¬ False) = True) ∧
    (∀ (b : Bool), (true && b) = b) ∧
    (∀ (b : Bool), (false && b) = false) ∧
    (∀ (b : Bool), (b && true) = b) ∧
    (∀ (b : Bool), (b && false) = false) ∧
    ((!true) = false) ∧
    ((!false) = true) ∧
    (∀ (α : Type) (a : α), (a = a) = True) ∧
    ((true = false) = False) ∧
    ((false = true) = False) ∧
    (∀ (n : Nat), 0 + n = n) ∧
    (∀ (n : Nat), n + 0 = n) ∧
    (∀ (n : Nat), n * 1 = n) ∧
    (∀ (n : Nat), 0 * n = 0) ∧
    (∀ (c : Prop) [Decidable c] (A B : Prop), parts (decide c) A B = ((c → A) ∧ (¬ c → B))) ∧
    (∀ (t : Bool) (A B : Prop), parts (!t) A B = parts t B A) ∧
    (∀ (a b : Int) (A B : Prop), parts (a == b) A B = ((a = b → A) ∧ (¬ a = b → B))) ∧
    (∀ (a b : Int) (A B : Prop), parts (a != b) A B = ((a = b → B) ∧ (¬ a = b → A))) ∧
    (∀ (n : Nat), ((n : Int)).toNat = n) ∧
    (∀ (p : Prop), (True → p) = p) ∧
    (∀ (p : Prop), (False → p) = True) ∧
    (∀ (n : Nat), n - 0 = n) ∧
    (∀ (sz : Nat) (a : Option Addr) (n c : Nat), pvSlc sz false false [.slice a n c] = some (slcVal sz a c 0 n)) ∧
    (∀ (sz : Nat) (a : Option Addr) (n c : Nat) (k : IntKind) (l : Int), pvSlc sz true false [.slice a n c, .int k l] = if 0 ≤ l ∧ l ≤ (n : Int) then some (slcVal sz a c l.toNat n) else none) ∧
    (∀ (sz : Nat) (a : Option Addr) (n c : Nat) (k : IntKind) (h : Int), pvSlc sz false true [.slice a n c, .int k h] = if 0 ≤ h ∧ h ≤ (c : Int) then some (slcVal sz a c 0 h.toNat) else none) ∧
    (∀ (sz b o c h : Nat), slcVal sz (some ⟨b, o, none⟩) c 0 h = .slice (some ⟨b, o, none⟩) h c) ∧
    (∀ (sz c l h : Nat), slcVal sz none c l h = .slice none (h - l) (c - l)) ∧
    (∀ (l : List UInt8), (l == l) = true) ∧
    (∀ (l : Bool), (l == l) = true) ∧
    (∀ (a : Int), (a == a) = true) ∧
    (∀ (a : Int), (a != a) = false) ∧
    (((0 : Nat) : Int) = 0) ∧
    (((1 : Nat) : Int) = 1) :=
  ⟨by intros; apply wr1_eq,
   by intros; rfl,
   by intros; apply wrN_eq,
   by intros; rfl,
   by intros; rfl,
   by intros; rfl,
   by intros; rfl,
   by intros; rfl,
   by intros; rfl,
   by intros; rfl,
   by intros; rfl,
   by intros; simp,
   by intros; simp,
   by intros; rfl,
   by intros; rfl,
   by intros; rfl,
   by intros; rfl,
   by intros; simp,
   by intros; rfl,
   by intros; rfl,
   by intros; rfl,
   by intros; simp,
   by intros; simp,
   by intros; rfl,
   by intros; rfl,
   by intros; simp,
   by intros; simp,
   by intros; simp,
   by intros; simp,
   by intros; simp,
   by intros; simp,
   by intros; simp,
   by intros; simp,
   by intros; simp,
   by intros; rfl,
   by intros; rfl,
   by intros; simp,
   by intros; simp,
   by intros; rfl,
   by intros; rfl,
   by intros; simp,
   by intros; simp,
   by intros; simp,
   by intros; simp,
   by intros; rfl,
   by intros; simp,
   by intros; simp,
   by intros; apply parts_dec,
   by intros; apply parts_not,
   by intros; apply parts_beq,
   by intros; apply parts_bne,
   by intros; simp,
   by intros; simp,
   by intros; simp,
   by intros; rfl,
   by intros; rfl,
   by intros; apply pvSlc_1,
   by intros; apply pvSlc_2,
   by intros; apply slcVal_0,
   by intros; apply slcVal_none,
   by intros; simp,
   by intros; simp,
   by intros; simp,
   by intros; simp,
   by intros; rfl,
   by intros; rfl⟩

end Go.SL
