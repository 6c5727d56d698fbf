/- Reading what lies there; calls of closures that turn nothing. No program in sight. -/
import Derived.Test.YtppajifkmepdnaaSlM
set_option linter.unusedSimpArgs false
set_option linter.unusedVariables false
namespace Go.SL
open Go.RowKit

/-- What lies at ⟨b, o⟩ in this world. -/
structure Cs (w : World) (b o : Nat) (cs : List Value) : Prop where
  lt : b < w.heap.size
  get : ∀ i x, cs[i]? = some x → w.cell? ⟨b, o + i, none⟩ = some x

theorem rdOld_of {w : World} {b : Nat} : ∀ (cs : List Value) (o : Nat), (∀ i x, cs[i]? = some x → w.cell? ⟨b, o + i, none⟩ = some x) → rdOld w b o cs.length = some cs := by
  intro cs
  induction cs with
  | nil => intro o _; rfl
  | cons c cs ih =>
    intro o h
    have h0 := h 0 c rfl
    simp only [Nat.add_zero] at h0
    have h1 := ih (o + 1) fun i x hi => by have := h (i + 1) x (by simpa using hi); rwa [show o + (i + 1) = o + 1 + i from by omega] at this
    simp only [List.length_cons, rdOld, h0, h1]

theorem Cs.rd {w : World} {b o : Nat} {cs : List Value} (h : Cs w b o cs) {H : Heap} {n : Nat} (hn : cs.length = n) : rd w H b o n = some cs := by
  subst hn; unfold SL.rd; rw [if_pos h.lt, rdOld_of cs o h.get]
theorem Cs.rd1 {w : World} {b o : Nat} {cs : List Value} (h : Cs w b o cs) {H : Heap} (i : Nat) {x : Value} (hx : cs[i]? = some x) : rd1 w H b (o + i) = some x :=
  rd1_old h.lt (h.get i x hx)
theorem Cs.sub {w : World} {b o : Nat} {cs : List Value} (h : Cs w b o cs) (k n : Nat) : Cs w b (o + k) ((cs.drop k).take n) := by
  refine ⟨h.lt, fun i x hx => ?_⟩
  rw [List.getElem?_take] at hx
  split at hx
  · rw [List.getElem?_drop] at hx
    rw [Nat.add_assoc]; exact h.get _ _ hx
  · cases hx
theorem Cs.own {w0 w : World} {H : Heap} (hs : St w0 H w) {b size : Nat} {c : List Value} (hg : hget H b = some (.cells c size)) : Cs w b 0 c := by
  have hm := hget_mem hg
  obtain ⟨cs, e, fr, hh, _⟩ := hs.sat _ hm
  refine ⟨(Array.getElem?_eq_some_iff.1 hh).1, fun i x hx => ?_⟩
  exact hs.cell ⟨rfl, .inr ⟨c, size, hm, by simpa using hx⟩⟩
/-- What lay there when the walk began lies there still. -/
theorem Cs.old {w0 w : World} {H : Heap} (hs : St w0 H w) {b o : Nat} {c : List Value} (h : Cs w0 b o c) : Cs w b o c := by
  refine ⟨Nat.lt_of_lt_of_le h.lt hs.below.size, fun i x hx => ?_⟩
  rw [hs.below.cell h.lt]; exact h.get i x hx

/-- A slice that reads so: its elements, each of sz cells. -/
structure SlIn (w : World) (sz : Nat) (v : Value) (es : List (List Value)) : Prop where
  len : ∃ a cap, v = .slice a es.length cap
  small : es.length ≤ 9223372036854775807
  get : ∀ i c, es[i]? = some c → c.length = sz ∧ ∃ b o, pv (.iaS sz) [v, .int .i64 (i : Nat)] = some (.pointer (some ⟨b, o, none⟩)) ∧ Cs w b o c

theorem SlIn.nil (w : World) (sz : Nat) : SlIn w sz (.slice none 0 0) [] := ⟨⟨_, _, rfl⟩, by simp, fun i c h => by simp at h⟩

theorem flat_get {sz : Nat} : ∀ {es : List (List Value)}, (∀ e ∈ es, e.length = sz) → ∀ (i : Nat) (c : List Value), es[i]? = some c → ∀ (j : Nat) (x : Value), c[j]? = some x → es.flatten[i * sz + j]? = some x := by
  intro es
  induction es with
  | nil => intro _ i c h; simp at h
  | cons e es ih =>
    intro hl i c hi j x hx
    have he : e.length = sz := hl e (by simp)
    rw [List.flatten_cons]
    cases i with
    | zero =>
      simp only [List.getElem?_cons_zero, Option.some.injEq] at hi
      subst hi
      have := (List.getElem?_eq_some_iff.1 hx).1
      rw [List.getElem?_append_left (by omega)]
      simpa using hx
    | succ i =>
      rw [List.getElem?_append_right (by rw [he, Nat.succ_mul]; omega), he, show (i + 1) * sz + j - sz = i * sz + j from by rw [Nat.succ_mul]; omega]
      exact ih (fun q hq => hl q (List.mem_cons_of_mem _ hq)) i c (by simpa using hi) j x hx

theorem SlIn.own {w0 w : World} {H : Heap} (hs : St w0 H w) {sz b n cap size : Nat} {c : List Value} {es : List (List Value)} (hg : hget H b = some (.cells c size)) (hc : c.take (n * sz) = es.flatten) (hl : ∀ e ∈ es, e.length = sz)
    (hn : es.length = n) (hm : n ≤ 9223372036854775807) : SlIn w sz (.slice (some ⟨b, 0, none⟩) n cap) es := by
  subst hn
  have ho := Cs.own hs hg
  refine ⟨⟨_, _, rfl⟩, hm, fun i e hi => ?_⟩
  have hlt := (List.getElem?_eq_some_iff.1 hi).1
  refine ⟨hl e (List.mem_of_getElem? hi), b, i * sz, ?_, ho.lt, fun j x hx => ?_⟩
  · simp [pv, hlt]
  · have h1 := flat_get hl i e hi j x hx
    rw [← hc, List.getElem?_take] at h1
    split at h1
    · have := ho.get _ _ h1
      simpa using this
    · cases h1

theorem SlIn.old {w0 w : World} {H : Heap} (hs : St w0 H w) {sz : Nat} {v : Value} {es : List (List Value)} (h : SlIn w0 sz v es) : SlIn w sz v es :=
  ⟨h.len, h.small, fun i c hi => let ⟨h1, b, o, h2, h3⟩ := h.get i c hi; ⟨h1, b, o, h2, h3.old hs⟩⟩

theorem IntsIn.old {w0 w : World} {H : Heap} (hs : St w0 H w) {v : Value} {xs : List Int} (h : IntsIn w0 v xs) : IntsIn w v xs :=
  ⟨h.len, h.small, fun i c hi => let ⟨b, o, h1, h2, h3⟩ := h.get i c hi; ⟨b, o, Nat.lt_of_lt_of_le h1 hs.below.size, h2, by rw [hs.below.cell h1]; exact h3⟩⟩

/-- Runs of equal values. -/
def rl : List (Nat × Value) → List Value
  | [] => []
  | (n, v) :: l => List.replicate n v ++ rl l

/-! ### Closures -/
theorem qcall_qc {P : Program} {w0 : World} {f : FuncId} {cap : Array Value} {args : List Value} {H : Heap} {K : Value → Prop} {v : Value} (h : ∀ w, St w0 H w → Quiet P w f (args ++ cap.toList) v) (hk : K v) : QCall P w0 (.func (.func f) #[] cap) args H K := by
  refine ⟨v, fun w hs => ?_, hk⟩
  rw [inv_run]
  have he : #[] ++ args.toArray ++ cap = (args ++ cap.toList).toArray := by simp
  rw [he]
  rcases h w hs with ⟨hb, hc⟩ | hv
  · refine ⟨.enter f (args ++ cap.toList).toArray, hb.run _ _, .inr ⟨f, _, rfl, ?_⟩⟩
    refine (hc w (St.nil w)).mono ?_
    rintro e w' ⟨v', H', rfl, rfl, hst⟩
    exact ⟨rfl, hst.below⟩
  · exact ⟨.value v, hv w, .inl rfl⟩

theorem vcall_qc {P : Program} {w0 : World} {f : FuncId} {cap : Array Value} {args : List Value} {H : Heap} {K : Value → Heap → Prop} {v : Value} (h : ∀ w, St w0 H w → Quiet P w f (args ++ cap.toList) v) (hk : K v H) : VCall P w0 (.func (.func f) #[] cap) args H K := by
  intro w hs
  have := vcall_q (args := args ++ cap.toList) h hk w hs
  rw [inv_run] at this ⊢
  have he : #[] ++ args.toArray ++ cap = (args ++ cap.toList).toArray := by simp
  have he2 : #[] ++ (args ++ cap.toList).toArray ++ #[] = (args ++ cap.toList).toArray := by simp
  rw [he2] at this
  rw [he]; exact this

/-- A branch of a walk that can't be gone. -/
theorem and_mk {a b : Prop} (ha : a) (hb : b) : a ∧ b := ⟨ha, hb⟩
end Go.SL
