/- The abstract heap: what a run of one operation does, said over points-to facts. No program in sight. -/
import Derived.RangeFuncRecord
import Derived.RangeFuncLeaves
import Derived.OrdersIn
import Derived.Below
set_option linter.unusedSimpArgs false
set_option linter.unusedVariables false
namespace Go.SL
open Go.RowKit

/-- A fact on one block that the law's call has made: its first cells, and how many it has; a loop's record; a block for deferred calls. -/
inductive Blk where
  | cells (c : List Value) (size : Nat)
  | obj (o : Obj)

abbrev Heap := List (Nat × Blk)

def keys (H : Heap) : List Nat := H.map (·.1)

def Blk.sat (b : Nat) (w : World) : Blk → Prop
  | .cells c size => ∃ (cs : Array Value) (e : TypeId) (fr : Nat × Nat), w.heap[b]? = some (.cells cs e fr) ∧ fr.2 ≤ fr.1 ∧ cs.size = size ∧ c <+: cs.toList
  | .obj o => (∀ cs e fr, o ≠ .cells cs e fr) ∧ w.heap[b]? = some o

/-- The world w: all that lay when the law was called lies as it lay; the facts hold. -/
structure St (w0 : World) (H : Heap) (w : World) : Prop where
  below : Below w0.heap.size w0 w
  new : ∀ p ∈ H, w0.heap.size ≤ p.1
  sat : ∀ p ∈ H, p.2.sat p.1 w

theorem St.nil (w0 : World) : St w0 [] w0 := ⟨Below.refl _ _, by simp, by simp⟩

theorem St.sub {w0 w : World} {H H' : Heap} (h : St w0 H w) (hs : ∀ p ∈ H', p ∈ H) : St w0 H' w :=
  ⟨h.below, fun p hp => h.new p (hs p hp), fun p hp => h.sat p (hs p hp)⟩

/-- A cell's value, by the facts. -/
def HasCell (w0 : World) (H : Heap) (a : Addr) (v : Value) : Prop :=
  a.spot = none ∧ (w0.cell? a = some v ∨ ∃ c size, (a.block, Blk.cells c size) ∈ H ∧ c[a.off]? = some v)

theorem St.cell {w0 w : World} {H : Heap} (h : St w0 H w) {a : Addr} {v : Value} (hc : HasCell w0 H a v) : w.cell? a = some v := by
  obtain ⟨hsp, hc | ⟨c, size, hm, hc⟩⟩ := hc
  · have hb : a.block < w0.heap.size := by
      rcases Nat.lt_or_ge a.block w0.heap.size with h' | h'
      · exact h'
      · simp [World.cell?, Array.getElem?_eq_none h'] at hc
    rw [h.below.cell hb]; exact hc
  · obtain ⟨cs, e, fr, hh, _, _, hp⟩ := h.sat _ hm
    have hlt : a.off < c.length := (List.getElem?_eq_some_iff.1 hc).1
    have : cs[a.off]? = some v := by
      obtain ⟨t, ht⟩ := hp
      rw [← Array.getElem?_toList, ← hc, ← ht, List.getElem?_append_left hlt]
    simp only at hh
    simp [World.cell?, hh, hsp, this]

/-- The list with one cell written: in place, or right behind what is known. -/
def put1 (c : List Value) (size o : Nat) (v : Value) : Option (List Value) :=
  if o < c.length then some (c.set o v) else if o = c.length ∧ o < size then some (c ++ [v]) else none

def hset (H : Heap) (b : Nat) (x : Blk) : Heap := H.map fun p => if p.1 = b then (b, x) else p

def isCell : Value → Bool
  | .agg _ | .tuple _ => false
  | _ => true

def Blk.of : Obj → Blk
  | .cells c _ _ => .cells c.toList c.size
  | o => .obj o

/-- What an operation's run comes to, by the facts: at every answer of the tape, at every number of a new block. -/
def absRun (P : Program) (w0 : World) {α : Type} : Sem α → Heap → (α → Heap → Prop) → Prop
  | .pure a, H, K => K a H
  | .load _ a k, H, K => ∃ v, HasCell w0 H a v ∧ absRun P w0 (k v) H K
  | .store _ a v k, H, K => isCell v = true ∧ a.spot = none ∧ ∃ c size c', (a.block, Blk.cells c size) ∈ H ∧ put1 c size a.off v = some c' ∧ absRun P w0 k (hset H a.block (.cells c' size)) K
  | .new o k, H, K => (∀ c e fr, o = .cells c e fr → fr = (0, 0)) ∧ ∀ b, w0.heap.size ≤ b → b ∉ keys H → absRun P w0 (k b) ((b, Blk.of o) :: H) K
  | .getObj r k, H, K => ∃ o, (r, Blk.obj o) ∈ H ∧ absRun P w0 (k o) H K
  | .setObj r o k, H, K => (∀ c e fr, o ≠ .cells c e fr) ∧ ∃ o', (r, Blk.obj o') ∈ H ∧ absRun P w0 k (hset H r (.obj o)) K
  | .choose q k, H, K => ∀ t, absRun P w0 (k (if q.forced then 0 else q.cut t)) H K
  | .program k, H, K => absRun P w0 (k P) H K
  | .mark _ k, H, K => absRun P w0 k H K
  | _, _, _ => False

theorem setCell_heap_same (w : World) (b o : Nat) (v : Value) (cs : Array Value) (e : TypeId) (fr : Nat × Nat) (h : w.heap[b]? = some (.cells cs e fr)) :
    (w.setCell ⟨b, o, none⟩ v).heap[b]? = some (.cells (cs.setIfInBounds o v) e fr) := by
  obtain ⟨hlt, hk⟩ := Array.getElem?_eq_some_iff.1 h
  show (w.heap.modify b _)[b]? = _
  rw [Array.getElem?_eq_getElem (by rw [Array.size_modify]; exact hlt), Array.getElem_modify_self, hk]
  simp

theorem prefix_set {c : List Value} {l : List Value} (h : c <+: l) (o : Nat) (v : Value) (ho : o < c.length) : c.set o v <+: l.set o v := by
  obtain ⟨t, rfl⟩ := h
  exact ⟨t, by rw [List.set_append_left _ _ ho]⟩

theorem prefix_snoc {c : List Value} {l : List Value} (h : c <+: l) (v : Value) (ho : c.length < l.length) : c ++ [v] <+: l.set c.length v := by
  obtain ⟨t, rfl⟩ := h
  cases t with
  | nil => simp at ho
  | cons x t => exact ⟨t, by rw [List.set_append_right _ _ (Nat.le_refl _)]; simp⟩

theorem St.store {w0 w : World} {H : Heap} (h : St w0 H w) {b o : Nat} {v : Value} {c : List Value} {size : Nat} {c' : List Value}
    (hm : (b, Blk.cells c size) ∈ H) (hp : put1 c size o v = some c') :
    (∃ x, w.cell? ⟨b, o, none⟩ = some x) ∧ w.frozen? ⟨b, o, none⟩ = false ∧ St w0 (hset H b (.cells c' size)) (w.setCell ⟨b, o, none⟩ v) := by
  obtain ⟨cs, e, fr, hh, hfr, hsz, hpre⟩ := h.sat _ hm
  simp only at hh
  have hob : o < cs.size := by
    have := hpre.length_le
    simp only [Array.length_toList] at this
    unfold put1 at hp
    split at hp
    · omega
    · split at hp
      · omega
      · cases hp
  refine ⟨⟨cs[o], by simp [World.cell?, hh, hob]⟩, ?_, ?_, ?_, ?_⟩
  · simp [World.frozen?, hh]; intro h1; omega
  · exact h.below.setCell (h.new _ hm) v
  · intro p hp
    obtain ⟨q, hq, rfl⟩ := List.mem_map.1 hp
    split
    · exact (h.new _ hm : w0.heap.size ≤ b)
    · exact h.new q hq
  · intro p hp'
    obtain ⟨q, hq, rfl⟩ := List.mem_map.1 hp'
    split
    · refine ⟨_, e, fr, setCell_heap_same w b o v cs e fr hh, hfr, by simpa using hsz, ?_⟩
      rw [Array.toList_setIfInBounds]
      unfold put1 at hp
      split at hp
      · cases hp; exact prefix_set hpre o v ‹_›
      · split at hp
        · cases hp
          rename_i h2
          rw [h2.1]
          exact prefix_snoc hpre v (by have := h2.2; simp only [Array.length_toList]; omega)
        · cases hp
    · rename_i hne
      have hk : (w.setCell ⟨b, o, none⟩ v).heap[q.1]? = w.heap[q.1]? := Below.heap_setCell _ _ _ _ hne
      have := h.sat q hq
      cases hb : q.2 with
      | cells c2 s2 => rw [hb] at this; simp only [Blk.sat, hk] at this ⊢; exact this
      | obj o2 => rw [hb] at this; simp only [Blk.sat, hk] at this ⊢; exact this

theorem Blk.sat_alloc {b : Nat} {w : World} {x : Blk} (o : Obj) (h : x.sat b w) : x.sat b (w.alloc o) := by
  have hk : ∀ o', w.heap[b]? = some o' → (w.alloc o).heap[b]? = some o' := fun o' ho =>
    (Below.heap_alloc w o b (Array.getElem?_eq_some_iff.1 ho).1).trans ho
  cases x with
  | cells c size => obtain ⟨cs, e, fr, hh, r⟩ := h; exact ⟨cs, e, fr, hk _ hh, r⟩
  | obj o' => exact ⟨h.1, hk _ h.2⟩

theorem Blk.sat_lt {b : Nat} {w : World} {x : Blk} (h : x.sat b w) : b < w.heap.size := by
  cases x with
  | cells c size => obtain ⟨cs, e, fr, hh, r⟩ := h; exact (Array.getElem?_eq_some_iff.1 hh).1
  | obj o' => exact (Array.getElem?_eq_some_iff.1 h.2).1

theorem St.fresh {w0 w : World} {H : Heap} (h : St w0 H w) : w0.heap.size ≤ w.heap.size ∧ w.heap.size ∉ keys H := by
  refine ⟨h.below.size, fun hm => ?_⟩
  obtain ⟨p, hp, he⟩ := List.mem_map.1 hm
  have := Blk.sat_lt (h.sat p hp)
  omega

theorem St.alloc {w0 w : World} {H : Heap} (h : St w0 H w) (o : Obj) (x : Blk) (hx : x.sat w.heap.size (w.alloc o)) : St w0 ((w.heap.size, x) :: H) (w.alloc o) := by
  refine ⟨h.below.alloc h.below.size o, ?_, ?_⟩
  · intro p hp
    rcases List.mem_cons.1 hp with rfl | hp
    · exact h.below.size
    · exact h.new p hp
  · intro p hp
    rcases List.mem_cons.1 hp with rfl | hp
    · exact hx
    · exact Blk.sat_alloc o (h.sat p hp)

theorem St.drew {w0 w : World} {H : Heap} (h : St w0 H w) (n : Nat) : St w0 H { w with drawn := n } := by
  refine ⟨⟨h.below.os, h.below.tape, h.below.output, h.below.size, h.below.block⟩, h.new, fun p hp => ?_⟩
  have := h.sat p hp
  cases hb : p.2 with
  | cells c2 s2 => rw [hb] at this; exact this
  | obj o2 => rw [hb] at this; exact this

theorem St.putObj {w0 w : World} {H : Heap} (h : St w0 H w) {r : Nat} {o o' : Obj} (hno : ∀ c e fr, o ≠ .cells c e fr) (hm : (r, Blk.obj o') ∈ H) :
    St w0 (hset H r (.obj o)) (w.putObj r o) := by
  have hlt := Blk.sat_lt (h.sat _ hm)
  refine ⟨⟨h.below.os, h.below.tape, h.below.output, ?_, fun k hk => ?_⟩, ?_, ?_⟩
  · have := h.below.size; simpa using this
  · have hr : w0.heap.size ≤ r := h.new _ hm
    rw [World.putObj_heap_other (by omega)]; exact h.below.block k hk
  · intro p hp
    obtain ⟨q, hq, rfl⟩ := List.mem_map.1 hp
    split
    · exact (h.new _ hm : w0.heap.size ≤ r)
    · exact h.new q hq
  · intro p hp
    obtain ⟨q, hq, rfl⟩ := List.mem_map.1 hp
    split
    · exact ⟨hno, World.putObj_heap_same hlt⟩
    · rename_i hne
      have hk : (w.putObj r o).heap[q.1]? = w.heap[q.1]? := World.putObj_heap_other hne
      have := h.sat q hq
      cases hb : q.2 with
      | cells c2 s2 => rw [hb] at this; simp only [Blk.sat, hk] at this ⊢; exact this
      | obj o2 => rw [hb] at this; simp only [Blk.sat, hk] at this ⊢; exact this

theorem absRun_sound {P : Program} {w0 : World} {α : Type} (s : Sem α) : ∀ (H : Heap) (K : α → Heap → Prop) (w : World),
    absRun P w0 s H K → St w0 H w → ∃ x H' w', s.run P w = .ok x w' ∧ K x H' ∧ St w0 H' w' := by
  induction s with
  | pure a => intro H K w h hs; exact ⟨a, H, w, rfl, h, hs⟩
  | load m a k ih =>
    intro H K w h hs
    obtain ⟨v, hc, h⟩ := h
    obtain ⟨x, H', w', hr, hk, hs'⟩ := ih v H K w h hs
    exact ⟨x, H', w', by simp [Sem.run, hs.cell hc, hr], hk, hs'⟩
  | store m a v k ih =>
    intro H K w h hs
    obtain ⟨hv, hsp, c, size, c', hm, hp, h⟩ := h
    obtain ⟨b, o, sp⟩ := a
    simp only at hsp; subst hsp
    obtain ⟨⟨y, hy⟩, hf, hst⟩ := hs.store hm hp
    obtain ⟨x, H', w', hr, hk, hs'⟩ := ih _ K _ h hst
    refine ⟨x, H', w', ?_, hk, hs'⟩
    cases v <;> simp [isCell] at hv <;> simp [Sem.run, hy, hf, hr]
  | new o k ih =>
    intro H K w h hs
    obtain ⟨h0, h⟩ := h
    have := hs.alloc o (.of o) (by
      have hn := World.alloc_heap_new w o
      cases o <;> first
        | exact ⟨_, _, _, hn, by rw [h0 _ _ _ rfl]; exact Nat.le_refl _, rfl, List.prefix_refl _⟩
        | exact ⟨by simp, hn⟩)
    obtain ⟨x, H', w', hr, hk, hs'⟩ := ih w.heap.size _ K _ (h _ hs.fresh.1 hs.fresh.2) this
    exact ⟨x, H', w', by simpa [Sem.run] using hr, hk, hs'⟩
  | choose q k ih =>
    intro H K w h hs
    by_cases hf : q.forced = true
    · have h0 := h 0
      simp only [hf, if_true] at h0
      obtain ⟨x, H', w', hr, hk, hs'⟩ := ih _ H K w h0 hs
      exact ⟨x, H', w', by simp [Sem.run, hf, hr], hk, hs'⟩
    · have h0 := h (w.tape w.drawn q)
      simp only [hf] at h0
      obtain ⟨x, H', w', hr, hk, hs'⟩ := ih _ H K _ h0 (hs.drew (w.drawn + 1))
      exact ⟨x, H', w', by simpa [Sem.run, hf] using hr, hk, hs'⟩
  | program k ih =>
    intro H K w h hs
    obtain ⟨x, H', w', hr, hk, hs'⟩ := ih P H K w h hs
    exact ⟨x, H', w', by simp [Sem.run, hr], hk, hs'⟩
  | mark m k ih =>
    intro H K w h hs
    obtain ⟨x, H', w', hr, hk, hs'⟩ := ih H K w h hs
    exact ⟨x, H', w', by simp [Sem.run, hr], hk, hs'⟩
  | shape r k ih => intro H K w h; exact h.elim
  | freeze a n k ih => intro H K w h; exact h.elim
  | frozen a k ih => intro H K w h; exact h.elim
  | getObj r k ih =>
    intro H K w h hs
    obtain ⟨o, hm, h⟩ := h
    obtain ⟨hn, hh⟩ := hs.sat _ hm
    obtain ⟨x, H', w', hr, hk, hs'⟩ := ih o H K w h hs
    refine ⟨x, H', w', ?_, hk, hs'⟩
    simp only at hh
    cases o <;> first | exact absurd rfl (hn _ _ _) | simp [Sem.run, hh, hr]
  | setObj r o k ih =>
    intro H K w h hs
    obtain ⟨hno, o', hm, h⟩ := h
    obtain ⟨hn, hh⟩ := hs.sat _ hm
    obtain ⟨x, H', w', hr, hk, hs'⟩ := ih _ K _ h (hs.putObj hno hm)
    refine ⟨x, H', w', ?_, hk, hs'⟩
    simp only at hh
    have hr' : Sem.run P k { w with heap := w.heap.setIfInBounds r o } = .ok x w' := hr
    cases o' <;> first | exact absurd rfl (hn _ _ _) | simp only [Sem.run, hh, hr']
  | sys c k ih => intro H K w h; exact h.elim
  | halt hh => intro H K w h; exact h.elim

theorem absRun_bind {P : Program} {w0 : World} {α β : Type} (s : Sem α) (f : α → Sem β) : ∀ (H : Heap) (K : β → Heap → Prop),
    absRun P w0 (s >>= f) H K = absRun P w0 s H (fun a H' => absRun P w0 (f a) H' K) := by
  show ∀ (H : Heap) (K : β → Heap → Prop), absRun P w0 (s.bind f) H K = _
  induction s with
  | pure a => intro H K; rfl
  | load m a k ih => intro H K; simp only [Sem.bind, absRun, ih]
  | store m a v k ih => intro H K; simp only [Sem.bind, absRun, ih]
  | new o k ih => intro H K; simp only [Sem.bind, absRun, ih]
  | choose q k ih => intro H K; simp only [Sem.bind, absRun, ih]
  | program k ih => intro H K; simp only [Sem.bind, absRun, ih]
  | mark m k ih => intro H K; simp only [Sem.bind, absRun, ih]
  | shape r k ih => intro H K; rfl
  | freeze a n k ih => intro H K; rfl
  | frozen a k ih => intro H K; rfl
  | getObj r k ih => intro H K; simp only [Sem.bind, absRun, ih]
  | setObj r o k ih => intro H K; simp only [Sem.bind, absRun, ih]
  | sys c k ih => intro H K; rfl
  | halt hh => intro H K; rfl

theorem absRun_mono {P : Program} {w0 : World} {α : Type} (s : Sem α) : ∀ (H : Heap) (K K' : α → Heap → Prop), (∀ x H', K x H' → K' x H') → absRun P w0 s H K → absRun P w0 s H K' := by
  induction s with
  | pure a => intro H K K' hk h; exact hk _ _ h
  | load m a k ih => intro H K K' hk h; obtain ⟨v, hc, h⟩ := h; exact ⟨v, hc, ih _ _ _ _ hk h⟩
  | store m a v k ih => intro H K K' hk h; obtain ⟨h1, h2, c, size, c', h3, h4, h⟩ := h; exact ⟨h1, h2, c, size, c', h3, h4, ih _ _ _ hk h⟩
  | new o k ih =>
    intro H K K' hk h
    exact ⟨h.1, fun b h1 h2 => ih _ _ _ _ hk (h.2 b h1 h2)⟩
  | choose q k ih => intro H K K' hk h t; exact ih _ _ _ _ hk (h t)
  | program k ih => intro H K K' hk h; exact ih _ _ _ _ hk h
  | mark m k ih => intro H K K' hk h; exact ih _ _ _ hk h
  | shape r k ih => intro H K K' hk h; exact h.elim
  | freeze a n k ih => intro H K K' hk h; exact h.elim
  | frozen a k ih => intro H K K' hk h; exact h.elim
  | getObj r k ih => intro H K K' hk h; obtain ⟨o, hc, h⟩ := h; exact ⟨o, hc, ih _ _ _ _ hk h⟩
  | setObj r o k ih => intro H K K' hk h; obtain ⟨h1, o', hc, h⟩ := h; exact ⟨h1, o', hc, ih _ _ _ hk h⟩
  | sys c k ih => intro H K K' hk h; exact h.elim
  | halt hh => intro H K K' hk h; exact h.elim

end Go.SL
