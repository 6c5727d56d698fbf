/- Slices of one's own that grow by one; slices handed back. No program in sight. -/
import Derived.Test.YtppajifkmepdnaaSlN
set_option linter.unusedSimpArgs false
set_option linter.unusedVariables false
namespace Go.SL
open Go.RowKit

/-- **append** of one element, onto a slice of one's own. -/
theorem AppE {P : Program} {w0 : World} {t T : TypeId} {sz bytes : Nat} {z : List Value} (ht : slt P t = some (sz, bytes, z)) {b n cap b2 cap2 : Nat} {c e : List Value} {H : Heap} (H0 : Heap) {K : Value → Heap → Prop}
    (hH : ∀ p ∈ H0, p ∈ H) (hg : hget H b = some (.cells c (cap * sz))) (hn : n ≤ cap) (hc : n * sz ≤ c.length) (hb : NotIn b H0) (h2 : hget H b2 = some (.cells e sz)) (hb2 : ¬ b2 < w0.heap.size) (hel : e.length = sz) (he : e.all isCell = true)
    (hmax : n ≤ 1000000000) (hby : bytes ≤ 10000)
    (hk : ∀ b' cap' c', ¬ b' < w0.heap.size → NotIn b' H0 → n + 1 ≤ cap' → (n + 1) * sz ≤ c'.length → c'.take ((n + 1) * sz) = c.take (n * sz) ++ e →
      K (.slice (some ⟨b', 0, none⟩) (n + 1) cap') ((b', .cells c' (cap' * sz)) :: H0)) :
    App P w0 [t, t] T (.slice (some ⟨b, 0, none⟩) n cap) (.slice (some ⟨b2, 0, none⟩) 1 cap2) H K := by
  refine App.rule ht (some (b, cap, c)) H0 (m := 1) (news := e) hH ⟨hn, hc, hg, hb⟩ ?_ he (by omega) (by simp only [maxLen]; omega) ?_ ?_
  · unfold rd
    rw [if_neg hb2, h2]
    simp only [Nat.one_mul, Nat.zero_add, hel, Nat.le_refl, if_true, List.drop_zero]
    rw [List.take_of_length_le (by omega)]
  · have : (n + 1) * bytes ≤ 1000000001 * 10000 := Nat.mul_le_mul (by omega) hby
    omega
  · intro b' cap' c' l' f' hcap' hlen' htake' _
    exact hk b' cap' c' l' f' hcap' hlen' (by simpa [gsC] using htake')

/-- A slice that a call has made: its elements, each of sz cells. -/
def NewSl (sz : Nat) (es : List (List Value)) (v : Value) (H : Heap) : Prop :=
  ∃ b cap c, v = .slice (some ⟨b, 0, none⟩) es.length cap ∧ H = [(b, .cells c (cap * sz))] ∧ es.length ≤ cap ∧ es.length * sz ≤ c.length ∧ c.take (es.length * sz) = es.flatten

def ints (xs : List Int) : List (List Value) := xs.map fun x => [.int .i64 x]
theorem ints_len (xs : List Int) : (ints xs).length = xs.length := by simp [ints]
theorem ints_flat (xs : List Int) : (ints xs).flatten = xs.map (.int .i64) := by
  induction xs with
  | nil => rfl
  | cons x xs ih => simp [ints] at ih ⊢; exact ih

theorem IntsIn.cells {w0 w : World} {H : Heap} (hs : St w0 H w) {b n cap size : Nat} {c : List Value} {xs : List Int} (hx : c.take n = xs.map (.int .i64)) (hxn : xs.length = n) (hg : hget H b = some (.cells c size)) (hn : n ≤ 9223372036854775807) :
    IntsIn w (.slice (some ⟨b, 0, none⟩) n cap) xs := by
  subst hxn
  refine ⟨⟨_, _, rfl⟩, hn, fun i x hi => ?_⟩
  have hlt := (List.getElem?_eq_some_iff.1 hi).1
  have hmem := hget_mem hg
  have hc : w.cell? ⟨b, i, none⟩ = some (.int .i64 x) := hs.cell ⟨rfl, .inr ⟨c, size, hmem, by
    have h1 : (c.take xs.length)[i]? = c[i]? := by rw [List.getElem?_take, if_pos hlt]
    rw [← h1, hx, List.getElem?_map, hi]; rfl⟩⟩
  refine ⟨b, i, cell_lt hc, ?_, hc⟩
  simp [pv, hlt]

/-- **A FUNCTION THAT HANDS BACK NEW BLOCKS**, out of the walk over its small code. -/
theorem fresh {P : Program} {w : World} {O : List FuncId} {f : FuncId} {fn : Func} {sf : SFun} {args : List Value} {Post : Value → Heap → Prop}
    (hf : P.funcs[f]? = some fn) (hc : cFun P O fn = some sf) (hn : decide (args.length ≤ sf.n) = true)
    (h : aw P w sf.O sf.n none sf.body (endPost P w sf.rs Post) ⟨envOf 0 args, []⟩ []) : ACall P w f args.toArray [] Post :=
  acall hf hc (by simpa using hn) h

theorem ends_post {Post : Value → Heap → Prop} {r : List (Nat × Value)} {u : Value} {H H2 : Heap} (hs : ∀ p ∈ H2, p ∈ H) (h : Post u H2) : ends Post ⟨r, []⟩ H u := ends_sub H2 hs h
end Go.SL
