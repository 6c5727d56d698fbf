/- Slices that grow, and slices that are made: two rules. No program in sight. -/
import Derived.Test.YtppajifkmepdnaaSlG
import Derived.Laws.AppendOwn
import Derived.Laws.MakeOwn
set_option linter.unusedSimpArgs false
set_option linter.unusedVariables false
namespace Go.SL
open Go.RowKit

/-- A slice's type: how many cells an element takes, how many bytes, and its zero. -/
def slt (P : Program) (t : TypeId) : Option (Nat × Nat × List Value) :=
  match P.underlying t with
  | some (.slice e) => match P.info? e with
    | some i => match i.zero with
      | some z => if 0 < i.size ∧ z.cells.size = i.size then some (i.size, i.bytes, z.cells.toList) else none
      | none => none
    | none => none
  | _ => none

theorem slt_spec {P : Program} {t : TypeId} {sz bytes : Nat} {z : List Value} (h : slt P t = some (sz, bytes, z)) :
    ∃ e i zv, P.underlying t = some (.slice e) ∧ P.info? e = some i ∧ i.zero = some zv ∧ i.size = sz ∧ i.bytes = bytes ∧ zv.cells.toList = z ∧ 0 < sz ∧ zv.cells.size = sz := by
  unfold slt at h
  split at h
  · rename_i e he
    split at h
    · rename_i i hi
      split at h
      · rename_i zv hz
        split at h
        · rename_i hc
          cases h
          exact ⟨e, i, zv, he, hi, hz, rfl, rfl, rfl, hc.1, hc.2⟩
        · cases h
      · cases h
    · cases h
  · cases h

/-- A slice of one's own: none, or a block, how many elements it has room for, and what is known of its cells. -/
def gsV (g : Option (Nat × Nat × List Value)) (n : Nat) : Value := match g with
  | none => .slice none 0 0
  | some (b, cap, _) => .slice (some ⟨b, 0, none⟩) n cap
def gsC (g : Option (Nat × Nat × List Value)) : List Value := match g with
  | none => []
  | some (_, _, c) => c
def gsOk (sz : Nat) (H H0 : Heap) (n : Nat) (g : Option (Nat × Nat × List Value)) : Prop := match g with
  | none => n = 0
  | some (b, cap, c) => n ≤ cap ∧ n * sz ≤ c.length ∧ hget H b = some (.cells c (cap * sz)) ∧ NotIn b H0

theorem hset_other_mem {H : Heap} {b : Nat} {x : Blk} {p : Nat × Blk} (hp : p ∈ H) (hb : p.1 ≠ b) : p ∈ hset H b x := by
  refine List.mem_map.2 ⟨p, hp, ?_⟩
  simp [hb]

/-- **append**: onto a slice of one's own; behind it nothing is known but H0 and the slice. -/
theorem App.rule {P : Program} {w0 : World} {t T : TypeId} {sz bytes : Nat} {z : List Value} (ht : slt P t = some (sz, bytes, z)) (g : Option (Nat × Nat × List Value)) {n m b2 o2 cap2 : Nat} {H : Heap} (H0 : Heap) {news : List Value}
    {K : Value → Heap → Prop} (hH : ∀ p ∈ H0, p ∈ H) (hg : gsOk sz H H0 n g) (hx : rd w0 H b2 o2 (m * sz) = some news) (hc : news.all isCell = true) (hm : 0 < m) (hmax : n + m ≤ maxLen) (hby : (n + m) * bytes ≤ 140737488355328)
    (hk : ∀ b' cap' c', ¬ b' < w0.heap.size → NotIn b' H0 → n + m ≤ cap' → (n + m) * sz ≤ c'.length → c'.take ((n + m) * sz) = (gsC g).take (n * sz) ++ news →
      (∀ b cap c, g = some (b, cap, c) → n + m ≤ cap → b' = b ∧ cap' = cap) → K (.slice (some ⟨b', 0, none⟩) (n + m) cap') ((b', .cells c' (cap' * sz)) :: H0)) :
    App P w0 [t, t] T (gsV g n) (.slice (some ⟨b2, o2, none⟩) m cap2) H K := by
  obtain ⟨e, i, zv, h1, h2, h3, h4, h5, h6, h7, h8⟩ := slt_spec ht
  subst h4
  subst h5
  intro w hs
  obtain ⟨hnl, hnh⟩ := rd_has hx
  have hnews : ∀ j u, news[j]? = some u → w.cell? ((⟨b2, o2, none⟩ : Addr).add j) = some u := fun j u hj => hs.cell (hnh j u hj)
  have h63 : ((n + m : Nat) : Int) ≤ 9223372036854775807 := by simp only [maxLen] at hmax; omega
  -- a new row
  have grown : ∀ (olds : List Value) (old : Nat), olds.length = n * i.size → olds = (gsC g).take (n * i.size) → (∀ b cap c, g = some (b, cap, c) → ¬ n + m ≤ cap) →
      ∃ H', K (.slice (some ⟨w.heap.size, 0, none⟩) (n + m) (grownCap w (n + m) old e)) H' ∧
        St w0 H' (w.drew.alloc (.cells (olds.toArray ++ news.toArray ++ Builtin.zeroCells zv.cells (grownCap w (n + m) old e - (n + m))) e)) := by
    intro olds old hlo ho hng
    have hs' : St w0 H0 w := hs.sub hH
    have hfr := hs'.fresh
    have hge := grownCap_ge w (n + m) old e
    refine ⟨_, hk w.heap.size (grownCap w (n + m) old e) ((olds.toArray ++ news.toArray ++ Builtin.zeroCells zv.cells (grownCap w (n + m) old e - (n + m))).toList) (Nat.not_lt.2 hfr.1) (notIn_of hfr.2) hge ?_ ?_ (fun b cap c h1 h2 => absurd h2 (hng b cap c h1)), ?_⟩
    · simp only [Array.length_toList, Array.size_append, List.size_toArray, hlo, hnl, ← Nat.add_mul]
      omega
    · simp only [Array.toList_append, List.append_assoc]
      rw [← List.append_assoc, ← ho]
      have : (olds ++ news).length = (n + m) * i.size := by rw [List.length_append, hlo, hnl, Nat.add_mul]
      rw [← this]
      exact List.take_left
    · refine (hs'.drew (w.drawn + 1)).alloc (.cells _ e) (.cells _ _) ?_
      refine ⟨_, e, (0, 0), World.alloc_heap_new _ _, Nat.le_refl _, ?_, List.prefix_refl _⟩
      simp only [Array.size_append, List.size_toArray, size_zeroCells, h8, hlo, hnl, ← Nat.add_mul]
      congr 1
      omega
  cases g with
  | none =>
    have hn : n = 0 := hg
    subst hn
    obtain ⟨H', hk', hst⟩ := grown [] 0 (by simp) (by simp [gsC]) (fun _ _ _ h => nomatch h)
    refine ⟨_, H', _, ?_, hk', hst⟩
    have hr := run_append_nil (P := P) w t T e i zv h1 h2 h3 ⟨b2, o2, none⟩ m cap2 news hnl hnews hm (by omega) (by have := hby; simp only [Nat.zero_add] at this; omega)
    simp only [gsV, Nat.zero_add, List.append_nil, List.nil_append, Array.empty_append] at hr ⊢
    exact hr
  | some g =>
    obtain ⟨b, cap, c⟩ := g
    obtain ⟨g1, g2, g3, g4⟩ := hg
    have hmem := hget_mem g3
    by_cases hroom : n + m ≤ cap
    · have hf := run_firstCells_some (P := P) w i.size m ⟨b2, o2, none⟩ m cap2 news hnl hnews
      have hlo : (c.take (n * i.size)).length = n * i.size := by rw [List.length_take, Nat.min_eq_left g2]
      have hput : putN (c.take (n * i.size)) (cap * i.size) (n * i.size) news = some (c.take (n * i.size) ++ news) := by
        unfold putN
        have hpos : 0 < m * i.size := Nat.mul_pos hm h7
        rw [if_neg (by rw [hlo, hnl]; omega), if_pos]
        refine ⟨hlo.symm, ?_⟩
        rw [hnl, ← Nat.add_mul]
        exact Nat.mul_le_mul_right _ hroom
      have hne : news ≠ [] := by
        intro h; rw [h] at hnl
        have : 0 < m * i.size := Nat.mul_pos hm h7
        simp at hnl; omega
      have hs1 : St w0 ((b, .cells (c.take (n * i.size)) (cap * i.size)) :: H0) w := by
        refine ⟨hs.below, fun p hp => ?_, fun p hp => ?_⟩
        · rcases List.mem_cons.1 hp with rfl | hp
          · exact (hs.new _ hmem : w0.heap.size ≤ b)
          · exact hs.new p (hH p hp)
        · rcases List.mem_cons.1 hp with rfl | hp
          · obtain ⟨cs, e', fr, q1, q2, q3, q4⟩ := hs.sat _ hmem
            exact ⟨cs, e', fr, q1, q2, q3, (List.take_prefix _ _).trans q4⟩
          · exact hs.sat p (hH p hp)
      obtain ⟨_, H', w', hr, hk', hst⟩ := storeCells_run (P := P) (w0 := w0) (b := b) (o := n * i.size) (size := cap * i.size) (K := fun _ H' => H' = hset ((b, .cells (c.take (n * i.size)) (cap * i.size)) :: H0) b (.cells (c.take (n * i.size) ++ news) (cap * i.size)))
        news 0 _ (c.take (n * i.size)) _ hc (by simp [hget]) (fun h => absurd h hne) (by simpa using hput) (fun h => absurd h hne) (fun _ => rfl) w hs1
      subst hk'
      refine ⟨_, (b, .cells (c.take (n * i.size) ++ news) (cap * i.size)) :: H0, w', ?_, hk b cap _ (Nat.not_lt.2 (hs.new _ hmem)) g4 hroom ?_ ?_ (fun b' cap' c' h _ => by cases h; exact ⟨rfl, rfl⟩), hst.sub ?_⟩
      · simp [gsV, Builtin.append_, run_underlying h1, sizeOf, typeInfo, h2, Builtin.lenOf, hroom, hf, Addr.add_lit, hr]
      · rw [List.length_append, hlo, hnl, Nat.add_mul]
        exact Nat.le_refl _
      · have : (c.take (n * i.size) ++ news).length = (n + m) * i.size := by rw [List.length_append, hlo, hnl, Nat.add_mul]
        rw [← this]
        exact List.take_length
      · intro p hp
        rcases List.mem_cons.1 hp with rfl | hp
        · exact hget_mem (hset_get (y := .cells (c.take (n * i.size)) (cap * i.size)) (by simp [hget]))
        · exact hset_other_mem (List.mem_cons_of_mem _ hp) (fun h => g4.ne (k := p.1) (x := p.2) hp h)
    · have hlo : (c.take (n * i.size)).length = n * i.size := by rw [List.length_take, Nat.min_eq_left g2]
      obtain ⟨H', hk', hst⟩ := grown (c.take (n * i.size)) cap hlo rfl (fun _ _ _ h => by cases h; exact hroom)
      refine ⟨_, H', _, ?_, hk', hst⟩
      refine run_append_grow (P := P) w t T e i zv h1 h2 h3 ⟨b, 0, none⟩ n cap (c.take (n * i.size)) hlo ?_ ⟨b2, o2, none⟩ m cap2 news hnl hnews (by omega) h63 (growslice_fits (by omega) hby)
      intro j u hj
      rw [Addr.add_off]
      refine hs.cell (rd1_has ?_)
      rw [rd1_own (Nat.not_lt.2 (hs.new _ hmem)), g3]
      simp only [cellsOf, Option.bind_some, Nat.zero_add]
      rw [List.getElem?_take] at hj
      split at hj
      · exact hj
      · cases hj

/-- **make**: a slice of zeros. -/
theorem MkSl.rule {P : Program} {w0 : World} {t : TypeId} {sz bytes : Nat} {z : List Value} (ht : slt P t = some (sz, bytes, z)) {kl kc : IntKind} {l c : Int} {H : Heap} {K : Value → Heap → Prop}
    (h0 : 0 ≤ l) (hlc : l ≤ c) (hby : (bytes : Int) * c ≤ 281474976710656) (h63 : c ≤ 9223372036854775807)
    (hk : ∀ b, ¬ b < w0.heap.size → NotIn b H → K (.slice (some ⟨b, 0, none⟩) l.toNat c.toNat) ((b, .cells (madeCells z.toArray (c.toNat * sz)).toList (c.toNat * sz)) :: H)) :
    MkSl P w0 t (.int kl l) (.int kc c) H K := by
  obtain ⟨e, i, zv, h1, h2, h3, h4, h5, h6, h7, h8⟩ := slt_spec ht
  subst h4
  subst h5
  intro w hs
  have hr := run_make (P := P) w t e i zv h1 h2 h3 kl kc l c h0 hlc hby h63
  refine ⟨_, _, _, hr, hk w.heap.size (Nat.not_lt.2 hs.fresh.1) (notIn_of hs.fresh.2), ?_⟩
  have hz : zv.cells = z.toArray := by rw [← h6]
  rw [hz]
  refine hs.alloc (.cells _ e) (.cells _ _) ⟨_, e, (0, 0), World.alloc_heap_new _ _, Nat.le_refl _, ?_, List.prefix_refl _⟩
  exact size_madeCells _ _

theorem madeCells_one (v : Value) (n : Nat) : (madeCells [v].toArray n).toList = List.replicate n v := by
  unfold madeCells
  apply List.ext_getElem
  · simp
  · intro j h1 h2
    simp [Nat.mod_one]

end Go.SL
