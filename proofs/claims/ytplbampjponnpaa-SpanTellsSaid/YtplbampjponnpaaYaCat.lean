/-
  Appending a whole slice to a literal one.
-/
import Derived.Test.YtplbampjponnpaaYaIter2
namespace Go.Ya
set_option linter.unusedVariables false
set_option linter.unusedSimpArgs false

theorem cat_lit {esz bytes : Nat} {h : Heap} {id m : Nat} {c : List AV} {y : AV} {rows : List (List AV)} (hg : h.get id = some (.cells c false)) (hc : c.length = m * esz) (hy : Rd esz h y rows) (hsz : (m + rows.length) * bytes ≤ 140737488355328 ∧ m + rows.length ≤ 140737488355328) :
    ∃ v h' b cap ex, appendA h esz bytes (.slice id 0 m m true esz) y = some (v, h') ∧ Grow h h' ∧ v = .slice b 0 (m + rows.length) cap ex esz ∧ (b = id ∨ h.next ≤ b) ∧ b < h'.next ∧ h'.get b = some (.cells (c ++ rows.flatten) false) := by
  have hid := Heap.lt_of_get hg
  have h1 := hy.lenA
  have h2 := hy.first
  by_cases hn : rows.length = 0
  · have hr : rows = [] := List.eq_nil_of_length_eq_zero hn
    subst hr
    rw [List.length_nil, List.flatten_nil] at h2
    rw [List.length_nil] at h1
    have hst := store_of (vs := []) (off := m * esz) hg (by simp; omega)
    have hsp : splice c (m * esz) [] = c := by simp [splice]
    rw [hsp] at hst
    refine ⟨.slice id 0 m m true esz, h.set id (.cells c false), id, m, true, ?_, ⟨by simp, fun j hj => ?_⟩, by simp, .inl rfl, by simpa using hid, ?_⟩
    · simp only [appendA, h1, h2, if_true, List.length_nil, Nat.add_zero, Nat.le_refl, Nat.zero_add, List.flatten_nil, hst]
    · rw [get_set]
      by_cases e : j = id
      · subst e; rw [if_pos rfl, if_pos hid, hg]
      · rw [if_neg e]
    · rw [get_set, if_pos rfl, if_pos hid]; simp
  · have hle : 0 + m * esz ≤ c.length := by omega
    have htk : (c.drop 0).take (m * esz) = c := by rw [List.drop_zero, ← hc, List.take_length]
    have hnc : ¬ m + rows.length ≤ m := by omega
    refine ⟨.slice h.next 0 (m + rows.length) (m + rows.length) false esz, (h.alloc (.cells (c ++ rows.flatten) false)).note (decide (esz = 1 ∧ bytes = 1)) h.next, h.next, m + rows.length, false, ?_, (Grow.alloc _ _).trans (Grow.note _ _ _), rfl, .inr (Nat.le_refl _), Nat.lt_of_lt_of_le (by simp) (Grow.note _ _ _).1, (Grow.note _ _ _).get (ga_new rfl)⟩
    simp only [appendA, h1, h2, if_true, hnc, if_false, hsz, and_self, hg, hle, htk]
theorem map_flatten {α : Type} (f : α → List AV) (l m : List α) : (l.map f).flatten ++ (m.map f).flatten = ((l ++ m).map f).flatten := by simp
/-- The same, of rows that are told. -/
theorem cat_rd {α : Type} {esz bytes : Nat} {enc : α → List AV} {h : Heap} {id : Nat} {l m : List α} {y : AV} (he : ∀ a, (enc a).length = esz) (hg : h.get id = some (.cells (l.map enc).flatten false)) (hy : Rd esz h y (m.map enc)) (hsz : (l.length + m.length) * bytes ≤ 140737488355328 ∧ l.length + m.length ≤ 140737488355328) :
    ∃ v h', appendA h esz bytes (.slice id 0 l.length l.length true esz) y = some (v, h') ∧ Grow h h' ∧ v.flat = true ∧ Rd esz h' v ((l ++ m).map enc) ∧ (∀ j, slB v j → j = id ∨ h.next ≤ j) := by
  have hc : (l.map enc).flatten.length = l.length * esz := by
    have := rows_len (rows := l.map enc) (esz := esz) fun r hr => by obtain ⟨a, _, rfl⟩ := List.mem_map.1 hr; exact he a
    simpa using this
  obtain ⟨v, h', b, cap, ex, e1, e2, e3, e4, e5, e6⟩ := cat_lit (bytes := bytes) hg hc hy (by simpa using hsz)
  rw [map_flatten, ] at e6
  have hr := Rd.of_cells (cap := cap) (ex := ex) he e6
  refine ⟨v, h', e1, e2, by rw [e3]; rfl, ?_, fun j ⟨o, n, c, e, z, hs⟩ => ?_⟩
  · rw [e3]
    simpa using hr
  · rw [e3] at hs; cases hs; exact e4
end Go.Ya
