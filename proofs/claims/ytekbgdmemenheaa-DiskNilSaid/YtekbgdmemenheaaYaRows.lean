/-
  Slices of rows (structs): appending one, reading one.
-/
import Derived.Test.YtekbgdmemenheaaYaSim
namespace Go.Ya
set_option linter.unusedVariables false
set_option linter.unusedSimpArgs false

/-- A slice of the machine's own of just these rows, each of esz cells, in block b. -/
def ShAt (esz : Nat) (h : Heap) (sl : AV) (b : Nat) (rows : List (List AV)) : Prop :=
  (∀ r ∈ rows, r.length = esz) ∧ ((sl = .nilsl ∧ rows = []) ∨ ∃ cap rest, sl = .slice b 0 rows.length cap false esz ∧ rows.length ≤ cap ∧ h.get b = some (.cells (rows.flatten ++ rest) false) ∧ (rows.flatten ++ rest).length = cap * esz)

theorem rows_len {esz : Nat} : ∀ {rows : List (List AV)}, (∀ r ∈ rows, r.length = esz) → rows.flatten.length = rows.length * esz
  | [], _ => by simp
  | r :: rows, h => by
    have h1 := h r (List.mem_cons_self)
    have h2 := rows_len fun r hr => h r (List.mem_cons_of_mem _ hr)
    simp only [List.flatten_cons, List.length_append, List.length_cons, h1, h2, Nat.succ_mul]; omega
theorem ShAt.keep {esz : Nat} {h h' : Heap} {sl : AV} {b : Nat} {rows : List (List AV)} (hs : ShAt esz h sl b rows) (hg : ∀ o, h.get b = some o → h'.get b = some o) : ShAt esz h' sl b rows := by
  obtain ⟨h1, h2⟩ := hs
  refine ⟨h1, h2.imp (fun e => e) fun ⟨cap, rest, e1, e2, e3, e4⟩ => ⟨cap, rest, e1, e2, hg _ e3, e4⟩⟩
theorem ShAt.flat {esz : Nat} {h : Heap} {sl : AV} {b : Nat} {rows : List (List AV)} (hs : ShAt esz h sl b rows) : sl.flat = true := by
  rcases hs.2 with ⟨rfl, _⟩ | ⟨cap, rest, rfl, _⟩ <;> rfl
theorem ShAt.len {esz : Nat} {h : Heap} {sl : AV} {b : Nat} {rows : List (List AV)} (hs : ShAt esz h sl b rows) (call : Tgt → List AV → Heap → AR) (tm : List AV) : aop call tm h (.len .sl (.c sl)) = some (.int .i64 rows.length, h) := by
  rcases hs.2 with ⟨rfl, rfl⟩ | ⟨cap, rest, rfl, _⟩ <;> rfl

/-- A row, read. -/
theorem ShAt.load {esz : Nat} {h : Heap} {sl : AV} {b : Nat} {rows : List (List AV)} (hs : ShAt esz h sl b rows) {i : Nat} {row : List AV} (hi : rows[i]? = some row) :
    ∃ cap, sl = .slice b 0 rows.length cap false esz ∧ loadA h true esz b (i * esz) = some (.agg row) ∧ (∀ k v, row[k]? = some v → loadA h false 1 b (i * esz + k) = some v) ∧ i < rows.length := by
  obtain ⟨h1, h2⟩ := hs
  have hlt : i < rows.length := by
    rcases Nat.lt_or_ge i rows.length with h | h
    · exact h
    · rw [List.getElem?_eq_none h] at hi; cases hi
  rcases h2 with ⟨_, rfl⟩ | ⟨cap, rest, rfl, e2, e3, e4⟩
  · simp at hi
  · have hsp : rows = rows.take i ++ row :: rows.drop (i + 1) := by
      have hr : rows[i] = row := by rw [List.getElem?_eq_getElem hlt] at hi; exact Option.some.inj hi
      rw [← hr, ← List.drop_eq_getElem_cons hlt, List.take_append_drop]
    have ht : (rows.take i).flatten.length = i * esz := by
      rw [rows_len (fun r hr => h1 r (List.mem_of_mem_take hr)), List.length_take, Nat.min_eq_left (by omega)]
    have hrl : row.length = esz := h1 row (List.mem_of_getElem? hi)
    have hc : rows.flatten ++ rest = (rows.take i).flatten ++ (row ++ ((rows.drop (i + 1)).flatten ++ rest)) := by
      conv => lhs; rw [hsp]
      simp
    refine ⟨cap, rfl, ?_, fun k v hk => ?_, hlt⟩
    · have hle : i * esz + esz ≤ (rows.flatten ++ rest).length := by rw [hc]; simp only [List.length_append, ht, hrl]; omega
      simp only [loadA, e3, hle, if_true]
      rw [hc, ← ht, List.drop_left, ← hrl, List.take_left]
    · rw [load_of e3, hc, List.getElem?_append_right (by omega), ht]
      have : k < row.length := by
        rcases Nat.lt_or_ge k row.length with h | h
        · exact h
        · rw [List.getElem?_eq_none h] at hk; cases hk
      rw [show i * esz + k - i * esz = k by omega, List.getElem?_append_left this]
      exact hk

/-- A row, appended. -/
theorem ShAt.append {esz bytes : Nat} {h : Heap} {sl : AV} {b : Nat} {rows : List (List AV)} (hs : ShAt esz h sl b rows) {y : AV} {row : List AV} (hy : lenA y = some 1) (hf : firstA h esz 1 y = some row) (hrl : row.length = esz)
    (hsz : (rows.length + 1) * bytes ≤ 140737488355328 ∧ rows.length + 1 ≤ 140737488355328) :
    ∃ sl' h' b', appendA h esz bytes sl y = some (sl', h') ∧ ShAt esz h' sl' b' (rows ++ [row]) ∧ sl'.flat = true ∧ h.next ≤ h'.next ∧ (∀ j, j < h.next → j ≠ b → h'.get j = h.get j) ∧ (b' = b ∨ h.next ≤ b') ∧ b' < h'.next := by
  obtain ⟨h1, h2⟩ := hs
  have hall : ∀ r ∈ rows ++ [row], r.length = esz := by
    intro r hr
    rcases List.mem_append.1 hr with hr | hr
    · exact h1 r hr
    · simp at hr; subst hr; exact hrl
  have hfl := rows_len h1
  rcases h2 with ⟨rfl, rfl⟩ | ⟨cap, rest, rfl, e2, e3, e4⟩
  · simp only [List.length_nil, Nat.zero_add, Nat.one_mul] at hsz
    refine ⟨.slice h.next 0 1 1 false esz, (h.alloc (.cells row false)).note (decide (esz = 1 ∧ bytes = 1)) h.next, h.next, ?_, ⟨hall, .inr ⟨1, [], rfl, Nat.le_refl _, ?_, by simp [hrl]⟩⟩, rfl, ?_, ?_, .inr (Nat.le_refl _), ?_⟩
    · simp only [appendA, hy, hf, Nat.one_ne_zero, if_false]
      rw [if_pos (by omega)]
    · exact (Grow.note _ _ _).get (by rw [Heap.get_alloc, if_pos rfl]; simp)
    · exact ((Grow.alloc _ _).trans (Grow.note _ _ _)).1
    · exact fun j hj _ => ((Grow.alloc _ _).trans (Grow.note _ _ _)).2 j hj
    · exact Nat.lt_of_lt_of_le (by simp) (Grow.note _ _ _).1
  · have hb := Heap.lt_of_get e3
    rw [List.length_append, hfl] at e4
    by_cases hcap : rows.length + 1 ≤ cap
    · have hm : (rows.length + 1) * esz ≤ cap * esz := Nat.mul_le_mul_right _ hcap
      have hm2 : (rows.length + 1) * esz = rows.length * esz + esz := Nat.succ_mul _ _
      have hst := store_of (vs := row) (off := rows.length * esz) e3 (by rw [List.length_append, hfl]; omega)
      have hsp : splice (rows.flatten ++ rest) (rows.length * esz) row = (rows ++ [row]).flatten ++ rest.drop esz := by
        unfold splice
        rw [← hfl, List.take_left, List.drop_append, List.drop_eq_nil_of_le (by omega)]
        simp [hrl]
      rw [hsp] at hst
      refine ⟨.slice b 0 (rows.length + 1) cap false esz, h.set b (.cells ((rows ++ [row]).flatten ++ rest.drop esz) false), b, ?_, ⟨hall, .inr ⟨cap, rest.drop esz, by simp, by simpa using hcap, ?_, ?_⟩⟩, rfl, by simp, ?_, .inl rfl, by simpa using hb⟩
      · simp only [appendA, hy, hf, if_true, hcap, Nat.zero_add, hst]
      · rw [get_set, if_pos rfl, if_pos hb]
      · rw [List.length_append, rows_len hall, List.length_append, List.length_drop]
        simp only [List.length_cons, List.length_nil, Nat.zero_add]
        omega
      · intro j _ hj; rw [get_set, if_neg hj]
    · have hle : 0 + rows.length * esz ≤ (rows.flatten ++ rest).length := by rw [List.length_append, hfl]; omega
      have htk : ((rows.flatten ++ rest).drop 0).take (rows.length * esz) = rows.flatten := by rw [List.drop_zero, ← hfl, List.take_left]
      generalize hbt : (decide (esz = 1 ∧ bytes = 1) && h.byteAt b && decide ((rows.flatten ++ rest).length ≤ 0 + (rows.length + 1))) = bt
      refine ⟨.slice h.next 0 (rows.length + 1) (rows.length + 1) false esz, ((h.alloc (.cells ((rows ++ [row]).flatten) false)).set b .dead).note bt h.next, h.next, ?_, ⟨hall, .inr ⟨rows.length + 1, [], by simp, by simp, ?_, ?_⟩⟩, rfl, ?_, ?_, .inr (Nat.le_refl _), ?_⟩
      · simp only [appendA, hy, hf, if_true, hcap, if_false, hsz, and_self, e3, hle, Bool.false_eq_true, htk, hbt]
        simp
      · refine (Grow.note _ _ _).get ?_
        rw [get_set, if_neg (by omega), Heap.get_alloc, if_pos rfl, List.append_nil]
      · rw [List.append_nil, rows_len hall]; simp
      · exact Nat.le_trans (by simp) (Grow.note _ _ _).1
      · intro j hj hjb
        rw [(Grow.note _ _ _).2 j (by simp; omega), get_set, if_neg hjb, Heap.get_alloc, if_neg (by omega)]
      · exact Nat.lt_of_lt_of_le (by simp) (Grow.note _ _ _).1
end Go.Ya
