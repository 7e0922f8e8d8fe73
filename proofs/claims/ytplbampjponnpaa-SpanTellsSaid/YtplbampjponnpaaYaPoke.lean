/-
  A cell of one's own slice, written.
-/
import Derived.Test.YtplbampjponnpaaYaAuto
namespace Go.Ya
set_option linter.unusedVariables false
set_option linter.unusedSimpArgs false

theorem splice_one {c : List AV} {off : Nat} {v : AV} (h : off < c.length) : splice c off [v] = c.set off v := by
  unfold splice
  rw [List.set_eq_take_append_cons_drop, if_pos h]
  simp
theorem rows_set {esz k : Nat} {v : AV} {rest : List AV} (hk : k < esz) : ∀ {rows : List (List AV)} {i : Nat}, (∀ r ∈ rows, r.length = esz) → i < rows.length →
    (rows.flatten ++ rest).set (i * esz + k) v = (rows.set i ((rows.getD i []).set k v)).flatten ++ rest
  | [], i, _, hi => by simp at hi
  | r :: rows, 0, hr, _ => by
    have := hr r List.mem_cons_self
    simp only [List.flatten_cons, Nat.zero_mul, Nat.zero_add, List.set_cons_zero, List.getD_cons_zero, List.append_assoc]
    rw [List.set_append_left _ _ (by omega)]
  | r :: rows, i + 1, hr, hi => by
    have hl := hr r List.mem_cons_self
    have ih := rows_set (v := v) (rest := rest) hk (fun r hr' => hr r (List.mem_cons_of_mem _ hr')) (i := i) (by simpa using hi)
    simp only [List.flatten_cons, List.set_cons_succ, List.getD_cons_succ, List.append_assoc]
    rw [List.set_append_right _ _ (by rw [Nat.succ_mul]; omega), show (i + 1) * esz + k - r.length = i * esz + k by rw [Nat.succ_mul]; omega, ih]
/-- One's own slice that has a row i: its block, what stands there, and the slice behind a write of a cell. -/
theorem Mine.poke {esz n : Nat} {h : Heap} {sl : AV} {rows : List (List AV)} (o : Mine esz n h sl rows) {i : Nat} (hi : i < rows.length) :
    ∃ b cap c, sl = .slice b 0 rows.length cap false esz ∧ n ≤ b ∧ b < h.next ∧ h.get b = some (.cells c false) ∧ rows.length * esz ≤ c.length ∧ (∀ j k, j < rows.length → k < esz → c[j * esz + k]? = (rows.getD j [])[k]?) ∧
      ∀ k v, k < esz → Mine esz n (h.set b (.cells (splice c (i * esz + k) [v]) false)) sl (rows.set i ((rows.getD i []).set k v)) := by
  obtain ⟨h1, h2⟩ := o
  rcases h2 with ⟨_, rfl⟩ | ⟨b, q1, q2, s1, s2⟩
  · simp at hi
  rcases s2 with ⟨_, rfl⟩ | ⟨cap, rest, e1, e2, e3, e4⟩
  · simp at hi
  have hl := rows_len h1
  have hc : ∀ j k, j < rows.length → k < esz → (rows.flatten ++ rest)[j * esz + k]? = (rows.getD j [])[k]? := fun j k hj hk => by
    have := row_cells (c := rows.flatten ++ rest) (off := 0) h1 (by rw [List.drop_zero, ← hl, List.take_left]) hj
    rw [List.getD_eq_getElem?_getD, List.getElem?_eq_getElem hj, Option.getD_some, ← this, List.getElem?_take, if_pos hk, List.getElem?_drop, Nat.zero_add]
  have hle : i * esz + esz ≤ rows.length * esz := by
    have := Nat.mul_le_mul_right esz (show i + 1 ≤ rows.length by omega)
    rwa [Nat.succ_mul] at this
  refine ⟨b, cap, _, e1, q1, q2, e3, by rw [List.length_append, hl]; omega, hc, fun k v hk => ?_⟩
  have hall : ∀ r ∈ rows.set i ((rows.getD i []).set k v), r.length = esz := fun r hr => by
    rcases List.mem_or_eq_of_mem_set hr with hr | rfl
    · exact h1 r hr
    · rw [List.length_set, List.getD_eq_getElem?_getD, List.getElem?_eq_getElem hi]
      exact h1 _ (List.getElem_mem hi)
  have hlen : i * esz + k < (rows.flatten ++ rest).length := by rw [List.length_append, hl]; omega
  refine ⟨hall, .inr ⟨b, q1, by simpa using q2, hall, .inr ⟨cap, rest, by simpa using e1, by simpa using e2, ?_, ?_⟩⟩⟩
  · rw [get_set, if_pos rfl, if_pos q2, splice_one hlen, rows_set hk h1 hi]
  · rw [← rows_set hk h1 hi, List.length_set, e4]
end Go.Ya
