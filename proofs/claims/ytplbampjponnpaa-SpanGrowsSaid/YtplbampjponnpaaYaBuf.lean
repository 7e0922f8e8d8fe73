/-
  Slices of bytes that grow.
-/
import Derived.Test.YtplbampjponnpaaYaRows
namespace Go.Ya
set_option linter.unusedVariables false
set_option linter.unusedSimpArgs false

/-- A slice of the machine's own of just these bytes, in block b. -/
def BufAt (h : Heap) (sl : AV) (b : Nat) (bs : List Int) : Prop :=
  (sl = .nilsl ∧ bs = []) ∨ ∃ cap rest, sl = .slice b 0 bs.length cap false 1 ∧ bs.length ≤ cap ∧ h.get b = some (.cells (ints bs ++ rest) false) ∧ (ints bs ++ rest).length = cap
theorem BufAt.at {h : Heap} {sl : AV} {b : Nat} {bs : List Int} (hb : BufAt h sl b bs) : BytesAt h sl bs := by
  rcases hb with hb | ⟨cap, rest, e1, e2, e3, e4⟩
  · exact .inl hb
  · exact .inr ⟨b, 0, cap, false, _, _, e1, e2, e3, by simp, by rw [List.drop_zero, ← ints_len bs, List.take_left]⟩
theorem BufAt.keep {h h' : Heap} {sl : AV} {b : Nat} {bs : List Int} (hs : BufAt h sl b bs) (hg : ∀ o, h.get b = some o → h'.get b = some o) : BufAt h' sl b bs :=
  hs.imp (fun e => e) fun ⟨cap, rest, e1, e2, e3, e4⟩ => ⟨cap, rest, e1, e2, hg _ e3, e4⟩
theorem BufAt.flat {h : Heap} {sl : AV} {b : Nat} {bs : List Int} (hs : BufAt h sl b bs) : sl.flat = true := by
  rcases hs with ⟨rfl, _⟩ | ⟨cap, rest, rfl, _⟩ <;> rfl
theorem FreshBytes.buf {h h' : Heap} {v : AV} {bs : List Int} (hn : FreshBytes h h' v bs) : ∃ b, BufAt h' v b bs ∧ (v ≠ .nilsl → h.next ≤ b ∧ b < h'.next) := by
  rcases hn with hn | ⟨_, id, rfl, h1, h2, h3⟩
  · exact ⟨0, .inl hn, fun e => absurd hn.1 e⟩
  · exact ⟨id, .inr ⟨bs.length, [], rfl, Nat.le_refl _, by simpa using h2, by simp⟩, fun _ => ⟨h1, Heap.lt_of_get h2⟩⟩

/-- Bytes, appended. -/
theorem BufAt.append {h : Heap} {sl : AV} {b : Nat} {bs ys : List Int} (hs : BufAt h sl b bs) {y : AV} (hy : BytesAt h y ys) (hsz : bs.length + ys.length ≤ 140737488355328) :
    ∃ sl' h' b', appendA h 1 1 sl y = some (sl', h') ∧ BufAt h' sl' b' (bs ++ ys) ∧ h.next ≤ h'.next ∧ (∀ j, j < h.next → (sl = .nilsl ∨ j ≠ b) → h'.get j = h.get j) ∧ (sl' ≠ .nilsl → (sl ≠ .nilsl ∧ b' = b) ∨ h.next ≤ b') ∧ (sl' ≠ .nilsl → b' < h'.next) := by
  have hl := hy.lenA
  have hf := hy.first
  rcases hs with ⟨rfl, rfl⟩ | ⟨cap, rest, rfl, e2, e3, e4⟩
  · by_cases hz : ys.length = 0
    · have : ys = [] := List.eq_nil_of_length_eq_zero hz
      subst this
      refine ⟨.nilsl, h, 0, ?_, .inl ⟨rfl, rfl⟩, Nat.le_refl _, fun _ _ _ => rfl, fun e => absurd rfl e, fun e => absurd rfl e⟩
      simp only [appendA, hl, hf]; rfl
    · simp only [List.length_nil, Nat.zero_add] at hsz
      refine ⟨.slice h.next 0 ys.length ys.length false 1, (h.alloc (.cells (ints ys) false)).note true h.next, h.next, ?_, .inr ⟨ys.length, [], by simp, by simp, (Grow.note _ _ _).get (by rw [Heap.get_alloc, if_pos rfl]; simp), by simp⟩, ((Grow.alloc _ _).trans (Grow.note _ _ _)).1, fun j hj _ => ((Grow.alloc _ _).trans (Grow.note _ _ _)).2 j hj, fun _ => .inr (Nat.le_refl _), fun _ => Nat.lt_of_lt_of_le (by simp) (Grow.note _ _ _).1⟩
      simp only [appendA, hl, hf]
      rw [if_neg hz, if_pos (by omega)]
      simp
  · have hb := Heap.lt_of_get e3
    rw [List.length_append, ints_len] at e4
    by_cases hcap : bs.length + ys.length ≤ cap
    · have hst := store_of (vs := ints ys) (off := bs.length) e3 (by rw [List.length_append, ints_len, ints_len]; omega)
      have hsp : splice (ints bs ++ rest) bs.length (ints ys) = ints (bs ++ ys) ++ rest.drop ys.length := by
        unfold splice
        have h1 : (ints bs ++ rest).take bs.length = ints bs := by rw [← ints_len bs, List.take_left]
        have h2 : (ints bs ++ rest).drop (bs.length + (ints ys).length) = rest.drop ys.length := by
          rw [ints_len, ← List.drop_drop, ← ints_len bs, List.drop_left]
        rw [h1, h2]; simp [ints]
      rw [hsp] at hst
      refine ⟨.slice b 0 (bs.length + ys.length) cap false 1, h.set b (.cells (ints (bs ++ ys) ++ rest.drop ys.length) false), b, ?_, .inr ⟨cap, rest.drop ys.length, by simp, by simpa using hcap, by rw [get_set, if_pos rfl, if_pos hb], ?_⟩, by simp, ?_, fun _ => .inl ⟨by simp, rfl⟩, fun _ => by simpa using hb⟩
      · simp only [appendA, hl, hf, if_true, hcap, Nat.zero_add, Nat.mul_one, hst]
      · rw [List.length_append, ints_len, List.length_append, List.length_drop]; omega
      · intro j _ hj
        rw [get_set, if_neg (hj.resolve_left (by simp))]
    · have hle : 0 + bs.length * 1 ≤ (ints bs ++ rest).length := by rw [List.length_append, ints_len]; omega
      have htk : ((ints bs ++ rest).drop 0).take (bs.length * 1) = ints bs := by rw [List.drop_zero, Nat.mul_one, ← ints_len bs, List.take_left]
      have hsz2 : (bs.length + ys.length) * 1 ≤ 140737488355328 ∧ bs.length + ys.length ≤ 140737488355328 := ⟨by omega, hsz⟩
      generalize hbt : (decide ((1 : Nat) = 1 ∧ (1 : Nat) = 1) && h.byteAt b && decide ((ints bs ++ rest).length ≤ 0 + (bs.length + ys.length))) = bt
      refine ⟨.slice h.next 0 (bs.length + ys.length) (bs.length + ys.length) false 1, ((h.alloc (.cells (ints bs ++ ints ys) false)).set b .dead).note bt h.next, h.next, ?_, .inr ⟨bs.length + ys.length, [], by simp, by simp, (Grow.note _ _ _).get ?_, by simp⟩, Nat.le_trans (by simp) (Grow.note _ _ _).1, ?_, fun _ => .inr (Nat.le_refl _), fun _ => Nat.lt_of_lt_of_le (by simp) (Grow.note _ _ _).1⟩
      · simp only [appendA, hl, hf, if_true, hcap, if_false, hsz2, and_self, e3, hle, Bool.false_eq_true, htk]
        rw [← hbt]; simp
      · rw [get_set, if_neg (by omega), Heap.get_alloc, if_pos rfl]; simp [ints]
      · intro j hj hjb
        rw [(Grow.note _ _ _).2 j (by simp; omega), get_set, if_neg (hjb.resolve_left (by simp)), Heap.get_alloc, if_neg (by omega)]
end Go.Ya
