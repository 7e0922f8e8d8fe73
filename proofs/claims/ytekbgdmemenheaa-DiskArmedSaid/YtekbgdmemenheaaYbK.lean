/-
  The abstract machine: YaCap, YaRoom, YaWide.
-/
import Derived.Test.YtekbgdmemenheaaYbI
namespace Go.Ya
set_option linter.unusedVariables false
set_option linter.unusedSimpArgs false
theorem byteCells_ints (l : List Int) : byteCells (ints l) = some l := by
  induction l with
  | nil => rfl
  | cons a l ih => show (byteCells (ints l)).map (a :: ·) = _; rw [ih]; rfl
section
variable {X : Known} {SP : FuncId → Option SFunc}
def FreshBytes (h h' : Heap) (v : AV) (bs : List Int) : Prop :=
  (v = .nilsl ∧ bs = []) ∨ bs ≠ [] ∧ ∃ id, v = .slice id 0 bs.length bs.length false 1 ∧ h.next ≤ id ∧ h'.get id = some (.cells (ints bs) false) ∧ h'.byteAt id = true
theorem FreshBytes.new {h h' : Heap} {v : AV} {bs : List Int} (hn : FreshBytes h h' v bs) : NewBytes h h' v bs := by
  rcases hn with hn | ⟨_, id, rfl, h1, h2, h3⟩
  · exact .inl hn
  · exact .inr ⟨id, bs.length, false, rfl, Nat.le_refl _, Nat.le_refl _, h1, h2, .inr h3⟩
end
end Go.Ya
namespace Go.Ya
set_option linter.unusedVariables false
set_option linter.unusedSimpArgs false
section
variable {P : Program}
theorem readBytes (arr : Array Value) (s : Nat) : ∀ k, (∀ j, s ≤ j → j < s + k → ∃ n, arr[j]? = some (.int .u8 n) ∧ wfInt .u8 n = true) → ∃ l : List Int, l.length = k ∧ ∀ i n, l[i]? = some n → arr[s + i]? = some (.int .u8 n) ∧ wfInt .u8 n = true
  | 0, _ => ⟨[], rfl, fun i n e => by simp at e⟩
  | k + 1, h => by
    obtain ⟨l, h1, h2⟩ := readBytes arr s k fun j j1 j2 => h j j1 (by omega)
    obtain ⟨n, e1, e2⟩ := h (s + k) (by omega) (by omega)
    refine ⟨l ++ [n], by simp [h1], fun i m e => ?_⟩
    by_cases hi : i < l.length
    · rw [List.getElem?_append_left hi] at e; exact h2 i m e
    · rw [List.getElem?_append_right (by omega)] at e
      have : i - l.length = 0 := by
        rcases Nat.eq_zero_or_pos (i - l.length) with h | h
        · exact h
        · rw [List.getElem?_eq_none (by simp; omega)] at e; cases e
      rw [this] at e
      simp at e
      subst e
      rw [show s + i = s + k by omega]
      exact ⟨e1, e2⟩
theorem Own.congr {μ : Mu} {g g' : Nat → Option AObj} (h : ∀ j, (g j).map AObj.owned = (g' j).map AObj.owned) {b : Nat} (ho : Own μ g b) : Own μ g' b := by
  obtain ⟨id, base, lim, o, e1, e2, e3⟩ := ho
  have := h id
  rw [e2] at this
  cases hg : g' id with
  | none => rw [hg] at this; cases this
  | some o' =>
    rw [hg] at this
    simp only [Option.map_some, Option.some.injEq] at this
    exact ⟨id, base, lim, o', e1, hg, by rw [← this]; exact e3⟩
theorem St.refine {μ : Mu} {h : Heap} {w : World} (s : St P μ h w) {id b base lim : Nat} {c : List AV} (hm : μ id = some (b, base, lim)) (hg : h.get id = some (.cells c false)) (hb : h.byteAt id = true) :
    ∃ l : List Int, base + (c.length + l.length) = lim ∧ St P μ (h.set id (.cells (c ++ ints l) false)) w := by
  obtain ⟨arr, t, fr, q1, q2, q3, q4, q5⟩ := s.r.obj id b base lim _ hm hg
  obtain ⟨arr2, t2, fr2, p1, p2⟩ := s.mkd id hb b base lim c false hm hg
  rw [q1] at p1; cases p1
  have hid := Heap.lt_of_get hg
  obtain ⟨l, l1, l2⟩ := readBytes arr (base + c.length) (lim - (base + c.length)) fun j j1 j2 => p2 j j1 (by omega)
  have hw := s.r.write (w' := w) hm hg rfl (o' := .cells (c ++ ints l) false) rfl rfl rfl rfl rfl (fun _ _ => rfl)
    ⟨arr, t, fr, q1, q2, by simp; omega, fun j a ha => by
      by_cases hj : j < c.length
      · rw [List.getElem?_append_left hj] at ha; exact q4 j a ha
      · rw [List.getElem?_append_right (by omega)] at ha
        simp only [ints, List.getElem?_map, Option.map_eq_some_iff] at ha
        obtain ⟨n, e1, rfl⟩ := ha
        obtain ⟨e2, e3⟩ := l2 _ _ e1
        exact ⟨_, by rw [show base + j = base + c.length + (j - c.length) by omega]; exact e2, .int _ _ e3, rfl⟩, q5⟩
  refine ⟨l, by omega, ⟨hw.1, s.bd, fun j e b1 base1 lim1 c' ro' m g => ?_, s.tb.fr hw.2⟩⟩
  have e' := Heap.byteAt_set hid rfl e
  rw [Heap.get_set _ _ _ _ hid] at g
  by_cases hj : j = id
  · subst hj
    rw [if_pos rfl] at g
    cases g
    rw [hm] at m
    cases m
    exact ⟨arr, t, fr, q1, fun j j1 j2 => by simp at j1; omega⟩
  · rw [if_neg hj] at g
    exact s.mkd j e' b1 base1 lim1 c' ro' m g
end
end Go.Ya
namespace Go.Ya
set_option linter.unusedVariables false
set_option linter.unusedSimpArgs false
def WideAt (h : Heap) (w : Nat) (bs : List Int) : Prop := h.get w = some (.cells (ints (bs ++ [9, 9, 9])) false) ∧ h.byteAt w = true
theorem WideAt.at {h : Heap} {w : Nat} {bs : List Int} (hw : WideAt h w bs) : BytesAt h (.slice w 0 bs.length (bs.length + 3) false 1) bs :=
  .inr ⟨w, 0, _, false, _, _, rfl, by omega, hw.1, by simp, by simp [ints]⟩
theorem WideAt.keep {h h' : Heap} {w : Nat} {bs : List Int} (hw : WideAt h w bs) (h1 : h'.get w = h.get w) (h2 : h'.get (w + 1) = h.get (w + 1)) : WideAt h' w bs :=
  ⟨h1.trans hw.1, by rw [Heap.byteAt_of h2]; exact hw.2⟩
theorem WideAt.grow {h h' : Heap} {w : Nat} {bs : List Int} (hw : WideAt h w bs) (g : Grow h h') : WideAt h' w bs := ⟨g.get hw.1, g.byteAt hw.2⟩
section
variable {X : Known} {SP : FuncId → Option SFunc}
end
end Go.Ya
