/-
  Tables: what changes make of them, what makes one another one: the plain law (no program).
-/
import Derived.Test.YtbcmdlaffjmfdaaYaBatPure
import Derived.Test.YtbcmdlaffjmfdaaYbL
namespace Go.Ya.Bat
open Go.Ya
set_option linter.unusedVariables false
set_option linter.unusedSimpArgs false

/-- Do keys rise behind a key? -/
def Up : Bs → List En → Prop
  | _, [] => True
  | last, x :: l => lessA last x.key = true ∧ Up x.key l
theorem up_of_may : ∀ {l : List En} {last : Bs}, mayG last l = true → Up last l
  | [], _, _ => trivial
  | x :: l, last, h => by
    simp only [mayG, Bool.and_eq_true, decide_eq_true_eq] at h
    exact ⟨h.1.2, up_of_may h.2⟩
theorem Up.less {a b : Bs} (h : lessA a b = true) : ∀ {l : List En}, Up b l → Up a l
  | [], _ => trivial
  | x :: l, ⟨h1, h2⟩ => ⟨less_trans h h1, h2⟩
theorem Up.all : ∀ {l : List En} {last : Bs}, Up last l → ∀ x ∈ l, lessA last x.key = true
  | [], _, _, x, hx => nomatch hx
  | y :: l, last, ⟨h1, h2⟩, x, hx => by
    rcases List.mem_cons.1 hx with rfl | hx
    · exact h1
    · exact less_trans h1 (Up.all h2 x hx)

def rowOf (y : En) : List En := if y.gone = true then [] else [⟨y.key, y.val, false⟩]
/-- A table with changes done. -/
def applyP : List En → List En → List En
  | t, [] => t
  | [], y :: l => rowOf y ++ applyP [] l
  | x :: t, y :: l => if lessA x.key y.key = true then x :: applyP t (y :: l) else if lessA y.key x.key = true then rowOf y ++ applyP (x :: t) l else rowOf y ++ applyP t l
termination_by t l => t.length + l.length
theorem apply_nil (t : List En) : applyP t [] = t := by cases t <;> rw [applyP]
theorem apply_nl (y : En) (l : List En) : applyP [] (y :: l) = rowOf y ++ applyP [] l := by rw [applyP]
theorem apply_lt {x y : En} {t l : List En} (h : lessA x.key y.key = true) : applyP (x :: t) (y :: l) = x :: applyP t (y :: l) := by rw [applyP, if_pos h]
theorem apply_gt {x y : En} {t l : List En} (h : lessA y.key x.key = true) : applyP (x :: t) (y :: l) = rowOf y ++ applyP (x :: t) l := by rw [applyP, if_neg (by rw [less_asymm h]; decide), if_pos h]
theorem apply_eq {x y : En} {t l : List En} (h : x.key = y.key) : applyP (x :: t) (y :: l) = rowOf y ++ applyP t l := by
  rw [applyP, if_neg (by rw [h, less_irrefl]; decide), if_neg (by rw [h, less_irrefl]; decide)]
/-- A row that is ahead of all changes stays. -/
theorem apply_row {x : En} {t : List En} : ∀ {l : List En}, Up x.key l → applyP (x :: t) l = x :: applyP t l
  | [], _ => by rw [apply_nil, apply_nil]
  | y :: l, ⟨h, _⟩ => apply_lt h
theorem rowOf_row {y : En} {t l : List En} (h : Up y.key l) : applyP (rowOf y ++ t) l = rowOf y ++ applyP t l := by
  unfold rowOf
  split
  · rfl
  · exact apply_row (x := ⟨y.key, y.val, false⟩) h
/-- One change, then the others. -/
theorem apply_step (y : En) (l : List En) (hl : Up y.key l) : ∀ t : List En, applyP (applyP t [y]) l = applyP t (y :: l)
  | [] => by rw [apply_nl, apply_nl, apply_nil, rowOf_row hl]
  | x :: t => by
    rcases less_tri x.key y.key with h | h | h
    · rw [apply_lt h, apply_lt h, apply_row (Up.less h hl), apply_step y l hl t]
    · rw [apply_eq h, apply_eq h, apply_nil, rowOf_row hl]
    · rw [apply_gt h, apply_gt h, apply_nil, rowOf_row hl]
/-- Without a key; with a row where it belongs. -/
def withoutP (t : List En) (k : Bs) : List En := t.filter fun x => decide (x.key ≠ k)
def withP (t : List En) (x : En) : List En := t.filter (fun y => lessA y.key x.key) ++ x :: t.filter (fun y => !lessA y.key x.key)
def stepP (t : List En) (y : En) : List En := if y.gone = true then withoutP t y.key else withP (withoutP t y.key) ⟨y.key, y.val, false⟩
theorem filter_all {p : En → Bool} {l : List En} (h : ∀ x ∈ l, p x = true) : l.filter p = l := List.filter_eq_self.2 h
theorem filter_none {p : En → Bool} {l : List En} (h : ∀ x ∈ l, p x = false) : l.filter p = [] := List.filter_eq_nil_iff.2 fun x hx => by rw [h x hx]; decide
theorem step_eq (y : En) : ∀ {t : List En} {last : Bs}, Up last t → stepP t y = applyP t [y]
  | [], _, _ => by
    rw [apply_nl, apply_nil]
    unfold stepP rowOf withoutP withP
    split <;> rfl
  | x :: t, last, ⟨_, ht⟩ => by
    have hall := ht.all
    rcases less_tri x.key y.key with h | h | h
    · have hne : decide (x.key ≠ y.key) = true := by simpa using less_ne h
      rw [apply_lt h, ← step_eq y ht]
      unfold stepP withoutP withP
      rw [List.filter_cons, if_pos hne]
      split
      · rfl
      · simp only [List.filter_cons, h, if_true, Bool.not_true, Bool.false_eq_true, if_false, List.cons_append]
    · have e1 : decide (x.key ≠ y.key) = false := by simpa using h
      have ha : ∀ z ∈ t, decide (z.key ≠ y.key) = true := fun z hz => by
        have := less_ne (hall z hz)
        rw [h] at this
        simpa using fun e => this e.symm
      have hb : ∀ z ∈ t, lessA z.key y.key = false := fun z hz => by rw [← h]; exact less_asymm (hall z hz)
      rw [apply_eq h, apply_nil]
      unfold stepP withoutP withP rowOf
      rw [List.filter_cons, e1, filter_all ha]
      split
      · rfl
      · simp only [Bool.false_eq_true, if_false]
        rw [filter_none hb, filter_all (fun z hz => by rw [hb z hz]; rfl)]; rfl
    · have hne : decide (x.key ≠ y.key) = true := by simpa using fun e => less_ne h e.symm
      have ha : ∀ z ∈ x :: t, decide (z.key ≠ y.key) = true := fun z hz => by
        rcases List.mem_cons.1 hz with rfl | hz
        · exact hne
        · have := less_ne (less_trans h (hall z hz))
          simpa using fun e => this e.symm
      have hb : ∀ z ∈ x :: t, lessA z.key y.key = false := fun z hz => by
        rcases List.mem_cons.1 hz with rfl | hz
        · exact less_asymm h
        · exact less_asymm (less_trans h (hall z hz))
      rw [apply_gt h, apply_nil]
      unfold stepP withoutP withP rowOf
      rw [filter_all ha]
      split
      · rfl
      · simp only [filter_none hb, filter_all (fun z hz => by rw [hb z hz]; rfl : ∀ z ∈ x :: t, (!lessA z.key y.key) = true)]; rfl
/-- What is made of a table rises, too. -/
theorem rowOf_up {y : En} {l : List En} {last : Bs} (h : lessA last y.key = true) (hl : Up y.key l) : Up last (rowOf y ++ l) := by
  unfold rowOf
  split
  · exact Up.less h hl
  · exact ⟨h, hl⟩
theorem apply_up : ∀ {t l : List En} {last : Bs}, Up last t → Up last l → Up last (applyP t l)
  | t, [], _, h, _ => by rw [apply_nil]; exact h
  | [], y :: l, _, _, ⟨h1, h2⟩ => by rw [apply_nl]; exact rowOf_up h1 (apply_up (t := []) trivial h2)
  | x :: t, y :: l, _, ⟨h1, h2⟩, ⟨h3, h4⟩ => by
    rcases less_tri x.key y.key with h | h | h
    · rw [apply_lt h]; exact ⟨h1, apply_up h2 ⟨h, h4⟩⟩
    · rw [apply_eq h]; exact rowOf_up h3 (apply_up (by rw [← h]; exact h2) h4)
    · rw [apply_gt h]; exact rowOf_up h3 (apply_up ⟨h, h2⟩ h4)
termination_by t l => t.length + l.length
/-- Change by change. -/
theorem fold_eq : ∀ {l t : List En} {last : Bs}, Up [] t → Up last l → (∀ x ∈ l, lessA [] x.key = true) → l.foldl stepP t = applyP t l
  | [], t, _, _, _, _ => by rw [apply_nil]; rfl
  | y :: l, t, last, ht, ⟨h1, h2⟩, hn => by
    rw [List.foldl_cons, step_eq y ht, fold_eq (apply_up (l := [y]) ht ⟨hn y (by simp), trivial⟩) h2 (fun x hx => hn x (List.mem_cons_of_mem _ hx)), apply_step y l h2]
end Go.Ya.Bat
