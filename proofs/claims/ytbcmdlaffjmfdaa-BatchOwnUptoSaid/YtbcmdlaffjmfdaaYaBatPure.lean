/-
  Tables and changes: the plain law (no program).
-/
import Derived.Test.YtbcmdlaffjmfdaaYbM
namespace Go.Ya.Bat
open Go.Ya
set_option linter.unusedVariables false

abbrev Bs := List Int
/-- A key, a value, and whether it goes (of a row: never). -/
structure En where
  key : Bs
  val : Bs
  gone : Bool
deriving DecidableEq

/-- May a key and a value stand behind a key? -/
def fitsP (last key val : Bs) : Bool := decide (key.length ≤ 16) && lessA last key && decide (val.length ≤ 8192)
def fineP (x : En) : Bool := decide (x.val.length ≤ (if x.gone then 0 else 8192))
/-- Do keys rise, each with what may be? -/
def mayG (last : Bs) : List En → Bool
  | [] => true
  | x :: l => fineP x && decide (x.key.length ≤ 16) && lessA last x.key && mayG x.key l
def mayP (l : List En) : Bool := mayG [] l

def lastK (l : List En) (i : Nat) : Bs := if 0 < i then (l.getD (i - 1) ⟨[], [], false⟩).key else []
/-- Where a list is none. -/
def stMay (l : List En) (i : Nat) : Prop := ¬ (fineP (l.getD i ⟨[], [], false⟩) = true ∧ (l.getD i ⟨[], [], false⟩).key.length ≤ 16 ∧ lessA (lastK l i) (l.getD i ⟨[], [], false⟩).key = true)

theorem mayG_iff : ∀ {l : List En} {last : Bs}, mayG last l = true ↔ ∀ i, i < l.length → fineP (l.getD i ⟨[], [], false⟩) = true ∧ (l.getD i ⟨[], [], false⟩).key.length ≤ 16 ∧ lessA (if 0 < i then (l.getD (i - 1) ⟨[], [], false⟩).key else last) (l.getD i ⟨[], [], false⟩).key = true
  | [], last => by simp [mayG]
  | x :: l, last => by
    simp only [mayG, Bool.and_eq_true, decide_eq_true_eq]
    rw [mayG_iff (l := l) (last := x.key)]
    constructor
    · rintro ⟨⟨⟨h1, h2⟩, h3⟩, h4⟩ i hi
      cases i with
      | zero => exact ⟨h1, h2, h3⟩
      | succ i =>
        obtain ⟨q1, q2, q3⟩ := h4 i (by simpa using hi)
        refine ⟨q1, q2, ?_⟩
        cases i with
        | zero => exact q3
        | succ i => exact q3
    · intro h
      obtain ⟨h1, h2, h3⟩ := h 0 (by simp)
      refine ⟨⟨⟨h1, h2⟩, h3⟩, fun i hi => ?_⟩
      obtain ⟨q1, q2, q3⟩ := h (i + 1) (by simpa using hi)
      refine ⟨q1, q2, ?_⟩
      cases i with
      | zero => exact q3
      | succ i => exact q3
theorem may_t {l : List En} (h : ∀ i, i < l.length → ¬ stMay l i) : mayP l = true :=
  mayG_iff.2 fun i hi => Classical.not_not.1 (h i hi)
theorem may_f {l : List En} (h : ∃ i, i < l.length ∧ stMay l i) : mayP l = false := by
  obtain ⟨i, hi, h⟩ := h
  cases e : mayP l with
  | false => rfl
  | true => exact absurd (mayG_iff.1 e i hi) h

/-- With how many bytes both begin. -/
def sharedP : Bs → Bs → Nat
  | a :: x, b :: y => if a = b then sharedP x y + 1 else 0
  | _, _ => 0
theorem shared_le : ∀ a b : Bs, sharedP a b ≤ a.length ∧ sharedP a b ≤ b.length
  | [], _ => by simp [sharedP]
  | _ :: _, [] => by simp [sharedP]
  | a :: x, b :: y => by
    have := shared_le x y
    simp only [sharedP, List.length_cons]
    split <;> omega
theorem shared_same : ∀ {a b : Bs} {i : Nat}, i < sharedP a b → a[i]? = b[i]?
  | [], _, i, h => by simp [sharedP] at h
  | _ :: _, [], i, h => by simp [sharedP] at h
  | a :: x, b :: y, i, h => by
    simp only [sharedP] at h
    split at h
    · subst_vars
      cases i with
      | zero => rfl
      | succ i => simpa using shared_same (a := x) (b := y) (by omega)
    · omega
theorem shared_stop : ∀ {a b : Bs}, sharedP a b < a.length → sharedP a b < b.length → a[sharedP a b]? ≠ b[sharedP a b]?
  | [], _, h, _ => by simp at h
  | _ :: _, [], _, h => by simp at h
  | a :: x, b :: y, h1, h2 => by
    simp only [sharedP] at h1 h2 ⊢
    split
    · rename_i e
      rw [if_pos e] at h1 h2
      simpa using shared_stop (a := x) (b := y) (by simpa using h1) (by simpa using h2)
    · rename_i e
      simpa using e
theorem shared_uniq {a b : Bs} {n : Nat} (h1 : ∀ i, i < n → a[i]? = b[i]?) (h2 : n ≤ a.length) (h3 : n ≤ b.length) (h4 : n = a.length ∨ n = b.length ∨ a[n]? ≠ b[n]?) : n = sharedP a b := by
  rcases Nat.lt_trichotomy n (sharedP a b) with h | h | h
  · have := shared_le a b
    have q := shared_same h
    rcases h4 with e | e | e
    · omega
    · omega
    · exact absurd q e
  · exact h
  · exact absurd (h1 _ h) (shared_stop (by omega) (by omega))
end Go.Ya.Bat
