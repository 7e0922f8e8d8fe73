/-
  The abstract machine: YaCmp, YaOrd.
-/
import Derived.Shelf.Small.Strs
import Derived.Test.YtbcmdlaffjmfdaaYbG
import Derived.Test.YtbcmdlaffjmfdaaYbI
namespace Go.Ya
set_option linter.unusedVariables false
set_option linter.unusedSimpArgs false
open Go.Shelf

/-- How two texts compare. -/
def cmpI : List Int → List Int → Int
  | [], [] => 0
  | [], _ :: _ => -1
  | _ :: _, [] => 1
  | a :: xs, b :: ys => if a < b then -1 else if b < a then 1 else cmpI xs ys
theorem cmpI_eq : ∀ a b : List UInt8, Lib.compareBytes a b = cmpI (a.map fun x => (x.toNat : Int)) (b.map fun x => (x.toNat : Int))
  | [], [] => rfl
  | [], _ :: _ => rfl
  | _ :: _, [] => rfl
  | a :: xs, b :: ys => by
    have e1 : (a < b) ↔ ((a.toNat : Int) < b.toNat) := by rw [UInt8.lt_iff_toNat_lt]; omega
    have e2 : (b < a) ↔ ((b.toNat : Int) < a.toNat) := by rw [UInt8.lt_iff_toNat_lt]; omega
    simp only [Lib.compareBytes, List.map_cons, cmpI, e1, e2, cmpI_eq xs ys]
theorem cmpI_wf : ∀ a b : List Int, cmpI a b = -1 ∨ cmpI a b = 0 ∨ cmpI a b = 1
  | [], [] => .inr (.inl rfl)
  | [], _ :: _ => .inl rfl
  | _ :: _, [] => .inr (.inr rfl)
  | a :: xs, b :: ys => by
    simp only [cmpI]
    split
    · exact .inl rfl
    · split
      · exact .inr (.inr rfl)
      · exact cmpI_wf xs ys

def cmpK (f : FuncId) : Known := fun g args h => if g = f then match args with | [.str a, .str b] => some (.int .i64 (cmpI a b), h) | _ => none else none

theorem cmpK_ok {P : Program} {ρ : Ren} (L : Go.Proofs.Lays.n213 P ρ) {f : FuncId} (hf : ρ.f 213 = f) : XOk P (cmpK f) := by
  subst hf
  intro g args h v h' e μ w args' s hv
  unfold cmpK at e
  split at e
  · rename_i hg
    subst hg
    split at e
    · rename_i a b
      cases e
      obtain ⟨l⟩ := args'
      cases hv with | cons _ x _ xs h1 h2 =>
      cases h2 with | cons _ y _ ys h2 h3 =>
      cases h3
      cases h1 with | str _ s1 e1 _ =>
      cases h2 with | str _ s2 e2 _ =>
      refine ⟨⟨_, L.f213, by kernel_rfl, by rw [show (Go.Proofs.Body.n213 ρ).name = "internal/bytealg.CompareString" by kernel_rfl]; decide⟩, (Go.Proofs.Any.bytealg_CompareString L s1 s2 w).mono fun e w' ⟨q1, q2⟩ => ?_⟩
      subst q2
      have hw := cmpI_wf (bytesOf s1) (bytesOf s2)
      refine ⟨μ, _, q1, ?_, s, .refl _ _ _⟩
      rw [cmpI_eq]
      subst e1; subst e2
      refine .int _ _ ?_
      change wfInt .i64 (cmpI (bytesOf s1) (bytesOf s2)) = true
      rcases hw with q | q | q <;> rw [q] <;> decide
    · cases e
  · cases e
end Go.Ya
namespace Go.Ya
set_option linter.unusedVariables false

theorem cmpI_lt : ∀ a b : List Int, cmpI a b = -1 ↔ lessA a b = true
  | [], [] => by simp [cmpI, lessA]
  | [], _ :: _ => by simp [cmpI, lessA]
  | _ :: _, [] => by simp [cmpI, lessA]
  | x :: a, y :: b => by
    simp only [cmpI, lessA, Bool.or_eq_true, Bool.and_eq_true, decide_eq_true_eq, beq_iff_eq]
    split
    · simp [*]
    · split
      · constructor
        · intro h; cases h
        · omega
      · rw [cmpI_lt a b]
        have : x = y := by omega
        subst this
        simp
theorem cmpI_eq0 : ∀ a b : List Int, cmpI a b = 0 ↔ a = b
  | [], [] => by simp [cmpI]
  | [], _ :: _ => by simp [cmpI]
  | _ :: _, [] => by simp [cmpI]
  | x :: a, y :: b => by
    simp only [cmpI, List.cons.injEq]
    split
    · constructor
      · intro h; cases h
      · omega
    · split
      · constructor
        · intro h; cases h
        · omega
      · rw [cmpI_eq0 a b]
        have : x = y := by omega
        simp [this]
theorem cmpI_gt (a b : List Int) : cmpI a b = 1 ↔ lessA b a = true := by
  rcases less_tri a b with h | h | h
  · have := (cmpI_lt a b).2 h
    rw [this, less_asymm h]; simp
  · have := (cmpI_eq0 a b).2 h
    rw [this, h, less_irrefl]; simp
  · rw [h]
    rcases cmpI_wf a b with q | q | q
    · rw [(cmpI_lt a b).1 q |> less_asymm] at h; cases h
    · rw [(cmpI_eq0 a b).1 q, less_irrefl] at h; cases h
    · simp [q]
end Go.Ya
