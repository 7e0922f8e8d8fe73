/-
  Functions that yield, and loops over them: who consumes, who produces.
-/
import Derived.Test.YtekbgdmemenheaaYaStp
namespace Go.Ya
set_option linter.unusedVariables false
set_option linter.unusedSimpArgs false

section
variable {X : Known} {SP : FuncId → Option SFunc}
theorem y_round {f : FuncId} {l : Nat} {tm tm0 tm1 tm2 : List AV} {ps : List Nat} {as bd : SC} {args : List AV} {h h2 : Heap} {pe : AExit}
    (hl : h.get l = some (.loop f tm ps as bd .ready pe)) (hz : zipSet tm ps args = some tm0) (ha : xcode X SP f (some l) as tm0 h = some (.normal, tm1, h))
    (hb : xcode X SP f (some l) bd tm1 (h.set l (.loop f tm ps as bd .busy pe)) = some (.normal, tm2, h2)) (hg : h2.get l = some (.loop f tm ps as bd .busy pe)) :
    xcall X SP (.yield l) args h = some (.bool true, h2.set l (.loop f tm ps as bd .ready .normal)) := by
  rw [xcall_yield]
  simp only [yieldF, hl, hz, ha, hb, hg, if_true]

/-- What a yield does with each x: C tells what was taken, in which heap, and which blocks are the taker's own. -/
structure Cons (X : Known) (SP : FuncId → Option SFunc) (l : Nat) (ok : List AV → Prop) (C : List (List AV) → Heap → (Nat → Prop) → Prop) : Prop where
  keep : ∀ {done h h' B}, C done h B → h.next ≤ h'.next → (∀ j, B j → h'.get j = h.get j) → C done h' B
  low : ∀ {done h B}, C done h B → ∀ j, B j → j < h.next
  step : ∀ {done x h B}, C done h B → ok x → ∃ h' B', xcall X SP (.yield l) x h = some (.bool true, h') ∧ C (done ++ [x]) h' B' ∧ Stp h h' B B'
/-- A producer of xs: what it reads is told by P, and lies outside of the taker's own blocks. -/
def Prod (X : Known) (SP : FuncId → Option SFunc) (g : FuncId) (first captured : List AV) (P : Heap → (Nat → Prop) → Prop) (xs : List (List AV)) : Prop :=
  ∀ l ok C h B, Cons X SP l ok C → (∀ x ∈ xs, ok x) → C [] h B → P h B → ∃ v h' B', xcall X SP (.fn g) (first ++ [.yieldf l] ++ captured) h = some (v, h') ∧ C xs h' B' ∧ Stp h h' B B'

/-- The taker that a loop is: D tells of what lies outside of the loop's object. -/
def LoopC (l : Nat) (f : FuncId) (tm : List AV) (ps : List Nat) (as bd : SC) (D : List (List AV) → Heap → (Nat → Prop) → Prop) : List (List AV) → Heap → (Nat → Prop) → Prop :=
  fun done h B' => h.get l = some (.loop f tm ps as bd .ready .normal) ∧ ∃ B, D done h B ∧ ¬ B l ∧ ∀ j, B' j ↔ j = l ∨ B j
/-- The facts of D that a loop's taker needs. -/
structure Body (X : Known) (SP : FuncId → Option SFunc) (f : FuncId) (tm : List AV) (ps : List Nat) (as bd : SC) (ok : List AV → Prop) (D : List (List AV) → Heap → (Nat → Prop) → Prop) : Prop where
  keep : ∀ {done h h' B}, D done h B → h.next ≤ h'.next → (∀ j, B j → h'.get j = h.get j) → D done h' B
  low : ∀ {done h B}, D done h B → ∀ j, B j → j < h.next
  run : ∀ {l done x h B pe}, D done h B → ¬ B l → ok x → h.get l = some (.loop f tm ps as bd .busy pe) → ∃ tm0 tm1 tm2 h2 B2, zipSet tm ps x = some tm0 ∧ (∀ h0 : Heap, h0.get l = some (.loop f tm ps as bd .ready pe) → xcode X SP f (some l) as tm0 h0 = some (.normal, tm1, h0)) ∧ xcode X SP f (some l) bd tm1 h = some (.normal, tm2, h2) ∧ D (done ++ [x]) h2 B2 ∧ Stp h h2 B B2
theorem Body.cons {l : Nat} {f : FuncId} {tm : List AV} {ps : List Nat} {as bd : SC} {ok : List AV → Prop} {D : List (List AV) → Heap → (Nat → Prop) → Prop} (b : Body X SP f tm ps as bd ok D) : Cons X SP l ok (LoopC l f tm ps as bd D) where
  keep := by
    rintro done h h' B' ⟨h1, B, h2, h3, h4⟩ hx hs
    exact ⟨(hs l ((h4 l).2 (.inl rfl))).trans h1, B, b.keep h2 hx fun j hj => hs j ((h4 j).2 (.inr hj)), h3, h4⟩
  low := by
    rintro done h B' ⟨h1, B, h2, h3, h4⟩ j hj
    rcases (h4 j).1 hj with rfl | hj
    · exact Heap.lt_of_get h1
    · exact b.low h2 j hj
  step := by
    rintro done x h B' ⟨h1, B, h2, h3, h4⟩ hx
    have hl := Heap.lt_of_get h1
    have g1 : (h.set l (.loop f tm ps as bd .busy .normal)).get l = some (.loop f tm ps as bd .busy .normal) := by rw [get_set, if_pos rfl, if_pos hl]
    have hB : ∀ j, B j → j ≠ l := fun j hj e => h3 (e ▸ hj)
    obtain ⟨tm0, tm1, tm2, H2, B2, z, a, r, d, st⟩ := b.run (l := l) (b.keep (h' := h.set l (.loop f tm ps as bd .busy .normal)) h2 (by simp) fun j hj => by rw [get_set, if_neg (hB j hj)]) h3 hx g1
    have g2 : H2.get l = some (.loop f tm ps as bd .busy .normal) := by rw [st.2.1 l (by simpa using hl) h3]; exact g1
    have h32 : ¬ B2 l := fun e => by
      rcases st.2.2 l e with e | e
      · exact h3 e
      · simp at e; omega
    have hn : h.next ≤ H2.next := by simpa using st.1
    refine ⟨H2.set l (.loop f tm ps as bd .ready .normal), fun j => j = l ∨ B2 j, y_round h1 z (a h h1) r g2, ⟨by rw [get_set, if_pos rfl, if_pos (by omega)], B2, b.keep d (by simp) fun j hj => by rw [get_set, if_neg (show j ≠ l from fun e => h32 (e ▸ hj))], h32, fun j => Iff.rfl⟩, by simpa using hn, fun j hj hB' => ?_, fun j hj => ?_⟩
    · have q1 : j ≠ l := fun e => hB' ((h4 j).2 (.inl e))
      have q2 : ¬ B j := fun e => hB' ((h4 j).2 (.inr e))
      rw [get_set, if_neg q1, st.2.1 j (by simpa using hj) q2, get_set, if_neg q1]
    · rcases hj with rfl | hj
      · exact .inl ((h4 _).2 (.inl rfl))
      · rcases st.2.2 j hj with e | e
        · exact .inl ((h4 _).2 (.inr e))
        · exact .inr (by simpa using e)
/-- A loop over what a producer yields. -/
theorem x_for {self : FuncId} {rd : Option Nat} {f : Opd} {params : List Nat} {assign bd : SC} {tm : List AV} {h : Heap} {B : Nat → Prop} {g : FuncId} {first captured : List AV} {ok : List AV → Prop} {D : List (List AV) → Heap → (Nat → Prop) → Prop} {P : Heap → (Nat → Prop) → Prop} {xs : List (List AV)}
    (hev : ev tm f = .func g first captured) (hrd : rdOk h rd = true) (b : Body X SP self tm params assign bd ok D) (p : Prod X SP g first captured P xs) (hok : ∀ x ∈ xs, ok x) (hd : D [] h B) (hp : ∀ h', Grow h h' → P h' (fun j => j = h.next ∨ B j)) :
    ∃ h' B', xcode X SP self rd (.rangeFunc f params assign bd) tm h = some (.normal, tm, h') ∧ D xs h' B' ∧ Stp h h' B B' := by
  have hlow := b.low hd
  have ga : Grow h (h.alloc (.loop self tm params assign bd .ready .normal)) := Grow.alloc _ _
  have hnB : ¬ B h.next := fun e => by have := hlow _ e; omega
  obtain ⟨v, H1, B1, e, ⟨c1, B2, c2, c3, c4⟩, st⟩ := p h.next ok (LoopC h.next self tm params assign bd D) (h.alloc (.loop self tm params assign bd .ready .normal)) (fun j => j = h.next ∨ B j) b.cons hok
    ⟨by rw [Heap.get_alloc, if_pos rfl], B, b.keep hd ga.1 (fun j hj => ga.2 j (hlow j hj)), hnB, fun j => Iff.rfl⟩ (hp _ ga)
  have hl1 := Heap.lt_of_get c1
  refine ⟨_, B2, x_range hev hrd e c1 (by intro h; cases h), b.keep c2 (by simp) fun j hj => by rw [get_set, if_neg (show j ≠ h.next from fun e => c3 (e ▸ hj))], ?_, fun j hj hB => ?_, fun j hj => ?_⟩
  · have := st.1; simp at this ⊢; omega
  · have hne : j ≠ h.next := by omega
    rw [get_set, if_neg hne, st.2.1 j (by simp; omega) (fun e => e.elim hne hB), ga.2 j hj]
  · rcases st.2.2 j ((c4 j).2 (.inr hj)) with e | e
    · rcases e with rfl | e
      · exact absurd hj c3
      · exact .inl e
    · exact .inr (by simp at e; omega)
end
end Go.Ya
