/-
  Loops over functions that yield, whose variables are boxed: what the assignment makes is new.
-/
import Derived.Test.YtplbampjponnpaaYaAuto
namespace Go.Ya
set_option linter.unusedVariables false
set_option linter.unusedSimpArgs false

section
variable {X : Known} {SP : FuncId → Option SFunc}
theorem y_round2 {f : FuncId} {l : Nat} {tm tm0 tm1 tm2 : List AV} {ps : List Nat} {as bd : SC} {args : List AV} {h h1 h2 : Heap} {pe : AExit}
    (hl : h.get l = some (.loop f tm ps as bd .ready pe)) (hz : zipSet tm ps args = some tm0) (ha : xcode X SP f (some l) as tm0 h = some (.normal, tm1, h1)) (hl1 : h1.get l = some (.loop f tm ps as bd .ready pe))
    (hb : xcode X SP f (some l) bd tm1 (h1.set l (.loop f tm ps as bd .busy pe)) = some (.normal, tm2, h2)) (hg : h2.get l = some (.loop f tm ps as bd .busy pe)) :
    xcall X SP (.yield l) args h = some (.bool true, h2.set l (.loop f tm ps as bd .ready .normal)) := by
  rw [xcall_yield]
  simp only [yieldF, hl, hz, ha, hl1, hb, hg, if_true]

/-- What a yield does with each of xs, one behind the other: C tells what was taken, in which heap, and which blocks are the taker's own. -/
structure Cons2 (X : Known) (SP : FuncId → Option SFunc) (l : Nat) (xs : List (List AV)) (C : List (List AV) → Heap → (Nat → Prop) → Prop) : Prop where
  keep : ∀ {done h h' B}, C done h B → h.next ≤ h'.next → (∀ j, B j → h'.get j = h.get j) → C done h' B
  low : ∀ {done h B}, C done h B → ∀ j, B j → j < h.next
  step : ∀ {done x h B}, C done h B → (done ++ [x]) <+: xs → ∃ h' B', xcall X SP (.yield l) x h = some (.bool true, h') ∧ C (done ++ [x]) h' B' ∧ Stp h h' B B'
/-- A producer of xs: what it reads is told by P, and lies outside of the taker's own blocks. -/
def Prod2 (X : Known) (SP : FuncId → Option SFunc) (g : FuncId) (first captured : List AV) (P : Heap → (Nat → Prop) → Prop) (xs : List (List AV)) : Prop :=
  ∀ l C h B, Cons2 X SP l xs C → C [] h B → P h B → ∃ v h' B', xcall X SP (.fn g) (first ++ [.yieldf l] ++ captured) h = some (v, h') ∧ C xs h' B' ∧ Stp h h' B B'

structure Body2 (X : Known) (SP : FuncId → Option SFunc) (f : FuncId) (tm : List AV) (ps : List Nat) (as bd : SC) (xs : List (List AV)) (D : List (List AV) → Heap → (Nat → Prop) → Prop) : Prop where
  keep : ∀ {done h h' B}, D done h B → h.next ≤ h'.next → (∀ j, B j → h'.get j = h.get j) → D done h' B
  low : ∀ {done h B}, D done h B → ∀ j, B j → j < h.next
  run : ∀ {l done x h B pe}, D done h B → ¬ B l → (done ++ [x]) <+: xs → h.get l = some (.loop f tm ps as bd .ready pe) → ∃ tm0 tm1 h1 tm2 h2 B2, zipSet tm ps x = some tm0 ∧ xcode X SP f (some l) as tm0 h = some (.normal, tm1, h1) ∧ Grow h h1 ∧
    xcode X SP f (some l) bd tm1 (h1.set l (.loop f tm ps as bd .busy pe)) = some (.normal, tm2, h2) ∧ D (done ++ [x]) h2 B2 ∧ Stp (h1.set l (.loop f tm ps as bd .busy pe)) h2 B B2
theorem Body2.cons {l : Nat} {f : FuncId} {tm : List AV} {ps : List Nat} {as bd : SC} {xs : List (List AV)} {D : List (List AV) → Heap → (Nat → Prop) → Prop} (b : Body2 X SP f tm ps as bd xs D) : Cons2 X SP l xs (LoopC l f tm ps as bd D) where
  keep := by
    rintro done h h' B' ⟨h1, B, h2, h3, h4⟩ hx hs
    exact ⟨(hs l ((h4 l).2 (.inl rfl))).trans h1, B, b.keep h2 hx fun j hj => hs j ((h4 j).2 (.inr hj)), h3, h4⟩
  low := by
    rintro done h B' ⟨h1, B, h2, h3, h4⟩ j hj
    rcases (h4 j).1 hj with rfl | hj
    · exact Heap.lt_of_get h1
    · exact b.low h2 j hj
  step := by
    rintro done x h B' ⟨h1, B, h2, h3, h4⟩ hx
    have hl := Heap.lt_of_get h1
    obtain ⟨tm0, tm1, H1, tm2, H2, B2, z, a, g, r, d, st⟩ := b.run h2 h3 hx h1
    have gl := g.get h1
    have hl1 := Heap.lt_of_get gl
    have g1 : (H1.set l (.loop f tm ps as bd .busy .normal)).get l = some (.loop f tm ps as bd .busy .normal) := by rw [get_set, if_pos rfl, if_pos hl1]
    have g2 : H2.get l = some (.loop f tm ps as bd .busy .normal) := by rw [st.2.1 l (by simpa using hl1) h3]; exact g1
    have h32 : ¬ B2 l := fun e => by
      rcases st.2.2 l e with e | e
      · exact h3 e
      · simp at e; omega
    have hn : H1.next ≤ H2.next := by simpa using st.1
    have hn1 := g.1
    refine ⟨H2.set l (.loop f tm ps as bd .ready .normal), fun j => j = l ∨ B2 j, y_round2 h1 z a gl r g2, ⟨by rw [get_set, if_pos rfl, if_pos (by omega)], B2, b.keep d (by simp) fun j hj => by rw [get_set, if_neg (show j ≠ l from fun e => h32 (e ▸ hj))], h32, fun j => Iff.rfl⟩, by simp; omega, fun j hj hB' => ?_, fun j hj => ?_⟩
    · have q1 : j ≠ l := fun e => hB' ((h4 j).2 (.inl e))
      have q2 : ¬ B j := fun e => hB' ((h4 j).2 (.inr e))
      rw [get_set, if_neg q1, st.2.1 j (by simp; omega) q2, get_set, if_neg q1, g.2 j hj]
    · rcases hj with rfl | hj
      · exact .inl ((h4 _).2 (.inl rfl))
      · rcases st.2.2 j hj with e | e
        · exact .inl ((h4 _).2 (.inr e))
        · exact .inr (by simp at e; omega)
/-- A loop over what a producer yields. -/
theorem x_for2 {self : FuncId} {rd : Option Nat} {f : Opd} {params : List Nat} {assign bd : SC} {tm : List AV} {h : Heap} {B : Nat → Prop} {g : FuncId} {first captured : List AV} {D : List (List AV) → Heap → (Nat → Prop) → Prop} {P : Heap → (Nat → Prop) → Prop} {xs : List (List AV)}
    (hev : ev tm f = .func g first captured) (hrd : rdOk h rd = true) (b : Body2 X SP self tm params assign bd xs D) (p : Prod2 X SP g first captured P xs) (hd : D [] h B) (hp : ∀ h', Grow h h' → P h' (fun j => j = h.next ∨ B j)) :
    ∃ h' B', xcode X SP self rd (.rangeFunc f params assign bd) tm h = some (.normal, tm, h') ∧ D xs h' B' ∧ Stp h h' B B' := by
  have hlow := b.low hd
  have ga : Grow h (h.alloc (.loop self tm params assign bd .ready .normal)) := Grow.alloc _ _
  have hnB : ¬ B h.next := fun e => by have := hlow _ e; omega
  obtain ⟨v, H1, B1, e, ⟨c1, B2, c2, c3, c4⟩, st⟩ := p h.next (LoopC h.next self tm params assign bd D) (h.alloc (.loop self tm params assign bd .ready .normal)) (fun j => j = h.next ∨ B j) b.cons
    ⟨by rw [Heap.get_alloc, if_pos rfl], B, b.keep hd ga.1 (fun j hj => ga.2 j (hlow j hj)), hnB, fun j => Iff.rfl⟩ (hp _ ga)
  have hl1 := Heap.lt_of_get c1
  refine ⟨_, B2, x_range hev hrd e c1 (by intro h; cases h), b.keep c2 (by simp) fun j hj => by rw [get_set, if_neg (show j ≠ h.next from fun e => c3 (e ▸ hj))], ?_, fun j hj hB => ?_, fun j hj => ?_⟩
  · have := st.1; simp at this ⊢; omega
  · have hne : j ≠ h.next := by omega
    rw [get_set, if_neg hne, st.2.1 j (by simp; omega) (fun e => e.elim hne hB), ga.2 j hj]
  · rcases st.2.2 j ((c4 j).2 (.inr hj)) with e | e
    · rcases e with rfl | e
      · exact absurd hj c3
      · exact .inl e
    · exact .inr (by simp at e; omega)
theorem Mine.keep {esz n : Nat} {h h' : Heap} {sl : AV} {rows : List (List AV)} (o : Mine esz n h sl rows) (hn : h.next ≤ h'.next) (hg : ∀ b x m c e z, sl = .slice b x m c e z → h'.get b = h.get b) : Mine esz n h' sl rows := by
  obtain ⟨h1, h2⟩ := o
  refine ⟨h1, ?_⟩
  rcases h2 with e | ⟨b, q1, q2, s1, s2⟩
  · exact .inl e
  · rcases s2 with e | ⟨cap, rest, e1, e2, e3, e4⟩
    · exact .inl e
    · exact .inr ⟨b, q1, by omega, s1, .inr ⟨cap, rest, e1, e2, (hg _ _ _ _ _ _ e1).trans e3, e4⟩⟩
theorem Mine.lt {esz n : Nat} {h : Heap} {sl : AV} {rows : List (List AV)} (o : Mine esz n h sl rows) {b x m c : Nat} {e : Bool} {z : Nat} (hs : sl = .slice b x m c e z) : n ≤ b ∧ b < h.next := by
  obtain ⟨h1, h2⟩ := o
  rcases h2 with ⟨e, _⟩ | ⟨b', q1, q2, s1, s2⟩
  · rw [e] at hs; cases hs
  · rcases s2 with ⟨e, _⟩ | ⟨cap, rest, e1, e2, e3, e4⟩
    · rw [e] at hs; cases hs
    · rw [e1] at hs; cases hs; exact ⟨q1, q2⟩
/-- The blocks of a slice. -/
def slB (sl : AV) (j : Nat) : Prop := ∃ o n c e z, sl = .slice j o n c e z
/-- As Mine.push, with all that is changed. -/
theorem Mine.push2 {esz bytes n : Nat} {h : Heap} {sl : AV} {rows : List (List AV)} (o : Mine esz n h sl rows) (hn2 : n ≤ h.next) (row : List AV) (ro : Bool) (hrl : row.length = esz) (ex : Bool)
    (hsz : (rows.length + 1) * bytes ≤ 140737488355328 ∧ rows.length + 1 ≤ 140737488355328) :
    ∃ sl' h', appendA (h.alloc (.cells row ro)) esz bytes sl (.slice h.next 0 1 1 ex esz) = some (sl', h') ∧ Mine esz n h' sl' (rows ++ [row]) ∧ sl'.flat = true ∧ h.next + 1 ≤ h'.next ∧ (∀ j, j < h.next → ¬ slB sl j → h'.get j = h.get j) ∧ (∀ j, slB sl' j → slB sl j ∨ h.next ≤ j) := by
  have key : ∀ b, n ≤ b → b ≤ h.next → (∀ j, j < h.next → ¬ slB sl j → j ≠ b) → (slB sl b ∨ h.next ≤ b) → ShAt esz (h.alloc (.cells row ro)) sl b rows → ∃ sl' h', appendA (h.alloc (.cells row ro)) esz bytes sl (.slice h.next 0 1 1 ex esz) = some (sl', h') ∧ Mine esz n h' sl' (rows ++ [row]) ∧ sl'.flat = true ∧ h.next + 1 ≤ h'.next ∧ (∀ j, j < h.next → ¬ slB sl j → h'.get j = h.get j) ∧ (∀ j, slB sl' j → slB sl j ∨ h.next ≤ j) := by
    intro b hb hb2 hne hbs s
    obtain ⟨sl', h', b', e1, e2, e3, e4, e5, e6, e7⟩ := s.append (y := .slice h.next 0 1 1 ex esz) (row := row) (bytes := bytes) rfl (by subst hrl; simp [firstA, ga_new]) hrl hsz
    simp only [Heap.next_alloc] at e4 e5 e6
    have hb' : n ≤ b' := by rcases e6 with rfl | e6 <;> omega
    refine ⟨sl', h', e1, ⟨e2.1, .inr ⟨b', hb', e7, e2⟩⟩, e3, e4, fun j hj hs => ?_, fun j hj => ?_⟩
    · rw [e5 j (by omega) (hne j hj hs), ga_old (by omega)]
    · have hjb : j = b' := by
        obtain ⟨o, m, c, e, z, hs⟩ := hj
        rcases e2.2 with ⟨q, _⟩ | ⟨cap, rest, q, _⟩
        · rw [q] at hs; cases hs
        · rw [q] at hs; cases hs; rfl
      subst hjb
      rcases e6 with rfl | e6
      · exact hbs
      · exact .inr (by omega)
  rcases o.2 with ⟨rfl, rfl⟩ | ⟨b, h1, h2, h3⟩
  · exact key h.next hn2 (Nat.le_refl _) (fun j hj _ => by omega) (.inr (Nat.le_refl _)) ⟨o.1, .inl ⟨rfl, rfl⟩⟩
  · rcases h3.2 with ⟨rfl, rfl⟩ | ⟨cap, rest, rfl, q2, q3, q4⟩
    · exact key h.next hn2 (Nat.le_refl _) (fun j hj _ => by omega) (.inr (Nat.le_refl _)) ⟨o.1, .inl ⟨rfl, rfl⟩⟩
    · refine key b h1 (by omega) (fun j hj hs e => hs (e ▸ ⟨_, _, _, _, _, rfl⟩)) (.inl ⟨_, _, _, _, _, rfl⟩) (h3.keep fun o ho => by rw [ga_old (by omega)]; exact ho)
end
end Go.Ya
