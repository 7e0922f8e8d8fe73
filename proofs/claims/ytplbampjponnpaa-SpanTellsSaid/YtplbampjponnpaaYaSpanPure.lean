/-
  Spans: the plain law (no program in sight).
-/
namespace Go.Ya.Span
set_option linter.unusedVariables false

abbrev Sp := Int × Int
def emptyP (s : Sp) : Bool := decide (s.1 ≥ s.2)
/-- May, behind a last end. -/
def mayG (p : Option Int) : List Sp → Bool
  | [] => true
  | x :: l => !(emptyP x || p.any (fun e => decide (x.1 ≤ e))) && mayG (some x.2) l
def mayP (l : List Sp) : Bool := mayG none l
def inS (s : Sp) (a : Int) : Bool := decide (a ≥ s.1) && decide (a < s.2)
def inP (l : List Sp) (a : Int) : Bool := l.any fun s => inS s a
/-- Rising from lo on; each of one place at least; they may touch. -/
def Weak : Int → List Sp → Prop
  | _, [] => True
  | lo, x :: l => lo ≤ x.1 ∧ x.1 < x.2 ∧ Weak x.2 l
theorem Weak.mono {lo lo' : Int} (h : lo' ≤ lo) : ∀ {l : List Sp}, Weak lo l → Weak lo' l
  | [], _ => trivial
  | x :: l, hw => ⟨Int.le_trans h hw.1, hw.2⟩
theorem inP_cons (x : Sp) (l : List Sp) (a : Int) : inP (x :: l) a = (inS x a || inP l a) := rfl
theorem inS_iff {s : Sp} {a : Int} : inS s a = true ↔ s.1 ≤ a ∧ a < s.2 := by simp [inS]
theorem inS_not {s : Sp} {a : Int} : inS s a = false ↔ ¬ (s.1 ≤ a ∧ a < s.2) := by rw [← inS_iff]; simp
theorem Weak.below {lo a : Int} (ha : a < lo) : ∀ {l : List Sp}, Weak lo l → inP l a = false
  | [], _ => rfl
  | x :: l, hw => by
    rw [inP_cons, Weak.below (lo := x.2) (by have := hw.1; have := hw.2.1; omega) hw.2.2, inS_not.2 (by have := hw.1; omega)]; rfl
theorem mayG_cons {p : Option Int} {x : Sp} {l : List Sp} : mayG p (x :: l) = true ↔ x.1 < x.2 ∧ (∀ e, p = some e → e < x.1) ∧ mayG (some x.2) l = true := by
  cases p with
  | none => simp [mayG, emptyP]
  | some e => simp [mayG, emptyP, and_assoc]
theorem mayG_weak : ∀ {l : List Sp} {e : Int}, mayG (some e) l = true → Weak (e + 1) l
  | [], _, _ => trivial
  | x :: l, e, h => by
    obtain ⟨h1, h2, h3⟩ := mayG_cons.1 h
    have := h2 e rfl
    exact ⟨by omega, h1, (mayG_weak h3).mono (by omega)⟩
theorem mayG_none : ∀ {l : List Sp} {p : Option Int}, mayG p l = true → mayG none l = true
  | [], _, _ => rfl
  | x :: l, p, h => by
    obtain ⟨h1, _, h3⟩ := mayG_cons.1 h
    exact mayG_cons.2 ⟨h1, fun e he => (by cases he), h3⟩
theorem mayP_weak : ∀ {l : List Sp} {lo : Int}, mayP l = true → (∀ x ∈ l, lo ≤ x.1) → Weak lo l
  | [], _, _, _ => trivial
  | x :: l, lo, h, hl => by
    obtain ⟨h1, _, h3⟩ := mayG_cons.1 h
    exact ⟨hl x List.mem_cons_self, h1, (mayG_weak h3).mono (by omega)⟩
theorem inP_true {l : List Sp} {a : Int} : inP l a = true ↔ ∃ x ∈ l, x.1 ≤ a ∧ a < x.2 := by
  simp only [inP, List.any_eq_true, inS_iff]
theorem inP_append (l m : List Sp) (a : Int) : inP (l ++ m) a = (inP l a || inP m a) := by simp [inP, List.any_append]

/-- Two that may be and have the same places are the same. -/
theorem may_ext : ∀ {l m : List Sp} {p q : Option Int}, mayG p l = true → mayG q m = true → (∀ a, inP l a = inP m a) → l = m
  | [], [], _, _, _, _, _ => rfl
  | [], y :: m, _, _, _, hm, he => by
    have h1 := (mayG_cons.1 hm).1
    have := he y.1
    rw [inP_cons, inS_iff.2 ⟨Int.le_refl _, h1⟩] at this
    cases this
  | x :: l, [], _, _, hl, _, he => by
    have h1 := (mayG_cons.1 hl).1
    have := he x.1
    rw [inP_cons, inS_iff.2 ⟨Int.le_refl _, h1⟩] at this
    cases this
  | x :: l, y :: m, _, _, hl, hm, he => by
    obtain ⟨l1, _, l3⟩ := mayG_cons.1 hl
    obtain ⟨m1, _, m3⟩ := mayG_cons.1 hm
    have wl := mayG_weak l3
    have wm := mayG_weak m3
    -- the first place
    have e1 : x.1 = y.1 := by
      have a1 := he x.1
      have a2 := he y.1
      rw [inP_cons, inS_iff.2 ⟨Int.le_refl _, l1⟩, inP_cons] at a1
      rw [inP_cons, inP_cons, inS_iff.2 ⟨Int.le_refl _, m1⟩] at a2
      rcases Int.lt_trichotomy x.1 y.1 with h | h | h
      · rw [inS_not.2 (by omega), wm.below (by omega)] at a1; cases a1
      · exact h
      · rw [inS_not.2 (by omega), wl.below (by omega)] at a2; cases a2
    have e2 : x.2 = y.2 := by
      have a1 := he x.2
      have a2 := he y.2
      rw [inP_cons, inP_cons] at a1 a2
      rcases Int.lt_trichotomy x.2 y.2 with h | h | h
      · rw [inS_not.2 (by omega), wl.below (by omega), inS_iff.2 (by omega)] at a1; cases a1
      · exact h
      · rw [inS_iff.2 (by omega), inS_not.2 (by omega), wm.below (by omega)] at a2; cases a2
    have exy : x = y := Prod.ext e1 e2
    subst exy
    rw [may_ext l3 m3 fun a => ?_]
    have := he a
    rw [inP_cons, inP_cons] at this
    by_cases ha : a < x.2 + 1
    · rw [wl.below ha, wm.below ha]
    · rw [inS_not.2 (by omega)] at this; simpa using this

/-! ### gather -/
def gStep (out : List Sp) (s : Sp) : List Sp :=
  match out.getLast? with
  | some y => if y.2 = s.1 then out.dropLast ++ [(y.1, s.2)] else out ++ [s]
  | none => out ++ [s]
def gatherP (l : List Sp) : List Sp := l.foldl gStep []
theorem gStep_nil (s : Sp) : gStep [] s = [s] := rfl
theorem gStep_snoc (out : List Sp) (y s : Sp) : gStep (out ++ [y]) s = if y.2 = s.1 then out ++ [(y.1, s.2)] else out ++ [y, s] := by
  unfold gStep
  simp
/-- Gathering behind a last one. -/
def gG (y : Sp) : List Sp → List Sp
  | [] => [y]
  | s :: l => if y.2 = s.1 then gG (y.1, s.2) l else y :: gG s l
theorem foldl_gG : ∀ (l : List Sp) (out : List Sp) (y : Sp), l.foldl gStep (out ++ [y]) = out ++ gG y l
  | [], out, y => rfl
  | s :: l, out, y => by
    rw [List.foldl_cons, gStep_snoc, gG]
    split
    · exact foldl_gG l out (y.1, s.2)
    · rw [show out ++ [y, s] = (out ++ [y]) ++ [s] by simp, foldl_gG l (out ++ [y]) s]; simp
theorem gather_cons (x : Sp) (l : List Sp) : gatherP (x :: l) = gG x l := by
  rw [gatherP, List.foldl_cons, gStep_nil]
  exact foldl_gG l [] x
theorem gG_may : ∀ {l : List Sp} {y : Sp} {p : Option Int}, y.1 < y.2 → (∀ e, p = some e → e < y.1) → Weak y.2 l → mayG p (gG y l) = true
  | [], y, p, h1, h2, _ => mayG_cons.2 ⟨h1, h2, rfl⟩
  | s :: l, y, p, h1, h2, hw => by
    obtain ⟨w1, w2, w3⟩ := hw
    rw [gG]
    split
    · exact gG_may (y := (y.1, s.2)) (by simp; omega) h2 w3
    · exact mayG_cons.2 ⟨h1, h2, gG_may (y := s) w2 (fun e he => by cases he; omega) w3⟩
theorem gG_in : ∀ {l : List Sp} {y : Sp}, y.1 < y.2 → Weak y.2 l → ∀ a, inP (gG y l) a = (inS y a || inP l a)
  | [], y, _, _, a => rfl
  | s :: l, y, h1, hw, a => by
    obtain ⟨w1, w2, w3⟩ := hw
    rw [gG]
    split
    · rename_i h
      rw [gG_in (y := (y.1, s.2)) (by simp; omega) w3, inP_cons, ← Bool.or_assoc]
      congr 1
      rw [Bool.eq_iff_iff, Bool.or_eq_true, inS_iff, inS_iff, inS_iff]
      simp only
      omega
    · rw [inP_cons, gG_in w2 w3, inP_cons]
theorem gather_may {l : List Sp} {lo : Int} (hw : Weak lo l) : mayP (gatherP l) = true := by
  cases l with
  | nil => rfl
  | cons x l => rw [gather_cons]; exact gG_may hw.2.1 (fun e he => by cases he) hw.2.2
theorem gather_in {l : List Sp} {lo : Int} (hw : Weak lo l) (a : Int) : inP (gatherP l) a = inP l a := by
  cases l with
  | nil => rfl
  | cons x l => rw [gather_cons, gG_in hw.2.1 hw.2.2]; rfl
/-- How many places. -/
def lenP (l : List Sp) : Int := (l.map fun s => s.2 - s.1).sum
theorem gG_len : ∀ (l : List Sp) (y : Sp), lenP (gG y l) = y.2 - y.1 + lenP l
  | [], y => by simp [gG, lenP]
  | s :: l, y => by
    rw [gG]
    split
    · rename_i h
      rw [gG_len]; simp [lenP]; omega
    · have := gG_len l s
      simp [lenP] at this ⊢; omega
theorem gather_len (l : List Sp) : lenP (gatherP l) = lenP l := by
  cases l with
  | nil => rfl
  | cons x l => rw [gather_cons, gG_len]; simp [lenP]

/-! ### rest and with -/
def pieces (x s : Sp) : List Sp :=
  if emptyP s = true then (if emptyP x then [] else [x]) ++ []
  else (if emptyP (x.1, min x.2 s.1) then [] else [(x.1, min x.2 s.1)]) ++ (if emptyP (max x.1 s.2, x.2) then [] else [(max x.1 s.2, x.2)])
def restP (l : List Sp) (s : Sp) : List Sp := (l.map fun x => pieces x s).flatten
def withG (s : Sp) : Bool → List Sp → List Sp
  | done, [] => if done then [] else [s]
  | done, x :: l => if (!done && decide (x.1 ≥ s.2)) = true then s :: x :: withG s true l else x :: withG s done l
def withP (l : List Sp) (s : Sp) : List Sp := withG s (emptyP s) l
theorem withG_true (s : Sp) : ∀ l, withG s true l = l
  | [] => rfl
  | x :: l => by rw [withG]; simp [withG_true s l]
theorem emptyP_iff {s : Sp} : emptyP s = true ↔ s.2 ≤ s.1 := by simp [emptyP]
theorem emptyP_not {s : Sp} : emptyP s = false ↔ s.1 < s.2 := by simp [emptyP]
/-- Pieces, ahead of what comes. -/
theorem pieces_weak {x s : Sp} {lo : Int} {l : List Sp} (h1 : lo ≤ x.1) (h2 : x.1 < x.2) (hl : Weak x.2 l) : Weak lo (pieces x s ++ l) := by
  unfold pieces
  cases hs : emptyP s
  · have hs' := emptyP_not.1 hs
    rw [if_neg (by simp)]
    cases ha : emptyP (x.1, min x.2 s.1) <;> cases hb : emptyP (max x.1 s.2, x.2) <;> simp only [emptyP_iff, emptyP_not] at ha hb <;> simp only [if_true, Bool.false_eq_true, if_false, List.nil_append, List.cons_append, List.append_nil, Weak]
    · refine ⟨by omega, by omega, by omega, by omega, hl⟩
    · exact ⟨by omega, by omega, hl.mono (by omega)⟩
    · exact ⟨by omega, by omega, hl⟩
    · exact hl.mono (by omega)
  · rw [if_pos rfl, emptyP_not.2 h2]
    exact ⟨h1, h2, hl⟩
theorem pieces_in {x s : Sp} (a : Int) : inP (pieces x s) a = (inS x a && !(inS s a)) := by
  unfold pieces
  cases hs : emptyP s
  · have hs' := emptyP_not.1 hs
    rw [if_neg (by simp)]
    rw [Bool.eq_iff_iff, Bool.and_eq_true, Bool.not_eq_true', inS_iff, inS_not]
    cases ha : emptyP (x.1, min x.2 s.1) <;> cases hb : emptyP (max x.1 s.2, x.2) <;> simp only [emptyP_iff, emptyP_not] at ha hb <;> simp only [if_true, Bool.false_eq_true, if_false, List.nil_append, List.cons_append, List.append_nil, inP_true, List.mem_cons, List.not_mem_nil, or_false, exists_eq_or_imp, exists_eq_left, false_and, exists_false]
    · omega
    · omega
    · omega
    · refine ⟨False.elim, fun h => ?_⟩
      obtain ⟨⟨p, q⟩, r⟩ := h
      by_cases hsa : s.1 ≤ a
      · have : ¬ a < s.2 := fun e => r ⟨hsa, e⟩
        omega
      · omega
  · have hs' := emptyP_iff.1 hs
    rw [if_pos rfl, inS_not.2 (show ¬ (s.1 ≤ a ∧ a < s.2) by omega)]
    cases hx : emptyP x
    · simp [inP]
    · have := emptyP_iff.1 hx
      rw [inS_not.2 (show ¬ (x.1 ≤ a ∧ a < x.2) by omega)]; rfl
theorem rest_weak : ∀ {l : List Sp} {s : Sp} {lo : Int}, Weak lo l → Weak lo (restP l s)
  | [], _, _, _ => trivial
  | x :: l, s, lo, hw => by
    have : restP (x :: l) s = pieces x s ++ restP l s := rfl
    rw [this]
    exact pieces_weak hw.1 hw.2.1 (rest_weak hw.2.2)
theorem rest_in : ∀ (l : List Sp) (s : Sp) (a : Int), inP (restP l s) a = (inP l a && !(inS s a))
  | [], _, _ => rfl
  | x :: l, s, a => by
    have : restP (x :: l) s = pieces x s ++ restP l s := rfl
    rw [this, inP_append, pieces_in, rest_in l s a, inP_cons]
    cases inS x a <;> cases inP l a <;> cases inS s a <;> rfl
/-- None has a place of s. -/
def Apart (s : Sp) (l : List Sp) : Prop := ∀ x ∈ l, x.2 ≤ s.1 ∨ s.2 ≤ x.1
theorem pieces_apart {x s : Sp} (hs : s.1 < s.2) : Apart s (pieces x s) := by
  unfold pieces Apart
  rw [if_neg (by simp [emptyP]; omega)]
  intro y hy
  rw [List.mem_append] at hy
  rcases hy with hy | hy <;> split at hy <;> simp only [List.mem_cons, List.not_mem_nil, or_false] at hy <;> subst hy <;> simp only <;> omega
theorem rest_apart {l : List Sp} {s : Sp} (hs : s.1 < s.2) : Apart s (restP l s) := by
  intro x hx
  obtain ⟨p, hp, hx⟩ := List.mem_flatten.1 hx
  obtain ⟨y, _, rfl⟩ := List.mem_map.1 hp
  exact pieces_apart hs x hx
theorem withG_weak : ∀ {l : List Sp} {s : Sp} {lo : Int}, s.1 < s.2 → lo ≤ s.1 → Weak lo l → Apart s l → Weak lo (withG s false l)
  | [], s, lo, hs, h1, _, _ => ⟨h1, hs, trivial⟩
  | x :: l, s, lo, hs, h1, hw, ha => by
    rw [withG]
    split
    · rename_i h
      simp only [Bool.not_false, Bool.true_and, decide_eq_true_eq] at h
      rw [withG_true]
      exact ⟨h1, hs, h, hw.2⟩
    · rename_i h
      simp only [Bool.not_false, Bool.true_and, decide_eq_true_eq] at h
      have := ha x List.mem_cons_self
      exact ⟨hw.1, hw.2.1, withG_weak hs (by omega) hw.2.2 fun y hy => ha y (List.mem_cons_of_mem _ hy)⟩
theorem withG_in (s : Sp) (a : Int) : ∀ l, inP (withG s false l) a = (inS s a || inP l a)
  | [] => by simp [withG, inP]
  | x :: l => by
    rw [withG]
    split
    · rw [withG_true]; rfl
    · rw [inP_cons, withG_in s a l, inP_cons]
      cases inS x a <;> cases inS s a <;> rfl
theorem withG_len (s : Sp) : ∀ l, lenP (withG s false l) = s.2 - s.1 + lenP l
  | [] => by simp [withG, lenP]
  | x :: l => by
    rw [withG]
    split
    · rw [withG_true]; simp [lenP]
    · have := withG_len s l
      simp [lenP] at this ⊢; omega

def addP (l : List Sp) (s : Sp) : List Sp := gatherP (withP (restP l s) s)
def cutP (l : List Sp) (s : Sp) : List Sp := gatherP (restP l s)
/-- Places that are all from lo on. -/
theorem low : ∀ (l : List Sp) (s : Sp), ∃ lo, lo ≤ s.1 ∧ ∀ x ∈ l, lo ≤ x.1
  | [], s => ⟨s.1, Int.le_refl _, fun x hx => by cases hx⟩
  | y :: l, s => by
    obtain ⟨lo, h1, h2⟩ := low l s
    refine ⟨min lo y.1, by omega, fun x hx => ?_⟩
    rcases List.mem_cons.1 hx with rfl | hx
    · omega
    · have := h2 x hx; omega
theorem cut_may {l : List Sp} (s : Sp) (hl : mayP l = true) : mayP (cutP l s) = true := by
  obtain ⟨lo, h1, h2⟩ := low l s
  exact gather_may (rest_weak (mayP_weak hl h2))
theorem cut_in {l : List Sp} (s : Sp) (hl : mayP l = true) (a : Int) : inP (cutP l s) a = (inP l a && !(inS s a)) := by
  obtain ⟨lo, h1, h2⟩ := low l s
  rw [cutP, gather_in (rest_weak (mayP_weak hl h2)), rest_in]
theorem with_weak {l : List Sp} {s : Sp} (hl : mayP l = true) : ∃ lo, Weak lo (withP (restP l s) s) := by
  obtain ⟨lo, h1, h2⟩ := low l s
  refine ⟨lo, ?_⟩
  have hw := rest_weak (s := s) (mayP_weak hl h2)
  unfold withP
  cases hs : emptyP s
  · exact withG_weak (emptyP_not.1 hs) h1 hw (rest_apart (emptyP_not.1 hs))
  · rw [withG_true]; exact hw
theorem add_may {l : List Sp} (s : Sp) (hl : mayP l = true) : mayP (addP l s) = true := by
  obtain ⟨lo, h⟩ := with_weak (s := s) hl
  exact gather_may h
theorem add_in {l : List Sp} (s : Sp) (hl : mayP l = true) (a : Int) : inP (addP l s) a = (inS s a || inP l a) := by
  obtain ⟨lo, h⟩ := with_weak (s := s) hl
  rw [addP, gather_in h, withP]
  cases hs : emptyP s
  · rw [withG_in, rest_in]
    cases inS s a <;> cases inP l a <;> rfl
  · have := emptyP_iff.1 hs
    rw [withG_true, rest_in, inS_not.2 (show ¬ (s.1 ≤ a ∧ a < s.2) by omega)]
    cases inP l a <;> rfl
theorem add_len {l : List Sp} {s : Sp} (hs : s.1 ≤ s.2) : lenP (addP l s) = lenP (cutP l s) + (s.2 - s.1) := by
  rw [addP, cutP, gather_len, gather_len, withP]
  cases he : emptyP s
  · rw [withG_len]; omega
  · have := emptyP_iff.1 he
    rw [withG_true]; omega
theorem cut_add {l : List Sp} (s : Sp) (hl : mayP l = true) : cutP (addP l s) s = cutP l s :=
  may_ext (cut_may s (add_may s hl)) (cut_may s hl) fun a => by
    rw [cut_in s (add_may s hl), cut_in s hl, add_in s hl]
    cases inS s a <;> cases inP l a <;> rfl
/-- One that may be and has all places of s has one that has them. -/
def holdsG (s : Sp) (l : List Sp) : Bool := l.any fun x => decide (s.1 ≥ x.1) && decide (s.2 ≤ x.2)
def holdsP (l : List Sp) (s : Sp) : Bool := holdsG s l || emptyP s
theorem holds_of : ∀ {l : List Sp} {p : Option Int} {s : Sp}, mayG p l = true → s.1 < s.2 → (∀ a, inS s a = true → inP l a = true) → holdsG s l = true
  | [], _, s, _, hs, h => by
    have := h s.1 (inS_iff.2 (by omega))
    cases this
  | x :: l, p, s, hl, hs, h => by
    obtain ⟨h1, _, h3⟩ := mayG_cons.1 hl
    have hw := mayG_weak h3
    by_cases hx : s.1 < x.2
    · have hlo : x.1 ≤ s.1 := by
        have := h s.1 (inS_iff.2 (by omega))
        rw [inP_cons, hw.below (by omega), Bool.or_false, inS_iff] at this
        omega
      have hhi : s.2 ≤ x.2 := by
        rcases Int.lt_or_le x.2 s.2 with h' | h'
        · have := h x.2 (inS_iff.2 (by omega))
          rw [inP_cons, hw.below (by omega), inS_not.2 (by omega)] at this
          cases this
        · exact h'
      simp only [holdsG, List.any_cons, Bool.or_eq_true, Bool.and_eq_true, decide_eq_true_eq]
      exact .inl ⟨hlo, hhi⟩
    · have := holds_of h3 hs fun a ha => by
        have h' := h a ha
        rw [inS_iff] at ha
        rw [inP_cons, inS_not.2 (by omega)] at h'
        simpa using h'
      simp only [holdsG, List.any_cons, Bool.or_eq_true] at this ⊢
      exact .inr this
theorem holds_add {l : List Sp} {s : Sp} (hl : mayP l = true) : holdsP (addP l s) s = true := by
  unfold holdsP
  cases he : emptyP s
  · rw [holds_of (add_may s hl) (emptyP_not.1 he) fun a ha => by rw [add_in s hl, ha]; rfl]; rfl
  · simp

/-! ### the document's -/
def Rising : List Int → Prop
  | [] => True
  | [_] => True
  | a :: b :: l => a < b ∧ Rising (b :: l)
def putG (n : Int) : Bool → List Int → List Int
  | is, [] => if is then [] else [n]
  | is, x :: l => (if (!is && decide (x ≥ n)) = true then [n] else []) ++ (if x ≠ n then [x] else []) ++ putG n (is || decide (x ≥ n)) l
def putP (l : List Int) (n : Int) : List Int := putG n false l
def endsP (l : List Sp) (s : Sp) : List Int := (s :: l).foldl (fun out x => putP (putP out x.1) x.2) []
/-- Rising from lo on. -/
def RisG (lo : Int) : List Int → Prop
  | [] => True
  | a :: l => lo < a ∧ RisG a l
theorem RisG.mono {lo lo' : Int} (h : lo' ≤ lo) : ∀ {l}, RisG lo l → RisG lo' l
  | [], _ => trivial
  | a :: l, hr => ⟨by have := hr.1; omega, hr.2⟩
theorem RisG.mem {lo : Int} : ∀ {l}, RisG lo l → ∀ x ∈ l, lo < x
  | a :: l, hr, x, hx => by
    rcases List.mem_cons.1 hx with rfl | hx
    · exact hr.1
    · have := RisG.mem hr.2 x hx; have := hr.1; omega
theorem putG_true {n : Int} : ∀ {l}, RisG n l → putG n true l = l
  | [], _ => rfl
  | x :: l, hr => by
    have := hr.1
    rw [putG, Bool.true_or, putG_true (hr.2.mono (by omega))]
    have hne : ¬ x = n := by omega
    simp [hne]
theorem put_ris {n lo : Int} (hn : lo < n) : ∀ {l}, RisG lo l → RisG lo (putG n false l)
  | [], _ => ⟨hn, trivial⟩
  | x :: l, hr => by
    have h1 := hr.1
    rw [putG, Bool.false_or]
    by_cases hx : x ≥ n
    · rw [decide_eq_true hx]
      by_cases he : x = n
      · subst he
        rw [putG_true hr.2]
        simpa using ⟨h1, hr.2⟩
      · rw [putG_true (hr.2.mono (by omega))]
        simp only [Bool.not_false, Bool.and_self, if_true, ne_eq, he, not_false_eq_true]
        exact ⟨hn, by omega, hr.2⟩
    · rw [decide_eq_false hx]
      have he : x ≠ n := by omega
      simp only [Bool.not_false, Bool.true_and, Bool.false_eq_true, if_false, ne_eq, he, not_false_eq_true, if_true, List.nil_append, List.cons_append]
      exact ⟨h1, put_ris (by omega) hr.2⟩
theorem put_mem {n lo y : Int} : ∀ {l}, RisG lo l → (y ∈ putG n false l ↔ y = n ∨ y ∈ l)
  | [], _ => by simp [putG]
  | x :: l, hr => by
    rw [putG, Bool.false_or]
    by_cases hx : x ≥ n
    · rw [decide_eq_true hx]
      by_cases he : x = n
      · subst he
        rw [putG_true hr.2]
        simp
      · rw [putG_true (hr.2.mono (by omega))]
        simp [he]
    · rw [decide_eq_false hx]
      have he : x ≠ n := by omega
      simp only [Bool.not_false, Bool.true_and, Bool.false_eq_true, if_false, ne_eq, he, not_false_eq_true, if_true, List.nil_append, List.cons_append, List.mem_cons, put_mem hr.2]
      constructor
      · rintro (h | h | h) <;> simp [h]
      · rintro (h | h | h) <;> simp [h]
theorem fold_ends : ∀ (l : List Sp) (out : List Int) (lo : Int), RisG lo out → (∀ x ∈ l, lo < x.1 ∧ lo < x.2) → RisG lo (l.foldl (fun out x => putP (putP out x.1) x.2) out) ∧ ∀ y, y ∈ l.foldl (fun out x => putP (putP out x.1) x.2) out ↔ y ∈ out ∨ ∃ x ∈ l, y = x.1 ∨ y = x.2
  | [], out, lo, h, _ => ⟨h, by simp⟩
  | x :: l, out, lo, h, hx => by
    have hx1 := hx x List.mem_cons_self
    have r1 := put_ris hx1.1 h
    have r2 := put_ris hx1.2 r1
    obtain ⟨k1, k2⟩ := fold_ends l (putP (putP out x.1) x.2) lo r2 fun y hy => hx y (List.mem_cons_of_mem _ hy)
    refine ⟨k1, fun y => ?_⟩
    rw [List.foldl_cons, k2, show (y ∈ putP (putP out x.1) x.2) = (y ∈ putG x.2 false (putG x.1 false out)) from rfl, put_mem r1, put_mem h]
    simp only [List.mem_cons, exists_eq_or_imp]
    constructor
    · rintro ((h | h | h) | h)
      · exact .inr (.inl (.inr h))
      · exact .inr (.inl (.inl h))
      · exact .inl h
      · exact .inr (.inr h)
    · rintro (h | (h | h) | h)
      · exact .inl (.inr (.inr h))
      · exact .inl (.inr (.inl h))
      · exact .inl (.inl h)
      · exact .inr h
/-- The stretches between ends that are to be there. -/
def runs (c : Int → Bool) : List Int → List Sp
  | [] => []
  | [_] => []
  | a :: b :: l => (if c a then [(a, b)] else []) ++ runs c (b :: l)
def condP (l : List Sp) (s : Sp) (w : Bool) (a : Int) : Bool := !(w && !(inS s a) && !(inP l a) || !w && (inS s a || !(inP l a)))
def setP (l : List Sp) (s : Sp) (w : Bool) : List Sp := gatherP (runs (condP l s w) (endsP l s))
theorem runs_weak (c : Int → Bool) : ∀ {l : List Int} {lo : Int}, RisG lo l → Weak (lo + 1) (runs c l)
  | [], _, _ => trivial
  | [_], _, _ => trivial
  | a :: b :: l, lo, h => by
    have h1 := h.1
    have h2 := h.2.1
    have ih := runs_weak c (l := b :: l) (lo := b - 1) ⟨by omega, h.2.2⟩
    rw [runs]
    split
    · exact ⟨by omega, h2, ih.mono (by omega)⟩
    · exact ih.mono (by omega)
/-- A place is in one just if what is to be there is told alike up to the next end. -/
theorem runs_in (c : Int → Bool) (a : Int) : ∀ {l : List Int} {lo : Int}, RisG lo l → (∀ e ∈ l, e ≤ a → (∀ f ∈ l, f ≤ a → f ≤ e) → c e = c a) → ((∀ e ∈ l, a < e) → c a = false) → ((∀ e ∈ l, e ≤ a) → c a = false) → inP (runs c l) a = c a
  | [], _, _, _, h3, _ => (h3 (by simp)).symm
  | [x], _, _, _, h3, h4 => by
    by_cases hx : a < x
    · exact (h3 (by simpa using hx)).symm
    · exact (h4 (by simp; omega)).symm
  | x :: y :: l, lo, hr, h2, h3, h4 => by
    have hxy := hr.2.1
    have hm := hr.2.mem
    rw [runs, inP_append]
    by_cases hx : a < x
    · have hc := h3 fun e he => by
        rcases List.mem_cons.1 he with rfl | he
        · exact hx
        · have := hm e he; omega
      have hw := runs_weak c (l := y :: l) (lo := x) ⟨hr.2.1, hr.2.2⟩
      rw [hw.below (by omega), hc]
      split
      · simp only [Bool.or_false, inP, List.any_cons, List.any_nil, inS_not]; omega
      · rfl
    · by_cases hy : a < y
      · have hc := h2 x List.mem_cons_self (by omega) fun f hf hfa => by
          rcases List.mem_cons.1 hf with rfl | hf
          · omega
          · rcases List.mem_cons.1 hf with rfl | hf
            · omega
            · have := hr.2.2.mem f hf; omega
        have hw := runs_weak c (l := y :: l) (lo := y - 1) ⟨by omega, hr.2.2⟩
        rw [hw.below (by omega), hc]
        cases hca : c a
        · simp [inP]
        · simp only [if_true, Bool.or_false, inP, List.any_cons, List.any_nil, inS_iff]; omega
      · have ih := runs_in c a (l := y :: l) (lo := x) ⟨hr.2.1, hr.2.2⟩
          (fun e he h1 h' => h2 e (List.mem_cons_of_mem _ he) h1 fun f hf hfa => by
            rcases List.mem_cons.1 hf with rfl | hf
            · have := hm e he; omega
            · exact h' f hf hfa)
          (fun h' => absurd (h' y List.mem_cons_self) hy)
          (fun h' => h4 fun e he => by
            rcases List.mem_cons.1 he with rfl | he
            · omega
            · exact h' e he)
        rw [ih]
        split
        · have : inS (x, y) a = false := by rw [inS_not]; simp only; omega
          simp [inP, this]
        · simp [inP]
/-- What is told of the place of an end holds up to the next end. -/
theorem in_same {E : List Int} {s : Sp} {e a : Int} (h1 : s.1 ∈ E) (h2 : s.2 ∈ E) (he : e ≤ a) (hn : ∀ f ∈ E, f ≤ a → f ≤ e) : inS s e = inS s a := by
  rw [Bool.eq_iff_iff, inS_iff, inS_iff]
  have a1 := hn _ h1
  have a2 := hn _ h2
  omega
theorem set_in {l : List Sp} {s : Sp} (w : Bool) (a : Int) (hl : mayP l = true) : mayP (setP l s w) = true ∧ inP (setP l s w) a = condP l s w a := by
  obtain ⟨lo, h1, h2⟩ := low (l.map fun x => (min x.1 x.2, (0 : Int))) (min s.1 s.2, 0)
  have h2' : ∀ x ∈ l, lo ≤ x.1 ∧ lo ≤ x.2 := fun x hx => by
    have := h2 _ (List.mem_map.2 ⟨x, hx, rfl⟩)
    simp only at this
    omega
  obtain ⟨k1, k2⟩ := fold_ends (s :: l) [] (lo - 1) trivial fun x hx => by
    rcases List.mem_cons.1 hx with rfl | hx
    · simp only at h1; omega
    · have := h2' x hx; omega
  have hE : endsP l s = (s :: l).foldl (fun out x => putP (putP out x.1) x.2) [] := rfl
  rw [← hE] at k1 k2
  have hs1 : s.1 ∈ endsP l s := (k2 _).2 (.inr ⟨s, List.mem_cons_self, .inl rfl⟩)
  have hs2 : s.2 ∈ endsP l s := (k2 _).2 (.inr ⟨s, List.mem_cons_self, .inr rfl⟩)
  have hx1 : ∀ x ∈ l, x.1 ∈ endsP l s := fun x hx => (k2 _).2 (.inr ⟨x, List.mem_cons_of_mem _ hx, .inl rfl⟩)
  have hx2 : ∀ x ∈ l, x.2 ∈ endsP l s := fun x hx => (k2 _).2 (.inr ⟨x, List.mem_cons_of_mem _ hx, .inr rfl⟩)
  have hw := runs_weak (condP l s w) k1
  refine ⟨gather_may hw, ?_⟩
  rw [setP, gather_in hw]
  have hin : ∀ {m : List Sp} {e : Int}, (∀ x ∈ m, x ∈ l) → e ≤ a → (∀ f ∈ endsP l s, f ≤ a → f ≤ e) → inP m e = inP m a := by
    intro m e hm he hn
    induction m with
    | nil => rfl
    | cons x m ih =>
      have hx := hm x List.mem_cons_self
      rw [inP_cons, inP_cons, in_same (hx1 x hx) (hx2 x hx) he hn, ih fun y hy => hm y (List.mem_cons_of_mem _ hy)]
  have hfalse : inS s a = false → inP l a = false → condP l s w a = false := fun q1 q2 => by
    unfold condP; rw [q1, q2]; cases w <;> rfl
  refine runs_in _ a k1 (fun e he hea hn => ?_) (fun hall => hfalse ?_ ?_) (fun hall => hfalse ?_ ?_)
  · unfold condP
    rw [in_same hs1 hs2 hea hn, hin (fun x hx => hx) hea hn]
  · rw [inS_not]; have := hall _ hs1; omega
  · cases hc : inP l a
    · rfl
    · obtain ⟨x, hx, hx3⟩ := inP_true.1 hc
      have := hall _ (hx1 x hx); omega
  · rw [inS_not]; have := hall _ hs2; omega
  · cases hc : inP l a
    · rfl
    · obtain ⟨x, hx, hx3⟩ := inP_true.1 hc
      have := hall _ (hx2 x hx); omega
/-- The code's answer is the document's. -/
theorem set_add {l : List Sp} (s : Sp) (hl : mayP l = true) : setP l s true = addP l s :=
  may_ext (set_in true 0 hl).1 (add_may s hl) fun a => by
    rw [(set_in true a hl).2, add_in s hl, condP]
    cases inS s a <;> cases inP l a <;> rfl
theorem set_cut {l : List Sp} (s : Sp) (hl : mayP l = true) : setP l s false = cutP l s :=
  may_ext (set_in false 0 hl).1 (cut_may s hl) fun a => by
    rw [(set_in false a hl).2, cut_in s hl, condP]
    cases inS s a <;> cases inP l a <;> rfl

/-! ### in whatever order -/
def addAll (l : List Sp) : List Sp := l.foldl addP []
theorem addAll_may : ∀ (l out : List Sp), mayP out = true → mayP (l.foldl addP out) = true ∧ ∀ a, inP (l.foldl addP out) a = (inP out a || inP l a)
  | [], out, h => ⟨h, fun a => by simp [inP]⟩
  | s :: l, out, h => by
    obtain ⟨k1, k2⟩ := addAll_may l (addP out s) (add_may s h)
    refine ⟨k1, fun a => ?_⟩
    rw [List.foldl_cons, k2, add_in s h, inP_cons]
    cases inS s a <;> cases inP out a <;> rfl
theorem addAll_reverse (l : List Sp) : addAll l.reverse = addAll l := by
  obtain ⟨k1, k2⟩ := addAll_may l [] rfl
  obtain ⟨m1, m2⟩ := addAll_may l.reverse [] rfl
  exact may_ext m1 k1 fun a => by
    rw [show inP (addAll l.reverse) a = _ from m2 a, show inP (addAll l) a = _ from k2 a]
    simp [inP]
theorem addAll_holds {l : List Sp} {s : Sp} (hs : s ∈ l) : holdsP (addAll l) s = true := by
  obtain ⟨k1, k2⟩ : mayP (addAll l) = true ∧ ∀ a, inP (addAll l) a = (inP [] a || inP l a) := addAll_may l [] rfl
  unfold holdsP
  cases he : emptyP s
  · rw [holds_of k1 (emptyP_not.1 he) fun a ha => by
      rw [k2, show inP [] a = false from rfl, Bool.false_or, inP_true]
      exact ⟨s, hs, inS_iff.1 ha⟩]
    rfl
  · simp
end Go.Ya.Span
