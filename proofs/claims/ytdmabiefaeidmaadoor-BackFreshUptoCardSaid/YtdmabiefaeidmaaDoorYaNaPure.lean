/-
  Names: the plain law (no program): runes, names, paths.
-/
import Derived.Test.YtdmabiefaeidmaaDoorYaUtfD
import Derived.Test.YtdmabiefaeidmaaDoorYbL
namespace Go.Ya.Na
open Go.Ya
set_option linter.unusedVariables false
set_option linter.unusedSimpArgs false

abbrev Bs := List Int
/-! ### one rune -/
def nb (t : Bs) (j : Nat) : Nat := (t.getD j 0).toNat
def rawP (t : Bs) : Nat × Nat := Lib.decodeN t.length (nb t 0) (nb t 1) (nb t 2) (nb t 3)
/-- The rune that a text begins with, and how many bytes it has; none: 0 bytes. -/
def ptP (t : Bs) : Nat × Nat := if 128 ≤ nb t 0 ∧ (rawP t).2 = 1 then (0, 0) else rawP t
theorem toBA_size (s : Bs) : (toBA s).size = s.length := by simp [toBA, ByteArray.size]
theorem toBA_get {s : Bs} (hy : Bytes s) (i : Nat) : ((toBA s).get! i).toNat = nb s i := by
  unfold nb
  by_cases h : i < s.length
  · have e : (toBA s).get! i = UInt8.ofNat (s.getD i 0).toNat := by
      show (toBA s).data[i]! = _
      rw [List.getD_eq_getElem?_getD, List.getElem?_eq_getElem h, getElem!_pos _ _ (by simpa [toBA] using h)]
      simp [toBA]
    have := hy.at i
    rw [e, UInt8.toNat_ofNat']
    omega
  · have e : (toBA s).get! i = default := by
      show (toBA s).data[i]! = _
      rw [getElem!_neg _ _ (by simpa [toBA] using h)]
    rw [e, List.getD_eq_getElem?_getD, List.getElem?_eq_none qo]; rfl
theorem nb_drop (s : Bs) (k j : Nat) : nb (s.drop k) j = nb s (k + j) := by
  unfold nb
  rw [List.getD_eq_getElem?_getD, List.getD_eq_getElem?_getD, List.getElem?_drop]
theorem decode_raw {s : Bs} (hy : Bytes s) (k : Nat) : Utf8.decode (toBA s) k = rawP (s.drop k) := by
  rw [Lib.decode_at, toBA_size]
  unfold rawP
  rw [toBA_get hy, toBA_get hy, toBA_get hy, toBA_get hy, List.length_drop, nb_drop, nb_drop, nb_drop, nb_drop]
  simp only [Nat.add_zero]
theorem decA_raw {s : Bs} (hy : Bytes s) (h0 : 0 < s.length) : decA s = rawP s := by
  unfold decA Lib.decodeGo
  rw [if_neg (by rw [toBA_size]; omega), decode_raw hy 0, List.drop_zero]
/-- A rune, or none. -/
structure RuneAt (t : Bs) (r w : Nat) : Prop where
  pt : ptP t = (r, w)
  raw : rawP t = (r, w)
  pos : 1 ≤ w
  four : w ≤ 4
  one : w = 1 → r = nb t 0 ∧ nb t 0 < 128
  more : 2 ≤ w → 128 ≤ r ∧ ∀ j, j < w → 128 ≤ nb t j
  len : 0 < t.length → w ≤ t.length
  top : r ≤ 1114111
theorem raw_cases (t : Bs) : (ptP t = (0, 0) ∧ rawP t = (65533, 1)) ∨ ∃ r w, RuneAt t r w := by
  have hp : ptP t = if 128 ≤ nb t 0 ∧ (rawP t).2 = 1 then (0, 0) else rawP t := rfl
  have fin : ∀ w, 2 ≤ w → rawP t = ((rawP t).1, w) → w ≤ 4 → 128 ≤ (rawP t).1 → (∀ j, j < w → 128 ≤ nb t j) → w ≤ t.length → (rawP t).1 ≤ 1114111 → ∃ r w, RuneAt t r w := fun w h2 e h4 hr hb hl ht => by
    refine ⟨(rawP t).1, w, ?_, e, by omega, h4, fun q => by omega, fun _ => ⟨hr, hb⟩, fun _ => hl, ht⟩
    rw [hp, if_neg (by rw [e]; simp only; omega)]; exact e
  generalize hR : rawP t = R at *
  have hr := hR
  unfold rawP Lib.decodeN at hr
  split at hr
  · subst hr
    rename_i h
    exact .inr ⟨_, 1, by rw [hp, if_neg qo], hR, by omega, by omega, fun _ => ⟨rfl, h⟩, fun q => by omega, fun h => h, by omega⟩
  · rename_i h
    have bad : R = (65533, 1) → (ptP t = (0, 0) ∧ R = (65533, 1)) ∨ ∃ r w, RuneAt t r w := fun e => .inl ⟨by rw [hp, e, if_pos ⟨by omega, rfl⟩], e⟩
    split at hr
    · rename_i c
      split at hr
      · refine .inr (fin 2 qo (by rw [← hr]) qo (by rw [← hr]; simp only; omega) (fun j hj => ?_) qo (by rw [← hr]; simp only; omega))
        match j, hj with
        | 0, _ => omega
        | 1, _ => omega
      · exact bad hr.symm
    · split at hr
      · rename_i c
        split at hr
        · refine .inr (fin 3 qo (by rw [← hr]) qo (by rw [← hr]; simp only; omega) (fun j hj => ?_) qo (by rw [← hr]; simp only; omega))
          match j, hj with
          | 0, _ => omega
          | 1, _ => omega
          | 2, _ => omega
        · exact bad hr.symm
      · split at hr
        · rename_i c
          split at hr
          · refine .inr (fin 4 qo (by rw [← hr]) qo (by rw [← hr]; simp only; omega) (fun j hj => ?_) qo (by rw [← hr]; simp only; omega))
            match j, hj with
            | 0, _ => omega
            | 1, _ => omega
            | 2, _ => omega
            | 3, _ => omega
          · exact bad hr.symm
        · exact bad hr.symm
/-! ### runes -/
def runesF (fine : Nat → Bool) : Nat → Bs → Option Nat
  | 0, _ => some 0
  | k + 1, t => if t.length = 0 then some 0 else if (ptP t).2 = 0 then none else if fine (ptP t).1 = true then (runesF fine k (t.drop (ptP t).2)).map (· + 1) else none
/-- How many runes a text has; none: not well formed, or one that is not fine. -/
def runesP (fine : Nat → Bool) (t : Bs) : Option Nat := runesF fine t.length t
theorem runesF_more (fine : Nat → Bool) : ∀ (k : Nat) (t : Bs), t.length ≤ k → runesF fine k t = runesF fine (k + 1) t
  | 0, t, h => by
    rw [runesF, runesF, if_pos qo]
  | k + 1, t, h => by
    rw [runesF, runesF]
    by_cases h0 : t.length = 0
    · rw [if_pos h0, if_pos h0]
    rw [if_neg h0, if_neg h0]
    rcases raw_cases t with ⟨e, _⟩ | ⟨r, w, a⟩
    · rw [e]; rfl
    · rw [a.pt]
      simp only
      rw [runesF_more fine k (t.drop w) (by have := a.pos; rw [List.length_drop]; omega)]
theorem runesF_any {fine : Nat → Bool} {t : Bs} : ∀ {k : Nat}, t.length ≤ k → runesF fine k t = runesP fine t := fun {k} h => by
  unfold runesP
  obtain ⟨d, rfl⟩ : ∃ d, k = t.length + d := ⟨k - t.length, by omega⟩
  clear h
  induction d with
  | zero => rfl
  | succ d ih => rw [← ih, ← Nat.add_assoc]; exact (runesF_more fine _ t qo).symm
theorem runesP_nil (fine : Nat → Bool) {t : Bs} (h : t.length = 0) : runesP fine t = some 0 := by
  rw [List.eq_nil_of_length_eq_zero h]; rfl
theorem runesP_bad {fine : Nat → Bool} {t : Bs} (h : 0 < t.length) (e : (ptP t).2 = 0) : runesP fine t = none := by
  rw [← runesF_any (k := t.length + 1) qo, runesF, if_neg qo, if_pos e]
theorem runesP_no {fine : Nat → Bool} {t : Bs} (h : 0 < t.length) {r w : Nat} (a : RuneAt t r w) (e : fine r = false) : runesP fine t = none := by
  have := a.pos
  rw [← runesF_any (k := t.length + 1) qo, runesF, if_neg qo, a.pt, if_neg (by simp only; omega), if_neg (by rw [e]; decide)]
theorem runesP_step {fine : Nat → Bool} {t : Bs} (h : 0 < t.length) {r w : Nat} (a : RuneAt t r w) (e : fine r = true) : runesP fine t = (runesP fine (t.drop w)).map (· + 1) := by
  have := a.pos
  rw [← runesF_any (k := t.length + 1) qo, runesF, if_neg qo, a.pt, if_neg (by simp only; omega), if_pos e, runesF_any (by rw [List.length_drop]; omega)]
def everyP : Nat → Bool := fun _ => true
def namedP : Nat → Bool := fun r => decide (32 ≤ r) && decide (r ≠ 127) && decide (r ≠ 47)
def goodB (b : Int) : Bool := decide (32 ≤ b) && decide (b ≠ 127) && decide (b ≠ 47)
/-- Rune by rune, or byte by byte. -/
theorem named_every : ∀ (k : Nat) {t : Bs}, t.length ≤ k → Bytes t → (runesP namedP t).isSome = (t.all goodB && (runesP everyP t).isSome)
  | k, t, hk, hy => by
    by_cases h0 : t.length = 0
    · rw [runesP_nil _ h0, runesP_nil _ h0, List.eq_nil_of_length_eq_zero h0]; rfl
    have h1 : 0 < t.length := by omega
    rcases raw_cases t with ⟨e, _⟩ | ⟨r, w, a⟩
    · rw [runesP_bad h1 (by rw [e]), runesP_bad h1 (by rw [e])]; simp
    have hp := a.pos
    have hl := a.len h1
    cases k with
    | zero => omega
    | succ k =>
    have ih := named_every k (t := t.drop w) (by rw [List.length_drop]; omega) (hy.drop w)
    have hsp : t.all goodB = ((t.take w).all goodB && (t.drop w).all goodB) := by
      conv => lhs; rw [← List.take_append_drop w t]
      rw [List.all_append]
    rw [runesP_step h1 a (show everyP r = true from rfl), Option.isSome_map, hsp]
    have hat : ∀ j, (nb t j : Int) = t.getD j 0 := fun j => by have := hy.at j; unfold nb; omega
    have htk : (t.take w).all goodB = namedP r := by
      by_cases h2 : 2 ≤ w
      · obtain ⟨q1, q2⟩ := a.more h2
        have : namedP r = true := by unfold namedP; simp; omega
        rw [this, List.all_eq_true]
        intro b hb
        obtain ⟨j, hj, rfl⟩ := List.getElem_of_mem hb
        rw [List.length_take] at hj
        have := q2 j qo
        have e : (t.take w)[j] = t.getD j 0 := by rw [List.getElem_take, List.getD_eq_getElem?_getD, List.getElem?_eq_getElem qo]; rfl
        rw [e, ← hat]
        unfold goodB; simp; omega
      · obtain rfl : w = 1 := by omega
        obtain ⟨q1, q2⟩ := a.one rfl
        cases t with
        | nil => simp at h1
        | cons b t =>
          have hb := hat 0
          simp only [List.getD_cons_zero] at hb
          rw [List.take_succ_cons, List.take_zero, List.all_cons, List.all_nil, Bool.and_true, q1]
          generalize nb (b :: t) 0 = m at hb
          subst hb
          unfold goodB namedP
          rw [Bool.eq_iff_iff]
          simp
          omega
    cases hn : namedP r with
    | true => rw [runesP_step h1 a hn, Option.isSome_map, ih, htk, hn, Bool.true_and]
    | false => rw [runesP_no h1 a hn, htk, hn]; simp
/-- A rune stays one where more stands behind. -/
theorem rune_app {t u : Bs} {r w : Nat} (h : 0 < t.length) (a : RuneAt t r w) : RuneAt (t ++ u) r w := by
  have hl := a.len h
  have hp := a.pos
  have h4 := a.four
  have e : ∀ j, j < w → nb (t ++ u) j = nb t j := fun j hj => by
    unfold nb
    rw [List.getD_eq_getElem?_getD, List.getD_eq_getElem?_getD, List.getElem?_append_left qo]
  have er : rawP (t ++ u) = (r, w) := by
    have hr := a.raw
    unfold rawP at hr ⊢
    rw [e 0 qo, List.length_append]
    by_cases w1 : w = 1
    · obtain ⟨q1, q2⟩ := a.one w1
      subst q1; subst w1
      unfold Lib.decodeN
      rw [if_pos q2]
    have e1 := e 1 qo
    rw [e1]
    by_cases w2 : w = 2
    · subst w2
      unfold Lib.decodeN at hr ⊢
      split at hr
      · cases hr
      rename_i c0
      rw [if_neg c0]
      split at hr
      · rename_i c
        rw [if_pos qo]
        exact hr
      · split at hr <;> (try split at hr) <;> (try split at hr) <;> cases hr
    have e2 := e 2 qo
    rw [e2]
    by_cases w3 : w = 3
    · subst w3
      unfold Lib.decodeN at hr ⊢
      split at hr
      · cases hr
      rename_i c0
      rw [if_neg c0]
      split at hr
      · split at hr <;> cases hr
      rename_i c1
      rw [if_neg qo]
      split at hr
      · rename_i c
        rw [if_pos qo]
        exact hr
      · split at hr <;> (try split at hr) <;> cases hr
    have e3 := e 3 qo
    rw [e3]
    obtain rfl : w = 4 := by omega
    unfold Lib.decodeN at hr ⊢
    split at hr
    · cases hr
    rename_i c0
    rw [if_neg c0]
    split at hr
    · split at hr <;> cases hr
    rename_i c1
    rw [if_neg qo]
    split at hr
    · split at hr <;> cases hr
    rename_i c2
    rw [if_neg qo]
    split at hr
    · rename_i c
      rw [if_pos qo]
      exact hr
    · cases hr
  refine ⟨?_, er, hp, h4, fun q => ?_, fun q => ⟨(a.more q).1, fun j hj => by rw [e j hj]; exact (a.more q).2 j hj⟩, fun _ => by rw [List.length_append]; omega, a.top⟩
  · unfold ptP
    rw [er, if_neg]
    · intro ⟨q1, q2⟩
      simp only at q2
      have := (a.one q2).2
      rw [e 0 qo] at q1
      omega
  · rw [e 0 qo]; exact a.one q
/-- None stays none where nothing behind goes on with it. -/
theorem none_app {t u : Bs} (h : 0 < t.length) (e : (ptP t).2 = 0) (hu : u.length = 0 ∨ nb u 0 / 64 ≠ 2) : (ptP (t ++ u)).2 = 0 := by
  rcases raw_cases (t ++ u) with ⟨q, _⟩ | ⟨r, w, a⟩
  · rw [q]
  exfalso
  have hr := a.raw
  have hp := a.pos
  have ag : ∀ j, j < t.length → nb (t ++ u) j = nb t j := fun j hj => by
    unfold nb
    rw [List.getD_eq_getElem?_getD, List.getD_eq_getElem?_getD, List.getElem?_append_left hj]
  have au : nb (t ++ u) t.length = nb u 0 := by
    unfold nb
    rw [List.getD_eq_getElem?_getD, List.getD_eq_getElem?_getD, List.getElem?_append_right qo, Nat.sub_self]
  rcases raw_cases t with ⟨q1, q2⟩ | ⟨r', w', a'⟩
  · have hl := a.len (by rw [List.length_append]; omega)
    rw [List.length_append] at hl
    -- the first byte
    have z0 := ag 0 h
    unfold rawP Lib.decodeN at hr q2
    rw [z0] at hr
    rw [List.length_append] at hr
    have key : ∀ j, t.length = j → nb (t ++ u) j / 64 = 2 → j < t.length + u.length → False := fun j hj h2 hlt => by
      subst hj
      rw [au] at h2
      rcases hu with hu | hu
      · omega
      · exact hu h2
    by_cases l1 : 1 < t.length
    · rw [ag 1 l1] at hr
      by_cases l2 : 2 < t.length
      · rw [ag 2 l2] at hr
        by_cases l3 : 3 < t.length
        · rw [ag 3 l3] at hr
          split at hr
          · rename_i c; rw [if_pos c] at q2; have := (Prod.mk.inj q2).1; omega
          rename_i c0
          rw [if_neg c0] at q2
          split at hr
          · rename_i c
            rw [if_pos qo] at q2
            rw [q2] at hr; cases hr
            have := a.one rfl; omega
          rename_i c1
          rw [if_neg qo] at q2
          split at hr
          · rename_i c
            rw [if_pos qo] at q2
            rw [q2] at hr; cases hr
            have := a.one rfl; omega
          rename_i c2
          rw [if_neg qo] at q2
          split at hr
          · rename_i c
            rw [if_pos qo] at q2
            rw [q2] at hr; cases hr
            have := a.one rfl; omega
          · cases hr
            have := a.one rfl; omega
        · have k3 := key 3
          split at hr
          · rename_i c; rw [if_pos c] at q2; have := (Prod.mk.inj q2).1; omega
          rename_i c0
          rw [if_neg c0] at q2
          split at hr
          · rename_i c
            rw [if_pos qo] at q2
            rw [q2] at hr; cases hr
            have := a.one rfl; omega
          rename_i c1
          rw [if_neg qo] at q2
          split at hr
          · rename_i c
            rw [if_pos qo] at q2
            rw [q2] at hr; cases hr
            have := a.one rfl; omega
          split at hr
          · rename_i c
            exact k3 qo c.2.2.2.2 c.2.2.2.1
          · cases hr
            have := a.one rfl; omega
      · have k2 := key 2
        split at hr
        · rename_i c; rw [if_pos c] at q2; have := (Prod.mk.inj q2).1; omega
        rename_i c0
        rw [if_neg c0] at q2
        split at hr
        · rename_i c
          rw [if_pos qo] at q2
          rw [q2] at hr; cases hr
          have := a.one rfl; omega
        split at hr
        · rename_i c
          exact k2 qo c.2.2.2 c.2.2.1
        split at hr
        · rename_i c
          exact k2 qo c.2.2.1.2 c.2.2.1.1
        · cases hr
          have := a.one rfl; omega
    · have k1 := key 1
      split at hr
      · rename_i c; rw [if_pos c] at q2; have := (Prod.mk.inj q2).1; omega
      split at hr
      · rename_i c
        exact k1 qo c.2.2 c.2.1
      split at hr
      · rename_i c
        exact k1 qo c.2.1.2 c.2.1.1
      split at hr
      · rename_i c
        exact k1 qo c.2.1.2 c.2.1.1
      · cases hr
        have := a.one rfl; omega
  · rw [a'.pt] at e
    have := a'.pos
    simp only at e
    omega
theorem drop_app_le {t u : Bs} {w : Nat} (h : w ≤ t.length) : (t ++ u).drop w = t.drop w ++ u := List.drop_append_of_le_length h
/-- Well formed, then another one. -/
theorem runes_app : ∀ (k : Nat) {t u : Bs} {n : Nat}, t.length ≤ k → runesP everyP t = some n → runesP everyP (t ++ u) = (runesP everyP u).map (· + n)
  | k, t, u, n, hk, h => by
    by_cases h0 : t.length = 0
    · rw [runesP_nil _ h0] at h
      cases h
      rw [List.eq_nil_of_length_eq_zero h0, List.nil_append]
      cases runesP everyP u <;> rfl
    have h1 : 0 < t.length := by omega
    have h1' : 0 < (t ++ u).length := by rw [List.length_append]; omega
    rcases raw_cases t with ⟨e, _⟩ | ⟨r, w, a⟩
    · rw [runesP_bad h1 (by rw [e])] at h; cases h
    cases k with
    | zero => omega
    | succ k =>
    have hp := a.pos
    have hl := a.len h1
    rw [runesP_step h1 a rfl] at h
    obtain ⟨m, hm, rfl⟩ := Option.map_eq_some_iff.1 h
    rw [runesP_step h1' (rune_app h1 a) rfl, drop_app_le hl, runes_app k (by rw [List.length_drop]; omega) hm]
    cases runesP everyP u with
    | none => rfl
    | some x => simp only [Option.map_some]; congr 1
/-- Not well formed, then one that is. -/
theorem runes_none : ∀ (k : Nat) {t u : Bs}, t.length ≤ k → runesP everyP t = none → runesP everyP u ≠ none → runesP everyP (t ++ u) = none
  | k, t, u, hk, h, hu => by
    by_cases h0 : t.length = 0
    · rw [runesP_nil _ h0] at h; cases h
    have h1 : 0 < t.length := by omega
    have h1' : 0 < (t ++ u).length := by rw [List.length_append]; omega
    rcases raw_cases t with ⟨e, _⟩ | ⟨r, w, a⟩
    · refine runesP_bad h1' (none_app h1 (by rw [e]) ?_)
      by_cases q : u.length = 0
      · exact .inl q
      · right
        intro q2
        apply hu
        refine runesP_bad qo ?_
        rcases raw_cases u with ⟨e, _⟩ | ⟨r, w, a⟩
        · rw [e]
        · exfalso
          have hr := a.raw
          unfold rawP Lib.decodeN at hr
          rw [if_neg qo, if_neg qo, if_neg qo, if_neg qo] at hr
          cases hr
          have := a.one rfl; omega
    cases k with
    | zero => omega
    | succ k =>
    have hp := a.pos
    have hl := a.len h1
    rw [runesP_step h1 a rfl] at h
    have h' : runesP everyP (t.drop w) = none := by
      cases q : runesP everyP (t.drop w) with
      | none => rfl
      | some x => rw [q] at h; cases h
    rw [runesP_step h1' (rune_app h1 a) rfl, drop_app_le hl, runes_none k (by rw [List.length_drop]; omega) h' hu]; rfl

/-! ### names -/
def isP (s : Bs) : Bool := decide (1 ≤ s.length) && decide (s.length ≤ 32) && decide (s ≠ [46]) && decide (s ≠ [46, 46]) && (runesP namedP s).isSome
theorem isP_doc {s : Bs} (hy : Bytes s) : isP s = (decide (1 ≤ s.length) && decide (s.length ≤ 32) && decide (s ≠ [46]) && decide (s ≠ [46, 46]) && (s.all goodB && (runesP everyP s).isSome)) := by
  unfold isP; rw [named_every _ (Nat.le_refl _) hy]
theorem isP_slash {s : Bs} (hy : Bytes s) (h : isP s = true) : ∀ b ∈ s, b ≠ 47 := fun b hb => by
  rw [isP_doc hy] at h
  simp only [Bool.and_eq_true, List.all_eq_true] at h
  have := h.2.1 b hb
  unfold goodB at this
  simp at this
  omega
theorem isP_len {s : Bs} (h : isP s = true) : 1 ≤ s.length ∧ s.length ≤ 32 := by
  unfold isP at h
  simp only [Bool.and_eq_true, decide_eq_true_eq] at h
  exact ⟨h.1.1.1.1, h.1.1.1.2⟩
/-! ### paths -/
end Go.Ya.Na
