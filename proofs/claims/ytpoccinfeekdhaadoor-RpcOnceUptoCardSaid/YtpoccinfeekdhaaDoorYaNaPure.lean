/-
  Names: the plain law (no program): runes, names, paths.
-/
import Derived.Test.YtpoccinfeekdhaaDoorYaUtfD
import Derived.Test.YtpoccinfeekdhaaDoorYbL
namespace Go.Ya.Na
open Go.Ya
set_option linter.unusedVariables false
set_option linter.unusedSimpArgs false
abbrev Bs := List Int
/-! ### one rune -/
def nb (t : Bs) (j : Nat) : Nat := (t.getD j 0).toNat
def rawP (t : Bs) : Nat × Nat := Lib.decodeN t.length (nb t 0) (nb t 1) (nb t 2) (nb t 3)
def ptP (t : Bs) : Nat × Nat := if 128 ≤ nb t 0 ∧ (rawP t).2 = 1 then (0, 0) else rawP t
theorem toBA_size (s : Bs) : (toBA s).size = s.length := by simp [toBA, ByteArray.size]
theorem toBA_get {s : Bs} (hy : Bytes s) (i : Nat) : ((toBA s).get! i).toNat = nb s i := by
  unfold nb
  by_cases h : i < s.length
  · have e : (toBA s).get! i = UInt8.ofNat (s.getD i 0).toNat := by
      show (toBA s).data[i]! = _
      rw [List.getD_eq_getElem?_getD, List.getElem?_eq_getElem h, getElem!_pos _ _ (by simpa [toBA] using h)]
      simp [toBA]
    have := hy.at i
    rw [e, UInt8.toNat_ofNat']
    omega
  · have e : (toBA s).get! i = default := by
      show (toBA s).data[i]! = _
      rw [getElem!_neg _ _ (by simpa [toBA] using h)]
    rw [e, List.getD_eq_getElem?_getD, List.getElem?_eq_none qo]; rfl
theorem nb_drop (s : Bs) (k j : Nat) : nb (s.drop k) j = nb s (k + j) := by
  unfold nb
  rw [List.getD_eq_getElem?_getD, List.getD_eq_getElem?_getD, List.getElem?_drop]
theorem decode_raw {s : Bs} (hy : Bytes s) (k : Nat) : Utf8.decode (toBA s) k = rawP (s.drop k) := by
  rw [Lib.decode_at, toBA_size]
  unfold rawP
  rw [toBA_get hy, toBA_get hy, toBA_get hy, toBA_get hy, List.length_drop, nb_drop, nb_drop, nb_drop, nb_drop]
  simp only [Nat.add_zero]
theorem decA_raw {s : Bs} (hy : Bytes s) (h0 : 0 < s.length) : decA s = rawP s := by
  unfold decA Lib.decodeGo
  rw [if_neg (by rw [toBA_size]; omega), decode_raw hy 0, List.drop_zero]
structure RuneAt (t : Bs) (r w : Nat) : Prop where
  pt : ptP t = (r, w)
  raw : rawP t = (r, w)
  pos : 1 ≤ w
  four : w ≤ 4
  one : w = 1 → r = nb t 0 ∧ nb t 0 < 128
  more : 2 ≤ w → 128 ≤ r ∧ ∀ j, j < w → 128 ≤ nb t j
  len : 0 < t.length → w ≤ t.length
  top : r ≤ 1114111
theorem raw_cases (t : Bs) : (ptP t = (0, 0) ∧ rawP t = (65533, 1)) ∨ ∃ r w, RuneAt t r w := by
  have hp : ptP t = if 128 ≤ nb t 0 ∧ (rawP t).2 = 1 then (0, 0) else rawP t := rfl
  have fin : ∀ w, 2 ≤ w → rawP t = ((rawP t).1, w) → w ≤ 4 → 128 ≤ (rawP t).1 → (∀ j, j < w → 128 ≤ nb t j) → w ≤ t.length → (rawP t).1 ≤ 1114111 → ∃ r w, RuneAt t r w := fun w h2 e h4 hr hb hl ht => by
    refine ⟨(rawP t).1, w, ?_, e, by omega, h4, fun q => by omega, fun _ => ⟨hr, hb⟩, fun _ => hl, ht⟩
    rw [hp, if_neg (by rw [e]; simp only; omega)]; exact e
  generalize hR : rawP t = R at *
  have hr := hR
  unfold rawP Lib.decodeN at hr
  split at hr
  · subst hr
    rename_i h
    exact .inr ⟨_, 1, by rw [hp, if_neg qo], hR, by omega, by omega, fun _ => ⟨rfl, h⟩, fun q => by omega, fun h => h, by omega⟩
  · rename_i h
    have bad : R = (65533, 1) → (ptP t = (0, 0) ∧ R = (65533, 1)) ∨ ∃ r w, RuneAt t r w := fun e => .inl ⟨by rw [hp, e, if_pos ⟨by omega, rfl⟩], e⟩
    split at hr
    · rename_i c
      split at hr
      · refine .inr (fin 2 qo (by rw [← hr]) qo (by rw [← hr]; simp only; omega) (fun j hj => ?_) qo (by rw [← hr]; simp only; omega))
        match j, hj with
        | 0, _ => omega
        | 1, _ => omega
      · exact bad hr.symm
    · split at hr
      · rename_i c
        split at hr
        · refine .inr (fin 3 qo (by rw [← hr]) qo (by rw [← hr]; simp only; omega) (fun j hj => ?_) qo (by rw [← hr]; simp only; omega))
          match j, hj with
          | 0, _ => omega
          | 1, _ => omega
          | 2, _ => omega
        · exact bad hr.symm
      · split at hr
        · rename_i c
          split at hr
          · refine .inr (fin 4 qo (by rw [← hr]) qo (by rw [← hr]; simp only; omega) (fun j hj => ?_) qo (by rw [← hr]; simp only; omega))
            match j, hj with
            | 0, _ => omega
            | 1, _ => omega
            | 2, _ => omega
            | 3, _ => omega
          · exact bad hr.symm
        · exact bad hr.symm
/-! ### runes -/
def runesF (fine : Nat → Bool) : Nat → Bs → Option Nat
  | 0, _ => some 0
  | k + 1, t => if t.length = 0 then some 0 else if (ptP t).2 = 0 then none else if fine (ptP t).1 = true then (runesF fine k (t.drop (ptP t).2)).map (· + 1) else none
def runesP (fine : Nat → Bool) (t : Bs) : Option Nat := runesF fine t.length t
theorem runesF_more (fine : Nat → Bool) : ∀ (k : Nat) (t : Bs), t.length ≤ k → runesF fine k t = runesF fine (k + 1) t
  | 0, t, h => by
    rw [runesF, runesF, if_pos qo]
  | k + 1, t, h => by
    rw [runesF, runesF]
    by_cases h0 : t.length = 0
    · rw [if_pos h0, if_pos h0]
    rw [if_neg h0, if_neg h0]
    rcases raw_cases t with ⟨e, _⟩ | ⟨r, w, a⟩
    · rw [e]; rfl
    · rw [a.pt]
      simp only
      rw [runesF_more fine k (t.drop w) (by have := a.pos; rw [List.length_drop]; omega)]
theorem runesF_any {fine : Nat → Bool} {t : Bs} : ∀ {k : Nat}, t.length ≤ k → runesF fine k t = runesP fine t := fun {k} h => by
  unfold runesP
  obtain ⟨d, rfl⟩ : ∃ d, k = t.length + d := ⟨k - t.length, by omega⟩
  clear h
  induction d with
  | zero => rfl
  | succ d ih => rw [← ih, ← Nat.add_assoc]; exact (runesF_more fine _ t qo).symm
theorem runesP_nil (fine : Nat → Bool) {t : Bs} (h : t.length = 0) : runesP fine t = some 0 := by
  rw [List.eq_nil_of_length_eq_zero h]; rfl
theorem runesP_bad {fine : Nat → Bool} {t : Bs} (h : 0 < t.length) (e : (ptP t).2 = 0) : runesP fine t = none := by
  rw [← runesF_any (k := t.length + 1) qo, runesF, if_neg qo, if_pos e]
theorem runesP_no {fine : Nat → Bool} {t : Bs} (h : 0 < t.length) {r w : Nat} (a : RuneAt t r w) (e : fine r = false) : runesP fine t = none := by
  have := a.pos
  rw [← runesF_any (k := t.length + 1) qo, runesF, if_neg qo, a.pt, if_neg (by simp only; omega), if_neg (by rw [e]; decide)]
theorem runesP_step {fine : Nat → Bool} {t : Bs} (h : 0 < t.length) {r w : Nat} (a : RuneAt t r w) (e : fine r = true) : runesP fine t = (runesP fine (t.drop w)).map (· + 1) := by
  have := a.pos
  rw [← runesF_any (k := t.length + 1) qo, runesF, if_neg qo, a.pt, if_neg (by simp only; omega), if_pos e, runesF_any (by rw [List.length_drop]; omega)]
def everyP : Nat → Bool := fun _ => true
def namedP : Nat → Bool := fun r => decide (32 ≤ r) && decide (r ≠ 127) && decide (r ≠ 47)
def goodB (b : Int) : Bool := decide (32 ≤ b) && decide (b ≠ 127) && decide (b ≠ 47)
theorem named_every : ∀ (k : Nat) {t : Bs}, t.length ≤ k → Bytes t → (runesP namedP t).isSome = (t.all goodB && (runesP everyP t).isSome)
  | k, t, hk, hy => by
    by_cases h0 : t.length = 0
    · rw [runesP_nil _ h0, runesP_nil _ h0, List.eq_nil_of_length_eq_zero h0]; rfl
    have h1 : 0 < t.length := by omega
    rcases raw_cases t with ⟨e, _⟩ | ⟨r, w, a⟩
    · rw [runesP_bad h1 (by rw [e]), runesP_bad h1 (by rw [e])]; simp
    have hp := a.pos
    have hl := a.len h1
    cases k with
    | zero => omega
    | succ k =>
    have ih := named_every k (t := t.drop w) (by rw [List.length_drop]; omega) (hy.drop w)
    have hsp : t.all goodB = ((t.take w).all goodB && (t.drop w).all goodB) := by
      conv => lhs; rw [← List.take_append_drop w t]
      rw [List.all_append]
    rw [runesP_step h1 a (show everyP r = true from rfl), Option.isSome_map, hsp]
    have hat : ∀ j, (nb t j : Int) = t.getD j 0 := fun j => by have := hy.at j; unfold nb; omega
    have htk : (t.take w).all goodB = namedP r := by
      by_cases h2 : 2 ≤ w
      · obtain ⟨q1, q2⟩ := a.more h2
        have : namedP r = true := by unfold namedP; simp; omega
        rw [this, List.all_eq_true]
        intro b hb
        obtain ⟨j, hj, rfl⟩ := List.getElem_of_mem hb
        rw [List.length_take] at hj
        have := q2 j qo
        have e : (t.take w)[j] = t.getD j 0 := by rw [List.getElem_take, List.getD_eq_getElem?_getD, List.getElem?_eq_getElem qo]; rfl
        rw [e, ← hat]
        unfold goodB; simp; omega
      · obtain rfl : w = 1 := by omega
        obtain ⟨q1, q2⟩ := a.one rfl
        cases t with
        | nil => simp at h1
        | cons b t =>
          have hb := hat 0
          simp only [List.getD_cons_zero] at hb
          rw [List.take_succ_cons, List.take_zero, List.all_cons, List.all_nil, Bool.and_true, q1]
          generalize nb (b :: t) 0 = m at hb
          subst hb
          unfold goodB namedP
          rw [Bool.eq_iff_iff]
          simp
          omega
    cases hn : namedP r with
    | true => rw [runesP_step h1 a hn, Option.isSome_map, ih, htk, hn, Bool.true_and]
    | false => rw [runesP_no h1 a hn, htk, hn]; simp
/-! ### names -/
def isP (s : Bs) : Bool := decide (1 ≤ s.length) && decide (s.length ≤ 32) && decide (s ≠ [46]) && decide (s ≠ [46, 46]) && (runesP namedP s).isSome
theorem isP_doc {s : Bs} (hy : Bytes s) : isP s = (decide (1 ≤ s.length) && decide (s.length ≤ 32) && decide (s ≠ [46]) && decide (s ≠ [46, 46]) && (s.all goodB && (runesP everyP s).isSome)) := by
  unfold isP; rw [named_every _ (Nat.le_refl _) hy]
theorem isP_len {s : Bs} (h : isP s = true) : 1 ≤ s.length ∧ s.length ≤ 32 := by
  unfold isP at h
  simp only [Bool.and_eq_true, decide_eq_true_eq] at h
  exact ⟨h.1.1.1.1, h.1.1.1.2⟩
/-! ### paths -/
end Go.Ya.Na
