/-
  Regions that draw their order: whatever order the edges allow, the model comes to what the abstract machine comes to in the order of the text.
-/
import Derived.Test.YtekbgdmemenheaaYaDraw1
namespace Go.Ya
set_option linter.unusedVariables false
set_option linter.unusedSimpArgs false
open Classical

/-! ### what the operations done so far have left, in the order of the text -/
noncomputable def Cur (l : List SOper) (val : Nat → AV) (X : Nat → Prop) (tm : List AV) : Nat → List AV
  | 0 => tm
  | k + 1 => if X k then putT (Cur l val X tm k) ((l[k]?).bind (·.dst)) (val k) else Cur l val X tm k

theorem cur_succ (l : List SOper) (val : Nat → AV) (X : Nat → Prop) (tm : List AV) (k : Nat) : Cur l val X tm (k + 1) = if X k then putT (Cur l val X tm k) ((l[k]?).bind (·.dst)) (val k) else Cur l val X tm k := rfl
theorem putT_len (tm : List AV) (d : Option Nat) (v : AV) : (putT tm d v).length = tm.length := by cases d <;> simp [putT]
theorem putT_get {tm : List AV} {d : Option Nat} {v : AV} {t : Nat} (h : ∀ x, d = some x → x ≠ t) : (putT tm d v)[t]? = tm[t]? := by
  cases d with
  | none => rfl
  | some x => simp only [putT]; rw [List.getElem?_set_ne (h x rfl)]

/-- Two rows of temporaries read alike at t. -/
theorem cur_get {l : List SOper} {val : Nat → AV} {X : Nat → Prop} {tm : List AV} {T : Nat → List AV} (h0 : T 0 = tm) (hT : ∀ i o, l[i]? = some o → T (i + 1) = putT (T i) o.dst (val i)) {t : Nat} {i : Nat} (hi : i ≤ l.length)
    (h1 : ∀ j o, j < i → l[j]? = some o → o.dst = some t → X j) : (Cur l val X tm i)[t]? = (T i)[t]? ∧ (Cur l val X tm i).length = (T i).length := by
  induction i with
  | zero => exact ⟨by rw [h0]; rfl, by rw [h0]; rfl⟩
  | succ i ih =>
    have ih := ih (by omega) fun j o hj => h1 j o (by omega)
    have hlt : i < l.length := by omega
    have ho : l[i]? = some l[i] := List.getElem?_eq_getElem hlt
    rw [hT i _ ho]
    simp only [cur_succ]
    by_cases hx : X i
    · rw [if_pos hx, ho]
      simp only [Option.bind_some]
      refine ⟨?_, by rw [putT_len, putT_len]; exact ih.2⟩
      cases hd : (l[i]).dst with
      | none => exact ih.1
      | some d =>
        simp only [putT, List.getElem?_set]
        rw [ih.1, ih.2]
    · rw [if_neg hx]
      refine ⟨?_, by rw [putT_len]; exact ih.2⟩
      rw [ih.1, putT_get]
      intro x hd e
      subst e
      exact hx (h1 i _ (by omega) ho hd)
theorem cur_stay {l : List SOper} {val : Nat → AV} {X : Nat → Prop} {tm : List AV} {t : Nat} {i : Nat} : ∀ (n : Nat), i ≤ n → (∀ j o, i ≤ j → j < n → l[j]? = some o → X j → o.dst ≠ some t) → (Cur l val X tm n)[t]? = (Cur l val X tm i)[t]?
  | 0, hi, _ => by
    have : i = 0 := by omega
    subst this; rfl
  | n + 1, hi, h => by
    by_cases e : i = n + 1
    · subst e; rfl
    · simp only [cur_succ]
      by_cases hx : X n
      · rw [if_pos hx, putT_get, cur_stay n (by omega) fun j o a b c d => h j o a (by omega) c d]
        intro x hd e
        subst e
        cases ho : l[n]? with
        | none => rw [ho] at hd; cases hd
        | some o => rw [ho] at hd; exact h n o (by omega) (by omega) ho hx hd
      · rw [if_neg hx]
        exact cur_stay n (by omega) fun j o a b c d => h j o a (by omega) c d
theorem cur_all {l : List SOper} {val : Nat → AV} {X : Nat → Prop} {tm : List AV} {T : Nat → List AV} (h0 : T 0 = tm) (hT : ∀ i o, l[i]? = some o → T (i + 1) = putT (T i) o.dst (val i)) (hall : ∀ j, j < l.length → X j) : ∀ i, i ≤ l.length → Cur l val X tm i = T i
  | 0, _ => h0.symm
  | i + 1, hi => by
    have ho : l[i]? = some l[i] := List.getElem?_eq_getElem (by omega)
    rw [hT i _ ho]
    simp only [cur_succ]
    rw [if_pos (hall i (by omega)), ho, cur_all h0 hT hall i (by omega)]
    rfl
theorem cur_len {l : List SOper} {val : Nat → AV} {X : Nat → Prop} {tm : List AV} : ∀ i, (Cur l val X tm i).length = tm.length
  | 0 => rfl
  | i + 1 => by
    simp only [cur_succ]
    split
    · rw [putT_len, cur_len i]
    · exact cur_len i
/-- One more is done, and nothing that is done stands behind it and writes the same. -/
theorem cur_add {l : List SOper} {val : Nat → AV} {X : Nat → Prop} {tm : List AV} {i : Nat} {o : SOper} (ho : l[i]? = some o) (hx : ¬ X i) (hw : ∀ j o', i < j → l[j]? = some o' → X j → ∀ d, o.dst = some d → o'.dst ≠ some d) :
    ∀ n, i < n → Cur l val (fun j => X j ∨ j = i) tm n = putT (Cur l val X tm n) o.dst (val i)
  | 0, h => by omega
  | n + 1, h => by
    have before : ∀ k, k ≤ i → Cur l val (fun j => X j ∨ j = i) tm k = Cur l val X tm k := by
      intro k
      induction k with
      | zero => intro _; rfl
      | succ k ih =>
        intro hk
        simp only [cur_succ]
        rw [ih (by omega)]
        have : (X k ∨ k = i) ↔ X k := ⟨fun h => h.resolve_right (by omega), .inl⟩
        simp only [this]
    by_cases e : n = i
    · subst e
      simp only [cur_succ]
      rw [if_pos (by simp), if_neg hx, ho, before n (Nat.le_refl _)]
      rfl
    · have ih := cur_add (val := val) (tm := tm) ho hx hw n (by omega)
      simp only [cur_succ]
      rw [ih]
      by_cases hxn : X n
      · rw [if_pos (.inl hxn), if_pos hxn]
        cases hd : o.dst with
        | none => rfl
        | some d =>
          cases hn : l[n]? with
          | none => rfl
          | some o' =>
            simp only [Option.bind_some]
            cases hd' : o'.dst with
            | none => rfl
            | some d' =>
              have : d ≠ d' := fun e' => hw n o' (by omega) hn hxn d hd (by rw [hd', e'])
              simp only [putT]
              rw [List.set_comm _ _ (Ne.symm this)]
      · rw [if_neg (by simp [hxn, e]), if_neg hxn]

/-! ### temporaries that are named -/
theorem ev_eq {tm tm2 : List AV} {x : Opd} (h : ∀ t ∈ x.names, tm[t]? = tm2[t]?) : ev tm x = ev tm2 x := by
  cases x with
  | c v => rfl
  | t n =>
    have := h n (by simp [Opd.names])
    simp only [ev, List.getD_eq_getElem?_getD, this]
theorem evs_eq {tm tm2 : List AV} : ∀ {l : List Opd}, (∀ t ∈ l.flatMap Opd.names, tm[t]? = tm2[t]?) → evs tm l = evs tm2 l
  | [], _ => rfl
  | x :: l, h => by
    simp only [evs, List.map_cons]
    rw [ev_eq fun t ht => h t (by simp [ht])]
    congr 1
    exact evs_eq fun t ht => h t (by simp only [List.flatMap_cons, List.mem_append]; exact .inr ht)
theorem evo_eq {tm tm2 : List AV} {x : Option Opd} (h : ∀ t ∈ optNames x, tm[t]? = tm2[t]?) : x.map (ev tm) = x.map (ev tm2) := by
  cases x with
  | none => rfl
  | some x => simp only [Option.map_some]; rw [ev_eq h]
theorem fill_eq {tm tm2 : List AV} : ∀ {ps : List (Nat × Nat × Opd)} {cs : List AV}, (∀ t ∈ partNames ps, tm[t]? = tm2[t]?) → fillA cs tm ps = fillA cs tm2 ps
  | [], _, _ => rfl
  | (off, size, x) :: ps, cs, h => by
    simp only [fillA]
    rw [ev_eq (tm := tm) (tm2 := tm2) (x := x) fun t ht => h t (by simp [partNames, ht])]
    split
    · exact fill_eq fun t ht => h t (by simp only [partNames, List.flatMap_cons, List.mem_append]; exact .inr ht)
    · rfl

theorem aop_eq {call : Tgt → List AV → Heap → AR} {tm tm2 : List AV} {h : Heap} {op : SOp} (hn : ∀ t ∈ op.names, tm[t]? = tm2[t]?) : aop call tm h op = aop call tm2 h op := by
  cases op <;> simp only [SOp.names, List.mem_append] at hn <;> simp only [aop] <;> first
    | rfl
    | (rw [ev_eq hn]; done)
    | (rw [fill_eq hn]; done)
    | (rw [evs_eq hn]; done)
    | (rw [ev_eq fun t ht => hn t (.inl ht), ev_eq fun t ht => hn t (.inr ht)]; done)
    | (rw [ev_eq fun t ht => hn t (.inl ht), evs_eq fun t ht => hn t (.inr ht)]; done)
    | (rw [evs_eq fun t ht => hn t (.inl ht), evs_eq fun t ht => hn t (.inr ht)]; done)
    | (rw [ev_eq fun t ht => hn t (.inl (.inl ht)), ev_eq fun t ht => hn t (.inl (.inr ht)), ev_eq fun t ht => hn t (.inr ht)]; done)
    | (rw [ev_eq fun t ht => hn t (.inl (.inl ht)), evo_eq fun t ht => hn t (.inl (.inr ht)), evo_eq fun t ht => hn t (.inr ht)]; done)
    | (rw [ev_eq fun t ht => hn t (.inl (.inl (.inl ht))), evo_eq fun t ht => hn t (.inl (.inl (.inr ht))), evo_eq fun t ht => hn t (.inl (.inr ht)), evo_eq fun t ht => hn t (.inr ht)]; done)

theorem reads_eq {tm tm2 : List AV} {op : SOp} (hn : ∀ t ∈ op.names, tm[t]? = tm2[t]?) : readsA tm op = readsA tm2 op := by
  cases op <;> simp only [SOp.names, List.mem_append] at hn <;> simp only [readsA] <;> first
    | rfl
    | (rw [ev_eq hn]; done)
    | (rw [ev_eq fun t ht => hn t (.inl ht)]; done)
    | (rw [ev_eq fun t ht => hn t (.inl (.inl (.inl ht)))]; done)

theorem wanted_eq {tm tm2 : List AV} {g : Option (Nat × Bool)} (hn : ∀ t w, g = some (t, w) → tm[t]? = tm2[t]?) : wantedA tm g = wantedA tm2 g := by
  cases g with
  | none => rfl
  | some p => obtain ⟨t, w⟩ := p; simp only [wantedA]; rw [hn t w rfl]

end Go.Ya
