/-
  Between and Apply: the plain law (no program).
-/
import Derived.Test.YtbcmdlaffjmfdaaYaBatL
import Derived.Test.YtbcmdlaffjmfdaaYbL
namespace Go.Proofs.Ytbcmdlaffjmfdaa.Ya
open Go.Ya Go.Ya.Bat
set_option linter.unusedVariables false
set_option linter.unusedSimpArgs false
set_option maxRecDepth 100000
set_option maxHeartbeats 8000000

/-! ### what stands at a key -/
def look (l : List En) (k : Bs) : Option Bs := (l.find? fun x => decide (x.key = k)).map En.val
theorem look_nil (k : Bs) : look [] k = none := rfl
theorem look_cons {x : En} {l : List En} {k : Bs} : look (x :: l) k = if x.key = k then some x.val else look l k := by
  unfold look
  rw [List.find?_cons]
  by_cases e : x.key = k
  · rw [decide_eq_true e, if_pos e]; rfl
  · rw [decide_eq_false e, if_neg e]
theorem look_ne {x : En} {l : List En} {k : Bs} (h : x.key ≠ k) : look (x :: l) k = look l k := by rw [look_cons, if_neg h]
theorem look_hd {x : En} {l : List En} : look (x :: l) x.key = some x.val := by rw [look_cons, if_pos rfl]
theorem look_none : ∀ {l : List En} {k : Bs}, (∀ x ∈ l, x.key ≠ k) → look l k = none
  | [], k, _ => rfl
  | x :: l, k, h => by rw [look_ne (h x (by simp))]; exact look_none fun y hy => h y (List.mem_cons_of_mem _ hy)
theorem look_some : ∀ {l : List En} {x : En}, x ∈ l → look l x.key ≠ none
  | [], x, h => nomatch h
  | y :: l, x, h => by
    rw [look_cons]
    split
    · intro q; nomatch q
    · rename_i e
      rcases List.mem_cons.1 h with rfl | h
      · exact absurd rfl e
      · exact look_some h
theorem look_below {l : List En} {last k : Bs} (h : Up last l) (hk : k = last ∨ lessA k last = true) : look l k = none := look_none fun x hx e => by
  have := h.all x hx
  rcases hk with rfl | hk
  · rw [e, less_irrefl] at this; nomatch this
  · rw [e] at this
    rw [less_asymm hk] at this; nomatch this
theorem findP_look {l : List En} {k : Bs} (h : mayP l = true) : findP l k = look l k := by unfold findP look; rw [if_pos h]

/-! ### a change's list without one -/
theorem up_erase : ∀ {l : List En} {last : Bs} {k : Nat}, Up last l → Up last (l.eraseIdx k)
  | [], _, _, h => h
  | x :: l, last, 0, ⟨h1, h2⟩ => Up.less h1 h2
  | x :: l, last, k + 1, ⟨h1, h2⟩ => ⟨h1, up_erase h2⟩
theorem up_ne : ∀ {l : List En} {last : Bs} {k : Nat}, Up last l → ∀ hk : k < l.length, ∀ y ∈ l.eraseIdx k, y.key ≠ l[k].key
  | [], _, _, h, hk, _, _ => nomatch hk
  | x :: l, last, 0, ⟨h1, h2⟩, hk, y, hy => fun e => by
    have := h2.all y hy
    rw [e] at this
    exact absurd this (by show ¬ lessA x.key x.key = true; rw [less_irrefl]; decide)
  | x :: l, last, k + 1, ⟨h1, h2⟩, hk, y, hy => by
    have hk' : k < l.length := by simpa using hk
    rcases List.mem_cons.1 hy with rfl | hy
    · exact less_ne (h2.all _ (List.getElem_mem hk'))
    · exact up_ne h2 hk' y hy
def fine2 (x : En) : Prop := fineP x = true ∧ x.key.length ≤ 16
theorem may_split : ∀ {l : List En} {last : Bs}, mayG last l = true ↔ Up last l ∧ ∀ x ∈ l, fine2 x
  | [], last => by simp [mayG, Up]
  | x :: l, last => by
    have ih := may_split (l := l) (last := x.key)
    simp only [mayG, Bool.and_eq_true, decide_eq_true_eq, Up, List.mem_cons, forall_eq_or_imp, ih, fine2]
    constructor
    · rintro ⟨⟨⟨a, b⟩, c⟩, d, e⟩; exact ⟨⟨c, d⟩, ⟨a, b⟩, e⟩
    · rintro ⟨⟨c, d⟩, ⟨a, b⟩, e⟩; exact ⟨⟨⟨a, b⟩, c⟩, d, e⟩
theorem may_erase {l : List En} {k : Nat} (h : mayP l = true) : mayP (l.eraseIdx k) = true := by
  obtain ⟨h1, h2⟩ := may_split.1 h
  exact may_split.2 ⟨up_erase h1, fun x hx => h2 x (List.mem_of_mem_eraseIdx hx)⟩
theorem fine_row {y : En} (h : fine2 y) : ∀ x ∈ rowOf y, fine2 x := fun x hx => by
  unfold rowOf at hx
  split at hx
  · nomatch hx
  · rename_i e
    simp only [List.mem_singleton] at hx
    subst hx
    obtain ⟨h1, h2⟩ := h
    unfold fineP at h1
    rw [if_neg e] at h1
    exact ⟨by unfold fineP; simpa using h1, h2⟩
theorem apply_fine : ∀ {t l : List En}, (∀ x ∈ t, fine2 x) → (∀ x ∈ l, fine2 x) → ∀ x ∈ applyP t l, fine2 x
  | t, [], ht, _, x, hx => by rw [apply_nil] at hx; exact ht x hx
  | [], y :: l, ht, hl, x, hx => by
    rw [apply_nl] at hx
    rcases List.mem_append.1 hx with hx | hx
    · exact fine_row (hl y (by simp)) x hx
    · exact apply_fine (t := []) ht (fun z hz => hl z (List.mem_cons_of_mem _ hz)) x hx
  | z :: t, y :: l, ht, hl, x, hx => by
    rcases less_tri z.key y.key with h | h | h
    · rw [apply_lt h] at hx
      rcases List.mem_cons.1 hx with rfl | hx
      · exact ht _ (by simp)
      · exact apply_fine (fun w hw => ht w (List.mem_cons_of_mem _ hw)) hl x hx
    · rw [apply_eq h] at hx
      rcases List.mem_append.1 hx with hx | hx
      · exact fine_row (hl y (by simp)) x hx
      · exact apply_fine (fun w hw => ht w (List.mem_cons_of_mem _ hw)) (fun z hz => hl z (List.mem_cons_of_mem _ hz)) x hx
    · rw [apply_gt h] at hx
      rcases List.mem_append.1 hx with hx | hx
      · exact fine_row (hl y (by simp)) x hx
      · exact apply_fine ht (fun z hz => hl z (List.mem_cons_of_mem _ hz)) x hx
termination_by t l => t.length + l.length
theorem apply_may {t l : List En} (ht : mayP t = true) (hl : mayP l = true) : mayP (applyP t l) = true := by
  obtain ⟨h1, h2⟩ := may_split.1 ht
  obtain ⟨h3, h4⟩ := may_split.1 hl
  exact may_split.2 ⟨apply_up h1 h3, apply_fine h2 h4⟩
theorem rowOf_cases (y : En) : (y.gone = true ∧ rowOf y = []) ∨ (y.gone = false ∧ rowOf y = [⟨y.key, y.val, false⟩]) := by
  unfold rowOf
  cases h : y.gone
  · exact .inr ⟨rfl, rfl⟩
  · exact .inl ⟨rfl, rfl⟩
/-- A change that is done already, then the others. -/
theorem apply_done {y : En} {T l : List En} (h : Up y.key T) : applyP (rowOf y ++ T) (y :: l) = rowOf y ++ applyP T l := by
  rcases rowOf_cases y with ⟨_, e⟩ | ⟨_, e⟩
  · rw [e]
    cases T with
    | nil => rw [List.nil_append, apply_nl, e]
    | cons x T => rw [List.nil_append, apply_gt h.1, e]
  · rw [e]
    show applyP (_ :: T) (y :: l) = _
    rw [apply_eq (show (⟨y.key, y.val, false⟩ : En).key = y.key from rfl), e]
/-- Twice is as once. -/
theorem apply_twice : ∀ {t l : List En} {last : Bs}, Up last t → Up last l → applyP (applyP t l) l = applyP t l
  | t, [], _, _, _ => by rw [apply_nil, apply_nil]
  | [], y :: l, _, _, ⟨h1, h2⟩ => by rw [apply_nl, apply_done (apply_up (t := []) trivial h2), apply_twice (t := []) (last := y.key) trivial h2]
  | x :: t, y :: l, _, ⟨h1, h2⟩, ⟨h3, h4⟩ => by
    rcases less_tri x.key y.key with h | h | h
    · rw [apply_lt h, apply_lt h, apply_twice (l := y :: l) h2 ⟨h, h4⟩]
    · have h2' : Up y.key t := by rw [← h]; exact h2
      rw [apply_eq h, apply_done (apply_up h2' h4), apply_twice h2' h4]
    · have h2' : Up y.key (x :: t) := ⟨h, h2⟩
      rw [apply_gt h, apply_done (apply_up h2' h4), apply_twice h2' h4]
termination_by t l => t.length + l.length
/-- What stands at a key that no change is about. -/
theorem look_row {y : En} {T : List En} {k : Bs} (h : y.key ≠ k) : look (rowOf y ++ T) k = look T k := by
  rcases rowOf_cases y with ⟨_, e⟩ | ⟨_, e⟩
  · rw [e]; rfl
  · rw [e]; exact look_ne h
theorem look_apply : ∀ {t l : List En} {k : Bs}, (∀ y ∈ l, y.key ≠ k) → look (applyP t l) k = look t k
  | t, [], k, _ => by rw [apply_nil]
  | [], y :: l, k, h => by rw [apply_nl, look_row (h y (by simp))]; exact look_apply (t := []) fun z hz => h z (List.mem_cons_of_mem _ hz)
  | x :: t, y :: l, k, h => by
    have hy := h y (by simp)
    have hl : ∀ z ∈ l, z.key ≠ k := fun z hz => h z (List.mem_cons_of_mem _ hz)
    rcases less_tri x.key y.key with q | q | q
    · rw [apply_lt q, look_cons, look_cons, look_apply h]
    · rw [apply_eq q, look_row hy, look_ne (by rw [q]; exact hy), look_apply hl]
    · rw [apply_gt q, look_row hy, look_apply hl]
termination_by t l => t.length + l.length

/-! ### Between -/
theorem up_del : ∀ {t : List En} {last : Bs}, Up last t → Up last (t.map delOf)
  | [], _, _ => trivial
  | x :: t, _, h => ⟨h.1, up_del h.2⟩
theorem bet_up : ∀ {t u : List En} {last : Bs}, Up last t → Up last u → Up last (betP t u)
  | t, [], _, h, _ => by
    rw [bet_nil]
    exact up_del h
  | [], y :: u, _, _, ⟨h1, h2⟩ => by rw [bet_nl]; exact ⟨h1, bet_up (t := []) trivial h2⟩
  | x :: t, y :: u, _, ⟨h1, h2⟩, ⟨h3, h4⟩ => by
    rcases less_tri x.key y.key with h | h | h
    · rw [bet_lt h]; exact ⟨h1, bet_up h2 ⟨h, h4⟩⟩
    · have := bet_up (last := y.key) (by rw [← h]; exact h2) h4
      rw [bet_eq h]
      split
      · exact Up.less h3 this
      · exact ⟨h3, this⟩
    · rw [bet_gt h]; exact ⟨h3, bet_up ⟨h, h2⟩ h4⟩
termination_by t u => t.length + u.length
theorem fine_del {x : En} (h : fine2 x) : fine2 (delOf x) := ⟨rfl, h.2⟩
theorem fine_new {x : En} (h : fine2 x) : fine2 (newOf x) := by
  obtain ⟨h1, h2⟩ := h
  refine ⟨?_, h2⟩
  unfold fineP at h1 ⊢
  simp only [decide_eq_true_eq] at h1 ⊢
  unfold newOf
  simp only [Bool.false_eq_true, if_false]
  split at h1 <;> omega
theorem bet_fine : ∀ {t u : List En}, (∀ x ∈ t, fine2 x) → (∀ x ∈ u, fine2 x) → ∀ x ∈ betP t u, fine2 x
  | t, [], ht, _, x, hx => by
    rw [bet_nil] at hx
    obtain ⟨z, hz, rfl⟩ := List.mem_map.1 hx
    exact fine_del (ht z hz)
  | [], y :: u, ht, hu, x, hx => by
    rw [bet_nl] at hx
    rcases List.mem_cons.1 hx with rfl | hx
    · exact fine_new (hu y (by simp))
    · exact bet_fine (t := []) ht (fun z hz => hu z (List.mem_cons_of_mem _ hz)) x hx
  | z :: t, y :: u, ht, hu, x, hx => by
    have ht' : ∀ w ∈ t, fine2 w := fun w hw => ht w (List.mem_cons_of_mem _ hw)
    have hu' : ∀ w ∈ u, fine2 w := fun w hw => hu w (List.mem_cons_of_mem _ hw)
    rcases less_tri z.key y.key with h | h | h
    · rw [bet_lt h] at hx
      rcases List.mem_cons.1 hx with rfl | hx
      · exact fine_del (ht z (by simp))
      · exact bet_fine ht' hu x hx
    · rw [bet_eq h] at hx
      rcases List.mem_append.1 hx with hx | hx
      · split at hx
        · nomatch hx
        · rw [List.mem_singleton.1 hx]; exact fine_new (hu y (by simp))
      · exact bet_fine ht' hu' x hx
    · rw [bet_gt h] at hx
      rcases List.mem_cons.1 hx with rfl | hx
      · exact fine_new (hu y (by simp))
      · exact bet_fine ht hu' x hx
termination_by t u => t.length + u.length
theorem bet_may {t u : List En} (ht : mayP t = true) (hu : mayP u = true) : mayP (betP t u) = true := by
  obtain ⟨h1, h2⟩ := may_split.1 ht
  obtain ⟨h3, h4⟩ := may_split.1 hu
  exact may_split.2 ⟨bet_up h1 h3, bet_fine h2 h4⟩
/-- No row goes. -/
def Stay (l : List En) : Prop := ∀ x ∈ l, x.gone = false
theorem Stay.tl {x : En} {l : List En} (h : Stay (x :: l)) : Stay l := fun y hy => h y (List.mem_cons_of_mem _ hy)
theorem new_eq {y : En} (h : y.gone = false) : rowOf (newOf y) = [y] := by
  obtain ⟨k, v, g⟩ := y
  simp only at h
  subst h; rfl
/-- Between, applied, is the second table. -/
theorem bet_leads : ∀ {t u : List En} {last : Bs}, Up last t → Up last u → Stay t → Stay u → applyP t (betP t u) = u
  | [], [], _, _, _, _, _ => by rw [bet_nil]; exact apply_nil []
  | x :: t, [], last, ⟨h1, h2⟩, _, s, _ => by
    have ih := bet_leads (u := []) h2 trivial s.tl (fun z hz => nomatch hz)
    rw [bet_nil] at ih ⊢
    rw [List.map_cons, apply_eq (show x.key = (delOf x).key from rfl)]
    exact ih
  | [], y :: u, _, _, ⟨h1, h2⟩, s, s2 => by
    rw [bet_nl, apply_nl, new_eq (s2 y (by simp)), bet_leads (t := []) (last := y.key) trivial h2 s s2.tl]; rfl
  | x :: t, y :: u, _, ⟨h1, h2⟩, ⟨h3, h4⟩, s, s2 => by
    rcases less_tri x.key y.key with h | h | h
    · rw [bet_lt h, apply_eq (show x.key = (delOf x).key from rfl), bet_leads (u := y :: u) h2 ⟨h, h4⟩ s.tl s2]; rfl
    · have h2' : Up y.key t := by rw [← h]; exact h2
      have ih := bet_leads h2' h4 s.tl s2.tl
      rw [bet_eq h]
      split
      · rename_i e
        rw [List.nil_append, apply_row (by rw [h]; exact bet_up h2' h4), ih]
        have e1 := s x (by simp)
        have e2 := s2 y (by simp)
        obtain ⟨k, v, g⟩ := x
        obtain ⟨k', v', g'⟩ := y
        simp only at e1 e2 h e
        subst e1; subst e2; subst h; subst e; rfl
      · rw [List.singleton_append, apply_eq (show x.key = (newOf y).key from h), new_eq (s2 y (by simp)), ih]; rfl
    · rw [bet_gt h, apply_gt (show lessA (newOf y).key x.key = true from h), new_eq (s2 y (by simp)), bet_leads (t := x :: t) (last := y.key) ⟨h, h2⟩ h4 s s2.tl]; rfl
termination_by t u => t.length + u.length
/-- The document's: key by key. -/
def keyE (x : En) : En := ⟨x.key, [], false⟩
def chgP (t u : List En) (k : Bs) : List En := match look u k with
  | none => [⟨k, [], true⟩]
  | some w => if look t k = some w then [] else [⟨k, w, false⟩]
theorem up_keys : ∀ {l : List En} {last : Bs}, Up last l → Up last (l.map keyE)
  | [], _, _ => trivial
  | x :: l, _, ⟨h1, h2⟩ => ⟨h1, up_keys h2⟩
theorem apply_keys0 : ∀ l : List En, applyP [] (l.map keyE) = l.map keyE
  | [] => by rw [List.map_nil, apply_nil]
  | x :: l => by rw [List.map_cons, apply_nl, apply_keys0 l]; rfl
theorem flat_congr {l : List En} {f g : Bs → List En} (h : ∀ z ∈ l, f z.key = g z.key) : l.flatMap (fun z => f z.key) = l.flatMap (fun z => g z.key) := by
  induction l with
  | nil => rfl
  | cons a l ih => rw [List.flatMap_cons, List.flatMap_cons, h a (by simp), ih fun z hz => h z (List.mem_cons_of_mem _ hz)]
theorem bet_flat : ∀ {t u : List En} {last : Bs}, Up last t → Up last u → (applyP (t.map keyE) (u.map keyE)).flatMap (fun z => chgP t u z.key) = betP t u
  | [], [], _, _, _ => by rw [bet_nil, List.map_nil, apply_nil]; rfl
  | x :: t, [], last, ⟨h1, h2⟩, _ => by
    have ih := bet_flat (u := []) h2 trivial
    rw [bet_nil, List.map_nil, apply_nil] at ih ⊢
    rw [List.map_cons, List.map_cons, List.flatMap_cons, ← ih]
    rfl
  | [], y :: u, _, _, ⟨h1, h2⟩ => by
    have ih := bet_flat (t := []) (last := y.key) trivial h2
    rw [List.map_nil, apply_keys0] at ih
    rw [List.map_nil, apply_keys0, bet_nl, ← ih, List.map_cons, List.flatMap_cons]
    have : chgP [] (y :: u) (keyE y).key = [newOf y] := by
      unfold chgP
      rw [show (keyE y).key = y.key from rfl, look_hd, look_nil]
      exact if_neg (fun q => nomatch q)
    rw [this, List.singleton_append]
    congr 1
    refine flat_congr (f := fun k => chgP [] (y :: u) k) (g := fun k => chgP [] u k) fun z hz => ?_
    have := (up_keys h2).all z hz
    unfold chgP
    rw [look_ne (less_ne this)]
  | x :: t, y :: u, _, ⟨h1, h2⟩, ⟨h3, h4⟩ => by
    rw [List.map_cons, List.map_cons]
    rcases less_tri x.key y.key with h | h | h
    · have ih := bet_flat (t := t) (u := y :: u) h2 ⟨h, h4⟩
      rw [List.map_cons] at ih
      rw [bet_lt h, apply_lt (show lessA (keyE x).key (keyE y).key = true from h), List.flatMap_cons, ← ih]
      have : chgP (x :: t) (y :: u) (keyE x).key = [delOf x] := by
        unfold chgP
        rw [show (keyE x).key = x.key from rfl, look_below (l := y :: u) (last := x.key) ⟨h, h4⟩ (.inl rfl)]; rfl
      rw [this, List.singleton_append]
      congr 1
      refine flat_congr (f := fun k => chgP (x :: t) (y :: u) k) (g := fun k => chgP t (y :: u) k) fun z hz => ?_
      have := (apply_up (last := x.key) (up_keys h2) (l := keyE y :: u.map keyE) ⟨h, up_keys h4⟩).all z hz
      unfold chgP
      rw [look_ne (x := x) (less_ne this)]
    · have h2' : Up y.key t := by rw [← h]; exact h2
      have ih := bet_flat h2' h4
      rw [bet_eq h, apply_eq (show (keyE x).key = (keyE y).key from h), ← ih]
      show List.flatMap _ ([keyE y] ++ _) = _
      rw [List.singleton_append, List.flatMap_cons]
      have : chgP (x :: t) (y :: u) (keyE y).key = if x.val = y.val then [] else [newOf y] := by
        unfold chgP
        rw [show (keyE y).key = y.key from rfl, look_hd, look_cons, if_pos h]
        by_cases e : x.val = y.val
        · rw [if_pos e]; exact if_pos (by rw [e])
        · rw [if_neg e]; exact if_neg (fun q => e (Option.some.inj q))
      rw [this]
      congr 1
      refine flat_congr (f := fun k => chgP (x :: t) (y :: u) k) (g := fun k => chgP t u k) fun z hz => ?_
      have := (apply_up (up_keys h2') (up_keys h4)).all z hz
      unfold chgP
      rw [look_ne (x := y) (less_ne this), look_ne (x := x) (by rw [h]; exact less_ne this)]
    · have ih := bet_flat (t := x :: t) (u := u) (last := y.key) ⟨h, h2⟩ h4
      rw [List.map_cons] at ih
      rw [bet_gt h, apply_gt (show lessA (keyE y).key (keyE x).key = true from h), ← ih]
      show List.flatMap _ ([keyE y] ++ _) = _
      rw [List.singleton_append, List.flatMap_cons]
      have : chgP (x :: t) (y :: u) (keyE y).key = [newOf y] := by
        unfold chgP
        rw [show (keyE y).key = y.key from rfl, look_hd, look_below (l := x :: t) (last := y.key) ⟨h, h2⟩ (.inl rfl)]
        exact if_neg (fun q => nomatch q)
      rw [this, List.singleton_append]
      congr 1
      refine flat_congr (f := fun k => chgP (x :: t) (y :: u) k) (g := fun k => chgP (x :: t) u k) fun z hz => ?_
      have := (apply_up (last := y.key) (t := keyE x :: t.map keyE) ⟨h, up_keys h2⟩ (up_keys h4)).all z hz
      unfold chgP
      rw [look_ne (x := y) (less_ne this)]
termination_by t u => t.length + u.length
theorem apply_mem : ∀ {t l : List En} {x : En}, x ∈ applyP t l → x ∈ t ∨ ∃ y ∈ l, x.key = y.key
  | t, [], x, h => by rw [apply_nil] at h; exact .inl h
  | [], y :: l, x, h => by
    rw [apply_nl] at h
    rcases List.mem_append.1 h with h | h
    · right; refine ⟨y, by simp, ?_⟩
      rcases rowOf_cases y with ⟨_, e⟩ | ⟨_, e⟩ <;> rw [e] at h
      · nomatch h
      · rw [List.mem_singleton.1 h]
    · rcases apply_mem (t := []) h with h | ⟨z, hz, e⟩
      · nomatch h
      · exact .inr ⟨z, List.mem_cons_of_mem _ hz, e⟩
  | z :: t, y :: l, x, h => by
    have hr : ∀ {T : List En}, x ∈ rowOf y ++ T → x.key = y.key ∨ x ∈ T := fun h => by
      rcases List.mem_append.1 h with h | h
      · left
        rcases rowOf_cases y with ⟨_, e⟩ | ⟨_, e⟩ <;> rw [e] at h
        · nomatch h
        · rw [List.mem_singleton.1 h]
      · exact .inr h
    rcases less_tri z.key y.key with q | q | q
    · rw [apply_lt q] at h
      rcases List.mem_cons.1 h with rfl | h
      · exact .inl (by simp)
      · rcases apply_mem h with h | h
        · exact .inl (List.mem_cons_of_mem _ h)
        · exact .inr h
    · rw [apply_eq q] at h
      rcases hr h with e | h
      · exact .inr ⟨y, by simp, e⟩
      · rcases apply_mem h with h | ⟨w, hw, e⟩
        · exact .inl (List.mem_cons_of_mem _ h)
        · exact .inr ⟨w, List.mem_cons_of_mem _ hw, e⟩
    · rw [apply_gt q] at h
      rcases hr h with e | h
      · exact .inr ⟨y, by simp, e⟩
      · rcases apply_mem h with h | ⟨w, hw, e⟩
        · exact .inl h
        · exact .inr ⟨w, List.mem_cons_of_mem _ hw, e⟩
termination_by t l => t.length + l.length
/-- At a change's key the tables differ. -/
theorem bet_diff {t u : List En} {last : Bs} (h1 : Up last t) (h2 : Up last u) {c : En} (hc : c ∈ betP t u) : look t c.key ≠ look u c.key := by
  rw [← bet_flat h1 h2] at hc
  obtain ⟨z, hz, hc⟩ := List.mem_flatMap.1 hc
  unfold chgP at hc
  split at hc
  · rename_i e
    rw [List.mem_singleton.1 hc, e]
    rcases apply_mem hz with hz | ⟨y, hy, e2⟩
    · obtain ⟨w, hw, rfl⟩ := List.mem_map.1 hz
      exact look_some (x := w) hw
    · obtain ⟨w, hw, rfl⟩ := List.mem_map.1 hy
      rw [show z.key = w.key from e2] at e
      exact absurd e (look_some hw)
  · rename_i w e
    split at hc
    · nomatch hc
    · rename_i e2
      rw [List.mem_singleton.1 hc, e]
      exact e2
/-- Each change is needed. -/
theorem bet_needed {t u : List En} {last : Bs} (h1 : Up last t) (h2 : Up last u) {k : Nat} (hk : k < (betP t u).length) : applyP t ((betP t u).eraseIdx k) ≠ u := fun e => by
  have hd := bet_diff h1 h2 (List.getElem_mem hk)
  rw [← look_apply (up_ne (bet_up h1 h2) hk), e] at hd
  exact hd rfl
/-- The document's keys. -/
theorem fold_keys {t u : List En} (h1 : mayP t = true) (h2 : mayP u = true) : ((t ++ u).map keyE).foldl stepP [] = applyP (t.map keyE) (u.map keyE) := by
  have u1 := up_keys (up_of_may h1)
  have u2 := up_keys (up_of_may h2)
  rw [List.map_append, List.foldl_append, fold_eq (t := []) (last := []) trivial u1 u1.all, apply_keys0, fold_eq u1 u2 u2.all]
theorem step_key (T : List En) (x : En) : stepP T (keyE x) = withP (withoutP T x.key) ⟨x.key, [], false⟩ := rfl
/-- A table without the empty key is itself. -/
theorem without_nil {t : List En} (h : mayP t = true) : withoutP t [] = t := filter_all fun x hx => by
  have := (up_of_may h).all x hx
  rw [decide_eq_true_eq]
  exact fun e => less_ne this e.symm
theorem ref_apply {t l : List En} (h1 : mayP t = true) (h2 : mayP l = true) : l.foldl stepP (withoutP t []) = applyP t l := by
  rw [without_nil h1]
  exact fold_eq (up_of_may h1) (up_of_may h2) (up_of_may h2).all
end Go.Proofs.Ytbcmdlaffjmfdaa.Ya

