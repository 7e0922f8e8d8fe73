/-
  f0.Left and f0.Spoil of slices of which the capacity is not known: what they do is known all the same.
-/
import Derived.Test.YtplbampjponnpaaYaCap
namespace Go.Ya
set_option linter.unusedVariables false
set_option linter.unusedSimpArgs false

theorem byteCells_eq : ∀ {l : List AV} {bs : List Int}, byteCells l = some bs → l = ints bs
  | [], bs, e => by simp [byteCells] at e; subst e; rfl
  | a :: l, bs, e => by
    unfold byteCells at e
    split at e
    · rename_i h; cases h
    · rename_i n r h
      cases h
      simp only [Option.map_eq_some_iff] at e
      obtain ⟨bs', e1, rfl⟩ := e
      rw [byteCells_eq e1]; rfl
    · cases e

/-- The bytes that a slice reads. -/
def bytesA (h : Heap) (v : AV) : Option (List Int) := match v with
  | .nilsl => some []
  | .slice id off len cap ex esz => match firstA h 1 len (.slice id off len cap ex esz) with
    | some l => byteCells l
    | none => none
  | _ => none
theorem BytesAt.bytesA {h : Heap} {v : AV} {bs : List Int} (hb : BytesAt h v bs) : bytesA h v = some bs := by
  have hf := hb.first
  rcases hb with ⟨rfl, rfl⟩ | ⟨id, off, cap, ex, c, ro, rfl, e2, e3, e4, e5⟩
  · rfl
  · simp only [Go.Ya.bytesA, hf, byteCells_ints]
theorem bytesA_slice {h : Heap} {id off len cap esz : Nat} {ex : Bool} {bs : List Int} (e : bytesA h (.slice id off len cap ex esz) = some bs) : esz = 1 ∧ bs.length = len ∧ ∃ c ro, h.get id = some (.cells c ro) ∧ off + len ≤ c.length ∧ (c.drop off).take len = ints bs := by
  simp only [bytesA] at e
  split at e
  · rename_i l hl
    unfold firstA at hl
    simp only at hl
    split at hl
    · rename_i he
      split at hl
      · rename_i c ro hg
        split at hl
        · rename_i hle
          cases hl
          have := byteCells_eq e
          rw [Nat.mul_one] at this hle
          have hlen := congrArg List.length this
          simp at hlen
          exact ⟨he.symm, by omega, c, ro, hg, hle, this⟩
        · cases hl
      · cases hl
    · cases hl
  · cases e

def noK : Known := fun _ _ _ => none

/-- f0.Left. -/
def leftK (f : FuncId) : Known := fun g args h => if g = f then
    match args with
    | [.slice id off len cap false 1, b] =>
      if len + 3 ≤ cap then
        match bytesA h (.slice id off len cap false 1), bytesA h b, bytesA h (.slice id (off + len) 3 3 false 1) with
        | some x, some y, some [p, q, r] => some (.bool ((x == y) && ((p == 9) && ((q == 9) && (r == 9)))), h)
        | _, _, _ => none
      else none
    | _ => none
  else none

theorem leftK_ok {P : Program} {SP : FuncId → Option SFunc} (hSP : Conv P SP) (hmix : P.follows .mixedOrders = true) {f fS : FuncId} (hf : SP f = some (leftS fS)) (hfS : SP fS = some sameS) : XOk P (leftK f) := by
  intro g args h v h' e μ w args' s hvs
  unfold leftK at e
  split at e
  · rename_i hg
    subst hg
    split at e
    · rename_i id off len cap b
      split at e
      · rename_i hcap
        split at e
        · rename_i x y p q r e1 e2 e3
          cases e
          obtain ⟨_, l1, c, ro, gc, le1, t1⟩ := bytesA_slice e1
          obtain ⟨_, _, c', ro', gc', le3, t3⟩ := bytesA_slice e3
          rw [gc] at gc'; cases gc'
          subst l1
          generalize hA : args'.toList = al at hvs
          cases hvs with
          | cons _ v0 _ vs0 hv0 hvs1 =>
            cases hvs1 with
            | cons _ b0 _ vs1 hb0 hnil =>
              cases hnil
              cases hv0 with
              | slice _ _ _ _ _ _ a cap' g1 g2 g3 g4 g5 g6 =>
                have hb : BytesAt h b y := by
                  cases b with
                  | nilsl => simp [bytesA] at e2; exact .inl ⟨rfl, e2⟩
                  | slice i o l cp ex esz =>
                    obtain ⟨rfl, rfl, cc, rr, q1, q2, q3⟩ := bytesA_slice e2
                    cases hb0
                    exact .inr ⟨i, o, cp, ex, cc, rr, rfl, by assumption, q1, q2, q3⟩
                  | _ => simp [bytesA] at e2
                have h3 : ∀ i, i < 3 → c[off + (x.length + i)]? = (ints [p, q, r])[i]? := fun i hi => by
                  rw [← t3, List.getElem?_take, if_pos hi, List.getElem?_drop]; congr 1; omega
                have run := left_spec (X := noK) (SP := SP) (fun _ _ => rfl) (fun _ _ => rfl) hf hfS (cap := cap') gc le1 t1 (by omega) g5 (h3 0 (by omega)) (h3 1 (by omega)) (h3 2 (by omega)) hb
                obtain ⟨n, hn⟩ := xcall_iff.1 run
                refine (acall_calls (XOk.none P) hSP hmix n).1 g _ h _ h hn μ w args' s ?_
                rw [hA]
                exact .cons _ _ _ _ (.slice id off x.length cap' true 1 a cap' (by omega) (Nat.le_refl _) (fun _ => rfl) g4 g5 g6) (.cons _ _ _ _ hb0 .nil)
        · cases e
      · cases e
    · cases e
  · cases e

/-- f0.Spoil. -/
def spoilK (f : FuncId) : Known := fun g args h => if g = f then
    match args with
    | [.nilsl, .int .u8 _] => some (undefA, h)
    | [.slice id off len cap ex 1, .int .u8 by_] =>
      match h.get id with
      | some (.cells c false) =>
        if off + cap ≤ c.length ∧ (ex = true ∨ (h.byteAt id = true ∧ off + cap = c.length)) then
          match byteCells ((c.drop off).take cap) with
          | some l => some (undefA, h.set id (.cells (c.take off ++ (ints (l.map (spoiled by_)) ++ c.drop (off + cap))) false))
          | none => none
        else none
      | _ => none
    | _ => none
  else none

section
variable {P : Program}

/-- A row of bytes, read off. -/
theorem readBytes (arr : Array Value) (s : Nat) : ∀ k, (∀ j, s ≤ j → j < s + k → ∃ n, arr[j]? = some (.int .u8 n) ∧ wfInt .u8 n = true) → ∃ l : List Int, l.length = k ∧ ∀ i n, l[i]? = some n → arr[s + i]? = some (.int .u8 n) ∧ wfInt .u8 n = true
  | 0, _ => ⟨[], rfl, fun i n e => by simp at e⟩
  | k + 1, h => by
    obtain ⟨l, h1, h2⟩ := readBytes arr s k fun j j1 j2 => h j j1 (by omega)
    obtain ⟨n, e1, e2⟩ := h (s + k) (by omega) (by omega)
    refine ⟨l ++ [n], by simp [h1], fun i m e => ?_⟩
    by_cases hi : i < l.length
    · rw [List.getElem?_append_left hi] at e; exact h2 i m e
    · rw [List.getElem?_append_right (by omega)] at e
      have : i - l.length = 0 := by
        rcases Nat.eq_zero_or_pos (i - l.length) with h | h
        · exact h
        · rw [List.getElem?_eq_none (by simp; omega)] at e; cases e
      rw [this] at e
      simp at e
      subst e
      rw [show s + i = s + k by omega]
      exact ⟨e1, e2⟩

theorem Own.congr {μ : Mu} {g g' : Nat → Option AObj} (h : ∀ j, (g j).map AObj.owned = (g' j).map AObj.owned) {b : Nat} (ho : Own μ g b) : Own μ g' b := by
  obtain ⟨id, base, lim, o, e1, e2, e3⟩ := ho
  have := h id
  rw [e2] at this
  cases hg : g' id with
  | none => rw [hg] at this; cases this
  | some o' =>
    rw [hg] at this
    simp only [Option.map_some, Option.some.injEq] at this
    exact ⟨id, base, lim, o', e1, hg, by rw [← this]; exact e3⟩

/-- More is known of a block: its other cells, too. -/
theorem St.refine {μ : Mu} {h : Heap} {w : World} (s : St P μ h w) {id b base lim : Nat} {c : List AV} (hm : μ id = some (b, base, lim)) (hg : h.get id = some (.cells c false)) (hb : h.byteAt id = true) :
    ∃ l : List Int, base + (c.length + l.length) = lim ∧ St P μ (h.set id (.cells (c ++ ints l) false)) w := by
  obtain ⟨arr, t, fr, q1, q2, q3, q4, q5⟩ := s.r.obj id b base lim _ hm hg
  obtain ⟨arr2, t2, fr2, p1, p2⟩ := s.mkd id hb b base lim c false hm hg
  rw [q1] at p1; cases p1
  have hid := Heap.lt_of_get hg
  obtain ⟨l, l1, l2⟩ := readBytes arr (base + c.length) (lim - (base + c.length)) fun j j1 j2 => p2 j j1 (by omega)
  have hw := s.r.write (w' := w) hm hg rfl (o' := .cells (c ++ ints l) false) rfl rfl rfl rfl rfl (fun _ _ => rfl)
    ⟨arr, t, fr, q1, q2, by simp; omega, fun j a ha => by
      by_cases hj : j < c.length
      · rw [List.getElem?_append_left hj] at ha; exact q4 j a ha
      · rw [List.getElem?_append_right (by omega)] at ha
        simp only [ints, List.getElem?_map, Option.map_eq_some_iff] at ha
        obtain ⟨n, e1, rfl⟩ := ha
        obtain ⟨e2, e3⟩ := l2 _ _ e1
        exact ⟨_, by rw [show base + j = base + c.length + (j - c.length) by omega]; exact e2, .int _ _ e3, rfl⟩, q5⟩
  refine ⟨l, by omega, ⟨hw.1, s.bd, fun j e b1 base1 lim1 c' ro' m g => ?_⟩⟩
  have e' := Heap.byteAt_set hid rfl e
  rw [Heap.get_set _ _ _ _ hid] at g
  by_cases hj : j = id
  · subst hj
    rw [if_pos rfl] at g
    cases g
    rw [hm] at m
    cases m
    exact ⟨arr, t, fr, q1, fun j j1 j2 => by simp at j1; omega⟩
  · rw [if_neg hj] at g
    exact s.mkd j e' b1 base1 lim1 c' ro' m g

/-- Less is known of a block: its first cells only. -/
theorem St.coarsen {μ : Mu} {h h2 : Heap} {w : World} (s : St P μ h w) {id b base lim : Nat} {c : List AV} {l : List Int} (hm : μ id = some (b, base, lim)) (hg : h.get id = some (.cells (c ++ ints l) false)) (hlim : base + (c.length + l.length) = lim)
    (hn : h2.next = h.next) (h2g : ∀ j, h2.get j = if j = id then some (.cells c false) else h.get j) : St P μ h2 w := by
  obtain ⟨arr, t, fr, q1, q2, q3, q4, q5⟩ := s.r.obj id b base lim _ hm hg
  have hid := Heap.lt_of_get hg
  have hr : R P μ h2.get w := by
    refine ⟨fun j b1 base1 lim1 o m g => ?_, fun i j b1 base1 lim1 b2 base2 lim2 o1 o2 hne m1 m2 g1 g2 ho1 ho2 => ?_⟩
    · rw [h2g] at g
      by_cases hj : j = id
      · subst hj
        rw [if_pos rfl] at g; cases g
        rw [hm] at m; cases m
        exact ⟨arr, t, fr, q1, q2, by simp at q3; omega, fun k a ha => q4 k a (by
          have : k < c.length := by
            rcases Nat.lt_or_ge k c.length with h | h
            · exact h
            · rw [List.getElem?_eq_none h] at ha; cases ha
          rw [List.getElem?_append_left this]; exact ha), q5⟩
      · rw [if_neg hj] at g; exact s.r.obj j b1 base1 lim1 o m g
    · rw [h2g] at g1 g2
      have live : ∀ x : AObj, x.owned = true → x.live = true := fun x hx => by cases x <;> first | rfl | simp [AObj.owned] at hx
      by_cases c1 : i = id
      · subst c1
        have c2 : j ≠ i := Ne.symm hne
        rw [if_neg c2] at g2
        exact s.r.inj i j _ _ _ _ _ _ _ o2 hne m1 m2 hg g2 rfl ho2
      · rw [if_neg c1] at g1
        by_cases c2 : j = id
        · subst c2
          exact s.r.inj i j _ _ _ _ _ _ o1 _ hne m1 m2 g1 hg ho1 rfl
        · rw [if_neg c2] at g2
          exact s.r.inj i j _ _ _ _ _ _ o1 o2 hne m1 m2 g1 g2 ho1 ho2
  refine ⟨hr, fun j hj => s.bd j (by omega), fun j e b1 base1 lim1 c' ro' m g => ?_⟩
  have e' : h.byteAt j = true := by
    obtain ⟨o, m1, m2⟩ := Heap.byteAt_mark e
    rw [← e]; refine (Heap.byteAt_of ?_).symm
    rw [h2g] at m1 ⊢
    by_cases hj : j + 1 = id
    · rw [if_pos hj] at m1; cases m1; cases m2
    · rw [if_neg hj]
  rw [h2g] at g
  by_cases hj : j = id
  · subst hj
    rw [if_pos rfl] at g; cases g
    rw [hm] at m; cases m
    refine ⟨arr, t, fr, q1, fun k k1 k2 => ?_⟩
    have hk : k - (base + c.length) < l.length := by omega
    obtain ⟨v, e1, e2, _⟩ := q4 (k - base) (.int .u8 (l[k - (base + c.length)]'hk)) (by
      rw [List.getElem?_append_right (by omega)]
      simp only [ints, List.getElem?_map]
      rw [show k - base - c.length = k - (base + c.length) by omega, List.getElem?_eq_getElem hk]; rfl)
    cases e2 with
    | int _ _ hwf =>
      have hkk : base + (k - base) = k := by omega
      rw [hkk] at e1
      exact ⟨_, e1, hwf⟩
  · rw [if_neg hj] at g
    exact s.mkd j e' b1 base1 lim1 c' ro' m g

theorem Fr.refit {μ μ' : Mu} {h h1 h2 h' : Heap} {w w' : World} (f : Fr μ h1 w μ' h2 w') (n1 : h1.next = h.next) (n2 : h2.next = h'.next) (o1 : ∀ j, (h1.get j).map AObj.owned = (h.get j).map AObj.owned) (o2 : ∀ j, (h2.get j).map AObj.owned = (h'.get j).map AObj.owned) : Fr μ h w μ' h' w' where
  le := f.le
  size := f.size
  os := f.os
  tape := f.tape
  output := f.output
  same := fun b hb hn => f.same b hb fun ho => hn (ho.congr o1)
  own := fun b ho => by
    rcases f.own b (ho.congr fun j => (o2 j).symm) with h | h
    · exact .inl (h.congr o1)
    · exact .inr h
  nx := by have := f.nx; omega
  dom := fun id hid hn => f.dom id (by omega) hn

theorem spoilK_ok {SP : FuncId → Option SFunc} (hSP : Conv P SP) (hmix : P.follows .mixedOrders = true) {f : FuncId} (hf : SP f = some spoilS) : XOk P (spoilK f) := by
  intro g args h v h' e μ w args' s hvs
  unfold spoilK at e
  split at e
  · rename_i hg
    subst hg
    split at e
    · rename_i by_
      cases e
      obtain ⟨n, hn⟩ := xcall_iff.1 (spoil_nil (X := noK) (SP := SP) (fun _ _ => rfl) hf h by_)
      exact (acall_calls (XOk.none P) hSP hmix n).1 g _ h _ h hn μ w args' s hvs
    · rename_i id off len cap ex by_
      split at e
      · rename_i c hgc
        split at e
        · rename_i hcond
          obtain ⟨hle, hex⟩ := hcond
          split at e
          · rename_i l hl
            cases e
            have hid := Heap.lt_of_get hgc
            have hlc := byteCells_eq hl
            have hll : l.length = cap := by
              have := congrArg List.length hlc; simp at this; omega
            have hsplit : c = c.take off ++ (ints l ++ c.drop (off + cap)) := by
              rw [← hlc, ← List.drop_drop, List.take_append_drop, List.take_append_drop]
            have hAl : (c.take off).length = off := by simp; omega
            generalize hAA : c.take off = A at *
            generalize hBB : c.drop (off + cap) = B at *
            subst hsplit
            generalize hA : args'.toList = al at hvs
            cases hvs with
            | cons _ v0 _ vs0 hv0 hvs1 =>
              cases hvs1 with
              | cons _ b0 _ vs1 hb0 hnil =>
                cases hnil
                cases hv0 with
                | slice _ _ _ _ _ _ a cap' g1 g2 g3 g4 g5 g6 =>
                  have hget : ∀ j, (h.set id (.cells (A ++ (ints (l.map (spoiled by_)) ++ B)) false)).get j = if j = id then some (.cells (A ++ (ints (l.map (spoiled by_)) ++ B)) false) else h.get j := fun j => Heap.get_set _ _ _ _ hid
                  by_cases hexact : cap' = cap
                  · -- the room is just what is known
                    subst hexact
                    obtain ⟨H, e1, k1, k2, k3⟩ := spoil_spec (X := noK) (SP := SP) (fun _ _ => rfl) hf (len := len) by_ g5 A B l hAl hll hgc
                    obtain ⟨n, hn⟩ := xcall_iff.1 e1
                    obtain ⟨r1, r2⟩ := (acall_calls (XOk.none P) hSP hmix n).1 g _ h _ H hn μ w args' s (by
                      rw [hA]
                      exact .cons _ _ _ _ (.slice id off len cap' true 1 a cap' g1 (Nat.le_refl _) (fun _ => rfl) g4 g5 g6) (.cons _ _ _ _ hb0 .nil))
                    refine ⟨r1, r2.mono fun e w' ⟨μ', v', he, hv', s', fr'⟩ => ?_⟩
                    have hsame : (h.set id (.cells (A ++ (ints (l.map (spoiled by_)) ++ B)) false)).get = H.get := funext fun j => by
                      rw [hget]
                      by_cases hj : j = id
                      · subst hj; rw [if_pos rfl, k2]
                      · rw [if_neg hj, k3 j hj]
                    have hs := s'.same hsame (by simp [k1])
                    exact ⟨μ', v', he, hv', hs.1, fr'.trans hs.2⟩
                  · -- there is more room
                    have hex' : h.byteAt id = true ∧ off + cap = (A ++ (ints l ++ B)).length := by
                      rcases hex with hex | hex
                      · exact absurd (g3 hex) hexact
                      · exact hex
                    obtain ⟨hby, hend⟩ := hex'
                    have hB : B = [] := by
                      apply List.eq_nil_of_length_eq_zero
                      simp at hend; omega
                    subst hB
                    rcases g6 with h0 | ⟨b, base, lim, m1, ha, m3⟩
                    · omega
                    · obtain ⟨l2, q1, q2⟩ := s.refine m1 hgc hby
                      have hlen : (A ++ (ints l ++ [])).length = off + cap := hend.symm
                      rw [hlen] at q1
                      -- the bytes that are spoilt, and those behind them
                      have hd : ∃ l3 l4, l2 = l3 ++ l4 ∧ l3.length = cap' - cap := ⟨l2.take (cap' - cap), l2.drop (cap' - cap), (List.take_append_drop _ _).symm, by simp; omega⟩
                      obtain ⟨l3, l4, rfl, hl3⟩ := hd
                      have hgp : (h.set id (.cells ((A ++ (ints l ++ [])) ++ ints (l3 ++ l4)) false)).get id = some (.cells (A ++ (ints (l ++ l3) ++ ints l4)) false) := by
                        rw [Heap.get_set _ _ _ _ hid, if_pos rfl]; simp [ints]
                      obtain ⟨H, e1, k1, k2, k3⟩ := spoil_spec (X := noK) (SP := SP) (fun _ _ => rfl) hf (len := len) (cap := cap') by_ g5 A (ints l4) (l ++ l3) hAl (by simp; omega) hgp
                      obtain ⟨n, hn⟩ := xcall_iff.1 e1
                      obtain ⟨r1, r2⟩ := (acall_calls (XOk.none P) hSP hmix n).1 g _ _ _ H hn μ w args' q2 (by
                        rw [hA]
                        exact .cons _ _ _ _ (.slice id off len cap' true 1 a cap' (by omega) (Nat.le_refl _) (fun _ => rfl) g4 g5 (.inr ⟨b, base, lim, m1, ha, m3⟩)) (.cons _ _ _ _ hb0 .nil))
                      refine ⟨r1, r2.mono fun e w' ⟨μ', v', he, hv', s', fr'⟩ => ?_⟩
                      have hk2 : H.get id = some (.cells ((A ++ (ints (l.map (spoiled by_)) ++ [])) ++ ints (l3.map (spoiled by_) ++ l4)) false) := by
                        rw [k2]; simp [ints]
                      have hbase : ∀ j, j ≠ id → H.get j = h.get j := fun j hj => by rw [k3 j hj, Heap.get_set _ _ _ _ hid, if_neg hj]
                      have hcl : (A ++ (ints (l.map (spoiled by_)) ++ [])).length = off + cap := by simp; omega
                      have sc := s'.coarsen (h2 := h.set id (.cells (A ++ (ints (l.map (spoiled by_)) ++ [])) false)) (fr'.le _ _ m1) hk2 (by rw [hcl]; simp at q1 ⊢; omega) (by simp [k1]) (fun j => by
                        rw [Heap.get_set _ _ _ _ hid]
                        by_cases hj : j = id
                        · rw [if_pos hj, if_pos hj]
                        · rw [if_neg hj, if_neg hj, hbase j hj])
                      refine ⟨μ', v', he, hv', sc, fr'.refit (by simp) (by simp [k1]) (fun j => ?_) fun j => ?_⟩
                      · rw [Heap.get_set _ _ _ _ hid]
                        by_cases hj : j = id
                        · subst hj; rw [if_pos rfl, hgc]; rfl
                        · rw [if_neg hj]
                      · rw [Heap.get_set _ _ _ _ hid]
                        by_cases hj : j = id
                        · subst hj; rw [if_pos rfl, hk2]; rfl
                        · rw [if_neg hj, hbase j hj]
          · cases e
        · cases e
      · cases e
    · cases e
  · cases e
end
end Go.Ya
