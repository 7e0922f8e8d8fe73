/-
  Reading, writing and making rows of cells: the model's side of the abstract heap's operations.
-/
import Derived.Test.YtekbgdmemenheaaYaRel
namespace Go.Ya
set_option linter.unusedVariables false
set_option linter.unusedSimpArgs false

/-- Behind the known cells of a block that is marked stand bytes. -/
def Mk (μ : Mu) (h : Heap) (w : World) : Prop := ∀ id, h.byteAt id = true → ∀ b base lim c ro, μ id = some (b, base, lim) → h.get id = some (.cells c ro) →
  ∃ arr t fr, w.heap[b]? = some (.cells arr t fr) ∧ ∀ j, base + c.length ≤ j → j < lim → ∃ n, arr[j]? = some (.int .u8 n) ∧ wfInt .u8 n = true

/-- The state of a walk: the heap is related, and what is not yet made lies nowhere. -/
structure St (P : Program) (μ : Mu) (h : Heap) (w : World) : Prop where
  r : R P μ h.get w
  bd : ∀ id, h.next ≤ id → μ id = none
  mkd : Mk μ h w

theorem notMark (ba : ByteArray) (n : Nat) : (AObj.striter (bytesOf ba) n).isMark = false := by
  unfold AObj.isMark
  rw [beq_eq_false_iff_ne]
  intro e
  have : (-1 : Int) ∈ bytesOf ba := by rw [e]; simp
  simp [bytesOf] at this
theorem Mk.same {μ ν : Mu} {h h' : Heap} {w w' : World} (mk : Mk μ h w) (hb : ∀ id, h'.byteAt id = true → h.byteAt id = true ∧ ν id = μ id ∧ h'.get id = h.get id)
    (hw : ∀ id b base lim c ro, h.byteAt id = true → μ id = some (b, base, lim) → h.get id = some (.cells c ro) → w'.heap[b]? = w.heap[b]?) : Mk ν h' w' := by
  intro id e b base lim c ro m g
  obtain ⟨e1, e2, e3⟩ := hb id e
  rw [e2] at m
  rw [e3] at g
  obtain ⟨arr, t, fr, h1, h2⟩ := mk id e1 b base lim c ro m g
  exact ⟨arr, t, fr, (hw id b base lim c ro e1 m g).trans h1, h2⟩
theorem Mk.sameH {μ : Mu} {h : Heap} {w w' : World} (mk : Mk μ h w) (hw : ∀ id b base lim c ro, μ id = some (b, base, lim) → h.get id = some (.cells c ro) → w'.heap[b]? = w.heap[b]?) : Mk μ h w' :=
  mk.same (fun id e => ⟨e, rfl, rfl⟩) fun id b base lim c ro _ m g => hw id b base lim c ro m g
theorem Mk.alloc {P : Program} {μ : Mu} {h : Heap} {w : World} (mk : Mk μ h w) (hr : R P μ h.get w) (o : AObj) (ho : o.isMark = false) (ob : Obj) (x : Nat × Nat × Nat) : Mk (muAdd μ h.next x) (h.alloc o) (w.alloc ob) := by
  refine mk.same (fun id e => ?_) fun id b base lim c ro e m g => ?_
  · have e1 := Heap.byteAt_alloc ho e
    have := Heap.byteAt_lt e1
    exact ⟨e1, muAdd_ne _ _ _ _ (by omega), by rw [Heap.get_alloc, if_neg (by omega)]⟩
  · have := hr.lt m g rfl
    simp only [World.alloc, Array.getElem?_push]; rw [if_neg (by omega)]
theorem Mk.write {P : Program} {μ : Mu} {h : Heap} {w w' : World} (mk : Mk μ h w) (hr : R P μ h.get w) {i b base lim : Nat} {o o' : AObj} (e1 : μ i = some (b, base, lim)) (e2 : h.get i = some o) (ho : o.owned = true) (ho' : o'.isMark = false)
    (hold : ∀ j, j ≠ b → w'.heap[j]? = w.heap[j]?)
    (hrest : ∀ c' ro', o' = .cells c' ro' → ∃ c ro, o = .cells c ro ∧ c'.length = c.length ∧ ∀ arr t fr, w.heap[b]? = some (.cells arr t fr) → ∃ arr' t' fr', w'.heap[b]? = some (.cells arr' t' fr') ∧ ∀ j, base + c.length ≤ j → arr'[j]? = arr[j]?) : Mk μ (h.set i o') w' := by
  have hi := Heap.lt_of_get e2
  intro id e b1 base1 lim1 c' ro' m g
  have e' := Heap.byteAt_set hi ho' e
  rw [Heap.get_set _ _ _ _ hi] at g
  by_cases hid : id = i
  · subst hid
    rw [if_pos rfl] at g
    rw [e1] at m
    cases m
    obtain ⟨c, ro, q1, q2, q3⟩ := hrest c' ro' (by cases g; rfl)
    subst q1
    obtain ⟨arr, t, fr, h1, h2⟩ := mk id e' b base lim c ro e1 e2
    obtain ⟨arr', t', fr', k1, k2⟩ := q3 arr t fr h1
    exact ⟨arr', t', fr', k1, fun j j1 j2 => by rw [q2] at j1; rw [k2 j j1]; exact h2 j j1 j2⟩
  · rw [if_neg hid] at g
    obtain ⟨arr, t, fr, h1, h2⟩ := mk id e' b1 base1 lim1 c' ro' m g
    exact ⟨arr, t, fr, (hold b1 fun e => hr.inj i id b base lim b1 base1 lim1 o _ (Ne.symm hid) e1 m e2 g ho rfl e.symm).trans h1, h2⟩
theorem St.drew {P : Program} {μ : Mu} {h : Heap} {w : World} (s : St P μ h w) : St P μ h w.drew := ⟨s.r.drew, s.bd, s.mkd⟩
theorem St.note {P : Program} {μ : Mu} {h : Heap} {w : World} (s : St P μ h w) {id : Nat} (hid : id + 1 = h.next) (bt : Bool)
    (hrest : bt = true → ∀ b base lim c ro, μ id = some (b, base, lim) → h.get id = some (.cells c ro) → ∃ arr t fr, w.heap[b]? = some (.cells arr t fr) ∧ ∀ j, base + c.length ≤ j → j < lim → ∃ n, arr[j]? = some (.int .u8 n) ∧ wfInt .u8 n = true) :
    St P μ (h.note bt id) w ∧ Fr μ h w μ (h.note bt id) w := by
  cases bt
  · exact ⟨s, Fr.refl ..⟩
  · have hn : μ h.next = none := s.bd _ (Nat.le_refl _)
    have hget : ∀ j, (h.note true id).get j = if j = h.next then some (.mark id) else h.get j := fun j => by rw [Heap.get_note]; simp
    have hback : ∀ j x o, μ j = some x → (h.note true id).get j = some o → h.get j = some o := fun j x o m g => by
      rw [hget] at g
      by_cases hj : j = h.next
      · subst hj; rw [hn] at m; cases m
      · rw [if_neg hj] at g; exact g
    refine ⟨⟨⟨fun j b base lim o m g => s.r.obj j b base lim o m (hback j _ o m g), fun i j b base lim b' base' lim' o o' hne m1 m2 g1 g2 => s.r.inj i j b base lim b' base' lim' o o' hne m1 m2 (hback _ _ _ m1 g1) (hback _ _ _ m2 g2)⟩, fun j hj => s.bd j (by rw [Heap.next_note] at hj; simp at hj; omega), fun j e b base lim c ro m g => ?_⟩,
      ⟨.refl μ, Nat.le_refl _, rfl, rfl, rfl, fun _ _ _ => rfl, ?_, by rw [Heap.next_note]; omega, fun _ _ h => h⟩⟩
    · have g' := hback _ _ _ m g
      by_cases hj : j = id
      · subst hj; exact hrest rfl b base lim c ro m g'
      · refine s.mkd j ?_ b base lim c ro m g'
        rw [← e]; refine (Heap.byteAt_of ?_).symm
        rw [hget, if_neg (by omega)]
    · rintro b ⟨j, base, lim, o, m, g, ho⟩
      exact .inl ⟨j, base, lim, o, m, hback _ _ _ m g, ho⟩

section
variable {P : Program} {w : World}

theorem alloc_new (w : World) (o : Obj) : (w.alloc o).heap[w.heap.size]? = some o := by
  show (w.heap.push o)[w.heap.size]? = some o
  simp

theorem add0 (b o j : Nat) : (⟨b, o, none⟩ : Addr).add j = ⟨b, o + j, none⟩ := by
  unfold Addr.add; split
  · subst_vars; rfl
  · rfl

theorem run_loadFrom (b o : Nat) : ∀ (n i : Nat) (acc : Array Value) (cs : List Value), cs.length = n → (∀ j v, cs[j]? = some v → w.cell? ⟨b, o + (i + j), none⟩ = some v) →
    (loadCellsFrom ⟨b, o, none⟩ i n acc).run P w = .ok (acc ++ cs.toArray) w
  | 0, i, acc, cs, hl, _ => by
    have : cs = [] := List.eq_nil_of_length_eq_zero hl
    subst this; simp [loadCellsFrom]
  | n + 1, i, acc, cs, hl, h => by
    cases cs with
    | nil => simp at hl
    | cons v cs =>
      have h0 := h 0 v rfl
      simp only [Nat.add_zero] at h0
      have ih := run_loadFrom b o n (i + 1) (acc.push v) cs (by simpa using hl) fun j u hu => by
        have := h (j + 1) u (by simpa using hu)
        rw [show i + 1 + j = i + (j + 1) by omega]; exact this
      simp only [loadCellsFrom, Sem.run_bind, run_load, add0, h0, Result.andThen_ok, ih]
      congr 1
      apply Array.toList_inj.1
      simp

theorem run_loadCells (b o n : Nat) (cs : List Value) (hl : cs.length = n) (h : ∀ j v, cs[j]? = some v → w.cell? ⟨b, o + j, none⟩ = some v) :
    (loadCells ⟨b, o, none⟩ n).run P w = .ok cs.toArray w := by
  have := run_loadFrom (P := P) (w := w) b o n 0 #[] cs hl (by simpa using h)
  simpa [loadCells] using this

theorem cell_of {b : Nat} {arr : Array Value} {t : TypeId} {fr : Nat × Nat} (hb : w.heap[b]? = some (.cells arr t fr)) (j : Nat) : w.cell? ⟨b, j, none⟩ = arr[j]? := by
  simp [World.cell?, hb]
theorem frozen_of {b : Nat} {arr : Array Value} {t : TypeId} {fr : Nat × Nat} (hb : w.heap[b]? = some (.cells arr t fr)) (j : Nat) (h : ¬ (fr.1 ≤ j ∧ j < fr.2)) : w.frozen? ⟨b, j, none⟩ = false := by
  obtain ⟨lo, hi⟩ := fr
  simp only [World.frozen?, hb, Bool.and_eq_false_iff, decide_eq_false_iff_not]
  simp only at h
  omega

/-- What a row of stores leaves. -/
structure Wrote (w w' : World) (b : Nat) (arr arr' : Array Value) (t : TypeId) (fr : Nat × Nat) (o : Nat) (vs : List Value) : Prop where
  size : w'.heap.size = w.heap.size
  os : w'.os = w.os
  tape : w'.tape = w.tape
  output : w'.output = w.output
  other : ∀ j, j ≠ b → w'.heap[j]? = w.heap[j]?
  here : w'.heap[b]? = some (.cells arr' t fr)
  asize : arr'.size = arr.size
  cells : ∀ j, arr'[j]? = if o ≤ j ∧ j < o + vs.length then vs[j - o]? else arr[j]?

theorem run_storeFrom (b o : Nat) (t : TypeId) (fr : Nat × Nat) : ∀ (vs : List Value) (i : Nat) (arr : Array Value) (w : World), w.heap[b]? = some (.cells arr t fr) → o + i + vs.length ≤ arr.size →
    (∀ j, j < arr.size → ¬ (fr.1 ≤ j ∧ j < fr.2)) → (∀ v ∈ vs, v.oneCell' = true) →
    ∃ w' arr', (storeCells ⟨b, o, none⟩ vs i).run P w = .ok () w' ∧ Wrote w w' b arr arr' t fr (o + i) vs
  | [], i, arr, w, hb, _, _, _ => ⟨w, arr, by simp [storeCells], ⟨rfl, rfl, rfl, rfl, fun _ _ => rfl, hb, rfl, fun j => by
      rw [if_neg]; simp only [List.length_nil]; omega⟩⟩
  | v :: vs, i, arr, w, hb, hle, hfz, hone => by
    simp only [List.length_cons] at hle
    have hlt : o + i < arr.size := by omega
    have hc : w.cell? ⟨b, o + i, none⟩ = some arr[o + i] := by rw [cell_of hb]; simp [hlt]
    have hf : w.frozen? ⟨b, o + i, none⟩ = false := frozen_of hb _ (hfz _ hlt)
    have hbs : b < w.heap.size := (Array.getElem?_eq_some_iff.1 hb).1
    have hb1 : (w.setCell ⟨b, o + i, none⟩ v).heap[b]? = some (.cells (arr.setIfInBounds (o + i) v) t fr) := by
      simp only [World.setCell, Array.getElem?_modify, if_true, hb, Option.map_some]
      simp
    obtain ⟨w', arr', hrun, hw⟩ := run_storeFrom b o t fr vs (i + 1) (arr.setIfInBounds (o + i) v) (w.setCell ⟨b, o + i, none⟩ v) hb1 (by simp; omega) (by simpa using hfz) (fun u hu => hone u (List.mem_cons_of_mem _ hu))
    refine ⟨w', arr', ?_, ?_⟩
    · simp only [storeCells, Sem.run_bind, add0]
      rw [run_store _ _ _ _ _ (hone v (List.mem_cons_self))]
      simp only [hc, hf, Bool.false_eq_true, if_false, Result.andThen_ok]
      exact hrun
    · refine ⟨by simpa using hw.size, hw.os, hw.tape, hw.output, fun j hj => ?_, hw.here, by simpa using hw.asize, fun j => ?_⟩
      · rw [hw.other j hj]
        simp only [World.setCell, Array.getElem?_modify]
        rw [if_neg (Ne.symm hj)]
      · rw [hw.cells j]
        by_cases h1 : o + (i + 1) ≤ j ∧ j < o + (i + 1) + vs.length
        · rw [if_pos h1, if_pos (by simp only [List.length_cons]; omega)]
          rw [show j - (o + i) = (j - (o + (i + 1))) + 1 by omega]; rfl
        · rw [if_neg h1]
          by_cases h2 : j = o + i
          · subst h2
            rw [if_pos (by simp only [List.length_cons]; omega)]
            simp [hlt]
          · rw [if_neg (by simp only [List.length_cons]; omega)]
            rw [Array.getElem?_setIfInBounds_ne (by omega)]

theorem run_storeCells {b o : Nat} {t : TypeId} {fr : Nat × Nat} {vs : List Value} {arr : Array Value} (hb : w.heap[b]? = some (.cells arr t fr)) (hle : o + vs.length ≤ arr.size)
    (hfz : ∀ j, j < arr.size → ¬ (fr.1 ≤ j ∧ j < fr.2)) (hone : ∀ v ∈ vs, v.oneCell' = true) :
    ∃ w' arr', (storeCells ⟨b, o, none⟩ vs).run P w = .ok () w' ∧ Wrote w w' b arr arr' t fr o vs := by
  have := run_storeFrom (P := P) b o t fr vs 0 arr w hb (by omega) hfz hone
  simpa using this

theorem run_newRow (e : TypeId) (cs : Array Value) : (newRow e cs).run P w = .ok ⟨w.heap.size, 0, none⟩ (w.alloc (.cells cs e)) := by
  simp [newRow]
end

section
variable {P : Program} {μ : Mu} {h : Heap} {w : World}

theorem St.same (s : St P μ h w) {h' : Heap} (e : h'.get = h.get) (e2 : h'.next = h.next) : St P μ h' w ∧ Fr μ h w μ h' w :=
  ⟨⟨by rw [e]; exact s.r, fun j hj => s.bd j (by omega), s.mkd.same (fun id hid => ⟨by rw [← hid]; exact (Heap.byteAt_of (by rw [e])).symm, rfl, by rw [e]⟩) fun _ _ _ _ _ _ _ _ _ => rfl⟩, ⟨.refl μ, Nat.le_refl _, rfl, rfl, rfl, fun _ _ _ => rfl, by rw [e]; exact fun _ h => .inl h, by omega, fun _ _ h => h⟩⟩

/-! ### lists -/
theorem splice_get (c : List AV) (o : Nat) (vs : List AV) (h : o + vs.length ≤ c.length) (j : Nat) : (splice c o vs)[j]? = if o ≤ j ∧ j < o + vs.length then vs[j - o]? else c[j]? := by
  unfold splice
  by_cases h1 : j < o
  · rw [if_neg (by omega), List.append_assoc, List.getElem?_append_left (by simp; omega), List.getElem?_take, if_pos h1]
  · by_cases h2 : j < o + vs.length
    · rw [if_pos ⟨by omega, h2⟩, List.getElem?_append_left (by simp; omega), List.getElem?_append_right (by simp; omega)]
      simp [Nat.min_eq_left (show o ≤ c.length by omega)]
    · rw [if_neg (by omega), List.getElem?_append_right (by simp; omega), List.getElem?_drop]
      simp only [List.length_append, List.length_take]
      rw [Nat.min_eq_left (show o ≤ c.length by omega)]
      congr 1; omega
theorem splice_len (c : List AV) (o : Nat) (vs : List AV) (h : o + vs.length ≤ c.length) : (splice c o vs).length = c.length := by
  simp [splice]; omega

theorem flat_cells {a : AV} (h : a.cells.all AV.flat = true) {c : AV} (hc : c ∈ a.cells) : c.flat = true := List.all_eq_true.1 h c hc

theorem ones_of {as : List AV} {vs : List Value} (h : Vs μ as vs) (hf : as.all AV.flat = true) : ∀ v ∈ vs, v.oneCell' = true := by
  intro v hv
  obtain ⟨i, hi, rfl⟩ := List.mem_iff_getElem.1 hv
  obtain ⟨a, ha, hva⟩ := h.get' (List.getElem?_eq_getElem hi)
  exact hva.oneCell (List.all_eq_true.1 hf a (List.mem_of_getElem? ha))

/-! ### reading a row -/
theorem readRow (s : St P μ h w) {id b base lim : Nat} (hm : μ id = some (b, base, lim)) {c : List AV} {ro : Bool} (hg : h.get id = some (.cells c ro)) :
    ∃ arr t fr, w.heap[b]? = some (.cells arr t fr) ∧ lim ≤ arr.size ∧ base + c.length ≤ lim ∧
      (∀ (o n : Nat), o + n ≤ c.length → ∃ vs : List Value, vs.length = n ∧ Vs μ ((c.drop o).take n) vs ∧ (∀ j v, vs[j]? = some v → w.cell? ⟨b, base + o + j, none⟩ = some v)) ∧
      (c.all AV.flat = true) ∧ (ro = false → ∀ j, j < arr.size → ¬ (fr.1 ≤ j ∧ j < fr.2)) := by
  obtain ⟨arr, t, fr, hb, h1, h2, h3, h4⟩ := s.r.obj id b base lim _ hm hg
  refine ⟨arr, t, fr, hb, h1, h2, fun o n hn => ?_, ?_, h4⟩
  · refine ⟨(arr.toList.drop (base + o)).take n, by simp; omega, ?_, ?_⟩
    · refine Vs.of_get (by simp; omega) fun i a v e1 e2 => ?_
      rw [List.getElem?_take] at e1 e2
      split at e1
      · rename_i hi
        rw [if_pos hi] at e2
        rw [List.getElem?_drop] at e1 e2
        obtain ⟨v', x, y, _⟩ := h3 _ _ e1
        rw [show base + o + i = base + (o + i) by omega, Array.getElem?_toList, x] at e2
        cases e2; exact y
      · cases e1
    · intro j v e
      rw [List.getElem?_take] at e
      split at e
      · rw [List.getElem?_drop] at e
        rw [cell_of hb]; simpa using e
      · cases e
  · rw [List.all_eq_true]
    intro a ha
    obtain ⟨i, hi, rfl⟩ := List.mem_iff_getElem.1 ha
    obtain ⟨_, _, _, hf⟩ := h3 i _ (List.getElem?_eq_getElem hi)
    exact hf

/-- loadA at the model. -/
theorem loadA_sim (s : St P μ h w) {aggr : Bool} {n id off b base lim : Nat} {v : AV} (hm : μ id = some (b, base, lim)) (e : loadA h aggr n id off = some v) {t : TypeId}
    (ha : aggr? P t = some aggr) (hs : sz P t = some n) : ∃ v', (loadVar t ⟨b, base + off, none⟩).run P w = .ok v' w ∧ V μ v v' := by
  unfold loadA at e
  split at e
  · rename_i c ro hg
    obtain ⟨arr, tt, fr, hb, h1, h2, h3, hf, h4⟩ := readRow s hm hg
    simp only [aggr?] at ha
    simp only [sz, Option.map_eq_some_iff] at hs
    obtain ⟨i, hi, hsz⟩ := hs
    cases aggr with
    | true =>
      simp only [if_true] at e
      split at e
      · rename_i hle
        cases e
        obtain ⟨vs, hl, hv, hc⟩ := h3 off n hle
        refine ⟨.agg vs.toArray, ?_, .agg _ _ (by simpa using hv) ?_⟩
        · have hagg : (isAgg t).run P w = .ok true w := by
            simp only [isAgg, underlying, Sem.run_bind, run_program, Result.andThen_ok]
            cases hu : P.underlying t with
            | none => rw [hu] at ha; cases ha
            | some d => rw [hu] at ha; cases d <;> simp at ha ⊢
          simp only [loadVar, Sem.run_bind, hagg, Result.andThen_ok, if_true]
          simp only [sizeOf, typeInfo, Sem.run_bind, run_program, Result.andThen_ok, hi]
          simp only [Sem.run_pure, Result.andThen_ok, hsz]
          rw [run_loadCells b (base + off) n vs hl hc]
          simp
        · rw [List.all_eq_true] at hf ⊢
          intro x hx
          exact hf x (List.mem_of_mem_drop (List.mem_of_mem_take hx))
      · cases e
    | false =>
      simp only [Bool.false_eq_true, if_false] at e
      obtain ⟨arr', t', fr', hb', _, _, h3', _⟩ := s.r.obj id b base lim _ hm hg
      obtain ⟨v', x, y, _⟩ := h3' _ _ e
      refine ⟨v', ?_, y⟩
      have hagg : (isAgg t).run P w = .ok false w := by
        simp only [isAgg, underlying, Sem.run_bind, run_program, Result.andThen_ok]
        cases hu : P.underlying t with
        | none => rw [hu] at ha; cases ha
        | some d => rw [hu] at ha; cases d <;> simp at ha ⊢
      simp only [loadVar, Sem.run_bind, hagg, Result.andThen_ok, Bool.false_eq_true, if_false, run_load, cell_of hb', x]
  · cases e

/-- storeA at the model. -/
theorem storeA_sim (s : St P μ h w) {id off b base lim : Nat} {vs : List AV} {vs' : List Value} {h' : Heap} (hm : μ id = some (b, base, lim)) (e : storeA h id off vs = some h')
    (hv : Vs μ vs vs') (hf : vs.all AV.flat = true) : ∃ w', (storeCells ⟨b, base + off, none⟩ vs').run P w = .ok () w' ∧ St P μ h' w' ∧ Fr μ h w μ h' w' ∧ w'.heap.size = w.heap.size := by
  unfold storeA at e
  split at e
  · rename_i c hg
    split at e
    · rename_i hle
      cases e
      obtain ⟨arr, t, fr, hb, h1, h2, h3, h4⟩ := s.r.obj id b base lim _ hm hg
      have hlen := hv.len
      obtain ⟨w', arr', hrun, hw⟩ := run_storeCells (P := P) (o := base + off) (vs := vs') hb (by omega) (h4 rfl) (ones_of hv hf)
      have := s.r.write (w' := w') hm hg rfl (o' := .cells (splice c off vs) false) rfl hw.size hw.os hw.tape hw.output hw.other
        ⟨arr', t, fr, hw.here, by rw [hw.asize]; exact h1, by rw [splice_len _ _ _ hle]; exact h2, fun j a ha => by
          rw [splice_get _ _ _ hle] at ha
          rw [hw.cells]
          split at ha
          · rename_i hj
            rw [if_pos (by omega)]
            obtain ⟨v', ev', hv'⟩ := hv.get ha
            exact ⟨v', by rw [show base + j - (base + off) = j - off by omega]; exact ev', hv', List.all_eq_true.1 hf a (List.mem_of_getElem? ha)⟩
          · rename_i hj
            rw [if_neg (by omega)]
            exact h3 j a ha, fun _ => by rw [hw.asize]; exact h4 rfl⟩
      have hmk := s.mkd.write (w' := w') s.r hm hg rfl (o' := .cells (splice c off vs) false) rfl hw.other fun c' ro' e => ⟨c, false, rfl, by cases e; exact splice_len _ _ _ hle, fun arr2 t2 fr2 e2 => by
        rw [hb] at e2; cases e2
        exact ⟨arr', t, fr, hw.here, fun j hj => by rw [hw.cells, if_neg (by omega)]⟩⟩
      exact ⟨w', hrun, ⟨this.1, s.bd, hmk⟩, this.2, hw.size⟩
    · cases e
  · cases e

/-- A new row. -/
theorem alloc_sim (s : St P μ h w) (t : TypeId) {cs : List AV} {cs' : Array Value} (k : Nat) (hk : cs.length ≤ k) (hk' : k ≤ cs'.size) (hv : Vs μ cs (cs'.toList.take cs.length)) (hf : cs.all AV.flat = true) :
    St P (muAdd μ h.next (w.heap.size, 0, k)) (h.alloc (.cells cs false)) (w.alloc (.cells cs' t)) ∧
    Fr μ h w (muAdd μ h.next (w.heap.size, 0, k)) (h.alloc (.cells cs false)) (w.alloc (.cells cs' t)) := by
  have hn : μ h.next = none := s.bd _ (Nat.le_refl _)
  have := s.r.alloc (.cells cs false) (.cells cs' t) k hn
    ⟨cs', t, (0, 0), alloc_new w _, hk', by omega, fun j a ha => by
      obtain ⟨v, ev', hv'⟩ := hv.get ha
      have hj : j < cs.length := by
        rcases Nat.lt_or_ge j cs.length with h' | h'
        · exact h'
        · simp [List.getElem?_eq_none h'] at ha
      rw [List.getElem?_take, if_pos hj] at ev'
      exact ⟨v, by simpa using ev', hv'.mono (.add hn), List.all_eq_true.1 hf a (List.mem_of_getElem? ha)⟩, fun _ j _ h' => by omega⟩
  refine ⟨⟨this.1, fun id hid => ?_, s.mkd.alloc s.r _ rfl _ _⟩, this.2⟩
  simp only [Heap.next_alloc] at hid
  rw [muAdd_ne _ _ _ _ (by omega)]
  exact s.bd id (by omega)

theorem alloc_sim' (s : St P μ h w) (t : TypeId) {cs : List AV} {cs' : List Value} (hv : Vs μ cs cs') (hf : cs.all AV.flat = true) :
    St P (muAdd μ h.next (w.heap.size, 0, cs.length)) (h.alloc (.cells cs false)) (w.alloc (.cells cs'.toArray t)) ∧
    Fr μ h w (muAdd μ h.next (w.heap.size, 0, cs.length)) (h.alloc (.cells cs false)) (w.alloc (.cells cs'.toArray t)) :=
  alloc_sim s t cs.length (Nat.le_refl _) (by simp [hv.len]) (by rw [List.take_of_length_le (by simp [hv.len])]; simpa using hv) hf

/-- Another object: no row of cells. -/
theorem allocObj_sim (s : St P μ h w) (o : AObj) (ob : Obj) (hmk : o.isMark = false) (ho : ObjR P (muAdd μ h.next (w.heap.size, 0, 0)) o w.heap.size 0 0 (w.alloc ob)) :
    St P (muAdd μ h.next (w.heap.size, 0, 0)) (h.alloc o) (w.alloc ob) ∧ Fr μ h w (muAdd μ h.next (w.heap.size, 0, 0)) (h.alloc o) (w.alloc ob) := by
  have hn : μ h.next = none := s.bd _ (Nat.le_refl _)
  have := s.r.alloc o ob 0 hn ho
  refine ⟨⟨this.1, fun id hid => ?_, s.mkd.alloc s.r _ hmk _ _⟩, this.2⟩
  simp only [Heap.next_alloc] at hid
  rw [muAdd_ne _ _ _ _ (by omega)]
  exact s.bd id (by omega)

/-- Two heaps that read alike. -/
theorem St.congr {μ : Mu} {h g : Heap} (s : St P μ h w) (hn : g.next = h.next) (hg : ∀ id, g.get id = h.get id) : St P μ g w :=
  ⟨by rw [show g.get = h.get from funext hg]; exact s.r, fun id hid => s.bd id (by omega), fun id e => by
    rw [Heap.byteAt_of (hg (id + 1))] at e
    intro b base lim c ro m q
    rw [hg] at q
    exact s.mkd id e b base lim c ro m q⟩
theorem Fr.congr {μ₀ μ : Mu} {h₀ h g : Heap} {w₀ w : World} (f : Fr μ₀ h₀ w₀ μ h w) (hn : g.next = h.next) (hg : ∀ id, g.get id = h.get id) : Fr μ₀ h₀ w₀ μ g w := by
  have e : g.get = h.get := funext hg
  exact ⟨f.le, f.size, f.os, f.tape, f.output, f.same, fun b hb => f.own b (e ▸ hb), hn ▸ f.nx, f.dom⟩
/-- A block of cells comes where none is; blocks that are not there yet may be told dead. -/
theorem fill_box {μ : Mu} {g g' : Heap} (s : St P μ g w) (t : TypeId) {id : Nat} {c : List AV} {c' : List Value} (hv : Vs μ c c') (hf : c.all AV.flat = true) (h1 : g'.get id = some (.cells c false)) (h2 : μ id = none) (h4 : g.next ≤ g'.next)
    (h5 : ∀ j, j ≠ id → g'.get j = g.get j ∨ (g.next ≤ j ∧ g'.get j = some .dead)) (h6 : g'.byteAt id = false) :
    St P (muAdd μ id (w.heap.size, 0, c.length)) g' (w.alloc (.cells c'.toArray t)) ∧
    ∀ {μ₀ : Mu} {h₀ : Heap} {w₀ : World}, Fr μ₀ h₀ w₀ μ g w → h₀.next ≤ id → Fr μ₀ h₀ w₀ (muAdd μ id (w.heap.size, 0, c.length)) g' (w.alloc (.cells c'.toArray t)) := by
  have h3 := Heap.lt_of_get h1
  have hold : ∀ b, b < w.heap.size → (w.alloc (.cells c'.toArray t)).heap[b]? = w.heap[b]? := fun b hb => by
    simp only [World.alloc, Array.getElem?_push]; rw [if_neg (by omega)]
  have hle : Le μ (muAdd μ id (w.heap.size, 0, c.length)) := .add h2
  have back : ∀ j o, j ≠ id → g'.get j = some o → o.live = true → g.get j = some o := fun j o hj e hl => by
    rcases h5 j hj with q | ⟨_, q⟩
    · rw [← q]; exact e
    · rw [e] at q; cases q; simp [AObj.live] at hl
  have live_of : ∀ x : AObj, x.owned = true → x.live = true := fun x hx => by cases x <;> first | rfl | simp [AObj.owned] at hx
  refine ⟨⟨⟨fun j b base lim o e1 e2 => ?_, fun i j b base lim b' base' lim' o1 o2 hne e1 e2 g1 g2 ho1 ho2 => ?_⟩, fun j hj => ?_, ?_⟩, fun f hid => ⟨f.le.trans hle, ?_, f.os, f.tape, f.output, fun b hb hn => ?_, ?_, Nat.le_trans f.nx h4, fun j hj hn => ?_⟩⟩
  · by_cases hj : j = id
    · subst hj
      rw [muAdd_same] at e1; cases e1
      rw [h1] at e2; cases e2
      refine ⟨_, t, (0, 0), alloc_new w _, by simp [hv.len], by simp, fun k a ha => ?_, fun _ k _ h' => by simp at h'⟩
      obtain ⟨v, ev', hv'⟩ := hv.get ha
      exact ⟨v, by simpa using ev', hv'.mono hle, List.all_eq_true.1 hf a (List.mem_of_getElem? ha)⟩
    · rw [muAdd_ne _ _ _ _ hj] at e1
      cases hlv : o.live with
      | true =>
        have e3 := back j o hj e2 hlv
        exact (s.r.obj j b base lim o e1 e3).of_same hle (hold b (s.r.lt e1 e3 hlv))
      | false => cases o <;> first | trivial | simp [AObj.live] at hlv
  · have l1 := live_of _ ho1
    by_cases hi : i = id
    · subst hi
      rw [muAdd_same] at e1; cases e1
      have hj : j ≠ i := fun e => hne e.symm
      rw [muAdd_ne _ _ _ _ hj] at e2
      have := s.r.lt e2 (back j o2 hj g2 ho2) ho2
      omega
    · rw [muAdd_ne _ _ _ _ hi] at e1
      have q1 := back i o1 hi g1 l1
      by_cases hj : j = id
      · subst hj
        rw [muAdd_same] at e2; cases e2
        have := s.r.lt e1 q1 l1
        omega
      · rw [muAdd_ne _ _ _ _ hj] at e2
        exact s.r.inj i j b base lim b' base' lim' o1 o2 hne e1 e2 q1 (back j o2 hj g2 ho2) ho1 ho2
  · rw [muAdd_ne _ _ _ _ (by omega)]; exact s.bd j (by omega)
  · refine s.mkd.same (fun j e => ?_) fun j b base lim c ro e m q => hold b (s.r.lt m q rfl)
    have hji : j ≠ id := fun e' => by rw [e', h6] at e; cases e
    obtain ⟨o', m1, m2⟩ := Heap.byteAt_mark e
    have hj1 : j + 1 ≠ id := fun e' => by rw [e', h1] at m1; cases m1; cases m2
    have q1 : g'.get (j + 1) = g.get (j + 1) := (h5 (j + 1) hj1).elim (fun e => e) fun ⟨_, e'⟩ => by rw [e'] at m1; cases m1; cases m2
    have e1 : g.byteAt j = true := by rw [← Heap.byteAt_of q1]; exact e
    refine ⟨e1, muAdd_ne _ _ _ _ hji, (h5 j hji).elim (fun e => e) fun ⟨e', _⟩ => ?_⟩
    have := Heap.byteAt_lt e1; omega
  · have := f.size
    have e : (w.alloc (.cells c'.toArray t)).heap.size = w.heap.size + 1 := by show (w.heap.push _).size = _; simp
    omega
  · have := f.size
    rw [hold b (by omega)]; exact f.same b hb hn
  · rintro b ⟨j, base, lim, o, m, q, ho⟩
    by_cases hj : j = id
    · subst hj
      rw [muAdd_same] at m; cases m
      exact .inr f.size
    · rw [muAdd_ne _ _ _ _ hj] at m
      exact f.own b ⟨j, base, lim, o, m, back j o hj q (live_of _ ho), ho⟩
  · rw [muAdd_ne _ _ _ _ (by omega)]; exact f.dom j hj hn
end
end Go.Ya
