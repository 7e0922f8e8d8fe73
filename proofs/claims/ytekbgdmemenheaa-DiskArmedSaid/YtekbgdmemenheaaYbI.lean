/-
  The abstract machine: YaStp, YaRows, YaIter, YaAuto, YaLess, YaLib.
-/
import Derived.IntWalk
import Derived.Test.YtekbgdmemenheaaYbH
namespace Go.Ya
set_option linter.unusedVariables false
set_option linter.unusedSimpArgs false
def Stp (h h' : Heap) (F F' : Nat → Prop) : Prop := h.next ≤ h'.next ∧ (∀ j, j < h.next → ¬ F j → h'.get j = h.get j) ∧ (∀ j, F' j → F j ∨ h.next ≤ j)
theorem Stp.trans {h h' h2 : Heap} {F F' F2 : Nat → Prop} (s : Stp h h' F F') (t : Stp h' h2 F' F2) : Stp h h2 F F2 :=
  ⟨Nat.le_trans s.1 t.1, fun j hj hn => (t.2.1 j (Nat.lt_of_lt_of_le hj s.1) fun hf => (s.2.2 j hf).elim hn fun e => by omega).trans (s.2.1 j hj hn), fun j hj => by
    rcases t.2.2 j hj with e | e
    · exact s.2.2 j e
    · exact .inr (Nat.le_trans s.1 e)⟩
section
variable {X : Known} {SP : FuncId → Option SFunc}
end
end Go.Ya
namespace Go.Ya
set_option linter.unusedVariables false
set_option linter.unusedSimpArgs false
def ShAt (esz : Nat) (h : Heap) (sl : AV) (b : Nat) (rows : List (List AV)) : Prop :=
  (∀ r ∈ rows, r.length = esz) ∧ ((sl = .nilsl ∧ rows = []) ∨ ∃ cap rest, sl = .slice b 0 rows.length cap false esz ∧ rows.length ≤ cap ∧ h.get b = some (.cells (rows.flatten ++ rest) false) ∧ (rows.flatten ++ rest).length = cap * esz)
theorem rows_len {esz : Nat} : ∀ {rows : List (List AV)}, (∀ r ∈ rows, r.length = esz) → rows.flatten.length = rows.length * esz
  | [], _ => by simp
  | r :: rows, h => by
    have h1 := h r (List.mem_cons_self)
    have h2 := rows_len fun r hr => h r (List.mem_cons_of_mem _ hr)
    simp only [List.flatten_cons, List.length_append, List.length_cons, h1, h2, Nat.succ_mul]; omega
theorem ShAt.keep {esz : Nat} {h h' : Heap} {sl : AV} {b : Nat} {rows : List (List AV)} (hs : ShAt esz h sl b rows) (hg : ∀ o, h.get b = some o → h'.get b = some o) : ShAt esz h' sl b rows := by
  obtain ⟨h1, h2⟩ := hs
  refine ⟨h1, h2.imp (fun e => e) fun ⟨cap, rest, e1, e2, e3, e4⟩ => ⟨cap, rest, e1, e2, hg _ e3, e4⟩⟩
theorem ShAt.flat {esz : Nat} {h : Heap} {sl : AV} {b : Nat} {rows : List (List AV)} (hs : ShAt esz h sl b rows) : sl.flat = true := by
  rcases hs.2 with ⟨rfl, _⟩ | ⟨cap, rest, rfl, _⟩ <;> rfl
theorem ShAt.len {esz : Nat} {h : Heap} {sl : AV} {b : Nat} {rows : List (List AV)} (hs : ShAt esz h sl b rows) (call : Tgt → List AV → Heap → AR) (tm : List AV) : aop call tm h (.len .sl (.c sl)) = some (.int .i64 rows.length, h) := by
  rcases hs.2 with ⟨rfl, rfl⟩ | ⟨cap, rest, rfl, _⟩ <;> rfl
theorem ShAt.load {esz : Nat} {h : Heap} {sl : AV} {b : Nat} {rows : List (List AV)} (hs : ShAt esz h sl b rows) {i : Nat} {row : List AV} (hi : rows[i]? = some row) :
    ∃ cap, sl = .slice b 0 rows.length cap false esz ∧ loadA h true esz b (i * esz) = some (.agg row) ∧ (∀ k v, row[k]? = some v → loadA h false 1 b (i * esz + k) = some v) ∧ i < rows.length := by
  obtain ⟨h1, h2⟩ := hs
  have hlt : i < rows.length := by
    rcases Nat.lt_or_ge i rows.length with h | h
    · exact h
    · rw [List.getElem?_eq_none h] at hi; cases hi
  rcases h2 with ⟨_, rfl⟩ | ⟨cap, rest, rfl, e2, e3, e4⟩
  · simp at hi
  · have hsp : rows = rows.take i ++ row :: rows.drop (i + 1) := by
      have hr : rows[i] = row := by rw [List.getElem?_eq_getElem hlt] at hi; exact Option.some.inj hi
      rw [← hr, ← List.drop_eq_getElem_cons hlt, List.take_append_drop]
    have ht : (rows.take i).flatten.length = i * esz := by
      rw [rows_len (fun r hr => h1 r (List.mem_of_mem_take hr)), List.length_take, Nat.min_eq_left (by omega)]
    have hrl : row.length = esz := h1 row (List.mem_of_getElem? hi)
    have hc : rows.flatten ++ rest = (rows.take i).flatten ++ (row ++ ((rows.drop (i + 1)).flatten ++ rest)) := by
      conv => lhs; rw [hsp]
      simp
    refine ⟨cap, rfl, ?_, fun k v hk => ?_, hlt⟩
    · have hle : i * esz + esz ≤ (rows.flatten ++ rest).length := by rw [hc]; simp only [List.length_append, ht, hrl]; omega
      simp only [loadA, e3, hle, if_true]
      rw [hc, ← ht, List.drop_left, ← hrl, List.take_left]
    · rw [load_of e3, hc, List.getElem?_append_right (by omega), ht]
      have : k < row.length := by
        rcases Nat.lt_or_ge k row.length with h | h
        · exact h
        · rw [List.getElem?_eq_none h] at hk; cases hk
      rw [show i * esz + k - i * esz = k by omega, List.getElem?_append_left this]
      exact hk
theorem ShAt.append {esz bytes : Nat} {h : Heap} {sl : AV} {b : Nat} {rows : List (List AV)} (hs : ShAt esz h sl b rows) {y : AV} {row : List AV} (hy : lenA y = some 1) (hf : firstA h esz 1 y = some row) (hrl : row.length = esz)
    (hsz : (rows.length + 1) * bytes ≤ 140737488355328 ∧ rows.length + 1 ≤ 140737488355328) :
    ∃ sl' h' b', appendA h esz bytes sl y = some (sl', h') ∧ ShAt esz h' sl' b' (rows ++ [row]) ∧ sl'.flat = true ∧ h.next ≤ h'.next ∧ (∀ j, j < h.next → j ≠ b → h'.get j = h.get j) ∧ (b' = b ∨ h.next ≤ b') ∧ b' < h'.next := by
  obtain ⟨h1, h2⟩ := hs
  have hall : ∀ r ∈ rows ++ [row], r.length = esz := by
    intro r hr
    rcases List.mem_append.1 hr with hr | hr
    · exact h1 r hr
    · simp at hr; subst hr; exact hrl
  have hfl := rows_len h1
  rcases h2 with ⟨rfl, rfl⟩ | ⟨cap, rest, rfl, e2, e3, e4⟩
  · simp only [List.length_nil, Nat.zero_add, Nat.one_mul] at hsz
    refine ⟨.slice h.next 0 1 1 false esz, (h.alloc (.cells row false)).note (decide (esz = 1 ∧ bytes = 1)) h.next, h.next, ?_, ⟨hall, .inr ⟨1, [], rfl, Nat.le_refl _, ?_, by simp [hrl]⟩⟩, rfl, ?_, ?_, .inr (Nat.le_refl _), ?_⟩
    · simp only [appendA, hy, hf, Nat.one_ne_zero, if_false]
      rw [if_pos (by omega)]
    · exact (Grow.note _ _ _).get (by rw [Heap.get_alloc, if_pos rfl]; simp)
    · exact ((Grow.alloc _ _).trans (Grow.note _ _ _)).1
    · exact fun j hj _ => ((Grow.alloc _ _).trans (Grow.note _ _ _)).2 j hj
    · exact Nat.lt_of_lt_of_le (by simp) (Grow.note _ _ _).1
  · have hb := Heap.lt_of_get e3
    rw [List.length_append, hfl] at e4
    by_cases hcap : rows.length + 1 ≤ cap
    · have hm : (rows.length + 1) * esz ≤ cap * esz := Nat.mul_le_mul_right _ hcap
      have hm2 : (rows.length + 1) * esz = rows.length * esz + esz := Nat.succ_mul _ _
      have hst := store_of (vs := row) (off := rows.length * esz) e3 (by rw [List.length_append, hfl]; omega)
      have hsp : splice (rows.flatten ++ rest) (rows.length * esz) row = (rows ++ [row]).flatten ++ rest.drop esz := by
        unfold splice
        rw [← hfl, List.take_left, List.drop_append, List.drop_eq_nil_of_le (by omega)]
        simp [hrl]
      rw [hsp] at hst
      refine ⟨.slice b 0 (rows.length + 1) cap false esz, h.set b (.cells ((rows ++ [row]).flatten ++ rest.drop esz) false), b, ?_, ⟨hall, .inr ⟨cap, rest.drop esz, by simp, by simpa using hcap, ?_, ?_⟩⟩, rfl, by simp, ?_, .inl rfl, by simpa using hb⟩
      · simp only [appendA, hy, hf, if_true, hcap, Nat.zero_add, hst]
      · rw [get_set, if_pos rfl, if_pos hb]
      · rw [List.length_append, rows_len hall, List.length_append, List.length_drop]
        simp only [List.length_cons, List.length_nil, Nat.zero_add]
        omega
      · intro j _ hj; rw [get_set, if_neg hj]
    · have hle : 0 + rows.length * esz ≤ (rows.flatten ++ rest).length := by rw [List.length_append, hfl]; omega
      have htk : ((rows.flatten ++ rest).drop 0).take (rows.length * esz) = rows.flatten := by rw [List.drop_zero, ← hfl, List.take_left]
      generalize hbt : (decide (esz = 1 ∧ bytes = 1) && h.byteAt b && decide ((rows.flatten ++ rest).length ≤ 0 + (rows.length + 1))) = bt
      refine ⟨.slice h.next 0 (rows.length + 1) (rows.length + 1) false esz, ((h.alloc (.cells ((rows ++ [row]).flatten) false)).set b .dead).note bt h.next, h.next, ?_, ⟨hall, .inr ⟨rows.length + 1, [], by simp, by simp, ?_, ?_⟩⟩, rfl, ?_, ?_, .inr (Nat.le_refl _), ?_⟩
      · simp only [appendA, hy, hf, if_true, hcap, if_false, hsz, and_self, e3, hle, Bool.false_eq_true, htk, hbt]
        simp
      · refine (Grow.note _ _ _).get ?_
        rw [get_set, if_neg (by omega), Heap.get_alloc, if_pos rfl, List.append_nil]
      · rw [List.append_nil, rows_len hall]; simp
      · exact Nat.le_trans (by simp) (Grow.note _ _ _).1
      · intro j hj hjb
        rw [(Grow.note _ _ _).2 j (by simp; omega), get_set, if_neg hjb, Heap.get_alloc, if_neg (by omega)]
      · exact Nat.lt_of_lt_of_le (by simp) (Grow.note _ _ _).1
end Go.Ya
namespace Go.Ya
set_option linter.unusedVariables false
set_option linter.unusedSimpArgs false
section
variable {X : Known} {SP : FuncId → Option SFunc}
theorem y_round {f : FuncId} {l : Nat} {tm tm0 tm1 tm2 : List AV} {ps : List Nat} {as bd : SC} {args : List AV} {h h2 : Heap} {pe : AExit}
    (hl : h.get l = some (.loop f tm ps as bd .ready pe)) (hz : zipSet tm ps args = some tm0) (ha : xcode X SP f (some l) as tm0 h = some (.normal, tm1, h))
    (hb : xcode X SP f (some l) bd tm1 (h.set l (.loop f tm ps as bd .busy pe)) = some (.normal, tm2, h2)) (hg : h2.get l = some (.loop f tm ps as bd .busy pe)) :
    xcall X SP (.yield l) args h = some (.bool true, h2.set l (.loop f tm ps as bd .ready .normal)) := by
  rw [xcall_yield]
  simp only [yieldF, hl, hz, ha, hb, hg, if_true]
structure Cons (X : Known) (SP : FuncId → Option SFunc) (l : Nat) (ok : List AV → Prop) (C : List (List AV) → Heap → (Nat → Prop) → Prop) : Prop where
  keep : ∀ {done h h' B}, C done h B → h.next ≤ h'.next → (∀ j, B j → h'.get j = h.get j) → C done h' B
  low : ∀ {done h B}, C done h B → ∀ j, B j → j < h.next
  step : ∀ {done x h B}, C done h B → ok x → ∃ h' B', xcall X SP (.yield l) x h = some (.bool true, h') ∧ C (done ++ [x]) h' B' ∧ Stp h h' B B'
def Prod (X : Known) (SP : FuncId → Option SFunc) (g : FuncId) (first captured : List AV) (P : Heap → (Nat → Prop) → Prop) (xs : List (List AV)) : Prop :=
  ∀ l ok C h B, Cons X SP l ok C → (∀ x ∈ xs, ok x) → C [] h B → P h B → ∃ v h' B', xcall X SP (.fn g) (first ++ [.yieldf l] ++ captured) h = some (v, h') ∧ C xs h' B' ∧ Stp h h' B B'
def LoopC (l : Nat) (f : FuncId) (tm : List AV) (ps : List Nat) (as bd : SC) (D : List (List AV) → Heap → (Nat → Prop) → Prop) : List (List AV) → Heap → (Nat → Prop) → Prop :=
  fun done h B' => h.get l = some (.loop f tm ps as bd .ready .normal) ∧ ∃ B, D done h B ∧ ¬ B l ∧ ∀ j, B' j ↔ j = l ∨ B j
structure Body (X : Known) (SP : FuncId → Option SFunc) (f : FuncId) (tm : List AV) (ps : List Nat) (as bd : SC) (ok : List AV → Prop) (D : List (List AV) → Heap → (Nat → Prop) → Prop) : Prop where
  keep : ∀ {done h h' B}, D done h B → h.next ≤ h'.next → (∀ j, B j → h'.get j = h.get j) → D done h' B
  low : ∀ {done h B}, D done h B → ∀ j, B j → j < h.next
  run : ∀ {l done x h B pe}, D done h B → ¬ B l → ok x → h.get l = some (.loop f tm ps as bd .busy pe) → ∃ tm0 tm1 tm2 h2 B2, zipSet tm ps x = some tm0 ∧ (∀ h0 : Heap, h0.get l = some (.loop f tm ps as bd .ready pe) → xcode X SP f (some l) as tm0 h0 = some (.normal, tm1, h0)) ∧ xcode X SP f (some l) bd tm1 h = some (.normal, tm2, h2) ∧ D (done ++ [x]) h2 B2 ∧ Stp h h2 B B2
theorem Body.cons {l : Nat} {f : FuncId} {tm : List AV} {ps : List Nat} {as bd : SC} {ok : List AV → Prop} {D : List (List AV) → Heap → (Nat → Prop) → Prop} (b : Body X SP f tm ps as bd ok D) : Cons X SP l ok (LoopC l f tm ps as bd D) where
  keep := by
    rintro done h h' B' ⟨h1, B, h2, h3, h4⟩ hx hs
    exact ⟨(hs l ((h4 l).2 (.inl rfl))).trans h1, B, b.keep h2 hx fun j hj => hs j ((h4 j).2 (.inr hj)), h3, h4⟩
  low := by
    rintro done h B' ⟨h1, B, h2, h3, h4⟩ j hj
    rcases (h4 j).1 hj with rfl | hj
    · exact Heap.lt_of_get h1
    · exact b.low h2 j hj
  step := by
    rintro done x h B' ⟨h1, B, h2, h3, h4⟩ hx
    have hl := Heap.lt_of_get h1
    have g1 : (h.set l (.loop f tm ps as bd .busy .normal)).get l = some (.loop f tm ps as bd .busy .normal) := by rw [get_set, if_pos rfl, if_pos hl]
    have hB : ∀ j, B j → j ≠ l := fun j hj e => h3 (e ▸ hj)
    obtain ⟨tm0, tm1, tm2, H2, B2, z, a, r, d, st⟩ := b.run (l := l) (b.keep (h' := h.set l (.loop f tm ps as bd .busy .normal)) h2 (by simp) fun j hj => by rw [get_set, if_neg (hB j hj)]) h3 hx g1
    have g2 : H2.get l = some (.loop f tm ps as bd .busy .normal) := by rw [st.2.1 l (by simpa using hl) h3]; exact g1
    have h32 : ¬ B2 l := fun e => by
      rcases st.2.2 l e with e | e
      · exact h3 e
      · simp at e; omega
    have hn : h.next ≤ H2.next := by simpa using st.1
    refine ⟨H2.set l (.loop f tm ps as bd .ready .normal), fun j => j = l ∨ B2 j, y_round h1 z (a h h1) r g2, ⟨by rw [get_set, if_pos rfl, if_pos (by omega)], B2, b.keep d (by simp) fun j hj => by rw [get_set, if_neg (show j ≠ l from fun e => h32 (e ▸ hj))], h32, fun j => Iff.rfl⟩, by simpa using hn, fun j hj hB' => ?_, fun j hj => ?_⟩
    · have q1 : j ≠ l := fun e => hB' ((h4 j).2 (.inl e))
      have q2 : ¬ B j := fun e => hB' ((h4 j).2 (.inr e))
      rw [get_set, if_neg q1, st.2.1 j (by simpa using hj) q2, get_set, if_neg q1]
    · rcases hj with rfl | hj
      · exact .inl ((h4 _).2 (.inl rfl))
      · rcases st.2.2 j hj with e | e
        · exact .inl ((h4 _).2 (.inr e))
        · exact .inr (by simpa using e)
end
end Go.Ya
namespace Go.Ya
set_option linter.unusedVariables false
set_option linter.unusedSimpArgs false
section
variable {h : Heap} {o : AObj} {j id : Nat}
theorem ga_new (e : j = h.next) : (h.alloc o).get j = some o := by rw [Heap.get_alloc, if_pos e]
theorem ga_old (e : j ≠ h.next) : (h.alloc o).get j = h.get j := by rw [Heap.get_alloc, if_neg e]
theorem gs_new (e : j = id) (hl : id < h.next) : (h.set id o).get j = some o := by rw [Heap.get_set _ _ _ _ hl, if_pos e]
theorem gs_old (e : j ≠ id) : (h.set id o).get j = h.get j := by rw [get_set, if_neg e]
theorem nx_alloc (h : Heap) (o : AObj) : (h.alloc o).next = h.next + 1 := Eq.trans (Heap.next_alloc h o) rfl
theorem nx_set (h : Heap) (id : Nat) (o : AObj) : (h.set id o).next = h.next := Eq.trans (Heap.next_set h id o) rfl
theorem d_t {p : Prop} [Decidable p] (hp : p) : decide p = true := decide_eq_true hp
theorem d_f {p : Prop} [Decidable p] (hp : ¬ p) : decide p = false := decide_eq_false hp
theorem i_t {α : Type} {p : Prop} [Decidable p] {a b : α} (hp : p) : (if p then a else b) = a := if_pos hp
theorem i_f {α : Type} {p : Prop} [Decidable p] {a b : α} (hp : ¬ p) : (if p then a else b) = b := if_neg hp
theorem beq_t {a b : Int} (hp : a = b) : (a == b) = true := beq_iff_eq.2 hp
theorem beq_f {a b : Int} (hp : ¬ a = b) : (a == b) = false := beq_eq_false_iff_ne.2 hp
theorem bne_t {a b : Int} (hp : ¬ a = b) : (a != b) = true := bne_iff_ne.2 hp
theorem bne_f {a b : Int} (hp : a = b) : (a != b) = false := by rw [hp]; exact bne_self_eq_false b
theorem w_i64 {n : Int} (h1 : -9223372036854775808 ≤ n ∧ n ≤ 9223372036854775807) : IntKind.i64.wrap n = n := IntWalk.i64_in n h1
theorem w_u64 {n : Int} (h1 : 0 ≤ n ∧ n ≤ 18446744073709551615) : IntKind.u64.wrap n = n := IntWalk.u64_in n h1
theorem w_u32 {n : Int} (h1 : 0 ≤ n ∧ n ≤ 4294967295) : IntKind.u32.wrap n = n := IntWalk.u32_in n h1
theorem w_i32 {n : Int} (h1 : -2147483648 ≤ n ∧ n ≤ 2147483647) : IntKind.i32.wrap n = n := IntWalk.i32_in n h1
theorem w_u8 {n : Int} (h1 : 0 ≤ n ∧ n ≤ 255) : IntKind.u8.wrap n = n := IntWalk.u8_in n h1
theorem b_eqB {a b : Bool} : binA .eql .bool (.bool a) (.bool b) = some (.bool (a == b)) := rfl
theorem b_neB {a b : Bool} : binA .neq .bool (.bool a) (.bool b) = some (.bool !(a == b)) := rfl
theorem b_eqS {ek : EqK} {a b : List Int} : binA .eql ek (.str a) (.str b) = some (.bool (a == b)) := rfl
theorem b_neS {ek : EqK} {a b : List Int} : binA .neq ek (.str a) (.str b) = some (.bool (a != b)) := rfl
theorem k_0 {b : Bool} : kindOk 0 (.bool b) = true := rfl
theorem k_1 {k : IntKind} {n : Int} : kindOk 1 (.int k n) = true := rfl
theorem k_2 {l : List Int} : kindOk 2 (.str l) = true := rfl
theorem n_sub1 {i : Nat} (hi : 0 < i) : (i : Int) - 1 = ((i - 1 : Nat) : Int) := by omega
theorem n_add1 (i : Nat) : (i : Int) + 1 = ((i + 1 : Nat) : Int) := by omega
end
/-! ### loops, round by round -/
section
variable {X : Known} {SP : FuncId → Option SFunc} {self : FuncId} {rd : Option Nat} {L : SC}
end
/-! ### heaps that grow -/
theorem Grow.allocR {a b : Heap} (g : Grow a b) (o : AObj) : Grow a (b.alloc o) := g.trans (Grow.alloc b o)
theorem Grow.setR {a b : Heap} (g : Grow a b) {id : Nat} (o : AObj) (h1 : a.next ≤ id) (h2 : id < b.next) : Grow a (b.set id o) := Grow.set g o h1 h2
/-! ### slices that are read -/
def Rd (esz : Nat) (h : Heap) (v : AV) (rows : List (List AV)) : Prop :=
  (∀ r ∈ rows, r.length = esz) ∧ ((v = .nilsl ∧ rows = []) ∨ ∃ id off cap ex c ro, v = .slice id off rows.length cap ex esz ∧ h.get id = some (.cells c ro) ∧ off + rows.length * esz ≤ c.length ∧ (c.drop off).take (rows.length * esz) = rows.flatten)
theorem Rd.keep {esz : Nat} {h h' : Heap} {v : AV} {rows : List (List AV)} (r : Rd esz h v rows) (hg : ∀ id o l c e z, v = .slice id o l c e z → id < h.next → h'.get id = h.get id) : Rd esz h' v rows := by
  obtain ⟨h1, h2⟩ := r
  refine ⟨h1, h2.imp (fun e => e) fun ⟨id, off, cap, ex, c, ro, e1, e2, e3, e4⟩ => ⟨id, off, cap, ex, c, ro, e1, (hg _ _ _ _ _ _ e1 (Heap.lt_of_get e2)).trans e2, e3, e4⟩⟩
theorem Rd.grow {esz : Nat} {h h' : Heap} {v : AV} {rows : List (List AV)} (r : Rd esz h v rows) (g : Grow h h') : Rd esz h' v rows :=
  r.keep fun id _ _ _ _ _ _ hl => g.2 id hl
theorem Rd.flat {esz : Nat} {h : Heap} {v : AV} {rows : List (List AV)} (r : Rd esz h v rows) : v.flat = true := by
  rcases r.2 with ⟨rfl, _⟩ | ⟨_, _, _, _, _, _, rfl, _⟩ <;> rfl
theorem Rd.lenA {esz : Nat} {h : Heap} {v : AV} {rows : List (List AV)} (r : Rd esz h v rows) : lenA v = some rows.length := by
  rcases r.2 with ⟨rfl, rfl⟩ | ⟨_, _, _, _, _, _, rfl, _⟩ <;> rfl
theorem Rd.first {esz : Nat} {h : Heap} {v : AV} {rows : List (List AV)} (r : Rd esz h v rows) : firstA h esz rows.length v = some rows.flatten := by
  rcases r.2 with ⟨rfl, rfl⟩ | ⟨id, off, cap, ex, c, ro, rfl, e2, e3, e4⟩
  · rfl
  · simp [firstA, e2, e3, e4]
theorem _root_.Go.Ya.ShAt.rd {esz : Nat} {h : Heap} {v : AV} {b : Nat} {rows : List (List AV)} (s : ShAt esz h v b rows) : Rd esz h v rows := by
  obtain ⟨h1, h2⟩ := s
  refine ⟨h1, h2.imp (fun e => e) fun ⟨cap, rest, e1, e2, e3, e4⟩ => ⟨b, 0, cap, false, _, false, e1, e3, ?_, ?_⟩⟩
  · have := rows_len h1
    rw [List.length_append]; omega
  · rw [List.drop_zero, ← rows_len h1, List.take_left]
theorem row_cells {esz : Nat} {c : List AV} : ∀ {rows : List (List AV)} {off : Nat}, (∀ r ∈ rows, r.length = esz) → (c.drop off).take (rows.length * esz) = rows.flatten → ∀ {i : Nat} (hi : i < rows.length), (c.drop (off + i * esz)).take esz = rows[i]
  | [], off, _, _, i, hi => by simp at hi
  | r :: rows, off, hr, hc, i, hi => by
    have hl := hr r List.mem_cons_self
    rw [List.length_cons, Nat.succ_mul, Nat.add_comm, List.take_add, List.flatten_cons] at hc
    have hlen : ((c.drop off).take esz).length = r.length := by
      have := congrArg List.length hc
      simp only [List.length_append, List.length_take, List.length_drop] at this ⊢
      have h2 : rows.flatten.length = rows.length * esz := rows_len fun r hr' => hr r (List.mem_cons_of_mem _ hr')
      omega
    obtain ⟨h1, h2⟩ := List.append_inj hc hlen
    cases i with
    | zero => simpa using h1
    | succ i =>
      rw [List.drop_drop] at h2
      have := row_cells (off := off + esz) (fun r hr' => hr r (List.mem_cons_of_mem _ hr')) h2 (i := i) (by simpa using hi)
      rw [show off + (i + 1) * esz = off + esz + i * esz by rw [Nat.succ_mul]; omega]
      simpa using this
theorem Rd.cases {α : Type} {esz : Nat} {h : Heap} {v : AV} {l : List α} {enc : α → List AV} (d : α) (r : Rd esz h v (l.map enc)) :
    (v = .nilsl ∧ l = []) ∨ ∃ id off cap ex c ro, v = .slice id off l.length cap ex esz ∧ h.get id = some (.cells c ro) ∧ id < h.next ∧ off + l.length * esz ≤ c.length ∧
      (∀ i : Nat, i < l.length → (c.drop (off + i * esz)).take esz = enc (l.getD i d)) ∧ (∀ i k : Nat, i < l.length → k < esz → c[off + i * esz + k]? = (enc (l.getD i d))[k]?) := by
  obtain ⟨h1, h2⟩ := r
  rcases h2 with ⟨e, e2⟩ | ⟨id, off, cap, ex, c, ro, e1, e2, e3, e4⟩
  · exact .inl ⟨e, by simpa using e2⟩
  · rw [List.length_map] at e1 e3
    have key : ∀ i : Nat, i < l.length → (c.drop (off + i * esz)).take esz = enc (l.getD i d) := fun i hi => by
      rw [row_cells h1 e4 (i := i) (by simpa using hi)]
      simp [List.getD_eq_getElem?_getD, List.getElem?_eq_getElem hi]
    refine .inr ⟨id, off, cap, ex, c, ro, e1, e2, Heap.lt_of_get e2, e3, key, fun i k hi hk => ?_⟩
    rw [← key i hi, List.getElem?_take, if_pos hk, List.getElem?_drop]
theorem ShAt.push {esz bytes : Nat} {h : Heap} {sl : AV} {b : Nat} {rows : List (List AV)} (hs : ShAt esz h sl b rows) (hb : b < h.next) (row : List AV) (ro : Bool) (hrl : row.length = esz) (hz : 0 < esz) (ex : Bool)
    (hsz : (rows.length + 1) * bytes ≤ 140737488355328 ∧ rows.length + 1 ≤ 140737488355328) :
    ∃ sl' h' b', appendA (h.alloc (.cells row ro)) esz bytes sl (.slice h.next 0 1 1 ex esz) = some (sl', h') ∧ ShAt esz h' sl' b' (rows ++ [row]) ∧ sl'.flat = true ∧ h.next + 1 ≤ h'.next ∧ (∀ j, j < h.next + 1 → j ≠ b → h'.get j = (h.alloc (.cells row ro)).get j) ∧ (b' = b ∨ h.next < b') ∧ b' < h'.next := by
  have hs' : ShAt esz (h.alloc (.cells row ro)) sl b rows := hs.keep fun o ho => by rw [ga_old (by omega)]; exact ho
  obtain ⟨sl', h', b', e1, e2, e3, e4, e5, e6, e7⟩ := hs'.append (y := .slice h.next 0 1 1 ex esz) (row := row) (bytes := bytes) rfl (by subst hrl; simp [firstA, ga_new]) hrl hsz
  refine ⟨sl', h', b', e1, e2, e3, by simpa using e4, fun j hj hne => e5 j (by simpa using hj) hne, e6.imp (fun e => e) fun e => ?_, e7⟩
  simp at e; omega
/-! ### slices that are one's own -/
def Mine (esz n : Nat) (h : Heap) (sl : AV) (rows : List (List AV)) : Prop := (∀ r ∈ rows, r.length = esz) ∧ ((sl = .nilsl ∧ rows = []) ∨ ∃ b, n ≤ b ∧ b < h.next ∧ ShAt esz h sl b rows)
theorem Mine.nil (esz n : Nat) (h : Heap) : Mine esz n h .nilsl [] := ⟨fun r hr => (by cases hr), .inl ⟨rfl, rfl⟩⟩
theorem Mine.rd {esz n : Nat} {h : Heap} {sl : AV} {rows : List (List AV)} (o : Mine esz n h sl rows) : Rd esz h sl rows := by
  rcases o.2 with ⟨e1, e2⟩ | ⟨b, _, _, s⟩
  · exact ⟨o.1, .inl ⟨e1, e2⟩⟩
  · exact s.rd
theorem Mine.flat {esz n : Nat} {h : Heap} {sl : AV} {rows : List (List AV)} (o : Mine esz n h sl rows) : sl.flat = true := o.rd.flat
theorem Mine.le {esz n m : Nat} {h : Heap} {sl : AV} {rows : List (List AV)} (o : Mine esz n h sl rows) (hm : m ≤ n) : Mine esz m h sl rows :=
  ⟨o.1, o.2.imp (fun e => e) fun ⟨b, h1, h2, h3⟩ => ⟨b, Nat.le_trans hm h1, h2, h3⟩⟩
theorem Mine.grow {esz n : Nat} {h h' : Heap} {sl : AV} {rows : List (List AV)} (o : Mine esz n h sl rows) (g : Grow h h') : Mine esz n h' sl rows :=
  ⟨o.1, o.2.imp (fun e => e) fun ⟨b, h1, h2, h3⟩ => ⟨b, h1, Nat.lt_of_lt_of_le h2 g.1, h3.keep fun _ ho => g.get ho⟩⟩
theorem Mine.append {esz bytes n : Nat} {g h : Heap} {sl : AV} {rows : List (List AV)} (o : Mine esz n h sl rows) (gr : Grow g h) (hn : g.next ≤ n) (hn2 : n ≤ h.next) {y : AV} {row : List AV} (hy : lenA y = some 1) (hf : firstA h esz 1 y = some row) (hrl : row.length = esz)
    (hsz : (rows.length + 1) * bytes ≤ 140737488355328 ∧ rows.length + 1 ≤ 140737488355328) :
    ∃ sl' h', appendA h esz bytes sl y = some (sl', h') ∧ Mine esz n h' sl' (rows ++ [row]) ∧ Grow g h' ∧ sl'.flat = true ∧ (∀ j, j < n → h'.get j = h.get j) := by
  have key : ∀ b, n ≤ b → ShAt esz h sl b rows → ∃ sl' h', appendA h esz bytes sl y = some (sl', h') ∧ Mine esz n h' sl' (rows ++ [row]) ∧ Grow g h' ∧ sl'.flat = true ∧ (∀ j, j < n → h'.get j = h.get j) := by
    intro b hb s
    obtain ⟨sl', h', b', e1, e2, e3, e4, e5, e6, e7⟩ := s.append hy hf hrl hsz
    have hb' : n ≤ b' := by rcases e6 with rfl | e6 <;> omega
    refine ⟨sl', h', e1, ⟨e2.1, .inr ⟨b', hb', e7, e2⟩⟩, ⟨Nat.le_trans gr.1 e4, fun j hj => ?_⟩, e3, fun j hj => e5 j (by omega) (by omega)⟩
    have := gr.1
    rw [e5 j (by omega) (by omega), gr.2 j hj]
  rcases o.2 with ⟨rfl, rfl⟩ | ⟨b, h1, h2, h3⟩
  · exact key h.next hn2 ⟨o.1, .inl ⟨rfl, rfl⟩⟩
  · exact key b h1 h3
theorem Mine.push {esz bytes n : Nat} {g h : Heap} {sl : AV} {rows : List (List AV)} (o : Mine esz n h sl rows) (gr : Grow g h) (hn : g.next ≤ n) (hn2 : n ≤ h.next) (row : List AV) (ro : Bool) (hrl : row.length = esz) (ex : Bool)
    (hsz : (rows.length + 1) * bytes ≤ 140737488355328 ∧ rows.length + 1 ≤ 140737488355328) :
    ∃ sl' h', appendA (h.alloc (.cells row ro)) esz bytes sl (.slice h.next 0 1 1 ex esz) = some (sl', h') ∧ Mine esz n h' sl' (rows ++ [row]) ∧ Grow g h' ∧ sl'.flat = true ∧ (∀ j, j < n → h'.get j = h.get j) ∧ n ≤ h'.next := by
  obtain ⟨sl', h', e1, e2, e3, e4, e5⟩ := (o.grow (Grow.alloc h (.cells row ro))).append (y := .slice h.next 0 1 1 ex esz) (row := row) (bytes := bytes) (gr.allocR (.cells row ro)) hn (by simp; omega) rfl (by subst hrl; simp [firstA, ga_new]) hrl hsz
  have hle : n ≤ h'.next := by
    rcases e2.2 with ⟨_, e⟩ | ⟨b, q1, q2, _⟩
    · simp at e
    · omega
  exact ⟨sl', h', e1, e2, e3, e4, fun j hj => by rw [e5 j hj, ga_old (by omega)], hle⟩
end Go.Ya
namespace Go.Ya
set_option linter.unusedVariables false
theorem less_irrefl : ∀ a : List Int, lessA a a = false
  | [] => rfl
  | x :: a => by simp [lessA, less_irrefl a]
theorem less_trans : ∀ {a b c : List Int}, lessA a b = true → lessA b c = true → lessA a c = true
  | _, [], _, h, _ => by simp [lessA] at h
  | _, _ :: _, [], _, h => by simp [lessA] at h
  | [], _ :: _, _ :: _, _, _ => rfl
  | x :: a, y :: b, z :: c, h1, h2 => by
    simp only [lessA, Bool.or_eq_true, Bool.and_eq_true, decide_eq_true_eq, beq_iff_eq] at *
    rcases h1 with h1 | ⟨rfl, h1⟩
    · rcases h2 with h2 | ⟨rfl, h2⟩
      · exact .inl (by omega)
      · exact .inl h1
    · rcases h2 with h2 | ⟨rfl, h2⟩
      · exact .inl h2
      · exact .inr ⟨rfl, less_trans h1 h2⟩
theorem less_asymm {a b : List Int} (h : lessA a b = true) : lessA b a = false := by
  cases e : lessA b a with
  | false => rfl
  | true => have := less_trans h e; rw [less_irrefl] at this; cases this
theorem less_ne {a b : List Int} (h : lessA a b = true) : a ≠ b := by
  rintro rfl
  rw [less_irrefl] at h; cases h
theorem less_tri : ∀ a b : List Int, lessA a b = true ∨ a = b ∨ lessA b a = true
  | [], [] => .inr (.inl rfl)
  | [], _ :: _ => .inl rfl
  | _ :: _, [] => .inr (.inr rfl)
  | x :: a, y :: b => by
    simp only [lessA, Bool.or_eq_true, Bool.and_eq_true, decide_eq_true_eq, beq_iff_eq, List.cons.injEq]
    rcases less_tri a b with h | rfl | h
    · rcases Int.lt_trichotomy x y with q | q | q
      · exact .inl (.inl q)
      · exact .inl (.inr ⟨q, h⟩)
      · exact .inr (.inr (.inl q))
    · rcases Int.lt_trichotomy x y with q | q | q
      · exact .inl (.inl q)
      · exact .inr (.inl ⟨q, rfl⟩)
      · exact .inr (.inr (.inl q))
    · rcases Int.lt_trichotomy x y with q | q | q
      · exact .inl (.inl q)
      · exact .inr (.inr (.inr ⟨q.symm, h⟩))
      · exact .inr (.inr (.inl q))
theorem less_le {a b : List Int} : lessA b a = false ↔ (lessA a b = true ∨ a = b) := by
  constructor
  · intro h
    rcases less_tri a b with q | q | q
    · exact .inl q
    · exact .inr q
    · rw [h] at q; cases q
  · rintro (h | rfl)
    · exact less_asymm h
    · exact less_irrefl _
theorem le_not {a b : List Int} : (lessA a b || a == b) = !lessA b a := by
  cases h : lessA b a with
  | false =>
    rcases less_le.1 h with q | rfl
    · rw [q]; rfl
    · simp
  | true =>
    have q := less_asymm h
    have n : (a == b) = false := by rw [beq_eq_false_iff_ne]; exact (less_ne h).symm
    rw [q, n]; rfl
theorem b_gtrS {ek : EqK} {a b : List Int} : binA .gtr ek (.str a) (.str b) = some (.bool (lessA b a)) := by
  show some (AV.bool !(lessA a b || a == b)) = _
  rw [le_not, Bool.not_not]
theorem b_leqS {ek : EqK} {a b : List Int} : binA .leq ek (.str a) (.str b) = some (.bool !(lessA b a)) := by
  show some (AV.bool (lessA a b || a == b)) = _
  rw [le_not]
theorem b_lssS {ek : EqK} {a b : List Int} : binA .lss ek (.str a) (.str b) = some (.bool (lessA a b)) := rfl
end Go.Ya
namespace Go.Ya
set_option linter.unusedVariables false
set_option linter.unusedSimpArgs false
def ints (bs : List Int) : List AV := bs.map (.int .u8)
@[simp] theorem ints_len (bs : List Int) : (ints bs).length = bs.length := by simp [ints]
def BytesAt (h : Heap) (v : AV) (bs : List Int) : Prop :=
  (v = .nilsl ∧ bs = []) ∨ ∃ id off cap ex c ro, v = .slice id off bs.length cap ex 1 ∧ bs.length ≤ cap ∧ h.get id = some (.cells c ro) ∧ off + bs.length ≤ c.length ∧ (c.drop off).take bs.length = ints bs
theorem BytesAt.grow {h h' : Heap} {v : AV} {bs : List Int} (hb : BytesAt h v bs) (g : Grow h h') : BytesAt h' v bs := by
  rcases hb with hb | ⟨id, off, cap, ex, c, ro, e1, e2, e3, e4, e5⟩
  · exact .inl hb
  · exact .inr ⟨id, off, cap, ex, c, ro, e1, e2, g.get e3, e4, e5⟩
theorem BytesAt.first {h : Heap} {v : AV} {bs : List Int} (hb : BytesAt h v bs) : firstA h 1 bs.length v = some (ints bs) := by
  rcases hb with ⟨rfl, rfl⟩ | ⟨id, off, cap, ex, c, ro, rfl, e2, e3, e4, e5⟩
  · rfl
  · simp [firstA, e3, e4, e5]
theorem BytesAt.lenA {h : Heap} {v : AV} {bs : List Int} (hb : BytesAt h v bs) : lenA v = some bs.length := by
  rcases hb with ⟨rfl, rfl⟩ | ⟨id, off, cap, ex, c, ro, rfl, _⟩ <;> rfl
section
variable {X : Known} {SP : FuncId → Option SFunc}
def NewBytes (h h' : Heap) (v : AV) (bs : List Int) : Prop :=
  (v = .nilsl ∧ bs = []) ∨ ∃ id cap ex, v = .slice id 0 bs.length cap ex 1 ∧ bs.length ≤ cap ∧ cap ≤ bs.length ∧ h.next ≤ id ∧ h'.get id = some (.cells (ints bs) false) ∧ (ex = true ∨ h'.byteAt id = true)
theorem NewBytes.at {h h' : Heap} {v : AV} {bs : List Int} (hn : NewBytes h h' v bs) : BytesAt h' v bs := by
  rcases hn with hn | ⟨id, cap, ex, rfl, h1, h2, h3, h4, _⟩
  · exact .inl hn
  · exact .inr ⟨id, 0, cap, ex, _, _, rfl, h1, h4, by simp, by simp [List.take_of_length_le]⟩
end
end Go.Ya
