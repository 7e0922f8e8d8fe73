/-
  Helps for walks: conditional equations (a discharger shows the conditions), loops by rounds, slices that are read, slices that are one's own.
-/
import Derived.IntWalk
import Derived.Test.YtekbgdmemenheaaYaIter
import Derived.Test.YtekbgdmemenheaaYaRows
namespace Go.Ya
set_option linter.unusedVariables false
set_option linter.unusedSimpArgs false

section
variable {h : Heap} {o : AObj} {j id : Nat}
theorem ga_new (e : j = h.next) : (h.alloc o).get j = some o := by rw [Heap.get_alloc, if_pos e]
theorem ga_old (e : j ≠ h.next) : (h.alloc o).get j = h.get j := by rw [Heap.get_alloc, if_neg e]
theorem gs_new (e : j = id) (hl : id < h.next) : (h.set id o).get j = some o := by rw [Heap.get_set _ _ _ _ hl, if_pos e]
theorem gs_old (e : j ≠ id) : (h.set id o).get j = h.get j := by rw [get_set, if_neg e]
theorem nx_alloc (h : Heap) (o : AObj) : (h.alloc o).next = h.next + 1 := Eq.trans (Heap.next_alloc h o) rfl
theorem nx_set (h : Heap) (id : Nat) (o : AObj) : (h.set id o).next = h.next := Eq.trans (Heap.next_set h id o) rfl
theorem d_t {p : Prop} [Decidable p] (hp : p) : decide p = true := decide_eq_true hp
theorem d_f {p : Prop} [Decidable p] (hp : ¬ p) : decide p = false := decide_eq_false hp
theorem i_t {α : Type} {p : Prop} [Decidable p] {a b : α} (hp : p) : (if p then a else b) = a := if_pos hp
theorem i_f {α : Type} {p : Prop} [Decidable p] {a b : α} (hp : ¬ p) : (if p then a else b) = b := if_neg hp
theorem beq_t {a b : Int} (hp : a = b) : (a == b) = true := beq_iff_eq.2 hp
theorem beq_f {a b : Int} (hp : ¬ a = b) : (a == b) = false := beq_eq_false_iff_ne.2 hp
theorem bne_t {a b : Int} (hp : ¬ a = b) : (a != b) = true := bne_iff_ne.2 hp
theorem bne_f {a b : Int} (hp : a = b) : (a != b) = false := by rw [hp]; exact bne_self_eq_false b
theorem w_i64 {n : Int} (h1 : -9223372036854775808 ≤ n ∧ n ≤ 9223372036854775807) : IntKind.i64.wrap n = n := IntWalk.i64_in n h1
theorem w_u64 {n : Int} (h1 : 0 ≤ n ∧ n ≤ 18446744073709551615) : IntKind.u64.wrap n = n := IntWalk.u64_in n h1
theorem w_u32 {n : Int} (h1 : 0 ≤ n ∧ n ≤ 4294967295) : IntKind.u32.wrap n = n := IntWalk.u32_in n h1
theorem w_i32 {n : Int} (h1 : -2147483648 ≤ n ∧ n ≤ 2147483647) : IntKind.i32.wrap n = n := IntWalk.i32_in n h1
theorem w_u8 {n : Int} (h1 : 0 ≤ n ∧ n ≤ 255) : IntKind.u8.wrap n = n := IntWalk.u8_in n h1
theorem b_eqB {a b : Bool} : binA .eql .bool (.bool a) (.bool b) = some (.bool (a == b)) := rfl
theorem b_neB {a b : Bool} : binA .neq .bool (.bool a) (.bool b) = some (.bool !(a == b)) := rfl
theorem b_eqS {ek : EqK} {a b : List Int} : binA .eql ek (.str a) (.str b) = some (.bool (a == b)) := rfl
theorem b_neS {ek : EqK} {a b : List Int} : binA .neq ek (.str a) (.str b) = some (.bool (a != b)) := rfl
theorem k_0 {b : Bool} : kindOk 0 (.bool b) = true := rfl
theorem k_1 {k : IntKind} {n : Int} : kindOk 1 (.int k n) = true := rfl
theorem k_2 {l : List Int} : kindOk 2 (.str l) = true := rfl
theorem n_sub1 {i : Nat} (hi : 0 < i) : (i : Int) - 1 = ((i - 1 : Nat) : Int) := by omega
theorem n_add1 (i : Nat) : (i : Int) + 1 = ((i + 1 : Nat) : Int) := by omega
end

/-- A list by its elements. -/
theorem lit_of {n : Nat} {tm : List AV} (h : tm.length = n) : tm = (List.range n).map fun i => tm.getD i undefA := by
  apply List.ext_getElem (by simp [h])
  intro i h1 h2
  simp [List.getD_eq_getElem?_getD, List.getElem?_eq_getElem h1]

/-! ### loops, round by round -/
section
variable {X : Known} {SP : FuncId → Option SFunc} {self : FuncId} {rd : Option Nat} {L : SC}
theorem loop_ind {n : Nat} (I : Nat → List AV → Heap → Prop) (O : AExit → List AV → Heap → Prop)
    (round : ∀ i tm h, i < n → I i tm h → (∃ e tm' h', xcode X SP self rd (.loop L) tm h = some (e, tm', h') ∧ O e tm' h') ∨ ∃ tm' h', xcode X SP self rd (.loop L) tm h = xcode X SP self rd (.loop L) tm' h' ∧ I (i + 1) tm' h')
    (last : ∀ tm h, I n tm h → ∃ e tm' h', xcode X SP self rd (.loop L) tm h = some (e, tm', h') ∧ O e tm' h') :
    ∀ i tm h, i ≤ n → I i tm h → ∃ e tm' h', xcode X SP self rd (.loop L) tm h = some (e, tm', h') ∧ O e tm' h' := by
  intro i tm h hi hI
  obtain ⟨d, hd⟩ : ∃ d, i + d = n := ⟨n - i, by omega⟩
  induction d generalizing i tm h with
  | zero => rw [Nat.add_zero] at hd; subst hd; exact last tm h hI
  | succ d ih =>
    rcases round i tm h (by omega) hI with r | ⟨tm', h', e, hI'⟩
    · exact r
    · obtain ⟨x, t2, h2, e2, o2⟩ := ih (i + 1) tm' h' (by omega) hI' (by omega)
      exact ⟨x, t2, h2, e.trans e2, o2⟩
end

/-! ### heaps that grow -/
theorem Grow.allocR {a b : Heap} (g : Grow a b) (o : AObj) : Grow a (b.alloc o) := g.trans (Grow.alloc b o)
theorem Grow.setR {a b : Heap} (g : Grow a b) {id : Nat} (o : AObj) (h1 : a.next ≤ id) (h2 : id < b.next) : Grow a (b.set id o) := Grow.set g o h1 h2

/-- The heap behind a call. -/
noncomputable def HX (X : Known) (SP : FuncId → Option SFunc) (f : FuncId) (args : List AV) (h : Heap) : Heap := match xcall X SP (.fn f) args h with
  | some (_, h') => h'
  | none => h
theorem hx_of {X : Known} {SP : FuncId → Option SFunc} {f : FuncId} {args : List AV} {h : Heap} {v : AV} {Q : Heap → Prop} (e : ∃ h', xcall X SP (.fn f) args h = some (v, h') ∧ Q h') : xcall X SP (.fn f) args h = some (v, HX X SP f args h) ∧ Q (HX X SP f args h) := by
  obtain ⟨h', e, q⟩ := e
  have : HX X SP f args h = h' := by unfold HX; rw [e]
  rw [this]; exact ⟨e, q⟩

/-- A loop that stops at the first i of which st holds, and goes on else. -/
theorem scan_loop {X : Known} {SP : FuncId → Option SFunc} {self : FuncId} {rd : Option Nat} {L : SC} {h0 : Heap} {n x : Nat} {G : Heap → Heap → Prop} (gr : ∀ h, G h h) (gt : ∀ {a b c}, G a b → G b c → G a c) (Sh : Nat → List AV → Prop) (st : Nat → Prop) (R : List AV → Prop)
    (stop : ∀ i tm h, i < n → G h0 h → st i → Sh i tm → ∃ tm' h', xcode X SP self rd (.loop L) tm h = some (.ret, tm', h') ∧ G h h' ∧ R tm')
    (go : ∀ i tm h, i < n → G h0 h → ¬ st i → Sh i tm → ∃ tm' h', xcode X SP self rd (.loop L) tm h = xcode X SP self rd (.loop L) tm' h' ∧ G h h' ∧ Sh (i + 1) tm')
    (out : ∀ tm h, G h0 h → Sh n tm → ∃ tm' h', xcode X SP self rd (.loop L) tm h = some (.exit x, tm', h') ∧ G h h' ∧ Sh n tm') {tm : List AV} {h : Heap} (g0 : G h0 h) (h1 : Sh 0 tm) :
    ∃ tm' h', G h h' ∧ (((∃ i, i < n ∧ st i) ∧ xcode X SP self rd (.loop L) tm h = some (.ret, tm', h') ∧ R tm') ∨ ((∀ i, i < n → ¬ st i) ∧ xcode X SP self rd (.loop L) tm h = some (.exit x, tm', h') ∧ Sh n tm')) := by
  obtain ⟨e, tm', h', e1, g1, o1⟩ := loop_ind (X := X) (SP := SP) (self := self) (rd := rd) (L := L) (n := n) (fun i tm' h' => Sh i tm' ∧ G h h' ∧ ∀ j, j < i → ¬ st j)
    (fun e tm' h' => G h h' ∧ ((e = .ret ∧ (∃ i, i < n ∧ st i) ∧ R tm') ∨ (e = .exit x ∧ (∀ i, i < n → ¬ st i) ∧ Sh n tm'))) (fun i tm1 h1 hi hI => by
      obtain ⟨s1, g1, b1⟩ := hI
      by_cases hs : st i
      · obtain ⟨tm', h', e, g, r⟩ := stop i tm1 h1 hi (gt g0 g1) hs s1
        exact .inl ⟨_, tm', h', e, gt g1 g, .inl ⟨rfl, ⟨i, hi, hs⟩, r⟩⟩
      · obtain ⟨tm', h', e, g, s2⟩ := go i tm1 h1 hi (gt g0 g1) hs s1
        refine .inr ⟨tm', h', e, s2, gt g1 g, fun j hj => ?_⟩
        by_cases hji : j = i
        · subst hji; exact hs
        · exact b1 j (by omega)) (fun tm1 h1 hI => by
      obtain ⟨s1, g1, b1⟩ := hI
      obtain ⟨tm', h', e, g, s2⟩ := out tm1 h1 (gt g0 g1) s1
      exact ⟨_, tm', h', e, gt g1 g, .inr ⟨rfl, b1, s2⟩⟩) 0 tm h (Nat.zero_le _) ⟨h1, gr _, fun j hj => by omega⟩
  rcases o1 with ⟨rfl, hs, r⟩ | ⟨rfl, hs, r⟩
  · exact ⟨tm', h', g1, .inl ⟨hs, e1, r⟩⟩
  · exact ⟨tm', h', g1, .inr ⟨hs, e1, r⟩⟩
/-- The same, of a loop that leaves the heap as it is. -/
theorem scan_same {X : Known} {SP : FuncId → Option SFunc} {self : FuncId} {rd : Option Nat} {L : SC} {h : Heap} {n x : Nat} (Sh : Nat → List AV → Prop) (st : Nat → Prop) (R : List AV → Prop)
    (stop : ∀ i tm, i < n → st i → Sh i tm → ∃ tm', xcode X SP self rd (.loop L) tm h = some (.ret, tm', h) ∧ R tm')
    (go : ∀ i tm, i < n → ¬ st i → Sh i tm → ∃ tm', xcode X SP self rd (.loop L) tm h = xcode X SP self rd (.loop L) tm' h ∧ Sh (i + 1) tm')
    (out : ∀ tm, Sh n tm → ∃ tm', xcode X SP self rd (.loop L) tm h = some (.exit x, tm', h) ∧ Sh n tm') {tm : List AV} (h1 : Sh 0 tm) :
    ∃ tm', (((∃ i, i < n ∧ st i) ∧ xcode X SP self rd (.loop L) tm h = some (.ret, tm', h) ∧ R tm') ∨ ((∀ i, i < n → ¬ st i) ∧ xcode X SP self rd (.loop L) tm h = some (.exit x, tm', h) ∧ Sh n tm')) := by
  obtain ⟨tm', h', rfl, e⟩ := scan_loop (X := X) (SP := SP) (self := self) (rd := rd) (L := L) (h0 := h) (x := x) (G := fun a b => b = a) (fun _ => rfl) (fun e1 e2 => e2.trans e1) Sh st R
    (fun i tm h' hi e hs ht => by subst e; obtain ⟨tm', e, r⟩ := stop i tm hi hs ht; exact ⟨tm', _, e, rfl, r⟩)
    (fun i tm h' hi e hs ht => by subst e; obtain ⟨tm', e, r⟩ := go i tm hi hs ht; exact ⟨tm', _, e, rfl, r⟩)
    (fun tm h' e ht => by subst e; obtain ⟨tm', e, r⟩ := out tm ht; exact ⟨tm', _, e, rfl, r⟩) rfl h1
  exact ⟨tm', e⟩

/-! ### slices that are read -/
/-- A slice that reads these rows, each of esz cells. -/
def Rd (esz : Nat) (h : Heap) (v : AV) (rows : List (List AV)) : Prop :=
  (∀ r ∈ rows, r.length = esz) ∧ ((v = .nilsl ∧ rows = []) ∨ ∃ id off cap ex c ro, v = .slice id off rows.length cap ex esz ∧ h.get id = some (.cells c ro) ∧ off + rows.length * esz ≤ c.length ∧ (c.drop off).take (rows.length * esz) = rows.flatten)
theorem Rd.keep {esz : Nat} {h h' : Heap} {v : AV} {rows : List (List AV)} (r : Rd esz h v rows) (hg : ∀ id o l c e z, v = .slice id o l c e z → id < h.next → h'.get id = h.get id) : Rd esz h' v rows := by
  obtain ⟨h1, h2⟩ := r
  refine ⟨h1, h2.imp (fun e => e) fun ⟨id, off, cap, ex, c, ro, e1, e2, e3, e4⟩ => ⟨id, off, cap, ex, c, ro, e1, (hg _ _ _ _ _ _ e1 (Heap.lt_of_get e2)).trans e2, e3, e4⟩⟩
theorem Rd.grow {esz : Nat} {h h' : Heap} {v : AV} {rows : List (List AV)} (r : Rd esz h v rows) (g : Grow h h') : Rd esz h' v rows :=
  r.keep fun id _ _ _ _ _ _ hl => g.2 id hl
theorem Rd.flat {esz : Nat} {h : Heap} {v : AV} {rows : List (List AV)} (r : Rd esz h v rows) : v.flat = true := by
  rcases r.2 with ⟨rfl, _⟩ | ⟨_, _, _, _, _, _, rfl, _⟩ <;> rfl
theorem Rd.lenA {esz : Nat} {h : Heap} {v : AV} {rows : List (List AV)} (r : Rd esz h v rows) : lenA v = some rows.length := by
  rcases r.2 with ⟨rfl, rfl⟩ | ⟨_, _, _, _, _, _, rfl, _⟩ <;> rfl
theorem Rd.first {esz : Nat} {h : Heap} {v : AV} {rows : List (List AV)} (r : Rd esz h v rows) : firstA h esz rows.length v = some rows.flatten := by
  rcases r.2 with ⟨rfl, rfl⟩ | ⟨id, off, cap, ex, c, ro, rfl, e2, e3, e4⟩
  · rfl
  · simp [firstA, e2, e3, e4]
theorem _root_.Go.Ya.ShAt.rd {esz : Nat} {h : Heap} {v : AV} {b : Nat} {rows : List (List AV)} (s : ShAt esz h v b rows) : Rd esz h v rows := by
  obtain ⟨h1, h2⟩ := s
  refine ⟨h1, h2.imp (fun e => e) fun ⟨cap, rest, e1, e2, e3, e4⟩ => ⟨b, 0, cap, false, _, false, e1, e3, ?_, ?_⟩⟩
  · have := rows_len h1
    rw [List.length_append]; omega
  · rw [List.drop_zero, ← rows_len h1, List.take_left]
/-- The cells of a row. -/
theorem row_cells {esz : Nat} {c : List AV} : ∀ {rows : List (List AV)} {off : Nat}, (∀ r ∈ rows, r.length = esz) → (c.drop off).take (rows.length * esz) = rows.flatten → ∀ {i : Nat} (hi : i < rows.length), (c.drop (off + i * esz)).take esz = rows[i]
  | [], off, _, _, i, hi => by simp at hi
  | r :: rows, off, hr, hc, i, hi => by
    have hl := hr r List.mem_cons_self
    rw [List.length_cons, Nat.succ_mul, Nat.add_comm, List.take_add, List.flatten_cons] at hc
    have hlen : ((c.drop off).take esz).length = r.length := by
      have := congrArg List.length hc
      simp only [List.length_append, List.length_take, List.length_drop] at this ⊢
      have h2 : rows.flatten.length = rows.length * esz := rows_len fun r hr' => hr r (List.mem_cons_of_mem _ hr')
      omega
    obtain ⟨h1, h2⟩ := List.append_inj hc hlen
    cases i with
    | zero => simpa using h1
    | succ i =>
      rw [List.drop_drop] at h2
      have := row_cells (off := off + esz) (fun r hr' => hr r (List.mem_cons_of_mem _ hr')) h2 (i := i) (by simpa using hi)
      rw [show off + (i + 1) * esz = off + esz + i * esz by rw [Nat.succ_mul]; omega]
      simpa using this
/-- A slice that is read: nil, or its block; each row's cells. -/
theorem Rd.cases {α : Type} {esz : Nat} {h : Heap} {v : AV} {l : List α} {enc : α → List AV} (d : α) (r : Rd esz h v (l.map enc)) :
    (v = .nilsl ∧ l = []) ∨ ∃ id off cap ex c ro, v = .slice id off l.length cap ex esz ∧ h.get id = some (.cells c ro) ∧ id < h.next ∧ off + l.length * esz ≤ c.length ∧
      (∀ i : Nat, i < l.length → (c.drop (off + i * esz)).take esz = enc (l.getD i d)) ∧ (∀ i k : Nat, i < l.length → k < esz → c[off + i * esz + k]? = (enc (l.getD i d))[k]?) := by
  obtain ⟨h1, h2⟩ := r
  rcases h2 with ⟨e, e2⟩ | ⟨id, off, cap, ex, c, ro, e1, e2, e3, e4⟩
  · exact .inl ⟨e, by simpa using e2⟩
  · rw [List.length_map] at e1 e3
    have key : ∀ i : Nat, i < l.length → (c.drop (off + i * esz)).take esz = enc (l.getD i d) := fun i hi => by
      rw [row_cells h1 e4 (i := i) (by simpa using hi)]
      simp [List.getD_eq_getElem?_getD, List.getElem?_eq_getElem hi]
    refine .inr ⟨id, off, cap, ex, c, ro, e1, e2, Heap.lt_of_get e2, e3, key, fun i k hi hk => ?_⟩
    rw [← key i hi, List.getElem?_take, if_pos hk, List.getElem?_drop]
theorem Rd.of_cells {α : Type} {esz : Nat} {h : Heap} {l : List α} {enc : α → List AV} {id cap : Nat} {ex ro : Bool} (he : ∀ a, (enc a).length = esz) (hg : h.get id = some (.cells (l.map enc).flatten ro)) : Rd esz h (.slice id 0 l.length cap ex esz) (l.map enc) := by
  have h1 : ∀ r ∈ l.map enc, r.length = esz := fun r hr => by obtain ⟨a, _, rfl⟩ := List.mem_map.1 hr; exact he a
  have h2 := rows_len h1
  exact ⟨h1, .inr ⟨id, 0, cap, ex, _, ro, by simp, hg, by rw [h2]; simp, by rw [List.drop_zero, ← h2, List.take_length]⟩⟩

/-- A literal row, appended to one's own slice. -/
theorem ShAt.push {esz bytes : Nat} {h : Heap} {sl : AV} {b : Nat} {rows : List (List AV)} (hs : ShAt esz h sl b rows) (hb : b < h.next) (row : List AV) (ro : Bool) (hrl : row.length = esz) (hz : 0 < esz) (ex : Bool)
    (hsz : (rows.length + 1) * bytes ≤ 140737488355328 ∧ rows.length + 1 ≤ 140737488355328) :
    ∃ sl' h' b', appendA (h.alloc (.cells row ro)) esz bytes sl (.slice h.next 0 1 1 ex esz) = some (sl', h') ∧ ShAt esz h' sl' b' (rows ++ [row]) ∧ sl'.flat = true ∧ h.next + 1 ≤ h'.next ∧ (∀ j, j < h.next + 1 → j ≠ b → h'.get j = (h.alloc (.cells row ro)).get j) ∧ (b' = b ∨ h.next < b') ∧ b' < h'.next := by
  have hs' : ShAt esz (h.alloc (.cells row ro)) sl b rows := hs.keep fun o ho => by rw [ga_old (by omega)]; exact ho
  obtain ⟨sl', h', b', e1, e2, e3, e4, e5, e6, e7⟩ := hs'.append (y := .slice h.next 0 1 1 ex esz) (row := row) (bytes := bytes) rfl (by subst hrl; simp [firstA, ga_new]) hrl hsz
  refine ⟨sl', h', b', e1, e2, e3, by simpa using e4, fun j hj hne => e5 j (by simpa using hj) hne, e6.imp (fun e => e) fun e => ?_, e7⟩
  simp at e; omega

/-! ### slices that are one's own -/
/-- Nil, or a block from n on, of just these rows. -/
def Mine (esz n : Nat) (h : Heap) (sl : AV) (rows : List (List AV)) : Prop := (∀ r ∈ rows, r.length = esz) ∧ ((sl = .nilsl ∧ rows = []) ∨ ∃ b, n ≤ b ∧ b < h.next ∧ ShAt esz h sl b rows)
theorem Mine.nil (esz n : Nat) (h : Heap) : Mine esz n h .nilsl [] := ⟨fun r hr => (by cases hr), .inl ⟨rfl, rfl⟩⟩
theorem Mine.rd {esz n : Nat} {h : Heap} {sl : AV} {rows : List (List AV)} (o : Mine esz n h sl rows) : Rd esz h sl rows := by
  rcases o.2 with ⟨e1, e2⟩ | ⟨b, _, _, s⟩
  · exact ⟨o.1, .inl ⟨e1, e2⟩⟩
  · exact s.rd
theorem Mine.flat {esz n : Nat} {h : Heap} {sl : AV} {rows : List (List AV)} (o : Mine esz n h sl rows) : sl.flat = true := o.rd.flat
theorem Mine.le {esz n m : Nat} {h : Heap} {sl : AV} {rows : List (List AV)} (o : Mine esz n h sl rows) (hm : m ≤ n) : Mine esz m h sl rows :=
  ⟨o.1, o.2.imp (fun e => e) fun ⟨b, h1, h2, h3⟩ => ⟨b, Nat.le_trans hm h1, h2, h3⟩⟩
theorem Mine.grow {esz n : Nat} {h h' : Heap} {sl : AV} {rows : List (List AV)} (o : Mine esz n h sl rows) (g : Grow h h') : Mine esz n h' sl rows :=
  ⟨o.1, o.2.imp (fun e => e) fun ⟨b, h1, h2, h3⟩ => ⟨b, h1, Nat.lt_of_lt_of_le h2 g.1, h3.keep fun _ ho => g.get ho⟩⟩
/-- As ShAt.append, of one's own. -/
theorem Mine.append {esz bytes n : Nat} {g h : Heap} {sl : AV} {rows : List (List AV)} (o : Mine esz n h sl rows) (gr : Grow g h) (hn : g.next ≤ n) (hn2 : n ≤ h.next) {y : AV} {row : List AV} (hy : lenA y = some 1) (hf : firstA h esz 1 y = some row) (hrl : row.length = esz)
    (hsz : (rows.length + 1) * bytes ≤ 140737488355328 ∧ rows.length + 1 ≤ 140737488355328) :
    ∃ sl' h', appendA h esz bytes sl y = some (sl', h') ∧ Mine esz n h' sl' (rows ++ [row]) ∧ Grow g h' ∧ sl'.flat = true ∧ (∀ j, j < n → h'.get j = h.get j) := by
  have key : ∀ b, n ≤ b → ShAt esz h sl b rows → ∃ sl' h', appendA h esz bytes sl y = some (sl', h') ∧ Mine esz n h' sl' (rows ++ [row]) ∧ Grow g h' ∧ sl'.flat = true ∧ (∀ j, j < n → h'.get j = h.get j) := by
    intro b hb s
    obtain ⟨sl', h', b', e1, e2, e3, e4, e5, e6, e7⟩ := s.append hy hf hrl hsz
    have hb' : n ≤ b' := by rcases e6 with rfl | e6 <;> omega
    refine ⟨sl', h', e1, ⟨e2.1, .inr ⟨b', hb', e7, e2⟩⟩, ⟨Nat.le_trans gr.1 e4, fun j hj => ?_⟩, e3, fun j hj => e5 j (by omega) (by omega)⟩
    have := gr.1
    rw [e5 j (by omega) (by omega), gr.2 j hj]
  rcases o.2 with ⟨rfl, rfl⟩ | ⟨b, h1, h2, h3⟩
  · exact key h.next hn2 ⟨o.1, .inl ⟨rfl, rfl⟩⟩
  · exact key b h1 h3
/-- A literal row, appended. -/
theorem Mine.push {esz bytes n : Nat} {g h : Heap} {sl : AV} {rows : List (List AV)} (o : Mine esz n h sl rows) (gr : Grow g h) (hn : g.next ≤ n) (hn2 : n ≤ h.next) (row : List AV) (ro : Bool) (hrl : row.length = esz) (ex : Bool)
    (hsz : (rows.length + 1) * bytes ≤ 140737488355328 ∧ rows.length + 1 ≤ 140737488355328) :
    ∃ sl' h', appendA (h.alloc (.cells row ro)) esz bytes sl (.slice h.next 0 1 1 ex esz) = some (sl', h') ∧ Mine esz n h' sl' (rows ++ [row]) ∧ Grow g h' ∧ sl'.flat = true ∧ (∀ j, j < n → h'.get j = h.get j) ∧ n ≤ h'.next := by
  obtain ⟨sl', h', e1, e2, e3, e4, e5⟩ := (o.grow (Grow.alloc h (.cells row ro))).append (y := .slice h.next 0 1 1 ex esz) (row := row) (bytes := bytes) (gr.allocR (.cells row ro)) hn (by simp; omega) rfl (by subst hrl; simp [firstA, ga_new]) hrl hsz
  have hle : n ≤ h'.next := by
    rcases e2.2 with ⟨_, e⟩ | ⟨b, q1, q2, _⟩
    · simp at e
    · omega
  exact ⟨sl', h', e1, e2, e3, e4, fun j hj => by rw [e5 j hj, ga_old (by omega)], hle⟩
end Go.Ya
