/-
  Spans: what is known; what is told of spans.
-/
import Derived.Test.YtplbampjponnpaaYaTab
import Derived.Test.YtplbampjponnpaaRows
import Derived.Test.YtplbampjponnpaaYaAuto
import Derived.Test.YtplbampjponnpaaYaSpanPure
namespace Go.Proofs.Ytplbampjponnpaa.Ya
open Go.Ya Go.Ya.Span
set_option linter.unusedVariables false
set_option linter.unusedSimpArgs false
set_option maxRecDepth 100000
set_option maxHeartbeats 4000000

def noX : Known := fun _ _ _ => none
theorem lives : (acallF noX tab 300 (.fn 7) [] emptyHeap).map (·.1) = some (.bool true) := by kernel_rfl
def X1 : Known := knownBare [(7, [], .bool true)]
theorem x1ok : XOk Try.prog X1 := knownBare_ok (XOk.none _) conv mixed (by
  intro x hx
  simp only [List.mem_singleton] at hx
  subst hx
  exact ⟨rfl, rfl, 300, by rw [← acallF_eq]; exact lives⟩)
theorem lives7 (h : Heap) : xcall X1 tab (.fn 7) [] h = some (.bool true, h) := ofRun (n := 1) (by kernel_rfl)

/-- A span's cells. -/
def spA (s : Sp) : List AV := [.int .u32 s.1, .int .u32 s.2]
/-- Numbers of 32 bits. -/
def U32 (n : Int) : Prop := 0 ≤ n ∧ n ≤ 4294967295
def SpW (l : List Sp) : Prop := ∀ s ∈ l, U32 s.1 ∧ U32 s.2
/-- A slice that reads spans. -/
abbrev SpAt (h : Heap) (v : AV) (l : List Sp) : Prop := Rd 2 h v (l.map spA)
theorem SpAt.grow {h h' : Heap} {v : AV} {l : List Sp} (r : SpAt h v l) (g : Grow h h') : SpAt h' v l := Rd.grow r g
theorem SpAt.cases {h : Heap} {v : AV} {l : List Sp} (r : SpAt h v l) : (v = .nilsl ∧ l = []) ∨ ∃ id off cap ex c ro, v = .slice id off l.length cap ex 2 ∧ h.get id = some (.cells c ro) ∧ id < h.next ∧ off + l.length * 2 ≤ c.length ∧
    (∀ i : Nat, i < l.length → (c.drop (off + i * 2)).take 2 = [.int .u32 (l.getD i (0, 0)).1, .int .u32 (l.getD i (0, 0)).2]) ∧
    (∀ i : Nat, i < l.length → c[off + i * 2]? = some (.int .u32 (l.getD i (0, 0)).1)) ∧ (∀ i : Nat, i < l.length → c[off + i * 2 + 1]? = some (.int .u32 (l.getD i (0, 0)).2)) := by
  rcases Rd.cases (0, 0) r with e | ⟨id, off, cap, ex, c, ro, e1, e2, e3, e4, e5, e6⟩
  · exact .inl e
  · exact .inr ⟨id, off, cap, ex, c, ro, e1, e2, e3, e4, e5, fun i hi => (e6 i 0 hi (by omega)).trans rfl, fun i hi => (e6 i 1 hi (by omega)).trans rfl⟩
theorem SpW.get {l : List Sp} (w : SpW l) {i : Nat} (hi : i < l.length) : U32 (l.getD i (0, 0)).1 ∧ U32 (l.getD i (0, 0)).2 := by
  rw [List.getD_eq_getElem?_getD, List.getElem?_eq_getElem hi]
  exact w _ (List.getElem_mem hi)
theorem drop_get {l : List Sp} {i : Nat} (hi : i < l.length) : l.drop i = l.getD i (0, 0) :: l.drop (i + 1) := by
  rw [List.drop_eq_getElem_cons hi, List.getD_eq_getElem?_getD, List.getElem?_eq_getElem hi]; rfl

def stMay (l : List Sp) (i : Nat) : Prop := (l.getD i (0, 0)).1 ≥ (l.getD i (0, 0)).2 ∨ (0 < i ∧ (l.getD i (0, 0)).1 ≤ (l.getD (i - 1) (0, 0)).2)
theorem mayG_iff : ∀ {l : List Sp} {p : Option Int}, mayG p l = true ↔ (∀ e, p = some e → 0 < l.length → e < (l.getD 0 (0, 0)).1) ∧ ∀ i, i < l.length → ¬ stMay l i
  | [], p => by simp [mayG]
  | x :: l, p => by
    rw [mayG_cons, mayG_iff (l := l) (p := some x.2)]
    constructor
    · rintro ⟨h1, h2, h3, h4⟩
      refine ⟨fun e he _ => h2 e he, fun i hi => ?_⟩
      cases i with
      | zero => simp only [stMay, List.getD_cons_zero]; omega
      | succ i =>
        have q := h4 i (by simpa using hi)
        simp only [stMay, List.getD_cons_succ] at q ⊢
        cases i with
        | zero =>
          have := h3 x.2 rfl (by simpa using hi)
          simp only [Nat.zero_add, Nat.sub_self, List.getD_cons_zero]
          omega
        | succ i => simp only [Nat.add_sub_cancel, List.getD_cons_succ] at q ⊢; omega
    · rintro ⟨h1, h2⟩
      have h0 := h2 0 (by simp)
      simp only [stMay, List.getD_cons_zero] at h0
      refine ⟨by omega, fun e he => h1 e he (by simp), fun e he hl => ?_, fun i hi => ?_⟩
      · cases he
        have := h2 1 (by simpa using hl)
        simp only [stMay, List.getD_cons_succ, Nat.sub_self, List.getD_cons_zero] at this
        omega
      · have := h2 (i + 1) (by simpa using hi)
        simp only [stMay, List.getD_cons_succ, Nat.add_sub_cancel] at this ⊢
        cases i with
        | zero => omega
        | succ i => simp only [Nat.add_sub_cancel, List.getD_cons_succ] at this ⊢; omega
theorem may_f {l : List Sp} (h : ∃ i, i < l.length ∧ stMay l i) : mayP l = false := by
  cases hm : mayP l
  · rfl
  · obtain ⟨i, hi, hs⟩ := h
    exact absurd hs ((mayG_iff.1 hm).2 i hi)
theorem may_t {l : List Sp} (h : ∀ i, i < l.length → ¬ stMay l i) : mayP l = true := mayG_iff.2 ⟨fun e he => (by cases he), h⟩
/-- Some element is so. -/
theorem any_t {α : Type} {l : List α} {d : α} {p : α → Bool} (h : ∃ i, i < l.length ∧ p (l.getD i d) = true) : l.any p = true := by
  obtain ⟨i, hi, hp⟩ := h
  rw [List.any_eq_true]
  refine ⟨l[i], List.getElem_mem hi, ?_⟩
  rwa [List.getD_eq_getElem?_getD, List.getElem?_eq_getElem hi] at hp
theorem any_f {α : Type} {l : List α} {d : α} {p : α → Bool} (h : ∀ i, i < l.length → ¬ p (l.getD i d) = true) : l.any p = false := by
  rw [Bool.eq_false_iff]
  intro e
  obtain ⟨x, hx, hp⟩ := List.any_eq_true.1 e
  obtain ⟨i, hi, rfl⟩ := List.getElem_of_mem hx
  exact h i hi (by rwa [List.getD_eq_getElem?_getD, List.getElem?_eq_getElem hi])

theorem lenP_take : ∀ {l : List Sp} {i : Nat}, i < l.length → lenP (l.take (i + 1)) = lenP (l.take i) + ((l.getD i (0, 0)).2 - (l.getD i (0, 0)).1)
  | x :: l, 0, _ => by simp [lenP]
  | x :: l, i + 1, hi => by
    have := lenP_take (l := l) (i := i) (by simpa using hi)
    simp only [List.take_succ_cons, lenP, List.map_cons, List.sum_cons, List.getD_cons_succ] at this ⊢
    omega
theorem lenP_bound {l : List Sp} (hw : SpW l) (hm : mayP l = true) : ∀ i, i ≤ l.length → 0 ≤ lenP (l.take i) ∧ lenP (l.take i) ≤ (i : Int) * 4294967295
  | 0, _ => by simp [lenP]
  | i + 1, hi => by
    have ih := lenP_bound hw hm i (by omega)
    have hs := (mayG_iff.1 hm).2 i (by omega)
    have hu := hw.get (i := i) (by omega)
    rw [lenP_take (by omega)]
    simp only [stMay, U32] at hs hu
    omega
/-- A slice that reads numbers. -/
def inA (n : Int) : List AV := [.int .u32 n]
abbrev InAt (h : Heap) (v : AV) (l : List Int) : Prop := Rd 1 h v (l.map inA)
theorem in_cases {h : Heap} {v : AV} {l : List Int} (r : InAt h v l) : (v = .nilsl ∧ l = []) ∨ ∃ id off cap ex c ro, v = .slice id off l.length cap ex 1 ∧ h.get id = some (.cells c ro) ∧ id < h.next ∧ off + l.length ≤ c.length ∧
    (∀ i : Nat, i < l.length → c[off + i]? = some (.int .u32 (l.getD i 0))) := by
  rcases Rd.cases 0 r with e | ⟨id, off, cap, ex, c, ro, e1, e2, e3, e4, e5, e6⟩
  · exact .inl e
  · refine .inr ⟨id, off, cap, ex, c, ro, e1, e2, e3, by omega, fun i hi => ?_⟩
    have := e6 i 0 hi (by omega)
    simpa [inA] using this
theorem list_eq {α : Type} {l m : List α} (d : α) (hn : l.length = m.length) (h : ∀ i, i < l.length → l.getD i d = m.getD i d) : l = m := by
  apply List.ext_getElem hn
  intro i h1 h2
  have := h i h1
  rwa [List.getD_eq_getElem?_getD, List.getElem?_eq_getElem h1, List.getD_eq_getElem?_getD, List.getElem?_eq_getElem h2] at this
def b30 : SC := .seq (.ops [⟨some 1, .box (.t 0), none⟩, ⟨some 2, .mov (.c (.bool false)), none⟩]) (.seq (.ops [⟨some 3, .fieldAddr 0 (.t 1), none⟩, ⟨some 4, .load false 1 (.t 3), none⟩, ⟨some 5, .fieldAddr 1 (.t 1), none⟩, ⟨some 6, .load false 1 (.t 5), none⟩, ⟨some 7, .bin (.geq) (.other) (.t 4) (.t 6), none⟩, ⟨some 2, .mov (.t 7), none⟩]) (.ret))
theorem t30 : tab 30 = some ⟨8, [.tmp 2], b30⟩ := rfl

theorem x30 (s : Sp) (h : Heap) : xcall X1 tab (.fn 30) [.agg [.int .u32 s.1, .int .u32 s.2]] h = some (.bool (emptyP s), h.alloc (.cells [.int .u32 s.1, .int .u32 s.2] false)) := by
  rw [x_fn rfl t30]
  delta b30
  simp (disch := first | omega | (simp only [nx_alloc, nx_set] <;> omega) | (apply Rd.grow; assumption; repeat (first | exact Grow.refl _ | assumption | exact Grow.alloc _ _ | refine Grow.allocR ?_ _ | refine Grow.setR ?_ _ ?_ ?_ | omega | (simp only [nx_alloc, nx_set] <;> omega) | (apply Grow.trans; rotate_left; assumption) | fail)) | fail) only [note_false, Int.reduceBEq, Int.reduceBNe, x_drawn, l_nil, l_op, l_guard, l_some, l_true, l_false, l_draw, readsA, x_true, x_false, x_seq, x_ops, x_cond, x_skip, x_ret, x_exit, x_block, x_then, x_thenE, x_thenR, x_blockN, x_blockR, x_blockE, s_nil, s_op, s_guard, s_some, s_true, s_false, s_put, s_put0, s_opsR, s_ret, s_norm, aop, ev, evs, List.map_cons, List.map_nil, List.cons_append, List.nil_append, List.append_nil, List.replicate, List.take_succ_cons, List.take_zero, List.take_nil, List.drop_succ_cons, List.drop_zero, List.drop_nil, Nat.zero_add, Nat.add_zero, Nat.reduceAdd, Nat.reduceMul, Nat.reduceLeDiff, Bool.false_eq_true, and_self, List.length_cons, List.length_nil, List.set_cons_zero, List.set_cons_succ, List.getD_cons_zero, List.getD_cons_succ, wantedA, List.getElem?_cons_zero, List.getElem?_cons_succ, q_t, q_f, Bool.not_true, Bool.not_false, b_add, b_sub, b_mul, b_eql, b_neq, b_lss, b_leq, b_gtr, b_geq, b_and, b_or, b_xor, b_quo, b_rem, b_shl, b_shr, unA, Option.map_some, Option.map_none, resA, tupA, Int.reduceLT, not_false_eq_true, not_true_eq_false, decide_true, decide_false, f_bool, c_bool, f_int, c_int, f_str, c_str, f_nilptr, c_nilptr, f_ptr, c_ptr, f_nilsl, c_nilsl, f_slice, c_slice, f_nilmap, c_nilmap, f_map, c_map, f_nilf, c_nilf, f_func, c_func, f_yieldf, c_yieldf, f_nilif, c_nilif, f_iface, c_iface, c_agg, List.all_cons, List.all_nil, Bool.and_true, Bool.true_and, if_true, if_false, ite_true, ite_false, ga_new, ga_old, gs_new, gs_old, Heap.next_alloc, Heap.next_set, loadA, storeA, splice, fillA, d_t, d_f, i_t, i_f, beq_t, beq_f, bne_t, bne_f, w_i64, w_u64, w_u32, w_i32, w_u8, Int.toNat_natCast, n_sub1, n_add1, Nat.sub_zero, Nat.mul_one, Nat.one_mul, Nat.zero_mul, List.append_assoc, Option.bind_some, chkLog, same_cells, List.replicate_zero, List.flatten_nil, true_and, and_true, kindsOk, k_0, k_1, k_2, plainEq, Bool.bne_true, Bool.bne_false, beq_self_eq_true, bne_self_eq_false, Int.tdiv_eq_ediv_of_nonneg, Int.tmod_eq_emod_of_nonneg, List.length_nil]
  rfl
theorem x30p (a b : Int) (h : Heap) : xcall X1 tab (.fn 30) [.agg [.int .u32 a, .int .u32 b]] h = some (.bool (decide (a ≥ b)), h.alloc (.cells [.int .u32 a, .int .u32 b] false)) := x30 (a, b) h
end Go.Proofs.Ytplbampjponnpaa.Ya

