/-
  Spans: Add and Cut.
-/
import Derived.Test.YtplbampjponnpaaYaSpanWith
import Derived.Test.YtplbampjponnpaaYaSpanScan2
namespace Go.Proofs.Ytplbampjponnpaa.Ya
open Go.Ya Go.Ya.Span
set_option linter.unusedVariables false
set_option linter.unusedSimpArgs false
set_option maxRecDepth 100000
set_option maxHeartbeats 16000000

def b28 : SC := .seq (.ops [⟨some 2, .box (.t 0), none⟩, ⟨some 3, .box (.t 1), none⟩, ⟨some 4, .mov (.c (.nilf)), none⟩]) (.seq (.ops [⟨some 5, .mkFunc 33 [] [.t 2, .t 3], none⟩, ⟨some 4, .mov (.t 5), none⟩]) (.ret))
theorem t28 : tab 28 = some ⟨6, [.tmp 4], b28⟩ := rfl
def b27 : SC := .seq (.ops [⟨some 2, .box (.t 0), none⟩, ⟨some 3, .box (.t 1), none⟩, ⟨some 4, .mov (.c (.nilf)), none⟩]) (.seq (.ops [⟨some 5, .mkFunc 32 [] [.t 3, .t 2], none⟩, ⟨some 4, .mov (.t 5), none⟩]) (.ret))
theorem t27 : tab 27 = some ⟨6, [.tmp 4], b27⟩ := rfl
def b10 : SC := .seq (.ops [⟨some 3, .box (.t 1), none⟩, ⟨some 4, .mov (.c (.nilsl)), none⟩, ⟨some 5, .mov (.c (.int (.i64) 0)), none⟩]) (.seq (.seq (.ops [⟨some 6, .mov (.t 0), none⟩, ⟨some 7, .load true 2 (.t 3), none⟩, ⟨some 8, .call 25 [.t 6, .t 7], none⟩, ⟨some 9, .un (.not) (.t 8), none⟩]) (.cond (.t 9) (.seq (.ops [⟨some 4, .mov (.c (.nilsl)), none⟩, ⟨some 5, .mov (.c (.int (.i64) 2)), none⟩]) (.ret)) (.skip))) (.seq (.ops [⟨some 10, .mov (.t 0), none⟩, ⟨some 11, .load true 2 (.t 3), none⟩, ⟨some 12, .call 28 [.t 10, .t 11], none⟩, ⟨some 13, .call 26 [.t 12], none⟩, ⟨some 4, .mov (.t 13), none⟩, ⟨some 5, .mov (.c (.int (.i64) 0)), none⟩]) (.ret)))
theorem t10 : tab 10 = some ⟨14, [.tmp 4, .tmp 5], b10⟩ := rfl
def b8 : SC := .seq (.ops [⟨some 3, .box (.t 1), none⟩, ⟨some 4, .mov (.c (.nilsl)), none⟩, ⟨some 5, .mov (.c (.int (.i64) 0)), none⟩]) (.seq (.seq (.ops [⟨some 6, .mov (.t 0), none⟩, ⟨some 7, .load true 2 (.t 3), none⟩, ⟨some 8, .call 25 [.t 6, .t 7], none⟩, ⟨some 9, .un (.not) (.t 8), none⟩]) (.cond (.t 9) (.seq (.ops [⟨some 4, .mov (.c (.nilsl)), none⟩, ⟨some 5, .mov (.c (.int (.i64) 2)), none⟩]) (.ret)) (.skip))) (.seq (.drawOps [⟨some 10, .mov (.t 0), none⟩, ⟨some 11, .load true 2 (.t 3), none⟩, ⟨some 12, .call 28 [.t 10, .t 11], none⟩, ⟨some 13, .load true 2 (.t 3), none⟩, ⟨some 14, .call 27 [.t 12, .t 13], none⟩, ⟨some 15, .call 26 [.t 14], none⟩, ⟨some 4, .mov (.t 15), none⟩, ⟨some 5, .mov (.c (.int (.i64) 0)), none⟩] [(3, 2)]) (.ret)))
theorem t8 : tab 8 = some ⟨16, [.tmp 4, .tmp 5], b8⟩ := rfl

theorem x28 {V : AV} (hV : V.flat = true) (s : Sp) (h : Heap) : xcall X1 tab (.fn 28) [V, .agg [.int .u32 s.1, .int .u32 s.2]] h = some (.func 33 [] [.ptr h.next 0, .ptr (h.next + 1) 0], (h.alloc (.cells [V] false)).alloc (.cells [.int .u32 s.1, .int .u32 s.2] false)) := by
  rw [x_fn rfl t28]
  delta b28
  simp (disch := first | omega | (simp only [nx_alloc, nx_set] <;> omega) | (apply Rd.grow; assumption; repeat (first | exact Grow.refl _ | assumption | exact Grow.alloc _ _ | refine Grow.allocR ?_ _ | refine Grow.setR ?_ _ ?_ ?_ | omega | (simp only [nx_alloc, nx_set] <;> omega) | (apply Grow.trans; rotate_left; assumption) | fail)) | fail) only [note_false, Int.reduceBEq, Int.reduceBNe, x_drawn, l_nil, l_op, l_guard, l_some, l_true, l_false, l_draw, readsA, x_true, x_false, x_seq, x_ops, x_cond, x_skip, x_ret, x_exit, x_block, x_then, x_thenE, x_thenR, x_blockN, x_blockR, x_blockE, s_nil, s_op, s_guard, s_some, s_true, s_false, s_put, s_put0, s_opsR, s_ret, s_norm, aop, ev, evs, List.map_cons, List.map_nil, List.cons_append, List.nil_append, List.append_nil, List.replicate, List.take_succ_cons, List.take_zero, List.take_nil, List.drop_succ_cons, List.drop_zero, List.drop_nil, Nat.zero_add, Nat.add_zero, Nat.reduceAdd, Nat.reduceMul, Nat.reduceLeDiff, Bool.false_eq_true, and_self, List.length_cons, List.length_nil, List.set_cons_zero, List.set_cons_succ, List.getD_cons_zero, List.getD_cons_succ, wantedA, List.getElem?_cons_zero, List.getElem?_cons_succ, q_t, q_f, Bool.not_true, Bool.not_false, b_add, b_sub, b_mul, b_eql, b_neq, b_lss, b_leq, b_gtr, b_geq, b_and, b_or, b_xor, b_quo, b_rem, b_shl, b_shr, unA, Option.map_some, Option.map_none, resA, tupA, Int.reduceLT, not_false_eq_true, not_true_eq_false, decide_true, decide_false, f_bool, c_bool, f_int, c_int, f_str, c_str, f_nilptr, c_nilptr, f_ptr, c_ptr, f_nilsl, c_nilsl, f_slice, c_slice, f_nilmap, c_nilmap, f_map, c_map, f_nilf, c_nilf, f_func, c_func, f_yieldf, c_yieldf, f_nilif, c_nilif, f_iface, c_iface, c_agg, List.all_cons, List.all_nil, Bool.and_true, Bool.true_and, if_true, if_false, ite_true, ite_false, ga_new, ga_old, gs_new, gs_old, Heap.next_alloc, Heap.next_set, loadA, storeA, splice, fillA, d_t, d_f, i_t, i_f, beq_t, beq_f, bne_t, bne_f, w_i64, w_u64, w_u32, w_i32, w_u8, Int.toNat_natCast, n_sub1, n_add1, Nat.sub_zero, Nat.mul_one, Nat.one_mul, Nat.zero_mul, List.append_assoc, Option.bind_some, chkLog, same_cells, List.replicate_zero, List.flatten_nil, true_and, and_true, kindsOk, k_0, k_1, k_2, plainEq, Bool.bne_true, Bool.bne_false, beq_self_eq_true, bne_self_eq_false, Int.tdiv_eq_ediv_of_nonneg, Int.tmod_eq_emod_of_nonneg, List.length_nil, cells_of hV, hV]
  try rfl
theorem x27 {V : AV} (hV : V.flat = true) (s : Sp) (h : Heap) : xcall X1 tab (.fn 27) [V, .agg [.int .u32 s.1, .int .u32 s.2]] h = some (.func 32 [] [.ptr (h.next + 1) 0, .ptr h.next 0], (h.alloc (.cells [V] false)).alloc (.cells [.int .u32 s.1, .int .u32 s.2] false)) := by
  rw [x_fn rfl t27]
  delta b27
  simp (disch := first | omega | (simp only [nx_alloc, nx_set] <;> omega) | (apply Rd.grow; assumption; repeat (first | exact Grow.refl _ | assumption | exact Grow.alloc _ _ | refine Grow.allocR ?_ _ | refine Grow.setR ?_ _ ?_ ?_ | omega | (simp only [nx_alloc, nx_set] <;> omega) | (apply Grow.trans; rotate_left; assumption) | fail)) | fail) only [note_false, Int.reduceBEq, Int.reduceBNe, x_drawn, l_nil, l_op, l_guard, l_some, l_true, l_false, l_draw, readsA, x_true, x_false, x_seq, x_ops, x_cond, x_skip, x_ret, x_exit, x_block, x_then, x_thenE, x_thenR, x_blockN, x_blockR, x_blockE, s_nil, s_op, s_guard, s_some, s_true, s_false, s_put, s_put0, s_opsR, s_ret, s_norm, aop, ev, evs, List.map_cons, List.map_nil, List.cons_append, List.nil_append, List.append_nil, List.replicate, List.take_succ_cons, List.take_zero, List.take_nil, List.drop_succ_cons, List.drop_zero, List.drop_nil, Nat.zero_add, Nat.add_zero, Nat.reduceAdd, Nat.reduceMul, Nat.reduceLeDiff, Bool.false_eq_true, and_self, List.length_cons, List.length_nil, List.set_cons_zero, List.set_cons_succ, List.getD_cons_zero, List.getD_cons_succ, wantedA, List.getElem?_cons_zero, List.getElem?_cons_succ, q_t, q_f, Bool.not_true, Bool.not_false, b_add, b_sub, b_mul, b_eql, b_neq, b_lss, b_leq, b_gtr, b_geq, b_and, b_or, b_xor, b_quo, b_rem, b_shl, b_shr, unA, Option.map_some, Option.map_none, resA, tupA, Int.reduceLT, not_false_eq_true, not_true_eq_false, decide_true, decide_false, f_bool, c_bool, f_int, c_int, f_str, c_str, f_nilptr, c_nilptr, f_ptr, c_ptr, f_nilsl, c_nilsl, f_slice, c_slice, f_nilmap, c_nilmap, f_map, c_map, f_nilf, c_nilf, f_func, c_func, f_yieldf, c_yieldf, f_nilif, c_nilif, f_iface, c_iface, c_agg, List.all_cons, List.all_nil, Bool.and_true, Bool.true_and, if_true, if_false, ite_true, ite_false, ga_new, ga_old, gs_new, gs_old, Heap.next_alloc, Heap.next_set, loadA, storeA, splice, fillA, d_t, d_f, i_t, i_f, beq_t, beq_f, bne_t, bne_f, w_i64, w_u64, w_u32, w_i32, w_u8, Int.toNat_natCast, n_sub1, n_add1, Nat.sub_zero, Nat.mul_one, Nat.one_mul, Nat.zero_mul, List.append_assoc, Option.bind_some, chkLog, same_cells, List.replicate_zero, List.flatten_nil, true_and, and_true, kindsOk, k_0, k_1, k_2, plainEq, Bool.bne_true, Bool.bne_false, beq_self_eq_true, bne_self_eq_false, Int.tdiv_eq_ediv_of_nonneg, Int.tmod_eq_emod_of_nonneg, List.length_nil, cells_of hV, hV]
  try rfl
theorem pieces_len (x s : Sp) : (pieces x s).length ≤ 2 := by
  unfold pieces
  split <;> (repeat (first | split | simp))
theorem rest_len : ∀ (l : List Sp) (s : Sp), (restP l s).length ≤ 2 * l.length
  | [], s => by simp [restP]
  | x :: l, s => by
    have := rest_len l s
    have := pieces_len x s
    simp only [restP, List.map_cons, List.flatten_cons, List.length_append, List.length_cons] at *
    omega
theorem withG_len' (s : Sp) : ∀ (l : List Sp) (d : Bool), (withG s d l).length ≤ l.length + 1
  | [], d => by cases d <;> simp [withG]
  | x :: l, d => by
    rw [withG]
    split
    · rw [withG_true]; simp
    · have := withG_len' s l d
      simp only [List.length_cons]; omega
theorem sp_lt {h : Heap} {V : AV} {l : List Sp} (hV : SpAt h V l) {id o n c : Nat} {e : Bool} {z : Nat} (e1 : V = .slice id o n c e z) : id < h.next := by
  rcases hV.cases with ⟨rfl, _⟩ | ⟨id', off, cap, ex, c', ro, rfl, hg, hid, _⟩
  · cases e1
  · cases e1; exact hid
/-- What rest reads stands there behind its boxes. -/
theorem restP_at {h h' : Heap} {V : AV} {l : List Sp} {s : Sp} {B : Nat → Prop} (hV : SpAt h V l) (g : Grow ((h.alloc (.cells [V] false)).alloc (.cells [.int .u32 s.1, .int .u32 s.2] false)) h') (hB : ∀ j, B j → h.next + 2 ≤ j) : RestP h.next (h.next + 1) V l s h' B := by
  have g0 : Grow h h' := (((Grow.alloc h _).trans (Grow.alloc _ _))).trans g
  refine ⟨g.get (by rw [ga_old (by simp), ga_new rfl]), g.get (ga_new (by simp)), hV.grow g0, fun e => by have := hB _ e; omega, fun e => by have := hB _ e; omega, fun id o n c e z e1 hb => ?_⟩
  have := sp_lt hV e1
  have := hB _ hb
  omega

/-- Cut. -/
theorem x10 (l : List Sp) (s : Sp) {h : Heap} {V : AV} (hV : SpAt h V l) (hl : l.length ≤ 100000) : ∃ v h', xcall X1 tab (.fn 10) [V, .agg [.int .u32 s.1, .int .u32 s.2]] h = some (.tuple [v, .int .i64 (if (decide (s.1 ≤ s.2) && mayP l) = true then 0 else 2)], h') ∧ Grow h h' ∧ Mine 2 h.next h' v ((if (decide (s.1 ≤ s.2) && mayP l) = true then cutP l s else []).map spA) := by
  have hV1 := hV.grow (Grow.alloc h (.cells [.int .u32 s.1, .int .u32 s.2] false))
  have e25 := x25 l s hV1 (by omega)
  have gg := g25 l s hV1 (by omega)
  have ga := Grow.alloc h (.cells [.int .u32 s.1, .int .u32 s.2] false)
  have hp := gg.get (ga_new (h := h) (o := .cells [.int .u32 s.1, .int .u32 s.2] false) rfl)
  have hpl := Heap.lt_of_get hp
  have hVf : V.flat = true := Rd.flat hV
  cases hm : (decide (s.1 ≤ s.2) && mayP l)
  · rw [hm] at e25
    refine ⟨.nilsl, _, ?_, ga.trans gg, Mine.nil _ _ _⟩
    rw [x_fn rfl t10]
    delta b10
    simp (disch := first | omega | (simp only [nx_alloc, nx_set] <;> omega) | (apply Rd.grow; assumption; repeat (first | exact Grow.refl _ | assumption | exact Grow.alloc _ _ | refine Grow.allocR ?_ _ | refine Grow.setR ?_ _ ?_ ?_ | omega | (simp only [nx_alloc, nx_set] <;> omega) | (apply Grow.trans; rotate_left; assumption) | fail)) | fail) only [note_false, Int.reduceBEq, Int.reduceBNe, x_drawn, l_nil, l_op, l_guard, l_some, l_true, l_false, l_draw, readsA, x_true, x_false, x_seq, x_ops, x_cond, x_skip, x_ret, x_exit, x_block, x_then, x_thenE, x_thenR, x_blockN, x_blockR, x_blockE, s_nil, s_op, s_guard, s_some, s_true, s_false, s_put, s_put0, s_opsR, s_ret, s_norm, aop, ev, evs, List.map_cons, List.map_nil, List.cons_append, List.nil_append, List.append_nil, List.replicate, List.take_succ_cons, List.take_zero, List.take_nil, List.drop_succ_cons, List.drop_zero, List.drop_nil, Nat.zero_add, Nat.add_zero, Nat.reduceAdd, Nat.reduceMul, Nat.reduceLeDiff, Bool.false_eq_true, and_self, List.length_cons, List.length_nil, List.set_cons_zero, List.set_cons_succ, List.getD_cons_zero, List.getD_cons_succ, wantedA, List.getElem?_cons_zero, List.getElem?_cons_succ, q_t, q_f, Bool.not_true, Bool.not_false, b_add, b_sub, b_mul, b_eql, b_neq, b_lss, b_leq, b_gtr, b_geq, b_and, b_or, b_xor, b_quo, b_rem, b_shl, b_shr, unA, Option.map_some, Option.map_none, resA, tupA, Int.reduceLT, not_false_eq_true, not_true_eq_false, decide_true, decide_false, f_bool, c_bool, f_int, c_int, f_str, c_str, f_nilptr, c_nilptr, f_ptr, c_ptr, f_nilsl, c_nilsl, f_slice, c_slice, f_nilmap, c_nilmap, f_map, c_map, f_nilf, c_nilf, f_func, c_func, f_yieldf, c_yieldf, f_nilif, c_nilif, f_iface, c_iface, c_agg, List.all_cons, List.all_nil, Bool.and_true, Bool.true_and, if_true, if_false, ite_true, ite_false, ga_new, ga_old, gs_new, gs_old, Heap.next_alloc, Heap.next_set, loadA, storeA, splice, fillA, d_t, d_f, i_t, i_f, beq_t, beq_f, bne_t, bne_f, w_i64, w_u64, w_u32, w_i32, w_u8, Int.toNat_natCast, n_sub1, n_add1, Nat.sub_zero, Nat.mul_one, Nat.one_mul, Nat.zero_mul, List.append_assoc, Option.bind_some, chkLog, same_cells, List.replicate_zero, List.flatten_nil, true_and, and_true, kindsOk, k_0, k_1, k_2, plainEq, Bool.bne_true, Bool.bne_false, beq_self_eq_true, bne_self_eq_false, Int.tdiv_eq_ediv_of_nonneg, Int.tmod_eq_emod_of_nonneg, List.length_nil, e25]
    try rfl
  · rw [hm] at e25
    rw [if_pos rfl, if_pos rfl]
    generalize HX X1 tab 25 [V, .agg [.int .u32 s.1, .int .u32 s.2]] (h.alloc (.cells [.int .u32 s.1, .int .u32 s.2] false)) = H at *
    have hV2 := hV1.grow gg
    have g0 : Grow h H := ga.trans gg
    have hr := rest_len l s
    obtain ⟨v, h', e26, g26, m26⟩ := x26 (xs := restP l s) (by omega) (prod33 (pl := H.next) (ps := H.next + 1) (V := V) (s := s) (l := l) (by omega)) (h := (H.alloc (.cells [V] false)).alloc (.cells [.int .u32 s.1, .int .u32 s.2] false)) (fun h' B gr hB => restP_at hV2 gr fun j hj => by have := hB j hj; simpa using this)
    refine ⟨v, h', ?_, (g0.trans ((Grow.alloc _ _).trans (Grow.alloc _ _))).trans g26, m26.le (by have := g0.1; simp; omega)⟩
    rw [x_fn rfl t10]
    delta b10
    simp (disch := first | omega | (simp only [nx_alloc, nx_set] <;> omega) | (apply Rd.grow; assumption; repeat (first | exact Grow.refl _ | assumption | exact Grow.alloc _ _ | refine Grow.allocR ?_ _ | refine Grow.setR ?_ _ ?_ ?_ | omega | (simp only [nx_alloc, nx_set] <;> omega) | (apply Grow.trans; rotate_left; assumption) | fail)) | fail) only [note_false, Int.reduceBEq, Int.reduceBNe, x_drawn, l_nil, l_op, l_guard, l_some, l_true, l_false, l_draw, readsA, x_true, x_false, x_seq, x_ops, x_cond, x_skip, x_ret, x_exit, x_block, x_then, x_thenE, x_thenR, x_blockN, x_blockR, x_blockE, s_nil, s_op, s_guard, s_some, s_true, s_false, s_put, s_put0, s_opsR, s_ret, s_norm, aop, ev, evs, List.map_cons, List.map_nil, List.cons_append, List.nil_append, List.append_nil, List.replicate, List.take_succ_cons, List.take_zero, List.take_nil, List.drop_succ_cons, List.drop_zero, List.drop_nil, Nat.zero_add, Nat.add_zero, Nat.reduceAdd, Nat.reduceMul, Nat.reduceLeDiff, Bool.false_eq_true, and_self, List.length_cons, List.length_nil, List.set_cons_zero, List.set_cons_succ, List.getD_cons_zero, List.getD_cons_succ, wantedA, List.getElem?_cons_zero, List.getElem?_cons_succ, q_t, q_f, Bool.not_true, Bool.not_false, b_add, b_sub, b_mul, b_eql, b_neq, b_lss, b_leq, b_gtr, b_geq, b_and, b_or, b_xor, b_quo, b_rem, b_shl, b_shr, unA, Option.map_some, Option.map_none, resA, tupA, Int.reduceLT, not_false_eq_true, not_true_eq_false, decide_true, decide_false, f_bool, c_bool, f_int, c_int, f_str, c_str, f_nilptr, c_nilptr, f_ptr, c_ptr, f_nilsl, c_nilsl, f_slice, c_slice, f_nilmap, c_nilmap, f_map, c_map, f_nilf, c_nilf, f_func, c_func, f_yieldf, c_yieldf, f_nilif, c_nilif, f_iface, c_iface, c_agg, List.all_cons, List.all_nil, Bool.and_true, Bool.true_and, if_true, if_false, ite_true, ite_false, ga_new, ga_old, gs_new, gs_old, Heap.next_alloc, Heap.next_set, loadA, storeA, splice, fillA, d_t, d_f, i_t, i_f, beq_t, beq_f, bne_t, bne_f, w_i64, w_u64, w_u32, w_i32, w_u8, Int.toNat_natCast, n_sub1, n_add1, Nat.sub_zero, Nat.mul_one, Nat.one_mul, Nat.zero_mul, List.append_assoc, Option.bind_some, chkLog, same_cells, List.replicate_zero, List.flatten_nil, true_and, and_true, kindsOk, k_0, k_1, k_2, plainEq, Bool.bne_true, Bool.bne_false, beq_self_eq_true, bne_self_eq_false, Int.tdiv_eq_ediv_of_nonneg, Int.tmod_eq_emod_of_nonneg, List.length_nil, e25, hp, x28 hVf, e26]
    try rfl

/-- Add. -/
theorem x8 (l : List Sp) (s : Sp) {h : Heap} {V : AV} (hV : SpAt h V l) (hl : l.length ≤ 100000) : ∃ v h', xcall X1 tab (.fn 8) [V, .agg [.int .u32 s.1, .int .u32 s.2]] h = some (.tuple [v, .int .i64 (if (decide (s.1 ≤ s.2) && mayP l) = true then 0 else 2)], h') ∧ Grow h h' ∧ Mine 2 h.next h' v ((if (decide (s.1 ≤ s.2) && mayP l) = true then addP l s else []).map spA) := by
  have hV1 := hV.grow (Grow.alloc h (.cells [.int .u32 s.1, .int .u32 s.2] false))
  have e25 := x25 l s hV1 (by omega)
  have gg := g25 l s hV1 (by omega)
  have ga := Grow.alloc h (.cells [.int .u32 s.1, .int .u32 s.2] false)
  have hp := gg.get (ga_new (h := h) (o := .cells [.int .u32 s.1, .int .u32 s.2] false) rfl)
  have hpl := Heap.lt_of_get hp
  have hVf : V.flat = true := Rd.flat hV
  cases hm : (decide (s.1 ≤ s.2) && mayP l)
  · rw [hm] at e25
    refine ⟨.nilsl, _, ?_, ga.trans gg, Mine.nil _ _ _⟩
    rw [x_fn rfl t8]
    delta b8
    simp (disch := first | omega | (simp only [nx_alloc, nx_set] <;> omega) | (apply Rd.grow; assumption; repeat (first | exact Grow.refl _ | assumption | exact Grow.alloc _ _ | refine Grow.allocR ?_ _ | refine Grow.setR ?_ _ ?_ ?_ | omega | (simp only [nx_alloc, nx_set] <;> omega) | (apply Grow.trans; rotate_left; assumption) | fail)) | fail) only [note_false, Int.reduceBEq, Int.reduceBNe, x_drawn, l_nil, l_op, l_guard, l_some, l_true, l_false, l_draw, readsA, x_true, x_false, x_seq, x_ops, x_cond, x_skip, x_ret, x_exit, x_block, x_then, x_thenE, x_thenR, x_blockN, x_blockR, x_blockE, s_nil, s_op, s_guard, s_some, s_true, s_false, s_put, s_put0, s_opsR, s_ret, s_norm, aop, ev, evs, List.map_cons, List.map_nil, List.cons_append, List.nil_append, List.append_nil, List.replicate, List.take_succ_cons, List.take_zero, List.take_nil, List.drop_succ_cons, List.drop_zero, List.drop_nil, Nat.zero_add, Nat.add_zero, Nat.reduceAdd, Nat.reduceMul, Nat.reduceLeDiff, Bool.false_eq_true, and_self, List.length_cons, List.length_nil, List.set_cons_zero, List.set_cons_succ, List.getD_cons_zero, List.getD_cons_succ, wantedA, List.getElem?_cons_zero, List.getElem?_cons_succ, q_t, q_f, Bool.not_true, Bool.not_false, b_add, b_sub, b_mul, b_eql, b_neq, b_lss, b_leq, b_gtr, b_geq, b_and, b_or, b_xor, b_quo, b_rem, b_shl, b_shr, unA, Option.map_some, Option.map_none, resA, tupA, Int.reduceLT, not_false_eq_true, not_true_eq_false, decide_true, decide_false, f_bool, c_bool, f_int, c_int, f_str, c_str, f_nilptr, c_nilptr, f_ptr, c_ptr, f_nilsl, c_nilsl, f_slice, c_slice, f_nilmap, c_nilmap, f_map, c_map, f_nilf, c_nilf, f_func, c_func, f_yieldf, c_yieldf, f_nilif, c_nilif, f_iface, c_iface, c_agg, List.all_cons, List.all_nil, Bool.and_true, Bool.true_and, if_true, if_false, ite_true, ite_false, ga_new, ga_old, gs_new, gs_old, Heap.next_alloc, Heap.next_set, loadA, storeA, splice, fillA, d_t, d_f, i_t, i_f, beq_t, beq_f, bne_t, bne_f, w_i64, w_u64, w_u32, w_i32, w_u8, Int.toNat_natCast, n_sub1, n_add1, Nat.sub_zero, Nat.mul_one, Nat.one_mul, Nat.zero_mul, List.append_assoc, Option.bind_some, chkLog, same_cells, List.replicate_zero, List.flatten_nil, true_and, and_true, kindsOk, k_0, k_1, k_2, plainEq, Bool.bne_true, Bool.bne_false, beq_self_eq_true, bne_self_eq_false, Int.tdiv_eq_ediv_of_nonneg, Int.tmod_eq_emod_of_nonneg, List.length_nil, e25]
    try rfl
  · rw [hm] at e25
    rw [if_pos rfl, if_pos rfl]
    generalize HX X1 tab 25 [V, .agg [.int .u32 s.1, .int .u32 s.2]] (h.alloc (.cells [.int .u32 s.1, .int .u32 s.2] false)) = H at *
    have hV2 := hV1.grow gg
    have g0 : Grow h H := ga.trans gg
    have hr := rest_len l s
    have hw : (withP (restP l s) s).length ≤ (restP l s).length + 1 := withG_len' s _ _
    obtain ⟨v, h', e26, g26, m26⟩ := x26 (xs := withP (restP l s) s) (by omega) (prod32 (ps := H.next + 2 + 1) (pf := H.next + 2) (prod33 (pl := H.next) (ps := H.next + 1) (V := V) (s := s) (l := l) (by omega)) RestP.stp)
      (h := (((H.alloc (.cells [V] false)).alloc (.cells [.int .u32 s.1, .int .u32 s.2] false)).alloc (.cells [.func 33 [] [.ptr H.next 0, .ptr (H.next + 1) 0]] false)).alloc (.cells [.int .u32 s.1, .int .u32 s.2] false)) (fun h' B gr hB => by
        refine ⟨gr.get (ga_new (by simp)), gr.get (by rw [ga_old (by simp), ga_new (by simp)]), fun e => by have := hB _ e; simp at this; omega, fun e => by have := hB _ e; simp at this; omega, restP_at hV2 (((Grow.alloc _ _).trans (Grow.alloc _ _)).trans gr) fun j hj => ?_⟩
        rcases hj with rfl | hj
        · omega
        · have := hB j hj; simp at this; omega)
    refine ⟨v, h', ?_, ((((g0.trans ((Grow.alloc _ _).trans (Grow.alloc _ _))).trans (Grow.alloc _ _)).trans (Grow.alloc _ _))).trans g26, m26.le (by have := g0.1; simp; omega)⟩
    rw [x_fn rfl t8]
    delta b8
    simp (disch := first | omega | (simp only [nx_alloc, nx_set] <;> omega) | (apply Rd.grow; assumption; repeat (first | exact Grow.refl _ | assumption | exact Grow.alloc _ _ | refine Grow.allocR ?_ _ | refine Grow.setR ?_ _ ?_ ?_ | omega | (simp only [nx_alloc, nx_set] <;> omega) | (apply Grow.trans; rotate_left; assumption) | fail)) | fail) only [note_false, Int.reduceBEq, Int.reduceBNe, x_drawn, l_nil, l_op, l_guard, l_some, l_true, l_false, l_draw, readsA, x_true, x_false, x_seq, x_ops, x_cond, x_skip, x_ret, x_exit, x_block, x_then, x_thenE, x_thenR, x_blockN, x_blockR, x_blockE, s_nil, s_op, s_guard, s_some, s_true, s_false, s_put, s_put0, s_opsR, s_ret, s_norm, aop, ev, evs, List.map_cons, List.map_nil, List.cons_append, List.nil_append, List.append_nil, List.replicate, List.take_succ_cons, List.take_zero, List.take_nil, List.drop_succ_cons, List.drop_zero, List.drop_nil, Nat.zero_add, Nat.add_zero, Nat.reduceAdd, Nat.reduceMul, Nat.reduceLeDiff, Bool.false_eq_true, and_self, List.length_cons, List.length_nil, List.set_cons_zero, List.set_cons_succ, List.getD_cons_zero, List.getD_cons_succ, wantedA, List.getElem?_cons_zero, List.getElem?_cons_succ, q_t, q_f, Bool.not_true, Bool.not_false, b_add, b_sub, b_mul, b_eql, b_neq, b_lss, b_leq, b_gtr, b_geq, b_and, b_or, b_xor, b_quo, b_rem, b_shl, b_shr, unA, Option.map_some, Option.map_none, resA, tupA, Int.reduceLT, not_false_eq_true, not_true_eq_false, decide_true, decide_false, f_bool, c_bool, f_int, c_int, f_str, c_str, f_nilptr, c_nilptr, f_ptr, c_ptr, f_nilsl, c_nilsl, f_slice, c_slice, f_nilmap, c_nilmap, f_map, c_map, f_nilf, c_nilf, f_func, c_func, f_yieldf, c_yieldf, f_nilif, c_nilif, f_iface, c_iface, c_agg, List.all_cons, List.all_nil, Bool.and_true, Bool.true_and, if_true, if_false, ite_true, ite_false, ga_new, ga_old, gs_new, gs_old, Heap.next_alloc, Heap.next_set, loadA, storeA, splice, fillA, d_t, d_f, i_t, i_f, beq_t, beq_f, bne_t, bne_f, w_i64, w_u64, w_u32, w_i32, w_u8, Int.toNat_natCast, n_sub1, n_add1, Nat.sub_zero, Nat.mul_one, Nat.one_mul, Nat.zero_mul, List.append_assoc, Option.bind_some, chkLog, same_cells, List.replicate_zero, List.flatten_nil, true_and, and_true, kindsOk, k_0, k_1, k_2, plainEq, Bool.bne_true, Bool.bne_false, beq_self_eq_true, bne_self_eq_false, Int.tdiv_eq_ediv_of_nonneg, Int.tmod_eq_emod_of_nonneg, List.length_nil, e25, hp, x28 hVf, x27 (show (AV.func 33 [] [.ptr H.next 0, .ptr (H.next + 1) 0]).flat = true from rfl), e26]
    try rfl
end Go.Proofs.Ytplbampjponnpaa.Ya

