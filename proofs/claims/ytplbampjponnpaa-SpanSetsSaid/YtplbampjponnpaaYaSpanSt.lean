/-
  Spans, law SpanSets: the run.
-/
import Derived.Test.YtplbampjponnpaaYaSpanGr
namespace Go.Proofs.Ytplbampjponnpaa.Ya
open Go.Ya Go.Ya.Span
set_option linter.unusedVariables false
set_option linter.unusedSimpArgs false
set_option maxRecDepth 100000
set_option maxHeartbeats 16000000

theorem spw_of {a : List Sp} (ha : mayP a = true) (h : ∀ p, inP a p = true → 0 ≤ p ∧ p < 4294967295) : SpW a := by
  intro x hx
  obtain ⟨i, hi, rfl⟩ := List.getElem_of_mem hx
  have hs := (mayG_iff.1 ha).2 i hi
  rw [stMay, List.getD_eq_getElem?_getD, List.getElem?_eq_getElem hi] at hs
  simp only [Option.getD_some] at hs
  have h1 := h (a[i]).1 (inP_true.2 ⟨a[i], hx, by omega, by omega⟩)
  have h2 := h ((a[i]).2 - 1) (inP_true.2 ⟨a[i], hx, by omega, by omega⟩)
  unfold U32
  omega
theorem spw_in {l : List Sp} (hw : SpW l) {p : Int} (h : inP l p = true) : 0 ≤ p ∧ p < 4294967295 := by
  obtain ⟨x, hx, h1, h2⟩ := inP_true.1 h
  have := hw x hx
  unfold U32 at this
  omega
theorem spw_cut {l : List Sp} (s : Sp) (hl : mayP l = true) (hw : SpW l) : SpW (cutP l s) := spw_of (cut_may s hl) fun p hp => by
  rw [cut_in s hl, Bool.and_eq_true] at hp
  exact spw_in hw hp.1
theorem spw_add {l : List Sp} (s : Sp) (hl : mayP l = true) (hw : SpW l) (h1 : U32 s.1) (h2 : U32 s.2) : SpW (addP l s) := spw_of (add_may s hl) fun p hp => by
  rw [add_in s hl, Bool.or_eq_true] at hp
  rcases hp with hp | hp
  · rw [inS_iff] at hp
    unfold U32 at h1 h2
    omega
  · exact spw_in hw hp
theorem cut_le {l : List Sp} (s : Sp) (hl : mayP l = true) : (cutP l s).length ≤ l.length + 1 := by
  obtain ⟨lo, _, h2⟩ := low l s
  exact Nat.le_trans (gather_le _) (rest_len2 (s := s) (mayP_weak hl h2)).1
def b4 : SC := .seq (.ops [⟨some 4, .box (.t 1), none⟩, ⟨some 6, .mov (.c (.bool false)), none⟩]) (.seq (.seq (.ops [⟨some 14, .mov (.t 0), none⟩, ⟨some 15, .len (.sl) (.t 14), none⟩, ⟨some 16, .bin (.gtr) (.other) (.t 15) (.c (.int (.i64) 60)), none⟩, ⟨some 17, .mov (.t 16), none⟩, ⟨some 18, .mov (.t 0), some (17, false)⟩, ⟨some 19, .call 13 [.t 18], some (17, false)⟩, ⟨some 20, .un (.not) (.t 19), some (17, false)⟩, ⟨some 21, .pick (.t 17) (.c (.bool true)) (.t 20), none⟩, ⟨some 22, .mov (.t 21), none⟩, ⟨some 23, .fieldAddr 1 (.t 4), some (22, false)⟩, ⟨some 24, .load false 1 (.t 23), some (22, false)⟩, ⟨some 25, .fieldAddr 0 (.t 4), some (22, false)⟩, ⟨some 26, .load false 1 (.t 25), some (22, false)⟩, ⟨some 27, .bin (.lss) (.other) (.t 24) (.t 26), some (22, false)⟩, ⟨some 28, .pick (.t 22) (.c (.bool true)) (.t 27), none⟩]) (.cond (.t 28) (.seq (.ops [⟨some 29, .call 7 [], none⟩, ⟨some 6, .mov (.t 29), none⟩]) (.ret)) (.skip))) (.seq (.ops [⟨some 31, .mov (.t 0), none⟩, ⟨some 32, .load true 2 (.t 4), none⟩, ⟨some 33, .call 8 [.t 31, .t 32], none⟩, ⟨some 30, .mov (.t 33), none⟩, ⟨some 34, .extract (.t 30) 0, none⟩, ⟨some 35, .extract (.t 30) 1, none⟩, ⟨some 7, .mov (.t 34), none⟩, ⟨some 8, .mov (.t 35), none⟩]) (.seq (.ops [⟨some 37, .mov (.t 0), none⟩, ⟨some 38, .load true 2 (.t 4), none⟩, ⟨some 39, .call 10 [.t 37, .t 38], none⟩, ⟨some 36, .mov (.t 39), none⟩, ⟨some 40, .extract (.t 36) 0, none⟩, ⟨some 41, .extract (.t 36) 1, none⟩, ⟨some 9, .mov (.t 40), none⟩, ⟨some 10, .mov (.t 41), none⟩]) (.seq (.seq (.ops [⟨some 42, .mov (.t 8), none⟩, ⟨some 43, .bin (.neq) (.other) (.t 42) (.c (.int (.i64) 0)), none⟩, ⟨some 44, .mov (.t 43), none⟩, ⟨some 45, .mov (.t 10), some (44, false)⟩, ⟨some 46, .bin (.neq) (.other) (.t 45) (.c (.int (.i64) 0)), some (44, false)⟩, ⟨some 47, .pick (.t 44) (.c (.bool true)) (.t 46), none⟩, ⟨some 48, .mov (.t 47), none⟩, ⟨some 49, .mov (.t 7), some (48, false)⟩, ⟨some 50, .call 13 [.t 49], some (48, false)⟩, ⟨some 51, .un (.not) (.t 50), some (48, false)⟩, ⟨some 52, .pick (.t 48) (.c (.bool true)) (.t 51), none⟩, ⟨some 53, .mov (.t 52), none⟩, ⟨some 54, .mov (.t 9), some (53, false)⟩, ⟨some 55, .call 13 [.t 54], some (53, false)⟩, ⟨some 56, .un (.not) (.t 55), some (53, false)⟩, ⟨some 57, .pick (.t 53) (.c (.bool true)) (.t 56), none⟩]) (.cond (.t 57) (.seq (.ops [⟨some 6, .mov (.c (.bool false)), none⟩]) (.ret)) (.skip))) (.seq (.ops [⟨some 59, .mov (.t 7), none⟩, ⟨some 60, .load true 2 (.t 4), none⟩, ⟨some 61, .call 10 [.t 59, .t 60], none⟩, ⟨some 58, .mov (.t 61), none⟩, ⟨some 62, .extract (.t 58) 0, none⟩, ⟨some 63, .extract (.t 58) 1, none⟩, ⟨some 11, .mov (.t 62), none⟩, ⟨some 12, .mov (.t 63), none⟩]) (.seq (.ops [⟨some 64, .mov (.t 2), none⟩, ⟨some 65, .fieldAddr 0 (.t 4), none⟩, ⟨some 66, .load false 1 (.t 65), none⟩, ⟨some 67, .bin (.geq) (.other) (.t 64) (.t 66), none⟩, ⟨some 68, .mov (.t 67), none⟩, ⟨some 69, .mov (.t 2), some (68, true)⟩, ⟨some 70, .fieldAddr 1 (.t 4), some (68, true)⟩, ⟨some 71, .load false 1 (.t 70), some (68, true)⟩, ⟨some 72, .bin (.lss) (.other) (.t 69) (.t 71), some (68, true)⟩, ⟨some 73, .pick (.t 68) (.t 72) (.c (.bool false)), none⟩, ⟨some 13, .mov (.t 73), none⟩]) (.seq (.seq (.ops [⟨some 74, .mov (.t 7), none⟩, ⟨some 75, .mov (.t 2), none⟩, ⟨some 76, .call 15 [.t 74, .t 75], none⟩, ⟨some 77, .mov (.t 13), none⟩, ⟨some 78, .mov (.t 77), none⟩, ⟨some 79, .mov (.t 0), some (78, false)⟩, ⟨some 80, .mov (.t 2), some (78, false)⟩, ⟨some 81, .call 15 [.t 79, .t 80], some (78, false)⟩, ⟨some 82, .pick (.t 78) (.c (.bool true)) (.t 81), none⟩, ⟨some 83, .bin (.neq) (.bool) (.t 76) (.t 82), none⟩, ⟨some 84, .mov (.t 83), none⟩, ⟨some 85, .mov (.t 9), some (84, false)⟩, ⟨some 86, .mov (.t 2), some (84, false)⟩, ⟨some 87, .call 15 [.t 85, .t 86], some (84, false)⟩, ⟨some 88, .mov (.t 13), some (84, false)⟩, ⟨some 89, .un (.not) (.t 88), some (84, false)⟩, ⟨some 90, .mov (.t 89), some (84, false)⟩, ⟨some 91, .mov (.t 0), some (90, true)⟩, ⟨some 92, .mov (.t 2), some (90, true)⟩, ⟨some 93, .call 15 [.t 91, .t 92], some (90, true)⟩, ⟨some 94, .pick (.t 90) (.t 93) (.c (.bool false)), some (84, false)⟩, ⟨some 95, .bin (.neq) (.bool) (.t 87) (.t 94), some (84, false)⟩, ⟨some 96, .pick (.t 84) (.c (.bool true)) (.t 95), none⟩]) (.cond (.t 96) (.seq (.ops [⟨some 6, .mov (.c (.bool false)), none⟩]) (.ret)) (.skip))) (.seq (.drawOps [⟨some 97, .mov (.t 12), none⟩, ⟨some 98, .bin (.eql) (.other) (.t 97) (.c (.int (.i64) 0)), none⟩, ⟨some 99, .mov (.t 98), none⟩, ⟨some 100, .mov (.t 9), some (99, true)⟩, ⟨some 101, .mov (.t 11), some (99, true)⟩, ⟨some 102, .call 12 [.t 100, .t 101], some (99, true)⟩, ⟨some 103, .pick (.t 99) (.t 102) (.c (.bool false)), none⟩, ⟨some 104, .mov (.t 103), none⟩, ⟨some 105, .mov (.t 7), some (104, true)⟩, ⟨some 106, .load true 2 (.t 4), some (104, true)⟩, ⟨some 107, .call 17 [.t 105, .t 106], some (104, true)⟩, ⟨some 108, .pick (.t 104) (.t 107) (.c (.bool false)), none⟩, ⟨some 109, .mov (.t 108), none⟩, ⟨some 110, .mov (.t 7), some (109, true)⟩, ⟨some 111, .call 19 [.t 110], some (109, true)⟩, ⟨some 112, .mov (.t 9), some (109, true)⟩, ⟨some 113, .call 19 [.t 112], some (109, true)⟩, ⟨some 114, .fieldAddr 1 (.t 4), some (109, true)⟩, ⟨some 115, .load false 1 (.t 114), some (109, true)⟩, ⟨some 116, .fieldAddr 0 (.t 4), some (109, true)⟩, ⟨some 117, .load false 1 (.t 116), some (109, true)⟩, ⟨some 118, .bin (.sub) (.other) (.t 115) (.t 117), some (109, true)⟩, ⟨some 119, .convInt (.u64) (.t 118), some (109, true)⟩, ⟨some 120, .bin (.add) (.other) (.t 113) (.t 119), some (109, true)⟩, ⟨some 121, .bin (.eql) (.other) (.t 111) (.t 120), some (109, true)⟩, ⟨some 122, .pick (.t 109) (.t 121) (.c (.bool false)), none⟩, ⟨some 123, .mov (.t 122), none⟩, ⟨some 124, .call 7 [], some (123, true)⟩, ⟨some 125, .pick (.t 123) (.t 124) (.c (.bool false)), none⟩, ⟨some 6, .mov (.t 125), none⟩] [(18, 14), (18, 16), (20, 14), (20, 16)]) (.ret)))))))))
theorem t4 : tab 4 = some ⟨126, [.tmp 6], b4⟩ := rfl

theorem go4 (l : List Sp) (s : Sp) (at_ : Int) {h0 : Heap} {V : AV} (hV0 : SpAt h0 V l) (hw : SpW l) (u1 : U32 s.1) (u2 : U32 s.2) : ∃ h', xcall X1 tab (.fn 4) [V, .agg [.int .u32 s.1, .int .u32 s.2], .int .u32 at_] h0 = some (.bool true, h') := by
  have ga := Grow.alloc h0 (.cells [.int .u32 s.1, .int .u32 s.2] false)
  have hV := hV0.grow ga
  have hp := ga_new (h := h0) (o := .cells [.int .u32 s.1, .int .u32 s.2] false) rfl
  generalize hh : h0.alloc (.cells [.int .u32 s.1, .int .u32 s.2] false) = h at *
  generalize hpp : h0.next = p at *
  unfold U32 at u1 u2
  by_cases hl : l.length > 60
  · refine ⟨h, ?_⟩
    rcases hV.cases with ⟨rfl, rfl⟩ | ⟨id, off, cap, ex, c, ro, rfl, _⟩
    · simp at hl
    rw [x_fn rfl t4]
    delta b4
    simp (disch := first | omega | (simp only [nx_alloc, nx_set] <;> omega) | (apply Rd.grow; assumption; repeat (first | exact Grow.refl _ | assumption | exact Grow.alloc _ _ | refine Grow.allocR ?_ _ | refine Grow.setR ?_ _ ?_ ?_ | omega | (simp only [nx_alloc, nx_set] <;> omega) | (apply Grow.trans; rotate_left; assumption) | fail)) | fail) only [note_false, Int.reduceBEq, Int.reduceBNe, x_drawn, l_nil, l_op, l_guard, l_some, l_true, l_false, l_draw, readsA, x_true, x_false, x_seq, x_ops, x_cond, x_skip, x_ret, x_exit, x_block, x_then, x_thenE, x_thenR, x_blockN, x_blockR, x_blockE, s_nil, s_op, s_guard, s_some, s_true, s_false, s_put, s_put0, s_opsR, s_ret, s_norm, aop, ev, evs, List.map_cons, List.map_nil, List.cons_append, List.nil_append, List.append_nil, List.replicate, List.take_succ_cons, List.take_zero, List.take_nil, List.drop_succ_cons, List.drop_zero, List.drop_nil, Nat.zero_add, Nat.add_zero, Nat.reduceAdd, Nat.reduceMul, Nat.reduceLeDiff, Bool.false_eq_true, and_self, List.length_cons, List.length_nil, List.set_cons_zero, List.set_cons_succ, List.getD_cons_zero, List.getD_cons_succ, wantedA, List.getElem?_cons_zero, List.getElem?_cons_succ, q_t, q_f, Bool.not_true, Bool.not_false, b_add, b_sub, b_mul, b_eql, b_neq, b_lss, b_leq, b_gtr, b_geq, b_and, b_or, b_xor, b_quo, b_rem, b_shl, b_shr, unA, Option.map_some, Option.map_none, resA, tupA, Int.reduceLT, not_false_eq_true, not_true_eq_false, decide_true, decide_false, f_bool, c_bool, f_int, c_int, f_str, c_str, f_nilptr, c_nilptr, f_ptr, c_ptr, f_nilsl, c_nilsl, f_slice, c_slice, f_nilmap, c_nilmap, f_map, c_map, f_nilf, c_nilf, f_func, c_func, f_yieldf, c_yieldf, f_nilif, c_nilif, f_iface, c_iface, c_agg, List.all_cons, List.all_nil, Bool.and_true, Bool.true_and, if_true, if_false, ite_true, ite_false, ga_new, ga_old, gs_new, gs_old, Heap.next_alloc, Heap.next_set, loadA, storeA, splice, fillA, d_t, d_f, i_t, i_f, beq_t, beq_f, bne_t, bne_f, w_i64, w_u64, w_u32, w_i32, w_u8, Int.toNat_natCast, n_sub1, n_add1, Nat.sub_zero, Nat.mul_one, Nat.one_mul, Nat.zero_mul, List.append_assoc, Option.bind_some, chkLog, same_cells, List.replicate_zero, List.flatten_nil, true_and, and_true, b_eqB, b_neB, b_eqS, b_neS, Bool.true_beq, Bool.false_beq, kindsOk, k_0, k_1, k_2, plainEq, Bool.bne_true, Bool.bne_false, beq_self_eq_true, bne_self_eq_false, Int.tdiv_eq_ediv_of_nonneg, Int.tmod_eq_emod_of_nonneg, List.length_nil, lives7, hh, hpp, hp]
    try rfl
  have hl' : l.length ≤ 60 := by omega
  obtain ⟨h1, e1, g1⟩ := x13e l hV (by omega)
  have hp1 := g1.get hp
  cases hm : mayP l
  · rw [hm] at e1
    refine ⟨h1, ?_⟩
    rcases hV.cases with ⟨rfl, rfl⟩ | ⟨id, off, cap, ex, c, ro, rfl, _⟩
    all_goals
      rw [x_fn rfl t4]
      delta b4
      simp (disch := first | omega | (simp only [nx_alloc, nx_set] <;> omega) | (apply Rd.grow; assumption; repeat (first | exact Grow.refl _ | assumption | exact Grow.alloc _ _ | refine Grow.allocR ?_ _ | refine Grow.setR ?_ _ ?_ ?_ | omega | (simp only [nx_alloc, nx_set] <;> omega) | (apply Grow.trans; rotate_left; assumption) | fail)) | fail) only [note_false, Int.reduceBEq, Int.reduceBNe, x_drawn, l_nil, l_op, l_guard, l_some, l_true, l_false, l_draw, readsA, x_true, x_false, x_seq, x_ops, x_cond, x_skip, x_ret, x_exit, x_block, x_then, x_thenE, x_thenR, x_blockN, x_blockR, x_blockE, s_nil, s_op, s_guard, s_some, s_true, s_false, s_put, s_put0, s_opsR, s_ret, s_norm, aop, ev, evs, List.map_cons, List.map_nil, List.cons_append, List.nil_append, List.append_nil, List.replicate, List.take_succ_cons, List.take_zero, List.take_nil, List.drop_succ_cons, List.drop_zero, List.drop_nil, Nat.zero_add, Nat.add_zero, Nat.reduceAdd, Nat.reduceMul, Nat.reduceLeDiff, Bool.false_eq_true, and_self, List.length_cons, List.length_nil, List.set_cons_zero, List.set_cons_succ, List.getD_cons_zero, List.getD_cons_succ, wantedA, List.getElem?_cons_zero, List.getElem?_cons_succ, q_t, q_f, Bool.not_true, Bool.not_false, b_add, b_sub, b_mul, b_eql, b_neq, b_lss, b_leq, b_gtr, b_geq, b_and, b_or, b_xor, b_quo, b_rem, b_shl, b_shr, unA, Option.map_some, Option.map_none, resA, tupA, Int.reduceLT, not_false_eq_true, not_true_eq_false, decide_true, decide_false, f_bool, c_bool, f_int, c_int, f_str, c_str, f_nilptr, c_nilptr, f_ptr, c_ptr, f_nilsl, c_nilsl, f_slice, c_slice, f_nilmap, c_nilmap, f_map, c_map, f_nilf, c_nilf, f_func, c_func, f_yieldf, c_yieldf, f_nilif, c_nilif, f_iface, c_iface, c_agg, List.all_cons, List.all_nil, Bool.and_true, Bool.true_and, if_true, if_false, ite_true, ite_false, ga_new, ga_old, gs_new, gs_old, Heap.next_alloc, Heap.next_set, loadA, storeA, splice, fillA, d_t, d_f, i_t, i_f, beq_t, beq_f, bne_t, bne_f, w_i64, w_u64, w_u32, w_i32, w_u8, Int.toNat_natCast, n_sub1, n_add1, Nat.sub_zero, Nat.mul_one, Nat.one_mul, Nat.zero_mul, List.append_assoc, Option.bind_some, chkLog, same_cells, List.replicate_zero, List.flatten_nil, true_and, and_true, b_eqB, b_neB, b_eqS, b_neS, Bool.true_beq, Bool.false_beq, kindsOk, k_0, k_1, k_2, plainEq, Bool.bne_true, Bool.bne_false, beq_self_eq_true, bne_self_eq_false, Int.tdiv_eq_ediv_of_nonneg, Int.tmod_eq_emod_of_nonneg, List.length_nil, lives7, hh, hpp, e1]
      try rfl
  rw [hm] at e1
  by_cases hs : s.2 < s.1
  · refine ⟨h1, ?_⟩
    rcases hV.cases with ⟨rfl, rfl⟩ | ⟨id, off, cap, ex, c, ro, rfl, _⟩
    all_goals
      rw [x_fn rfl t4]
      delta b4
      simp (disch := first | omega | (simp only [nx_alloc, nx_set] <;> omega) | (apply Rd.grow; assumption; repeat (first | exact Grow.refl _ | assumption | exact Grow.alloc _ _ | refine Grow.allocR ?_ _ | refine Grow.setR ?_ _ ?_ ?_ | omega | (simp only [nx_alloc, nx_set] <;> omega) | (apply Grow.trans; rotate_left; assumption) | fail)) | fail) only [note_false, Int.reduceBEq, Int.reduceBNe, x_drawn, l_nil, l_op, l_guard, l_some, l_true, l_false, l_draw, readsA, x_true, x_false, x_seq, x_ops, x_cond, x_skip, x_ret, x_exit, x_block, x_then, x_thenE, x_thenR, x_blockN, x_blockR, x_blockE, s_nil, s_op, s_guard, s_some, s_true, s_false, s_put, s_put0, s_opsR, s_ret, s_norm, aop, ev, evs, List.map_cons, List.map_nil, List.cons_append, List.nil_append, List.append_nil, List.replicate, List.take_succ_cons, List.take_zero, List.take_nil, List.drop_succ_cons, List.drop_zero, List.drop_nil, Nat.zero_add, Nat.add_zero, Nat.reduceAdd, Nat.reduceMul, Nat.reduceLeDiff, Bool.false_eq_true, and_self, List.length_cons, List.length_nil, List.set_cons_zero, List.set_cons_succ, List.getD_cons_zero, List.getD_cons_succ, wantedA, List.getElem?_cons_zero, List.getElem?_cons_succ, q_t, q_f, Bool.not_true, Bool.not_false, b_add, b_sub, b_mul, b_eql, b_neq, b_lss, b_leq, b_gtr, b_geq, b_and, b_or, b_xor, b_quo, b_rem, b_shl, b_shr, unA, Option.map_some, Option.map_none, resA, tupA, Int.reduceLT, not_false_eq_true, not_true_eq_false, decide_true, decide_false, f_bool, c_bool, f_int, c_int, f_str, c_str, f_nilptr, c_nilptr, f_ptr, c_ptr, f_nilsl, c_nilsl, f_slice, c_slice, f_nilmap, c_nilmap, f_map, c_map, f_nilf, c_nilf, f_func, c_func, f_yieldf, c_yieldf, f_nilif, c_nilif, f_iface, c_iface, c_agg, List.all_cons, List.all_nil, Bool.and_true, Bool.true_and, if_true, if_false, ite_true, ite_false, ga_new, ga_old, gs_new, gs_old, Heap.next_alloc, Heap.next_set, loadA, storeA, splice, fillA, d_t, d_f, i_t, i_f, beq_t, beq_f, bne_t, bne_f, w_i64, w_u64, w_u32, w_i32, w_u8, Int.toNat_natCast, n_sub1, n_add1, Nat.sub_zero, Nat.mul_one, Nat.one_mul, Nat.zero_mul, List.append_assoc, Option.bind_some, chkLog, same_cells, List.replicate_zero, List.flatten_nil, true_and, and_true, b_eqB, b_neB, b_eqS, b_neS, Bool.true_beq, Bool.false_beq, kindsOk, k_0, k_1, k_2, plainEq, Bool.bne_true, Bool.bne_false, beq_self_eq_true, bne_self_eq_false, Int.tdiv_eq_ediv_of_nonneg, Int.tmod_eq_emod_of_nonneg, List.length_nil, lives7, hh, hpp, e1, hp1]
      try rfl
  have hok : ∀ m : List Sp, mayP m = true → (decide (s.1 ≤ s.2) && mayP m) = true := fun m hm => by rw [hm, decide_eq_true (by omega)]; rfl
  have ma := add_may s hm
  have mc := cut_may s hm
  have la := add_le s hm
  have lc := cut_le s hm
  obtain ⟨va, h2, e2, g2, m2⟩ := x8 l s (hV.grow g1) (by omega)
  rw [hok l hm, if_pos rfl] at e2 m2
  have hV2 := (hV.grow g1).grow g2
  obtain ⟨vc, h3, e3, g3, m3⟩ := x10 l s hV2 (by omega)
  rw [hok l hm, if_pos rfl] at e3 m3
  have hA3 : SpAt h3 va (addP l s) := m2.rd.grow g3
  have hC3 : SpAt h3 vc (cutP l s) := m3.rd
  have hV3 := hV2.grow g3
  obtain ⟨h4, e4, g4⟩ := x13e (addP l s) hA3 (by omega)
  obtain ⟨h5, e5, g5⟩ := x13e (cutP l s) (hC3.grow g4) (by omega)
  rw [ma] at e4
  rw [mc] at e5
  have g35 := g4.trans g5
  obtain ⟨vd, h6, e6, g6, m6⟩ := x10 (addP l s) s (hA3.grow g35) (by omega)
  rw [hok _ ma, if_pos rfl, cut_add s hm] at m6
  rw [hok _ ma, if_pos rfl] at e6
  have g36 := g35.trans g6
  have hA6 := hA3.grow g36
  have hC6 := hC3.grow g36
  have hV6 := hV3.grow g36
  have hp6 := (((g2.trans g3).trans g36)).get hp1
  have hD6 : SpAt h6 vd (cutP l s) := m6.rd
  obtain ⟨h7, e7, g7⟩ := x15e (addP l s) (at_ := at_) hA6 (by omega)
  rw [ma, add_in s hm, Bool.true_and] at e7
  -- the last part
  have last : ∀ h : Heap, Grow h6 h → ∃ hA hB hC, xcall X1 tab (.fn 12) [vc, vd] h = some (.bool true, h) ∧ xcall X1 tab (.fn 17) [va, .agg [.int .u32 s.1, .int .u32 s.2]] h = some (.bool true, hA) ∧ xcall X1 tab (.fn 19) [va] hA = some (.int .u64 (lenP (addP l s)), hB) ∧ xcall X1 tab (.fn 19) [vc] hB = some (.int .u64 (lenP (cutP l s)), hC) ∧ Grow h hA ∧ Grow hA hB ∧ Grow hB hC := by
    intro h gr
    have e12 := x12 _ _ (hC6.grow gr) (hD6.grow gr) (by omega) (by omega)
    rw [decide_eq_true rfl] at e12
    have e17 := x17 (addP l s) s (hA6.grow gr) (by omega)
    have gg17 := g17 (addP l s) s (hA6.grow gr) (by omega)
    have hho : (decide (s.1 ≤ s.2) && mayP (addP l s) && (holdsG s (addP l s) || emptyP s)) = true := by
      rw [hok _ ma]; exact holds_add hm
    rw [hho] at e17
    obtain ⟨hB, e19, g19⟩ := x19e (addP l s) (spw_add s hm hw u1 u2) ((hA6.grow gr).grow gg17) (by omega)
    rw [ma, if_pos rfl] at e19
    obtain ⟨hC, e19b, g19b⟩ := x19e (cutP l s) (spw_cut s hm hw) (((hC6.grow gr).grow gg17).grow g19) (by omega)
    rw [mc, if_pos rfl] at e19b
    exact ⟨_, hB, hC, e12, e17, e19, e19b, gg17, g19, g19b⟩
  have hlen := add_len (l := l) (s := s) (by omega)
  have hbc := lenP_bound (spw_cut s hm hw) mc (cutP l s).length (Nat.le_refl _)
  rw [List.take_length] at hbc
  have hbl : ((cutP l s).length : Int) ≤ 61 := by omega
  cases hSe : inS s at_
  · rw [hSe, Bool.false_or] at e7
    have hSn := inS_not.1 hSe
    cases hin : inP l at_
    all_goals
      rw [hin] at e7
      obtain ⟨h8, e8, g8⟩ := x15e l (at_ := at_) (hV6.grow g7) (by omega)
      rw [hm, hin] at e8
      obtain ⟨h9, e9, g9⟩ := x15e (cutP l s) (at_ := at_) ((hC6.grow g7).grow g8) (by omega)
      rw [mc, cut_in s hm, hSe, hin] at e9
      obtain ⟨h10, e10, g10⟩ := x15e l (at_ := at_) (((hV6.grow g7).grow g8).grow g9) (by omega)
      rw [hm, hin] at e10
      obtain ⟨hA, hB, hC, f1, f2, f3, f4, f5, f6, f7⟩ := last h10 (((g7.trans g8).trans g9).trans g10)
      have hp9 := (((g7.trans g8).trans g9).trans g10).get hp6
      have hpA := ((((g7.trans g8).trans g9).trans g10).trans f5).get hp6
      have hpB := f6.get hpA
      have hpC := f7.get hpB
      refine ⟨hC, ?_⟩
      rcases hV0.cases with ⟨rfl, rfl⟩ | ⟨id, off, cap, ex, c, ro, rfl, _⟩
      all_goals by_cases hs1 : at_ ≥ s.1 <;> by_cases hs2 : at_ < s.2
      all_goals try (exfalso; omega; done)
      all_goals
        rw [x_fn rfl t4]
        delta b4
        simp (disch := first | omega | (simp only [nx_alloc, nx_set] <;> omega) | (apply Rd.grow; assumption; repeat (first | exact Grow.refl _ | assumption | exact Grow.alloc _ _ | refine Grow.allocR ?_ _ | refine Grow.setR ?_ _ ?_ ?_ | omega | (simp only [nx_alloc, nx_set] <;> omega) | (apply Grow.trans; rotate_left; assumption) | fail)) | fail) only [note_false, Int.reduceBEq, Int.reduceBNe, x_drawn, l_nil, l_op, l_guard, l_some, l_true, l_false, l_draw, readsA, x_true, x_false, x_seq, x_ops, x_cond, x_skip, x_ret, x_exit, x_block, x_then, x_thenE, x_thenR, x_blockN, x_blockR, x_blockE, s_nil, s_op, s_guard, s_some, s_true, s_false, s_put, s_put0, s_opsR, s_ret, s_norm, aop, ev, evs, List.map_cons, List.map_nil, List.cons_append, List.nil_append, List.append_nil, List.replicate, List.take_succ_cons, List.take_zero, List.take_nil, List.drop_succ_cons, List.drop_zero, List.drop_nil, Nat.zero_add, Nat.add_zero, Nat.reduceAdd, Nat.reduceMul, Nat.reduceLeDiff, Bool.false_eq_true, and_self, List.length_cons, List.length_nil, List.set_cons_zero, List.set_cons_succ, List.getD_cons_zero, List.getD_cons_succ, wantedA, List.getElem?_cons_zero, List.getElem?_cons_succ, q_t, q_f, Bool.not_true, Bool.not_false, b_add, b_sub, b_mul, b_eql, b_neq, b_lss, b_leq, b_gtr, b_geq, b_and, b_or, b_xor, b_quo, b_rem, b_shl, b_shr, unA, Option.map_some, Option.map_none, resA, tupA, Int.reduceLT, not_false_eq_true, not_true_eq_false, decide_true, decide_false, f_bool, c_bool, f_int, c_int, f_str, c_str, f_nilptr, c_nilptr, f_ptr, c_ptr, f_nilsl, c_nilsl, f_slice, c_slice, f_nilmap, c_nilmap, f_map, c_map, f_nilf, c_nilf, f_func, c_func, f_yieldf, c_yieldf, f_nilif, c_nilif, f_iface, c_iface, c_agg, List.all_cons, List.all_nil, Bool.and_true, Bool.true_and, if_true, if_false, ite_true, ite_false, ga_new, ga_old, gs_new, gs_old, Heap.next_alloc, Heap.next_set, loadA, storeA, splice, fillA, d_t, d_f, i_t, i_f, beq_t, beq_f, bne_t, bne_f, w_i64, w_u64, w_u32, w_i32, w_u8, Int.toNat_natCast, n_sub1, n_add1, Nat.sub_zero, Nat.mul_one, Nat.one_mul, Nat.zero_mul, List.append_assoc, Option.bind_some, chkLog, same_cells, List.replicate_zero, List.flatten_nil, true_and, and_true, b_eqB, b_neB, b_eqS, b_neS, Bool.true_beq, Bool.false_beq, kindsOk, k_0, k_1, k_2, plainEq, Bool.bne_true, Bool.bne_false, beq_self_eq_true, bne_self_eq_false, Int.tdiv_eq_ediv_of_nonneg, Int.tmod_eq_emod_of_nonneg, List.length_nil, lives7, hh, hpp, e1, hp1, e2, e3, e4, e5, e6, e7, e8, e9, e10, f1, f2, f3, f4, hp6, hp9, hpA, hpB, hpC, hlen, (g2.get hp1), ((g2.trans g3).get hp1), (((g2.trans g3).trans g35).get hp1), Bool.true_or, Bool.or_true, Bool.or_false, Bool.false_or, Bool.and_false, Bool.false_and]
        try rfl
  · rw [hSe, Bool.true_or] at e7
    have hSn := inS_iff.1 hSe
    cases hin : inP l at_
    all_goals
      obtain ⟨h8, e8, g8⟩ := x15e (cutP l s) (at_ := at_) (hC6.grow g7) (by omega)
      rw [mc, cut_in s hm, hSe, hin] at e8
      obtain ⟨hA, hB, hC, f1, f2, f3, f4, f5, f6, f7⟩ := last h8 (g7.trans g8)
      have hp9 := (g7.trans g8).get hp6
      have hpA := ((g7.trans g8).trans f5).get hp6
      have hpB := f6.get hpA
      have hpC := f7.get hpB
      refine ⟨hC, ?_⟩
      rcases hV0.cases with ⟨rfl, rfl⟩ | ⟨id, off, cap, ex, c, ro, rfl, _⟩
      all_goals by_cases hs1 : at_ ≥ s.1 <;> by_cases hs2 : at_ < s.2
      all_goals try (exfalso; omega; done)
      all_goals
        rw [x_fn rfl t4]
        delta b4
        simp (disch := first | omega | (simp only [nx_alloc, nx_set] <;> omega) | (apply Rd.grow; assumption; repeat (first | exact Grow.refl _ | assumption | exact Grow.alloc _ _ | refine Grow.allocR ?_ _ | refine Grow.setR ?_ _ ?_ ?_ | omega | (simp only [nx_alloc, nx_set] <;> omega) | (apply Grow.trans; rotate_left; assumption) | fail)) | fail) only [note_false, Int.reduceBEq, Int.reduceBNe, x_drawn, l_nil, l_op, l_guard, l_some, l_true, l_false, l_draw, readsA, x_true, x_false, x_seq, x_ops, x_cond, x_skip, x_ret, x_exit, x_block, x_then, x_thenE, x_thenR, x_blockN, x_blockR, x_blockE, s_nil, s_op, s_guard, s_some, s_true, s_false, s_put, s_put0, s_opsR, s_ret, s_norm, aop, ev, evs, List.map_cons, List.map_nil, List.cons_append, List.nil_append, List.append_nil, List.replicate, List.take_succ_cons, List.take_zero, List.take_nil, List.drop_succ_cons, List.drop_zero, List.drop_nil, Nat.zero_add, Nat.add_zero, Nat.reduceAdd, Nat.reduceMul, Nat.reduceLeDiff, Bool.false_eq_true, and_self, List.length_cons, List.length_nil, List.set_cons_zero, List.set_cons_succ, List.getD_cons_zero, List.getD_cons_succ, wantedA, List.getElem?_cons_zero, List.getElem?_cons_succ, q_t, q_f, Bool.not_true, Bool.not_false, b_add, b_sub, b_mul, b_eql, b_neq, b_lss, b_leq, b_gtr, b_geq, b_and, b_or, b_xor, b_quo, b_rem, b_shl, b_shr, unA, Option.map_some, Option.map_none, resA, tupA, Int.reduceLT, not_false_eq_true, not_true_eq_false, decide_true, decide_false, f_bool, c_bool, f_int, c_int, f_str, c_str, f_nilptr, c_nilptr, f_ptr, c_ptr, f_nilsl, c_nilsl, f_slice, c_slice, f_nilmap, c_nilmap, f_map, c_map, f_nilf, c_nilf, f_func, c_func, f_yieldf, c_yieldf, f_nilif, c_nilif, f_iface, c_iface, c_agg, List.all_cons, List.all_nil, Bool.and_true, Bool.true_and, if_true, if_false, ite_true, ite_false, ga_new, ga_old, gs_new, gs_old, Heap.next_alloc, Heap.next_set, loadA, storeA, splice, fillA, d_t, d_f, i_t, i_f, beq_t, beq_f, bne_t, bne_f, w_i64, w_u64, w_u32, w_i32, w_u8, Int.toNat_natCast, n_sub1, n_add1, Nat.sub_zero, Nat.mul_one, Nat.one_mul, Nat.zero_mul, List.append_assoc, Option.bind_some, chkLog, same_cells, List.replicate_zero, List.flatten_nil, true_and, and_true, b_eqB, b_neB, b_eqS, b_neS, Bool.true_beq, Bool.false_beq, kindsOk, k_0, k_1, k_2, plainEq, Bool.bne_true, Bool.bne_false, beq_self_eq_true, bne_self_eq_false, Int.tdiv_eq_ediv_of_nonneg, Int.tmod_eq_emod_of_nonneg, List.length_nil, lives7, hh, hpp, e1, hp1, e2, e3, e4, e5, e6, e7, e8, f1, f2, f3, f4, hp6, hp9, hpA, hpB, hpC, hlen, (g2.get hp1), ((g2.trans g3).get hp1), (((g2.trans g3).trans g35).get hp1), Bool.true_or, Bool.or_true, Bool.or_false, Bool.false_or, Bool.and_false, Bool.false_and]
        try rfl
theorem run4 (M : Nat) : ∀ h xs, argsT Try.prog M h 5 Try.f4.params.toList xs → argsX Try.prog M 5 Try.f4.params.toList emptyHeap xs h →
    ∃ n h', acall X1 tab n (.fn 4) xs h = some (.bool true, h') ∨ (AV.bares xs = true ∧ acall X1 tab n (.fn 4) xs emptyHeap = some (.bool true, h')) := by
  intro h xs _ hx
  rw [Try.params4] at hx
  obtain ⟨a, _, h1, rfl, ha, hx⟩ := argsX_cons hx
  obtain ⟨b, _, h2, rfl, hb, hx⟩ := argsX_cons hx
  obtain ⟨c, _, h3, rfl, hc, hx⟩ := argsX_cons hx
  obtain ⟨rfl, rfl⟩ := argsX_nil hx
  obtain ⟨l, hV, hw, _⟩ := arg_spans ha
  obtain ⟨s, rfl, w1, w2, rfl⟩ := arg_span hb
  obtain ⟨n, rfl, w3, rfl⟩ := arg_u32 hc
  obtain ⟨h', e⟩ := go4 l s n hV hw w1 w2
  exact ranX e
end Go.Proofs.Ytplbampjponnpaa.Ya

