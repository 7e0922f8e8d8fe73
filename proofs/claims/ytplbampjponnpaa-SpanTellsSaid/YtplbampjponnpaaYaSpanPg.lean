/-
  Spans: pages.
-/
import Derived.Test.YtplbampjponnpaaYaSpanScan3
namespace Go.Proofs.Ytplbampjponnpaa.Ya
open Go.Ya Go.Ya.Span
set_option linter.unusedVariables false
set_option linter.unusedSimpArgs false
set_option maxRecDepth 100000
set_option maxHeartbeats 8000000

def pgN (s : Sp) : Nat := ((s.2 + 63) / 64 - s.1 / 64).toNat
def pgs (s : Sp) (k : Nat) : List Int := (List.range k).map fun j : Nat => s.1 / 64 + (j : Int)
def pagesP (s : Sp) : List Int := if s.1 ≥ s.2 ∨ s.2 > 4096 then [] else pgs s (pgN s)
theorem pgs_len (s : Sp) (k : Nat) : (pgs s k).length = k := by simp [pgs]
theorem pgs_succ (s : Sp) (k : Nat) : pgs s (k + 1) = pgs s k ++ [s.1 / 64 + (k : Int)] := by simp [pgs, List.range_succ]
theorem pgs_get (s : Sp) {k i : Nat} (hi : i < k) : (pgs s k).getD i 0 = s.1 / 64 + (i : Int) := by simp [pgs, List.getD_eq_getElem?_getD, hi]
def L22_0 : SC := (.seq (.seq (.ops [⟨some 15, .mov (.t 4), none⟩, ⟨some 16, .bin (.mul) (.other) (.t 15) (.c (.int (.u32) 64)), none⟩, ⟨some 17, .fieldAddr 1 (.t 1), none⟩, ⟨some 18, .load false 1 (.t 17), none⟩, ⟨some 19, .bin (.lss) (.other) (.t 16) (.t 18), none⟩]) (.cond (.t 19) (.skip) (.exit 0))) (.seq (.block 1 (.ops [⟨some 22, .mov (.t 3), none⟩, ⟨some 23, .mov (.t 4), none⟩, ⟨some 24, .buildSlice [.int (.u32) 0] 1 1 [(0, 1, .t 23)], none⟩, ⟨some 25, .append 1 4 (.t 22) (.t 24), none⟩, ⟨some 3, .mov (.t 25), none⟩])) (.ops [⟨some 20, .mov (.t 4), none⟩, ⟨some 21, .bin (.add) (.other) (.t 20) (.c (.int (.u32) 1)), none⟩, ⟨some 4, .mov (.t 21), none⟩])))
def b22 : SC := .seq (.ops [⟨some 1, .box (.t 0), none⟩, ⟨some 2, .mov (.c (.nilsl)), none⟩]) (.seq (.seq (.ops [⟨some 5, .load true 2 (.t 1), none⟩, ⟨some 6, .call 30 [.t 5], none⟩, ⟨some 7, .mov (.t 6), none⟩, ⟨some 8, .fieldAddr 1 (.t 1), some (7, false)⟩, ⟨some 9, .load false 1 (.t 8), some (7, false)⟩, ⟨some 10, .bin (.gtr) (.other) (.t 9) (.c (.int (.u32) 4096)), some (7, false)⟩, ⟨some 11, .pick (.t 7) (.c (.bool true)) (.t 10), none⟩]) (.cond (.t 11) (.seq (.ops [⟨some 2, .mov (.c (.nilsl)), none⟩]) (.ret)) (.skip))) (.seq (.ops [⟨some 3, .mov (.c (.nilsl)), none⟩]) (.seq (.seq (.ops [⟨some 12, .fieldAddr 0 (.t 1), none⟩, ⟨some 13, .load false 1 (.t 12), none⟩, ⟨some 14, .bin (.quo) (.other) (.t 13) (.c (.int (.u32) 64)), none⟩, ⟨some 4, .mov (.t 14), none⟩]) (.block 0 (.loop L22_0))) (.seq (.ops [⟨some 26, .mov (.t 3), none⟩, ⟨some 2, .mov (.t 26), none⟩]) (.ret)))))
theorem t22 : tab 22 = some ⟨27, [.tmp 2], b22⟩ := rfl
def Sh22 (p : Nat) (sl : AV) (n : Int) (tm : List AV) : Prop := tm.length = 27 ∧ tm[1]? = some (.ptr p 0) ∧ tm[3]? = some (sl) ∧ tm[4]? = some (.int .u32 n)
theorem round22 {g h : Heap} {p : Nat} {sl : AV} {n : Int} {s : Sp} {i : Nat} (hp : g.get p = some (.cells [.int .u32 s.1, .int .u32 s.2] false)) (h1 : 0 ≤ s.1) (h2 : s.1 < s.2) (h3 : s.2 ≤ 4096) {tm : List AV} (ht : Sh22 p sl n tm) (gr : Grow g h) (om : Mine 1 g.next h sl ((pgs s i).map inA)) (hn : n = s.1 / 64 + i) (hi : i < pgN s) :
    ∃ tm' sl' h', xcode X1 tab 22 none (.loop L22_0) tm h = xcode X1 tab 22 none (.loop L22_0) tm' h' ∧ Sh22 p sl' (n + 1) tm' ∧ Grow g h' ∧ Mine 1 g.next h' sl' ((pgs s (i + 1)).map inA) := by
  have hi2 : (i : Int) < (s.2 + 63) / 64 - s.1 / 64 := by unfold pgN at hi; omega
  have hp2 := gr.get hp
  have hpl := Heap.lt_of_get hp2
  obtain ⟨sl', h', e1, m', g', f', _, _⟩ := om.push (bytes := 4) gr (Nat.le_refl _) gr.1 (inA n) false rfl true (by rw [List.length_map, pgs_len]; omega)
  delta inA at e1
  match tm, ht with
  | a0 :: a1 :: a2 :: a3 :: a4 :: a5 :: a6 :: a7 :: a8 :: a9 :: a10 :: a11 :: a12 :: a13 :: a14 :: a15 :: a16 :: a17 :: a18 :: a19 :: a20 :: a21 :: a22 :: a23 :: a24 :: a25 :: a26 :: [], ht =>
  obtain ⟨_, t1, t3, t4⟩ := ht
  simp only [List.getElem?_cons_zero, List.getElem?_cons_succ, Option.some.injEq] at t1 t3 t4
  replace t1 := t1.symm; replace t3 := t3.symm; replace t4 := t4.symm
  subst t1 t3 t4
  refine ⟨?_, sl', h', ?_, ?_, g', by rw [pgs_succ, List.map_append, ← hn]; exact m'⟩
  rotate_left
  · rw [show ∀ tm h, xcode X1 tab 22 none (.loop L22_0) tm h = thenX X1 tab 22 none (.loop L22_0) (xcode X1 tab 22 none L22_0 tm h) from fun _ _ => x_loop]
    delta L22_0
    simp (disch := first | omega | (simp only [nx_alloc, nx_set] <;> omega) | (apply Rd.grow; assumption; repeat (first | exact Grow.refl _ | assumption | exact Grow.alloc _ _ | refine Grow.allocR ?_ _ | refine Grow.setR ?_ _ ?_ ?_ | omega | (simp only [nx_alloc, nx_set] <;> omega) | (apply Grow.trans; rotate_left; assumption) | fail)) | fail) only [note_false, Int.reduceBEq, Int.reduceBNe, x_drawn, l_nil, l_op, l_guard, l_some, l_true, l_false, l_draw, readsA, x_true, x_false, x_seq, x_ops, x_cond, x_skip, x_ret, x_exit, x_block, x_then, x_thenE, x_thenR, x_blockN, x_blockR, x_blockE, s_nil, s_op, s_guard, s_some, s_true, s_false, s_put, s_put0, s_opsR, s_ret, s_norm, aop, ev, evs, List.map_cons, List.map_nil, List.cons_append, List.nil_append, List.append_nil, List.replicate, List.take_succ_cons, List.take_zero, List.take_nil, List.drop_succ_cons, List.drop_zero, List.drop_nil, Nat.zero_add, Nat.add_zero, Nat.reduceAdd, Nat.reduceMul, Nat.reduceLeDiff, Bool.false_eq_true, and_self, List.length_cons, List.length_nil, List.set_cons_zero, List.set_cons_succ, List.getD_cons_zero, List.getD_cons_succ, wantedA, List.getElem?_cons_zero, List.getElem?_cons_succ, q_t, q_f, Bool.not_true, Bool.not_false, b_add, b_sub, b_mul, b_eql, b_neq, b_lss, b_leq, b_gtr, b_geq, b_and, b_or, b_xor, b_quo, b_rem, b_shl, b_shr, unA, Option.map_some, Option.map_none, resA, tupA, Int.reduceLT, not_false_eq_true, not_true_eq_false, decide_true, decide_false, f_bool, c_bool, f_int, c_int, f_str, c_str, f_nilptr, c_nilptr, f_ptr, c_ptr, f_nilsl, c_nilsl, f_slice, c_slice, f_nilmap, c_nilmap, f_map, c_map, f_nilf, c_nilf, f_func, c_func, f_yieldf, c_yieldf, f_nilif, c_nilif, f_iface, c_iface, c_agg, List.all_cons, List.all_nil, Bool.and_true, Bool.true_and, if_true, if_false, ite_true, ite_false, ga_new, ga_old, gs_new, gs_old, Heap.next_alloc, Heap.next_set, loadA, storeA, splice, fillA, d_t, d_f, i_t, i_f, beq_t, beq_f, bne_t, bne_f, w_i64, w_u64, w_u32, w_i32, w_u8, Int.toNat_natCast, n_sub1, n_add1, Nat.sub_zero, Nat.mul_one, Nat.one_mul, Nat.zero_mul, List.append_assoc, Option.bind_some, chkLog, same_cells, List.replicate_zero, List.flatten_nil, true_and, and_true, b_eqB, b_neB, b_eqS, b_neS, Bool.true_beq, Bool.false_beq, kindsOk, k_0, k_1, k_2, plainEq, Bool.bne_true, Bool.bne_false, beq_self_eq_true, bne_self_eq_false, Int.tdiv_eq_ediv_of_nonneg, Int.tmod_eq_emod_of_nonneg, List.length_nil, hp2, e1]
    rfl
  · exact ⟨rfl, rfl, rfl, rfl⟩
theorem end22 {g h : Heap} {p : Nat} {sl : AV} {n : Int} {s : Sp} {i : Nat} (hp : g.get p = some (.cells [.int .u32 s.1, .int .u32 s.2] false)) (h1 : 0 ≤ s.1) (h2 : s.1 < s.2) (h3 : s.2 ≤ 4096) {tm : List AV} (ht : Sh22 p sl n tm) (gr : Grow g h) (hn : n = s.1 / 64 + i) (hi : i = pgN s) : ∃ tm', xcode X1 tab 22 none (.loop L22_0) tm h = some (.exit 0, tm', h) ∧ Sh22 p sl n tm' := by
  have hi2 : (i : Int) = (s.2 + 63) / 64 - s.1 / 64 := by unfold pgN at hi; omega
  have hp2 := gr.get hp
  have hpl := Heap.lt_of_get hp2
  match tm, ht with
  | a0 :: a1 :: a2 :: a3 :: a4 :: a5 :: a6 :: a7 :: a8 :: a9 :: a10 :: a11 :: a12 :: a13 :: a14 :: a15 :: a16 :: a17 :: a18 :: a19 :: a20 :: a21 :: a22 :: a23 :: a24 :: a25 :: a26 :: [], ht =>
  obtain ⟨_, t1, t3, t4⟩ := ht
  simp only [List.getElem?_cons_zero, List.getElem?_cons_succ, Option.some.injEq] at t1 t3 t4
  replace t1 := t1.symm; replace t3 := t3.symm; replace t4 := t4.symm
  subst t1 t3 t4
  refine ⟨?_, ?_, ?_⟩
  rotate_left
  · rw [show ∀ tm h, xcode X1 tab 22 none (.loop L22_0) tm h = thenX X1 tab 22 none (.loop L22_0) (xcode X1 tab 22 none L22_0 tm h) from fun _ _ => x_loop]
    delta L22_0
    simp (disch := first | omega | (simp only [nx_alloc, nx_set] <;> omega) | (apply Rd.grow; assumption; repeat (first | exact Grow.refl _ | assumption | exact Grow.alloc _ _ | refine Grow.allocR ?_ _ | refine Grow.setR ?_ _ ?_ ?_ | omega | (simp only [nx_alloc, nx_set] <;> omega) | (apply Grow.trans; rotate_left; assumption) | fail)) | fail) only [note_false, Int.reduceBEq, Int.reduceBNe, x_drawn, l_nil, l_op, l_guard, l_some, l_true, l_false, l_draw, readsA, x_true, x_false, x_seq, x_ops, x_cond, x_skip, x_ret, x_exit, x_block, x_then, x_thenE, x_thenR, x_blockN, x_blockR, x_blockE, s_nil, s_op, s_guard, s_some, s_true, s_false, s_put, s_put0, s_opsR, s_ret, s_norm, aop, ev, evs, List.map_cons, List.map_nil, List.cons_append, List.nil_append, List.append_nil, List.replicate, List.take_succ_cons, List.take_zero, List.take_nil, List.drop_succ_cons, List.drop_zero, List.drop_nil, Nat.zero_add, Nat.add_zero, Nat.reduceAdd, Nat.reduceMul, Nat.reduceLeDiff, Bool.false_eq_true, and_self, List.length_cons, List.length_nil, List.set_cons_zero, List.set_cons_succ, List.getD_cons_zero, List.getD_cons_succ, wantedA, List.getElem?_cons_zero, List.getElem?_cons_succ, q_t, q_f, Bool.not_true, Bool.not_false, b_add, b_sub, b_mul, b_eql, b_neq, b_lss, b_leq, b_gtr, b_geq, b_and, b_or, b_xor, b_quo, b_rem, b_shl, b_shr, unA, Option.map_some, Option.map_none, resA, tupA, Int.reduceLT, not_false_eq_true, not_true_eq_false, decide_true, decide_false, f_bool, c_bool, f_int, c_int, f_str, c_str, f_nilptr, c_nilptr, f_ptr, c_ptr, f_nilsl, c_nilsl, f_slice, c_slice, f_nilmap, c_nilmap, f_map, c_map, f_nilf, c_nilf, f_func, c_func, f_yieldf, c_yieldf, f_nilif, c_nilif, f_iface, c_iface, c_agg, List.all_cons, List.all_nil, Bool.and_true, Bool.true_and, if_true, if_false, ite_true, ite_false, ga_new, ga_old, gs_new, gs_old, Heap.next_alloc, Heap.next_set, loadA, storeA, splice, fillA, d_t, d_f, i_t, i_f, beq_t, beq_f, bne_t, bne_f, w_i64, w_u64, w_u32, w_i32, w_u8, Int.toNat_natCast, n_sub1, n_add1, Nat.sub_zero, Nat.mul_one, Nat.one_mul, Nat.zero_mul, List.append_assoc, Option.bind_some, chkLog, same_cells, List.replicate_zero, List.flatten_nil, true_and, and_true, b_eqB, b_neB, b_eqS, b_neS, Bool.true_beq, Bool.false_beq, kindsOk, k_0, k_1, k_2, plainEq, Bool.bne_true, Bool.bne_false, beq_self_eq_true, bne_self_eq_false, Int.tdiv_eq_ediv_of_nonneg, Int.tmod_eq_emod_of_nonneg, List.length_nil, hp2]
    rfl
  · exact ⟨rfl, rfl, rfl, rfl⟩
theorem loop22 {g : Heap} {p : Nat} {s : Sp} (hp : g.get p = some (.cells [.int .u32 s.1, .int .u32 s.2] false)) (h1 : 0 ≤ s.1) (h2 : s.1 < s.2) (h3 : s.2 ≤ 4096) {tm : List AV} (ht : Sh22 p .nilsl (s.1 / 64) tm) :
    ∃ tm' sl h' n, xcode X1 tab 22 none (.loop L22_0) tm g = some (.exit 0, tm', h') ∧ Sh22 p sl n tm' ∧ Grow g h' ∧ Mine 1 g.next h' sl ((pgs s (pgN s)).map inA) := by
  obtain ⟨e, tm', h', q1, rfl, sl, n, q2⟩ := loop_ind (X := X1) (SP := tab) (self := 22) (rd := none) (L := L22_0) (n := pgN s) (fun i tm h => ∃ sl n, Sh22 p sl n tm ∧ Grow g h ∧ Mine 1 g.next h sl ((pgs s i).map inA) ∧ n = s.1 / 64 + i)
    (fun e tm' h' => e = .exit 0 ∧ ∃ sl n, Sh22 p sl n tm' ∧ Grow g h' ∧ Mine 1 g.next h' sl ((pgs s (pgN s)).map inA))
    (fun i tm h hi ⟨sl, n, a1, a2, a3, a4⟩ => by
      obtain ⟨tm', sl', h', e1, e2, e3, e4⟩ := round22 hp h1 h2 h3 a1 a2 a3 a4 hi
      exact .inr ⟨tm', h', e1, sl', n + 1, e2, e3, e4, by omega⟩)
    (fun tm h ⟨sl, n, a1, a2, a3, a4⟩ => by
      obtain ⟨tm', e1, e2⟩ := end22 hp h1 h2 h3 a1 a2 a4 rfl
      exact ⟨_, tm', h, e1, rfl, sl, n, e2, a2, a3⟩) 0 tm g (Nat.zero_le _) ⟨.nilsl, s.1 / 64, ht, Grow.refl _, Mine.nil _ _ _, by simp⟩
  exact ⟨tm', sl, h', n, q1, q2⟩
theorem x22 (s : Sp) (h : Heap) (h1 : 0 ≤ s.1) (hs2 : s.2 ≤ 4294967295) : ∃ v h', xcall X1 tab (.fn 22) [.agg [.int .u32 s.1, .int .u32 s.2]] h = some (v, h') ∧ Grow h h' ∧ Mine 1 h.next h' v ((pagesP s).map inA) := by
  have ga := Grow.alloc h (.cells [.int .u32 s.1, .int .u32 s.2] false)
  have hp := ga_new (h := h) (o := .cells [.int .u32 s.1, .int .u32 s.2] false) rfl
  by_cases hc : s.1 ≥ s.2 ∨ s.2 > 4096
  · have e : pagesP s = [] := if_pos hc
    rw [e]
    refine ⟨.nilsl, ?_, ?_, ?_, Mine.nil _ _ _⟩
    rotate_left
    · rw [x_fn rfl t22]
      delta b22
      by_cases hc2 : s.1 ≥ s.2
      · simp (disch := first | omega | (simp only [nx_alloc, nx_set] <;> omega) | (apply Rd.grow; assumption; repeat (first | exact Grow.refl _ | assumption | exact Grow.alloc _ _ | refine Grow.allocR ?_ _ | refine Grow.setR ?_ _ ?_ ?_ | omega | (simp only [nx_alloc, nx_set] <;> omega) | (apply Grow.trans; rotate_left; assumption) | fail)) | fail) only [note_false, Int.reduceBEq, Int.reduceBNe, x_drawn, l_nil, l_op, l_guard, l_some, l_true, l_false, l_draw, readsA, x_true, x_false, x_seq, x_ops, x_cond, x_skip, x_ret, x_exit, x_block, x_then, x_thenE, x_thenR, x_blockN, x_blockR, x_blockE, s_nil, s_op, s_guard, s_some, s_true, s_false, s_put, s_put0, s_opsR, s_ret, s_norm, aop, ev, evs, List.map_cons, List.map_nil, List.cons_append, List.nil_append, List.append_nil, List.replicate, List.take_succ_cons, List.take_zero, List.take_nil, List.drop_succ_cons, List.drop_zero, List.drop_nil, Nat.zero_add, Nat.add_zero, Nat.reduceAdd, Nat.reduceMul, Nat.reduceLeDiff, Bool.false_eq_true, and_self, List.length_cons, List.length_nil, List.set_cons_zero, List.set_cons_succ, List.getD_cons_zero, List.getD_cons_succ, wantedA, List.getElem?_cons_zero, List.getElem?_cons_succ, q_t, q_f, Bool.not_true, Bool.not_false, b_add, b_sub, b_mul, b_eql, b_neq, b_lss, b_leq, b_gtr, b_geq, b_and, b_or, b_xor, b_quo, b_rem, b_shl, b_shr, unA, Option.map_some, Option.map_none, resA, tupA, Int.reduceLT, not_false_eq_true, not_true_eq_false, decide_true, decide_false, f_bool, c_bool, f_int, c_int, f_str, c_str, f_nilptr, c_nilptr, f_ptr, c_ptr, f_nilsl, c_nilsl, f_slice, c_slice, f_nilmap, c_nilmap, f_map, c_map, f_nilf, c_nilf, f_func, c_func, f_yieldf, c_yieldf, f_nilif, c_nilif, f_iface, c_iface, c_agg, List.all_cons, List.all_nil, Bool.and_true, Bool.true_and, if_true, if_false, ite_true, ite_false, ga_new, ga_old, gs_new, gs_old, Heap.next_alloc, Heap.next_set, loadA, storeA, splice, fillA, d_t, d_f, i_t, i_f, beq_t, beq_f, bne_t, bne_f, w_i64, w_u64, w_u32, w_i32, w_u8, Int.toNat_natCast, n_sub1, n_add1, Nat.sub_zero, Nat.mul_one, Nat.one_mul, Nat.zero_mul, List.append_assoc, Option.bind_some, chkLog, same_cells, List.replicate_zero, List.flatten_nil, true_and, and_true, b_eqB, b_neB, b_eqS, b_neS, Bool.true_beq, Bool.false_beq, kindsOk, k_0, k_1, k_2, plainEq, Bool.bne_true, Bool.bne_false, beq_self_eq_true, bne_self_eq_false, Int.tdiv_eq_ediv_of_nonneg, Int.tmod_eq_emod_of_nonneg, List.length_nil, x30p s.1 s.2]
        try rfl
      · simp (disch := first | omega | (simp only [nx_alloc, nx_set] <;> omega) | (apply Rd.grow; assumption; repeat (first | exact Grow.refl _ | assumption | exact Grow.alloc _ _ | refine Grow.allocR ?_ _ | refine Grow.setR ?_ _ ?_ ?_ | omega | (simp only [nx_alloc, nx_set] <;> omega) | (apply Grow.trans; rotate_left; assumption) | fail)) | fail) only [note_false, Int.reduceBEq, Int.reduceBNe, x_drawn, l_nil, l_op, l_guard, l_some, l_true, l_false, l_draw, readsA, x_true, x_false, x_seq, x_ops, x_cond, x_skip, x_ret, x_exit, x_block, x_then, x_thenE, x_thenR, x_blockN, x_blockR, x_blockE, s_nil, s_op, s_guard, s_some, s_true, s_false, s_put, s_put0, s_opsR, s_ret, s_norm, aop, ev, evs, List.map_cons, List.map_nil, List.cons_append, List.nil_append, List.append_nil, List.replicate, List.take_succ_cons, List.take_zero, List.take_nil, List.drop_succ_cons, List.drop_zero, List.drop_nil, Nat.zero_add, Nat.add_zero, Nat.reduceAdd, Nat.reduceMul, Nat.reduceLeDiff, Bool.false_eq_true, and_self, List.length_cons, List.length_nil, List.set_cons_zero, List.set_cons_succ, List.getD_cons_zero, List.getD_cons_succ, wantedA, List.getElem?_cons_zero, List.getElem?_cons_succ, q_t, q_f, Bool.not_true, Bool.not_false, b_add, b_sub, b_mul, b_eql, b_neq, b_lss, b_leq, b_gtr, b_geq, b_and, b_or, b_xor, b_quo, b_rem, b_shl, b_shr, unA, Option.map_some, Option.map_none, resA, tupA, Int.reduceLT, not_false_eq_true, not_true_eq_false, decide_true, decide_false, f_bool, c_bool, f_int, c_int, f_str, c_str, f_nilptr, c_nilptr, f_ptr, c_ptr, f_nilsl, c_nilsl, f_slice, c_slice, f_nilmap, c_nilmap, f_map, c_map, f_nilf, c_nilf, f_func, c_func, f_yieldf, c_yieldf, f_nilif, c_nilif, f_iface, c_iface, c_agg, List.all_cons, List.all_nil, Bool.and_true, Bool.true_and, if_true, if_false, ite_true, ite_false, ga_new, ga_old, gs_new, gs_old, Heap.next_alloc, Heap.next_set, loadA, storeA, splice, fillA, d_t, d_f, i_t, i_f, beq_t, beq_f, bne_t, bne_f, w_i64, w_u64, w_u32, w_i32, w_u8, Int.toNat_natCast, n_sub1, n_add1, Nat.sub_zero, Nat.mul_one, Nat.one_mul, Nat.zero_mul, List.append_assoc, Option.bind_some, chkLog, same_cells, List.replicate_zero, List.flatten_nil, true_and, and_true, b_eqB, b_neB, b_eqS, b_neS, Bool.true_beq, Bool.false_beq, kindsOk, k_0, k_1, k_2, plainEq, Bool.bne_true, Bool.bne_false, beq_self_eq_true, bne_self_eq_false, Int.tdiv_eq_ediv_of_nonneg, Int.tmod_eq_emod_of_nonneg, List.length_nil, x30p s.1 s.2]
        try rfl
    · exact ga.trans (Grow.alloc _ _)
  · have e : pagesP s = pgs s (pgN s) := if_neg hc
    rw [e]
    have hp2 := (Grow.alloc (h.alloc (.cells [.int .u32 s.1, .int .u32 s.2] false)) (.cells [.int .u32 s.1, .int .u32 s.2] false)).get hp
    have hT : Sh22 h.next .nilsl (s.1 / 64) [.agg [.int .u32 s.1, .int .u32 s.2], .ptr h.next 0, .nilsl, .nilsl, .int .u32 (s.1 / 64), .agg [.int .u32 s.1, .int .u32 s.2], .bool false, .bool false, .ptr h.next 1, .int .u32 s.2, .bool false, .bool false, .ptr h.next 0, .int .u32 s.1, .int .u32 (s.1 / 64), undefA, undefA, undefA, undefA, undefA, undefA, undefA, undefA, undefA, undefA, undefA, undefA] := ⟨rfl, rfl, rfl, rfl⟩
    obtain ⟨tm', sl, h', n, e1, ht, g1, m1⟩ := loop22 hp2 h1 (by omega) (by omega) hT
    match tm', ht with
    | a0 :: a1 :: a2 :: a3 :: a4 :: a5 :: a6 :: a7 :: a8 :: a9 :: a10 :: a11 :: a12 :: a13 :: a14 :: a15 :: a16 :: a17 :: a18 :: a19 :: a20 :: a21 :: a22 :: a23 :: a24 :: a25 :: a26 :: [], ht =>
    obtain ⟨_, t1, t3, t4⟩ := ht
    simp only [List.getElem?_cons_zero, List.getElem?_cons_succ, Option.some.injEq] at t1 t3 t4
    replace t1 := t1.symm; replace t3 := t3.symm; replace t4 := t4.symm
    subst t1 t3 t4
    refine ⟨sl, h', ?_, ?_, m1.le (by simp; omega)⟩
    · rw [x_fn rfl t22]
      delta b22
      simp (disch := first | omega | (simp only [nx_alloc, nx_set] <;> omega) | (apply Rd.grow; assumption; repeat (first | exact Grow.refl _ | assumption | exact Grow.alloc _ _ | refine Grow.allocR ?_ _ | refine Grow.setR ?_ _ ?_ ?_ | omega | (simp only [nx_alloc, nx_set] <;> omega) | (apply Grow.trans; rotate_left; assumption) | fail)) | fail) only [note_false, Int.reduceBEq, Int.reduceBNe, x_drawn, l_nil, l_op, l_guard, l_some, l_true, l_false, l_draw, readsA, x_true, x_false, x_seq, x_ops, x_cond, x_skip, x_ret, x_exit, x_block, x_then, x_thenE, x_thenR, x_blockN, x_blockR, x_blockE, s_nil, s_op, s_guard, s_some, s_true, s_false, s_put, s_put0, s_opsR, s_ret, s_norm, aop, ev, evs, List.map_cons, List.map_nil, List.cons_append, List.nil_append, List.append_nil, List.replicate, List.take_succ_cons, List.take_zero, List.take_nil, List.drop_succ_cons, List.drop_zero, List.drop_nil, Nat.zero_add, Nat.add_zero, Nat.reduceAdd, Nat.reduceMul, Nat.reduceLeDiff, Bool.false_eq_true, and_self, List.length_cons, List.length_nil, List.set_cons_zero, List.set_cons_succ, List.getD_cons_zero, List.getD_cons_succ, wantedA, List.getElem?_cons_zero, List.getElem?_cons_succ, q_t, q_f, Bool.not_true, Bool.not_false, b_add, b_sub, b_mul, b_eql, b_neq, b_lss, b_leq, b_gtr, b_geq, b_and, b_or, b_xor, b_quo, b_rem, b_shl, b_shr, unA, Option.map_some, Option.map_none, resA, tupA, Int.reduceLT, not_false_eq_true, not_true_eq_false, decide_true, decide_false, f_bool, c_bool, f_int, c_int, f_str, c_str, f_nilptr, c_nilptr, f_ptr, c_ptr, f_nilsl, c_nilsl, f_slice, c_slice, f_nilmap, c_nilmap, f_map, c_map, f_nilf, c_nilf, f_func, c_func, f_yieldf, c_yieldf, f_nilif, c_nilif, f_iface, c_iface, c_agg, List.all_cons, List.all_nil, Bool.and_true, Bool.true_and, if_true, if_false, ite_true, ite_false, ga_new, ga_old, gs_new, gs_old, Heap.next_alloc, Heap.next_set, loadA, storeA, splice, fillA, d_t, d_f, i_t, i_f, beq_t, beq_f, bne_t, bne_f, w_i64, w_u64, w_u32, w_i32, w_u8, Int.toNat_natCast, n_sub1, n_add1, Nat.sub_zero, Nat.mul_one, Nat.one_mul, Nat.zero_mul, List.append_assoc, Option.bind_some, chkLog, same_cells, List.replicate_zero, List.flatten_nil, true_and, and_true, b_eqB, b_neB, b_eqS, b_neS, Bool.true_beq, Bool.false_beq, kindsOk, k_0, k_1, k_2, plainEq, Bool.bne_true, Bool.bne_false, beq_self_eq_true, bne_self_eq_false, Int.tdiv_eq_ediv_of_nonneg, Int.tmod_eq_emod_of_nonneg, List.length_nil, x30p s.1 s.2, e1]
      try rfl
    · exact (ga.trans (Grow.alloc _ _)).trans g1
end Go.Proofs.Ytplbampjponnpaa.Ya

