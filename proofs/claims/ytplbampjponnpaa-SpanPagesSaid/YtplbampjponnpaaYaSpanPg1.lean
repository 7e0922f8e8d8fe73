/-
  Spans, law SpanPages: the run.
-/
import Derived.Test.YtplbampjponnpaaYaSpanPg
import Derived.Test.YtplbampjponnpaaYaSpanArgs
namespace Go.Proofs.Ytplbampjponnpaa.Ya
open Go.Ya Go.Ya.Span
set_option linter.unusedVariables false
set_option linter.unusedSimpArgs false
set_option maxRecDepth 100000
set_option maxHeartbeats 8000000

def L6_0 : SC := (.seq (.seq (.ops [⟨some 36, .mov (.t 7), none⟩, ⟨some 37, .mov (.t 5), none⟩, ⟨some 38, .len (.sl) (.t 37), none⟩, ⟨some 39, .bin (.lss) (.other) (.t 36) (.t 38), none⟩]) (.cond (.t 39) (.skip) (.exit 0))) (.seq (.block 1 (.seq (.ops [⟨some 42, .mov (.t 6), none⟩, ⟨some 43, .mov (.t 42), none⟩, ⟨some 44, .mov (.t 5), some (43, false)⟩, ⟨some 45, .mov (.t 7), some (43, false)⟩, ⟨some 46, .idxAddrSl 1 (.t 44) (.t 45), some (43, false)⟩, ⟨some 47, .load false 1 (.t 46), some (43, false)⟩, ⟨some 48, .mov (.t 1), some (43, false)⟩, ⟨some 49, .bin (.quo) (.other) (.t 48) (.c (.int (.u32) 64)), some (43, false)⟩, ⟨some 50, .bin (.eql) (.other) (.t 47) (.t 49), some (43, false)⟩, ⟨some 51, .pick (.t 43) (.c (.bool true)) (.t 50), none⟩, ⟨some 6, .mov (.t 51), none⟩]) (.seq (.ops [⟨some 52, .mov (.t 7), none⟩, ⟨some 53, .bin (.gtr) (.other) (.t 52) (.c (.int (.i64) 0)), none⟩, ⟨some 54, .mov (.t 53), none⟩, ⟨some 55, .mov (.t 5), some (54, true)⟩, ⟨some 56, .mov (.t 7), some (54, true)⟩, ⟨some 57, .idxAddrSl 1 (.t 55) (.t 56), some (54, true)⟩, ⟨some 58, .load false 1 (.t 57), some (54, true)⟩, ⟨some 59, .mov (.t 5), some (54, true)⟩, ⟨some 60, .mov (.t 7), some (54, true)⟩, ⟨some 61, .bin (.sub) (.other) (.t 60) (.c (.int (.i64) 1)), some (54, true)⟩, ⟨some 62, .idxAddrSl 1 (.t 59) (.t 61), some (54, true)⟩, ⟨some 63, .load false 1 (.t 62), some (54, true)⟩, ⟨some 64, .bin (.add) (.other) (.t 63) (.c (.int (.u32) 1)), some (54, true)⟩, ⟨some 65, .bin (.neq) (.other) (.t 58) (.t 64), some (54, true)⟩, ⟨some 66, .pick (.t 54) (.t 65) (.c (.bool false)), none⟩, ⟨some 67, .mov (.t 66), none⟩, ⟨some 68, .mov (.t 5), some (67, false)⟩, ⟨some 69, .mov (.t 7), some (67, false)⟩, ⟨some 70, .idxAddrSl 1 (.t 68) (.t 69), some (67, false)⟩, ⟨some 71, .load false 1 (.t 70), some (67, false)⟩, ⟨some 72, .bin (.add) (.other) (.t 71) (.c (.int (.u32) 1)), some (67, false)⟩, ⟨some 73, .bin (.mul) (.other) (.t 72) (.c (.int (.u32) 64)), some (67, false)⟩, ⟨some 74, .fieldAddr 0 (.t 2), some (67, false)⟩, ⟨some 75, .load false 1 (.t 74), some (67, false)⟩, ⟨some 76, .bin (.leq) (.other) (.t 73) (.t 75), some (67, false)⟩, ⟨some 77, .pick (.t 67) (.c (.bool true)) (.t 76), none⟩, ⟨some 78, .mov (.t 77), none⟩, ⟨some 79, .mov (.t 5), some (78, false)⟩, ⟨some 80, .mov (.t 7), some (78, false)⟩, ⟨some 81, .idxAddrSl 1 (.t 79) (.t 80), some (78, false)⟩, ⟨some 82, .load false 1 (.t 81), some (78, false)⟩, ⟨some 83, .bin (.mul) (.other) (.t 82) (.c (.int (.u32) 64)), some (78, false)⟩, ⟨some 84, .fieldAddr 1 (.t 2), some (78, false)⟩, ⟨some 85, .load false 1 (.t 84), some (78, false)⟩, ⟨some 86, .bin (.geq) (.other) (.t 83) (.t 85), some (78, false)⟩, ⟨some 87, .pick (.t 78) (.c (.bool true)) (.t 86), none⟩]) (.cond (.t 87) (.seq (.ops [⟨some 4, .mov (.c (.bool false)), none⟩]) (.ret)) (.skip))))) (.ops [⟨some 40, .mov (.t 7), none⟩, ⟨some 41, .bin (.add) (.other) (.t 40) (.c (.int (.i64) 1)), none⟩, ⟨some 7, .mov (.t 41), none⟩])))
def b6 : SC := .seq (.ops [⟨some 2, .box (.t 0), none⟩, ⟨some 4, .mov (.c (.bool false)), none⟩]) (.seq (.ops [⟨some 8, .load true 2 (.t 2), none⟩, ⟨some 9, .call 22 [.t 8], none⟩, ⟨some 5, .mov (.t 9), none⟩]) (.seq (.seq (.ops [⟨some 10, .fieldAddr 0 (.t 2), none⟩, ⟨some 11, .load false 1 (.t 10), none⟩, ⟨some 12, .fieldAddr 1 (.t 2), none⟩, ⟨some 13, .load false 1 (.t 12), none⟩, ⟨some 14, .bin (.geq) (.other) (.t 11) (.t 13), none⟩, ⟨some 15, .mov (.t 14), none⟩, ⟨some 16, .fieldAddr 1 (.t 2), some (15, false)⟩, ⟨some 17, .load false 1 (.t 16), some (15, false)⟩, ⟨some 18, .bin (.gtr) (.other) (.t 17) (.c (.int (.u32) 4096)), some (15, false)⟩, ⟨some 19, .pick (.t 15) (.c (.bool true)) (.t 18), none⟩]) (.cond (.t 19) (.seq (.ops [⟨some 20, .mov (.t 5), none⟩, ⟨some 21, .len (.sl) (.t 20), none⟩, ⟨some 22, .bin (.eql) (.other) (.t 21) (.c (.int (.i64) 0)), none⟩, ⟨some 23, .mov (.t 22), none⟩, ⟨some 24, .call 7 [], some (23, true)⟩, ⟨some 25, .pick (.t 23) (.t 24) (.c (.bool false)), none⟩, ⟨some 4, .mov (.t 25), none⟩]) (.ret)) (.skip))) (.seq (.ops [⟨some 26, .fieldAddr 0 (.t 2), none⟩, ⟨some 27, .load false 1 (.t 26), none⟩, ⟨some 28, .mov (.t 1), none⟩, ⟨some 29, .fieldAddr 1 (.t 2), none⟩, ⟨some 30, .load false 1 (.t 29), none⟩, ⟨some 31, .fieldAddr 0 (.t 2), none⟩, ⟨some 32, .load false 1 (.t 31), none⟩, ⟨some 33, .bin (.sub) (.other) (.t 30) (.t 32), none⟩, ⟨some 34, .bin (.rem) (.other) (.t 28) (.t 33), none⟩, ⟨some 35, .bin (.add) (.other) (.t 27) (.t 34), none⟩, ⟨some 1, .mov (.t 35), none⟩]) (.seq (.ops [⟨some 6, .mov (.c (.bool false)), none⟩]) (.seq (.seq (.ops [⟨some 7, .mov (.c (.int (.i64) 0)), none⟩]) (.block 0 (.loop L6_0))) (.seq (.ops [⟨some 88, .mov (.t 6), none⟩, ⟨some 89, .mov (.t 88), none⟩, ⟨some 90, .call 7 [], some (89, true)⟩, ⟨some 91, .pick (.t 89) (.t 90) (.c (.bool false)), none⟩, ⟨some 4, .mov (.t 91), none⟩]) (.ret)))))))
theorem t6 : tab 6 = some ⟨92, [.tmp 4], b6⟩ := rfl
def Sh6 (V : AV) (q : Nat) (s : Sp) (a : Int) (i : Nat) (tm : List AV) : Prop := tm.length = 92 ∧ tm[1]? = some (.int .u32 a) ∧ tm[2]? = some (.ptr q 0) ∧ tm[5]? = some (V) ∧ tm[6]? = some (.bool (decide (a / 64 < s.1 / 64 + (i : Int)))) ∧ tm[7]? = some (.int .i64 (i : Nat))
theorem loop6 {h : Heap} {V : AV} {q : Nat} {s : Sp} {a : Int} (hV : InAt h V (pgs s (pgN s))) (hq : h.get q = some (.cells [.int .u32 s.1, .int .u32 s.2] false)) (h1 : 0 ≤ s.1) (h2 : s.1 < s.2) (h3 : s.2 ≤ 4096) (h4 : s.1 ≤ a) (h5 : a < s.2) {tm : List AV} (ht0 : Sh6 V q s a 0 tm) : ∃ tm', (((∃ i, i < pgN s ∧ (False)) ∧ xcode X1 tab 6 none (.loop L6_0) tm h = some (.ret, tm', h) ∧ True) ∨ ((∀ i, i < pgN s → ¬ (False)) ∧ xcode X1 tab 6 none (.loop L6_0) tm h = some (.exit 0, tm', h) ∧ Sh6 V q s a (pgN s) tm')) := by
  refine scan_same (fun i tm => Sh6 V q s a i tm) (fun i => False) (fun tm' => True) ?_ ?_ ?_ ht0
  · intro i tm hi hs ht
    replace hs : (False) := hs
    replace ht : Sh6 V q s a i tm := ht
    match tm, ht with
    | a0 :: a1 :: a2 :: a3 :: a4 :: a5 :: a6 :: a7 :: a8 :: a9 :: a10 :: a11 :: a12 :: a13 :: a14 :: a15 :: a16 :: a17 :: a18 :: a19 :: a20 :: a21 :: a22 :: a23 :: a24 :: a25 :: a26 :: a27 :: a28 :: a29 :: a30 :: a31 :: a32 :: a33 :: a34 :: a35 :: a36 :: a37 :: a38 :: a39 :: a40 :: a41 :: a42 :: a43 :: a44 :: a45 :: a46 :: a47 :: a48 :: a49 :: a50 :: a51 :: a52 :: a53 :: a54 :: a55 :: a56 :: a57 :: a58 :: a59 :: a60 :: a61 :: a62 :: a63 :: a64 :: a65 :: a66 :: a67 :: a68 :: a69 :: a70 :: a71 :: a72 :: a73 :: a74 :: a75 :: a76 :: a77 :: a78 :: a79 :: a80 :: a81 :: a82 :: a83 :: a84 :: a85 :: a86 :: a87 :: a88 :: a89 :: a90 :: a91 :: [], ht =>
    obtain ⟨_, t1, t2, t5, t6, t7⟩ := ht
    simp only [List.getElem?_cons_zero, List.getElem?_cons_succ, Option.some.injEq] at t1 t2 t5 t6 t7
    replace t1 := t1.symm; replace t2 := t2.symm; replace t5 := t5.symm; replace t6 := t6.symm; replace t7 := t7.symm
    subst t1 t2 t5 t6 t7
    have hN := pgs_len s (pgN s)
    rcases in_cases hV with ⟨rfl, hnil⟩ | ⟨id, off, cap, ex, c, ro, rfl, hg, hid, hcl, hc0⟩
    · have hz : pgN s = 0 := by rw [← pgs_len s (pgN s), hnil]; rfl
      omega
    have hi2 : (i : Int) < (s.2 + 63) / 64 - s.1 / 64 := by unfold pgN at hi; omega
    have hgi := pgs_get s hi
    have hgp := pgs_get s (k := pgN s) (i := i - 1) (by omega)
    have hql := Heap.lt_of_get hq
    all_goals exact hs.elim
    all_goals try (exfalso; omega; done)
    all_goals
      refine ⟨?_, ?_, ?_⟩
      rotate_left
      · rw [show ∀ tm h, xcode X1 tab 6 none (.loop L6_0) tm h = thenX X1 tab 6 none (.loop L6_0) (xcode X1 tab 6 none L6_0 tm h) from fun _ _ => x_loop]
        delta L6_0
        simp (disch := first | omega | (simp only [Heap.next_alloc, Heap.next_set]; omega) | (apply Rd.grow; assumption; repeat (first | exact Grow.refl _ | assumption | exact Grow.alloc _ _ | refine Grow.allocR ?_ _ | refine Grow.setR ?_ _ ?_ ?_ | omega | (simp only [Heap.next_alloc, Heap.next_set]; omega) | (apply Grow.trans; rotate_left; assumption)))) only [note_false, Int.reduceBEq, Int.reduceBNe, x_drawn, l_nil, l_op, l_guard, l_some, l_true, l_false, l_draw, readsA, x_true, x_false, x_seq, x_ops, x_cond, x_skip, x_ret, x_exit, x_block, x_then, x_thenE, x_thenR, x_blockN, x_blockR, x_blockE, s_nil, s_op, s_guard, s_some, s_true, s_false, s_put, s_put0, s_opsR, s_ret, s_norm, aop, ev, evs, List.map_cons, List.map_nil, List.cons_append, List.nil_append, List.append_nil, List.replicate, List.take_succ_cons, List.take_zero, List.take_nil, List.drop_succ_cons, List.drop_zero, List.drop_nil, Nat.zero_add, Nat.add_zero, Nat.reduceAdd, Nat.reduceMul, Nat.reduceLeDiff, Bool.false_eq_true, and_self, List.length_cons, List.length_nil, List.set_cons_zero, List.set_cons_succ, List.getD_cons_zero, List.getD_cons_succ, wantedA, List.getElem?_cons_zero, List.getElem?_cons_succ, q_t, q_f, Bool.not_true, Bool.not_false, b_add, b_sub, b_mul, b_eql, b_neq, b_lss, b_leq, b_gtr, b_geq, b_and, b_or, b_xor, b_quo, b_rem, b_shl, b_shr, unA, Option.map_some, Option.map_none, resA, tupA, Int.reduceLT, not_false_eq_true, not_true_eq_false, decide_true, decide_false, f_bool, c_bool, f_int, c_int, f_str, c_str, f_nilptr, c_nilptr, f_ptr, c_ptr, f_nilsl, c_nilsl, f_slice, c_slice, f_nilmap, c_nilmap, f_map, c_map, f_nilf, c_nilf, f_func, c_func, f_yieldf, c_yieldf, f_nilif, c_nilif, f_iface, c_iface, c_agg, List.all_cons, List.all_nil, Bool.and_true, Bool.true_and, if_true, if_false, ite_true, ite_false, ga_new, ga_old, gs_new, gs_old, Heap.next_alloc, Heap.next_set, loadA, storeA, splice, fillA, d_t, d_f, i_t, i_f, beq_t, beq_f, bne_t, bne_f, w_i64, w_u64, w_u32, w_i32, w_u8, Int.toNat_natCast, n_sub1, n_add1, Nat.sub_zero, Nat.mul_one, Nat.one_mul, Nat.zero_mul, List.append_assoc, Option.bind_some, chkLog, same_cells, List.replicate_zero, List.flatten_nil, true_and, and_true, kindsOk, k_0, k_1, k_2, plainEq, Bool.bne_true, Bool.bne_false, beq_self_eq_true, bne_self_eq_false, Int.tdiv_eq_ediv_of_nonneg, Int.tmod_eq_emod_of_nonneg, List.length_nil, hg, hc0, hgi, hgp, hq]
        rfl
      · exact trivial
  · intro i tm hi hs ht
    replace hs : ¬ (False) := hs
    replace ht : Sh6 V q s a i tm := ht
    match tm, ht with
    | a0 :: a1 :: a2 :: a3 :: a4 :: a5 :: a6 :: a7 :: a8 :: a9 :: a10 :: a11 :: a12 :: a13 :: a14 :: a15 :: a16 :: a17 :: a18 :: a19 :: a20 :: a21 :: a22 :: a23 :: a24 :: a25 :: a26 :: a27 :: a28 :: a29 :: a30 :: a31 :: a32 :: a33 :: a34 :: a35 :: a36 :: a37 :: a38 :: a39 :: a40 :: a41 :: a42 :: a43 :: a44 :: a45 :: a46 :: a47 :: a48 :: a49 :: a50 :: a51 :: a52 :: a53 :: a54 :: a55 :: a56 :: a57 :: a58 :: a59 :: a60 :: a61 :: a62 :: a63 :: a64 :: a65 :: a66 :: a67 :: a68 :: a69 :: a70 :: a71 :: a72 :: a73 :: a74 :: a75 :: a76 :: a77 :: a78 :: a79 :: a80 :: a81 :: a82 :: a83 :: a84 :: a85 :: a86 :: a87 :: a88 :: a89 :: a90 :: a91 :: [], ht =>
    obtain ⟨_, t1, t2, t5, t6, t7⟩ := ht
    simp only [List.getElem?_cons_zero, List.getElem?_cons_succ, Option.some.injEq] at t1 t2 t5 t6 t7
    replace t1 := t1.symm; replace t2 := t2.symm; replace t5 := t5.symm; replace t6 := t6.symm; replace t7 := t7.symm
    subst t1 t2 t5 t6 t7
    have hN := pgs_len s (pgN s)
    rcases in_cases hV with ⟨rfl, hnil⟩ | ⟨id, off, cap, ex, c, ro, rfl, hg, hid, hcl, hc0⟩
    · have hz : pgN s = 0 := by rw [← pgs_len s (pgN s), hnil]; rfl
      omega
    have hi2 : (i : Int) < (s.2 + 63) / 64 - s.1 / 64 := by unfold pgN at hi; omega
    have hgi := pgs_get s hi
    have hgp := pgs_get s (k := pgN s) (i := i - 1) (by omega)
    have hql := Heap.lt_of_get hq
    by_cases q1 : a / 64 < s.1 / 64 + (i : Int) <;> by_cases q2 : s.1 / 64 + (i : Int) = a / 64 <;> by_cases q3 : 0 < i
    all_goals try (exfalso; omega; done)
    all_goals
      refine ⟨?_, ?_, ?_⟩
      rotate_left
      · rw [show ∀ tm h, xcode X1 tab 6 none (.loop L6_0) tm h = thenX X1 tab 6 none (.loop L6_0) (xcode X1 tab 6 none L6_0 tm h) from fun _ _ => x_loop]
        delta L6_0
        simp (disch := first | omega | (simp only [Heap.next_alloc, Heap.next_set]; omega) | (apply Rd.grow; assumption; repeat (first | exact Grow.refl _ | assumption | exact Grow.alloc _ _ | refine Grow.allocR ?_ _ | refine Grow.setR ?_ _ ?_ ?_ | omega | (simp only [Heap.next_alloc, Heap.next_set]; omega) | (apply Grow.trans; rotate_left; assumption)))) only [note_false, Int.reduceBEq, Int.reduceBNe, x_drawn, l_nil, l_op, l_guard, l_some, l_true, l_false, l_draw, readsA, x_true, x_false, x_seq, x_ops, x_cond, x_skip, x_ret, x_exit, x_block, x_then, x_thenE, x_thenR, x_blockN, x_blockR, x_blockE, s_nil, s_op, s_guard, s_some, s_true, s_false, s_put, s_put0, s_opsR, s_ret, s_norm, aop, ev, evs, List.map_cons, List.map_nil, List.cons_append, List.nil_append, List.append_nil, List.replicate, List.take_succ_cons, List.take_zero, List.take_nil, List.drop_succ_cons, List.drop_zero, List.drop_nil, Nat.zero_add, Nat.add_zero, Nat.reduceAdd, Nat.reduceMul, Nat.reduceLeDiff, Bool.false_eq_true, and_self, List.length_cons, List.length_nil, List.set_cons_zero, List.set_cons_succ, List.getD_cons_zero, List.getD_cons_succ, wantedA, List.getElem?_cons_zero, List.getElem?_cons_succ, q_t, q_f, Bool.not_true, Bool.not_false, b_add, b_sub, b_mul, b_eql, b_neq, b_lss, b_leq, b_gtr, b_geq, b_and, b_or, b_xor, b_quo, b_rem, b_shl, b_shr, unA, Option.map_some, Option.map_none, resA, tupA, Int.reduceLT, not_false_eq_true, not_true_eq_false, decide_true, decide_false, f_bool, c_bool, f_int, c_int, f_str, c_str, f_nilptr, c_nilptr, f_ptr, c_ptr, f_nilsl, c_nilsl, f_slice, c_slice, f_nilmap, c_nilmap, f_map, c_map, f_nilf, c_nilf, f_func, c_func, f_yieldf, c_yieldf, f_nilif, c_nilif, f_iface, c_iface, c_agg, List.all_cons, List.all_nil, Bool.and_true, Bool.true_and, if_true, if_false, ite_true, ite_false, ga_new, ga_old, gs_new, gs_old, Heap.next_alloc, Heap.next_set, loadA, storeA, splice, fillA, d_t, d_f, i_t, i_f, beq_t, beq_f, bne_t, bne_f, w_i64, w_u64, w_u32, w_i32, w_u8, Int.toNat_natCast, n_sub1, n_add1, Nat.sub_zero, Nat.mul_one, Nat.one_mul, Nat.zero_mul, List.append_assoc, Option.bind_some, chkLog, same_cells, List.replicate_zero, List.flatten_nil, true_and, and_true, kindsOk, k_0, k_1, k_2, plainEq, Bool.bne_true, Bool.bne_false, beq_self_eq_true, bne_self_eq_false, Int.tdiv_eq_ediv_of_nonneg, Int.tmod_eq_emod_of_nonneg, List.length_nil, hg, hc0, hgi, hgp, hq]
        rfl
      · exact ⟨rfl, rfl, rfl, rfl, by first | (rw [decide_eq_true (p := a / 64 < s.1 / 64 + ((i + 1 : Nat) : Int)) (by omega)]; rfl) | (rw [decide_eq_false (p := a / 64 < s.1 / 64 + ((i + 1 : Nat) : Int)) (by omega)]; rfl), rfl⟩
  · intro tm ht
    replace ht : Sh6 V q s a (pgN s) tm := ht
    match tm, ht with
    | a0 :: a1 :: a2 :: a3 :: a4 :: a5 :: a6 :: a7 :: a8 :: a9 :: a10 :: a11 :: a12 :: a13 :: a14 :: a15 :: a16 :: a17 :: a18 :: a19 :: a20 :: a21 :: a22 :: a23 :: a24 :: a25 :: a26 :: a27 :: a28 :: a29 :: a30 :: a31 :: a32 :: a33 :: a34 :: a35 :: a36 :: a37 :: a38 :: a39 :: a40 :: a41 :: a42 :: a43 :: a44 :: a45 :: a46 :: a47 :: a48 :: a49 :: a50 :: a51 :: a52 :: a53 :: a54 :: a55 :: a56 :: a57 :: a58 :: a59 :: a60 :: a61 :: a62 :: a63 :: a64 :: a65 :: a66 :: a67 :: a68 :: a69 :: a70 :: a71 :: a72 :: a73 :: a74 :: a75 :: a76 :: a77 :: a78 :: a79 :: a80 :: a81 :: a82 :: a83 :: a84 :: a85 :: a86 :: a87 :: a88 :: a89 :: a90 :: a91 :: [], ht =>
    obtain ⟨_, t1, t2, t5, t6, t7⟩ := ht
    simp only [List.getElem?_cons_zero, List.getElem?_cons_succ, Option.some.injEq] at t1 t2 t5 t6 t7
    replace t1 := t1.symm; replace t2 := t2.symm; replace t5 := t5.symm; replace t6 := t6.symm; replace t7 := t7.symm
    subst t1 t2 t5 t6 t7
    have hN := pgs_len s (pgN s)
    rcases in_cases hV with ⟨rfl, hnil⟩ | ⟨id, off, cap, ex, c, ro, rfl, hg, hid, hcl, hc0⟩
    · have hz : pgN s = 0 := by rw [← pgs_len s (pgN s), hnil]; rfl
      exfalso
      unfold pgN at hz
      omega
    all_goals try (exfalso; omega; done)
    all_goals
      refine ⟨?_, ?_, ?_⟩
      rotate_left
      · rw [show ∀ tm h, xcode X1 tab 6 none (.loop L6_0) tm h = thenX X1 tab 6 none (.loop L6_0) (xcode X1 tab 6 none L6_0 tm h) from fun _ _ => x_loop]
        delta L6_0
        simp (disch := first | omega | (simp only [Heap.next_alloc, Heap.next_set]; omega) | (apply Rd.grow; assumption; repeat (first | exact Grow.refl _ | assumption | exact Grow.alloc _ _ | refine Grow.allocR ?_ _ | refine Grow.setR ?_ _ ?_ ?_ | omega | (simp only [Heap.next_alloc, Heap.next_set]; omega) | (apply Grow.trans; rotate_left; assumption)))) only [note_false, Int.reduceBEq, Int.reduceBNe, x_drawn, l_nil, l_op, l_guard, l_some, l_true, l_false, l_draw, readsA, x_true, x_false, x_seq, x_ops, x_cond, x_skip, x_ret, x_exit, x_block, x_then, x_thenE, x_thenR, x_blockN, x_blockR, x_blockE, s_nil, s_op, s_guard, s_some, s_true, s_false, s_put, s_put0, s_opsR, s_ret, s_norm, aop, ev, evs, List.map_cons, List.map_nil, List.cons_append, List.nil_append, List.append_nil, List.replicate, List.take_succ_cons, List.take_zero, List.take_nil, List.drop_succ_cons, List.drop_zero, List.drop_nil, Nat.zero_add, Nat.add_zero, Nat.reduceAdd, Nat.reduceMul, Nat.reduceLeDiff, Bool.false_eq_true, and_self, List.length_cons, List.length_nil, List.set_cons_zero, List.set_cons_succ, List.getD_cons_zero, List.getD_cons_succ, wantedA, List.getElem?_cons_zero, List.getElem?_cons_succ, q_t, q_f, Bool.not_true, Bool.not_false, b_add, b_sub, b_mul, b_eql, b_neq, b_lss, b_leq, b_gtr, b_geq, b_and, b_or, b_xor, b_quo, b_rem, b_shl, b_shr, unA, Option.map_some, Option.map_none, resA, tupA, Int.reduceLT, not_false_eq_true, not_true_eq_false, decide_true, decide_false, f_bool, c_bool, f_int, c_int, f_str, c_str, f_nilptr, c_nilptr, f_ptr, c_ptr, f_nilsl, c_nilsl, f_slice, c_slice, f_nilmap, c_nilmap, f_map, c_map, f_nilf, c_nilf, f_func, c_func, f_yieldf, c_yieldf, f_nilif, c_nilif, f_iface, c_iface, c_agg, List.all_cons, List.all_nil, Bool.and_true, Bool.true_and, if_true, if_false, ite_true, ite_false, ga_new, ga_old, gs_new, gs_old, Heap.next_alloc, Heap.next_set, loadA, storeA, splice, fillA, d_t, d_f, i_t, i_f, beq_t, beq_f, bne_t, bne_f, w_i64, w_u64, w_u32, w_i32, w_u8, Int.toNat_natCast, n_sub1, n_add1, Nat.sub_zero, Nat.mul_one, Nat.one_mul, Nat.zero_mul, List.append_assoc, Option.bind_some, chkLog, same_cells, List.replicate_zero, List.flatten_nil, true_and, and_true, kindsOk, k_0, k_1, k_2, plainEq, Bool.bne_true, Bool.bne_false, beq_self_eq_true, bne_self_eq_false, Int.tdiv_eq_ediv_of_nonneg, Int.tmod_eq_emod_of_nonneg, List.length_nil]
        rfl
      · exact ⟨rfl, rfl, rfl, rfl, rfl, rfl⟩
theorem go6 (s : Sp) (at_ : Int) (h : Heap) (h1 : 0 ≤ s.1 ∧ s.1 ≤ 4294967295) (h2 : 0 ≤ s.2 ∧ s.2 ≤ 4294967295) (h3 : 0 ≤ at_ ∧ at_ ≤ 4294967295) : ∃ h', xcall X1 tab (.fn 6) [.agg [.int .u32 s.1, .int .u32 s.2], .int .u32 at_] h = some (.bool true, h') := by
  have hp := ga_new (h := h) (o := .cells [.int .u32 s.1, .int .u32 s.2] false) rfl
  obtain ⟨V, H, e22, g2, m2⟩ := x22 s (h.alloc (.cells [.int .u32 s.1, .int .u32 s.2] false)) h1.1 h2.2
  have hq := g2.get hp
  have hql := Heap.lt_of_get hq
  have hV := m2.rd
  by_cases hc : s.1 ≥ s.2 ∨ s.2 > 4096
  · rw [show pagesP s = [] from if_pos hc] at hV
    refine ⟨H, ?_⟩
    rcases in_cases hV with ⟨rfl, _⟩ | ⟨id, off, cap, ex, c, ro, rfl, _⟩ <;> by_cases hc2 : s.1 ≥ s.2
    all_goals
      rw [x_fn rfl t6]
      delta b6
      simp (disch := first | omega | (simp only [Heap.next_alloc, Heap.next_set]; omega) | (apply Rd.grow; assumption; repeat (first | exact Grow.refl _ | assumption | exact Grow.alloc _ _ | refine Grow.allocR ?_ _ | refine Grow.setR ?_ _ ?_ ?_ | omega | (simp only [Heap.next_alloc, Heap.next_set]; omega) | (apply Grow.trans; rotate_left; assumption)))) only [note_false, Int.reduceBEq, Int.reduceBNe, x_drawn, l_nil, l_op, l_guard, l_some, l_true, l_false, l_draw, readsA, x_true, x_false, x_seq, x_ops, x_cond, x_skip, x_ret, x_exit, x_block, x_then, x_thenE, x_thenR, x_blockN, x_blockR, x_blockE, s_nil, s_op, s_guard, s_some, s_true, s_false, s_put, s_put0, s_opsR, s_ret, s_norm, aop, ev, evs, List.map_cons, List.map_nil, List.cons_append, List.nil_append, List.append_nil, List.replicate, List.take_succ_cons, List.take_zero, List.take_nil, List.drop_succ_cons, List.drop_zero, List.drop_nil, Nat.zero_add, Nat.add_zero, Nat.reduceAdd, Nat.reduceMul, Nat.reduceLeDiff, Bool.false_eq_true, and_self, List.length_cons, List.length_nil, List.set_cons_zero, List.set_cons_succ, List.getD_cons_zero, List.getD_cons_succ, wantedA, List.getElem?_cons_zero, List.getElem?_cons_succ, q_t, q_f, Bool.not_true, Bool.not_false, b_add, b_sub, b_mul, b_eql, b_neq, b_lss, b_leq, b_gtr, b_geq, b_and, b_or, b_xor, b_quo, b_rem, b_shl, b_shr, unA, Option.map_some, Option.map_none, resA, tupA, Int.reduceLT, not_false_eq_true, not_true_eq_false, decide_true, decide_false, f_bool, c_bool, f_int, c_int, f_str, c_str, f_nilptr, c_nilptr, f_ptr, c_ptr, f_nilsl, c_nilsl, f_slice, c_slice, f_nilmap, c_nilmap, f_map, c_map, f_nilf, c_nilf, f_func, c_func, f_yieldf, c_yieldf, f_nilif, c_nilif, f_iface, c_iface, c_agg, List.all_cons, List.all_nil, Bool.and_true, Bool.true_and, if_true, if_false, ite_true, ite_false, ga_new, ga_old, gs_new, gs_old, Heap.next_alloc, Heap.next_set, loadA, storeA, splice, fillA, d_t, d_f, i_t, i_f, beq_t, beq_f, bne_t, bne_f, w_i64, w_u64, w_u32, w_i32, w_u8, Int.toNat_natCast, n_sub1, n_add1, Nat.sub_zero, Nat.mul_one, Nat.one_mul, Nat.zero_mul, List.append_assoc, Option.bind_some, chkLog, same_cells, List.replicate_zero, List.flatten_nil, true_and, and_true, kindsOk, k_0, k_1, k_2, plainEq, Bool.bne_true, Bool.bne_false, beq_self_eq_true, bne_self_eq_false, Int.tdiv_eq_ediv_of_nonneg, Int.tmod_eq_emod_of_nonneg, List.length_nil, e22, hq, lives7]
      try rfl
  · rw [show pagesP s = pgs s (pgN s) from if_neg hc] at hV
    have m1 := Int.emod_nonneg at_ (show s.2 - s.1 ≠ 0 by omega)
    have m2 := Int.emod_lt_of_pos at_ (show 0 < s.2 - s.1 by omega)
    have hT : Sh6 V h.next s (s.1 + at_ % (s.2 - s.1)) 0 [.agg [.int .u32 s.1, .int .u32 s.2], .int .u32 (s.1 + at_ % (s.2 - s.1)), .ptr h.next 0, undefA, .bool false, V, .bool false, .int (.i64) 0, .agg [.int .u32 s.1, .int .u32 s.2], V, .ptr h.next 0, .int .u32 s.1, .ptr h.next 1, .int .u32 s.2, .bool false, .bool false, .ptr h.next 1, .int .u32 s.2, .bool false, .bool false, undefA, undefA, undefA, undefA, undefA, undefA, .ptr h.next 0, .int .u32 s.1, .int .u32 at_, .ptr h.next 1, .int .u32 s.2, .ptr h.next 0, .int .u32 s.1, .int .u32 (s.2 - s.1), .int .u32 (at_ % (s.2 - s.1)), .int .u32 (s.1 + at_ % (s.2 - s.1)), undefA, undefA, undefA, undefA, undefA, undefA, undefA, undefA, undefA, undefA, undefA, undefA, undefA, undefA, undefA, undefA, undefA, undefA, undefA, undefA, undefA, undefA, undefA, undefA, undefA, undefA, undefA, undefA, undefA, undefA, undefA, undefA, undefA, undefA, undefA, undefA, undefA, undefA, undefA, undefA, undefA, undefA, undefA, undefA, undefA, undefA, undefA, undefA, undefA, undefA, undefA, undefA, undefA, undefA, undefA, undefA] := ⟨rfl, rfl, rfl, rfl, by rw [decide_eq_false (p := (s.1 + at_ % (s.2 - s.1)) / 64 < s.1 / 64 + ((0 : Nat) : Int)) (by omega)]; rfl, rfl⟩
    obtain ⟨tm', hc3⟩ := loop6 hV hq h1.1 (by omega) (by omega) (by omega) (by omega) hT
    rcases hc3 with ⟨⟨_, _, hf⟩, _⟩ | ⟨_, e, ht⟩
    · exact hf.elim
    · have hin : (s.1 + at_ % (s.2 - s.1)) / 64 < s.1 / 64 + ((pgN s : Nat) : Int) := by unfold pgN; omega
      match tm', ht with
      | a0 :: a1 :: a2 :: a3 :: a4 :: a5 :: a6 :: a7 :: a8 :: a9 :: a10 :: a11 :: a12 :: a13 :: a14 :: a15 :: a16 :: a17 :: a18 :: a19 :: a20 :: a21 :: a22 :: a23 :: a24 :: a25 :: a26 :: a27 :: a28 :: a29 :: a30 :: a31 :: a32 :: a33 :: a34 :: a35 :: a36 :: a37 :: a38 :: a39 :: a40 :: a41 :: a42 :: a43 :: a44 :: a45 :: a46 :: a47 :: a48 :: a49 :: a50 :: a51 :: a52 :: a53 :: a54 :: a55 :: a56 :: a57 :: a58 :: a59 :: a60 :: a61 :: a62 :: a63 :: a64 :: a65 :: a66 :: a67 :: a68 :: a69 :: a70 :: a71 :: a72 :: a73 :: a74 :: a75 :: a76 :: a77 :: a78 :: a79 :: a80 :: a81 :: a82 :: a83 :: a84 :: a85 :: a86 :: a87 :: a88 :: a89 :: a90 :: a91 :: [], ht =>
      obtain ⟨_, t1, t2, t5, t6, t7⟩ := ht
      simp only [List.getElem?_cons_zero, List.getElem?_cons_succ, Option.some.injEq] at t1 t2 t5 t6 t7
      replace t1 := t1.symm; replace t2 := t2.symm; replace t5 := t5.symm; replace t6 := t6.symm; replace t7 := t7.symm
      subst t1 t2 t5 t6 t7
      refine ⟨H, ?_⟩
      rw [x_fn rfl t6]
      delta b6
      simp (disch := first | omega | (simp only [Heap.next_alloc, Heap.next_set]; omega) | (apply Rd.grow; assumption; repeat (first | exact Grow.refl _ | assumption | exact Grow.alloc _ _ | refine Grow.allocR ?_ _ | refine Grow.setR ?_ _ ?_ ?_ | omega | (simp only [Heap.next_alloc, Heap.next_set]; omega) | (apply Grow.trans; rotate_left; assumption)))) only [note_false, Int.reduceBEq, Int.reduceBNe, x_drawn, l_nil, l_op, l_guard, l_some, l_true, l_false, l_draw, readsA, x_true, x_false, x_seq, x_ops, x_cond, x_skip, x_ret, x_exit, x_block, x_then, x_thenE, x_thenR, x_blockN, x_blockR, x_blockE, s_nil, s_op, s_guard, s_some, s_true, s_false, s_put, s_put0, s_opsR, s_ret, s_norm, aop, ev, evs, List.map_cons, List.map_nil, List.cons_append, List.nil_append, List.append_nil, List.replicate, List.take_succ_cons, List.take_zero, List.take_nil, List.drop_succ_cons, List.drop_zero, List.drop_nil, Nat.zero_add, Nat.add_zero, Nat.reduceAdd, Nat.reduceMul, Nat.reduceLeDiff, Bool.false_eq_true, and_self, List.length_cons, List.length_nil, List.set_cons_zero, List.set_cons_succ, List.getD_cons_zero, List.getD_cons_succ, wantedA, List.getElem?_cons_zero, List.getElem?_cons_succ, q_t, q_f, Bool.not_true, Bool.not_false, b_add, b_sub, b_mul, b_eql, b_neq, b_lss, b_leq, b_gtr, b_geq, b_and, b_or, b_xor, b_quo, b_rem, b_shl, b_shr, unA, Option.map_some, Option.map_none, resA, tupA, Int.reduceLT, not_false_eq_true, not_true_eq_false, decide_true, decide_false, f_bool, c_bool, f_int, c_int, f_str, c_str, f_nilptr, c_nilptr, f_ptr, c_ptr, f_nilsl, c_nilsl, f_slice, c_slice, f_nilmap, c_nilmap, f_map, c_map, f_nilf, c_nilf, f_func, c_func, f_yieldf, c_yieldf, f_nilif, c_nilif, f_iface, c_iface, c_agg, List.all_cons, List.all_nil, Bool.and_true, Bool.true_and, if_true, if_false, ite_true, ite_false, ga_new, ga_old, gs_new, gs_old, Heap.next_alloc, Heap.next_set, loadA, storeA, splice, fillA, d_t, d_f, i_t, i_f, beq_t, beq_f, bne_t, bne_f, w_i64, w_u64, w_u32, w_i32, w_u8, Int.toNat_natCast, n_sub1, n_add1, Nat.sub_zero, Nat.mul_one, Nat.one_mul, Nat.zero_mul, List.append_assoc, Option.bind_some, chkLog, same_cells, List.replicate_zero, List.flatten_nil, true_and, and_true, kindsOk, k_0, k_1, k_2, plainEq, Bool.bne_true, Bool.bne_false, beq_self_eq_true, bne_self_eq_false, Int.tdiv_eq_ediv_of_nonneg, Int.tmod_eq_emod_of_nonneg, List.length_nil, e22, hq, lives7, e]
      try rfl
theorem run6 (M : Nat) : ∀ h xs, argsT Try.prog M h 5 Try.f6.params.toList xs → argsX Try.prog M 5 Try.f6.params.toList emptyHeap xs h →
    ∃ n h', acall X1 tab n (.fn 6) xs h = some (.bool true, h') ∨ (AV.bares xs = true ∧ acall X1 tab n (.fn 6) xs emptyHeap = some (.bool true, h')) := by
  intro h xs _ hx
  rw [Try.params6] at hx
  obtain ⟨a, _, h1, rfl, ha, hx⟩ := argsX_cons hx
  obtain ⟨b, _, h2, rfl, hb, hx⟩ := argsX_cons hx
  obtain ⟨rfl, rfl⟩ := argsX_nil hx
  obtain ⟨s, rfl, w1, w2, rfl⟩ := arg_span ha
  obtain ⟨n, rfl, w3, rfl⟩ := arg_u32 hb
  obtain ⟨h', e⟩ := go6 s n _ w1 w2 w3
  exact ranX e
end Go.Proofs.Ytplbampjponnpaa.Ya

