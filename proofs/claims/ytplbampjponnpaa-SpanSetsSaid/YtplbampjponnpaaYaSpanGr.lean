/-
  Spans, law SpanGrows: the run.
-/
import Derived.Test.YtplbampjponnpaaYaSpanAdd
import Derived.Test.YtplbampjponnpaaYaSpanArgs
import Derived.Test.YtplbampjponnpaaYaSpanScan3
namespace Go.Proofs.Ytplbampjponnpaa.Ya
open Go.Ya Go.Ya.Span
set_option linter.unusedVariables false
set_option linter.unusedSimpArgs false
set_option maxRecDepth 100000
set_option maxHeartbeats 16000000

theorem pieces_len1 (x s : Sp) (h : s.1 ≤ x.1 ∨ x.2 ≤ s.2 ∨ s.2 ≤ s.1) : (pieces x s).length ≤ 1 := by
  unfold pieces
  cases he : emptyP s
  · have hs := emptyP_not.1 he
    simp only [Bool.false_eq_true, if_false]
    rcases h with h | h | h
    · rw [show emptyP (x.1, min x.2 s.1) = true from emptyP_iff.2 (by simp only; omega)]
      simp only [if_true, List.nil_append, List.append_nil]
      split <;> simp
    · rw [show emptyP (max x.1 s.2, x.2) = true from emptyP_iff.2 (by simp only; omega)]
      simp only [if_true, List.nil_append, List.append_nil]
      split <;> simp
    · omega
  · simp only [if_true]
    split <;> simp
theorem rest_len2 : ∀ {l : List Sp} {s : Sp} {lo : Int}, Weak lo l → (restP l s).length ≤ l.length + 1 ∧ (s.1 ≤ lo → (restP l s).length ≤ l.length)
  | [], s, _, _ => by simp [restP]
  | x :: l, s, lo, hw => by
    obtain ⟨h1, h2, h3⟩ := hw
    have ih := rest_len2 (s := s) h3
    have p2 := pieces_len x s
    have e : (restP (x :: l) s).length = (pieces x s).length + (restP l s).length := by simp [restP]
    rw [e, List.length_cons]
    refine ⟨?_, fun hs => ?_⟩
    · by_cases hc : s.1 ≤ x.1 ∨ x.2 ≤ s.2 ∨ s.2 ≤ s.1
      · have := pieces_len1 x s hc; omega
      · have := ih.2 (by omega); omega
    · have := pieces_len1 x s (.inl (by omega))
      have := ih.2 (by omega)
      omega
theorem gather_le (l : List Sp) : (gatherP l).length ≤ l.length := gather_len' l
theorem add_le {l : List Sp} (s : Sp) (hl : mayP l = true) : (addP l s).length ≤ l.length + 2 := by
  obtain ⟨lo, _, h2⟩ := low l s
  have h3 := (rest_len2 (s := s) (mayP_weak hl h2)).1
  have h4 := withG_len' s (restP l s) (emptyP s)
  have h5 := gather_le (withP (restP l s) s)
  unfold addP withP at *
  omega
theorem fold_add {l : List Sp} {i : Nat} (hi : i < l.length) : (l.take (i + 1)).foldl addP [] = addP ((l.take i).foldl addP []) (l.getD i (0, 0)) := by
  rw [List.take_succ_eq_append_getElem hi, List.foldl_append, List.getD_eq_getElem?_getD, List.getElem?_eq_getElem hi]
  rfl
theorem fold_may (l : List Sp) : mayP (l.foldl addP []) = true := (addAll_may l [] rfl).1
theorem fold_le : ∀ (l : List Sp) (i : Nat), i ≤ l.length → ((l.take i).foldl addP []).length ≤ 2 * i
  | l, 0, _ => by simp
  | l, i + 1, hi => by
    have := fold_le l i (by omega)
    have h2 := add_le (l.getD i (0, 0)) (fold_may (l.take i))
    rw [fold_add (by omega)]
    omega
theorem rev_get {l : List Sp} {i : Nat} (hi : i < l.length) : l.reverse.getD i (0, 0) = l.getD (l.length - 1 - i) (0, 0) := by
  rw [List.getD_eq_getElem?_getD, List.getD_eq_getElem?_getD, List.getElem?_reverse hi]
def L5_0 : SC := (.seq (.seq (.ops [⟨some 15, .mov (.t 5), none⟩, ⟨some 16, .mov (.t 0), none⟩, ⟨some 17, .len (.sl) (.t 16), none⟩, ⟨some 18, .bin (.lss) (.other) (.t 15) (.t 17), none⟩]) (.cond (.t 18) (.skip) (.exit 0))) (.seq (.block 1 (.seq (.seq (.ops [⟨some 21, .mov (.t 0), none⟩, ⟨some 22, .mov (.t 5), none⟩, ⟨some 23, .idxAddrSl 2 (.t 21) (.t 22), none⟩, ⟨some 24, .fieldAddr 1 (.t 23), none⟩, ⟨some 25, .load false 1 (.t 24), none⟩, ⟨some 26, .mov (.t 0), none⟩, ⟨some 27, .mov (.t 5), none⟩, ⟨some 28, .idxAddrSl 2 (.t 26) (.t 27), none⟩, ⟨some 29, .fieldAddr 0 (.t 28), none⟩, ⟨some 30, .load false 1 (.t 29), none⟩, ⟨some 31, .bin (.lss) (.other) (.t 25) (.t 30), none⟩, ⟨some 32, .mov (.t 31), none⟩, ⟨some 33, .mov (.t 0), some (32, false)⟩, ⟨some 34, .mov (.t 0), some (32, false)⟩, ⟨some 35, .len (.sl) (.t 34), some (32, false)⟩, ⟨some 36, .bin (.sub) (.other) (.t 35) (.c (.int (.i64) 1)), some (32, false)⟩, ⟨some 37, .mov (.t 5), some (32, false)⟩, ⟨some 38, .bin (.sub) (.other) (.t 36) (.t 37), some (32, false)⟩, ⟨some 39, .idxAddrSl 2 (.t 33) (.t 38), some (32, false)⟩, ⟨some 40, .fieldAddr 1 (.t 39), some (32, false)⟩, ⟨some 41, .load false 1 (.t 40), some (32, false)⟩, ⟨some 42, .mov (.t 0), some (32, false)⟩, ⟨some 43, .mov (.t 0), some (32, false)⟩, ⟨some 44, .len (.sl) (.t 43), some (32, false)⟩, ⟨some 45, .bin (.sub) (.other) (.t 44) (.c (.int (.i64) 1)), some (32, false)⟩, ⟨some 46, .mov (.t 5), some (32, false)⟩, ⟨some 47, .bin (.sub) (.other) (.t 45) (.t 46), some (32, false)⟩, ⟨some 48, .idxAddrSl 2 (.t 42) (.t 47), some (32, false)⟩, ⟨some 49, .fieldAddr 0 (.t 48), some (32, false)⟩, ⟨some 50, .load false 1 (.t 49), some (32, false)⟩, ⟨some 51, .bin (.lss) (.other) (.t 41) (.t 50), some (32, false)⟩, ⟨some 52, .pick (.t 32) (.c (.bool true)) (.t 51), none⟩]) (.cond (.t 52) (.seq (.ops [⟨some 53, .call 7 [], none⟩, ⟨some 2, .mov (.t 53), none⟩]) (.ret)) (.skip))) (.seq (.ops [⟨some 55, .mov (.t 3), none⟩, ⟨some 56, .mov (.t 0), none⟩, ⟨some 57, .mov (.t 5), none⟩, ⟨some 58, .idxAddrSl 2 (.t 56) (.t 57), none⟩, ⟨some 59, .load true 2 (.t 58), none⟩, ⟨some 60, .call 8 [.t 55, .t 59], none⟩, ⟨some 54, .mov (.t 60), none⟩, ⟨some 61, .extract (.t 54) 0, none⟩, ⟨some 62, .extract (.t 54) 1, none⟩, ⟨some 6, .mov (.t 61), none⟩, ⟨some 7, .mov (.t 62), none⟩]) (.seq (.ops [⟨some 64, .mov (.t 4), none⟩, ⟨some 65, .mov (.t 0), none⟩, ⟨some 66, .mov (.t 0), none⟩, ⟨some 67, .len (.sl) (.t 66), none⟩, ⟨some 68, .bin (.sub) (.other) (.t 67) (.c (.int (.i64) 1)), none⟩, ⟨some 69, .mov (.t 5), none⟩, ⟨some 70, .bin (.sub) (.other) (.t 68) (.t 69), none⟩, ⟨some 71, .idxAddrSl 2 (.t 65) (.t 70), none⟩, ⟨some 72, .load true 2 (.t 71), none⟩, ⟨some 73, .call 8 [.t 64, .t 72], none⟩, ⟨some 63, .mov (.t 73), none⟩, ⟨some 74, .extract (.t 63) 0, none⟩, ⟨some 75, .extract (.t 63) 1, none⟩, ⟨some 8, .mov (.t 74), none⟩, ⟨some 9, .mov (.t 75), none⟩]) (.seq (.seq (.ops [⟨some 76, .mov (.t 7), none⟩, ⟨some 77, .bin (.neq) (.other) (.t 76) (.c (.int (.i64) 0)), none⟩, ⟨some 78, .mov (.t 77), none⟩, ⟨some 79, .mov (.t 9), some (78, false)⟩, ⟨some 80, .bin (.neq) (.other) (.t 79) (.c (.int (.i64) 0)), some (78, false)⟩, ⟨some 81, .pick (.t 78) (.c (.bool true)) (.t 80), none⟩]) (.cond (.t 81) (.seq (.ops [⟨some 2, .mov (.c (.bool false)), none⟩]) (.ret)) (.skip))) (.ops [⟨some 82, .mov (.t 6), none⟩, ⟨some 83, .mov (.t 8), none⟩, ⟨some 3, .mov (.t 82), none⟩, ⟨some 4, .mov (.t 83), none⟩])))))) (.ops [⟨some 19, .mov (.t 5), none⟩, ⟨some 20, .bin (.add) (.other) (.t 19) (.c (.int (.i64) 1)), none⟩, ⟨some 5, .mov (.t 20), none⟩])))
def L5_1 : SC := (.seq (.seq (.ops [⟨some 84, .mov (.t 10), none⟩, ⟨some 85, .mov (.t 0), none⟩, ⟨some 86, .len (.sl) (.t 85), none⟩, ⟨some 87, .bin (.lss) (.other) (.t 84) (.t 86), none⟩]) (.cond (.t 87) (.skip) (.exit 2))) (.seq (.block 3 (.seq (.ops [⟨some 90, .mov (.t 3), none⟩, ⟨some 91, .mov (.t 0), none⟩, ⟨some 92, .mov (.t 10), none⟩, ⟨some 93, .idxAddrSl 2 (.t 91) (.t 92), none⟩, ⟨some 94, .load true 2 (.t 93), none⟩, ⟨some 95, .call 17 [.t 90, .t 94], none⟩, ⟨some 96, .un (.not) (.t 95), none⟩]) (.cond (.t 96) (.seq (.ops [⟨some 2, .mov (.c (.bool false)), none⟩]) (.ret)) (.skip)))) (.ops [⟨some 88, .mov (.t 10), none⟩, ⟨some 89, .bin (.add) (.other) (.t 88) (.c (.int (.i64) 1)), none⟩, ⟨some 10, .mov (.t 89), none⟩])))
def b5 : SC := .seq (.ops [⟨some 2, .mov (.c (.bool false)), none⟩]) (.seq (.seq (.ops [⟨some 11, .mov (.t 0), none⟩, ⟨some 12, .len (.sl) (.t 11), none⟩, ⟨some 13, .bin (.gtr) (.other) (.t 12) (.c (.int (.i64) 20)), none⟩]) (.cond (.t 13) (.seq (.ops [⟨some 14, .call 7 [], none⟩, ⟨some 2, .mov (.t 14), none⟩]) (.ret)) (.skip))) (.seq (.ops [⟨some 3, .mov (.c (.nilsl)), none⟩, ⟨some 4, .mov (.c (.nilsl)), none⟩]) (.seq (.seq (.ops [⟨some 5, .mov (.c (.int (.i64) 0)), none⟩]) (.block 0 (.loop L5_0))) (.seq (.seq (.ops [⟨some 10, .mov (.c (.int (.i64) 0)), none⟩]) (.block 2 (.loop L5_1))) (.seq (.ops [⟨some 97, .mov (.t 3), none⟩, ⟨some 98, .mov (.t 4), none⟩, ⟨some 99, .call 12 [.t 97, .t 98], none⟩, ⟨some 100, .mov (.t 99), none⟩, ⟨some 101, .call 7 [], some (100, true)⟩, ⟨some 102, .pick (.t 100) (.t 101) (.c (.bool false)), none⟩, ⟨some 2, .mov (.t 102), none⟩]) (.ret))))))
theorem t5 : tab 5 = some ⟨103, [.tmp 2], b5⟩ := rfl
def Sh5 (V va vb : AV) (i : Nat) (tm : List AV) : Prop := tm.length = 103 ∧ tm[0]? = some (V) ∧ tm[3]? = some (va) ∧ tm[4]? = some (vb) ∧ tm[5]? = some (.int .i64 (i : Nat))

theorem round5 {h0 h : Heap} {V va vb : AV} {l A B : List Sp} {i : Nat} (hV : SpAt h V l) (hl : l.length ≤ 20) (hA : SpAt h va A) (hB : SpAt h vb B) (mA : mayP A = true) (mB : mayP B = true) (lA : A.length ≤ 100) (lB : B.length ≤ 100) (hi : i < l.length) {tm : List AV} (ht : Sh5 V va vb i tm) :
    (∃ tm', xcode X1 tab 5 none (.loop L5_0) tm h = some (.ret, tm', h) ∧ tm'.getD 2 undefA = .bool true) ∨
    ∃ tm' va' vb' h', xcode X1 tab 5 none (.loop L5_0) tm h = xcode X1 tab 5 none (.loop L5_0) tm' h' ∧ Sh5 V va' vb' (i + 1) tm' ∧ Grow h h' ∧ SpAt h' va' (addP A (l.getD i (0, 0))) ∧ SpAt h' vb' (addP B (l.getD (l.length - 1 - i) (0, 0))) ∧ (l.getD i (0, 0)).1 ≤ (l.getD i (0, 0)).2 := by
  have hV0 := hV
  match tm, ht with
  | a0 :: a1 :: a2 :: a3 :: a4 :: a5 :: a6 :: a7 :: a8 :: a9 :: a10 :: a11 :: a12 :: a13 :: a14 :: a15 :: a16 :: a17 :: a18 :: a19 :: a20 :: a21 :: a22 :: a23 :: a24 :: a25 :: a26 :: a27 :: a28 :: a29 :: a30 :: a31 :: a32 :: a33 :: a34 :: a35 :: a36 :: a37 :: a38 :: a39 :: a40 :: a41 :: a42 :: a43 :: a44 :: a45 :: a46 :: a47 :: a48 :: a49 :: a50 :: a51 :: a52 :: a53 :: a54 :: a55 :: a56 :: a57 :: a58 :: a59 :: a60 :: a61 :: a62 :: a63 :: a64 :: a65 :: a66 :: a67 :: a68 :: a69 :: a70 :: a71 :: a72 :: a73 :: a74 :: a75 :: a76 :: a77 :: a78 :: a79 :: a80 :: a81 :: a82 :: a83 :: a84 :: a85 :: a86 :: a87 :: a88 :: a89 :: a90 :: a91 :: a92 :: a93 :: a94 :: a95 :: a96 :: a97 :: a98 :: a99 :: a100 :: a101 :: a102 :: [], ht =>
  obtain ⟨_, t0, t3, t4, t5⟩ := ht
  simp only [List.getElem?_cons_zero, List.getElem?_cons_succ, Option.some.injEq] at t0 t3 t4 t5
  replace t0 := t0.symm; replace t3 := t3.symm; replace t4 := t4.symm; replace t5 := t5.symm
  subst t0 t3 t4 t5
  rcases hV.cases with ⟨rfl, rfl⟩ | ⟨id, off, cap, ex, c, ro, rfl, hg, hid, hcl, htk, hc0, hc1⟩
  · exact absurd hi (by simp)
  have hri : ((l.length - 1 : Nat) : Int) - (i : Int) = ((l.length - 1 - i : Nat) : Int) := by omega
  have hi2 : l.length - 1 - i < l.length := by omega
  by_cases q1 : (l.getD i (0, 0)).2 < (l.getD i (0, 0)).1
  · left
    refine ⟨?_, ?_, ?_⟩
    rotate_left
    · rw [show ∀ tm h, xcode X1 tab 5 none (.loop L5_0) tm h = thenX X1 tab 5 none (.loop L5_0) (xcode X1 tab 5 none L5_0 tm h) from fun _ _ => x_loop]
      delta L5_0
      simp (disch := first | omega | (simp only [nx_alloc, nx_set] <;> omega) | (apply Rd.grow; assumption; repeat (first | exact Grow.refl _ | assumption | exact Grow.alloc _ _ | refine Grow.allocR ?_ _ | refine Grow.setR ?_ _ ?_ ?_ | omega | (simp only [nx_alloc, nx_set] <;> omega) | (apply Grow.trans; rotate_left; assumption) | fail)) | fail) only [note_false, Int.reduceBEq, Int.reduceBNe, x_drawn, l_nil, l_op, l_guard, l_some, l_true, l_false, l_draw, readsA, x_true, x_false, x_seq, x_ops, x_cond, x_skip, x_ret, x_exit, x_block, x_then, x_thenE, x_thenR, x_blockN, x_blockR, x_blockE, s_nil, s_op, s_guard, s_some, s_true, s_false, s_put, s_put0, s_opsR, s_ret, s_norm, aop, ev, evs, List.map_cons, List.map_nil, List.cons_append, List.nil_append, List.append_nil, List.replicate, List.take_succ_cons, List.take_zero, List.take_nil, List.drop_succ_cons, List.drop_zero, List.drop_nil, Nat.zero_add, Nat.add_zero, Nat.reduceAdd, Nat.reduceMul, Nat.reduceLeDiff, Bool.false_eq_true, and_self, List.length_cons, List.length_nil, List.set_cons_zero, List.set_cons_succ, List.getD_cons_zero, List.getD_cons_succ, wantedA, List.getElem?_cons_zero, List.getElem?_cons_succ, q_t, q_f, Bool.not_true, Bool.not_false, b_add, b_sub, b_mul, b_eql, b_neq, b_lss, b_leq, b_gtr, b_geq, b_and, b_or, b_xor, b_quo, b_rem, b_shl, b_shr, unA, Option.map_some, Option.map_none, resA, tupA, Int.reduceLT, not_false_eq_true, not_true_eq_false, decide_true, decide_false, f_bool, c_bool, f_int, c_int, f_str, c_str, f_nilptr, c_nilptr, f_ptr, c_ptr, f_nilsl, c_nilsl, f_slice, c_slice, f_nilmap, c_nilmap, f_map, c_map, f_nilf, c_nilf, f_func, c_func, f_yieldf, c_yieldf, f_nilif, c_nilif, f_iface, c_iface, c_agg, List.all_cons, List.all_nil, Bool.and_true, Bool.true_and, if_true, if_false, ite_true, ite_false, ga_new, ga_old, gs_new, gs_old, Heap.next_alloc, Heap.next_set, loadA, storeA, splice, fillA, d_t, d_f, i_t, i_f, beq_t, beq_f, bne_t, bne_f, w_i64, w_u64, w_u32, w_i32, w_u8, Int.toNat_natCast, n_sub1, n_add1, Nat.sub_zero, Nat.mul_one, Nat.one_mul, Nat.zero_mul, List.append_assoc, Option.bind_some, chkLog, same_cells, List.replicate_zero, List.flatten_nil, true_and, and_true, kindsOk, k_0, k_1, k_2, plainEq, Bool.bne_true, Bool.bne_false, beq_self_eq_true, bne_self_eq_false, Int.tdiv_eq_ediv_of_nonneg, Int.tmod_eq_emod_of_nonneg, List.length_nil, hg, htk, hc0, hc1, hri, lives7]
      rfl
    · rfl
  by_cases q2 : (l.getD (l.length - 1 - i) (0, 0)).2 < (l.getD (l.length - 1 - i) (0, 0)).1
  · left
    refine ⟨?_, ?_, ?_⟩
    rotate_left
    · rw [show ∀ tm h, xcode X1 tab 5 none (.loop L5_0) tm h = thenX X1 tab 5 none (.loop L5_0) (xcode X1 tab 5 none L5_0 tm h) from fun _ _ => x_loop]
      delta L5_0
      simp (disch := first | omega | (simp only [nx_alloc, nx_set] <;> omega) | (apply Rd.grow; assumption; repeat (first | exact Grow.refl _ | assumption | exact Grow.alloc _ _ | refine Grow.allocR ?_ _ | refine Grow.setR ?_ _ ?_ ?_ | omega | (simp only [nx_alloc, nx_set] <;> omega) | (apply Grow.trans; rotate_left; assumption) | fail)) | fail) only [note_false, Int.reduceBEq, Int.reduceBNe, x_drawn, l_nil, l_op, l_guard, l_some, l_true, l_false, l_draw, readsA, x_true, x_false, x_seq, x_ops, x_cond, x_skip, x_ret, x_exit, x_block, x_then, x_thenE, x_thenR, x_blockN, x_blockR, x_blockE, s_nil, s_op, s_guard, s_some, s_true, s_false, s_put, s_put0, s_opsR, s_ret, s_norm, aop, ev, evs, List.map_cons, List.map_nil, List.cons_append, List.nil_append, List.append_nil, List.replicate, List.take_succ_cons, List.take_zero, List.take_nil, List.drop_succ_cons, List.drop_zero, List.drop_nil, Nat.zero_add, Nat.add_zero, Nat.reduceAdd, Nat.reduceMul, Nat.reduceLeDiff, Bool.false_eq_true, and_self, List.length_cons, List.length_nil, List.set_cons_zero, List.set_cons_succ, List.getD_cons_zero, List.getD_cons_succ, wantedA, List.getElem?_cons_zero, List.getElem?_cons_succ, q_t, q_f, Bool.not_true, Bool.not_false, b_add, b_sub, b_mul, b_eql, b_neq, b_lss, b_leq, b_gtr, b_geq, b_and, b_or, b_xor, b_quo, b_rem, b_shl, b_shr, unA, Option.map_some, Option.map_none, resA, tupA, Int.reduceLT, not_false_eq_true, not_true_eq_false, decide_true, decide_false, f_bool, c_bool, f_int, c_int, f_str, c_str, f_nilptr, c_nilptr, f_ptr, c_ptr, f_nilsl, c_nilsl, f_slice, c_slice, f_nilmap, c_nilmap, f_map, c_map, f_nilf, c_nilf, f_func, c_func, f_yieldf, c_yieldf, f_nilif, c_nilif, f_iface, c_iface, c_agg, List.all_cons, List.all_nil, Bool.and_true, Bool.true_and, if_true, if_false, ite_true, ite_false, ga_new, ga_old, gs_new, gs_old, Heap.next_alloc, Heap.next_set, loadA, storeA, splice, fillA, d_t, d_f, i_t, i_f, beq_t, beq_f, bne_t, bne_f, w_i64, w_u64, w_u32, w_i32, w_u8, Int.toNat_natCast, n_sub1, n_add1, Nat.sub_zero, Nat.mul_one, Nat.one_mul, Nat.zero_mul, List.append_assoc, Option.bind_some, chkLog, same_cells, List.replicate_zero, List.flatten_nil, true_and, and_true, kindsOk, k_0, k_1, k_2, plainEq, Bool.bne_true, Bool.bne_false, beq_self_eq_true, bne_self_eq_false, Int.tdiv_eq_ediv_of_nonneg, Int.tmod_eq_emod_of_nonneg, List.length_nil, hg, htk, hc0, hc1, hri, lives7]
      rfl
    · rfl
  right
  obtain ⟨v1, h1, e1, g1, m1⟩ := x8 A (l.getD i (0, 0)) hA (by omega)
  rw [show (decide ((l.getD i (0, 0)).1 ≤ (l.getD i (0, 0)).2) && mayP A) = true by rw [mA, decide_eq_true (by omega)]; rfl] at e1 m1
  obtain ⟨v2, h2, e2, g2, m2⟩ := x8 B (l.getD (l.length - 1 - i) (0, 0)) (hB.grow g1) (by omega)
  rw [show (decide ((l.getD (l.length - 1 - i) (0, 0)).1 ≤ (l.getD (l.length - 1 - i) (0, 0)).2) && mayP B) = true by rw [mB, decide_eq_true (by omega)]; rfl] at e2 m2
  rw [if_pos rfl] at e1 m1 e2 m2
  have hg1 := g1.get hg
  refine ⟨?_, v1, v2, h2, ?_, ?_, g1.trans g2, m1.rd.grow g2, m2.rd, by omega⟩
  rotate_left
  · rw [show ∀ tm h, xcode X1 tab 5 none (.loop L5_0) tm h = thenX X1 tab 5 none (.loop L5_0) (xcode X1 tab 5 none L5_0 tm h) from fun _ _ => x_loop]
    delta L5_0
    simp (disch := first | omega | (simp only [nx_alloc, nx_set] <;> omega) | (apply Rd.grow; assumption; repeat (first | exact Grow.refl _ | assumption | exact Grow.alloc _ _ | refine Grow.allocR ?_ _ | refine Grow.setR ?_ _ ?_ ?_ | omega | (simp only [nx_alloc, nx_set] <;> omega) | (apply Grow.trans; rotate_left; assumption) | fail)) | fail) only [note_false, Int.reduceBEq, Int.reduceBNe, x_drawn, l_nil, l_op, l_guard, l_some, l_true, l_false, l_draw, readsA, x_true, x_false, x_seq, x_ops, x_cond, x_skip, x_ret, x_exit, x_block, x_then, x_thenE, x_thenR, x_blockN, x_blockR, x_blockE, s_nil, s_op, s_guard, s_some, s_true, s_false, s_put, s_put0, s_opsR, s_ret, s_norm, aop, ev, evs, List.map_cons, List.map_nil, List.cons_append, List.nil_append, List.append_nil, List.replicate, List.take_succ_cons, List.take_zero, List.take_nil, List.drop_succ_cons, List.drop_zero, List.drop_nil, Nat.zero_add, Nat.add_zero, Nat.reduceAdd, Nat.reduceMul, Nat.reduceLeDiff, Bool.false_eq_true, and_self, List.length_cons, List.length_nil, List.set_cons_zero, List.set_cons_succ, List.getD_cons_zero, List.getD_cons_succ, wantedA, List.getElem?_cons_zero, List.getElem?_cons_succ, q_t, q_f, Bool.not_true, Bool.not_false, b_add, b_sub, b_mul, b_eql, b_neq, b_lss, b_leq, b_gtr, b_geq, b_and, b_or, b_xor, b_quo, b_rem, b_shl, b_shr, unA, Option.map_some, Option.map_none, resA, tupA, Int.reduceLT, not_false_eq_true, not_true_eq_false, decide_true, decide_false, f_bool, c_bool, f_int, c_int, f_str, c_str, f_nilptr, c_nilptr, f_ptr, c_ptr, f_nilsl, c_nilsl, f_slice, c_slice, f_nilmap, c_nilmap, f_map, c_map, f_nilf, c_nilf, f_func, c_func, f_yieldf, c_yieldf, f_nilif, c_nilif, f_iface, c_iface, c_agg, List.all_cons, List.all_nil, Bool.and_true, Bool.true_and, if_true, if_false, ite_true, ite_false, ga_new, ga_old, gs_new, gs_old, Heap.next_alloc, Heap.next_set, loadA, storeA, splice, fillA, d_t, d_f, i_t, i_f, beq_t, beq_f, bne_t, bne_f, w_i64, w_u64, w_u32, w_i32, w_u8, Int.toNat_natCast, n_sub1, n_add1, Nat.sub_zero, Nat.mul_one, Nat.one_mul, Nat.zero_mul, List.append_assoc, Option.bind_some, chkLog, same_cells, List.replicate_zero, List.flatten_nil, true_and, and_true, kindsOk, k_0, k_1, k_2, plainEq, Bool.bne_true, Bool.bne_false, beq_self_eq_true, bne_self_eq_false, Int.tdiv_eq_ediv_of_nonneg, Int.tmod_eq_emod_of_nonneg, List.length_nil, hg, hg1, htk, hc0, hc1, hri, e1, e2]
    rfl
  · exact ⟨rfl, rfl, rfl, rfl, rfl⟩
theorem end5 {h : Heap} {V va vb : AV} {l : List Sp} (hV : SpAt h V l) {tm : List AV} (ht : Sh5 V va vb l.length tm) : ∃ tm', xcode X1 tab 5 none (.loop L5_0) tm h = some (.exit 0, tm', h) ∧ Sh5 V va vb l.length tm' := by
  match tm, ht with
  | a0 :: a1 :: a2 :: a3 :: a4 :: a5 :: a6 :: a7 :: a8 :: a9 :: a10 :: a11 :: a12 :: a13 :: a14 :: a15 :: a16 :: a17 :: a18 :: a19 :: a20 :: a21 :: a22 :: a23 :: a24 :: a25 :: a26 :: a27 :: a28 :: a29 :: a30 :: a31 :: a32 :: a33 :: a34 :: a35 :: a36 :: a37 :: a38 :: a39 :: a40 :: a41 :: a42 :: a43 :: a44 :: a45 :: a46 :: a47 :: a48 :: a49 :: a50 :: a51 :: a52 :: a53 :: a54 :: a55 :: a56 :: a57 :: a58 :: a59 :: a60 :: a61 :: a62 :: a63 :: a64 :: a65 :: a66 :: a67 :: a68 :: a69 :: a70 :: a71 :: a72 :: a73 :: a74 :: a75 :: a76 :: a77 :: a78 :: a79 :: a80 :: a81 :: a82 :: a83 :: a84 :: a85 :: a86 :: a87 :: a88 :: a89 :: a90 :: a91 :: a92 :: a93 :: a94 :: a95 :: a96 :: a97 :: a98 :: a99 :: a100 :: a101 :: a102 :: [], ht =>
  obtain ⟨_, t0, t3, t4, t5⟩ := ht
  simp only [List.getElem?_cons_zero, List.getElem?_cons_succ, Option.some.injEq] at t0 t3 t4 t5
  replace t0 := t0.symm; replace t3 := t3.symm; replace t4 := t4.symm; replace t5 := t5.symm
  subst t0 t3 t4 t5
  rcases hV.cases with ⟨rfl, rfl⟩ | ⟨id, off, cap, ex, c, ro, rfl, hg, hid, hcl, htk, hc0, hc1⟩
  all_goals
    refine ⟨?_, ?_, ?_⟩
    rotate_left
    · rw [show ∀ tm h, xcode X1 tab 5 none (.loop L5_0) tm h = thenX X1 tab 5 none (.loop L5_0) (xcode X1 tab 5 none L5_0 tm h) from fun _ _ => x_loop]
      delta L5_0
      simp (disch := first | omega | (simp only [nx_alloc, nx_set] <;> omega) | (apply Rd.grow; assumption; repeat (first | exact Grow.refl _ | assumption | exact Grow.alloc _ _ | refine Grow.allocR ?_ _ | refine Grow.setR ?_ _ ?_ ?_ | omega | (simp only [nx_alloc, nx_set] <;> omega) | (apply Grow.trans; rotate_left; assumption) | fail)) | fail) only [note_false, Int.reduceBEq, Int.reduceBNe, x_drawn, l_nil, l_op, l_guard, l_some, l_true, l_false, l_draw, readsA, x_true, x_false, x_seq, x_ops, x_cond, x_skip, x_ret, x_exit, x_block, x_then, x_thenE, x_thenR, x_blockN, x_blockR, x_blockE, s_nil, s_op, s_guard, s_some, s_true, s_false, s_put, s_put0, s_opsR, s_ret, s_norm, aop, ev, evs, List.map_cons, List.map_nil, List.cons_append, List.nil_append, List.append_nil, List.replicate, List.take_succ_cons, List.take_zero, List.take_nil, List.drop_succ_cons, List.drop_zero, List.drop_nil, Nat.zero_add, Nat.add_zero, Nat.reduceAdd, Nat.reduceMul, Nat.reduceLeDiff, Bool.false_eq_true, and_self, List.length_cons, List.length_nil, List.set_cons_zero, List.set_cons_succ, List.getD_cons_zero, List.getD_cons_succ, wantedA, List.getElem?_cons_zero, List.getElem?_cons_succ, q_t, q_f, Bool.not_true, Bool.not_false, b_add, b_sub, b_mul, b_eql, b_neq, b_lss, b_leq, b_gtr, b_geq, b_and, b_or, b_xor, b_quo, b_rem, b_shl, b_shr, unA, Option.map_some, Option.map_none, resA, tupA, Int.reduceLT, not_false_eq_true, not_true_eq_false, decide_true, decide_false, f_bool, c_bool, f_int, c_int, f_str, c_str, f_nilptr, c_nilptr, f_ptr, c_ptr, f_nilsl, c_nilsl, f_slice, c_slice, f_nilmap, c_nilmap, f_map, c_map, f_nilf, c_nilf, f_func, c_func, f_yieldf, c_yieldf, f_nilif, c_nilif, f_iface, c_iface, c_agg, List.all_cons, List.all_nil, Bool.and_true, Bool.true_and, if_true, if_false, ite_true, ite_false, ga_new, ga_old, gs_new, gs_old, Heap.next_alloc, Heap.next_set, loadA, storeA, splice, fillA, d_t, d_f, i_t, i_f, beq_t, beq_f, bne_t, bne_f, w_i64, w_u64, w_u32, w_i32, w_u8, Int.toNat_natCast, n_sub1, n_add1, Nat.sub_zero, Nat.mul_one, Nat.one_mul, Nat.zero_mul, List.append_assoc, Option.bind_some, chkLog, same_cells, List.replicate_zero, List.flatten_nil, true_and, and_true, kindsOk, k_0, k_1, k_2, plainEq, Bool.bne_true, Bool.bne_false, beq_self_eq_true, bne_self_eq_false, Int.tdiv_eq_ediv_of_nonneg, Int.tmod_eq_emod_of_nonneg, List.length_nil]
      rfl
    · exact ⟨rfl, rfl, rfl, rfl, rfl⟩
theorem loop5 {h : Heap} {V : AV} {l : List Sp} (hV : SpAt h V l) (hl : l.length ≤ 20) {tm : List AV} (ht : Sh5 V .nilsl .nilsl 0 tm) :
    ∃ e tm' h', xcode X1 tab 5 none (.loop L5_0) tm h = some (e, tm', h') ∧ ((e = .ret ∧ tm'.getD 2 undefA = .bool true) ∨ (e = .exit 0 ∧ ∃ va vb, Sh5 V va vb l.length tm' ∧ Grow h h' ∧ SpAt h' va (l.foldl addP []) ∧ SpAt h' vb (l.reverse.foldl addP []) ∧ ∀ j, j < l.length → (l.getD j (0, 0)).1 ≤ (l.getD j (0, 0)).2)) := by
  have hr : l.reverse.length = l.length := by simp
  refine loop_ind (X := X1) (SP := tab) (self := 5) (rd := none) (L := L5_0) (n := l.length) (fun i tm h' => ∃ va vb, Sh5 V va vb i tm ∧ Grow h h' ∧ SpAt h' va ((l.take i).foldl addP []) ∧ SpAt h' vb ((l.reverse.take i).foldl addP []) ∧ ∀ j, j < i → (l.getD j (0, 0)).1 ≤ (l.getD j (0, 0)).2) _
    (fun i tm h1 hi ⟨va, vb, s1, g1, a1, b1, o1⟩ => ?_) (fun tm h1 ⟨va, vb, s1, g1, a1, b1, o1⟩ => ?_) 0 tm h (Nat.zero_le _) ⟨.nilsl, .nilsl, ht, Grow.refl _, ⟨fun r hr => (by cases hr), .inl ⟨rfl, rfl⟩⟩, ⟨fun r hr => (by cases hr), .inl ⟨rfl, rfl⟩⟩, fun j hj => by omega⟩
  · have la := fold_le l i (by omega)
    have lb := fold_le l.reverse i (by omega)
    rcases round5 (h0 := h) (hV.grow g1) hl a1 b1 (fold_may _) (fold_may _) (by omega) (by omega) hi s1 with ⟨tm', e, r⟩ | ⟨tm', va', vb', h', e, s2, g2, a2, b2, o2⟩
    · exact .inl ⟨_, tm', h1, e, .inl ⟨rfl, r⟩⟩
    · refine .inr ⟨tm', h', e, va', vb', s2, g1.trans g2, ?_, ?_, fun j hj => ?_⟩
      · rw [fold_add hi]; exact a2
      · rw [fold_add (by omega), rev_get hi]; exact b2
      · by_cases hji : j = i
        · subst hji; exact o2
        · exact o1 j (by omega)
  · obtain ⟨tm', e, s2⟩ := end5 (hV.grow g1) s1
    rw [List.take_length] at a1
    rw [show l.reverse.take l.length = l.reverse by rw [← hr, List.take_length]] at b1
    exact ⟨_, tm', h1, e, .inr ⟨rfl, va, vb, s2, g1, a1, b1, o1⟩⟩
def Sh5b (V va vb : AV) (i : Nat) (tm : List AV) : Prop := tm.length = 103 ∧ tm[0]? = some (V) ∧ tm[3]? = some (va) ∧ tm[4]? = some (vb) ∧ tm[10]? = some (.int .i64 (i : Nat))
theorem loop5b {h0 h : Heap} {V va vb : AV} {l A : List Sp} (hV : SpAt h0 V l) (hA : SpAt h0 va A) (hl : l.length ≤ 20) (hl2 : A.length ≤ 1000000) (hh : ∀ i, i < l.length → (decide ((l.getD i (0, 0)).1 ≤ (l.getD i (0, 0)).2) && mayP A && (holdsG (l.getD i (0, 0)) A || emptyP (l.getD i (0, 0)))) = true) {tm : List AV} (g0 : Grow h0 h) (ht0 : Sh5b V va vb 0 tm) : ∃ tm' h', Grow h h' ∧ (((∃ i, i < l.length ∧ (False)) ∧ xcode X1 tab 5 none (.loop L5_1) tm h = some (.ret, tm', h') ∧ True) ∨ ((∀ i, i < l.length → ¬ (False)) ∧ xcode X1 tab 5 none (.loop L5_1) tm h = some (.exit 2, tm', h') ∧ Sh5b V va vb (l.length) tm')) := by
  refine scan_loop Grow.refl Grow.trans (fun i tm => Sh5b V va vb i tm) (fun i => False) (fun tm' => True) ?_ ?_ ?_ g0 ht0
  · intro i tm h hi g hs ht
    replace hs : (False) := hs
    replace ht : Sh5b V va vb i tm := ht
    match tm, ht with
    | a0 :: a1 :: a2 :: a3 :: a4 :: a5 :: a6 :: a7 :: a8 :: a9 :: a10 :: a11 :: a12 :: a13 :: a14 :: a15 :: a16 :: a17 :: a18 :: a19 :: a20 :: a21 :: a22 :: a23 :: a24 :: a25 :: a26 :: a27 :: a28 :: a29 :: a30 :: a31 :: a32 :: a33 :: a34 :: a35 :: a36 :: a37 :: a38 :: a39 :: a40 :: a41 :: a42 :: a43 :: a44 :: a45 :: a46 :: a47 :: a48 :: a49 :: a50 :: a51 :: a52 :: a53 :: a54 :: a55 :: a56 :: a57 :: a58 :: a59 :: a60 :: a61 :: a62 :: a63 :: a64 :: a65 :: a66 :: a67 :: a68 :: a69 :: a70 :: a71 :: a72 :: a73 :: a74 :: a75 :: a76 :: a77 :: a78 :: a79 :: a80 :: a81 :: a82 :: a83 :: a84 :: a85 :: a86 :: a87 :: a88 :: a89 :: a90 :: a91 :: a92 :: a93 :: a94 :: a95 :: a96 :: a97 :: a98 :: a99 :: a100 :: a101 :: a102 :: [], ht =>
    obtain ⟨_, t0, t3, t4, t10⟩ := ht
    simp only [List.getElem?_cons_zero, List.getElem?_cons_succ, Option.some.injEq] at t0 t3 t4 t10
    replace t0 := t0.symm; replace t3 := t3.symm; replace t4 := t4.symm; replace t10 := t10.symm
    subst t0 t3 t4 t10
    rcases (hV.grow g).cases with ⟨rfl, rfl⟩ | ⟨id, off, cap, ex, c, ro, rfl, hg, hid, hcl, htk, hc0, hc1⟩
    · exact absurd hi (by simp)
    have e17 := x17 A (l.getD i (0, 0)) (hA.grow g) hl2
    rw [hh i hi] at e17
    have g17 := g17 A (l.getD i (0, 0)) (hA.grow g) hl2
    all_goals exact hs.elim
    all_goals try (exfalso; omega; done)
    all_goals
      refine ⟨?_, ?_, ?_, ?_, ?_⟩
      rotate_left 2
      · rw [show ∀ tm h, xcode X1 tab 5 none (.loop L5_1) tm h = thenX X1 tab 5 none (.loop L5_1) (xcode X1 tab 5 none L5_1 tm h) from fun _ _ => x_loop]
        delta L5_1
        simp (disch := first | omega | (simp only [nx_alloc, nx_set] <;> omega) | (apply Rd.grow; assumption; repeat (first | exact Grow.refl _ | assumption | exact Grow.alloc _ _ | refine Grow.allocR ?_ _ | refine Grow.setR ?_ _ ?_ ?_ | omega | (simp only [nx_alloc, nx_set] <;> omega) | (apply Grow.trans; rotate_left; assumption) | fail)) | fail) only [note_false, Int.reduceBEq, Int.reduceBNe, x_drawn, l_nil, l_op, l_guard, l_some, l_true, l_false, l_draw, readsA, x_true, x_false, x_seq, x_ops, x_cond, x_skip, x_ret, x_exit, x_block, x_then, x_thenE, x_thenR, x_blockN, x_blockR, x_blockE, s_nil, s_op, s_guard, s_some, s_true, s_false, s_put, s_put0, s_opsR, s_ret, s_norm, aop, ev, evs, List.map_cons, List.map_nil, List.cons_append, List.nil_append, List.append_nil, List.replicate, List.take_succ_cons, List.take_zero, List.take_nil, List.drop_succ_cons, List.drop_zero, List.drop_nil, Nat.zero_add, Nat.add_zero, Nat.reduceAdd, Nat.reduceMul, Nat.reduceLeDiff, Bool.false_eq_true, and_self, List.length_cons, List.length_nil, List.set_cons_zero, List.set_cons_succ, List.getD_cons_zero, List.getD_cons_succ, wantedA, List.getElem?_cons_zero, List.getElem?_cons_succ, q_t, q_f, Bool.not_true, Bool.not_false, b_add, b_sub, b_mul, b_eql, b_neq, b_lss, b_leq, b_gtr, b_geq, b_and, b_or, b_xor, b_quo, b_rem, b_shl, b_shr, unA, Option.map_some, Option.map_none, resA, tupA, Int.reduceLT, not_false_eq_true, not_true_eq_false, decide_true, decide_false, f_bool, c_bool, f_int, c_int, f_str, c_str, f_nilptr, c_nilptr, f_ptr, c_ptr, f_nilsl, c_nilsl, f_slice, c_slice, f_nilmap, c_nilmap, f_map, c_map, f_nilf, c_nilf, f_func, c_func, f_yieldf, c_yieldf, f_nilif, c_nilif, f_iface, c_iface, c_agg, List.all_cons, List.all_nil, Bool.and_true, Bool.true_and, if_true, if_false, ite_true, ite_false, ga_new, ga_old, gs_new, gs_old, Heap.next_alloc, Heap.next_set, loadA, storeA, splice, fillA, d_t, d_f, i_t, i_f, beq_t, beq_f, bne_t, bne_f, w_i64, w_u64, w_u32, w_i32, w_u8, Int.toNat_natCast, n_sub1, n_add1, Nat.sub_zero, Nat.mul_one, Nat.one_mul, Nat.zero_mul, List.append_assoc, Option.bind_some, chkLog, same_cells, List.replicate_zero, List.flatten_nil, true_and, and_true, kindsOk, k_0, k_1, k_2, plainEq, Bool.bne_true, Bool.bne_false, beq_self_eq_true, bne_self_eq_false, Int.tdiv_eq_ediv_of_nonneg, Int.tmod_eq_emod_of_nonneg, List.length_nil, hg, htk, hc0, hc1, e17]
        rfl
      · repeat (first | exact Grow.refl _ | assumption | exact Grow.alloc _ _ | refine Grow.allocR ?_ _ | refine Grow.setR ?_ _ ?_ ?_ | omega | (simp only [nx_alloc, nx_set] <;> omega) | (apply Grow.trans; rotate_left; assumption) | fail)
      · exact trivial
  · intro i tm h hi g hs ht
    replace hs : ¬ (False) := hs
    replace ht : Sh5b V va vb i tm := ht
    match tm, ht with
    | a0 :: a1 :: a2 :: a3 :: a4 :: a5 :: a6 :: a7 :: a8 :: a9 :: a10 :: a11 :: a12 :: a13 :: a14 :: a15 :: a16 :: a17 :: a18 :: a19 :: a20 :: a21 :: a22 :: a23 :: a24 :: a25 :: a26 :: a27 :: a28 :: a29 :: a30 :: a31 :: a32 :: a33 :: a34 :: a35 :: a36 :: a37 :: a38 :: a39 :: a40 :: a41 :: a42 :: a43 :: a44 :: a45 :: a46 :: a47 :: a48 :: a49 :: a50 :: a51 :: a52 :: a53 :: a54 :: a55 :: a56 :: a57 :: a58 :: a59 :: a60 :: a61 :: a62 :: a63 :: a64 :: a65 :: a66 :: a67 :: a68 :: a69 :: a70 :: a71 :: a72 :: a73 :: a74 :: a75 :: a76 :: a77 :: a78 :: a79 :: a80 :: a81 :: a82 :: a83 :: a84 :: a85 :: a86 :: a87 :: a88 :: a89 :: a90 :: a91 :: a92 :: a93 :: a94 :: a95 :: a96 :: a97 :: a98 :: a99 :: a100 :: a101 :: a102 :: [], ht =>
    obtain ⟨_, t0, t3, t4, t10⟩ := ht
    simp only [List.getElem?_cons_zero, List.getElem?_cons_succ, Option.some.injEq] at t0 t3 t4 t10
    replace t0 := t0.symm; replace t3 := t3.symm; replace t4 := t4.symm; replace t10 := t10.symm
    subst t0 t3 t4 t10
    rcases (hV.grow g).cases with ⟨rfl, rfl⟩ | ⟨id, off, cap, ex, c, ro, rfl, hg, hid, hcl, htk, hc0, hc1⟩
    · exact absurd hi (by simp)
    have e17 := x17 A (l.getD i (0, 0)) (hA.grow g) hl2
    rw [hh i hi] at e17
    have g17 := g17 A (l.getD i (0, 0)) (hA.grow g) hl2
    all_goals try (exfalso; omega; done)
    all_goals
      refine ⟨?_, ?_, ?_, ?_, ?_⟩
      rotate_left 2
      · rw [show ∀ tm h, xcode X1 tab 5 none (.loop L5_1) tm h = thenX X1 tab 5 none (.loop L5_1) (xcode X1 tab 5 none L5_1 tm h) from fun _ _ => x_loop]
        delta L5_1
        simp (disch := first | omega | (simp only [nx_alloc, nx_set] <;> omega) | (apply Rd.grow; assumption; repeat (first | exact Grow.refl _ | assumption | exact Grow.alloc _ _ | refine Grow.allocR ?_ _ | refine Grow.setR ?_ _ ?_ ?_ | omega | (simp only [nx_alloc, nx_set] <;> omega) | (apply Grow.trans; rotate_left; assumption) | fail)) | fail) only [note_false, Int.reduceBEq, Int.reduceBNe, x_drawn, l_nil, l_op, l_guard, l_some, l_true, l_false, l_draw, readsA, x_true, x_false, x_seq, x_ops, x_cond, x_skip, x_ret, x_exit, x_block, x_then, x_thenE, x_thenR, x_blockN, x_blockR, x_blockE, s_nil, s_op, s_guard, s_some, s_true, s_false, s_put, s_put0, s_opsR, s_ret, s_norm, aop, ev, evs, List.map_cons, List.map_nil, List.cons_append, List.nil_append, List.append_nil, List.replicate, List.take_succ_cons, List.take_zero, List.take_nil, List.drop_succ_cons, List.drop_zero, List.drop_nil, Nat.zero_add, Nat.add_zero, Nat.reduceAdd, Nat.reduceMul, Nat.reduceLeDiff, Bool.false_eq_true, and_self, List.length_cons, List.length_nil, List.set_cons_zero, List.set_cons_succ, List.getD_cons_zero, List.getD_cons_succ, wantedA, List.getElem?_cons_zero, List.getElem?_cons_succ, q_t, q_f, Bool.not_true, Bool.not_false, b_add, b_sub, b_mul, b_eql, b_neq, b_lss, b_leq, b_gtr, b_geq, b_and, b_or, b_xor, b_quo, b_rem, b_shl, b_shr, unA, Option.map_some, Option.map_none, resA, tupA, Int.reduceLT, not_false_eq_true, not_true_eq_false, decide_true, decide_false, f_bool, c_bool, f_int, c_int, f_str, c_str, f_nilptr, c_nilptr, f_ptr, c_ptr, f_nilsl, c_nilsl, f_slice, c_slice, f_nilmap, c_nilmap, f_map, c_map, f_nilf, c_nilf, f_func, c_func, f_yieldf, c_yieldf, f_nilif, c_nilif, f_iface, c_iface, c_agg, List.all_cons, List.all_nil, Bool.and_true, Bool.true_and, if_true, if_false, ite_true, ite_false, ga_new, ga_old, gs_new, gs_old, Heap.next_alloc, Heap.next_set, loadA, storeA, splice, fillA, d_t, d_f, i_t, i_f, beq_t, beq_f, bne_t, bne_f, w_i64, w_u64, w_u32, w_i32, w_u8, Int.toNat_natCast, n_sub1, n_add1, Nat.sub_zero, Nat.mul_one, Nat.one_mul, Nat.zero_mul, List.append_assoc, Option.bind_some, chkLog, same_cells, List.replicate_zero, List.flatten_nil, true_and, and_true, kindsOk, k_0, k_1, k_2, plainEq, Bool.bne_true, Bool.bne_false, beq_self_eq_true, bne_self_eq_false, Int.tdiv_eq_ediv_of_nonneg, Int.tmod_eq_emod_of_nonneg, List.length_nil, hg, htk, hc0, hc1, e17]
        rfl
      · repeat (first | exact Grow.refl _ | assumption | exact Grow.alloc _ _ | refine Grow.allocR ?_ _ | refine Grow.setR ?_ _ ?_ ?_ | omega | (simp only [nx_alloc, nx_set] <;> omega) | (apply Grow.trans; rotate_left; assumption) | fail)
      · exact ⟨rfl, rfl, rfl, rfl, rfl⟩
  · intro tm h g ht
    replace ht : Sh5b V va vb (l.length) tm := ht
    match tm, ht with
    | a0 :: a1 :: a2 :: a3 :: a4 :: a5 :: a6 :: a7 :: a8 :: a9 :: a10 :: a11 :: a12 :: a13 :: a14 :: a15 :: a16 :: a17 :: a18 :: a19 :: a20 :: a21 :: a22 :: a23 :: a24 :: a25 :: a26 :: a27 :: a28 :: a29 :: a30 :: a31 :: a32 :: a33 :: a34 :: a35 :: a36 :: a37 :: a38 :: a39 :: a40 :: a41 :: a42 :: a43 :: a44 :: a45 :: a46 :: a47 :: a48 :: a49 :: a50 :: a51 :: a52 :: a53 :: a54 :: a55 :: a56 :: a57 :: a58 :: a59 :: a60 :: a61 :: a62 :: a63 :: a64 :: a65 :: a66 :: a67 :: a68 :: a69 :: a70 :: a71 :: a72 :: a73 :: a74 :: a75 :: a76 :: a77 :: a78 :: a79 :: a80 :: a81 :: a82 :: a83 :: a84 :: a85 :: a86 :: a87 :: a88 :: a89 :: a90 :: a91 :: a92 :: a93 :: a94 :: a95 :: a96 :: a97 :: a98 :: a99 :: a100 :: a101 :: a102 :: [], ht =>
    obtain ⟨_, t0, t3, t4, t10⟩ := ht
    simp only [List.getElem?_cons_zero, List.getElem?_cons_succ, Option.some.injEq] at t0 t3 t4 t10
    replace t0 := t0.symm; replace t3 := t3.symm; replace t4 := t4.symm; replace t10 := t10.symm
    subst t0 t3 t4 t10
    rcases (hV.grow g).cases with ⟨rfl, rfl⟩ | ⟨id, off, cap, ex, c, ro, rfl, hg, hid, hcl, htk, hc0, hc1⟩
    all_goals try (exfalso; omega; done)
    all_goals
      refine ⟨?_, ?_, ?_, ?_, ?_⟩
      rotate_left 2
      · rw [show ∀ tm h, xcode X1 tab 5 none (.loop L5_1) tm h = thenX X1 tab 5 none (.loop L5_1) (xcode X1 tab 5 none L5_1 tm h) from fun _ _ => x_loop]
        delta L5_1
        simp (disch := first | omega | (simp only [nx_alloc, nx_set] <;> omega) | (apply Rd.grow; assumption; repeat (first | exact Grow.refl _ | assumption | exact Grow.alloc _ _ | refine Grow.allocR ?_ _ | refine Grow.setR ?_ _ ?_ ?_ | omega | (simp only [nx_alloc, nx_set] <;> omega) | (apply Grow.trans; rotate_left; assumption) | fail)) | fail) only [note_false, Int.reduceBEq, Int.reduceBNe, x_drawn, l_nil, l_op, l_guard, l_some, l_true, l_false, l_draw, readsA, x_true, x_false, x_seq, x_ops, x_cond, x_skip, x_ret, x_exit, x_block, x_then, x_thenE, x_thenR, x_blockN, x_blockR, x_blockE, s_nil, s_op, s_guard, s_some, s_true, s_false, s_put, s_put0, s_opsR, s_ret, s_norm, aop, ev, evs, List.map_cons, List.map_nil, List.cons_append, List.nil_append, List.append_nil, List.replicate, List.take_succ_cons, List.take_zero, List.take_nil, List.drop_succ_cons, List.drop_zero, List.drop_nil, Nat.zero_add, Nat.add_zero, Nat.reduceAdd, Nat.reduceMul, Nat.reduceLeDiff, Bool.false_eq_true, and_self, List.length_cons, List.length_nil, List.set_cons_zero, List.set_cons_succ, List.getD_cons_zero, List.getD_cons_succ, wantedA, List.getElem?_cons_zero, List.getElem?_cons_succ, q_t, q_f, Bool.not_true, Bool.not_false, b_add, b_sub, b_mul, b_eql, b_neq, b_lss, b_leq, b_gtr, b_geq, b_and, b_or, b_xor, b_quo, b_rem, b_shl, b_shr, unA, Option.map_some, Option.map_none, resA, tupA, Int.reduceLT, not_false_eq_true, not_true_eq_false, decide_true, decide_false, f_bool, c_bool, f_int, c_int, f_str, c_str, f_nilptr, c_nilptr, f_ptr, c_ptr, f_nilsl, c_nilsl, f_slice, c_slice, f_nilmap, c_nilmap, f_map, c_map, f_nilf, c_nilf, f_func, c_func, f_yieldf, c_yieldf, f_nilif, c_nilif, f_iface, c_iface, c_agg, List.all_cons, List.all_nil, Bool.and_true, Bool.true_and, if_true, if_false, ite_true, ite_false, ga_new, ga_old, gs_new, gs_old, Heap.next_alloc, Heap.next_set, loadA, storeA, splice, fillA, d_t, d_f, i_t, i_f, beq_t, beq_f, bne_t, bne_f, w_i64, w_u64, w_u32, w_i32, w_u8, Int.toNat_natCast, n_sub1, n_add1, Nat.sub_zero, Nat.mul_one, Nat.one_mul, Nat.zero_mul, List.append_assoc, Option.bind_some, chkLog, same_cells, List.replicate_zero, List.flatten_nil, true_and, and_true, kindsOk, k_0, k_1, k_2, plainEq, Bool.bne_true, Bool.bne_false, beq_self_eq_true, bne_self_eq_false, Int.tdiv_eq_ediv_of_nonneg, Int.tmod_eq_emod_of_nonneg, List.length_nil]
        rfl
      · repeat (first | exact Grow.refl _ | assumption | exact Grow.alloc _ _ | refine Grow.allocR ?_ _ | refine Grow.setR ?_ _ ?_ ?_ | omega | (simp only [nx_alloc, nx_set] <;> omega) | (apply Grow.trans; rotate_left; assumption) | fail)
      · exact ⟨rfl, rfl, rfl, rfl, rfl⟩

theorem go5 (l : List Sp) {h : Heap} {V : AV} (hV : SpAt h V l) : ∃ h', xcall X1 tab (.fn 5) [V] h = some (.bool true, h') := by
  by_cases hl : l.length > 20
  · refine ⟨h, ?_⟩
    rcases hV.cases with ⟨rfl, rfl⟩ | ⟨id, off, cap, ex, c, ro, rfl, hg, hid, hcl, htk, hc0, hc1⟩
    · simp at hl
    rw [x_fn rfl t5]
    delta b5
    simp (disch := first | omega | (simp only [nx_alloc, nx_set] <;> omega) | (apply Rd.grow; assumption; repeat (first | exact Grow.refl _ | assumption | exact Grow.alloc _ _ | refine Grow.allocR ?_ _ | refine Grow.setR ?_ _ ?_ ?_ | omega | (simp only [nx_alloc, nx_set] <;> omega) | (apply Grow.trans; rotate_left; assumption) | fail)) | fail) only [note_false, Int.reduceBEq, Int.reduceBNe, x_drawn, l_nil, l_op, l_guard, l_some, l_true, l_false, l_draw, readsA, x_true, x_false, x_seq, x_ops, x_cond, x_skip, x_ret, x_exit, x_block, x_then, x_thenE, x_thenR, x_blockN, x_blockR, x_blockE, s_nil, s_op, s_guard, s_some, s_true, s_false, s_put, s_put0, s_opsR, s_ret, s_norm, aop, ev, evs, List.map_cons, List.map_nil, List.cons_append, List.nil_append, List.append_nil, List.replicate, List.take_succ_cons, List.take_zero, List.take_nil, List.drop_succ_cons, List.drop_zero, List.drop_nil, Nat.zero_add, Nat.add_zero, Nat.reduceAdd, Nat.reduceMul, Nat.reduceLeDiff, Bool.false_eq_true, and_self, List.length_cons, List.length_nil, List.set_cons_zero, List.set_cons_succ, List.getD_cons_zero, List.getD_cons_succ, wantedA, List.getElem?_cons_zero, List.getElem?_cons_succ, q_t, q_f, Bool.not_true, Bool.not_false, b_add, b_sub, b_mul, b_eql, b_neq, b_lss, b_leq, b_gtr, b_geq, b_and, b_or, b_xor, b_quo, b_rem, b_shl, b_shr, unA, Option.map_some, Option.map_none, resA, tupA, Int.reduceLT, not_false_eq_true, not_true_eq_false, decide_true, decide_false, f_bool, c_bool, f_int, c_int, f_str, c_str, f_nilptr, c_nilptr, f_ptr, c_ptr, f_nilsl, c_nilsl, f_slice, c_slice, f_nilmap, c_nilmap, f_map, c_map, f_nilf, c_nilf, f_func, c_func, f_yieldf, c_yieldf, f_nilif, c_nilif, f_iface, c_iface, c_agg, List.all_cons, List.all_nil, Bool.and_true, Bool.true_and, if_true, if_false, ite_true, ite_false, ga_new, ga_old, gs_new, gs_old, Heap.next_alloc, Heap.next_set, loadA, storeA, splice, fillA, d_t, d_f, i_t, i_f, beq_t, beq_f, bne_t, bne_f, w_i64, w_u64, w_u32, w_i32, w_u8, Int.toNat_natCast, n_sub1, n_add1, Nat.sub_zero, Nat.mul_one, Nat.one_mul, Nat.zero_mul, List.append_assoc, Option.bind_some, chkLog, same_cells, List.replicate_zero, List.flatten_nil, true_and, and_true, kindsOk, k_0, k_1, k_2, plainEq, Bool.bne_true, Bool.bne_false, beq_self_eq_true, bne_self_eq_false, Int.tdiv_eq_ediv_of_nonneg, Int.tmod_eq_emod_of_nonneg, List.length_nil, lives7]
    try rfl
  have hT : Sh5 V .nilsl .nilsl 0 [V, undefA, .bool false, .nilsl, .nilsl, .int (.i64) 0, undefA, undefA, undefA, undefA, undefA, V, .int .i64 (l.length : Nat), .bool false, undefA, undefA, undefA, undefA, undefA, undefA, undefA, undefA, undefA, undefA, undefA, undefA, undefA, undefA, undefA, undefA, undefA, undefA, undefA, undefA, undefA, undefA, undefA, undefA, undefA, undefA, undefA, undefA, undefA, undefA, undefA, undefA, undefA, undefA, undefA, undefA, undefA, undefA, undefA, undefA, undefA, undefA, undefA, undefA, undefA, undefA, undefA, undefA, undefA, undefA, undefA, undefA, undefA, undefA, undefA, undefA, undefA, undefA, undefA, undefA, undefA, undefA, undefA, undefA, undefA, undefA, undefA, undefA, undefA, undefA, undefA, undefA, undefA, undefA, undefA, undefA, undefA, undefA, undefA, undefA, undefA, undefA, undefA, undefA, undefA, undefA, undefA, undefA, undefA] := ⟨rfl, rfl, rfl, rfl, rfl⟩
  obtain ⟨e, tm', h1, e1, hc⟩ := loop5 hV (by omega) hT
  rcases hc with ⟨rfl, hr⟩ | ⟨rfl, va, vb, ht, g1, hA1, hB1, o1⟩
  · refine ⟨h1, ?_⟩
    rcases hV.cases with ⟨rfl, rfl⟩ | ⟨_, _, _, _, _, _, rfl, _⟩
    all_goals try simp only [List.length_nil, Int.natCast_zero] at e1
    all_goals
      rw [x_fn rfl t5]
      delta b5
      simp (disch := first | omega | (simp only [nx_alloc, nx_set] <;> omega) | (apply Rd.grow; assumption; repeat (first | exact Grow.refl _ | assumption | exact Grow.alloc _ _ | refine Grow.allocR ?_ _ | refine Grow.setR ?_ _ ?_ ?_ | omega | (simp only [nx_alloc, nx_set] <;> omega) | (apply Grow.trans; rotate_left; assumption) | fail)) | fail) only [note_false, Int.reduceBEq, Int.reduceBNe, x_drawn, l_nil, l_op, l_guard, l_some, l_true, l_false, l_draw, readsA, x_true, x_false, x_seq, x_ops, x_cond, x_skip, x_ret, x_exit, x_block, x_then, x_thenE, x_thenR, x_blockN, x_blockR, x_blockE, s_nil, s_op, s_guard, s_some, s_true, s_false, s_put, s_put0, s_opsR, s_ret, s_norm, aop, ev, evs, List.map_cons, List.map_nil, List.cons_append, List.nil_append, List.append_nil, List.replicate, List.take_succ_cons, List.take_zero, List.take_nil, List.drop_succ_cons, List.drop_zero, List.drop_nil, Nat.zero_add, Nat.add_zero, Nat.reduceAdd, Nat.reduceMul, Nat.reduceLeDiff, Bool.false_eq_true, and_self, List.length_cons, List.length_nil, List.set_cons_zero, List.set_cons_succ, List.getD_cons_zero, List.getD_cons_succ, wantedA, List.getElem?_cons_zero, List.getElem?_cons_succ, q_t, q_f, Bool.not_true, Bool.not_false, b_add, b_sub, b_mul, b_eql, b_neq, b_lss, b_leq, b_gtr, b_geq, b_and, b_or, b_xor, b_quo, b_rem, b_shl, b_shr, unA, Option.map_some, Option.map_none, resA, tupA, Int.reduceLT, not_false_eq_true, not_true_eq_false, decide_true, decide_false, f_bool, c_bool, f_int, c_int, f_str, c_str, f_nilptr, c_nilptr, f_ptr, c_ptr, f_nilsl, c_nilsl, f_slice, c_slice, f_nilmap, c_nilmap, f_map, c_map, f_nilf, c_nilf, f_func, c_func, f_yieldf, c_yieldf, f_nilif, c_nilif, f_iface, c_iface, c_agg, List.all_cons, List.all_nil, Bool.and_true, Bool.true_and, if_true, if_false, ite_true, ite_false, ga_new, ga_old, gs_new, gs_old, Heap.next_alloc, Heap.next_set, loadA, storeA, splice, fillA, d_t, d_f, i_t, i_f, beq_t, beq_f, bne_t, bne_f, w_i64, w_u64, w_u32, w_i32, w_u8, Int.toNat_natCast, n_sub1, n_add1, Nat.sub_zero, Nat.mul_one, Nat.one_mul, Nat.zero_mul, List.append_assoc, Option.bind_some, chkLog, same_cells, List.replicate_zero, List.flatten_nil, true_and, and_true, kindsOk, k_0, k_1, k_2, plainEq, Bool.bne_true, Bool.bne_false, beq_self_eq_true, bne_self_eq_false, Int.tdiv_eq_ediv_of_nonneg, Int.tmod_eq_emod_of_nonneg, List.length_nil, e1, hr]
      try rfl
  have hA : l.foldl addP [] = addAll l := rfl
  have hB : l.reverse.foldl addP [] = addAll l := addAll_reverse l
  rw [hA] at hA1
  rw [hB] at hB1
  have hle : (addAll l).length ≤ 40 := by have := fold_le l l.length (Nat.le_refl _); rw [List.take_length] at this; unfold addAll; omega
  have hm : mayP (addAll l) = true := fold_may l
  match tm', ht with
  | a0 :: a1 :: a2 :: a3 :: a4 :: a5 :: a6 :: a7 :: a8 :: a9 :: a10 :: a11 :: a12 :: a13 :: a14 :: a15 :: a16 :: a17 :: a18 :: a19 :: a20 :: a21 :: a22 :: a23 :: a24 :: a25 :: a26 :: a27 :: a28 :: a29 :: a30 :: a31 :: a32 :: a33 :: a34 :: a35 :: a36 :: a37 :: a38 :: a39 :: a40 :: a41 :: a42 :: a43 :: a44 :: a45 :: a46 :: a47 :: a48 :: a49 :: a50 :: a51 :: a52 :: a53 :: a54 :: a55 :: a56 :: a57 :: a58 :: a59 :: a60 :: a61 :: a62 :: a63 :: a64 :: a65 :: a66 :: a67 :: a68 :: a69 :: a70 :: a71 :: a72 :: a73 :: a74 :: a75 :: a76 :: a77 :: a78 :: a79 :: a80 :: a81 :: a82 :: a83 :: a84 :: a85 :: a86 :: a87 :: a88 :: a89 :: a90 :: a91 :: a92 :: a93 :: a94 :: a95 :: a96 :: a97 :: a98 :: a99 :: a100 :: a101 :: a102 :: [], ht =>
  obtain ⟨_, t0, t3, t4, t5⟩ := ht
  simp only [List.getElem?_cons_zero, List.getElem?_cons_succ, Option.some.injEq] at t0 t3 t4 t5
  replace t0 := t0.symm; replace t3 := t3.symm; replace t4 := t4.symm; replace t5 := t5.symm
  subst t0 t3 t4 t5
  have hh : ∀ i, i < l.length → (decide ((l.getD i (0, 0)).1 ≤ (l.getD i (0, 0)).2) && mayP (addAll l) && (holdsG (l.getD i (0, 0)) (addAll l) || emptyP (l.getD i (0, 0)))) = true := fun i hi => by
    have := addAll_holds (l := l) (s := l.getD i (0, 0)) (by rw [List.getD_eq_getElem?_getD, List.getElem?_eq_getElem hi]; exact List.getElem_mem hi)
    rw [decide_eq_true (o1 i hi), hm]
    exact this
  obtain ⟨tm2, h2, g2, hc⟩ := loop5b (hV.grow g1) hA1 (by omega) (by omega) hh (Grow.refl _) (vb := vb) (tm := [V, a1, a2, va, vb, .int .i64 (l.length : Nat), a6, a7, a8, a9, .int .i64 0, a11, a12, a13, a14, a15, a16, a17, a18, a19, a20, a21, a22, a23, a24, a25, a26, a27, a28, a29, a30, a31, a32, a33, a34, a35, a36, a37, a38, a39, a40, a41, a42, a43, a44, a45, a46, a47, a48, a49, a50, a51, a52, a53, a54, a55, a56, a57, a58, a59, a60, a61, a62, a63, a64, a65, a66, a67, a68, a69, a70, a71, a72, a73, a74, a75, a76, a77, a78, a79, a80, a81, a82, a83, a84, a85, a86, a87, a88, a89, a90, a91, a92, a93, a94, a95, a96, a97, a98, a99, a100, a101, a102]) ⟨rfl, rfl, rfl, rfl, rfl⟩
  rcases hc with ⟨⟨_, _, hf⟩, _⟩ | ⟨_, e2, ht⟩
  · exact hf.elim
  have e12 := x12 _ _ (hA1.grow g2) (hB1.grow g2) (by omega) (by omega)
  rw [decide_eq_true rfl] at e12
  match tm2, ht with
  | b0 :: b1 :: b2 :: b3 :: b4 :: b5 :: b6 :: b7 :: b8 :: b9 :: b10 :: b11 :: b12 :: b13 :: b14 :: b15 :: b16 :: b17 :: b18 :: b19 :: b20 :: b21 :: b22 :: b23 :: b24 :: b25 :: b26 :: b27 :: b28 :: b29 :: b30 :: b31 :: b32 :: b33 :: b34 :: b35 :: b36 :: b37 :: b38 :: b39 :: b40 :: b41 :: b42 :: b43 :: b44 :: b45 :: b46 :: b47 :: b48 :: b49 :: b50 :: b51 :: b52 :: b53 :: b54 :: b55 :: b56 :: b57 :: b58 :: b59 :: b60 :: b61 :: b62 :: b63 :: b64 :: b65 :: b66 :: b67 :: b68 :: b69 :: b70 :: b71 :: b72 :: b73 :: b74 :: b75 :: b76 :: b77 :: b78 :: b79 :: b80 :: b81 :: b82 :: b83 :: b84 :: b85 :: b86 :: b87 :: b88 :: b89 :: b90 :: b91 :: b92 :: b93 :: b94 :: b95 :: b96 :: b97 :: b98 :: b99 :: b100 :: b101 :: b102 :: [], ht =>
  obtain ⟨_, t0, t3, t4, t10⟩ := ht
  simp only [List.getElem?_cons_zero, List.getElem?_cons_succ, Option.some.injEq] at t0 t3 t4 t10
  replace t0 := t0.symm; replace t3 := t3.symm; replace t4 := t4.symm; replace t10 := t10.symm
  subst t0 t3 t4 t10
  refine ⟨h2, ?_⟩
  rcases hV.cases with ⟨rfl, rfl⟩ | ⟨_, _, _, _, _, _, rfl, _⟩
  all_goals try simp only [List.length_nil, Int.natCast_zero] at e1 e2
  all_goals
    rw [x_fn rfl t5]
    delta b5
    simp (disch := first | omega | (simp only [nx_alloc, nx_set] <;> omega) | (apply Rd.grow; assumption; repeat (first | exact Grow.refl _ | assumption | exact Grow.alloc _ _ | refine Grow.allocR ?_ _ | refine Grow.setR ?_ _ ?_ ?_ | omega | (simp only [nx_alloc, nx_set] <;> omega) | (apply Grow.trans; rotate_left; assumption) | fail)) | fail) only [note_false, Int.reduceBEq, Int.reduceBNe, x_drawn, l_nil, l_op, l_guard, l_some, l_true, l_false, l_draw, readsA, x_true, x_false, x_seq, x_ops, x_cond, x_skip, x_ret, x_exit, x_block, x_then, x_thenE, x_thenR, x_blockN, x_blockR, x_blockE, s_nil, s_op, s_guard, s_some, s_true, s_false, s_put, s_put0, s_opsR, s_ret, s_norm, aop, ev, evs, List.map_cons, List.map_nil, List.cons_append, List.nil_append, List.append_nil, List.replicate, List.take_succ_cons, List.take_zero, List.take_nil, List.drop_succ_cons, List.drop_zero, List.drop_nil, Nat.zero_add, Nat.add_zero, Nat.reduceAdd, Nat.reduceMul, Nat.reduceLeDiff, Bool.false_eq_true, and_self, List.length_cons, List.length_nil, List.set_cons_zero, List.set_cons_succ, List.getD_cons_zero, List.getD_cons_succ, wantedA, List.getElem?_cons_zero, List.getElem?_cons_succ, q_t, q_f, Bool.not_true, Bool.not_false, b_add, b_sub, b_mul, b_eql, b_neq, b_lss, b_leq, b_gtr, b_geq, b_and, b_or, b_xor, b_quo, b_rem, b_shl, b_shr, unA, Option.map_some, Option.map_none, resA, tupA, Int.reduceLT, not_false_eq_true, not_true_eq_false, decide_true, decide_false, f_bool, c_bool, f_int, c_int, f_str, c_str, f_nilptr, c_nilptr, f_ptr, c_ptr, f_nilsl, c_nilsl, f_slice, c_slice, f_nilmap, c_nilmap, f_map, c_map, f_nilf, c_nilf, f_func, c_func, f_yieldf, c_yieldf, f_nilif, c_nilif, f_iface, c_iface, c_agg, List.all_cons, List.all_nil, Bool.and_true, Bool.true_and, if_true, if_false, ite_true, ite_false, ga_new, ga_old, gs_new, gs_old, Heap.next_alloc, Heap.next_set, loadA, storeA, splice, fillA, d_t, d_f, i_t, i_f, beq_t, beq_f, bne_t, bne_f, w_i64, w_u64, w_u32, w_i32, w_u8, Int.toNat_natCast, n_sub1, n_add1, Nat.sub_zero, Nat.mul_one, Nat.one_mul, Nat.zero_mul, List.append_assoc, Option.bind_some, chkLog, same_cells, List.replicate_zero, List.flatten_nil, true_and, and_true, kindsOk, k_0, k_1, k_2, plainEq, Bool.bne_true, Bool.bne_false, beq_self_eq_true, bne_self_eq_false, Int.tdiv_eq_ediv_of_nonneg, Int.tmod_eq_emod_of_nonneg, List.length_nil, e1, e2, e12, lives7]
    try rfl
theorem run5 (M : Nat) : ∀ h xs, argsT Try.prog M h 5 Try.f5.params.toList xs → argsX Try.prog M 5 Try.f5.params.toList emptyHeap xs h →
    ∃ n h', acall X1 tab n (.fn 5) xs h = some (.bool true, h') ∨ (AV.bares xs = true ∧ acall X1 tab n (.fn 5) xs emptyHeap = some (.bool true, h')) := by
  intro h xs _ hx
  rw [Try.params5] at hx
  obtain ⟨a, _, h1, rfl, ha, hx⟩ := argsX_cons hx
  obtain ⟨rfl, rfl⟩ := argsX_nil hx
  obtain ⟨l, hV, _⟩ := arg_spans ha
  obtain ⟨h', e⟩ := go5 l hV
  exact ranX e
end Go.Proofs.Ytplbampjponnpaa.Ya

