/-
  Net, law NetPlays: the run.
-/
import Derived.Test.YtdgpjefbdocepaaYaNetPlays0
namespace Go.Proofs.Ytdgpjefbdocepaa.Ya
open Go.Ya
set_option linter.unusedVariables false
set_option linter.unusedSimpArgs false
set_option maxRecDepth 100000
set_option maxHeartbeats 8000000

theorem new6 (h : Heap) : xcall X1 tab (.fn 6) [] h = some (.ptr h.next 0, h.alloc (.cells [.nilsl, .bool true] false)) := by
  rw [x_fn rfl (show tab 6 = some sf6 from rfl)]
  simp (decide := true) only [note_false, x_drawn, l_nil, l_op, l_guard, l_some, l_true, l_false, l_draw, readsA, x_true, x_false, x_seq, x_ops, x_cond, x_skip, x_ret, x_exit, x_block, x_then, x_thenE, x_thenR, x_blockN, x_blockR, x_blockE, s_nil, s_op, s_guard, s_some, s_true, s_false, s_put, s_put0, s_opsR, s_ret, s_norm, aop, ev, evs, List.map_cons, List.map_nil, List.cons_append, List.nil_append, List.append_nil, List.replicate, List.take_succ_cons, List.take_zero, List.take_nil, List.drop_succ_cons, List.drop_zero, List.drop_nil, Nat.zero_add, Nat.add_zero, Nat.reduceAdd, Nat.reduceMul, Nat.reduceLeDiff, Bool.false_eq_true, and_self, List.length_cons, List.length_nil, List.set_cons_zero, List.set_cons_succ, List.getD_cons_zero, List.getD_cons_succ, wantedA, List.getElem?_cons_zero, List.getElem?_cons_succ, q_t, q_f, Bool.not_true, Bool.not_false, b_add, b_sub, b_mul, b_eql, b_neq, b_lss, b_leq, b_gtr, b_geq, b_and, b_or, b_xor, b_quo, b_rem, b_shl, b_shr, unA, Option.map_some, Option.map_none, resA, tupA, Int.reduceLT, not_false_eq_true, not_true_eq_false, decide_true, decide_false, f_bool, c_bool, f_int, c_int, f_str, c_str, f_nilptr, c_nilptr, f_ptr, c_ptr, f_nilsl, c_nilsl, f_slice, c_slice, f_nilmap, c_nilmap, f_map, c_map, f_nilf, c_nilf, f_func, c_func, f_yieldf, c_yieldf, f_nilif, c_nilif, f_iface, c_iface, c_agg, List.all_cons, List.all_nil, Bool.and_true, Bool.true_and, if_true, if_false, ite_true, ite_false, fillA, splice]
theorem out4 {h : Heap} {b n r len : Nat} {by_ : Int} {i : Nat} {tm : List AV} (ht : Sh4 b n r len by_ i tm) (hi : ¬ (i < len ∧ i < 100)) :
    ∃ tm', xcode X1 tab 4 none (.loop body4) tm h = some (.exit 0, tm', h) ∧ tm'.length = 116 := by
  by_cases h1 : i < len
  · have hlt : (i : Int) < (len : Int) := by omega
    have hlt2 : ¬ (i : Int) < 100 := by omega
    match tm, ht with
    | a0 :: a1 :: a2 :: a3 :: a4 :: a5 :: a6 :: a7 :: a8 :: a9 :: a10 :: a11 :: a12 :: a13 :: a14 :: a15 :: a16 :: a17 :: a18 :: a19 :: a20 :: a21 :: a22 :: a23 :: a24 :: a25 :: a26 :: a27 :: a28 :: a29 :: a30 :: a31 :: a32 :: a33 :: a34 :: a35 :: a36 :: a37 :: a38 :: a39 :: a40 :: a41 :: a42 :: a43 :: a44 :: a45 :: a46 :: a47 :: a48 :: a49 :: a50 :: a51 :: a52 :: a53 :: a54 :: a55 :: a56 :: a57 :: a58 :: a59 :: a60 :: a61 :: a62 :: a63 :: a64 :: a65 :: a66 :: a67 :: a68 :: a69 :: a70 :: a71 :: a72 :: a73 :: a74 :: a75 :: a76 :: a77 :: a78 :: a79 :: a80 :: a81 :: a82 :: a83 :: a84 :: a85 :: a86 :: a87 :: a88 :: a89 :: a90 :: a91 :: a92 :: a93 :: a94 :: a95 :: a96 :: a97 :: a98 :: a99 :: a100 :: a101 :: a102 :: a103 :: a104 :: a105 :: a106 :: a107 :: a108 :: a109 :: a110 :: a111 :: a112 :: a113 :: a114 :: a115 :: [], ht =>
    obtain ⟨_, t0, t1, t5, t6, t7⟩ := ht
    simp only [List.getElem?_cons_zero, List.getElem?_cons_succ, Option.some.injEq] at t0 t1 t5 t6 t7
    replace t0 := t0.symm; replace t1 := t1.symm; replace t5 := t5.symm; replace t6 := t6.symm; replace t7 := t7.symm
    subst t0 t1 t5 t6 t7
    refine ⟨?tmA, ?runA, ?shA⟩
    case runA =>
      rw [show ∀ tm h, xcode X1 tab 4 none (.loop body4) tm h = thenX X1 tab 4 none (.loop body4) (xcode X1 tab 4 none body4 tm h) from fun _ _ => x_loop]
      delta body4
      simp (decide := true) only [note_false, x_drawn, l_nil, l_op, l_guard, l_some, l_true, l_false, l_draw, readsA, x_true, x_false, x_seq, x_ops, x_cond, x_skip, x_ret, x_exit, x_block, x_then, x_thenE, x_thenR, x_blockN, x_blockR, x_blockE, s_nil, s_op, s_guard, s_some, s_true, s_false, s_put, s_put0, s_opsR, s_ret, s_norm, aop, ev, evs, List.map_cons, List.map_nil, List.cons_append, List.nil_append, List.append_nil, List.replicate, List.take_succ_cons, List.take_zero, List.take_nil, List.drop_succ_cons, List.drop_zero, List.drop_nil, Nat.zero_add, Nat.add_zero, Nat.reduceAdd, Nat.reduceMul, Nat.reduceLeDiff, Bool.false_eq_true, and_self, List.length_cons, List.length_nil, List.set_cons_zero, List.set_cons_succ, List.getD_cons_zero, List.getD_cons_succ, wantedA, List.getElem?_cons_zero, List.getElem?_cons_succ, q_t, q_f, Bool.not_true, Bool.not_false, b_add, b_sub, b_mul, b_eql, b_neq, b_lss, b_leq, b_gtr, b_geq, b_and, b_or, b_xor, b_quo, b_rem, b_shl, b_shr, unA, Option.map_some, Option.map_none, resA, tupA, Int.reduceLT, not_false_eq_true, not_true_eq_false, decide_true, decide_false, f_bool, c_bool, f_int, c_int, f_str, c_str, f_nilptr, c_nilptr, f_ptr, c_ptr, f_nilsl, c_nilsl, f_slice, c_slice, f_nilmap, c_nilmap, f_map, c_map, f_nilf, c_nilf, f_func, c_func, f_yieldf, c_yieldf, f_nilif, c_nilif, f_iface, c_iface, c_agg, List.all_cons, List.all_nil, Bool.and_true, Bool.true_and, if_true, if_false, ite_true, ite_false, hlt, hlt2]
      rfl
    case shA => rfl
  · have hlt : ¬ (i : Int) < (len : Int) := by omega
    match tm, ht with
    | a0 :: a1 :: a2 :: a3 :: a4 :: a5 :: a6 :: a7 :: a8 :: a9 :: a10 :: a11 :: a12 :: a13 :: a14 :: a15 :: a16 :: a17 :: a18 :: a19 :: a20 :: a21 :: a22 :: a23 :: a24 :: a25 :: a26 :: a27 :: a28 :: a29 :: a30 :: a31 :: a32 :: a33 :: a34 :: a35 :: a36 :: a37 :: a38 :: a39 :: a40 :: a41 :: a42 :: a43 :: a44 :: a45 :: a46 :: a47 :: a48 :: a49 :: a50 :: a51 :: a52 :: a53 :: a54 :: a55 :: a56 :: a57 :: a58 :: a59 :: a60 :: a61 :: a62 :: a63 :: a64 :: a65 :: a66 :: a67 :: a68 :: a69 :: a70 :: a71 :: a72 :: a73 :: a74 :: a75 :: a76 :: a77 :: a78 :: a79 :: a80 :: a81 :: a82 :: a83 :: a84 :: a85 :: a86 :: a87 :: a88 :: a89 :: a90 :: a91 :: a92 :: a93 :: a94 :: a95 :: a96 :: a97 :: a98 :: a99 :: a100 :: a101 :: a102 :: a103 :: a104 :: a105 :: a106 :: a107 :: a108 :: a109 :: a110 :: a111 :: a112 :: a113 :: a114 :: a115 :: [], ht =>
    obtain ⟨_, t0, t1, t5, t6, t7⟩ := ht
    simp only [List.getElem?_cons_zero, List.getElem?_cons_succ, Option.some.injEq] at t0 t1 t5 t6 t7
    replace t0 := t0.symm; replace t1 := t1.symm; replace t5 := t5.symm; replace t6 := t6.symm; replace t7 := t7.symm
    subst t0 t1 t5 t6 t7
    refine ⟨?tmB, ?runB, ?shB⟩
    case runB =>
      rw [show ∀ tm h, xcode X1 tab 4 none (.loop body4) tm h = thenX X1 tab 4 none (.loop body4) (xcode X1 tab 4 none body4 tm h) from fun _ _ => x_loop]
      delta body4
      simp (decide := true) only [note_false, x_drawn, l_nil, l_op, l_guard, l_some, l_true, l_false, l_draw, readsA, x_true, x_false, x_seq, x_ops, x_cond, x_skip, x_ret, x_exit, x_block, x_then, x_thenE, x_thenR, x_blockN, x_blockR, x_blockE, s_nil, s_op, s_guard, s_some, s_true, s_false, s_put, s_put0, s_opsR, s_ret, s_norm, aop, ev, evs, List.map_cons, List.map_nil, List.cons_append, List.nil_append, List.append_nil, List.replicate, List.take_succ_cons, List.take_zero, List.take_nil, List.drop_succ_cons, List.drop_zero, List.drop_nil, Nat.zero_add, Nat.add_zero, Nat.reduceAdd, Nat.reduceMul, Nat.reduceLeDiff, Bool.false_eq_true, and_self, List.length_cons, List.length_nil, List.set_cons_zero, List.set_cons_succ, List.getD_cons_zero, List.getD_cons_succ, wantedA, List.getElem?_cons_zero, List.getElem?_cons_succ, q_t, q_f, Bool.not_true, Bool.not_false, b_add, b_sub, b_mul, b_eql, b_neq, b_lss, b_leq, b_gtr, b_geq, b_and, b_or, b_xor, b_quo, b_rem, b_shl, b_shr, unA, Option.map_some, Option.map_none, resA, tupA, Int.reduceLT, not_false_eq_true, not_true_eq_false, decide_true, decide_false, f_bool, c_bool, f_int, c_int, f_str, c_str, f_nilptr, c_nilptr, f_ptr, c_ptr, f_nilsl, c_nilsl, f_slice, c_slice, f_nilmap, c_nilmap, f_map, c_map, f_nilf, c_nilf, f_func, c_func, f_yieldf, c_yieldf, f_nilif, c_nilif, f_iface, c_iface, c_agg, List.all_cons, List.all_nil, Bool.and_true, Bool.true_and, if_true, if_false, ite_true, ite_false, hlt]
      rfl
    case shB => rfl

/-- A slice of acts, at the arguments. -/
def ActsAt (h0 : Heap) (b : Nat) (rows : List (List AV)) : Prop := b < h0.next ∧ h0.get b = some (.cells rows.flatten true) ∧ (∀ r ∈ rows, r.length = 5) ∧ ∀ (i : Nat) (row : List AV), rows[i]? = some row → ∃ a, ActAt h0 row a

theorem loop4 {h0 : Heap} {b n r len : Nat} {by_ : Int} {rows : List (List AV)} (ha : ActsAt h0 b rows) (hlen : rows.length = len) : ∀ (d i : Nat) (h : Heap) (l : List Msg) (tm : List AV), 100 ≤ i + d → Sh4 b n r len by_ i tm → Inv h0 h n r l →
    ∃ tm' h', xcode X1 tab 4 none (.loop body4) tm h = some (.exit 0, tm', h') ∧ tm'.length = 116 := by
  intro d
  induction d with
  | zero =>
    intro i h l tm hd ht hv
    obtain ⟨tm', e, e2⟩ := out4 (h := h) ht (by omega)
    exact ⟨tm', h, e, e2⟩
  | succ d ih =>
    intro i h l tm hd ht hv
    by_cases hi : i < len ∧ i < 100
    · obtain ⟨a1, a2, a3, a4⟩ := ha
      have hlt : i < rows.length := by omega
      obtain ⟨a, haa⟩ := a4 i _ (List.getElem?_eq_getElem hlt)
      have key : ∃ tm' h' l', xcode X1 tab 4 none (.loop body4) tm h = xcode X1 tab 4 none (.loop body4) tm' h' ∧ Sh4 b n r len by_ (i + 1) tm' ∧ Inv h0 h' n r l' := by
        cases c0 : (a.act == 0)
        · cases c3 : (a.act == 3)
          · exact round4take ht a1 a2 a3 hlen (List.getElem?_eq_getElem hlt) haa hi.2 hv c0 c3
          · exact round4drop ht a1 a2 a3 hlen (List.getElem?_eq_getElem hlt) haa hi.2 hv c0 c3
        · exact round4send ht a1 a2 a3 hlen (List.getElem?_eq_getElem hlt) haa hi.2 hv c0
      obtain ⟨tm', h', l', e, ht', hv'⟩ := key
      obtain ⟨tm2, h2, e2, e3⟩ := ih (i + 1) h' l' tm' (by omega) ht' hv'
      exact ⟨tm2, h2, e.trans e2, e3⟩
    · obtain ⟨tm', e, e2⟩ := out4 (h := h) ht hi
      exact ⟨tm', h, e, e2⟩
theorem tail4_spec {h : Heap} {tm : List AV} (hl : tm.length = 116) : ∃ tm', xcode X1 tab 4 none tail4 tm h = some (.ret, tm', h) ∧ tm'.getD 4 undefA = .bool true := by
  refine ⟨(tm.set 115 (.bool true)).set 4 (.bool true), ?_, ?_⟩
  · delta tail4
    have hgd : (tm.set 115 (AV.bool true)).getD 115 undefA = .bool true := by rw [List.getD_eq_getElem?_getD, List.getElem?_set_self (by omega)]; rfl
    simp only [note_false, x_drawn, l_nil, l_op, l_guard, l_some, l_true, l_false, l_draw, readsA, x_true, x_false, x_seq, x_ops, x_cond, x_skip, x_ret, x_exit, x_block, x_then, x_thenE, x_thenR, x_blockN, x_blockR, x_blockE, s_nil, s_op, s_guard, s_some, s_true, s_false, s_put, s_put0, s_opsR, s_ret, s_norm, aop, ev, evs, List.map_cons, List.map_nil, List.cons_append, List.nil_append, List.append_nil, List.replicate, List.take_succ_cons, List.take_zero, List.take_nil, List.drop_succ_cons, List.drop_zero, List.drop_nil, Nat.zero_add, Nat.add_zero, Nat.reduceAdd, Nat.reduceMul, Nat.reduceLeDiff, Bool.false_eq_true, and_self, List.length_cons, List.length_nil, List.set_cons_zero, List.set_cons_succ, List.getD_cons_zero, List.getD_cons_succ, wantedA, List.getElem?_cons_zero, List.getElem?_cons_succ, q_t, q_f, Bool.not_true, Bool.not_false, b_add, b_sub, b_mul, b_eql, b_neq, b_lss, b_leq, b_gtr, b_geq, b_and, b_or, b_xor, b_quo, b_rem, b_shl, b_shr, unA, Option.map_some, Option.map_none, resA, tupA, Int.reduceLT, not_false_eq_true, not_true_eq_false, decide_true, decide_false, f_bool, c_bool, f_int, c_int, f_str, c_str, f_nilptr, c_nilptr, f_ptr, c_ptr, f_nilsl, c_nilsl, f_slice, c_slice, f_nilmap, c_nilmap, f_map, c_map, f_nilf, c_nilf, f_func, c_func, f_yieldf, c_yieldf, f_nilif, c_nilif, f_iface, c_iface, c_agg, List.all_cons, List.all_nil, Bool.and_true, Bool.true_and, if_true, if_false, ite_true, ite_false, lives10, hgd]
  · rw [List.getD_eq_getElem?_getD, List.getElem?_set_self (by simp; omega)]; rfl

theorem go4nil (h : Heap) (by_ : Int) : ∃ h', xcall X1 tab (.fn 4) [.nilsl, .int .u8 by_] h = some (.bool true, h') := by
  have hH : ∃ H, h.alloc (.cells [.nilsl, .bool true] false) = H ∧ H.next = h.next + 1 := ⟨_, rfl, by simp⟩
  obtain ⟨H, hA, hn⟩ := hH
  have key : ∃ tm', xcode X1 tab 4 none (.loop body4) [.nilsl, .int .u8 by_, undefA, undefA, .bool false, .ptr h.next 0, .ptr (h.next + 1) 0, .int .i64 0, undefA, undefA, undefA, undefA, undefA, undefA, .ptr h.next 0, .agg [.nilsl], .ptr (h.next + 1) 0, .ptr h.next 0, .bool false, undefA, undefA, undefA, undefA, undefA, undefA, undefA, undefA, undefA, undefA, undefA, undefA, undefA, undefA, undefA, undefA, undefA, undefA, undefA, undefA, undefA, undefA, undefA, undefA, undefA, undefA, undefA, undefA, undefA, undefA, undefA, undefA, undefA, undefA, undefA, undefA, undefA, undefA, undefA, undefA, undefA, undefA, undefA, undefA, undefA, undefA, undefA, undefA, undefA, undefA, undefA, undefA, undefA, undefA, undefA, undefA, undefA, undefA, undefA, undefA, undefA, undefA, undefA, undefA, undefA, undefA, undefA, undefA, undefA, undefA, undefA, undefA, undefA, undefA, undefA, undefA, undefA, undefA, undefA, undefA, undefA, undefA, undefA, undefA, undefA, undefA, undefA, undefA, undefA, undefA, undefA, undefA, undefA, undefA, undefA, undefA, undefA] (H.alloc (.cells [.nilsl] false)) = some (.exit 0, tm', H.alloc (.cells [.nilsl] false)) ∧ tm'.length = 116 := by
    refine ⟨?tm, ?run, ?sh⟩
    case run =>
      rw [show ∀ tm h, xcode X1 tab 4 none (.loop body4) tm h = thenX X1 tab 4 none (.loop body4) (xcode X1 tab 4 none body4 tm h) from fun _ _ => x_loop]
      delta body4
      simp (decide := true) only [note_false, x_drawn, l_nil, l_op, l_guard, l_some, l_true, l_false, l_draw, readsA, x_true, x_false, x_seq, x_ops, x_cond, x_skip, x_ret, x_exit, x_block, x_then, x_thenE, x_thenR, x_blockN, x_blockR, x_blockE, s_nil, s_op, s_guard, s_some, s_true, s_false, s_put, s_put0, s_opsR, s_ret, s_norm, aop, ev, evs, List.map_cons, List.map_nil, List.cons_append, List.nil_append, List.append_nil, List.replicate, List.take_succ_cons, List.take_zero, List.take_nil, List.drop_succ_cons, List.drop_zero, List.drop_nil, Nat.zero_add, Nat.add_zero, Nat.reduceAdd, Nat.reduceMul, Nat.reduceLeDiff, Bool.false_eq_true, and_self, List.length_cons, List.length_nil, List.set_cons_zero, List.set_cons_succ, List.getD_cons_zero, List.getD_cons_succ, wantedA, List.getElem?_cons_zero, List.getElem?_cons_succ, q_t, q_f, Bool.not_true, Bool.not_false, b_add, b_sub, b_mul, b_eql, b_neq, b_lss, b_leq, b_gtr, b_geq, b_and, b_or, b_xor, b_quo, b_rem, b_shl, b_shr, unA, Option.map_some, Option.map_none, resA, tupA, Int.reduceLT, not_false_eq_true, not_true_eq_false, decide_true, decide_false, f_bool, c_bool, f_int, c_int, f_str, c_str, f_nilptr, c_nilptr, f_ptr, c_ptr, f_nilsl, c_nilsl, f_slice, c_slice, f_nilmap, c_nilmap, f_map, c_map, f_nilf, c_nilf, f_func, c_func, f_yieldf, c_yieldf, f_nilif, c_nilif, f_iface, c_iface, c_agg, List.all_cons, List.all_nil, Bool.and_true, Bool.true_and, if_true, if_false, ite_true, ite_false]
      rfl
    case sh => rfl
  obtain ⟨tm1, e1, e2⟩ := key
  obtain ⟨tm2, e3, e4⟩ := tail4_spec (h := H.alloc (.cells [.nilsl] false)) e2
  refine ⟨H.alloc (.cells [.nilsl] false), ?_⟩
  rw [x_fn rfl (show tab 4 = some ⟨116, [.tmp 4], sf4.body⟩ from rfl), body4_eq]
  simp (decide := true) only [note_false, x_drawn, l_nil, l_op, l_guard, l_some, l_true, l_false, l_draw, readsA, x_true, x_false, x_seq, x_ops, x_cond, x_skip, x_ret, x_exit, x_block, x_then, x_thenE, x_thenR, x_blockN, x_blockR, x_blockE, s_nil, s_op, s_guard, s_some, s_true, s_false, s_put, s_put0, s_opsR, s_ret, s_norm, aop, ev, evs, List.map_cons, List.map_nil, List.cons_append, List.nil_append, List.append_nil, List.replicate, List.take_succ_cons, List.take_zero, List.take_nil, List.drop_succ_cons, List.drop_zero, List.drop_nil, Nat.zero_add, Nat.add_zero, Nat.reduceAdd, Nat.reduceMul, Nat.reduceLeDiff, Bool.false_eq_true, and_self, List.length_cons, List.length_nil, List.set_cons_zero, List.set_cons_succ, List.getD_cons_zero, List.getD_cons_succ, wantedA, List.getElem?_cons_zero, List.getElem?_cons_succ, q_t, q_f, Bool.not_true, Bool.not_false, b_add, b_sub, b_mul, b_eql, b_neq, b_lss, b_leq, b_gtr, b_geq, b_and, b_or, b_xor, b_quo, b_rem, b_shl, b_shr, unA, Option.map_some, Option.map_none, resA, tupA, Int.reduceLT, not_false_eq_true, not_true_eq_false, decide_true, decide_false, f_bool, c_bool, f_int, c_int, f_str, c_str, f_nilptr, c_nilptr, f_ptr, c_ptr, f_nilsl, c_nilsl, f_slice, c_slice, f_nilmap, c_nilmap, f_map, c_map, f_nilf, c_nilf, f_func, c_func, f_yieldf, c_yieldf, f_nilif, c_nilif, f_iface, c_iface, c_agg, List.all_cons, List.all_nil, Bool.and_true, Bool.true_and, if_true, if_false, ite_true, ite_false, new6 h, hA, hn, fillA, show binA .eql .ptr (.ptr h.next 0) .nilptr = some (.bool false) from rfl, e1, e3, e4]

theorem go4 {h : Heap} {b len : Nat} {rows : List (List AV)} (ha : ActsAt h b rows) (hlen : rows.length = len) (by_ : Int) : ∃ h', xcall X1 tab (.fn 4) [.slice b 0 len len false 5, .int .u8 by_] h = some (.bool true, h') := by
  have hH : ∃ H, h.alloc (.cells [.nilsl, .bool true] false) = H ∧ Grow h H ∧ H.next = h.next + 1 ∧ H.get h.next = some (.cells [.nilsl, .bool true] false) := ⟨_, rfl, .alloc _ _, by simp, by rw [Heap.get_alloc, if_pos rfl]⟩
  obtain ⟨H, hA, gA, hn, G⟩ := hH
  have hH2 : ∃ H2, H.alloc (.cells [.nilsl] false) = H2 ∧ Grow H H2 ∧ H2.next = h.next + 2 ∧ H2.get (h.next + 1) = some (.cells [.nilsl] false) := ⟨_, rfl, .alloc _ _, by simp [hn], by rw [Heap.get_alloc, if_pos hn.symm]⟩
  obtain ⟨H2, hA2, gA2, hn2, G2⟩ := hH2
  have hv : Inv h H2 h.next (h.next + 1) [] := by
    refine ⟨fun j => j = h.next, fun j => j = h.next + 1, ⟨rfl, fun j hj => by omega, .inl ⟨rfl, gA2.get G⟩⟩, ⟨rfl, fun j hj => by omega, .inl ⟨rfl, G2⟩⟩, fun j hj => by omega, fun j hj => by omega, by omega, fun j hj => by rw [gA2.2 j (by omega), gA.2 j hj], by simp, fun m hm => by cases hm⟩
  have hT : Sh4 b h.next (h.next + 1) len by_ 0 [.slice b 0 len len false 5, .int .u8 by_, undefA, undefA, .bool false, .ptr h.next 0, .ptr (h.next + 1) 0, .int .i64 0, undefA, undefA, undefA, undefA, undefA, undefA, .ptr h.next 0, .agg [.nilsl], .ptr (h.next + 1) 0, .ptr h.next 0, .bool false, undefA, undefA, undefA, undefA, undefA, undefA, undefA, undefA, undefA, undefA, undefA, undefA, undefA, undefA, undefA, undefA, undefA, undefA, undefA, undefA, undefA, undefA, undefA, undefA, undefA, undefA, undefA, undefA, undefA, undefA, undefA, undefA, undefA, undefA, undefA, undefA, undefA, undefA, undefA, undefA, undefA, undefA, undefA, undefA, undefA, undefA, undefA, undefA, undefA, undefA, undefA, undefA, undefA, undefA, undefA, undefA, undefA, undefA, undefA, undefA, undefA, undefA, undefA, undefA, undefA, undefA, undefA, undefA, undefA, undefA, undefA, undefA, undefA, undefA, undefA, undefA, undefA, undefA, undefA, undefA, undefA, undefA, undefA, undefA, undefA, undefA, undefA, undefA, undefA, undefA, undefA, undefA, undefA, undefA, undefA, undefA, undefA] := ⟨rfl, rfl, rfl, rfl, rfl, rfl⟩
  obtain ⟨tm1, H3, e1, e2⟩ := loop4 ha hlen 100 0 H2 [] _ (by omega) hT hv
  obtain ⟨tm2, e3, e4⟩ := tail4_spec (h := H3) e2
  refine ⟨H3, ?_⟩
  rw [x_fn rfl (show tab 4 = some ⟨116, [.tmp 4], sf4.body⟩ from rfl), body4_eq]
  simp (decide := true) only [note_false, x_drawn, l_nil, l_op, l_guard, l_some, l_true, l_false, l_draw, readsA, x_true, x_false, x_seq, x_ops, x_cond, x_skip, x_ret, x_exit, x_block, x_then, x_thenE, x_thenR, x_blockN, x_blockR, x_blockE, s_nil, s_op, s_guard, s_some, s_true, s_false, s_put, s_put0, s_opsR, s_ret, s_norm, aop, ev, evs, List.map_cons, List.map_nil, List.cons_append, List.nil_append, List.append_nil, List.replicate, List.take_succ_cons, List.take_zero, List.take_nil, List.drop_succ_cons, List.drop_zero, List.drop_nil, Nat.zero_add, Nat.add_zero, Nat.reduceAdd, Nat.reduceMul, Nat.reduceLeDiff, Bool.false_eq_true, and_self, List.length_cons, List.length_nil, List.set_cons_zero, List.set_cons_succ, List.getD_cons_zero, List.getD_cons_succ, wantedA, List.getElem?_cons_zero, List.getElem?_cons_succ, q_t, q_f, Bool.not_true, Bool.not_false, b_add, b_sub, b_mul, b_eql, b_neq, b_lss, b_leq, b_gtr, b_geq, b_and, b_or, b_xor, b_quo, b_rem, b_shl, b_shr, unA, Option.map_some, Option.map_none, resA, tupA, Int.reduceLT, not_false_eq_true, not_true_eq_false, decide_true, decide_false, f_bool, c_bool, f_int, c_int, f_str, c_str, f_nilptr, c_nilptr, f_ptr, c_ptr, f_nilsl, c_nilsl, f_slice, c_slice, f_nilmap, c_nilmap, f_map, c_map, f_nilf, c_nilf, f_func, c_func, f_yieldf, c_yieldf, f_nilif, c_nilif, f_iface, c_iface, c_agg, List.all_cons, List.all_nil, Bool.and_true, Bool.true_and, if_true, if_false, ite_true, ite_false, new6 h, hA, hn, hA2, fillA, show binA .eql .ptr (.ptr h.next 0) .nilptr = some (.bool false) from rfl, e1, e3, e4]

end Go.Proofs.Ytdgpjefbdocepaa.Ya
