/-
  Net, law NetFull: the run, its loops.
-/
import Derived.Test.YtdgpjefbdocepaaYaNetFull0
namespace Go.Proofs.Ytdgpjefbdocepaa.Ya
open Go.Ya
set_option linter.unusedVariables false
set_option linter.unusedSimpArgs false
set_option maxRecDepth 100000
set_option maxHeartbeats 4000000

/-- Out of the first loop. -/
theorem out1 (more : Int) (id i : Nat) (h : Heap) (tm : List AV) (ht : Sh1 more id i tm) (hm : ¬ (i : Int) < IntKind.i64.wrap (64 + IntKind.i64.wrap (more.tmod 40))) :
    ∃ tm', xcode X1 tab 3 none loop1 tm h = some (.exit 0, tm', h) ∧ Sh1 more id i tm' := by
  match tm, ht with
  | a0 :: a1 :: a2 :: a3 :: a4 :: a5 :: a6 :: a7 :: a8 :: a9 :: a10 :: a11 :: a12 :: a13 :: a14 :: a15 :: a16 :: a17 :: a18 :: a19 :: a20 :: a21 :: a22 :: a23 :: a24 :: a25 :: a26 :: a27 :: a28 :: a29 :: a30 :: a31 :: a32 :: a33 :: a34 :: a35 :: a36 :: a37 :: a38 :: a39 :: a40 :: a41 :: a42 :: a43 :: a44 :: a45 :: a46 :: a47 :: a48 :: a49 :: a50 :: a51 :: a52 :: a53 :: a54 :: a55 :: a56 :: a57 :: a58 :: a59 :: a60 :: a61 :: a62 :: a63 :: a64 :: a65 :: a66 :: a67 :: a68 :: a69 :: a70 :: a71 :: a72 :: a73 :: a74 :: a75 :: a76 :: a77 :: a78 :: a79 :: a80 :: a81 :: a82 :: a83 :: a84 :: a85 :: a86 :: a87 :: a88 :: a89 :: a90 :: [], ht =>
  obtain ⟨_, t0, t2, t3, t4⟩ := ht
  simp only [List.getElem?_cons_zero, List.getElem?_cons_succ, Option.some.injEq] at t0 t2 t3 t4
  subst t0 t2 t3 t4
  refine ⟨?tm, ?run, ?sh⟩
  case run =>
    rw [show ∀ tm h, xcode X1 tab 3 none loop1 tm h = thenX X1 tab 3 none loop1 (xcode X1 tab 3 none body1 tm h) from fun _ _ => x_loop]
    delta body1 sf3
    simp (decide := true) only [x_drawn, l_nil, l_op, l_guard, l_some, l_true, l_false, l_draw, readsA, x_true, x_false, x_seq, x_ops, x_cond, x_skip, x_ret, x_exit, x_block, x_then, x_thenE, x_thenR, x_blockN, x_blockR, x_blockE, s_nil, s_op, s_guard, s_some, s_true, s_false, s_put, s_put0, s_opsR, s_ret, s_norm, aop, ev, evs, List.map_cons, List.map_nil, List.cons_append, List.nil_append, List.append_nil, List.replicate, List.take_succ_cons, List.take_zero, List.take_nil, List.drop_succ_cons, List.drop_zero, List.drop_nil, Nat.zero_add, Nat.add_zero, Nat.reduceAdd, Nat.reduceMul, Nat.reduceLeDiff, Bool.false_eq_true, and_self, List.length_cons, List.length_nil, List.set_cons_zero, List.set_cons_succ, List.getD_cons_zero, List.getD_cons_succ, wantedA, List.getElem?_cons_zero, List.getElem?_cons_succ, q_t, q_f, Bool.not_true, Bool.not_false, b_add, b_sub, b_mul, b_eql, b_neq, b_lss, b_leq, b_gtr, b_geq, b_and, b_or, b_xor, b_quo, b_rem, b_shl, b_shr, unA, Option.map_some, Option.map_none, resA, tupA, Int.reduceLT, not_false_eq_true, not_true_eq_false, decide_true, decide_false, f_bool, c_bool, f_int, c_int, f_str, c_str, f_nilptr, c_nilptr, f_ptr, c_ptr, f_nilsl, c_nilsl, f_slice, c_slice, f_nilmap, c_nilmap, f_map, c_map, f_nilf, c_nilf, f_func, c_func, f_yieldf, c_yieldf, f_nilif, c_nilif, f_iface, c_iface, c_agg, List.all_cons, List.all_nil, Bool.and_true, Bool.true_and, if_true, if_false, ite_true, ite_false, hm]
    rfl
  case sh => exact ⟨rfl, rfl, rfl, rfl, rfl⟩
theorem top_eq {more : Int} (h0 : 0 ≤ more) (h1 : more ≤ 255) : IntKind.i64.wrap (64 + IntKind.i64.wrap (more.tmod 40)) = 64 + more % 40 := by
  have e0 := Int.tmod_eq_emod_of_nonneg (b := 40) h0
  have e1 := IntWalk.i64_in (more % 40) (by omega)
  have e2 := IntWalk.i64_in (64 + more % 40) (by omega)
  rw [e0, e1, e2]
theorem loop1_spec {more : Int} (h0 : 0 ≤ more) (h1 : more ≤ 255) (id : Nat) : ∀ (d i : Nat) (b : Nat) (Q : Nat → Prop) (h : Heap) (tm : List AV), 64 + (more % 40).toNat ≤ i + d → i ≤ 104 → Sh1 more id i tm → NetAt h id (msgs (min i 64)) b Q →
    ∃ h' b' Q' i' tm', xcode X1 tab 3 none loop1 tm h = some (.exit 0, tm', h') ∧ Sh1 more id i' tm' ∧ NetAt h' id (msgs 64) b' Q' := by
  intro d
  induction d with
  | zero =>
    intro i b Q h tm hd hi ht hn
    obtain ⟨tm', e, ht'⟩ := out1 more id i h tm ht (by rw [top_eq h0 h1]; omega)
    exact ⟨h, b, Q, i, tm', e, ht', by rw [show min i 64 = 64 by omega] at hn; exact hn⟩
  | succ d ih =>
    intro i b Q h tm hd hi ht hn
    by_cases hm : (i : Int) < IntKind.i64.wrap (64 + IntKind.i64.wrap (more.tmod 40))
    · have hm' := hm
      rw [top_eq h0 h1] at hm'
      by_cases hi6 : i < 64
      · rw [show min i 64 = i by omega] at hn
        obtain ⟨h', b', Q', tm', e, ht', hn'⟩ := round1 more id b i Q h tm ht hi6 hm hn
        obtain ⟨h2, b2, Q2, i2, tm2, e2, r⟩ := ih (i + 1) b' Q' h' tm' (by omega) (by omega) ht' (by rw [show min (i + 1) 64 = i + 1 by omega]; exact hn')
        exact ⟨h2, b2, Q2, i2, tm2, e.trans e2, r⟩
      · rw [show min i 64 = 64 by omega] at hn
        obtain ⟨h', tm', e, ht', hn'⟩ := round1b more id b i Q h tm ht hi6 (by omega) hm hn
        obtain ⟨h2, b2, Q2, i2, tm2, e2, r⟩ := ih (i + 1) b Q h' tm' (by omega) (by omega) ht' (by rw [show min (i + 1) 64 = 64 by omega]; exact hn')
        exact ⟨h2, b2, Q2, i2, tm2, e.trans e2, r⟩
    · have hm' := hm
      rw [top_eq h0 h1] at hm'
      obtain ⟨tm', e, ht'⟩ := out1 more id i h tm ht hm
      exact ⟨h, b, Q, i, tm', e, ht', by rw [show min i 64 = 64 by omega] at hn; exact hn⟩

def body2 : SC := match sf3.body with
  | .seq _ (.seq _ (.seq _ (.seq _ (.seq (.seq _ (.block _ (.loop l))) _)))) => l
  | _ => .skip
def loop2 : SC := .loop body2
/-- The temporaries at the second loop's head. -/
def Sh2 (id i : Nat) (tm : List AV) : Prop := tm.length = 91 ∧ tm[2]? = some (.bool false) ∧ tm[3]? = some (.ptr id 0) ∧ tm[6]? = some (.int .i64 (i : Nat))
theorem msgs_drop (i : Nat) (hi : i < 64) : (msgs 64).drop i = msg i :: (msgs 64).drop (i + 1) := by
  have hl : i < (msgs 64).length := by rw [msgs_len]; exact hi
  rw [List.drop_eq_getElem_cons hl]
  congr 1
  simp [msgs]

theorem round2 (id b i : Nat) (Q : Nat → Prop) (h : Heap) (tm : List AV) (ht : Sh2 id i tm) (hi : i < 64) (hn : NetAt h id ((msgs 64).drop i) b Q) :
    ∃ h' b' Q' tm', xcode X1 tab 3 none loop2 tm h = xcode X1 tab 3 none loop2 tm' h' ∧ Sh2 id (i + 1) tm' ∧ NetAt h' id ((msgs 64).drop (i + 1)) b' Q' := by
  match tm, ht with
  | a0 :: a1 :: a2 :: a3 :: a4 :: a5 :: a6 :: a7 :: a8 :: a9 :: a10 :: a11 :: a12 :: a13 :: a14 :: a15 :: a16 :: a17 :: a18 :: a19 :: a20 :: a21 :: a22 :: a23 :: a24 :: a25 :: a26 :: a27 :: a28 :: a29 :: a30 :: a31 :: a32 :: a33 :: a34 :: a35 :: a36 :: a37 :: a38 :: a39 :: a40 :: a41 :: a42 :: a43 :: a44 :: a45 :: a46 :: a47 :: a48 :: a49 :: a50 :: a51 :: a52 :: a53 :: a54 :: a55 :: a56 :: a57 :: a58 :: a59 :: a60 :: a61 :: a62 :: a63 :: a64 :: a65 :: a66 :: a67 :: a68 :: a69 :: a70 :: a71 :: a72 :: a73 :: a74 :: a75 :: a76 :: a77 :: a78 :: a79 :: a80 :: a81 :: a82 :: a83 :: a84 :: a85 :: a86 :: a87 :: a88 :: a89 :: a90 :: [], ht =>
  obtain ⟨_, t2, t3, t6⟩ := ht
  simp only [List.getElem?_cons_zero, List.getElem?_cons_succ, Option.some.injEq] at t2 t3 t6
  subst t2 t3 t6
  have hll : ((msgs 64).drop i).length ≤ 64 := by rw [List.length_drop, msgs_len]; omega
  rw [msgs_drop i hi] at hn hll
  obtain ⟨v, h1, e1, n1, -, nb⟩ := take8 (l1 := []) hn hll (by simp [msg]) false
  simp only [List.nil_append, Bool.false_eq_true, if_false] at e1 n1
  replace e1 : xcall X1 tab (.fn 8) [.ptr id 0, .int .i64 0, .bool false] h = some (.tuple [.agg [.int .i64 ((i : Int).tmod 4), .bool ((i : Int).tmod 3 == 0), v], .bool true], h1) := e1
  rcases nb with ⟨_, hb⟩ | ⟨k, cap, ex, rfl, k1, k2, k3, k4⟩
  · simp [msg] at hb
  · have hH : ∃ H, (h1.alloc (.cells [.int .i64 0, .bool false, .nilsl] false)).set h1.next (.cells [.int .i64 ((i : Int).tmod 4), .bool ((i : Int).tmod 3 == 0), .slice k 0 1 cap ex 1] false) = H ∧ Grow h1 H ∧ H.next = h1.next + 1 ∧ H.get h1.next = some (.cells [.int .i64 ((i : Int).tmod 4), .bool ((i : Int).tmod 3 == 0), .slice k 0 1 cap ex 1] false) :=
      ⟨_, rfl, Grow.set (.alloc _ _) _ (Nat.le_refl _) (by simp), by simp, by rw [get_set, if_pos rfl, if_pos (by simp)]⟩
    obtain ⟨H, hA, gA, hHn, G⟩ := hH
    have hst : storeA (h1.alloc (.cells [.int .i64 0, .bool false, .nilsl] false)) h1.next 0 [.int .i64 ((i : Int).tmod 4), .bool ((i : Int).tmod 3 == 0), .slice k 0 1 cap ex 1] = some H := by
      rw [← hA]; simp [storeA, Heap.get_alloc, splice]
    replace e1 : xcall X1 tab (.fn 8) [.ptr id 0, .int .i64 0, .bool false] h = some (.tuple [.agg [.int .i64 ((i : Int).tmod 4), .bool ((i : Int).tmod 3 == 0), .slice k 0 1 cap ex 1], .bool true], h1) := e1
    have hk := gA.get k4
    replace hk : H.get k = some (.cells [.int .u8 (IntKind.u8.wrap (i : Int))] false) := hk
    have hw : IntKind.i64.wrap ((i : Int) + 1) = ((i + 1 : Nat) : Int) := by
      rw [IntWalk.i64_in _ (by omega)]; simp
    have hb8 : IntKind.i64.wrap (IntKind.u8.wrap (i : Int)) = (i : Int) := by
      rw [IntWalk.u8_in _ (by omega), IntWalk.i64_in _ (by omega)]
    have hi' : (i : Int) < 64 := by omega
    have hne : ((i : Int) != (i : Int)) = false := by simp
    have hn2 : (((i : Int).tmod 4) != ((i : Int).tmod 4)) = false := by simp
    have hn3 : binA .neq .bool (.bool ((i : Int).tmod 3 == 0)) (.bool ((i : Int).tmod 3 == 0)) = some (.bool false) := by cases ((i : Int).tmod 3 == 0) <;> rfl
    refine ⟨H, b, Q, ?tm, ?run, ?sh, n1.grow gA⟩
    case run =>
      rw [show ∀ tm h, xcode X1 tab 3 none loop2 tm h = thenX X1 tab 3 none loop2 (xcode X1 tab 3 none body2 tm h) from fun _ _ => x_loop]
      delta body2 sf3
      simp (decide := true) only [x_drawn, l_nil, l_op, l_guard, l_some, l_true, l_false, l_draw, readsA, x_true, x_false, x_seq, x_ops, x_cond, x_skip, x_ret, x_exit, x_block, x_then, x_thenE, x_thenR, x_blockN, x_blockR, x_blockE, s_nil, s_op, s_guard, s_some, s_true, s_false, s_put, s_put0, s_opsR, s_ret, s_norm, aop, ev, evs, List.map_cons, List.map_nil, List.cons_append, List.nil_append, List.append_nil, List.replicate, List.take_succ_cons, List.take_zero, List.take_nil, List.drop_succ_cons, List.drop_zero, List.drop_nil, Nat.zero_add, Nat.add_zero, Nat.reduceAdd, Nat.reduceMul, Nat.reduceLeDiff, Bool.false_eq_true, and_self, List.length_cons, List.length_nil, List.set_cons_zero, List.set_cons_succ, List.getD_cons_zero, List.getD_cons_succ, wantedA, List.getElem?_cons_zero, List.getElem?_cons_succ, q_t, q_f, Bool.not_true, Bool.not_false, b_add, b_sub, b_mul, b_eql, b_neq, b_lss, b_leq, b_gtr, b_geq, b_and, b_or, b_xor, b_quo, b_rem, b_shl, b_shr, unA, Option.map_some, Option.map_none, resA, tupA, Int.reduceLT, not_false_eq_true, not_true_eq_false, decide_true, decide_false, f_bool, c_bool, f_int, c_int, f_str, c_str, f_nilptr, c_nilptr, f_ptr, c_ptr, f_nilsl, c_nilsl, f_slice, c_slice, f_nilmap, c_nilmap, f_map, c_map, f_nilf, c_nilf, f_func, c_func, f_yieldf, c_yieldf, f_nilif, c_nilif, f_iface, c_iface, c_agg, List.all_cons, List.all_nil, Bool.and_true, Bool.true_and, if_true, if_false, ite_true, ite_false, hi', hw, hst, e1, hb8, hne, hn2, hn3, loadA, G, hk, show Int.toNat 0 = 0 from rfl, Nat.zero_mul, show ((1 : Int) != 1) = false from rfl, show (((1 : Nat) : Int) != 1) = false from rfl, show (0 : Int) ≤ 0 ∧ (0 : Int) < ((1 : Nat) : Int) from by decide]
      rfl
    case sh => exact ⟨rfl, rfl, rfl, rfl⟩
theorem out2 (id : Nat) (h : Heap) (tm : List AV) (ht : Sh2 id 64 tm) :
    ∃ tm', xcode X1 tab 3 none loop2 tm h = some (.exit 2, tm', h) ∧ Sh2 id 64 tm' := by
  match tm, ht with
  | a0 :: a1 :: a2 :: a3 :: a4 :: a5 :: a6 :: a7 :: a8 :: a9 :: a10 :: a11 :: a12 :: a13 :: a14 :: a15 :: a16 :: a17 :: a18 :: a19 :: a20 :: a21 :: a22 :: a23 :: a24 :: a25 :: a26 :: a27 :: a28 :: a29 :: a30 :: a31 :: a32 :: a33 :: a34 :: a35 :: a36 :: a37 :: a38 :: a39 :: a40 :: a41 :: a42 :: a43 :: a44 :: a45 :: a46 :: a47 :: a48 :: a49 :: a50 :: a51 :: a52 :: a53 :: a54 :: a55 :: a56 :: a57 :: a58 :: a59 :: a60 :: a61 :: a62 :: a63 :: a64 :: a65 :: a66 :: a67 :: a68 :: a69 :: a70 :: a71 :: a72 :: a73 :: a74 :: a75 :: a76 :: a77 :: a78 :: a79 :: a80 :: a81 :: a82 :: a83 :: a84 :: a85 :: a86 :: a87 :: a88 :: a89 :: a90 :: [], ht =>
  obtain ⟨_, t2, t3, t6⟩ := ht
  simp only [List.getElem?_cons_zero, List.getElem?_cons_succ, Option.some.injEq] at t2 t3 t6
  subst t2 t3 t6
  refine ⟨?tm, ?run, ?sh⟩
  case run =>
    rw [show ∀ tm h, xcode X1 tab 3 none loop2 tm h = thenX X1 tab 3 none loop2 (xcode X1 tab 3 none body2 tm h) from fun _ _ => x_loop]
    delta body2 sf3
    simp (decide := true) only [x_drawn, l_nil, l_op, l_guard, l_some, l_true, l_false, l_draw, readsA, x_true, x_false, x_seq, x_ops, x_cond, x_skip, x_ret, x_exit, x_block, x_then, x_thenE, x_thenR, x_blockN, x_blockR, x_blockE, s_nil, s_op, s_guard, s_some, s_true, s_false, s_put, s_put0, s_opsR, s_ret, s_norm, aop, ev, evs, List.map_cons, List.map_nil, List.cons_append, List.nil_append, List.append_nil, List.replicate, List.take_succ_cons, List.take_zero, List.take_nil, List.drop_succ_cons, List.drop_zero, List.drop_nil, Nat.zero_add, Nat.add_zero, Nat.reduceAdd, Nat.reduceMul, Nat.reduceLeDiff, Bool.false_eq_true, and_self, List.length_cons, List.length_nil, List.set_cons_zero, List.set_cons_succ, List.getD_cons_zero, List.getD_cons_succ, wantedA, List.getElem?_cons_zero, List.getElem?_cons_succ, q_t, q_f, Bool.not_true, Bool.not_false, b_add, b_sub, b_mul, b_eql, b_neq, b_lss, b_leq, b_gtr, b_geq, b_and, b_or, b_xor, b_quo, b_rem, b_shl, b_shr, unA, Option.map_some, Option.map_none, resA, tupA, Int.reduceLT, not_false_eq_true, not_true_eq_false, decide_true, decide_false, f_bool, c_bool, f_int, c_int, f_str, c_str, f_nilptr, c_nilptr, f_ptr, c_ptr, f_nilsl, c_nilsl, f_slice, c_slice, f_nilmap, c_nilmap, f_map, c_map, f_nilf, c_nilf, f_func, c_func, f_yieldf, c_yieldf, f_nilif, c_nilif, f_iface, c_iface, c_agg, List.all_cons, List.all_nil, Bool.and_true, Bool.true_and, if_true, if_false, ite_true, ite_false, show ¬ (((64 : Nat) : Int) < 64) from by decide]
    rfl
  case sh => exact ⟨rfl, rfl, rfl, rfl⟩
theorem loop2_spec (id : Nat) : ∀ (d i : Nat) (b : Nat) (Q : Nat → Prop) (h : Heap) (tm : List AV), i + d = 64 → Sh2 id i tm → NetAt h id ((msgs 64).drop i) b Q →
    ∃ h' b' Q' tm', xcode X1 tab 3 none loop2 tm h = some (.exit 2, tm', h') ∧ Sh2 id 64 tm' ∧ NetAt h' id [] b' Q' := by
  intro d
  induction d with
  | zero =>
    intro i b Q h tm hd ht hn
    obtain rfl : i = 64 := by omega
    obtain ⟨tm', e, ht'⟩ := out2 id h tm ht
    exact ⟨h, b, Q, tm', e, ht', by rw [List.drop_eq_nil_of_le (by rw [msgs_len]; exact Nat.le_refl _)] at hn; exact hn⟩
  | succ d ih =>
    intro i b Q h tm hd ht hn
    obtain ⟨h', b', Q', tm', e, ht', hn'⟩ := round2 id b i Q h tm ht (by omega) hn
    obtain ⟨h2, b2, Q2, tm2, e2, r⟩ := ih (i + 1) b' Q' h' tm' (by omega) ht' hn'
    exact ⟨h2, b2, Q2, tm2, e.trans e2, r⟩

theorem new6 (h : Heap) : xcall X1 tab (.fn 6) [] h = some (.ptr h.next 0, h.alloc (.cells [.nilsl, .bool true] false)) := by
  rw [x_fn rfl (show tab 6 = some sf6 from rfl)]
  simp (decide := true) only [x_drawn, l_nil, l_op, l_guard, l_some, l_true, l_false, l_draw, readsA, x_true, x_false, x_seq, x_ops, x_cond, x_skip, x_ret, x_exit, x_block, x_then, x_thenE, x_thenR, x_blockN, x_blockR, x_blockE, s_nil, s_op, s_guard, s_some, s_true, s_false, s_put, s_put0, s_opsR, s_ret, s_norm, aop, ev, evs, List.map_cons, List.map_nil, List.cons_append, List.nil_append, List.append_nil, List.replicate, List.take_succ_cons, List.take_zero, List.take_nil, List.drop_succ_cons, List.drop_zero, List.drop_nil, Nat.zero_add, Nat.add_zero, Nat.reduceAdd, Nat.reduceMul, Nat.reduceLeDiff, Bool.false_eq_true, and_self, List.length_cons, List.length_nil, List.set_cons_zero, List.set_cons_succ, List.getD_cons_zero, List.getD_cons_succ, wantedA, List.getElem?_cons_zero, List.getElem?_cons_succ, q_t, q_f, Bool.not_true, Bool.not_false, b_add, b_sub, b_mul, b_eql, b_neq, b_lss, b_leq, b_gtr, b_geq, b_and, b_or, b_xor, b_quo, b_rem, b_shl, b_shr, unA, Option.map_some, Option.map_none, resA, tupA, Int.reduceLT, not_false_eq_true, not_true_eq_false, decide_true, decide_false, f_bool, c_bool, f_int, c_int, f_str, c_str, f_nilptr, c_nilptr, f_ptr, c_ptr, f_nilsl, c_nilsl, f_slice, c_slice, f_nilmap, c_nilmap, f_map, c_map, f_nilf, c_nilf, f_func, c_func, f_yieldf, c_yieldf, f_nilif, c_nilif, f_iface, c_iface, c_agg, List.all_cons, List.all_nil, Bool.and_true, Bool.true_and, if_true, if_false, ite_true, ite_false, fillA, splice]
  try rfl
def tail3 : SC := match sf3.body with
  | .seq _ (.seq _ (.seq _ (.seq _ (.seq _ t)))) => t
  | _ => .skip

theorem tail3_spec (id b : Nat) (Q : Nat → Prop) (h : Heap) (tm : List AV) (ht : Sh2 id 64 tm) (hn : NetAt h id [] b Q) :
    ∃ tm', xcode X1 tab 3 none tail3 tm h = some (.ret, tm', h) ∧ tm'[2]? = some (.bool true) := by
  match tm, ht with
  | a0 :: a1 :: a2 :: a3 :: a4 :: a5 :: a6 :: a7 :: a8 :: a9 :: a10 :: a11 :: a12 :: a13 :: a14 :: a15 :: a16 :: a17 :: a18 :: a19 :: a20 :: a21 :: a22 :: a23 :: a24 :: a25 :: a26 :: a27 :: a28 :: a29 :: a30 :: a31 :: a32 :: a33 :: a34 :: a35 :: a36 :: a37 :: a38 :: a39 :: a40 :: a41 :: a42 :: a43 :: a44 :: a45 :: a46 :: a47 :: a48 :: a49 :: a50 :: a51 :: a52 :: a53 :: a54 :: a55 :: a56 :: a57 :: a58 :: a59 :: a60 :: a61 :: a62 :: a63 :: a64 :: a65 :: a66 :: a67 :: a68 :: a69 :: a70 :: a71 :: a72 :: a73 :: a74 :: a75 :: a76 :: a77 :: a78 :: a79 :: a80 :: a81 :: a82 :: a83 :: a84 :: a85 :: a86 :: a87 :: a88 :: a89 :: a90 :: [], ht =>
  obtain ⟨_, t2, t3, t6⟩ := ht
  simp only [List.getElem?_cons_zero, List.getElem?_cons_succ, Option.some.injEq] at t2 t3 t6
  subst t2 t3 t6
  refine ⟨?tm, ?run, ?sh⟩
  case run =>
    delta tail3 sf3
    simp (decide := true) only [x_drawn, l_nil, l_op, l_guard, l_some, l_true, l_false, l_draw, readsA, x_true, x_false, x_seq, x_ops, x_cond, x_skip, x_ret, x_exit, x_block, x_then, x_thenE, x_thenR, x_blockN, x_blockR, x_blockE, s_nil, s_op, s_guard, s_some, s_true, s_false, s_put, s_put0, s_opsR, s_ret, s_norm, aop, ev, evs, List.map_cons, List.map_nil, List.cons_append, List.nil_append, List.append_nil, List.replicate, List.take_succ_cons, List.take_zero, List.take_nil, List.drop_succ_cons, List.drop_zero, List.drop_nil, Nat.zero_add, Nat.add_zero, Nat.reduceAdd, Nat.reduceMul, Nat.reduceLeDiff, Bool.false_eq_true, and_self, List.length_cons, List.length_nil, List.set_cons_zero, List.set_cons_succ, List.getD_cons_zero, List.getD_cons_succ, wantedA, List.getElem?_cons_zero, List.getElem?_cons_succ, q_t, q_f, Bool.not_true, Bool.not_false, b_add, b_sub, b_mul, b_eql, b_neq, b_lss, b_leq, b_gtr, b_geq, b_and, b_or, b_xor, b_quo, b_rem, b_shl, b_shr, unA, Option.map_some, Option.map_none, resA, tupA, Int.reduceLT, not_false_eq_true, not_true_eq_false, decide_true, decide_false, f_bool, c_bool, f_int, c_int, f_str, c_str, f_nilptr, c_nilptr, f_ptr, c_ptr, f_nilsl, c_nilsl, f_slice, c_slice, f_nilmap, c_nilmap, f_map, c_map, f_nilf, c_nilf, f_func, c_func, f_yieldf, c_yieldf, f_nilif, c_nilif, f_iface, c_iface, c_agg, List.all_cons, List.all_nil, Bool.and_true, Bool.true_and, if_true, if_false, ite_true, ite_false, len9 hn, lives10, show (((0 : Nat) : Int) == 0) = true from rfl]
    rfl
  case sh => rfl

end Go.Proofs.Ytdgpjefbdocepaa.Ya
