/-
  Net, law NetFull: the run.
-/
import Derived.Test.YtdgpjefbdocepaaYaNetSpec
namespace Go.Proofs.Ytdgpjefbdocepaa.Ya
open Go.Ya
set_option linter.unusedVariables false
set_option linter.unusedSimpArgs false
set_option maxRecDepth 100000
set_option maxHeartbeats 4000000

def msg (j : Nat) : Msg := ⟨(j : Int).tmod 4, (j : Int).tmod 3 == 0, [IntKind.u8.wrap j]⟩
def msgs (k : Nat) : List Msg := (List.range k).map msg
theorem msgs_len (k : Nat) : (msgs k).length = k := by simp [msgs]
theorem msgs_succ (k : Nat) : msgs (k + 1) = msgs k ++ [msg k] := by simp [msgs, List.range_succ]

def body1 : SC := match sf3.body with
  | .seq _ (.seq _ (.seq _ (.seq (.seq _ (.block _ (.loop l))) _))) => l
  | _ => .skip
def loop1 : SC := .loop body1

/-- The temporaries at the first loop's head. -/
def Sh1 (more : Int) (id i : Nat) (tm : List AV) : Prop := tm.length = 91 ∧ tm[0]? = some (.int .u8 more) ∧ tm[2]? = some (.bool false) ∧ tm[3]? = some (.ptr id 0) ∧ tm[4]? = some (.int .i64 (i : Nat))

theorem round1 (more : Int) (id b i : Nat) (Q : Nat → Prop) (h : Heap) (tm : List AV) (ht : Sh1 more id i tm) (hi : i < 64) (hm : (i : Int) < IntKind.i64.wrap (64 + IntKind.i64.wrap (more.tmod 40))) (hn : NetAt h id (msgs i) b Q) :
    ∃ h' b' Q' tm', xcode X1 tab 3 none loop1 tm h = xcode X1 tab 3 none loop1 tm' h' ∧ Sh1 more id (i + 1) tm' ∧ NetAt h' id (msgs (i + 1)) b' Q' := by
  match tm, ht with
  | a0 :: a1 :: a2 :: a3 :: a4 :: a5 :: a6 :: a7 :: a8 :: a9 :: a10 :: a11 :: a12 :: a13 :: a14 :: a15 :: a16 :: a17 :: a18 :: a19 :: a20 :: a21 :: a22 :: a23 :: a24 :: a25 :: a26 :: a27 :: a28 :: a29 :: a30 :: a31 :: a32 :: a33 :: a34 :: a35 :: a36 :: a37 :: a38 :: a39 :: a40 :: a41 :: a42 :: a43 :: a44 :: a45 :: a46 :: a47 :: a48 :: a49 :: a50 :: a51 :: a52 :: a53 :: a54 :: a55 :: a56 :: a57 :: a58 :: a59 :: a60 :: a61 :: a62 :: a63 :: a64 :: a65 :: a66 :: a67 :: a68 :: a69 :: a70 :: a71 :: a72 :: a73 :: a74 :: a75 :: a76 :: a77 :: a78 :: a79 :: a80 :: a81 :: a82 :: a83 :: a84 :: a85 :: a86 :: a87 :: a88 :: a89 :: a90 :: [], ht =>
  obtain ⟨_, t0, t2, t3, t4⟩ := ht
  simp only [List.getElem?_cons_zero, List.getElem?_cons_succ, Option.some.injEq] at t0 t2 t3 t4
  subst t0 t2 t3 t4
  have hH : ∃ H, h.alloc (.cells [.int .u8 (IntKind.u8.wrap i)] false) = H ∧ Grow h H ∧ H.get h.next = some (.cells [.int .u8 (IntKind.u8.wrap i)] false) :=
    ⟨_, rfl, .alloc _ _, by rw [Heap.get_alloc, if_pos rfl]⟩
  obtain ⟨H, hA, gA, G⟩ := hH
  have hma : MsgAt H [.int .i64 ((i : Int).tmod 4), .bool ((i : Int).tmod 3 == 0), .slice h.next 0 1 1 true 1] (msg i) :=
    ⟨_, rfl, .inr ⟨h.next, 0, 1, true, _, _, rfl, Nat.le_refl _, G, by simp [msg], by simp [msg, ints]⟩⟩
  have hbad : ¬ Bad (msg i) := by
    rintro (e | e | e)
    · have := Int.tmod_eq_emod_of_nonneg (b := 4) (show (0 : Int) ≤ i by omega)
      simp only [msg, this] at e; omega
    · have := Int.tmod_eq_emod_of_nonneg (b := 4) (show (0 : Int) ≤ i by omega)
      simp only [msg, this] at e; omega
    · simp [msg] at e
  obtain ⟨h', b', Q', e1, hn', _⟩ := send7ok (hn.grow gA) hma hbad (by rw [msgs_len]; exact hi)
  have hw : IntKind.i64.wrap ((i : Int) + 1) = ((i + 1 : Nat) : Int) := by
    rw [IntWalk.i64_in _ (by omega)]; simp
  have hi' : (i : Int) < 64 := by omega
  refine ⟨h', b', Q', ?tm, ?run, ?sh, by rw [msgs_succ]; exact hn'⟩
  case run =>
    rw [show ∀ tm h, xcode X1 tab 3 none loop1 tm h = thenX X1 tab 3 none loop1 (xcode X1 tab 3 none body1 tm h) from fun _ _ => x_loop]
    delta body1 sf3
    simp (decide := true) only [x_drawn, l_nil, l_op, l_guard, l_some, l_true, l_false, l_draw, readsA, x_true, x_false, x_seq, x_ops, x_cond, x_skip, x_ret, x_exit, x_block, x_then, x_thenE, x_thenR, x_blockN, x_blockR, x_blockE, s_nil, s_op, s_guard, s_some, s_true, s_false, s_put, s_put0, s_opsR, s_ret, s_norm, aop, ev, evs, List.map_cons, List.map_nil, List.cons_append, List.nil_append, List.append_nil, List.replicate, List.take_succ_cons, List.take_zero, List.take_nil, List.drop_succ_cons, List.drop_zero, List.drop_nil, Nat.zero_add, Nat.add_zero, Nat.reduceAdd, Nat.reduceMul, Nat.reduceLeDiff, Bool.false_eq_true, and_self, List.length_cons, List.length_nil, List.set_cons_zero, List.set_cons_succ, List.getD_cons_zero, List.getD_cons_succ, wantedA, List.getElem?_cons_zero, List.getElem?_cons_succ, q_t, q_f, Bool.not_true, Bool.not_false, b_add, b_sub, b_mul, b_eql, b_neq, b_lss, b_leq, b_gtr, b_geq, b_and, b_or, b_xor, b_quo, b_rem, b_shl, b_shr, unA, Option.map_some, Option.map_none, resA, tupA, Int.reduceLT, not_false_eq_true, not_true_eq_false, decide_true, decide_false, f_bool, c_bool, f_int, c_int, f_str, c_str, f_nilptr, c_nilptr, f_ptr, c_ptr, f_nilsl, c_nilsl, f_slice, c_slice, f_nilmap, c_nilmap, f_map, c_map, f_nilf, c_nilf, f_func, c_func, f_yieldf, c_yieldf, f_nilif, c_nilif, f_iface, c_iface, c_agg, List.all_cons, List.all_nil, Bool.and_true, Bool.true_and, if_true, if_false, ite_true, ite_false, hm, hi', hw, hA, e1, fillA, splice, show binA .neq .bool (.bool true) (.bool true) = some (.bool false) from rfl, show ((0 : Int) != 0) = false from rfl, show ((0 : Int) == 0) = true from rfl]
    rfl
  case sh => exact ⟨rfl, rfl, rfl, rfl, rfl⟩
theorem round1b (more : Int) (id b i : Nat) (Q : Nat → Prop) (h : Heap) (tm : List AV) (ht : Sh1 more id i tm) (hi : ¬ i < 64) (hi2 : i < 200) (hm : (i : Int) < IntKind.i64.wrap (64 + IntKind.i64.wrap (more.tmod 40))) (hn : NetAt h id (msgs 64) b Q) :
    ∃ h' tm', xcode X1 tab 3 none loop1 tm h = xcode X1 tab 3 none loop1 tm' h' ∧ Sh1 more id (i + 1) tm' ∧ NetAt h' id (msgs 64) b Q := by
  match tm, ht with
  | a0 :: a1 :: a2 :: a3 :: a4 :: a5 :: a6 :: a7 :: a8 :: a9 :: a10 :: a11 :: a12 :: a13 :: a14 :: a15 :: a16 :: a17 :: a18 :: a19 :: a20 :: a21 :: a22 :: a23 :: a24 :: a25 :: a26 :: a27 :: a28 :: a29 :: a30 :: a31 :: a32 :: a33 :: a34 :: a35 :: a36 :: a37 :: a38 :: a39 :: a40 :: a41 :: a42 :: a43 :: a44 :: a45 :: a46 :: a47 :: a48 :: a49 :: a50 :: a51 :: a52 :: a53 :: a54 :: a55 :: a56 :: a57 :: a58 :: a59 :: a60 :: a61 :: a62 :: a63 :: a64 :: a65 :: a66 :: a67 :: a68 :: a69 :: a70 :: a71 :: a72 :: a73 :: a74 :: a75 :: a76 :: a77 :: a78 :: a79 :: a80 :: a81 :: a82 :: a83 :: a84 :: a85 :: a86 :: a87 :: a88 :: a89 :: a90 :: [], ht =>
  obtain ⟨_, t0, t2, t3, t4⟩ := ht
  simp only [List.getElem?_cons_zero, List.getElem?_cons_succ, Option.some.injEq] at t0 t2 t3 t4
  subst t0 t2 t3 t4
  have hH : ∃ H, h.alloc (.cells [.int .u8 (IntKind.u8.wrap i)] false) = H ∧ Grow h H ∧ H.get h.next = some (.cells [.int .u8 (IntKind.u8.wrap i)] false) :=
    ⟨_, rfl, .alloc _ _, by rw [Heap.get_alloc, if_pos rfl]⟩
  obtain ⟨H, hA, gA, G⟩ := hH
  have hma : MsgAt H [.int .i64 ((i : Int).tmod 4), .bool ((i : Int).tmod 3 == 0), .slice h.next 0 1 1 true 1] (msg i) :=
    ⟨_, rfl, .inr ⟨h.next, 0, 1, true, _, _, rfl, Nat.le_refl _, G, by simp [msg], by simp [msg, ints]⟩⟩
  have hbad : ¬ Bad (msg i) := by
    rintro (e | e | e)
    · have := Int.tmod_eq_emod_of_nonneg (b := 4) (show (0 : Int) ≤ i by omega)
      simp only [msg, this] at e; omega
    · have := Int.tmod_eq_emod_of_nonneg (b := 4) (show (0 : Int) ≤ i by omega)
      simp only [msg, this] at e; omega
    · simp [msg] at e
  obtain ⟨h', e1, g1⟩ := send7full (hn.grow gA) hma hbad (by rw [msgs_len]; exact Nat.le_refl _)
  have hw : IntKind.i64.wrap ((i : Int) + 1) = ((i + 1 : Nat) : Int) := by
    rw [IntWalk.i64_in _ (by omega)]; simp
  have hi' : ¬ (i : Int) < 64 := by omega
  refine ⟨h', ?tm, ?run, ?sh, (hn.grow gA).grow g1⟩
  case run =>
    rw [show ∀ tm h, xcode X1 tab 3 none loop1 tm h = thenX X1 tab 3 none loop1 (xcode X1 tab 3 none body1 tm h) from fun _ _ => x_loop]
    delta body1 sf3
    simp (decide := true) only [x_drawn, l_nil, l_op, l_guard, l_some, l_true, l_false, l_draw, readsA, x_true, x_false, x_seq, x_ops, x_cond, x_skip, x_ret, x_exit, x_block, x_then, x_thenE, x_thenR, x_blockN, x_blockR, x_blockE, s_nil, s_op, s_guard, s_some, s_true, s_false, s_put, s_put0, s_opsR, s_ret, s_norm, aop, ev, evs, List.map_cons, List.map_nil, List.cons_append, List.nil_append, List.append_nil, List.replicate, List.take_succ_cons, List.take_zero, List.take_nil, List.drop_succ_cons, List.drop_zero, List.drop_nil, Nat.zero_add, Nat.add_zero, Nat.reduceAdd, Nat.reduceMul, Nat.reduceLeDiff, Bool.false_eq_true, and_self, List.length_cons, List.length_nil, List.set_cons_zero, List.set_cons_succ, List.getD_cons_zero, List.getD_cons_succ, wantedA, List.getElem?_cons_zero, List.getElem?_cons_succ, q_t, q_f, Bool.not_true, Bool.not_false, b_add, b_sub, b_mul, b_eql, b_neq, b_lss, b_leq, b_gtr, b_geq, b_and, b_or, b_xor, b_quo, b_rem, b_shl, b_shr, unA, Option.map_some, Option.map_none, resA, tupA, Int.reduceLT, not_false_eq_true, not_true_eq_false, decide_true, decide_false, f_bool, c_bool, f_int, c_int, f_str, c_str, f_nilptr, c_nilptr, f_ptr, c_ptr, f_nilsl, c_nilsl, f_slice, c_slice, f_nilmap, c_nilmap, f_map, c_map, f_nilf, c_nilf, f_func, c_func, f_yieldf, c_yieldf, f_nilif, c_nilif, f_iface, c_iface, c_agg, List.all_cons, List.all_nil, Bool.and_true, Bool.true_and, if_true, if_false, ite_true, ite_false, hm, hi', hw, hA, e1, fillA, splice, show binA .neq .bool (.bool false) (.bool false) = some (.bool false) from rfl, show ((10 : Int) != 0) = true from rfl, show ((10 : Int) != 10) = false from rfl, show ((10 : Int) == 0) = false from rfl]
    rfl
  case sh => exact ⟨rfl, rfl, rfl, rfl, rfl⟩
end Go.Proofs.Ytdgpjefbdocepaa.Ya
