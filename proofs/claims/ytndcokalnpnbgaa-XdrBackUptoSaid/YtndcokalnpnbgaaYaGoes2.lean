/-
  Xdr, law XdrBack: goes.
-/
import Derived.Test.YtndcokalnpnbgaaYaGoes1
import Derived.Test.YtndcokalnpnbgaaYaXdrPure
namespace Go.Proofs.Ytndcokalnpnbgaa.Ya
open Go.Ya
set_option linter.unusedVariables false
set_option linter.unusedSimpArgs false
set_option maxRecDepth 100000
set_option maxHeartbeats 8000000

theorem go_outA {h : Heap} {r b len i : Nat} {tm : List AV} (ht : Sh33 r b len i tm) (hlt : ¬ (i : Int) < (len : Int)) :
    ∃ tm', xcode X1 tab 33 none (.loop body33) tm h = some (.exit 0, tm', h) ∧ tm'.length = 75 := by
  match tm, ht with
  | a0 :: a1 :: a2 :: a3 :: a4 :: a5 :: a6 :: a7 :: a8 :: a9 :: a10 :: a11 :: a12 :: a13 :: a14 :: a15 :: a16 :: a17 :: a18 :: a19 :: a20 :: a21 :: a22 :: a23 :: a24 :: a25 :: a26 :: a27 :: a28 :: a29 :: a30 :: a31 :: a32 :: a33 :: a34 :: a35 :: a36 :: a37 :: a38 :: a39 :: a40 :: a41 :: a42 :: a43 :: a44 :: a45 :: a46 :: a47 :: a48 :: a49 :: a50 :: a51 :: a52 :: a53 :: a54 :: a55 :: a56 :: a57 :: a58 :: a59 :: a60 :: a61 :: a62 :: a63 :: a64 :: a65 :: a66 :: a67 :: a68 :: a69 :: a70 :: a71 :: a72 :: a73 :: a74 :: [], ht =>
  obtain ⟨_, t0, t1, t5⟩ := ht
  simp only [List.getElem?_cons_zero, List.getElem?_cons_succ, Option.some.injEq] at t0 t1 t5
  replace t0 := t0.symm; replace t1 := t1.symm; replace t5 := t5.symm
  subst t0 t1 t5
  refine ⟨?tm, ?run, ?sh⟩
  case run =>
    rw [show ∀ tm h, xcode X1 tab 33 none (.loop body33) tm h = thenX X1 tab 33 none (.loop body33) (xcode X1 tab 33 none body33 tm h) from fun _ _ => x_loop]
    delta body33
    simp (decide := true) only [note_false, Int.reduceBEq, Int.reduceBNe, x_drawn, l_nil, l_op, l_guard, l_some, l_true, l_false, l_draw, readsA, x_true, x_false, x_seq, x_ops, x_cond, x_skip, x_ret, x_exit, x_block, x_then, x_thenE, x_thenR, x_blockN, x_blockR, x_blockE, s_nil, s_op, s_guard, s_some, s_true, s_false, s_put, s_put0, s_opsR, s_ret, s_norm, aop, ev, evs, List.map_cons, List.map_nil, List.cons_append, List.nil_append, List.append_nil, List.replicate, List.take_succ_cons, List.take_zero, List.take_nil, List.drop_succ_cons, List.drop_zero, List.drop_nil, Nat.zero_add, Nat.add_zero, Nat.reduceAdd, Nat.reduceMul, Nat.reduceLeDiff, Bool.false_eq_true, and_self, List.length_cons, List.length_nil, List.set_cons_zero, List.set_cons_succ, List.getD_cons_zero, List.getD_cons_succ, wantedA, List.getElem?_cons_zero, List.getElem?_cons_succ, q_t, q_f, Bool.not_true, Bool.not_false, b_add, b_sub, b_mul, b_eql, b_neq, b_lss, b_leq, b_gtr, b_geq, b_and, b_or, b_xor, b_quo, b_rem, b_shl, b_shr, unA, Option.map_some, Option.map_none, resA, tupA, Int.reduceLT, not_false_eq_true, not_true_eq_false, decide_true, decide_false, f_bool, c_bool, f_int, c_int, f_str, c_str, f_nilptr, c_nilptr, f_ptr, c_ptr, f_nilsl, c_nilsl, f_slice, c_slice, f_nilmap, c_nilmap, f_map, c_map, f_nilf, c_nilf, f_func, c_func, f_yieldf, c_yieldf, f_nilif, c_nilif, f_iface, c_iface, c_agg, List.all_cons, List.all_nil, Bool.and_true, Bool.true_and, if_true, if_false, ite_true, ite_false, hlt]
    rfl
  case sh => rfl
theorem go_outB {h : Heap} {r b len i : Nat} {tm : List AV} (ht : Sh33 r b len i tm) (hlt : (i : Int) < (len : Int)) (hlt2 : ¬ (i : Int) < 60) :
    ∃ tm', xcode X1 tab 33 none (.loop body33) tm h = some (.exit 0, tm', h) ∧ tm'.length = 75 := by
  match tm, ht with
  | a0 :: a1 :: a2 :: a3 :: a4 :: a5 :: a6 :: a7 :: a8 :: a9 :: a10 :: a11 :: a12 :: a13 :: a14 :: a15 :: a16 :: a17 :: a18 :: a19 :: a20 :: a21 :: a22 :: a23 :: a24 :: a25 :: a26 :: a27 :: a28 :: a29 :: a30 :: a31 :: a32 :: a33 :: a34 :: a35 :: a36 :: a37 :: a38 :: a39 :: a40 :: a41 :: a42 :: a43 :: a44 :: a45 :: a46 :: a47 :: a48 :: a49 :: a50 :: a51 :: a52 :: a53 :: a54 :: a55 :: a56 :: a57 :: a58 :: a59 :: a60 :: a61 :: a62 :: a63 :: a64 :: a65 :: a66 :: a67 :: a68 :: a69 :: a70 :: a71 :: a72 :: a73 :: a74 :: [], ht =>
  obtain ⟨_, t0, t1, t5⟩ := ht
  simp only [List.getElem?_cons_zero, List.getElem?_cons_succ, Option.some.injEq] at t0 t1 t5
  replace t0 := t0.symm; replace t1 := t1.symm; replace t5 := t5.symm
  subst t0 t1 t5
  refine ⟨?tm, ?run, ?sh⟩
  case run =>
    rw [show ∀ tm h, xcode X1 tab 33 none (.loop body33) tm h = thenX X1 tab 33 none (.loop body33) (xcode X1 tab 33 none body33 tm h) from fun _ _ => x_loop]
    delta body33
    simp (decide := true) only [note_false, Int.reduceBEq, Int.reduceBNe, x_drawn, l_nil, l_op, l_guard, l_some, l_true, l_false, l_draw, readsA, x_true, x_false, x_seq, x_ops, x_cond, x_skip, x_ret, x_exit, x_block, x_then, x_thenE, x_thenR, x_blockN, x_blockR, x_blockE, s_nil, s_op, s_guard, s_some, s_true, s_false, s_put, s_put0, s_opsR, s_ret, s_norm, aop, ev, evs, List.map_cons, List.map_nil, List.cons_append, List.nil_append, List.append_nil, List.replicate, List.take_succ_cons, List.take_zero, List.take_nil, List.drop_succ_cons, List.drop_zero, List.drop_nil, Nat.zero_add, Nat.add_zero, Nat.reduceAdd, Nat.reduceMul, Nat.reduceLeDiff, Bool.false_eq_true, and_self, List.length_cons, List.length_nil, List.set_cons_zero, List.set_cons_succ, List.getD_cons_zero, List.getD_cons_succ, wantedA, List.getElem?_cons_zero, List.getElem?_cons_succ, q_t, q_f, Bool.not_true, Bool.not_false, b_add, b_sub, b_mul, b_eql, b_neq, b_lss, b_leq, b_gtr, b_geq, b_and, b_or, b_xor, b_quo, b_rem, b_shl, b_shr, unA, Option.map_some, Option.map_none, resA, tupA, Int.reduceLT, not_false_eq_true, not_true_eq_false, decide_true, decide_false, f_bool, c_bool, f_int, c_int, f_str, c_str, f_nilptr, c_nilptr, f_ptr, c_ptr, f_nilsl, c_nilsl, f_slice, c_slice, f_nilmap, c_nilmap, f_map, c_map, f_nilf, c_nilf, f_func, c_func, f_yieldf, c_yieldf, f_nilif, c_nilif, f_iface, c_iface, c_agg, List.all_cons, List.all_nil, Bool.and_true, Bool.true_and, if_true, if_false, ite_true, ite_false, hlt, hlt2]
    rfl
  case sh => rfl
/-- What one round comes to. -/
theorem go_round {h0 h : Heap} {r b len i : Nat} {s : List Int × Int} {F : Nat → Prop} {rows : List (List AV)} {a : Thing} {row : List AV} {tm : List AV} (ht : Sh33 r b len i tm) (hb : b < h0.next) (hg : h0.get b = some (.cells rows.flatten true)) (hall : ∀ r ∈ rows, r.length = 5) (hlen : rows.length = len) (hi : rows[i]? = some row) (ha : ThingAt h0 row a) (hi1 : i < 60)
    (hv : Inv33 h0 h r s F) :
    ((rdThing a s).1 = true ∧ (rdThing a s).2.2 = 0 ∧ ∃ tm' h', xcode X1 tab 33 none (.loop body33) tm h = xcode X1 tab 33 none (.loop body33) tm' h' ∧ Sh33 r b len (i + 1) tm' ∧ Inv33 h0 h' r (rdThing a s).2 F ∧ Stp h h' F F) ∨
    (¬ ((rdThing a s).1 = true ∧ (rdThing a s).2.2 = 0) ∧ ∃ tm' h', xcode X1 tab 33 none (.loop body33) tm h = some (.ret, tm', h') ∧ tm'.getD 4 undefA = .bool false ∧ Inv33 h0 h' r (rdThing a s).2 F ∧ Stp h h' F F) := by
  have hne : ∀ e : Int, (e != 0) = true → ¬ e = 0 := fun e he => by simpa using he
  have heq : ∀ e : Int, (e != 0) = false → e = 0 := fun e he => by simpa using he
  cases c0 : (a.what.tmod 4 == 0)
  · cases c1 : (a.what.tmod 4 == 1)
    · cases c2 : (a.what.tmod 4 == 2)
      · have hr : rdThing a s = ((rdB a.b.length s).1 == a.b, (rdB a.b.length s).2) := by simp [rdThing, c0, c1, c2]
        rw [hr]
        cases hs : ((rdB a.b.length s).1 == a.b)
        · exact .inr ⟨(fun e => by cases e.1), go_bytes_diff ht hb hg hall hlen hi ha hi1 hv c0 c1 c2 hs⟩
        · cases he : ((rdB a.b.length s).2.2 != 0)
          · exact .inl ⟨rfl, heq _ he, go_bytes_ok ht hb hg hall hlen hi ha hi1 hv c0 c1 c2 hs he⟩
          · exact .inr ⟨fun e => hne _ he e.2, go_bytes_err ht hb hg hall hlen hi ha hi1 hv c0 c1 c2 hs he⟩
      · have hr : rdThing a s = ((rdT s).1 == a.is, (rdT s).2) := by simp [rdThing, c0, c1, c2]
        rw [hr]
        cases hs : ((rdT s).1 == a.is)
        · exact .inr ⟨(fun e => by cases e.1), go_truth_diff ht hb hg hall hlen hi ha hi1 hv c0 c1 c2 hs⟩
        · cases he : ((rdT s).2.2 != 0)
          · exact .inl ⟨rfl, heq _ he, go_truth_ok ht hb hg hall hlen hi ha hi1 hv c0 c1 c2 hs he⟩
          · exact .inr ⟨fun e => hne _ he e.2, go_truth_err ht hb hg hall hlen hi ha hi1 hv c0 c1 c2 hs he⟩
    · have hr : rdThing a s = ((rdN 8 s).1 == a.n, (rdN 8 s).2) := by simp [rdThing, c0, c1]
      rw [hr]
      cases hs : ((rdN 8 s).1 == a.n)
      · exact .inr ⟨(fun e => by cases e.1), go_great_diff ht hb hg hall hlen hi ha hi1 hv c0 c1 hs⟩
      · cases he : ((rdN 8 s).2.2 != 0)
        · exact .inl ⟨rfl, heq _ he, go_great_ok ht hb hg hall hlen hi ha hi1 hv c0 c1 hs he⟩
        · exact .inr ⟨fun e => hne _ he e.2, go_great_err ht hb hg hall hlen hi ha hi1 hv c0 c1 hs he⟩
  · have hr : rdThing a s = ((rdN 4 s).1 == IntKind.u32.wrap a.n, (rdN 4 s).2) := by simp [rdThing, c0]
    rw [hr]
    cases hs : ((rdN 4 s).1 == IntKind.u32.wrap a.n)
    · exact .inr ⟨(fun e => by cases e.1), go_num_diff ht hb hg hall hlen hi ha hi1 hv c0 hs⟩
    · cases he : ((rdN 4 s).2.2 != 0)
      · exact .inl ⟨rfl, heq _ he, go_num_ok ht hb hg hall hlen hi ha hi1 hv c0 hs he⟩
      · exact .inr ⟨fun e => hne _ he e.2, go_num_err ht hb hg hall hlen hi ha hi1 hv c0 hs he⟩
theorem go_loop {h0 : Heap} {r b len : Nat} {F : Nat → Prop} {rows : List (List AV)} {ts : List Thing} (hb : b < h0.next) (hg : h0.get b = some (.cells rows.flatten true)) (hall : ∀ r ∈ rows, r.length = 5) (hlen : rows.length = len) (h2 : Things2 h0 rows ts) : ∀ (d i : Nat) (h : Heap) (s : List Int × Int) (tm : List AV), i + d = 60 → Sh33 r b len i tm → Inv33 h0 h r s F →
    ((goesP ((ts.take 60).drop i) s).1 = true ∧ ∃ tm' h', xcode X1 tab 33 none (.loop body33) tm h = some (.exit 0, tm', h') ∧ tm'.length = 75 ∧ Inv33 h0 h' r (goesP ((ts.take 60).drop i) s).2 F ∧ Stp h h' F F) ∨
    ((goesP ((ts.take 60).drop i) s).1 = false ∧ ∃ tm' h', xcode X1 tab 33 none (.loop body33) tm h = some (.ret, tm', h') ∧ tm'.getD 4 undefA = .bool false ∧ Inv33 h0 h' r (goesP ((ts.take 60).drop i) s).2 F ∧ Stp h h' F F) := by
  intro d
  induction d with
  | zero =>
    intro i h s tm hd ht hv
    obtain rfl : i = 60 := by omega
    have hdr : (ts.take 60).drop 60 = [] := List.drop_eq_nil_of_le (by rw [List.length_take]; exact Nat.min_le_left _ _)
    rw [hdr]
    by_cases hlt : 60 < len
    · obtain ⟨tm', e, e2⟩ := go_outB (h := h) ht (by omega) (by omega)
      exact .inl ⟨rfl, tm', h, e, e2, hv, .of_grow (.refl h)⟩
    · obtain ⟨tm', e, e2⟩ := go_outA (h := h) ht (by omega)
      exact .inl ⟨rfl, tm', h, e, e2, hv, .of_grow (.refl h)⟩
  | succ d ih =>
    intro i h s tm hd ht hv
    by_cases hlt : i < len
    · have hlt2 : i < rows.length := by omega
      have hr := List.getElem?_eq_getElem hlt2
      obtain ⟨a, hta, haa⟩ := h2.2 i _ hr
      have hil : i < ts.length := by rw [h2.1]; exact hlt2
      have hdr : (ts.take 60).drop i = a :: (ts.take 60).drop (i + 1) := by
        have hlt3 : i < (ts.take 60).length := by rw [List.length_take]; omega
        rw [List.drop_eq_getElem_cons hlt3]
        congr 1
        rw [List.getElem_take]
        rw [List.getElem?_eq_getElem hil] at hta
        exact Option.some.inj hta
      rw [hdr]
      rcases go_round ht hb hg hall hlen hr haa (by omega) hv with ⟨q1, q2, tm', h', e, ht', hv', st⟩ | ⟨q, tm', h', e, e2, hv', st⟩
      · rw [goesP, if_pos ⟨q1, q2⟩]
        rcases ih (i + 1) h' _ tm' (by omega) ht' hv' with ⟨w1, tm2, h2', e2, e3, hv2, st2⟩ | ⟨w1, tm2, h2', e2, e3, hv2, st2⟩
        · exact .inl ⟨w1, tm2, h2', e.trans e2, e3, hv2, st.trans st2⟩
        · exact .inr ⟨w1, tm2, h2', e.trans e2, e3, hv2, st.trans st2⟩
      · rw [goesP, if_neg q]
        exact .inr ⟨rfl, tm', h', e, e2, hv', st⟩
    · have hdr : (ts.take 60).drop i = [] := List.drop_eq_nil_of_le (by rw [List.length_take, h2.1]; omega)
      rw [hdr]
      obtain ⟨tm', e, e2⟩ := go_outA (h := h) ht (by omega)
      exact .inl ⟨rfl, tm', h, e, e2, hv, .of_grow (.refl h)⟩
theorem tail33_spec {h : Heap} {tm : List AV} (hl : tm.length = 75) : ∃ tm', xcode X1 tab 33 none tail33 tm h = some (.ret, tm', h) ∧ tm'.getD 4 undefA = .bool true := by
  refine ⟨tm.set 4 (.bool true), ?_, ?_⟩
  · delta tail33
    simp only [note_false, Int.reduceBEq, Int.reduceBNe, x_drawn, l_nil, l_op, l_guard, l_some, l_true, l_false, l_draw, readsA, x_true, x_false, x_seq, x_ops, x_cond, x_skip, x_ret, x_exit, x_block, x_then, x_thenE, x_thenR, x_blockN, x_blockR, x_blockE, s_nil, s_op, s_guard, s_some, s_true, s_false, s_put, s_put0, s_opsR, s_ret, s_norm, aop, ev, evs, List.map_cons, List.map_nil, List.cons_append, List.nil_append, List.append_nil, List.replicate, List.take_succ_cons, List.take_zero, List.take_nil, List.drop_succ_cons, List.drop_zero, List.drop_nil, Nat.zero_add, Nat.add_zero, Nat.reduceAdd, Nat.reduceMul, Nat.reduceLeDiff, Bool.false_eq_true, and_self, List.length_cons, List.length_nil, List.set_cons_zero, List.set_cons_succ, List.getD_cons_zero, List.getD_cons_succ, wantedA, List.getElem?_cons_zero, List.getElem?_cons_succ, q_t, q_f, Bool.not_true, Bool.not_false, b_add, b_sub, b_mul, b_eql, b_neq, b_lss, b_leq, b_gtr, b_geq, b_and, b_or, b_xor, b_quo, b_rem, b_shl, b_shr, unA, Option.map_some, Option.map_none, resA, tupA, Int.reduceLT, not_false_eq_true, not_true_eq_false, decide_true, decide_false, f_bool, c_bool, f_int, c_int, f_str, c_str, f_nilptr, c_nilptr, f_ptr, c_ptr, f_nilsl, c_nilsl, f_slice, c_slice, f_nilmap, c_nilmap, f_map, c_map, f_nilf, c_nilf, f_func, c_func, f_yieldf, c_yieldf, f_nilif, c_nilif, f_iface, c_iface, c_agg, List.all_cons, List.all_nil, Bool.and_true, Bool.true_and, if_true, if_false, ite_true, ite_false]
  · rw [List.getD_eq_getElem?_getD, List.getElem?_set_self (by omega)]; rfl
/-- goes. -/
theorem goes33 {h0 h : Heap} {r b len : Nat} {s : List Int × Int} {F : Nat → Prop} {rows : List (List AV)} {ts : List Thing} (hb : b < h0.next) (hg : h0.get b = some (.cells rows.flatten true)) (hall : ∀ r ∈ rows, r.length = 5) (hlen : rows.length = len) (h2 : Things2 h0 rows ts) (hv : Inv33 h0 h r s F) :
    ∃ h', xcall X1 tab (.fn 33) [.ptr r 0, .slice b 0 len len false 5] h = some (.bool (goesP (ts.take 60) s).1, h') ∧ Inv33 h0 h' r (goesP (ts.take 60) s).2 F ∧ Stp h h' F F := by
  have hT : Sh33 r b len 0 [.ptr r 0, .slice b 0 len len false 5, undefA, undefA, .bool false, .int .i64 0, undefA, undefA, undefA, undefA, undefA, undefA, undefA, undefA, undefA, undefA, undefA, undefA, undefA, undefA, undefA, undefA, undefA, undefA, undefA, undefA, undefA, undefA, undefA, undefA, undefA, undefA, undefA, undefA, undefA, undefA, undefA, undefA, undefA, undefA, undefA, undefA, undefA, undefA, undefA, undefA, undefA, undefA, undefA, undefA, undefA, undefA, undefA, undefA, undefA, undefA, undefA, undefA, undefA, undefA, undefA, undefA, undefA, undefA, undefA, undefA, undefA, undefA, undefA, undefA, undefA, undefA, undefA, undefA, undefA] := ⟨rfl, rfl, rfl, rfl⟩
  have hl := go_loop hb hg hall hlen h2 60 0 h s _ (by omega) hT hv
  rw [List.drop_zero] at hl
  rcases hl with ⟨w1, tm1, h1, e, e2, hv2, st⟩ | ⟨w1, tm1, h1, e, e2, hv2, st⟩
  · obtain ⟨tm2, e3, e4⟩ := tail33_spec (h := h1) e2
    refine ⟨h1, ?_, hv2, st⟩
    rw [w1, x_fn rfl (show tab 33 = some ⟨75, [.tmp 4], sf33.body⟩ from rfl), body33_eq]
    simp (decide := true) only [note_false, Int.reduceBEq, Int.reduceBNe, x_drawn, l_nil, l_op, l_guard, l_some, l_true, l_false, l_draw, readsA, x_true, x_false, x_seq, x_ops, x_cond, x_skip, x_ret, x_exit, x_block, x_then, x_thenE, x_thenR, x_blockN, x_blockR, x_blockE, s_nil, s_op, s_guard, s_some, s_true, s_false, s_put, s_put0, s_opsR, s_ret, s_norm, aop, ev, evs, List.map_cons, List.map_nil, List.cons_append, List.nil_append, List.append_nil, List.replicate, List.take_succ_cons, List.take_zero, List.take_nil, List.drop_succ_cons, List.drop_zero, List.drop_nil, Nat.zero_add, Nat.add_zero, Nat.reduceAdd, Nat.reduceMul, Nat.reduceLeDiff, Bool.false_eq_true, and_self, List.length_cons, List.length_nil, List.set_cons_zero, List.set_cons_succ, List.getD_cons_zero, List.getD_cons_succ, wantedA, List.getElem?_cons_zero, List.getElem?_cons_succ, q_t, q_f, Bool.not_true, Bool.not_false, b_add, b_sub, b_mul, b_eql, b_neq, b_lss, b_leq, b_gtr, b_geq, b_and, b_or, b_xor, b_quo, b_rem, b_shl, b_shr, unA, Option.map_some, Option.map_none, resA, tupA, Int.reduceLT, not_false_eq_true, not_true_eq_false, decide_true, decide_false, f_bool, c_bool, f_int, c_int, f_str, c_str, f_nilptr, c_nilptr, f_ptr, c_ptr, f_nilsl, c_nilsl, f_slice, c_slice, f_nilmap, c_nilmap, f_map, c_map, f_nilf, c_nilf, f_func, c_func, f_yieldf, c_yieldf, f_nilif, c_nilif, f_iface, c_iface, c_agg, List.all_cons, List.all_nil, Bool.and_true, Bool.true_and, if_true, if_false, ite_true, ite_false, e, e3, e4]
  · refine ⟨h1, ?_, hv2, st⟩
    rw [w1, x_fn rfl (show tab 33 = some ⟨75, [.tmp 4], sf33.body⟩ from rfl), body33_eq]
    simp (decide := true) only [note_false, Int.reduceBEq, Int.reduceBNe, x_drawn, l_nil, l_op, l_guard, l_some, l_true, l_false, l_draw, readsA, x_true, x_false, x_seq, x_ops, x_cond, x_skip, x_ret, x_exit, x_block, x_then, x_thenE, x_thenR, x_blockN, x_blockR, x_blockE, s_nil, s_op, s_guard, s_some, s_true, s_false, s_put, s_put0, s_opsR, s_ret, s_norm, aop, ev, evs, List.map_cons, List.map_nil, List.cons_append, List.nil_append, List.append_nil, List.replicate, List.take_succ_cons, List.take_zero, List.take_nil, List.drop_succ_cons, List.drop_zero, List.drop_nil, Nat.zero_add, Nat.add_zero, Nat.reduceAdd, Nat.reduceMul, Nat.reduceLeDiff, Bool.false_eq_true, and_self, List.length_cons, List.length_nil, List.set_cons_zero, List.set_cons_succ, List.getD_cons_zero, List.getD_cons_succ, wantedA, List.getElem?_cons_zero, List.getElem?_cons_succ, q_t, q_f, Bool.not_true, Bool.not_false, b_add, b_sub, b_mul, b_eql, b_neq, b_lss, b_leq, b_gtr, b_geq, b_and, b_or, b_xor, b_quo, b_rem, b_shl, b_shr, unA, Option.map_some, Option.map_none, resA, tupA, Int.reduceLT, not_false_eq_true, not_true_eq_false, decide_true, decide_false, f_bool, c_bool, f_int, c_int, f_str, c_str, f_nilptr, c_nilptr, f_ptr, c_ptr, f_nilsl, c_nilsl, f_slice, c_slice, f_nilmap, c_nilmap, f_map, c_map, f_nilf, c_nilf, f_func, c_func, f_yieldf, c_yieldf, f_nilif, c_nilif, f_iface, c_iface, c_agg, List.all_cons, List.all_nil, Bool.and_true, Bool.true_and, if_true, if_false, ite_true, ite_false, e, e2]
theorem goes_nil (h : Heap) (r : Nat) : xcall X1 tab (.fn 33) [.ptr r 0, .nilsl] h = some (.bool true, h) := by
  have key : ∃ tm', xcode X1 tab 33 none (.loop body33) [.ptr r 0, .nilsl, undefA, undefA, .bool false, .int .i64 0, undefA, undefA, undefA, undefA, undefA, undefA, undefA, undefA, undefA, undefA, undefA, undefA, undefA, undefA, undefA, undefA, undefA, undefA, undefA, undefA, undefA, undefA, undefA, undefA, undefA, undefA, undefA, undefA, undefA, undefA, undefA, undefA, undefA, undefA, undefA, undefA, undefA, undefA, undefA, undefA, undefA, undefA, undefA, undefA, undefA, undefA, undefA, undefA, undefA, undefA, undefA, undefA, undefA, undefA, undefA, undefA, undefA, undefA, undefA, undefA, undefA, undefA, undefA, undefA, undefA, undefA, undefA, undefA, undefA] h = some (.exit 0, tm', h) ∧ tm'.length = 75 := by
    refine ⟨?tm, ?run, ?sh⟩
    case run =>
      rw [show ∀ tm h, xcode X1 tab 33 none (.loop body33) tm h = thenX X1 tab 33 none (.loop body33) (xcode X1 tab 33 none body33 tm h) from fun _ _ => x_loop]
      delta body33
      simp (decide := true) only [note_false, Int.reduceBEq, Int.reduceBNe, x_drawn, l_nil, l_op, l_guard, l_some, l_true, l_false, l_draw, readsA, x_true, x_false, x_seq, x_ops, x_cond, x_skip, x_ret, x_exit, x_block, x_then, x_thenE, x_thenR, x_blockN, x_blockR, x_blockE, s_nil, s_op, s_guard, s_some, s_true, s_false, s_put, s_put0, s_opsR, s_ret, s_norm, aop, ev, evs, List.map_cons, List.map_nil, List.cons_append, List.nil_append, List.append_nil, List.replicate, List.take_succ_cons, List.take_zero, List.take_nil, List.drop_succ_cons, List.drop_zero, List.drop_nil, Nat.zero_add, Nat.add_zero, Nat.reduceAdd, Nat.reduceMul, Nat.reduceLeDiff, Bool.false_eq_true, and_self, List.length_cons, List.length_nil, List.set_cons_zero, List.set_cons_succ, List.getD_cons_zero, List.getD_cons_succ, wantedA, List.getElem?_cons_zero, List.getElem?_cons_succ, q_t, q_f, Bool.not_true, Bool.not_false, b_add, b_sub, b_mul, b_eql, b_neq, b_lss, b_leq, b_gtr, b_geq, b_and, b_or, b_xor, b_quo, b_rem, b_shl, b_shr, unA, Option.map_some, Option.map_none, resA, tupA, Int.reduceLT, not_false_eq_true, not_true_eq_false, decide_true, decide_false, f_bool, c_bool, f_int, c_int, f_str, c_str, f_nilptr, c_nilptr, f_ptr, c_ptr, f_nilsl, c_nilsl, f_slice, c_slice, f_nilmap, c_nilmap, f_map, c_map, f_nilf, c_nilf, f_func, c_func, f_yieldf, c_yieldf, f_nilif, c_nilif, f_iface, c_iface, c_agg, List.all_cons, List.all_nil, Bool.and_true, Bool.true_and, if_true, if_false, ite_true, ite_false]
      rfl
    case sh => rfl
  obtain ⟨tm1, e, e2⟩ := key
  obtain ⟨tm2, e3, e4⟩ := tail33_spec (h := h) e2
  rw [x_fn rfl (show tab 33 = some ⟨75, [.tmp 4], sf33.body⟩ from rfl), body33_eq]
  simp (decide := true) only [note_false, Int.reduceBEq, Int.reduceBNe, x_drawn, l_nil, l_op, l_guard, l_some, l_true, l_false, l_draw, readsA, x_true, x_false, x_seq, x_ops, x_cond, x_skip, x_ret, x_exit, x_block, x_then, x_thenE, x_thenR, x_blockN, x_blockR, x_blockE, s_nil, s_op, s_guard, s_some, s_true, s_false, s_put, s_put0, s_opsR, s_ret, s_norm, aop, ev, evs, List.map_cons, List.map_nil, List.cons_append, List.nil_append, List.append_nil, List.replicate, List.take_succ_cons, List.take_zero, List.take_nil, List.drop_succ_cons, List.drop_zero, List.drop_nil, Nat.zero_add, Nat.add_zero, Nat.reduceAdd, Nat.reduceMul, Nat.reduceLeDiff, Bool.false_eq_true, and_self, List.length_cons, List.length_nil, List.set_cons_zero, List.set_cons_succ, List.getD_cons_zero, List.getD_cons_succ, wantedA, List.getElem?_cons_zero, List.getElem?_cons_succ, q_t, q_f, Bool.not_true, Bool.not_false, b_add, b_sub, b_mul, b_eql, b_neq, b_lss, b_leq, b_gtr, b_geq, b_and, b_or, b_xor, b_quo, b_rem, b_shl, b_shr, unA, Option.map_some, Option.map_none, resA, tupA, Int.reduceLT, not_false_eq_true, not_true_eq_false, decide_true, decide_false, f_bool, c_bool, f_int, c_int, f_str, c_str, f_nilptr, c_nilptr, f_ptr, c_ptr, f_nilsl, c_nilsl, f_slice, c_slice, f_nilmap, c_nilmap, f_map, c_map, f_nilf, c_nilf, f_func, c_func, f_yieldf, c_yieldf, f_nilif, c_nilif, f_iface, c_iface, c_agg, List.all_cons, List.all_nil, Bool.and_true, Bool.true_and, if_true, if_false, ite_true, ite_false, e, e3, e4]
end Go.Proofs.Ytndcokalnpnbgaa.Ya

