/-
  Xdr, law XdrBack: things that are told (truth, bytes).
-/
import Derived.Test.YtndcokalnpnbgaaYaGoes0
namespace Go.Proofs.Ytndcokalnpnbgaa.Ya
open Go.Ya
set_option linter.unusedVariables false
set_option linter.unusedSimpArgs false
set_option maxRecDepth 100000
set_option maxHeartbeats 8000000

theorem go_truth_diff {h0 h : Heap} {r b len i : Nat} {s : List Int × Int} {F : Nat → Prop} {rows : List (List AV)} {a : Thing} {row : List AV} {tm : List AV} (ht : Sh33 r b len i tm) (hb : b < h0.next) (hg : h0.get b = some (.cells rows.flatten true)) (hall : ∀ r ∈ rows, r.length = 5) (hlen : rows.length = len) (hi : rows[i]? = some row) (ha : ThingAt h0 row a) (hi1 : i < 60)
    (hv : Inv33 h0 h r s F) (c0 : (a.what.tmod 4 == 0) = false) (c1 : (a.what.tmod 4 == 1) = false) (c2 : (a.what.tmod 4 == 2) = true) (hs : ((rdT s).1 == a.is) = false) :
    ∃ tm' h', xcode X1 tab 33 none (.loop body33) tm h = some (.ret, tm', h') ∧ tm'.getD 4 undefA = .bool false ∧ Inv33 h0 h' r (rdT s).2 F ∧ Stp h h' F F := by
  match tm, ht with
  | a0 :: a1 :: a2 :: a3 :: a4 :: a5 :: a6 :: a7 :: a8 :: a9 :: a10 :: a11 :: a12 :: a13 :: a14 :: a15 :: a16 :: a17 :: a18 :: a19 :: a20 :: a21 :: a22 :: a23 :: a24 :: a25 :: a26 :: a27 :: a28 :: a29 :: a30 :: a31 :: a32 :: a33 :: a34 :: a35 :: a36 :: a37 :: a38 :: a39 :: a40 :: a41 :: a42 :: a43 :: a44 :: a45 :: a46 :: a47 :: a48 :: a49 :: a50 :: a51 :: a52 :: a53 :: a54 :: a55 :: a56 :: a57 :: a58 :: a59 :: a60 :: a61 :: a62 :: a63 :: a64 :: a65 :: a66 :: a67 :: a68 :: a69 :: a70 :: a71 :: a72 :: a73 :: a74 :: [], ht =>
  obtain ⟨_, t0, t1, t5⟩ := ht
  simp only [List.getElem?_cons_zero, List.getElem?_cons_succ, Option.some.injEq] at t0 t1 t5
  replace t0 := t0.symm; replace t1 := t1.symm; replace t5 := t5.symm
  subst t0 t1 t5
  obtain ⟨f, hlo, hx, hsame⟩ := id hv
  obtain ⟨v, rfl, hbt0, hmax, hN, hW, hM, hBy⟩ := ha
  have hilt : i < len := by
    rcases Nat.lt_or_ge i rows.length with h | h
    · omega
    · rw [List.getElem?_eq_none h] at hi; cases hi
  have hgh := (hsame b hb).trans hg
  have l0 := load_cell hgh hall hi (k := 0) rfl
  have l3 := load_cell hgh hall hi (k := 3) rfl
  rw [Nat.add_zero] at l0
  have hw : IntKind.i64.wrap ((i : Int) + 1) = ((i + 1 : Nat) : Int) := by
    rw [IntWalk.i64_in _ (by omega)]; simp
  have hlt : (i : Int) < (len : Int) := by omega
  have hlt2 : (i : Int) < 60 := by omega
  have hix : (0 : Int) ≤ (i : Int) ∧ (i : Int) < (len : Int) := by omega
  have hin : 0 + (i : Int).toNat * 5 = i * 5 := by omega
  obtain ⟨H1, e1, f1, s1⟩ := R.rdTruth_spec f
  replace e1 : xcall X1 tab (.fn 26) [.ptr r 0] h = some (.bool (rdT s).1, H1) := e1
  have hv' := hv.step f1 s1
  have hgh1 := (hv'.2.2.2 b hb).trans hg
  have m1 := load_cell hgh1 hall hi (k := 1) rfl
  have m2 := load_cell hgh1 hall hi (k := 2) rfl
  have m3 := load_cell hgh1 hall hi (k := 3) rfl
  have eE := R.rdError_spec f1
  have hbk : binA .eql .bool (.bool (rdT s).1) (.bool a.is) = some (.bool ((rdT s).1 == a.is)) := by cases (rdT s).1 <;> cases a.is <;> rfl
  replace eE : xcall X1 tab (.fn 30) [.ptr r 0] H1 = some (.int .i64 (rdT s).2.2, H1) := eE

  refine ⟨?tm, H1, ?run, ?sh, hv', s1⟩
  case run =>
    rw [show ∀ tm h, xcode X1 tab 33 none (.loop body33) tm h = thenX X1 tab 33 none (.loop body33) (xcode X1 tab 33 none body33 tm h) from fun _ _ => x_loop]
    delta body33
    simp (decide := true) only [note_false, Int.reduceBEq, Int.reduceBNe, x_drawn, l_nil, l_op, l_guard, l_some, l_true, l_false, l_draw, readsA, x_true, x_false, x_seq, x_ops, x_cond, x_skip, x_ret, x_exit, x_block, x_then, x_thenE, x_thenR, x_blockN, x_blockR, x_blockE, s_nil, s_op, s_guard, s_some, s_true, s_false, s_put, s_put0, s_opsR, s_ret, s_norm, aop, ev, evs, List.map_cons, List.map_nil, List.cons_append, List.nil_append, List.append_nil, List.replicate, List.take_succ_cons, List.take_zero, List.take_nil, List.drop_succ_cons, List.drop_zero, List.drop_nil, Nat.zero_add, Nat.add_zero, Nat.reduceAdd, Nat.reduceMul, Nat.reduceLeDiff, Bool.false_eq_true, and_self, List.length_cons, List.length_nil, List.set_cons_zero, List.set_cons_succ, List.getD_cons_zero, List.getD_cons_succ, wantedA, List.getElem?_cons_zero, List.getElem?_cons_succ, q_t, q_f, Bool.not_true, Bool.not_false, b_add, b_sub, b_mul, b_eql, b_neq, b_lss, b_leq, b_gtr, b_geq, b_and, b_or, b_xor, b_quo, b_rem, b_shl, b_shr, unA, Option.map_some, Option.map_none, resA, tupA, Int.reduceLT, not_false_eq_true, not_true_eq_false, decide_true, decide_false, f_bool, c_bool, f_int, c_int, f_str, c_str, f_nilptr, c_nilptr, f_ptr, c_ptr, f_nilsl, c_nilsl, f_slice, c_slice, f_nilmap, c_nilmap, f_map, c_map, f_nilf, c_nilf, f_func, c_func, f_yieldf, c_yieldf, f_nilif, c_nilif, f_iface, c_iface, c_agg, List.all_cons, List.all_nil, Bool.and_true, Bool.true_and, if_true, if_false, ite_true, ite_false, hlt, hlt2, hix, hin, l0, c0, c1, c2, e1, m2, hbk, hs, chkLog, same_cells, hgh, hgh1]
    rfl
  case sh => rfl

theorem go_truth_err {h0 h : Heap} {r b len i : Nat} {s : List Int × Int} {F : Nat → Prop} {rows : List (List AV)} {a : Thing} {row : List AV} {tm : List AV} (ht : Sh33 r b len i tm) (hb : b < h0.next) (hg : h0.get b = some (.cells rows.flatten true)) (hall : ∀ r ∈ rows, r.length = 5) (hlen : rows.length = len) (hi : rows[i]? = some row) (ha : ThingAt h0 row a) (hi1 : i < 60)
    (hv : Inv33 h0 h r s F) (c0 : (a.what.tmod 4 == 0) = false) (c1 : (a.what.tmod 4 == 1) = false) (c2 : (a.what.tmod 4 == 2) = true) (hs : ((rdT s).1 == a.is) = true) (he : ((rdT s).2.2 != 0) = true) :
    ∃ tm' h', xcode X1 tab 33 none (.loop body33) tm h = some (.ret, tm', h') ∧ tm'.getD 4 undefA = .bool false ∧ Inv33 h0 h' r (rdT s).2 F ∧ Stp h h' F F := by
  match tm, ht with
  | a0 :: a1 :: a2 :: a3 :: a4 :: a5 :: a6 :: a7 :: a8 :: a9 :: a10 :: a11 :: a12 :: a13 :: a14 :: a15 :: a16 :: a17 :: a18 :: a19 :: a20 :: a21 :: a22 :: a23 :: a24 :: a25 :: a26 :: a27 :: a28 :: a29 :: a30 :: a31 :: a32 :: a33 :: a34 :: a35 :: a36 :: a37 :: a38 :: a39 :: a40 :: a41 :: a42 :: a43 :: a44 :: a45 :: a46 :: a47 :: a48 :: a49 :: a50 :: a51 :: a52 :: a53 :: a54 :: a55 :: a56 :: a57 :: a58 :: a59 :: a60 :: a61 :: a62 :: a63 :: a64 :: a65 :: a66 :: a67 :: a68 :: a69 :: a70 :: a71 :: a72 :: a73 :: a74 :: [], ht =>
  obtain ⟨_, t0, t1, t5⟩ := ht
  simp only [List.getElem?_cons_zero, List.getElem?_cons_succ, Option.some.injEq] at t0 t1 t5
  replace t0 := t0.symm; replace t1 := t1.symm; replace t5 := t5.symm
  subst t0 t1 t5
  obtain ⟨f, hlo, hx, hsame⟩ := id hv
  obtain ⟨v, rfl, hbt0, hmax, hN, hW, hM, hBy⟩ := ha
  have hilt : i < len := by
    rcases Nat.lt_or_ge i rows.length with h | h
    · omega
    · rw [List.getElem?_eq_none h] at hi; cases hi
  have hgh := (hsame b hb).trans hg
  have l0 := load_cell hgh hall hi (k := 0) rfl
  have l3 := load_cell hgh hall hi (k := 3) rfl
  rw [Nat.add_zero] at l0
  have hw : IntKind.i64.wrap ((i : Int) + 1) = ((i + 1 : Nat) : Int) := by
    rw [IntWalk.i64_in _ (by omega)]; simp
  have hlt : (i : Int) < (len : Int) := by omega
  have hlt2 : (i : Int) < 60 := by omega
  have hix : (0 : Int) ≤ (i : Int) ∧ (i : Int) < (len : Int) := by omega
  have hin : 0 + (i : Int).toNat * 5 = i * 5 := by omega
  obtain ⟨H1, e1, f1, s1⟩ := R.rdTruth_spec f
  replace e1 : xcall X1 tab (.fn 26) [.ptr r 0] h = some (.bool (rdT s).1, H1) := e1
  have hv' := hv.step f1 s1
  have hgh1 := (hv'.2.2.2 b hb).trans hg
  have m1 := load_cell hgh1 hall hi (k := 1) rfl
  have m2 := load_cell hgh1 hall hi (k := 2) rfl
  have m3 := load_cell hgh1 hall hi (k := 3) rfl
  have eE := R.rdError_spec f1
  have hbk : binA .eql .bool (.bool (rdT s).1) (.bool a.is) = some (.bool ((rdT s).1 == a.is)) := by cases (rdT s).1 <;> cases a.is <;> rfl
  replace eE : xcall X1 tab (.fn 30) [.ptr r 0] H1 = some (.int .i64 (rdT s).2.2, H1) := eE

  refine ⟨?tm, H1, ?run, ?sh, hv', s1⟩
  case run =>
    rw [show ∀ tm h, xcode X1 tab 33 none (.loop body33) tm h = thenX X1 tab 33 none (.loop body33) (xcode X1 tab 33 none body33 tm h) from fun _ _ => x_loop]
    delta body33
    simp (decide := true) only [note_false, Int.reduceBEq, Int.reduceBNe, x_drawn, l_nil, l_op, l_guard, l_some, l_true, l_false, l_draw, readsA, x_true, x_false, x_seq, x_ops, x_cond, x_skip, x_ret, x_exit, x_block, x_then, x_thenE, x_thenR, x_blockN, x_blockR, x_blockE, s_nil, s_op, s_guard, s_some, s_true, s_false, s_put, s_put0, s_opsR, s_ret, s_norm, aop, ev, evs, List.map_cons, List.map_nil, List.cons_append, List.nil_append, List.append_nil, List.replicate, List.take_succ_cons, List.take_zero, List.take_nil, List.drop_succ_cons, List.drop_zero, List.drop_nil, Nat.zero_add, Nat.add_zero, Nat.reduceAdd, Nat.reduceMul, Nat.reduceLeDiff, Bool.false_eq_true, and_self, List.length_cons, List.length_nil, List.set_cons_zero, List.set_cons_succ, List.getD_cons_zero, List.getD_cons_succ, wantedA, List.getElem?_cons_zero, List.getElem?_cons_succ, q_t, q_f, Bool.not_true, Bool.not_false, b_add, b_sub, b_mul, b_eql, b_neq, b_lss, b_leq, b_gtr, b_geq, b_and, b_or, b_xor, b_quo, b_rem, b_shl, b_shr, unA, Option.map_some, Option.map_none, resA, tupA, Int.reduceLT, not_false_eq_true, not_true_eq_false, decide_true, decide_false, f_bool, c_bool, f_int, c_int, f_str, c_str, f_nilptr, c_nilptr, f_ptr, c_ptr, f_nilsl, c_nilsl, f_slice, c_slice, f_nilmap, c_nilmap, f_map, c_map, f_nilf, c_nilf, f_func, c_func, f_yieldf, c_yieldf, f_nilif, c_nilif, f_iface, c_iface, c_agg, List.all_cons, List.all_nil, Bool.and_true, Bool.true_and, if_true, if_false, ite_true, ite_false, hlt, hlt2, hix, hin, l0, c0, c1, c2, e1, m2, hbk, hs, he, eE, chkLog, same_cells, hgh, hgh1]
    rfl
  case sh => rfl

theorem go_truth_ok {h0 h : Heap} {r b len i : Nat} {s : List Int × Int} {F : Nat → Prop} {rows : List (List AV)} {a : Thing} {row : List AV} {tm : List AV} (ht : Sh33 r b len i tm) (hb : b < h0.next) (hg : h0.get b = some (.cells rows.flatten true)) (hall : ∀ r ∈ rows, r.length = 5) (hlen : rows.length = len) (hi : rows[i]? = some row) (ha : ThingAt h0 row a) (hi1 : i < 60)
    (hv : Inv33 h0 h r s F) (c0 : (a.what.tmod 4 == 0) = false) (c1 : (a.what.tmod 4 == 1) = false) (c2 : (a.what.tmod 4 == 2) = true) (hs : ((rdT s).1 == a.is) = true) (he : ((rdT s).2.2 != 0) = false) :
    ∃ tm' h', xcode X1 tab 33 none (.loop body33) tm h = xcode X1 tab 33 none (.loop body33) tm' h' ∧ Sh33 r b len (i + 1) tm' ∧ Inv33 h0 h' r (rdT s).2 F ∧ Stp h h' F F := by
  match tm, ht with
  | a0 :: a1 :: a2 :: a3 :: a4 :: a5 :: a6 :: a7 :: a8 :: a9 :: a10 :: a11 :: a12 :: a13 :: a14 :: a15 :: a16 :: a17 :: a18 :: a19 :: a20 :: a21 :: a22 :: a23 :: a24 :: a25 :: a26 :: a27 :: a28 :: a29 :: a30 :: a31 :: a32 :: a33 :: a34 :: a35 :: a36 :: a37 :: a38 :: a39 :: a40 :: a41 :: a42 :: a43 :: a44 :: a45 :: a46 :: a47 :: a48 :: a49 :: a50 :: a51 :: a52 :: a53 :: a54 :: a55 :: a56 :: a57 :: a58 :: a59 :: a60 :: a61 :: a62 :: a63 :: a64 :: a65 :: a66 :: a67 :: a68 :: a69 :: a70 :: a71 :: a72 :: a73 :: a74 :: [], ht =>
  obtain ⟨_, t0, t1, t5⟩ := ht
  simp only [List.getElem?_cons_zero, List.getElem?_cons_succ, Option.some.injEq] at t0 t1 t5
  replace t0 := t0.symm; replace t1 := t1.symm; replace t5 := t5.symm
  subst t0 t1 t5
  obtain ⟨f, hlo, hx, hsame⟩ := id hv
  obtain ⟨v, rfl, hbt0, hmax, hN, hW, hM, hBy⟩ := ha
  have hilt : i < len := by
    rcases Nat.lt_or_ge i rows.length with h | h
    · omega
    · rw [List.getElem?_eq_none h] at hi; cases hi
  have hgh := (hsame b hb).trans hg
  have l0 := load_cell hgh hall hi (k := 0) rfl
  have l3 := load_cell hgh hall hi (k := 3) rfl
  rw [Nat.add_zero] at l0
  have hw : IntKind.i64.wrap ((i : Int) + 1) = ((i + 1 : Nat) : Int) := by
    rw [IntWalk.i64_in _ (by omega)]; simp
  have hlt : (i : Int) < (len : Int) := by omega
  have hlt2 : (i : Int) < 60 := by omega
  have hix : (0 : Int) ≤ (i : Int) ∧ (i : Int) < (len : Int) := by omega
  have hin : 0 + (i : Int).toNat * 5 = i * 5 := by omega
  obtain ⟨H1, e1, f1, s1⟩ := R.rdTruth_spec f
  replace e1 : xcall X1 tab (.fn 26) [.ptr r 0] h = some (.bool (rdT s).1, H1) := e1
  have hv' := hv.step f1 s1
  have hgh1 := (hv'.2.2.2 b hb).trans hg
  have m1 := load_cell hgh1 hall hi (k := 1) rfl
  have m2 := load_cell hgh1 hall hi (k := 2) rfl
  have m3 := load_cell hgh1 hall hi (k := 3) rfl
  have eE := R.rdError_spec f1
  have hbk : binA .eql .bool (.bool (rdT s).1) (.bool a.is) = some (.bool ((rdT s).1 == a.is)) := by cases (rdT s).1 <;> cases a.is <;> rfl
  replace eE : xcall X1 tab (.fn 30) [.ptr r 0] H1 = some (.int .i64 (rdT s).2.2, H1) := eE

  refine ⟨?tm, H1, ?run, ?sh, hv', s1⟩
  case run =>
    rw [show ∀ tm h, xcode X1 tab 33 none (.loop body33) tm h = thenX X1 tab 33 none (.loop body33) (xcode X1 tab 33 none body33 tm h) from fun _ _ => x_loop]
    delta body33
    simp (decide := true) only [note_false, Int.reduceBEq, Int.reduceBNe, x_drawn, l_nil, l_op, l_guard, l_some, l_true, l_false, l_draw, readsA, x_true, x_false, x_seq, x_ops, x_cond, x_skip, x_ret, x_exit, x_block, x_then, x_thenE, x_thenR, x_blockN, x_blockR, x_blockE, s_nil, s_op, s_guard, s_some, s_true, s_false, s_put, s_put0, s_opsR, s_ret, s_norm, aop, ev, evs, List.map_cons, List.map_nil, List.cons_append, List.nil_append, List.append_nil, List.replicate, List.take_succ_cons, List.take_zero, List.take_nil, List.drop_succ_cons, List.drop_zero, List.drop_nil, Nat.zero_add, Nat.add_zero, Nat.reduceAdd, Nat.reduceMul, Nat.reduceLeDiff, Bool.false_eq_true, and_self, List.length_cons, List.length_nil, List.set_cons_zero, List.set_cons_succ, List.getD_cons_zero, List.getD_cons_succ, wantedA, List.getElem?_cons_zero, List.getElem?_cons_succ, q_t, q_f, Bool.not_true, Bool.not_false, b_add, b_sub, b_mul, b_eql, b_neq, b_lss, b_leq, b_gtr, b_geq, b_and, b_or, b_xor, b_quo, b_rem, b_shl, b_shr, unA, Option.map_some, Option.map_none, resA, tupA, Int.reduceLT, not_false_eq_true, not_true_eq_false, decide_true, decide_false, f_bool, c_bool, f_int, c_int, f_str, c_str, f_nilptr, c_nilptr, f_ptr, c_ptr, f_nilsl, c_nilsl, f_slice, c_slice, f_nilmap, c_nilmap, f_map, c_map, f_nilf, c_nilf, f_func, c_func, f_yieldf, c_yieldf, f_nilif, c_nilif, f_iface, c_iface, c_agg, List.all_cons, List.all_nil, Bool.and_true, Bool.true_and, if_true, if_false, ite_true, ite_false, hlt, hlt2, hix, hin, l0, c0, c1, c2, e1, m2, hbk, hs, he, eE, hw, chkLog, same_cells, hgh, hgh1]
    rfl
  case sh => exact ⟨rfl, rfl, rfl, rfl⟩

theorem go_bytes_diff {h0 h : Heap} {r b len i : Nat} {s : List Int × Int} {F : Nat → Prop} {rows : List (List AV)} {a : Thing} {row : List AV} {tm : List AV} (ht : Sh33 r b len i tm) (hb : b < h0.next) (hg : h0.get b = some (.cells rows.flatten true)) (hall : ∀ r ∈ rows, r.length = 5) (hlen : rows.length = len) (hi : rows[i]? = some row) (ha : ThingAt h0 row a) (hi1 : i < 60)
    (hv : Inv33 h0 h r s F) (c0 : (a.what.tmod 4 == 0) = false) (c1 : (a.what.tmod 4 == 1) = false) (c2 : (a.what.tmod 4 == 2) = false) (hs : ((rdB a.b.length s).1 == a.b) = false) :
    ∃ tm' h', xcode X1 tab 33 none (.loop body33) tm h = some (.ret, tm', h') ∧ tm'.getD 4 undefA = .bool false ∧ Inv33 h0 h' r (rdB a.b.length s).2 F ∧ Stp h h' F F := by
  match tm, ht with
  | a0 :: a1 :: a2 :: a3 :: a4 :: a5 :: a6 :: a7 :: a8 :: a9 :: a10 :: a11 :: a12 :: a13 :: a14 :: a15 :: a16 :: a17 :: a18 :: a19 :: a20 :: a21 :: a22 :: a23 :: a24 :: a25 :: a26 :: a27 :: a28 :: a29 :: a30 :: a31 :: a32 :: a33 :: a34 :: a35 :: a36 :: a37 :: a38 :: a39 :: a40 :: a41 :: a42 :: a43 :: a44 :: a45 :: a46 :: a47 :: a48 :: a49 :: a50 :: a51 :: a52 :: a53 :: a54 :: a55 :: a56 :: a57 :: a58 :: a59 :: a60 :: a61 :: a62 :: a63 :: a64 :: a65 :: a66 :: a67 :: a68 :: a69 :: a70 :: a71 :: a72 :: a73 :: a74 :: [], ht =>
  obtain ⟨_, t0, t1, t5⟩ := ht
  simp only [List.getElem?_cons_zero, List.getElem?_cons_succ, Option.some.injEq] at t0 t1 t5
  replace t0 := t0.symm; replace t1 := t1.symm; replace t5 := t5.symm
  subst t0 t1 t5
  obtain ⟨f, hlo, hx, hsame⟩ := id hv
  obtain ⟨v, rfl, hbt0, hmax, hN, hW, hM, hBy⟩ := ha
  have hilt : i < len := by
    rcases Nat.lt_or_ge i rows.length with h | h
    · omega
    · rw [List.getElem?_eq_none h] at hi; cases hi
  have hgh := (hsame b hb).trans hg
  have l0 := load_cell hgh hall hi (k := 0) rfl
  have l3 := load_cell hgh hall hi (k := 3) rfl
  rw [Nat.add_zero] at l0
  have hw : IntKind.i64.wrap ((i : Int) + 1) = ((i + 1 : Nat) : Int) := by
    rw [IntWalk.i64_in _ (by omega)]; simp
  have hlt : (i : Int) < (len : Int) := by omega
  have hlt2 : (i : Int) < 60 := by omega
  have hix : (0 : Int) ≤ (i : Int) ∧ (i : Int) < (len : Int) := by omega
  have hin : 0 + (i : Int).toNat * 5 = i * 5 := by omega
  obtain ⟨bv, H1, e1, nb1, f1, s1⟩ := R.rdBytes_spec f (most := a.b.length) (by omega)
  replace e1 : xcall X1 tab (.fn 28) [.ptr r 0, .int .i64 a.b.length] h = some (bv, H1) := e1
  have hv' := hv.step f1 s1
  have hgh1 := (hv'.2.2.2 b hb).trans hg
  have m1 := load_cell hgh1 hall hi (k := 1) rfl
  have m2 := load_cell hgh1 hall hi (k := 2) rfl
  have m3 := load_cell hgh1 hall hi (k := 3) rfl
  have eE := R.rdError_spec f1
  have hbt1 : BytesAt H1 v a.b := by
    rcases hbt0 with e | ⟨id, off, cap, ex, c, ro, e1, e2, e3, e4, e5⟩
    · exact .inl e
    · exact .inr ⟨id, off, cap, ex, c, ro, e1, e2, (hv'.2.2.2 id (Heap.lt_of_get e3)).trans e3, e4, e5⟩
  have eS := same_spec (X := X1) (SP := tab) (f := 18) (fun _ _ => rfl) (show tab 18 = some sameS from rfl) nb1.at hbt1
  replace eE : xcall X1 tab (.fn 30) [.ptr r 0] H1 = some (.int .i64 (rdB a.b.length s).2.2, H1) := eE

  rcases hbt1 with ⟨rfl, hnil⟩ | ⟨id, off, cap, ex, c, ro, rfl, _⟩
  · have e10 : xcall X1 tab (.fn 28) [.ptr r 0, .int .i64 0] h = some (bv, H1) := by rw [hnil] at e1; exact e1
    refine ⟨?tmP, H1, ?runP, ?shP, hv', s1⟩
    case runP =>
      rw [show ∀ tm h, xcode X1 tab 33 none (.loop body33) tm h = thenX X1 tab 33 none (.loop body33) (xcode X1 tab 33 none body33 tm h) from fun _ _ => x_loop]
      delta body33
      simp (decide := true) only [note_false, Int.reduceBEq, Int.reduceBNe, x_drawn, l_nil, l_op, l_guard, l_some, l_true, l_false, l_draw, readsA, x_true, x_false, x_seq, x_ops, x_cond, x_skip, x_ret, x_exit, x_block, x_then, x_thenE, x_thenR, x_blockN, x_blockR, x_blockE, s_nil, s_op, s_guard, s_some, s_true, s_false, s_put, s_put0, s_opsR, s_ret, s_norm, aop, ev, evs, List.map_cons, List.map_nil, List.cons_append, List.nil_append, List.append_nil, List.replicate, List.take_succ_cons, List.take_zero, List.take_nil, List.drop_succ_cons, List.drop_zero, List.drop_nil, Nat.zero_add, Nat.add_zero, Nat.reduceAdd, Nat.reduceMul, Nat.reduceLeDiff, Bool.false_eq_true, and_self, List.length_cons, List.length_nil, List.set_cons_zero, List.set_cons_succ, List.getD_cons_zero, List.getD_cons_succ, wantedA, List.getElem?_cons_zero, List.getElem?_cons_succ, q_t, q_f, Bool.not_true, Bool.not_false, b_add, b_sub, b_mul, b_eql, b_neq, b_lss, b_leq, b_gtr, b_geq, b_and, b_or, b_xor, b_quo, b_rem, b_shl, b_shr, unA, Option.map_some, Option.map_none, resA, tupA, Int.reduceLT, not_false_eq_true, not_true_eq_false, decide_true, decide_false, f_bool, c_bool, f_int, c_int, f_str, c_str, f_nilptr, c_nilptr, f_ptr, c_ptr, f_nilsl, c_nilsl, f_slice, c_slice, f_nilmap, c_nilmap, f_map, c_map, f_nilf, c_nilf, f_func, c_func, f_yieldf, c_yieldf, f_nilif, c_nilif, f_iface, c_iface, c_agg, List.all_cons, List.all_nil, Bool.and_true, Bool.true_and, if_true, if_false, ite_true, ite_false, hlt, hlt2, hix, hin, l0, c0, c1, c2, e10, m3, eS, l3, hs, chkLog, same_cells, hgh, hgh1]
      rfl
    case shP => rfl
  · have e10 := e1
    refine ⟨?tmQ, H1, ?runQ, ?shQ, hv', s1⟩
    case runQ =>
      rw [show ∀ tm h, xcode X1 tab 33 none (.loop body33) tm h = thenX X1 tab 33 none (.loop body33) (xcode X1 tab 33 none body33 tm h) from fun _ _ => x_loop]
      delta body33
      simp (decide := true) only [note_false, Int.reduceBEq, Int.reduceBNe, x_drawn, l_nil, l_op, l_guard, l_some, l_true, l_false, l_draw, readsA, x_true, x_false, x_seq, x_ops, x_cond, x_skip, x_ret, x_exit, x_block, x_then, x_thenE, x_thenR, x_blockN, x_blockR, x_blockE, s_nil, s_op, s_guard, s_some, s_true, s_false, s_put, s_put0, s_opsR, s_ret, s_norm, aop, ev, evs, List.map_cons, List.map_nil, List.cons_append, List.nil_append, List.append_nil, List.replicate, List.take_succ_cons, List.take_zero, List.take_nil, List.drop_succ_cons, List.drop_zero, List.drop_nil, Nat.zero_add, Nat.add_zero, Nat.reduceAdd, Nat.reduceMul, Nat.reduceLeDiff, Bool.false_eq_true, and_self, List.length_cons, List.length_nil, List.set_cons_zero, List.set_cons_succ, List.getD_cons_zero, List.getD_cons_succ, wantedA, List.getElem?_cons_zero, List.getElem?_cons_succ, q_t, q_f, Bool.not_true, Bool.not_false, b_add, b_sub, b_mul, b_eql, b_neq, b_lss, b_leq, b_gtr, b_geq, b_and, b_or, b_xor, b_quo, b_rem, b_shl, b_shr, unA, Option.map_some, Option.map_none, resA, tupA, Int.reduceLT, not_false_eq_true, not_true_eq_false, decide_true, decide_false, f_bool, c_bool, f_int, c_int, f_str, c_str, f_nilptr, c_nilptr, f_ptr, c_ptr, f_nilsl, c_nilsl, f_slice, c_slice, f_nilmap, c_nilmap, f_map, c_map, f_nilf, c_nilf, f_func, c_func, f_yieldf, c_yieldf, f_nilif, c_nilif, f_iface, c_iface, c_agg, List.all_cons, List.all_nil, Bool.and_true, Bool.true_and, if_true, if_false, ite_true, ite_false, hlt, hlt2, hix, hin, l0, c0, c1, c2, e10, m3, eS, l3, hs, chkLog, same_cells, hgh, hgh1]
      rfl
    case shQ => rfl
theorem go_bytes_err {h0 h : Heap} {r b len i : Nat} {s : List Int × Int} {F : Nat → Prop} {rows : List (List AV)} {a : Thing} {row : List AV} {tm : List AV} (ht : Sh33 r b len i tm) (hb : b < h0.next) (hg : h0.get b = some (.cells rows.flatten true)) (hall : ∀ r ∈ rows, r.length = 5) (hlen : rows.length = len) (hi : rows[i]? = some row) (ha : ThingAt h0 row a) (hi1 : i < 60)
    (hv : Inv33 h0 h r s F) (c0 : (a.what.tmod 4 == 0) = false) (c1 : (a.what.tmod 4 == 1) = false) (c2 : (a.what.tmod 4 == 2) = false) (hs : ((rdB a.b.length s).1 == a.b) = true) (he : ((rdB a.b.length s).2.2 != 0) = true) :
    ∃ tm' h', xcode X1 tab 33 none (.loop body33) tm h = some (.ret, tm', h') ∧ tm'.getD 4 undefA = .bool false ∧ Inv33 h0 h' r (rdB a.b.length s).2 F ∧ Stp h h' F F := by
  match tm, ht with
  | a0 :: a1 :: a2 :: a3 :: a4 :: a5 :: a6 :: a7 :: a8 :: a9 :: a10 :: a11 :: a12 :: a13 :: a14 :: a15 :: a16 :: a17 :: a18 :: a19 :: a20 :: a21 :: a22 :: a23 :: a24 :: a25 :: a26 :: a27 :: a28 :: a29 :: a30 :: a31 :: a32 :: a33 :: a34 :: a35 :: a36 :: a37 :: a38 :: a39 :: a40 :: a41 :: a42 :: a43 :: a44 :: a45 :: a46 :: a47 :: a48 :: a49 :: a50 :: a51 :: a52 :: a53 :: a54 :: a55 :: a56 :: a57 :: a58 :: a59 :: a60 :: a61 :: a62 :: a63 :: a64 :: a65 :: a66 :: a67 :: a68 :: a69 :: a70 :: a71 :: a72 :: a73 :: a74 :: [], ht =>
  obtain ⟨_, t0, t1, t5⟩ := ht
  simp only [List.getElem?_cons_zero, List.getElem?_cons_succ, Option.some.injEq] at t0 t1 t5
  replace t0 := t0.symm; replace t1 := t1.symm; replace t5 := t5.symm
  subst t0 t1 t5
  obtain ⟨f, hlo, hx, hsame⟩ := id hv
  obtain ⟨v, rfl, hbt0, hmax, hN, hW, hM, hBy⟩ := ha
  have hilt : i < len := by
    rcases Nat.lt_or_ge i rows.length with h | h
    · omega
    · rw [List.getElem?_eq_none h] at hi; cases hi
  have hgh := (hsame b hb).trans hg
  have l0 := load_cell hgh hall hi (k := 0) rfl
  have l3 := load_cell hgh hall hi (k := 3) rfl
  rw [Nat.add_zero] at l0
  have hw : IntKind.i64.wrap ((i : Int) + 1) = ((i + 1 : Nat) : Int) := by
    rw [IntWalk.i64_in _ (by omega)]; simp
  have hlt : (i : Int) < (len : Int) := by omega
  have hlt2 : (i : Int) < 60 := by omega
  have hix : (0 : Int) ≤ (i : Int) ∧ (i : Int) < (len : Int) := by omega
  have hin : 0 + (i : Int).toNat * 5 = i * 5 := by omega
  obtain ⟨bv, H1, e1, nb1, f1, s1⟩ := R.rdBytes_spec f (most := a.b.length) (by omega)
  replace e1 : xcall X1 tab (.fn 28) [.ptr r 0, .int .i64 a.b.length] h = some (bv, H1) := e1
  have hv' := hv.step f1 s1
  have hgh1 := (hv'.2.2.2 b hb).trans hg
  have m1 := load_cell hgh1 hall hi (k := 1) rfl
  have m2 := load_cell hgh1 hall hi (k := 2) rfl
  have m3 := load_cell hgh1 hall hi (k := 3) rfl
  have eE := R.rdError_spec f1
  have hbt1 : BytesAt H1 v a.b := by
    rcases hbt0 with e | ⟨id, off, cap, ex, c, ro, e1, e2, e3, e4, e5⟩
    · exact .inl e
    · exact .inr ⟨id, off, cap, ex, c, ro, e1, e2, (hv'.2.2.2 id (Heap.lt_of_get e3)).trans e3, e4, e5⟩
  have eS := same_spec (X := X1) (SP := tab) (f := 18) (fun _ _ => rfl) (show tab 18 = some sameS from rfl) nb1.at hbt1
  replace eE : xcall X1 tab (.fn 30) [.ptr r 0] H1 = some (.int .i64 (rdB a.b.length s).2.2, H1) := eE

  rcases hbt1 with ⟨rfl, hnil⟩ | ⟨id, off, cap, ex, c, ro, rfl, _⟩
  · have e10 : xcall X1 tab (.fn 28) [.ptr r 0, .int .i64 0] h = some (bv, H1) := by rw [hnil] at e1; exact e1
    refine ⟨?tmP, H1, ?runP, ?shP, hv', s1⟩
    case runP =>
      rw [show ∀ tm h, xcode X1 tab 33 none (.loop body33) tm h = thenX X1 tab 33 none (.loop body33) (xcode X1 tab 33 none body33 tm h) from fun _ _ => x_loop]
      delta body33
      simp (decide := true) only [note_false, Int.reduceBEq, Int.reduceBNe, x_drawn, l_nil, l_op, l_guard, l_some, l_true, l_false, l_draw, readsA, x_true, x_false, x_seq, x_ops, x_cond, x_skip, x_ret, x_exit, x_block, x_then, x_thenE, x_thenR, x_blockN, x_blockR, x_blockE, s_nil, s_op, s_guard, s_some, s_true, s_false, s_put, s_put0, s_opsR, s_ret, s_norm, aop, ev, evs, List.map_cons, List.map_nil, List.cons_append, List.nil_append, List.append_nil, List.replicate, List.take_succ_cons, List.take_zero, List.take_nil, List.drop_succ_cons, List.drop_zero, List.drop_nil, Nat.zero_add, Nat.add_zero, Nat.reduceAdd, Nat.reduceMul, Nat.reduceLeDiff, Bool.false_eq_true, and_self, List.length_cons, List.length_nil, List.set_cons_zero, List.set_cons_succ, List.getD_cons_zero, List.getD_cons_succ, wantedA, List.getElem?_cons_zero, List.getElem?_cons_succ, q_t, q_f, Bool.not_true, Bool.not_false, b_add, b_sub, b_mul, b_eql, b_neq, b_lss, b_leq, b_gtr, b_geq, b_and, b_or, b_xor, b_quo, b_rem, b_shl, b_shr, unA, Option.map_some, Option.map_none, resA, tupA, Int.reduceLT, not_false_eq_true, not_true_eq_false, decide_true, decide_false, f_bool, c_bool, f_int, c_int, f_str, c_str, f_nilptr, c_nilptr, f_ptr, c_ptr, f_nilsl, c_nilsl, f_slice, c_slice, f_nilmap, c_nilmap, f_map, c_map, f_nilf, c_nilf, f_func, c_func, f_yieldf, c_yieldf, f_nilif, c_nilif, f_iface, c_iface, c_agg, List.all_cons, List.all_nil, Bool.and_true, Bool.true_and, if_true, if_false, ite_true, ite_false, hlt, hlt2, hix, hin, l0, c0, c1, c2, e10, m3, eS, l3, hs, he, eE, chkLog, same_cells, hgh, hgh1]
      rfl
    case shP => rfl
  · have e10 := e1
    refine ⟨?tmQ, H1, ?runQ, ?shQ, hv', s1⟩
    case runQ =>
      rw [show ∀ tm h, xcode X1 tab 33 none (.loop body33) tm h = thenX X1 tab 33 none (.loop body33) (xcode X1 tab 33 none body33 tm h) from fun _ _ => x_loop]
      delta body33
      simp (decide := true) only [note_false, Int.reduceBEq, Int.reduceBNe, x_drawn, l_nil, l_op, l_guard, l_some, l_true, l_false, l_draw, readsA, x_true, x_false, x_seq, x_ops, x_cond, x_skip, x_ret, x_exit, x_block, x_then, x_thenE, x_thenR, x_blockN, x_blockR, x_blockE, s_nil, s_op, s_guard, s_some, s_true, s_false, s_put, s_put0, s_opsR, s_ret, s_norm, aop, ev, evs, List.map_cons, List.map_nil, List.cons_append, List.nil_append, List.append_nil, List.replicate, List.take_succ_cons, List.take_zero, List.take_nil, List.drop_succ_cons, List.drop_zero, List.drop_nil, Nat.zero_add, Nat.add_zero, Nat.reduceAdd, Nat.reduceMul, Nat.reduceLeDiff, Bool.false_eq_true, and_self, List.length_cons, List.length_nil, List.set_cons_zero, List.set_cons_succ, List.getD_cons_zero, List.getD_cons_succ, wantedA, List.getElem?_cons_zero, List.getElem?_cons_succ, q_t, q_f, Bool.not_true, Bool.not_false, b_add, b_sub, b_mul, b_eql, b_neq, b_lss, b_leq, b_gtr, b_geq, b_and, b_or, b_xor, b_quo, b_rem, b_shl, b_shr, unA, Option.map_some, Option.map_none, resA, tupA, Int.reduceLT, not_false_eq_true, not_true_eq_false, decide_true, decide_false, f_bool, c_bool, f_int, c_int, f_str, c_str, f_nilptr, c_nilptr, f_ptr, c_ptr, f_nilsl, c_nilsl, f_slice, c_slice, f_nilmap, c_nilmap, f_map, c_map, f_nilf, c_nilf, f_func, c_func, f_yieldf, c_yieldf, f_nilif, c_nilif, f_iface, c_iface, c_agg, List.all_cons, List.all_nil, Bool.and_true, Bool.true_and, if_true, if_false, ite_true, ite_false, hlt, hlt2, hix, hin, l0, c0, c1, c2, e10, m3, eS, l3, hs, he, eE, chkLog, same_cells, hgh, hgh1]
      rfl
    case shQ => rfl
theorem go_bytes_ok {h0 h : Heap} {r b len i : Nat} {s : List Int × Int} {F : Nat → Prop} {rows : List (List AV)} {a : Thing} {row : List AV} {tm : List AV} (ht : Sh33 r b len i tm) (hb : b < h0.next) (hg : h0.get b = some (.cells rows.flatten true)) (hall : ∀ r ∈ rows, r.length = 5) (hlen : rows.length = len) (hi : rows[i]? = some row) (ha : ThingAt h0 row a) (hi1 : i < 60)
    (hv : Inv33 h0 h r s F) (c0 : (a.what.tmod 4 == 0) = false) (c1 : (a.what.tmod 4 == 1) = false) (c2 : (a.what.tmod 4 == 2) = false) (hs : ((rdB a.b.length s).1 == a.b) = true) (he : ((rdB a.b.length s).2.2 != 0) = false) :
    ∃ tm' h', xcode X1 tab 33 none (.loop body33) tm h = xcode X1 tab 33 none (.loop body33) tm' h' ∧ Sh33 r b len (i + 1) tm' ∧ Inv33 h0 h' r (rdB a.b.length s).2 F ∧ Stp h h' F F := by
  match tm, ht with
  | a0 :: a1 :: a2 :: a3 :: a4 :: a5 :: a6 :: a7 :: a8 :: a9 :: a10 :: a11 :: a12 :: a13 :: a14 :: a15 :: a16 :: a17 :: a18 :: a19 :: a20 :: a21 :: a22 :: a23 :: a24 :: a25 :: a26 :: a27 :: a28 :: a29 :: a30 :: a31 :: a32 :: a33 :: a34 :: a35 :: a36 :: a37 :: a38 :: a39 :: a40 :: a41 :: a42 :: a43 :: a44 :: a45 :: a46 :: a47 :: a48 :: a49 :: a50 :: a51 :: a52 :: a53 :: a54 :: a55 :: a56 :: a57 :: a58 :: a59 :: a60 :: a61 :: a62 :: a63 :: a64 :: a65 :: a66 :: a67 :: a68 :: a69 :: a70 :: a71 :: a72 :: a73 :: a74 :: [], ht =>
  obtain ⟨_, t0, t1, t5⟩ := ht
  simp only [List.getElem?_cons_zero, List.getElem?_cons_succ, Option.some.injEq] at t0 t1 t5
  replace t0 := t0.symm; replace t1 := t1.symm; replace t5 := t5.symm
  subst t0 t1 t5
  obtain ⟨f, hlo, hx, hsame⟩ := id hv
  obtain ⟨v, rfl, hbt0, hmax, hN, hW, hM, hBy⟩ := ha
  have hilt : i < len := by
    rcases Nat.lt_or_ge i rows.length with h | h
    · omega
    · rw [List.getElem?_eq_none h] at hi; cases hi
  have hgh := (hsame b hb).trans hg
  have l0 := load_cell hgh hall hi (k := 0) rfl
  have l3 := load_cell hgh hall hi (k := 3) rfl
  rw [Nat.add_zero] at l0
  have hw : IntKind.i64.wrap ((i : Int) + 1) = ((i + 1 : Nat) : Int) := by
    rw [IntWalk.i64_in _ (by omega)]; simp
  have hlt : (i : Int) < (len : Int) := by omega
  have hlt2 : (i : Int) < 60 := by omega
  have hix : (0 : Int) ≤ (i : Int) ∧ (i : Int) < (len : Int) := by omega
  have hin : 0 + (i : Int).toNat * 5 = i * 5 := by omega
  obtain ⟨bv, H1, e1, nb1, f1, s1⟩ := R.rdBytes_spec f (most := a.b.length) (by omega)
  replace e1 : xcall X1 tab (.fn 28) [.ptr r 0, .int .i64 a.b.length] h = some (bv, H1) := e1
  have hv' := hv.step f1 s1
  have hgh1 := (hv'.2.2.2 b hb).trans hg
  have m1 := load_cell hgh1 hall hi (k := 1) rfl
  have m2 := load_cell hgh1 hall hi (k := 2) rfl
  have m3 := load_cell hgh1 hall hi (k := 3) rfl
  have eE := R.rdError_spec f1
  have hbt1 : BytesAt H1 v a.b := by
    rcases hbt0 with e | ⟨id, off, cap, ex, c, ro, e1, e2, e3, e4, e5⟩
    · exact .inl e
    · exact .inr ⟨id, off, cap, ex, c, ro, e1, e2, (hv'.2.2.2 id (Heap.lt_of_get e3)).trans e3, e4, e5⟩
  have eS := same_spec (X := X1) (SP := tab) (f := 18) (fun _ _ => rfl) (show tab 18 = some sameS from rfl) nb1.at hbt1
  replace eE : xcall X1 tab (.fn 30) [.ptr r 0] H1 = some (.int .i64 (rdB a.b.length s).2.2, H1) := eE

  rcases hbt1 with ⟨rfl, hnil⟩ | ⟨id, off, cap, ex, c, ro, rfl, _⟩
  · have e10 : xcall X1 tab (.fn 28) [.ptr r 0, .int .i64 0] h = some (bv, H1) := by rw [hnil] at e1; exact e1
    refine ⟨?tmP, H1, ?runP, ?shP, hv', s1⟩
    case runP =>
      rw [show ∀ tm h, xcode X1 tab 33 none (.loop body33) tm h = thenX X1 tab 33 none (.loop body33) (xcode X1 tab 33 none body33 tm h) from fun _ _ => x_loop]
      delta body33
      simp (decide := true) only [note_false, Int.reduceBEq, Int.reduceBNe, x_drawn, l_nil, l_op, l_guard, l_some, l_true, l_false, l_draw, readsA, x_true, x_false, x_seq, x_ops, x_cond, x_skip, x_ret, x_exit, x_block, x_then, x_thenE, x_thenR, x_blockN, x_blockR, x_blockE, s_nil, s_op, s_guard, s_some, s_true, s_false, s_put, s_put0, s_opsR, s_ret, s_norm, aop, ev, evs, List.map_cons, List.map_nil, List.cons_append, List.nil_append, List.append_nil, List.replicate, List.take_succ_cons, List.take_zero, List.take_nil, List.drop_succ_cons, List.drop_zero, List.drop_nil, Nat.zero_add, Nat.add_zero, Nat.reduceAdd, Nat.reduceMul, Nat.reduceLeDiff, Bool.false_eq_true, and_self, List.length_cons, List.length_nil, List.set_cons_zero, List.set_cons_succ, List.getD_cons_zero, List.getD_cons_succ, wantedA, List.getElem?_cons_zero, List.getElem?_cons_succ, q_t, q_f, Bool.not_true, Bool.not_false, b_add, b_sub, b_mul, b_eql, b_neq, b_lss, b_leq, b_gtr, b_geq, b_and, b_or, b_xor, b_quo, b_rem, b_shl, b_shr, unA, Option.map_some, Option.map_none, resA, tupA, Int.reduceLT, not_false_eq_true, not_true_eq_false, decide_true, decide_false, f_bool, c_bool, f_int, c_int, f_str, c_str, f_nilptr, c_nilptr, f_ptr, c_ptr, f_nilsl, c_nilsl, f_slice, c_slice, f_nilmap, c_nilmap, f_map, c_map, f_nilf, c_nilf, f_func, c_func, f_yieldf, c_yieldf, f_nilif, c_nilif, f_iface, c_iface, c_agg, List.all_cons, List.all_nil, Bool.and_true, Bool.true_and, if_true, if_false, ite_true, ite_false, hlt, hlt2, hix, hin, l0, c0, c1, c2, e10, m3, eS, l3, hs, he, eE, hw, chkLog, same_cells, hgh, hgh1]
      rfl
    case shP => exact ⟨rfl, rfl, rfl, rfl⟩
  · have e10 := e1
    refine ⟨?tmQ, H1, ?runQ, ?shQ, hv', s1⟩
    case runQ =>
      rw [show ∀ tm h, xcode X1 tab 33 none (.loop body33) tm h = thenX X1 tab 33 none (.loop body33) (xcode X1 tab 33 none body33 tm h) from fun _ _ => x_loop]
      delta body33
      simp (decide := true) only [note_false, Int.reduceBEq, Int.reduceBNe, x_drawn, l_nil, l_op, l_guard, l_some, l_true, l_false, l_draw, readsA, x_true, x_false, x_seq, x_ops, x_cond, x_skip, x_ret, x_exit, x_block, x_then, x_thenE, x_thenR, x_blockN, x_blockR, x_blockE, s_nil, s_op, s_guard, s_some, s_true, s_false, s_put, s_put0, s_opsR, s_ret, s_norm, aop, ev, evs, List.map_cons, List.map_nil, List.cons_append, List.nil_append, List.append_nil, List.replicate, List.take_succ_cons, List.take_zero, List.take_nil, List.drop_succ_cons, List.drop_zero, List.drop_nil, Nat.zero_add, Nat.add_zero, Nat.reduceAdd, Nat.reduceMul, Nat.reduceLeDiff, Bool.false_eq_true, and_self, List.length_cons, List.length_nil, List.set_cons_zero, List.set_cons_succ, List.getD_cons_zero, List.getD_cons_succ, wantedA, List.getElem?_cons_zero, List.getElem?_cons_succ, q_t, q_f, Bool.not_true, Bool.not_false, b_add, b_sub, b_mul, b_eql, b_neq, b_lss, b_leq, b_gtr, b_geq, b_and, b_or, b_xor, b_quo, b_rem, b_shl, b_shr, unA, Option.map_some, Option.map_none, resA, tupA, Int.reduceLT, not_false_eq_true, not_true_eq_false, decide_true, decide_false, f_bool, c_bool, f_int, c_int, f_str, c_str, f_nilptr, c_nilptr, f_ptr, c_ptr, f_nilsl, c_nilsl, f_slice, c_slice, f_nilmap, c_nilmap, f_map, c_map, f_nilf, c_nilf, f_func, c_func, f_yieldf, c_yieldf, f_nilif, c_nilif, f_iface, c_iface, c_agg, List.all_cons, List.all_nil, Bool.and_true, Bool.true_and, if_true, if_false, ite_true, ite_false, hlt, hlt2, hix, hin, l0, c0, c1, c2, e10, m3, eS, l3, hs, he, eE, hw, chkLog, same_cells, hgh, hgh1]
      rfl
    case shQ => exact ⟨rfl, rfl, rfl, rfl⟩
end Go.Proofs.Ytndcokalnpnbgaa.Ya
