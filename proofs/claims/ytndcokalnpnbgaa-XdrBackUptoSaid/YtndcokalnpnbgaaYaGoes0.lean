/-
  Xdr, law XdrBack: things that are told (num, great).
-/
import Derived.Test.YtndcokalnpnbgaaYaXdrRd
namespace Go.Proofs.Ytndcokalnpnbgaa.Ya
open Go.Ya
set_option linter.unusedVariables false
set_option linter.unusedSimpArgs false
set_option maxRecDepth 100000
set_option maxHeartbeats 8000000

def body33 : SC := (.seq (.seq (.ops [⟨some 7, .mov (.t 5), none⟩, ⟨some 8, .mov (.t 1), none⟩, ⟨some 9, .len (.sl) (.t 8), none⟩, ⟨some 10, .bin (.lss) (.other) (.t 7) (.t 9), none⟩, ⟨some 11, .mov (.t 10), none⟩, ⟨some 12, .mov (.t 5), some (11, true)⟩, ⟨some 13, .bin (.lss) (.other) (.t 12) (.c (.int (.i64) 60)), some (11, true)⟩, ⟨some 14, .pick (.t 11) (.t 13) (.c (.bool false)), none⟩]) (.cond (.t 14) (.skip) (.exit 0))) (.seq (.block 1 (.seq (.ops [⟨some 6, .mov (.c (.bool true)), none⟩]) (.seq (.seq (.ops [⟨some 17, .mov (.t 1), none⟩, ⟨some 18, .mov (.t 5), none⟩, ⟨some 19, .idxAddrSl 5 (.t 17) (.t 18), none⟩, ⟨some 20, .fieldAddr 0 (.t 19), none⟩, ⟨some 21, .load false 1 (.t 20), none⟩, ⟨some 22, .bin (.rem) (.other) (.t 21) (.c (.int (.u8) 4)), none⟩]) (.block 2 (.seq (.ops [⟨some 38, .bin (.eql) (.other) (.t 22) (.c (.int (.u8) 0)), none⟩, ⟨some 37, .mov (.t 38), none⟩]) (.cond (.t 37) (.drawOps [⟨some 39, .mov (.t 0), none⟩, ⟨some 40, .call 22 [.t 39], none⟩, ⟨some 41, .mov (.t 1), none⟩, ⟨some 42, .mov (.t 5), none⟩, ⟨some 43, .idxAddrSl 5 (.t 41) (.t 42), none⟩, ⟨some 44, .fieldAddr 1 (.t 43), none⟩, ⟨some 45, .load false 1 (.t 44), none⟩, ⟨some 46, .convInt (.u32) (.t 45), none⟩, ⟨some 47, .bin (.eql) (.other) (.t 40) (.t 46), none⟩, ⟨some 6, .mov (.t 47), none⟩] [(6, 1)]) (.seq (.ops [⟨some 49, .bin (.eql) (.other) (.t 22) (.c (.int (.u8) 1)), none⟩, ⟨some 48, .mov (.t 49), none⟩]) (.cond (.t 48) (.drawOps [⟨some 50, .mov (.t 0), none⟩, ⟨some 51, .call 24 [.t 50], none⟩, ⟨some 52, .mov (.t 1), none⟩, ⟨some 53, .mov (.t 5), none⟩, ⟨some 54, .idxAddrSl 5 (.t 52) (.t 53), none⟩, ⟨some 55, .fieldAddr 1 (.t 54), none⟩, ⟨some 56, .load false 1 (.t 55), none⟩, ⟨some 57, .bin (.eql) (.other) (.t 51) (.t 56), none⟩, ⟨some 6, .mov (.t 57), none⟩] [(6, 1)]) (.seq (.ops [⟨some 59, .bin (.eql) (.other) (.t 22) (.c (.int (.u8) 2)), none⟩, ⟨some 58, .mov (.t 59), none⟩]) (.cond (.t 58) (.drawOps [⟨some 60, .mov (.t 0), none⟩, ⟨some 61, .call 26 [.t 60], none⟩, ⟨some 62, .mov (.t 1), none⟩, ⟨some 63, .mov (.t 5), none⟩, ⟨some 64, .idxAddrSl 5 (.t 62) (.t 63), none⟩, ⟨some 65, .fieldAddr 2 (.t 64), none⟩, ⟨some 66, .load false 1 (.t 65), none⟩, ⟨some 67, .bin (.eql) (.bool) (.t 61) (.t 66), none⟩, ⟨some 6, .mov (.t 67), none⟩] [(6, 1)]) (.drawOps [⟨some 23, .mov (.t 0), none⟩, ⟨some 24, .mov (.t 1), none⟩, ⟨some 25, .mov (.t 5), none⟩, ⟨some 26, .idxAddrSl 5 (.t 24) (.t 25), none⟩, ⟨some 27, .fieldAddr 3 (.t 26), none⟩, ⟨some 28, .load false 1 (.t 27), none⟩, ⟨some 29, .len (.sl) (.t 28), none⟩, ⟨some 30, .call 28 [.t 23, .t 29], none⟩, ⟨some 31, .mov (.t 1), none⟩, ⟨some 32, .mov (.t 5), none⟩, ⟨some 33, .idxAddrSl 5 (.t 31) (.t 32), none⟩, ⟨some 34, .fieldAddr 3 (.t 33), none⟩, ⟨some 35, .load false 1 (.t 34), none⟩, ⟨some 36, .call 18 [.t 30, .t 35], none⟩, ⟨some 6, .mov (.t 36), none⟩] [(12, 7)]))))))))) (.seq (.ops [⟨some 68, .mov (.t 6), none⟩, ⟨some 69, .un (.not) (.t 68), none⟩, ⟨some 70, .mov (.t 69), none⟩, ⟨some 71, .mov (.t 0), some (70, false)⟩, ⟨some 72, .call 30 [.t 71], some (70, false)⟩, ⟨some 73, .bin (.neq) (.other) (.t 72) (.c (.int (.i64) 0)), some (70, false)⟩, ⟨some 74, .pick (.t 70) (.c (.bool true)) (.t 73), none⟩]) (.cond (.t 74) (.seq (.ops [⟨some 4, .mov (.c (.bool false)), none⟩]) (.ret)) (.skip)))))) (.ops [⟨some 15, .mov (.t 5), none⟩, ⟨some 16, .bin (.add) (.other) (.t 15) (.c (.int (.i64) 1)), none⟩, ⟨some 5, .mov (.t 16), none⟩])))
def tail33 : SC := (.seq (.ops [⟨some 4, .mov (.c (.bool true)), none⟩]) (.ret))
theorem body33_eq : sf33.body = .seq (.ops [⟨some 4, .mov (.c (.bool false)), none⟩]) (.seq (.seq (.ops [⟨some 5, .mov (.c (.int (.i64) 0)), none⟩]) (.block 0 (.loop body33))) tail33) := rfl
def Sh33 (r b len i : Nat) (tm : List AV) : Prop := tm.length = 75 ∧ tm[0]? = some (.ptr r 0) ∧ tm[1]? = some (.slice b 0 len len false 5) ∧ tm[5]? = some (.int .i64 (i : Nat))

theorem go_num_diff {h0 h : Heap} {r b len i : Nat} {s : List Int × Int} {F : Nat → Prop} {rows : List (List AV)} {a : Thing} {row : List AV} {tm : List AV} (ht : Sh33 r b len i tm) (hb : b < h0.next) (hg : h0.get b = some (.cells rows.flatten true)) (hall : ∀ r ∈ rows, r.length = 5) (hlen : rows.length = len) (hi : rows[i]? = some row) (ha : ThingAt h0 row a) (hi1 : i < 60)
    (hv : Inv33 h0 h r s F) (c0 : (a.what.tmod 4 == 0) = true) (hs : ((rdN 4 s).1 == IntKind.u32.wrap a.n) = false) :
    ∃ tm' h', xcode X1 tab 33 none (.loop body33) tm h = some (.ret, tm', h') ∧ tm'.getD 4 undefA = .bool false ∧ Inv33 h0 h' r (rdN 4 s).2 F ∧ Stp h h' F F := by
  match tm, ht with
  | a0 :: a1 :: a2 :: a3 :: a4 :: a5 :: a6 :: a7 :: a8 :: a9 :: a10 :: a11 :: a12 :: a13 :: a14 :: a15 :: a16 :: a17 :: a18 :: a19 :: a20 :: a21 :: a22 :: a23 :: a24 :: a25 :: a26 :: a27 :: a28 :: a29 :: a30 :: a31 :: a32 :: a33 :: a34 :: a35 :: a36 :: a37 :: a38 :: a39 :: a40 :: a41 :: a42 :: a43 :: a44 :: a45 :: a46 :: a47 :: a48 :: a49 :: a50 :: a51 :: a52 :: a53 :: a54 :: a55 :: a56 :: a57 :: a58 :: a59 :: a60 :: a61 :: a62 :: a63 :: a64 :: a65 :: a66 :: a67 :: a68 :: a69 :: a70 :: a71 :: a72 :: a73 :: a74 :: [], ht =>
  obtain ⟨_, t0, t1, t5⟩ := ht
  simp only [List.getElem?_cons_zero, List.getElem?_cons_succ, Option.some.injEq] at t0 t1 t5
  replace t0 := t0.symm; replace t1 := t1.symm; replace t5 := t5.symm
  subst t0 t1 t5
  obtain ⟨f, hlo, hx, hsame⟩ := id hv
  obtain ⟨v, rfl, hbt0, hmax, hN, hW, hM, hBy⟩ := ha
  have hilt : i < len := by
    rcases Nat.lt_or_ge i rows.length with h | h
    · omega
    · rw [List.getElem?_eq_none h] at hi; cases hi
  have hgh := (hsame b hb).trans hg
  have l0 := load_cell hgh hall hi (k := 0) rfl
  have l3 := load_cell hgh hall hi (k := 3) rfl
  rw [Nat.add_zero] at l0
  have hw : IntKind.i64.wrap ((i : Int) + 1) = ((i + 1 : Nat) : Int) := by
    rw [IntWalk.i64_in _ (by omega)]; simp
  have hlt : (i : Int) < (len : Int) := by omega
  have hlt2 : (i : Int) < 60 := by omega
  have hix : (0 : Int) ≤ (i : Int) ∧ (i : Int) < (len : Int) := by omega
  have hin : 0 + (i : Int).toNat * 5 = i * 5 := by omega
  obtain ⟨H1, e1, f1, s1⟩ := R.rdNumber_spec f
  replace e1 : xcall X1 tab (.fn 22) [.ptr r 0] h = some (.int .u32 (rdN 4 s).1, H1) := e1
  have hv' := hv.step f1 s1
  have hgh1 := (hv'.2.2.2 b hb).trans hg
  have m1 := load_cell hgh1 hall hi (k := 1) rfl
  have m2 := load_cell hgh1 hall hi (k := 2) rfl
  have m3 := load_cell hgh1 hall hi (k := 3) rfl
  have eE := R.rdError_spec f1
  replace eE : xcall X1 tab (.fn 30) [.ptr r 0] H1 = some (.int .i64 (rdN 4 s).2.2, H1) := eE

  refine ⟨?tm, H1, ?run, ?sh, hv', s1⟩
  case run =>
    rw [show ∀ tm h, xcode X1 tab 33 none (.loop body33) tm h = thenX X1 tab 33 none (.loop body33) (xcode X1 tab 33 none body33 tm h) from fun _ _ => x_loop]
    delta body33
    simp (decide := true) only [note_false, Int.reduceBEq, Int.reduceBNe, x_drawn, l_nil, l_op, l_guard, l_some, l_true, l_false, l_draw, readsA, x_true, x_false, x_seq, x_ops, x_cond, x_skip, x_ret, x_exit, x_block, x_then, x_thenE, x_thenR, x_blockN, x_blockR, x_blockE, s_nil, s_op, s_guard, s_some, s_true, s_false, s_put, s_put0, s_opsR, s_ret, s_norm, aop, ev, evs, List.map_cons, List.map_nil, List.cons_append, List.nil_append, List.append_nil, List.replicate, List.take_succ_cons, List.take_zero, List.take_nil, List.drop_succ_cons, List.drop_zero, List.drop_nil, Nat.zero_add, Nat.add_zero, Nat.reduceAdd, Nat.reduceMul, Nat.reduceLeDiff, Bool.false_eq_true, and_self, List.length_cons, List.length_nil, List.set_cons_zero, List.set_cons_succ, List.getD_cons_zero, List.getD_cons_succ, wantedA, List.getElem?_cons_zero, List.getElem?_cons_succ, q_t, q_f, Bool.not_true, Bool.not_false, b_add, b_sub, b_mul, b_eql, b_neq, b_lss, b_leq, b_gtr, b_geq, b_and, b_or, b_xor, b_quo, b_rem, b_shl, b_shr, unA, Option.map_some, Option.map_none, resA, tupA, Int.reduceLT, not_false_eq_true, not_true_eq_false, decide_true, decide_false, f_bool, c_bool, f_int, c_int, f_str, c_str, f_nilptr, c_nilptr, f_ptr, c_ptr, f_nilsl, c_nilsl, f_slice, c_slice, f_nilmap, c_nilmap, f_map, c_map, f_nilf, c_nilf, f_func, c_func, f_yieldf, c_yieldf, f_nilif, c_nilif, f_iface, c_iface, c_agg, List.all_cons, List.all_nil, Bool.and_true, Bool.true_and, if_true, if_false, ite_true, ite_false, hlt, hlt2, hix, hin, l0, c0, e1, m1, hs, chkLog, same_cells, hgh, hgh1]
    rfl
  case sh => rfl

theorem go_num_err {h0 h : Heap} {r b len i : Nat} {s : List Int × Int} {F : Nat → Prop} {rows : List (List AV)} {a : Thing} {row : List AV} {tm : List AV} (ht : Sh33 r b len i tm) (hb : b < h0.next) (hg : h0.get b = some (.cells rows.flatten true)) (hall : ∀ r ∈ rows, r.length = 5) (hlen : rows.length = len) (hi : rows[i]? = some row) (ha : ThingAt h0 row a) (hi1 : i < 60)
    (hv : Inv33 h0 h r s F) (c0 : (a.what.tmod 4 == 0) = true) (hs : ((rdN 4 s).1 == IntKind.u32.wrap a.n) = true) (he : ((rdN 4 s).2.2 != 0) = true) :
    ∃ tm' h', xcode X1 tab 33 none (.loop body33) tm h = some (.ret, tm', h') ∧ tm'.getD 4 undefA = .bool false ∧ Inv33 h0 h' r (rdN 4 s).2 F ∧ Stp h h' F F := by
  match tm, ht with
  | a0 :: a1 :: a2 :: a3 :: a4 :: a5 :: a6 :: a7 :: a8 :: a9 :: a10 :: a11 :: a12 :: a13 :: a14 :: a15 :: a16 :: a17 :: a18 :: a19 :: a20 :: a21 :: a22 :: a23 :: a24 :: a25 :: a26 :: a27 :: a28 :: a29 :: a30 :: a31 :: a32 :: a33 :: a34 :: a35 :: a36 :: a37 :: a38 :: a39 :: a40 :: a41 :: a42 :: a43 :: a44 :: a45 :: a46 :: a47 :: a48 :: a49 :: a50 :: a51 :: a52 :: a53 :: a54 :: a55 :: a56 :: a57 :: a58 :: a59 :: a60 :: a61 :: a62 :: a63 :: a64 :: a65 :: a66 :: a67 :: a68 :: a69 :: a70 :: a71 :: a72 :: a73 :: a74 :: [], ht =>
  obtain ⟨_, t0, t1, t5⟩ := ht
  simp only [List.getElem?_cons_zero, List.getElem?_cons_succ, Option.some.injEq] at t0 t1 t5
  replace t0 := t0.symm; replace t1 := t1.symm; replace t5 := t5.symm
  subst t0 t1 t5
  obtain ⟨f, hlo, hx, hsame⟩ := id hv
  obtain ⟨v, rfl, hbt0, hmax, hN, hW, hM, hBy⟩ := ha
  have hilt : i < len := by
    rcases Nat.lt_or_ge i rows.length with h | h
    · omega
    · rw [List.getElem?_eq_none h] at hi; cases hi
  have hgh := (hsame b hb).trans hg
  have l0 := load_cell hgh hall hi (k := 0) rfl
  have l3 := load_cell hgh hall hi (k := 3) rfl
  rw [Nat.add_zero] at l0
  have hw : IntKind.i64.wrap ((i : Int) + 1) = ((i + 1 : Nat) : Int) := by
    rw [IntWalk.i64_in _ (by omega)]; simp
  have hlt : (i : Int) < (len : Int) := by omega
  have hlt2 : (i : Int) < 60 := by omega
  have hix : (0 : Int) ≤ (i : Int) ∧ (i : Int) < (len : Int) := by omega
  have hin : 0 + (i : Int).toNat * 5 = i * 5 := by omega
  obtain ⟨H1, e1, f1, s1⟩ := R.rdNumber_spec f
  replace e1 : xcall X1 tab (.fn 22) [.ptr r 0] h = some (.int .u32 (rdN 4 s).1, H1) := e1
  have hv' := hv.step f1 s1
  have hgh1 := (hv'.2.2.2 b hb).trans hg
  have m1 := load_cell hgh1 hall hi (k := 1) rfl
  have m2 := load_cell hgh1 hall hi (k := 2) rfl
  have m3 := load_cell hgh1 hall hi (k := 3) rfl
  have eE := R.rdError_spec f1
  replace eE : xcall X1 tab (.fn 30) [.ptr r 0] H1 = some (.int .i64 (rdN 4 s).2.2, H1) := eE

  refine ⟨?tm, H1, ?run, ?sh, hv', s1⟩
  case run =>
    rw [show ∀ tm h, xcode X1 tab 33 none (.loop body33) tm h = thenX X1 tab 33 none (.loop body33) (xcode X1 tab 33 none body33 tm h) from fun _ _ => x_loop]
    delta body33
    simp (decide := true) only [note_false, Int.reduceBEq, Int.reduceBNe, x_drawn, l_nil, l_op, l_guard, l_some, l_true, l_false, l_draw, readsA, x_true, x_false, x_seq, x_ops, x_cond, x_skip, x_ret, x_exit, x_block, x_then, x_thenE, x_thenR, x_blockN, x_blockR, x_blockE, s_nil, s_op, s_guard, s_some, s_true, s_false, s_put, s_put0, s_opsR, s_ret, s_norm, aop, ev, evs, List.map_cons, List.map_nil, List.cons_append, List.nil_append, List.append_nil, List.replicate, List.take_succ_cons, List.take_zero, List.take_nil, List.drop_succ_cons, List.drop_zero, List.drop_nil, Nat.zero_add, Nat.add_zero, Nat.reduceAdd, Nat.reduceMul, Nat.reduceLeDiff, Bool.false_eq_true, and_self, List.length_cons, List.length_nil, List.set_cons_zero, List.set_cons_succ, List.getD_cons_zero, List.getD_cons_succ, wantedA, List.getElem?_cons_zero, List.getElem?_cons_succ, q_t, q_f, Bool.not_true, Bool.not_false, b_add, b_sub, b_mul, b_eql, b_neq, b_lss, b_leq, b_gtr, b_geq, b_and, b_or, b_xor, b_quo, b_rem, b_shl, b_shr, unA, Option.map_some, Option.map_none, resA, tupA, Int.reduceLT, not_false_eq_true, not_true_eq_false, decide_true, decide_false, f_bool, c_bool, f_int, c_int, f_str, c_str, f_nilptr, c_nilptr, f_ptr, c_ptr, f_nilsl, c_nilsl, f_slice, c_slice, f_nilmap, c_nilmap, f_map, c_map, f_nilf, c_nilf, f_func, c_func, f_yieldf, c_yieldf, f_nilif, c_nilif, f_iface, c_iface, c_agg, List.all_cons, List.all_nil, Bool.and_true, Bool.true_and, if_true, if_false, ite_true, ite_false, hlt, hlt2, hix, hin, l0, c0, e1, m1, hs, he, eE, chkLog, same_cells, hgh, hgh1]
    rfl
  case sh => rfl

theorem go_num_ok {h0 h : Heap} {r b len i : Nat} {s : List Int × Int} {F : Nat → Prop} {rows : List (List AV)} {a : Thing} {row : List AV} {tm : List AV} (ht : Sh33 r b len i tm) (hb : b < h0.next) (hg : h0.get b = some (.cells rows.flatten true)) (hall : ∀ r ∈ rows, r.length = 5) (hlen : rows.length = len) (hi : rows[i]? = some row) (ha : ThingAt h0 row a) (hi1 : i < 60)
    (hv : Inv33 h0 h r s F) (c0 : (a.what.tmod 4 == 0) = true) (hs : ((rdN 4 s).1 == IntKind.u32.wrap a.n) = true) (he : ((rdN 4 s).2.2 != 0) = false) :
    ∃ tm' h', xcode X1 tab 33 none (.loop body33) tm h = xcode X1 tab 33 none (.loop body33) tm' h' ∧ Sh33 r b len (i + 1) tm' ∧ Inv33 h0 h' r (rdN 4 s).2 F ∧ Stp h h' F F := by
  match tm, ht with
  | a0 :: a1 :: a2 :: a3 :: a4 :: a5 :: a6 :: a7 :: a8 :: a9 :: a10 :: a11 :: a12 :: a13 :: a14 :: a15 :: a16 :: a17 :: a18 :: a19 :: a20 :: a21 :: a22 :: a23 :: a24 :: a25 :: a26 :: a27 :: a28 :: a29 :: a30 :: a31 :: a32 :: a33 :: a34 :: a35 :: a36 :: a37 :: a38 :: a39 :: a40 :: a41 :: a42 :: a43 :: a44 :: a45 :: a46 :: a47 :: a48 :: a49 :: a50 :: a51 :: a52 :: a53 :: a54 :: a55 :: a56 :: a57 :: a58 :: a59 :: a60 :: a61 :: a62 :: a63 :: a64 :: a65 :: a66 :: a67 :: a68 :: a69 :: a70 :: a71 :: a72 :: a73 :: a74 :: [], ht =>
  obtain ⟨_, t0, t1, t5⟩ := ht
  simp only [List.getElem?_cons_zero, List.getElem?_cons_succ, Option.some.injEq] at t0 t1 t5
  replace t0 := t0.symm; replace t1 := t1.symm; replace t5 := t5.symm
  subst t0 t1 t5
  obtain ⟨f, hlo, hx, hsame⟩ := id hv
  obtain ⟨v, rfl, hbt0, hmax, hN, hW, hM, hBy⟩ := ha
  have hilt : i < len := by
    rcases Nat.lt_or_ge i rows.length with h | h
    · omega
    · rw [List.getElem?_eq_none h] at hi; cases hi
  have hgh := (hsame b hb).trans hg
  have l0 := load_cell hgh hall hi (k := 0) rfl
  have l3 := load_cell hgh hall hi (k := 3) rfl
  rw [Nat.add_zero] at l0
  have hw : IntKind.i64.wrap ((i : Int) + 1) = ((i + 1 : Nat) : Int) := by
    rw [IntWalk.i64_in _ (by omega)]; simp
  have hlt : (i : Int) < (len : Int) := by omega
  have hlt2 : (i : Int) < 60 := by omega
  have hix : (0 : Int) ≤ (i : Int) ∧ (i : Int) < (len : Int) := by omega
  have hin : 0 + (i : Int).toNat * 5 = i * 5 := by omega
  obtain ⟨H1, e1, f1, s1⟩ := R.rdNumber_spec f
  replace e1 : xcall X1 tab (.fn 22) [.ptr r 0] h = some (.int .u32 (rdN 4 s).1, H1) := e1
  have hv' := hv.step f1 s1
  have hgh1 := (hv'.2.2.2 b hb).trans hg
  have m1 := load_cell hgh1 hall hi (k := 1) rfl
  have m2 := load_cell hgh1 hall hi (k := 2) rfl
  have m3 := load_cell hgh1 hall hi (k := 3) rfl
  have eE := R.rdError_spec f1
  replace eE : xcall X1 tab (.fn 30) [.ptr r 0] H1 = some (.int .i64 (rdN 4 s).2.2, H1) := eE

  refine ⟨?tm, H1, ?run, ?sh, hv', s1⟩
  case run =>
    rw [show ∀ tm h, xcode X1 tab 33 none (.loop body33) tm h = thenX X1 tab 33 none (.loop body33) (xcode X1 tab 33 none body33 tm h) from fun _ _ => x_loop]
    delta body33
    simp (decide := true) only [note_false, Int.reduceBEq, Int.reduceBNe, x_drawn, l_nil, l_op, l_guard, l_some, l_true, l_false, l_draw, readsA, x_true, x_false, x_seq, x_ops, x_cond, x_skip, x_ret, x_exit, x_block, x_then, x_thenE, x_thenR, x_blockN, x_blockR, x_blockE, s_nil, s_op, s_guard, s_some, s_true, s_false, s_put, s_put0, s_opsR, s_ret, s_norm, aop, ev, evs, List.map_cons, List.map_nil, List.cons_append, List.nil_append, List.append_nil, List.replicate, List.take_succ_cons, List.take_zero, List.take_nil, List.drop_succ_cons, List.drop_zero, List.drop_nil, Nat.zero_add, Nat.add_zero, Nat.reduceAdd, Nat.reduceMul, Nat.reduceLeDiff, Bool.false_eq_true, and_self, List.length_cons, List.length_nil, List.set_cons_zero, List.set_cons_succ, List.getD_cons_zero, List.getD_cons_succ, wantedA, List.getElem?_cons_zero, List.getElem?_cons_succ, q_t, q_f, Bool.not_true, Bool.not_false, b_add, b_sub, b_mul, b_eql, b_neq, b_lss, b_leq, b_gtr, b_geq, b_and, b_or, b_xor, b_quo, b_rem, b_shl, b_shr, unA, Option.map_some, Option.map_none, resA, tupA, Int.reduceLT, not_false_eq_true, not_true_eq_false, decide_true, decide_false, f_bool, c_bool, f_int, c_int, f_str, c_str, f_nilptr, c_nilptr, f_ptr, c_ptr, f_nilsl, c_nilsl, f_slice, c_slice, f_nilmap, c_nilmap, f_map, c_map, f_nilf, c_nilf, f_func, c_func, f_yieldf, c_yieldf, f_nilif, c_nilif, f_iface, c_iface, c_agg, List.all_cons, List.all_nil, Bool.and_true, Bool.true_and, if_true, if_false, ite_true, ite_false, hlt, hlt2, hix, hin, l0, c0, e1, m1, hs, he, eE, hw, chkLog, same_cells, hgh, hgh1]
    rfl
  case sh => exact ⟨rfl, rfl, rfl, rfl⟩

theorem go_great_diff {h0 h : Heap} {r b len i : Nat} {s : List Int × Int} {F : Nat → Prop} {rows : List (List AV)} {a : Thing} {row : List AV} {tm : List AV} (ht : Sh33 r b len i tm) (hb : b < h0.next) (hg : h0.get b = some (.cells rows.flatten true)) (hall : ∀ r ∈ rows, r.length = 5) (hlen : rows.length = len) (hi : rows[i]? = some row) (ha : ThingAt h0 row a) (hi1 : i < 60)
    (hv : Inv33 h0 h r s F) (c0 : (a.what.tmod 4 == 0) = false) (c1 : (a.what.tmod 4 == 1) = true) (hs : ((rdN 8 s).1 == a.n) = false) :
    ∃ tm' h', xcode X1 tab 33 none (.loop body33) tm h = some (.ret, tm', h') ∧ tm'.getD 4 undefA = .bool false ∧ Inv33 h0 h' r (rdN 8 s).2 F ∧ Stp h h' F F := by
  match tm, ht with
  | a0 :: a1 :: a2 :: a3 :: a4 :: a5 :: a6 :: a7 :: a8 :: a9 :: a10 :: a11 :: a12 :: a13 :: a14 :: a15 :: a16 :: a17 :: a18 :: a19 :: a20 :: a21 :: a22 :: a23 :: a24 :: a25 :: a26 :: a27 :: a28 :: a29 :: a30 :: a31 :: a32 :: a33 :: a34 :: a35 :: a36 :: a37 :: a38 :: a39 :: a40 :: a41 :: a42 :: a43 :: a44 :: a45 :: a46 :: a47 :: a48 :: a49 :: a50 :: a51 :: a52 :: a53 :: a54 :: a55 :: a56 :: a57 :: a58 :: a59 :: a60 :: a61 :: a62 :: a63 :: a64 :: a65 :: a66 :: a67 :: a68 :: a69 :: a70 :: a71 :: a72 :: a73 :: a74 :: [], ht =>
  obtain ⟨_, t0, t1, t5⟩ := ht
  simp only [List.getElem?_cons_zero, List.getElem?_cons_succ, Option.some.injEq] at t0 t1 t5
  replace t0 := t0.symm; replace t1 := t1.symm; replace t5 := t5.symm
  subst t0 t1 t5
  obtain ⟨f, hlo, hx, hsame⟩ := id hv
  obtain ⟨v, rfl, hbt0, hmax, hN, hW, hM, hBy⟩ := ha
  have hilt : i < len := by
    rcases Nat.lt_or_ge i rows.length with h | h
    · omega
    · rw [List.getElem?_eq_none h] at hi; cases hi
  have hgh := (hsame b hb).trans hg
  have l0 := load_cell hgh hall hi (k := 0) rfl
  have l3 := load_cell hgh hall hi (k := 3) rfl
  rw [Nat.add_zero] at l0
  have hw : IntKind.i64.wrap ((i : Int) + 1) = ((i + 1 : Nat) : Int) := by
    rw [IntWalk.i64_in _ (by omega)]; simp
  have hlt : (i : Int) < (len : Int) := by omega
  have hlt2 : (i : Int) < 60 := by omega
  have hix : (0 : Int) ≤ (i : Int) ∧ (i : Int) < (len : Int) := by omega
  have hin : 0 + (i : Int).toNat * 5 = i * 5 := by omega
  obtain ⟨H1, e1, f1, s1⟩ := R.rdGreat_spec f
  replace e1 : xcall X1 tab (.fn 24) [.ptr r 0] h = some (.int .u64 (rdN 8 s).1, H1) := e1
  have hv' := hv.step f1 s1
  have hgh1 := (hv'.2.2.2 b hb).trans hg
  have m1 := load_cell hgh1 hall hi (k := 1) rfl
  have m2 := load_cell hgh1 hall hi (k := 2) rfl
  have m3 := load_cell hgh1 hall hi (k := 3) rfl
  have eE := R.rdError_spec f1
  replace eE : xcall X1 tab (.fn 30) [.ptr r 0] H1 = some (.int .i64 (rdN 8 s).2.2, H1) := eE

  refine ⟨?tm, H1, ?run, ?sh, hv', s1⟩
  case run =>
    rw [show ∀ tm h, xcode X1 tab 33 none (.loop body33) tm h = thenX X1 tab 33 none (.loop body33) (xcode X1 tab 33 none body33 tm h) from fun _ _ => x_loop]
    delta body33
    simp (decide := true) only [note_false, Int.reduceBEq, Int.reduceBNe, x_drawn, l_nil, l_op, l_guard, l_some, l_true, l_false, l_draw, readsA, x_true, x_false, x_seq, x_ops, x_cond, x_skip, x_ret, x_exit, x_block, x_then, x_thenE, x_thenR, x_blockN, x_blockR, x_blockE, s_nil, s_op, s_guard, s_some, s_true, s_false, s_put, s_put0, s_opsR, s_ret, s_norm, aop, ev, evs, List.map_cons, List.map_nil, List.cons_append, List.nil_append, List.append_nil, List.replicate, List.take_succ_cons, List.take_zero, List.take_nil, List.drop_succ_cons, List.drop_zero, List.drop_nil, Nat.zero_add, Nat.add_zero, Nat.reduceAdd, Nat.reduceMul, Nat.reduceLeDiff, Bool.false_eq_true, and_self, List.length_cons, List.length_nil, List.set_cons_zero, List.set_cons_succ, List.getD_cons_zero, List.getD_cons_succ, wantedA, List.getElem?_cons_zero, List.getElem?_cons_succ, q_t, q_f, Bool.not_true, Bool.not_false, b_add, b_sub, b_mul, b_eql, b_neq, b_lss, b_leq, b_gtr, b_geq, b_and, b_or, b_xor, b_quo, b_rem, b_shl, b_shr, unA, Option.map_some, Option.map_none, resA, tupA, Int.reduceLT, not_false_eq_true, not_true_eq_false, decide_true, decide_false, f_bool, c_bool, f_int, c_int, f_str, c_str, f_nilptr, c_nilptr, f_ptr, c_ptr, f_nilsl, c_nilsl, f_slice, c_slice, f_nilmap, c_nilmap, f_map, c_map, f_nilf, c_nilf, f_func, c_func, f_yieldf, c_yieldf, f_nilif, c_nilif, f_iface, c_iface, c_agg, List.all_cons, List.all_nil, Bool.and_true, Bool.true_and, if_true, if_false, ite_true, ite_false, hlt, hlt2, hix, hin, l0, c0, c1, e1, m1, hs, chkLog, same_cells, hgh, hgh1]
    rfl
  case sh => rfl

theorem go_great_err {h0 h : Heap} {r b len i : Nat} {s : List Int × Int} {F : Nat → Prop} {rows : List (List AV)} {a : Thing} {row : List AV} {tm : List AV} (ht : Sh33 r b len i tm) (hb : b < h0.next) (hg : h0.get b = some (.cells rows.flatten true)) (hall : ∀ r ∈ rows, r.length = 5) (hlen : rows.length = len) (hi : rows[i]? = some row) (ha : ThingAt h0 row a) (hi1 : i < 60)
    (hv : Inv33 h0 h r s F) (c0 : (a.what.tmod 4 == 0) = false) (c1 : (a.what.tmod 4 == 1) = true) (hs : ((rdN 8 s).1 == a.n) = true) (he : ((rdN 8 s).2.2 != 0) = true) :
    ∃ tm' h', xcode X1 tab 33 none (.loop body33) tm h = some (.ret, tm', h') ∧ tm'.getD 4 undefA = .bool false ∧ Inv33 h0 h' r (rdN 8 s).2 F ∧ Stp h h' F F := by
  match tm, ht with
  | a0 :: a1 :: a2 :: a3 :: a4 :: a5 :: a6 :: a7 :: a8 :: a9 :: a10 :: a11 :: a12 :: a13 :: a14 :: a15 :: a16 :: a17 :: a18 :: a19 :: a20 :: a21 :: a22 :: a23 :: a24 :: a25 :: a26 :: a27 :: a28 :: a29 :: a30 :: a31 :: a32 :: a33 :: a34 :: a35 :: a36 :: a37 :: a38 :: a39 :: a40 :: a41 :: a42 :: a43 :: a44 :: a45 :: a46 :: a47 :: a48 :: a49 :: a50 :: a51 :: a52 :: a53 :: a54 :: a55 :: a56 :: a57 :: a58 :: a59 :: a60 :: a61 :: a62 :: a63 :: a64 :: a65 :: a66 :: a67 :: a68 :: a69 :: a70 :: a71 :: a72 :: a73 :: a74 :: [], ht =>
  obtain ⟨_, t0, t1, t5⟩ := ht
  simp only [List.getElem?_cons_zero, List.getElem?_cons_succ, Option.some.injEq] at t0 t1 t5
  replace t0 := t0.symm; replace t1 := t1.symm; replace t5 := t5.symm
  subst t0 t1 t5
  obtain ⟨f, hlo, hx, hsame⟩ := id hv
  obtain ⟨v, rfl, hbt0, hmax, hN, hW, hM, hBy⟩ := ha
  have hilt : i < len := by
    rcases Nat.lt_or_ge i rows.length with h | h
    · omega
    · rw [List.getElem?_eq_none h] at hi; cases hi
  have hgh := (hsame b hb).trans hg
  have l0 := load_cell hgh hall hi (k := 0) rfl
  have l3 := load_cell hgh hall hi (k := 3) rfl
  rw [Nat.add_zero] at l0
  have hw : IntKind.i64.wrap ((i : Int) + 1) = ((i + 1 : Nat) : Int) := by
    rw [IntWalk.i64_in _ (by omega)]; simp
  have hlt : (i : Int) < (len : Int) := by omega
  have hlt2 : (i : Int) < 60 := by omega
  have hix : (0 : Int) ≤ (i : Int) ∧ (i : Int) < (len : Int) := by omega
  have hin : 0 + (i : Int).toNat * 5 = i * 5 := by omega
  obtain ⟨H1, e1, f1, s1⟩ := R.rdGreat_spec f
  replace e1 : xcall X1 tab (.fn 24) [.ptr r 0] h = some (.int .u64 (rdN 8 s).1, H1) := e1
  have hv' := hv.step f1 s1
  have hgh1 := (hv'.2.2.2 b hb).trans hg
  have m1 := load_cell hgh1 hall hi (k := 1) rfl
  have m2 := load_cell hgh1 hall hi (k := 2) rfl
  have m3 := load_cell hgh1 hall hi (k := 3) rfl
  have eE := R.rdError_spec f1
  replace eE : xcall X1 tab (.fn 30) [.ptr r 0] H1 = some (.int .i64 (rdN 8 s).2.2, H1) := eE

  refine ⟨?tm, H1, ?run, ?sh, hv', s1⟩
  case run =>
    rw [show ∀ tm h, xcode X1 tab 33 none (.loop body33) tm h = thenX X1 tab 33 none (.loop body33) (xcode X1 tab 33 none body33 tm h) from fun _ _ => x_loop]
    delta body33
    simp (decide := true) only [note_false, Int.reduceBEq, Int.reduceBNe, x_drawn, l_nil, l_op, l_guard, l_some, l_true, l_false, l_draw, readsA, x_true, x_false, x_seq, x_ops, x_cond, x_skip, x_ret, x_exit, x_block, x_then, x_thenE, x_thenR, x_blockN, x_blockR, x_blockE, s_nil, s_op, s_guard, s_some, s_true, s_false, s_put, s_put0, s_opsR, s_ret, s_norm, aop, ev, evs, List.map_cons, List.map_nil, List.cons_append, List.nil_append, List.append_nil, List.replicate, List.take_succ_cons, List.take_zero, List.take_nil, List.drop_succ_cons, List.drop_zero, List.drop_nil, Nat.zero_add, Nat.add_zero, Nat.reduceAdd, Nat.reduceMul, Nat.reduceLeDiff, Bool.false_eq_true, and_self, List.length_cons, List.length_nil, List.set_cons_zero, List.set_cons_succ, List.getD_cons_zero, List.getD_cons_succ, wantedA, List.getElem?_cons_zero, List.getElem?_cons_succ, q_t, q_f, Bool.not_true, Bool.not_false, b_add, b_sub, b_mul, b_eql, b_neq, b_lss, b_leq, b_gtr, b_geq, b_and, b_or, b_xor, b_quo, b_rem, b_shl, b_shr, unA, Option.map_some, Option.map_none, resA, tupA, Int.reduceLT, not_false_eq_true, not_true_eq_false, decide_true, decide_false, f_bool, c_bool, f_int, c_int, f_str, c_str, f_nilptr, c_nilptr, f_ptr, c_ptr, f_nilsl, c_nilsl, f_slice, c_slice, f_nilmap, c_nilmap, f_map, c_map, f_nilf, c_nilf, f_func, c_func, f_yieldf, c_yieldf, f_nilif, c_nilif, f_iface, c_iface, c_agg, List.all_cons, List.all_nil, Bool.and_true, Bool.true_and, if_true, if_false, ite_true, ite_false, hlt, hlt2, hix, hin, l0, c0, c1, e1, m1, hs, he, eE, chkLog, same_cells, hgh, hgh1]
    rfl
  case sh => rfl

theorem go_great_ok {h0 h : Heap} {r b len i : Nat} {s : List Int × Int} {F : Nat → Prop} {rows : List (List AV)} {a : Thing} {row : List AV} {tm : List AV} (ht : Sh33 r b len i tm) (hb : b < h0.next) (hg : h0.get b = some (.cells rows.flatten true)) (hall : ∀ r ∈ rows, r.length = 5) (hlen : rows.length = len) (hi : rows[i]? = some row) (ha : ThingAt h0 row a) (hi1 : i < 60)
    (hv : Inv33 h0 h r s F) (c0 : (a.what.tmod 4 == 0) = false) (c1 : (a.what.tmod 4 == 1) = true) (hs : ((rdN 8 s).1 == a.n) = true) (he : ((rdN 8 s).2.2 != 0) = false) :
    ∃ tm' h', xcode X1 tab 33 none (.loop body33) tm h = xcode X1 tab 33 none (.loop body33) tm' h' ∧ Sh33 r b len (i + 1) tm' ∧ Inv33 h0 h' r (rdN 8 s).2 F ∧ Stp h h' F F := by
  match tm, ht with
  | a0 :: a1 :: a2 :: a3 :: a4 :: a5 :: a6 :: a7 :: a8 :: a9 :: a10 :: a11 :: a12 :: a13 :: a14 :: a15 :: a16 :: a17 :: a18 :: a19 :: a20 :: a21 :: a22 :: a23 :: a24 :: a25 :: a26 :: a27 :: a28 :: a29 :: a30 :: a31 :: a32 :: a33 :: a34 :: a35 :: a36 :: a37 :: a38 :: a39 :: a40 :: a41 :: a42 :: a43 :: a44 :: a45 :: a46 :: a47 :: a48 :: a49 :: a50 :: a51 :: a52 :: a53 :: a54 :: a55 :: a56 :: a57 :: a58 :: a59 :: a60 :: a61 :: a62 :: a63 :: a64 :: a65 :: a66 :: a67 :: a68 :: a69 :: a70 :: a71 :: a72 :: a73 :: a74 :: [], ht =>
  obtain ⟨_, t0, t1, t5⟩ := ht
  simp only [List.getElem?_cons_zero, List.getElem?_cons_succ, Option.some.injEq] at t0 t1 t5
  replace t0 := t0.symm; replace t1 := t1.symm; replace t5 := t5.symm
  subst t0 t1 t5
  obtain ⟨f, hlo, hx, hsame⟩ := id hv
  obtain ⟨v, rfl, hbt0, hmax, hN, hW, hM, hBy⟩ := ha
  have hilt : i < len := by
    rcases Nat.lt_or_ge i rows.length with h | h
    · omega
    · rw [List.getElem?_eq_none h] at hi; cases hi
  have hgh := (hsame b hb).trans hg
  have l0 := load_cell hgh hall hi (k := 0) rfl
  have l3 := load_cell hgh hall hi (k := 3) rfl
  rw [Nat.add_zero] at l0
  have hw : IntKind.i64.wrap ((i : Int) + 1) = ((i + 1 : Nat) : Int) := by
    rw [IntWalk.i64_in _ (by omega)]; simp
  have hlt : (i : Int) < (len : Int) := by omega
  have hlt2 : (i : Int) < 60 := by omega
  have hix : (0 : Int) ≤ (i : Int) ∧ (i : Int) < (len : Int) := by omega
  have hin : 0 + (i : Int).toNat * 5 = i * 5 := by omega
  obtain ⟨H1, e1, f1, s1⟩ := R.rdGreat_spec f
  replace e1 : xcall X1 tab (.fn 24) [.ptr r 0] h = some (.int .u64 (rdN 8 s).1, H1) := e1
  have hv' := hv.step f1 s1
  have hgh1 := (hv'.2.2.2 b hb).trans hg
  have m1 := load_cell hgh1 hall hi (k := 1) rfl
  have m2 := load_cell hgh1 hall hi (k := 2) rfl
  have m3 := load_cell hgh1 hall hi (k := 3) rfl
  have eE := R.rdError_spec f1
  replace eE : xcall X1 tab (.fn 30) [.ptr r 0] H1 = some (.int .i64 (rdN 8 s).2.2, H1) := eE

  refine ⟨?tm, H1, ?run, ?sh, hv', s1⟩
  case run =>
    rw [show ∀ tm h, xcode X1 tab 33 none (.loop body33) tm h = thenX X1 tab 33 none (.loop body33) (xcode X1 tab 33 none body33 tm h) from fun _ _ => x_loop]
    delta body33
    simp (decide := true) only [note_false, Int.reduceBEq, Int.reduceBNe, x_drawn, l_nil, l_op, l_guard, l_some, l_true, l_false, l_draw, readsA, x_true, x_false, x_seq, x_ops, x_cond, x_skip, x_ret, x_exit, x_block, x_then, x_thenE, x_thenR, x_blockN, x_blockR, x_blockE, s_nil, s_op, s_guard, s_some, s_true, s_false, s_put, s_put0, s_opsR, s_ret, s_norm, aop, ev, evs, List.map_cons, List.map_nil, List.cons_append, List.nil_append, List.append_nil, List.replicate, List.take_succ_cons, List.take_zero, List.take_nil, List.drop_succ_cons, List.drop_zero, List.drop_nil, Nat.zero_add, Nat.add_zero, Nat.reduceAdd, Nat.reduceMul, Nat.reduceLeDiff, Bool.false_eq_true, and_self, List.length_cons, List.length_nil, List.set_cons_zero, List.set_cons_succ, List.getD_cons_zero, List.getD_cons_succ, wantedA, List.getElem?_cons_zero, List.getElem?_cons_succ, q_t, q_f, Bool.not_true, Bool.not_false, b_add, b_sub, b_mul, b_eql, b_neq, b_lss, b_leq, b_gtr, b_geq, b_and, b_or, b_xor, b_quo, b_rem, b_shl, b_shr, unA, Option.map_some, Option.map_none, resA, tupA, Int.reduceLT, not_false_eq_true, not_true_eq_false, decide_true, decide_false, f_bool, c_bool, f_int, c_int, f_str, c_str, f_nilptr, c_nilptr, f_ptr, c_ptr, f_nilsl, c_nilsl, f_slice, c_slice, f_nilmap, c_nilmap, f_map, c_map, f_nilf, c_nilf, f_func, c_func, f_yieldf, c_yieldf, f_nilif, c_nilif, f_iface, c_iface, c_agg, List.all_cons, List.all_nil, Bool.and_true, Bool.true_and, if_true, if_false, ite_true, ite_false, hlt, hlt2, hix, hin, l0, c0, c1, e1, m1, hs, he, eE, hw, chkLog, same_cells, hgh, hgh1]
    rfl
  case sh => exact ⟨rfl, rfl, rfl, rfl⟩

end Go.Proofs.Ytndcokalnpnbgaa.Ya
