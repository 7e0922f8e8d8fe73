/-
  Xdr, law XdrLays: the run.
-/
import Derived.Test.YtndcokalnpnbgaaYaLays0
namespace Go.Proofs.Ytndcokalnpnbgaa.Ya
open Go.Ya
set_option linter.unusedVariables false
set_option linter.unusedSimpArgs false
set_option maxRecDepth 100000
set_option maxHeartbeats 8000000

theorem out3A {h : Heap} {b w len : Nat} {by_ : Int} {want : AV} {i : Nat} {tm : List AV} (ht : Sh3 b w len by_ want i tm) (hlt : ¬ (i : Int) < (len : Int)) :
    ∃ tm', xcode X1 tab 3 none (.loop body3) tm h = some (.exit 0, tm', h) ∧ Sh3 b w len by_ want i tm' := by
  match tm, ht with
  | a0 :: a1 :: a2 :: a3 :: a4 :: a5 :: a6 :: a7 :: a8 :: a9 :: a10 :: a11 :: a12 :: a13 :: a14 :: a15 :: a16 :: a17 :: a18 :: a19 :: a20 :: a21 :: a22 :: a23 :: a24 :: a25 :: a26 :: a27 :: a28 :: a29 :: a30 :: a31 :: a32 :: a33 :: a34 :: a35 :: a36 :: a37 :: a38 :: a39 :: a40 :: a41 :: a42 :: a43 :: a44 :: a45 :: a46 :: a47 :: a48 :: a49 :: a50 :: a51 :: a52 :: a53 :: a54 :: a55 :: a56 :: a57 :: a58 :: a59 :: a60 :: a61 :: a62 :: a63 :: a64 :: a65 :: a66 :: a67 :: a68 :: a69 :: a70 :: a71 :: a72 :: a73 :: a74 :: a75 :: a76 :: a77 :: a78 :: a79 :: a80 :: a81 :: a82 :: a83 :: a84 :: a85 :: a86 :: a87 :: a88 :: a89 :: a90 :: a91 :: a92 :: a93 :: a94 :: a95 :: a96 :: a97 :: a98 :: a99 :: a100 :: [], ht =>
  obtain ⟨_, t0, t1, t5, t6, t7⟩ := ht
  simp only [List.getElem?_cons_zero, List.getElem?_cons_succ, Option.some.injEq] at t0 t1 t5 t6 t7
  replace t0 := t0.symm; replace t1 := t1.symm; replace t5 := t5.symm; replace t6 := t6.symm; replace t7 := t7.symm
  subst t0 t1 t5 t6 t7
  refine ⟨?tm, ?run, ?sh⟩
  case run =>
    rw [show ∀ tm h, xcode X1 tab 3 none (.loop body3) tm h = thenX X1 tab 3 none (.loop body3) (xcode X1 tab 3 none body3 tm h) from fun _ _ => x_loop]
    delta body3
    simp (decide := true) only [note_false, Int.reduceBEq, Int.reduceBNe, x_drawn, l_nil, l_op, l_guard, l_some, l_true, l_false, l_draw, readsA, x_true, x_false, x_seq, x_ops, x_cond, x_skip, x_ret, x_exit, x_block, x_then, x_thenE, x_thenR, x_blockN, x_blockR, x_blockE, s_nil, s_op, s_guard, s_some, s_true, s_false, s_put, s_put0, s_opsR, s_ret, s_norm, aop, ev, evs, List.map_cons, List.map_nil, List.cons_append, List.nil_append, List.append_nil, List.replicate, List.take_succ_cons, List.take_zero, List.take_nil, List.drop_succ_cons, List.drop_zero, List.drop_nil, Nat.zero_add, Nat.add_zero, Nat.reduceAdd, Nat.reduceMul, Nat.reduceLeDiff, Bool.false_eq_true, and_self, List.length_cons, List.length_nil, List.set_cons_zero, List.set_cons_succ, List.getD_cons_zero, List.getD_cons_succ, wantedA, List.getElem?_cons_zero, List.getElem?_cons_succ, q_t, q_f, Bool.not_true, Bool.not_false, b_add, b_sub, b_mul, b_eql, b_neq, b_lss, b_leq, b_gtr, b_geq, b_and, b_or, b_xor, b_quo, b_rem, b_shl, b_shr, unA, Option.map_some, Option.map_none, resA, tupA, Int.reduceLT, not_false_eq_true, not_true_eq_false, decide_true, decide_false, f_bool, c_bool, f_int, c_int, f_str, c_str, f_nilptr, c_nilptr, f_ptr, c_ptr, f_nilsl, c_nilsl, f_slice, c_slice, f_nilmap, c_nilmap, f_map, c_map, f_nilf, c_nilf, f_func, c_func, f_yieldf, c_yieldf, f_nilif, c_nilif, f_iface, c_iface, c_agg, List.all_cons, List.all_nil, Bool.and_true, Bool.true_and, if_true, if_false, ite_true, ite_false, hlt]
    rfl
  case sh => exact ⟨rfl, rfl, rfl, rfl, rfl, rfl⟩
theorem out3B {h : Heap} {b w len : Nat} {by_ : Int} {want : AV} {i : Nat} {tm : List AV} (ht : Sh3 b w len by_ want i tm) (hlt : (i : Int) < (len : Int)) (hlt2 : ¬ (i : Int) < 100) :
    ∃ tm', xcode X1 tab 3 none (.loop body3) tm h = some (.exit 0, tm', h) ∧ Sh3 b w len by_ want i tm' := by
  match tm, ht with
  | a0 :: a1 :: a2 :: a3 :: a4 :: a5 :: a6 :: a7 :: a8 :: a9 :: a10 :: a11 :: a12 :: a13 :: a14 :: a15 :: a16 :: a17 :: a18 :: a19 :: a20 :: a21 :: a22 :: a23 :: a24 :: a25 :: a26 :: a27 :: a28 :: a29 :: a30 :: a31 :: a32 :: a33 :: a34 :: a35 :: a36 :: a37 :: a38 :: a39 :: a40 :: a41 :: a42 :: a43 :: a44 :: a45 :: a46 :: a47 :: a48 :: a49 :: a50 :: a51 :: a52 :: a53 :: a54 :: a55 :: a56 :: a57 :: a58 :: a59 :: a60 :: a61 :: a62 :: a63 :: a64 :: a65 :: a66 :: a67 :: a68 :: a69 :: a70 :: a71 :: a72 :: a73 :: a74 :: a75 :: a76 :: a77 :: a78 :: a79 :: a80 :: a81 :: a82 :: a83 :: a84 :: a85 :: a86 :: a87 :: a88 :: a89 :: a90 :: a91 :: a92 :: a93 :: a94 :: a95 :: a96 :: a97 :: a98 :: a99 :: a100 :: [], ht =>
  obtain ⟨_, t0, t1, t5, t6, t7⟩ := ht
  simp only [List.getElem?_cons_zero, List.getElem?_cons_succ, Option.some.injEq] at t0 t1 t5 t6 t7
  replace t0 := t0.symm; replace t1 := t1.symm; replace t5 := t5.symm; replace t6 := t6.symm; replace t7 := t7.symm
  subst t0 t1 t5 t6 t7
  refine ⟨?tm, ?run, ?sh⟩
  case run =>
    rw [show ∀ tm h, xcode X1 tab 3 none (.loop body3) tm h = thenX X1 tab 3 none (.loop body3) (xcode X1 tab 3 none body3 tm h) from fun _ _ => x_loop]
    delta body3
    simp (decide := true) only [note_false, Int.reduceBEq, Int.reduceBNe, x_drawn, l_nil, l_op, l_guard, l_some, l_true, l_false, l_draw, readsA, x_true, x_false, x_seq, x_ops, x_cond, x_skip, x_ret, x_exit, x_block, x_then, x_thenE, x_thenR, x_blockN, x_blockR, x_blockE, s_nil, s_op, s_guard, s_some, s_true, s_false, s_put, s_put0, s_opsR, s_ret, s_norm, aop, ev, evs, List.map_cons, List.map_nil, List.cons_append, List.nil_append, List.append_nil, List.replicate, List.take_succ_cons, List.take_zero, List.take_nil, List.drop_succ_cons, List.drop_zero, List.drop_nil, Nat.zero_add, Nat.add_zero, Nat.reduceAdd, Nat.reduceMul, Nat.reduceLeDiff, Bool.false_eq_true, and_self, List.length_cons, List.length_nil, List.set_cons_zero, List.set_cons_succ, List.getD_cons_zero, List.getD_cons_succ, wantedA, List.getElem?_cons_zero, List.getElem?_cons_succ, q_t, q_f, Bool.not_true, Bool.not_false, b_add, b_sub, b_mul, b_eql, b_neq, b_lss, b_leq, b_gtr, b_geq, b_and, b_or, b_xor, b_quo, b_rem, b_shl, b_shr, unA, Option.map_some, Option.map_none, resA, tupA, Int.reduceLT, not_false_eq_true, not_true_eq_false, decide_true, decide_false, f_bool, c_bool, f_int, c_int, f_str, c_str, f_nilptr, c_nilptr, f_ptr, c_ptr, f_nilsl, c_nilsl, f_slice, c_slice, f_nilmap, c_nilmap, f_map, c_map, f_nilf, c_nilf, f_func, c_func, f_yieldf, c_yieldf, f_nilif, c_nilif, f_iface, c_iface, c_agg, List.all_cons, List.all_nil, Bool.and_true, Bool.true_and, if_true, if_false, ite_true, ite_false, hlt, hlt2]
    rfl
  case sh => exact ⟨rfl, rfl, rfl, rfl, rfl, rfl⟩
theorem loop3 {h0 : Heap} {b w len : Nat} {by_ : Int} {rows : List (List AV)} (ha : ThingsAt h0 b rows) (hlen : rows.length = len) : ∀ (d i : Nat) (h : Heap) (want : AV) (bs : List Int) (tm : List AV), i + d = 100 → Sh3 b w len by_ want i tm → Inv h0 h w want bs → bs.length ≤ i * 2000000 →
    ∃ tm' h' want' bs' i', xcode X1 tab 3 none (.loop body3) tm h = some (.exit 0, tm', h') ∧ Sh3 b w len by_ want' i' tm' ∧ Inv h0 h' w want' bs' ∧ bs'.length ≤ 200000000 := by
  intro d
  induction d with
  | zero =>
    intro i h want bs tm hd ht hv hl
    by_cases hlt : i < len
    · obtain ⟨tm', e, e2⟩ := out3B (h := h) ht (by omega) (by omega)
      exact ⟨tm', h, want, bs, i, e, e2, hv, by omega⟩
    · obtain ⟨tm', e, e2⟩ := out3A (h := h) ht (by omega)
      exact ⟨tm', h, want, bs, i, e, e2, hv, by omega⟩
  | succ d ih =>
    intro i h want bs tm hd ht hv hl
    by_cases hlt : i < len
    · obtain ⟨a1, a2, a3, a4⟩ := ha
      have hlt2 : i < rows.length := by omega
      obtain ⟨a, haa⟩ := a4 i _ (List.getElem?_eq_getElem hlt2)
      have hr := List.getElem?_eq_getElem hlt2
      have key : ∃ tm' h' want' bs', xcode X1 tab 3 none (.loop body3) tm h = xcode X1 tab 3 none (.loop body3) tm' h' ∧ Sh3 b w len by_ want' (i + 1) tm' ∧ Inv h0 h' w want' bs' ∧ bs'.length ≤ (i + 1) * 2000000 := by
        cases c0 : (a.what.tmod 4 == 0)
        · cases c1 : (a.what.tmod 4 == 1)
          · cases c2 : (a.what.tmod 4 == 2)
            · exact lays_bytes ht a1 a2 a3 hlen hr haa (by omega) hv hl c0 c1 c2
            · exact lays_truth ht a1 a2 a3 hlen hr haa (by omega) hv hl c0 c1 c2
          · exact lays_great ht a1 a2 a3 hlen hr haa (by omega) hv hl c0 c1
        · exact lays_num ht a1 a2 a3 hlen hr haa (by omega) hv hl c0
      obtain ⟨tm', h', want', bs', e, ht', hv', hl'⟩ := key
      obtain ⟨tm2, h2, w2, b2, i2, e2, e3⟩ := ih (i + 1) h' want' bs' tm' (by omega) ht' hv' hl'
      exact ⟨tm2, h2, w2, b2, i2, e.trans e2, e3⟩
    · obtain ⟨tm', e, e2⟩ := out3A (h := h) ht (by omega)
      exact ⟨tm', h, want, bs, i, e, e2, hv, by omega⟩

theorem tail3_spec {h0 h : Heap} {sl : AV} {w : Nat} {by_ : Int} {want : AV} {bs : List Int} {tm : List AV} (ht : tm.length = 101 ∧ tm[1]? = some (.int .u8 by_) ∧ tm[5]? = some (.ptr w 0) ∧ tm[6]? = some want) (hv : Inv h0 h w want bs) (hl : bs.length ≤ 200000000) :
    ∃ tm' h', xcode X1 tab 3 none tail3 tm h = some (.ret, tm', h') ∧ tm'.getD 4 undefA = .bool true := by
  match tm, ht with
  | a0 :: a1 :: a2 :: a3 :: a4 :: a5 :: a6 :: a7 :: a8 :: a9 :: a10 :: a11 :: a12 :: a13 :: a14 :: a15 :: a16 :: a17 :: a18 :: a19 :: a20 :: a21 :: a22 :: a23 :: a24 :: a25 :: a26 :: a27 :: a28 :: a29 :: a30 :: a31 :: a32 :: a33 :: a34 :: a35 :: a36 :: a37 :: a38 :: a39 :: a40 :: a41 :: a42 :: a43 :: a44 :: a45 :: a46 :: a47 :: a48 :: a49 :: a50 :: a51 :: a52 :: a53 :: a54 :: a55 :: a56 :: a57 :: a58 :: a59 :: a60 :: a61 :: a62 :: a63 :: a64 :: a65 :: a66 :: a67 :: a68 :: a69 :: a70 :: a71 :: a72 :: a73 :: a74 :: a75 :: a76 :: a77 :: a78 :: a79 :: a80 :: a81 :: a82 :: a83 :: a84 :: a85 :: a86 :: a87 :: a88 :: a89 :: a90 :: a91 :: a92 :: a93 :: a94 :: a95 :: a96 :: a97 :: a98 :: a99 :: a100 :: [], ht =>
  obtain ⟨_, t1, t5, t6⟩ := ht
  simp only [List.getElem?_cons_zero, List.getElem?_cons_succ, Option.some.injEq] at t1 t5 t6
  replace t1 := t1.symm; replace t5 := t5.symm; replace t6 := t6.symm
  subst t1 t5 t6
  obtain ⟨F, bw, f, hbw, hwn, hlo, hx, hsame⟩ := hv
  obtain ⟨a, H1, e1, g1, nb⟩ := W.bare_spec f (by omega)
  replace e1 : xcall X1 tab (.fn 17) [.ptr w 0] h = some (a, H1) := e1
  have keepB : ∀ H, h.next ≤ H.next → (∀ j, j < h.next → H.get j = h.get j) → BytesAt H want bs := fun H k1 k2 => hbw.at.grow ⟨k1, k2⟩
  have e2 := same_spec (X := X1) (SP := tab) (f := 18) (fun _ _ => rfl) (show tab 18 = some sameS from rfl) nb.at (keepB H1 g1.1 g1.2)
  simp only [beq_self_eq_true] at e2
  obtain ⟨H2, e3, k1, k2⟩ := spoil_new (SP := tab) hk19 nb (IntKind.u8.wrap ((BitVec.ofInt IntKind.u8.bits by_ ||| BitVec.ofInt IntKind.u8.bits 1).toNat))
  have q1 := g1.1
  have hs2 : ∀ j, j < h.next → H2.get j = h.get j := fun j hj => by rw [k2 j hj, g1.2 j hj]
  have f2 : WAt H2 w bs F := f.keep (by omega) fun j hj => hs2 j (f.2.1 j hj)
  obtain ⟨a2, H3, e4, g3, nb3⟩ := W.bare_spec f2 (by omega)
  replace e4 : xcall X1 tab (.fn 17) [.ptr w 0] H2 = some (a2, H3) := e4
  have q3 := g3.1
  have e5 := same_spec (X := X1) (SP := tab) (f := 18) (fun _ _ => rfl) (show tab 18 = some sameS from rfl) nb3.at (keepB H3 (by omega) fun j hj => by rw [g3.2 j (by omega), hs2 j hj])
  simp only [beq_self_eq_true] at e5
  refine ⟨?tm, H3, ?run, ?sh⟩
  case run =>
    delta tail3
    simp (decide := true) only [note_false, Int.reduceBEq, Int.reduceBNe, x_drawn, l_nil, l_op, l_guard, l_some, l_true, l_false, l_draw, readsA, x_true, x_false, x_seq, x_ops, x_cond, x_skip, x_ret, x_exit, x_block, x_then, x_thenE, x_thenR, x_blockN, x_blockR, x_blockE, s_nil, s_op, s_guard, s_some, s_true, s_false, s_put, s_put0, s_opsR, s_ret, s_norm, aop, ev, evs, List.map_cons, List.map_nil, List.cons_append, List.nil_append, List.append_nil, List.replicate, List.take_succ_cons, List.take_zero, List.take_nil, List.drop_succ_cons, List.drop_zero, List.drop_nil, Nat.zero_add, Nat.add_zero, Nat.reduceAdd, Nat.reduceMul, Nat.reduceLeDiff, Bool.false_eq_true, and_self, List.length_cons, List.length_nil, List.set_cons_zero, List.set_cons_succ, List.getD_cons_zero, List.getD_cons_succ, wantedA, List.getElem?_cons_zero, List.getElem?_cons_succ, q_t, q_f, Bool.not_true, Bool.not_false, b_add, b_sub, b_mul, b_eql, b_neq, b_lss, b_leq, b_gtr, b_geq, b_and, b_or, b_xor, b_quo, b_rem, b_shl, b_shr, unA, Option.map_some, Option.map_none, resA, tupA, Int.reduceLT, not_false_eq_true, not_true_eq_false, decide_true, decide_false, f_bool, c_bool, f_int, c_int, f_str, c_str, f_nilptr, c_nilptr, f_ptr, c_ptr, f_nilsl, c_nilsl, f_slice, c_slice, f_nilmap, c_nilmap, f_map, c_map, f_nilf, c_nilf, f_func, c_func, f_yieldf, c_yieldf, f_nilif, c_nilif, f_iface, c_iface, c_agg, List.all_cons, List.all_nil, Bool.and_true, Bool.true_and, if_true, if_false, ite_true, ite_false, e1, e2, e3, e4, e5, lives20]
    rfl
  case sh => rfl
theorem inv0 (h : Heap) : Inv h (h.alloc (.cells [.nilsl] false)) h.next .nilsl [] :=
  ⟨fun j => j = h.next, h.next + 1, ⟨rfl, fun j hj => by simp; omega, .nilsl, h.next + 1, by rw [Heap.get_alloc, if_pos rfl], .inl ⟨rfl, rfl⟩, by omega, fun e => absurd rfl e⟩, .inl ⟨rfl, rfl⟩, fun e => absurd rfl e, fun j hj => by omega, by simp, fun j hj => by rw [Heap.get_alloc, if_neg (by omega)]⟩
theorem go3 {h : Heap} {b len : Nat} {rows : List (List AV)} (ha : ThingsAt h b rows) (hlen : rows.length = len) (by_ : Int) : ∃ h', xcall X1 tab (.fn 3) [.slice b 0 len len false 5, .int .u8 by_] h = some (.bool true, h') := by
  have hT : Sh3 b h.next len by_ .nilsl 0 [.slice b 0 len len false 5, .int .u8 by_, undefA, undefA, .bool false, .ptr h.next 0, .nilsl, .int .i64 0, undefA, undefA, undefA, undefA, .agg [.nilsl], .ptr h.next 0, undefA, undefA, undefA, undefA, undefA, undefA, undefA, undefA, undefA, undefA, undefA, undefA, undefA, undefA, undefA, undefA, undefA, undefA, undefA, undefA, undefA, undefA, undefA, undefA, undefA, undefA, undefA, undefA, undefA, undefA, undefA, undefA, undefA, undefA, undefA, undefA, undefA, undefA, undefA, undefA, undefA, undefA, undefA, undefA, undefA, undefA, undefA, undefA, undefA, undefA, undefA, undefA, undefA, undefA, undefA, undefA, undefA, undefA, undefA, undefA, undefA, undefA, undefA, undefA, undefA, undefA, undefA, undefA, undefA, undefA, undefA, undefA, undefA, undefA, undefA, undefA, undefA, undefA, undefA, undefA, undefA, undefA, undefA, undefA, undefA, undefA, undefA] := ⟨rfl, rfl, rfl, rfl, rfl, rfl⟩
  obtain ⟨tm1, H1, want, bs, i', e1, s1, hv, hl⟩ := loop3 ha hlen 100 0 (h.alloc (.cells [.nilsl] false)) .nilsl [] _ (by omega) hT (inv0 h) (by simp)
  obtain ⟨r0, r1, r2, r3, r4, r5⟩ := s1
  obtain ⟨tm2, H2, e2, e3⟩ := tail3_spec (sl := .nilsl) ⟨r0, r2, r3, r4⟩ hv hl
  refine ⟨H2, ?_⟩
  rw [x_fn rfl (show tab 3 = some ⟨101, [.tmp 4], sf3.body⟩ from rfl), body3_eq]
  simp (decide := true) only [note_false, Int.reduceBEq, Int.reduceBNe, x_drawn, l_nil, l_op, l_guard, l_some, l_true, l_false, l_draw, readsA, x_true, x_false, x_seq, x_ops, x_cond, x_skip, x_ret, x_exit, x_block, x_then, x_thenE, x_thenR, x_blockN, x_blockR, x_blockE, s_nil, s_op, s_guard, s_some, s_true, s_false, s_put, s_put0, s_opsR, s_ret, s_norm, aop, ev, evs, List.map_cons, List.map_nil, List.cons_append, List.nil_append, List.append_nil, List.replicate, List.take_succ_cons, List.take_zero, List.take_nil, List.drop_succ_cons, List.drop_zero, List.drop_nil, Nat.zero_add, Nat.add_zero, Nat.reduceAdd, Nat.reduceMul, Nat.reduceLeDiff, Bool.false_eq_true, and_self, List.length_cons, List.length_nil, List.set_cons_zero, List.set_cons_succ, List.getD_cons_zero, List.getD_cons_succ, wantedA, List.getElem?_cons_zero, List.getElem?_cons_succ, q_t, q_f, Bool.not_true, Bool.not_false, b_add, b_sub, b_mul, b_eql, b_neq, b_lss, b_leq, b_gtr, b_geq, b_and, b_or, b_xor, b_quo, b_rem, b_shl, b_shr, unA, Option.map_some, Option.map_none, resA, tupA, Int.reduceLT, not_false_eq_true, not_true_eq_false, decide_true, decide_false, f_bool, c_bool, f_int, c_int, f_str, c_str, f_nilptr, c_nilptr, f_ptr, c_ptr, f_nilsl, c_nilsl, f_slice, c_slice, f_nilmap, c_nilmap, f_map, c_map, f_nilf, c_nilf, f_func, c_func, f_yieldf, c_yieldf, f_nilif, c_nilif, f_iface, c_iface, c_agg, List.all_cons, List.all_nil, Bool.and_true, Bool.true_and, if_true, if_false, ite_true, ite_false, fillA, splice, e1, e2, e3]
theorem go3nil (h : Heap) (by_ : Int) : ∃ h', xcall X1 tab (.fn 3) [.nilsl, .int .u8 by_] h = some (.bool true, h') := by
  have key : ∃ tm', xcode X1 tab 3 none (.loop body3) [.nilsl, .int .u8 by_, undefA, undefA, .bool false, .ptr h.next 0, .nilsl, .int .i64 0, undefA, undefA, undefA, undefA, .agg [.nilsl], .ptr h.next 0, undefA, undefA, undefA, undefA, undefA, undefA, undefA, undefA, undefA, undefA, undefA, undefA, undefA, undefA, undefA, undefA, undefA, undefA, undefA, undefA, undefA, undefA, undefA, undefA, undefA, undefA, undefA, undefA, undefA, undefA, undefA, undefA, undefA, undefA, undefA, undefA, undefA, undefA, undefA, undefA, undefA, undefA, undefA, undefA, undefA, undefA, undefA, undefA, undefA, undefA, undefA, undefA, undefA, undefA, undefA, undefA, undefA, undefA, undefA, undefA, undefA, undefA, undefA, undefA, undefA, undefA, undefA, undefA, undefA, undefA, undefA, undefA, undefA, undefA, undefA, undefA, undefA, undefA, undefA, undefA, undefA, undefA, undefA, undefA, undefA, undefA, undefA] (h.alloc (.cells [.nilsl] false)) = some (.exit 0, tm', h.alloc (.cells [.nilsl] false)) ∧ (tm'.length = 101 ∧ tm'[1]? = some (.int .u8 by_) ∧ tm'[5]? = some (.ptr h.next 0) ∧ tm'[6]? = some .nilsl) := by
    refine ⟨?tm, ?run, ?sh⟩
    case run =>
      rw [show ∀ tm h, xcode X1 tab 3 none (.loop body3) tm h = thenX X1 tab 3 none (.loop body3) (xcode X1 tab 3 none body3 tm h) from fun _ _ => x_loop]
      delta body3
      simp (decide := true) only [note_false, Int.reduceBEq, Int.reduceBNe, x_drawn, l_nil, l_op, l_guard, l_some, l_true, l_false, l_draw, readsA, x_true, x_false, x_seq, x_ops, x_cond, x_skip, x_ret, x_exit, x_block, x_then, x_thenE, x_thenR, x_blockN, x_blockR, x_blockE, s_nil, s_op, s_guard, s_some, s_true, s_false, s_put, s_put0, s_opsR, s_ret, s_norm, aop, ev, evs, List.map_cons, List.map_nil, List.cons_append, List.nil_append, List.append_nil, List.replicate, List.take_succ_cons, List.take_zero, List.take_nil, List.drop_succ_cons, List.drop_zero, List.drop_nil, Nat.zero_add, Nat.add_zero, Nat.reduceAdd, Nat.reduceMul, Nat.reduceLeDiff, Bool.false_eq_true, and_self, List.length_cons, List.length_nil, List.set_cons_zero, List.set_cons_succ, List.getD_cons_zero, List.getD_cons_succ, wantedA, List.getElem?_cons_zero, List.getElem?_cons_succ, q_t, q_f, Bool.not_true, Bool.not_false, b_add, b_sub, b_mul, b_eql, b_neq, b_lss, b_leq, b_gtr, b_geq, b_and, b_or, b_xor, b_quo, b_rem, b_shl, b_shr, unA, Option.map_some, Option.map_none, resA, tupA, Int.reduceLT, not_false_eq_true, not_true_eq_false, decide_true, decide_false, f_bool, c_bool, f_int, c_int, f_str, c_str, f_nilptr, c_nilptr, f_ptr, c_ptr, f_nilsl, c_nilsl, f_slice, c_slice, f_nilmap, c_nilmap, f_map, c_map, f_nilf, c_nilf, f_func, c_func, f_yieldf, c_yieldf, f_nilif, c_nilif, f_iface, c_iface, c_agg, List.all_cons, List.all_nil, Bool.and_true, Bool.true_and, if_true, if_false, ite_true, ite_false]
      rfl
    case sh => exact ⟨rfl, rfl, rfl, rfl⟩
  obtain ⟨tm1, e1, s1⟩ := key
  obtain ⟨tm2, H2, e2, e3⟩ := tail3_spec (sl := .nilsl) s1 (inv0 h) (by simp)
  refine ⟨H2, ?_⟩
  rw [x_fn rfl (show tab 3 = some ⟨101, [.tmp 4], sf3.body⟩ from rfl), body3_eq]
  simp (decide := true) only [note_false, Int.reduceBEq, Int.reduceBNe, x_drawn, l_nil, l_op, l_guard, l_some, l_true, l_false, l_draw, readsA, x_true, x_false, x_seq, x_ops, x_cond, x_skip, x_ret, x_exit, x_block, x_then, x_thenE, x_thenR, x_blockN, x_blockR, x_blockE, s_nil, s_op, s_guard, s_some, s_true, s_false, s_put, s_put0, s_opsR, s_ret, s_norm, aop, ev, evs, List.map_cons, List.map_nil, List.cons_append, List.nil_append, List.append_nil, List.replicate, List.take_succ_cons, List.take_zero, List.take_nil, List.drop_succ_cons, List.drop_zero, List.drop_nil, Nat.zero_add, Nat.add_zero, Nat.reduceAdd, Nat.reduceMul, Nat.reduceLeDiff, Bool.false_eq_true, and_self, List.length_cons, List.length_nil, List.set_cons_zero, List.set_cons_succ, List.getD_cons_zero, List.getD_cons_succ, wantedA, List.getElem?_cons_zero, List.getElem?_cons_succ, q_t, q_f, Bool.not_true, Bool.not_false, b_add, b_sub, b_mul, b_eql, b_neq, b_lss, b_leq, b_gtr, b_geq, b_and, b_or, b_xor, b_quo, b_rem, b_shl, b_shr, unA, Option.map_some, Option.map_none, resA, tupA, Int.reduceLT, not_false_eq_true, not_true_eq_false, decide_true, decide_false, f_bool, c_bool, f_int, c_int, f_str, c_str, f_nilptr, c_nilptr, f_ptr, c_ptr, f_nilsl, c_nilsl, f_slice, c_slice, f_nilmap, c_nilmap, f_map, c_map, f_nilf, c_nilf, f_func, c_func, f_yieldf, c_yieldf, f_nilif, c_nilif, f_iface, c_iface, c_agg, List.all_cons, List.all_nil, Bool.and_true, Bool.true_and, if_true, if_false, ite_true, ite_false, fillA, splice, e1, e2, e3]

theorem run3 : ∀ h xs, argsT Try.prog 1048576 h 5 Try.f3.params.toList xs → argsX Try.prog 1048576 5 Try.f3.params.toList emptyHeap xs h →
    ∃ n h', acall X1 tab n (.fn 3) xs h = some (.bool true, h') ∨ (AV.bares xs = true ∧ acall X1 tab n (.fn 3) xs emptyHeap = some (.bool true, h')) := by
  intro h xs _ hx
  rw [Try.params3] at hx
  obtain ⟨l, _, h1, rfl, hl, hx⟩ := argsX_cons hx
  obtain ⟨y, _, h2, rfl, hy, hx⟩ := argsX_cons hx
  obtain ⟨rfl, rfl⟩ := argsX_nil hx
  obtain ⟨by_, rfl, _, rfl⟩ := argX_int Try.underlying5 hy
  rcases argX_slice Try.underlying22 hl with ⟨rfl, rfl⟩ | ⟨len, ass, h3, e1, _, _, rfl, rfl⟩
  · obtain ⟨h', e⟩ := go3nil _ by_
    exact ranX e
  · obtain ⟨r1, r2, r3⟩ := thing_rows len e1
    have hc : Try.prog.cellsOf 29 = 5 := by kernel_rfl
    rw [hc]
    have ha : ThingsAt (h3.alloc (.cells ass.flatten true)) h3.next ass :=
      ⟨by simp, by rw [Heap.get_alloc, if_pos rfl], fun r hr => (r3 r hr).1, fun i row hi => by
        obtain ⟨a, q⟩ := (r3 row (List.mem_of_getElem? hi)).2
        exact ⟨a, q.grow (Grow.alloc _ _)⟩⟩
    obtain ⟨h', e⟩ := go3 ha r1 by_
    exact ranX e
end Go.Proofs.Ytndcokalnpnbgaa.Ya

