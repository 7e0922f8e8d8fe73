/-
  Xdr, law XdrTells: the run.
-/
import Derived.Test.YtndcokalnpnbgaaYaTells0
namespace Go.Proofs.Ytndcokalnpnbgaa.Ya
open Go.Ya
set_option linter.unusedVariables false
set_option linter.unusedSimpArgs false
set_option maxRecDepth 100000
set_option maxHeartbeats 8000000
theorem out4A {h : Heap} {V wv : AV} {by_ : Int} {r q b len i : Nat} {tm : List AV} (ht : Sh4 V (.slice b 0 len len false 5) by_ wv r q i tm) (hlt : ¬ (i : Int) < (len : Int)) :
    ∃ tm', xcode X1 tab 4 none (.loop body4) tm h = some (.exit 0, tm', h) ∧ Sh4 V (.slice b 0 len len false 5) by_ wv r q i tm' := by
  match tm, ht with
  | a0 :: a1 :: a2 :: a3 :: a4 :: a5 :: a6 :: a7 :: a8 :: a9 :: a10 :: a11 :: a12 :: a13 :: a14 :: a15 :: a16 :: a17 :: a18 :: a19 :: a20 :: a21 :: a22 :: a23 :: a24 :: a25 :: a26 :: a27 :: a28 :: a29 :: a30 :: a31 :: a32 :: a33 :: a34 :: a35 :: a36 :: a37 :: a38 :: a39 :: a40 :: a41 :: a42 :: a43 :: a44 :: a45 :: a46 :: a47 :: a48 :: a49 :: a50 :: a51 :: a52 :: a53 :: a54 :: a55 :: a56 :: a57 :: a58 :: a59 :: a60 :: a61 :: a62 :: a63 :: a64 :: a65 :: a66 :: a67 :: a68 :: a69 :: a70 :: a71 :: a72 :: a73 :: a74 :: a75 :: a76 :: a77 :: a78 :: a79 :: a80 :: a81 :: a82 :: a83 :: a84 :: a85 :: a86 :: a87 :: a88 :: a89 :: a90 :: a91 :: a92 :: a93 :: a94 :: a95 :: a96 :: a97 :: a98 :: a99 :: a100 :: [], ht =>
  obtain ⟨_, t0, t1, t2, t7, t8, t9, t10⟩ := ht
  simp only [List.getElem?_cons_zero, List.getElem?_cons_succ, Option.some.injEq] at t0 t1 t2 t7 t8 t9 t10
  replace t0 := t0.symm; replace t1 := t1.symm; replace t2 := t2.symm; replace t7 := t7.symm; replace t8 := t8.symm; replace t9 := t9.symm; replace t10 := t10.symm
  subst t0 t1 t2 t7 t8 t9 t10
  refine ⟨?tm, ?run, ?sh⟩
  case run =>
    rw [show ∀ tm h, xcode X1 tab 4 none (.loop body4) tm h = thenX X1 tab 4 none (.loop body4) (xcode X1 tab 4 none body4 tm h) from fun _ _ => x_loop]
    delta body4
    simp (decide := true) only [note_false, Int.reduceBEq, Int.reduceBNe, x_drawn, l_nil, l_op, l_guard, l_some, l_true, l_false, l_draw, readsA, x_true, x_false, x_seq, x_ops, x_cond, x_skip, x_ret, x_exit, x_block, x_then, x_thenE, x_thenR, x_blockN, x_blockR, x_blockE, s_nil, s_op, s_guard, s_some, s_true, s_false, s_put, s_put0, s_opsR, s_ret, s_norm, aop, ev, evs, List.map_cons, List.map_nil, List.cons_append, List.nil_append, List.append_nil, List.replicate, List.take_succ_cons, List.take_zero, List.take_nil, List.drop_succ_cons, List.drop_zero, List.drop_nil, Nat.zero_add, Nat.add_zero, Nat.reduceAdd, Nat.reduceMul, Nat.reduceLeDiff, Bool.false_eq_true, and_self, List.length_cons, List.length_nil, List.set_cons_zero, List.set_cons_succ, List.getD_cons_zero, List.getD_cons_succ, wantedA, List.getElem?_cons_zero, List.getElem?_cons_succ, q_t, q_f, Bool.not_true, Bool.not_false, b_add, b_sub, b_mul, b_eql, b_neq, b_lss, b_leq, b_gtr, b_geq, b_and, b_or, b_xor, b_quo, b_rem, b_shl, b_shr, unA, Option.map_some, Option.map_none, resA, tupA, Int.reduceLT, not_false_eq_true, not_true_eq_false, decide_true, decide_false, f_bool, c_bool, f_int, c_int, f_str, c_str, f_nilptr, c_nilptr, f_ptr, c_ptr, f_nilsl, c_nilsl, f_slice, c_slice, f_nilmap, c_nilmap, f_map, c_map, f_nilf, c_nilf, f_func, c_func, f_yieldf, c_yieldf, f_nilif, c_nilif, f_iface, c_iface, c_agg, List.all_cons, List.all_nil, Bool.and_true, Bool.true_and, if_true, if_false, ite_true, ite_false, hlt]
    rfl
  case sh => exact ⟨rfl, rfl, rfl, rfl, rfl, rfl, rfl, rfl⟩
theorem out4B {h : Heap} {V wv : AV} {by_ : Int} {r q b len i : Nat} {tm : List AV} (ht : Sh4 V (.slice b 0 len len false 5) by_ wv r q i tm) (hlt : (i : Int) < (len : Int)) (hlt2 : ¬ (i : Int) < 60) :
    ∃ tm', xcode X1 tab 4 none (.loop body4) tm h = some (.exit 0, tm', h) ∧ Sh4 V (.slice b 0 len len false 5) by_ wv r q i tm' := by
  match tm, ht with
  | a0 :: a1 :: a2 :: a3 :: a4 :: a5 :: a6 :: a7 :: a8 :: a9 :: a10 :: a11 :: a12 :: a13 :: a14 :: a15 :: a16 :: a17 :: a18 :: a19 :: a20 :: a21 :: a22 :: a23 :: a24 :: a25 :: a26 :: a27 :: a28 :: a29 :: a30 :: a31 :: a32 :: a33 :: a34 :: a35 :: a36 :: a37 :: a38 :: a39 :: a40 :: a41 :: a42 :: a43 :: a44 :: a45 :: a46 :: a47 :: a48 :: a49 :: a50 :: a51 :: a52 :: a53 :: a54 :: a55 :: a56 :: a57 :: a58 :: a59 :: a60 :: a61 :: a62 :: a63 :: a64 :: a65 :: a66 :: a67 :: a68 :: a69 :: a70 :: a71 :: a72 :: a73 :: a74 :: a75 :: a76 :: a77 :: a78 :: a79 :: a80 :: a81 :: a82 :: a83 :: a84 :: a85 :: a86 :: a87 :: a88 :: a89 :: a90 :: a91 :: a92 :: a93 :: a94 :: a95 :: a96 :: a97 :: a98 :: a99 :: a100 :: [], ht =>
  obtain ⟨_, t0, t1, t2, t7, t8, t9, t10⟩ := ht
  simp only [List.getElem?_cons_zero, List.getElem?_cons_succ, Option.some.injEq] at t0 t1 t2 t7 t8 t9 t10
  replace t0 := t0.symm; replace t1 := t1.symm; replace t2 := t2.symm; replace t7 := t7.symm; replace t8 := t8.symm; replace t9 := t9.symm; replace t10 := t10.symm
  subst t0 t1 t2 t7 t8 t9 t10
  refine ⟨?tm, ?run, ?sh⟩
  case run =>
    rw [show ∀ tm h, xcode X1 tab 4 none (.loop body4) tm h = thenX X1 tab 4 none (.loop body4) (xcode X1 tab 4 none body4 tm h) from fun _ _ => x_loop]
    delta body4
    simp (decide := true) only [note_false, Int.reduceBEq, Int.reduceBNe, x_drawn, l_nil, l_op, l_guard, l_some, l_true, l_false, l_draw, readsA, x_true, x_false, x_seq, x_ops, x_cond, x_skip, x_ret, x_exit, x_block, x_then, x_thenE, x_thenR, x_blockN, x_blockR, x_blockE, s_nil, s_op, s_guard, s_some, s_true, s_false, s_put, s_put0, s_opsR, s_ret, s_norm, aop, ev, evs, List.map_cons, List.map_nil, List.cons_append, List.nil_append, List.append_nil, List.replicate, List.take_succ_cons, List.take_zero, List.take_nil, List.drop_succ_cons, List.drop_zero, List.drop_nil, Nat.zero_add, Nat.add_zero, Nat.reduceAdd, Nat.reduceMul, Nat.reduceLeDiff, Bool.false_eq_true, and_self, List.length_cons, List.length_nil, List.set_cons_zero, List.set_cons_succ, List.getD_cons_zero, List.getD_cons_succ, wantedA, List.getElem?_cons_zero, List.getElem?_cons_succ, q_t, q_f, Bool.not_true, Bool.not_false, b_add, b_sub, b_mul, b_eql, b_neq, b_lss, b_leq, b_gtr, b_geq, b_and, b_or, b_xor, b_quo, b_rem, b_shl, b_shr, unA, Option.map_some, Option.map_none, resA, tupA, Int.reduceLT, not_false_eq_true, not_true_eq_false, decide_true, decide_false, f_bool, c_bool, f_int, c_int, f_str, c_str, f_nilptr, c_nilptr, f_ptr, c_ptr, f_nilsl, c_nilsl, f_slice, c_slice, f_nilmap, c_nilmap, f_map, c_map, f_nilf, c_nilf, f_func, c_func, f_yieldf, c_yieldf, f_nilif, c_nilif, f_iface, c_iface, c_agg, List.all_cons, List.all_nil, Bool.and_true, Bool.true_and, if_true, if_false, ite_true, ite_false, hlt, hlt2]
    rfl
  case sh => exact ⟨rfl, rfl, rfl, rfl, rfl, rfl, rfl, rfl⟩
theorem loop4 {h0 : Heap} {V wv : AV} {by_ : Int} {r q b len : Nat} {F : Nat → Prop} {rows : List (List AV)} (hth : ThingsAt h0 b rows) (hlen : rows.length = len) : ∀ (d i : Nat) (h : Heap) (s : List Int × Int) (tm : List AV), i + d = 60 → Sh4 V (.slice b 0 len len false 5) by_ wv r q i tm → Inv4 h0 h V r q s F →
    ∃ tm' h' s' i', xcode X1 tab 4 none (.loop body4) tm h = some (.exit 0, tm', h') ∧ Sh4 V (.slice b 0 len len false 5) by_ wv r q i' tm' ∧ Inv4 h0 h' V r q s' F := by
  intro d
  induction d with
  | zero =>
    intro i h s tm hd ht hv
    by_cases hlt : i < len
    · obtain ⟨tm', e, e2⟩ := out4B (h := h) ht (by omega) (by omega)
      exact ⟨tm', h, s, i, e, e2, hv⟩
    · obtain ⟨tm', e, e2⟩ := out4A (h := h) ht (by omega)
      exact ⟨tm', h, s, i, e, e2, hv⟩
  | succ d ih =>
    intro i h s tm hd ht hv
    by_cases hlt : i < len
    · obtain ⟨a1, a2, a3, a4⟩ := hth
      have hlt2 : i < rows.length := by omega
      obtain ⟨a, haa⟩ := a4 i _ (List.getElem?_eq_getElem hlt2)
      have hr := List.getElem?_eq_getElem hlt2
      have key : ∃ tm' h' s', xcode X1 tab 4 none (.loop body4) tm h = xcode X1 tab 4 none (.loop body4) tm' h' ∧ Sh4 V (.slice b 0 len len false 5) by_ wv r q (i + 1) tm' ∧ Inv4 h0 h' V r q s' F := by
        cases c0 : (a.what.tmod 4 == 0)
        · cases c1 : (a.what.tmod 4 == 1)
          · cases c2 : (a.what.tmod 4 == 2)
            · obtain ⟨tm', h', e⟩ := tell_bytes ht a1 a2 a3 hlen hr haa (by omega) hv c0 c1 c2
              exact ⟨tm', h', _, e⟩
            · obtain ⟨tm', h', e⟩ := tell_truth ht a1 a2 a3 hlen hr haa (by omega) hv c0 c1 c2
              exact ⟨tm', h', _, e⟩
          · obtain ⟨tm', h', e⟩ := tell_great ht a1 a2 a3 hlen hr haa (by omega) hv c0 c1
            exact ⟨tm', h', _, e⟩
        · obtain ⟨tm', h', e⟩ := tell_num ht a1 a2 a3 hlen hr haa (by omega) hv c0
          exact ⟨tm', h', _, e⟩
      obtain ⟨tm', h', s', e, ht', hv'⟩ := key
      obtain ⟨tm2, h2, s2, i2, e2, e3⟩ := ih (i + 1) h' s' tm' (by omega) ht' hv'
      exact ⟨tm2, h2, s2, i2, e.trans e2, e3⟩
    · obtain ⟨tm', e, e2⟩ := out4A (h := h) ht (by omega)
      exact ⟨tm', h, s, i, e, e2, hv⟩
/-- What is there ahead of the loop. -/
theorem start4 {h : Heap} {V : AV} {bs : List Int} (hV : BytesAt h V bs) (hf : V.flat = true) (hid : ∀ id o l c e z, V = .slice id o l c e z → id < h.next) (hby : Bytes bs) (hl : bs.length ≤ 1048576) :
    ∃ w H0 r H1 F, xcall X1 tab (.fn 7) [V] h = some (.slice w 0 bs.length (bs.length + 3) false 1, H0) ∧ WideAt H0 w bs ∧ BytesAt H0 V bs ∧ Grow h H0 ∧ xcall X1 tab (.fn 21) [.slice w 0 bs.length (bs.length + 3) false 1] H0 = some (.ptr r 0, H1) ∧ Inv4 H0 (H1.alloc (.cells [V, .int .i64 0, .int .i64 0] false)) V r H1.next (bs, 0) F := by
  obtain ⟨w, H0, e0, g0, k1, k2, k3⟩ := wide_spec (X := X1) (SP := tab) (f := 7) (fC := 34) (fun _ _ => rfl) (fun _ _ => rfl) (show tab 7 = some (wideS 34) from rfl) (show tab 34 = some copyS from rfl) hV (by omega)
  have hw : WideAt H0 w bs := ⟨k2, k3⟩
  obtain ⟨r, H1, F, e1, f1, g1, hlo⟩ := R.newRd_spec hw.at hby (by omega)
  have hn0 := g0.1
  have hn1 := g1.1
  have hV1 : BytesAt (H1.alloc (.cells [V, .int .i64 0, .int .i64 0] false)) V bs := (hV.grow g0).grow (g1.trans (Grow.alloc _ _))
  refine ⟨w, H0, r, H1, F, e0, hw, hV.grow g0, g0, e1, f1.grow (Grow.alloc _ _), ⟨rfl, fun j hj => by subst hj; simp, bs, 0, by rw [Heap.get_alloc, if_pos rfl]; rfl, hby, by omega, by omega, by simp, hV1, hf, fun id o l c e z hv hj => by have := hid _ _ _ _ _ _ hv; omega⟩, hlo, hn1, fun hF => by have := f1.2.1 _ hF; omega, by simp; omega, fun j hj => ?_, fun id o l c e z hv => by have := hid _ _ _ _ _ _ hv; omega⟩
  rw [Heap.get_alloc, if_neg (by omega), g1.2 j hj]
theorem tail4_spec {h0 h : Heap} {V L : AV} {bs : List Int} {by_ : Int} {w r q i : Nat} {s : List Int × Int} {F : Nat → Prop} {tm : List AV} (ht : Sh4 V L by_ (.slice w 0 bs.length (bs.length + 3) false 1) r q i tm) (hw : WideAt h0 w bs) (hV : BytesAt h0 V bs) (hv : Inv4 h0 h V r q s F) (hf : V.flat = true) :
    ∃ tm', xcode X1 tab 4 none tail4 tm h = some (.ret, tm', h) ∧ tm'.getD 6 undefA = .bool true := by
  obtain ⟨f, g, hlo, hq0, hqF, hx, hsame, hVid⟩ := hv
  have hw1 : w + 1 < h0.next := by
    rcases hc : h0.get (w + 1) with _ | o
    · have := hw.2; simp [Heap.byteAt, hc] at this
    · exact Heap.lt_of_get hc
  have hw2 : WideAt h w bs := hw.keep (hsame _ (by omega)) (hsame _ hw1)
  have hV2 : BytesAt h V bs := by
    rcases hV with e | ⟨id, off, cap, ex, c, ro, e1, e2, e3, e4, e5⟩
    · exact .inl e
    · exact .inr ⟨id, off, cap, ex, c, ro, e1, e2, (hsame id (Heap.lt_of_get e3)).trans e3, e4, e5⟩
  have eL := left_wide (SP := tab) hk16 hw2 hV2
  match tm, ht with
  | a0 :: a1 :: a2 :: a3 :: a4 :: a5 :: a6 :: a7 :: a8 :: a9 :: a10 :: a11 :: a12 :: a13 :: a14 :: a15 :: a16 :: a17 :: a18 :: a19 :: a20 :: a21 :: a22 :: a23 :: a24 :: a25 :: a26 :: a27 :: a28 :: a29 :: a30 :: a31 :: a32 :: a33 :: a34 :: a35 :: a36 :: a37 :: a38 :: a39 :: a40 :: a41 :: a42 :: a43 :: a44 :: a45 :: a46 :: a47 :: a48 :: a49 :: a50 :: a51 :: a52 :: a53 :: a54 :: a55 :: a56 :: a57 :: a58 :: a59 :: a60 :: a61 :: a62 :: a63 :: a64 :: a65 :: a66 :: a67 :: a68 :: a69 :: a70 :: a71 :: a72 :: a73 :: a74 :: a75 :: a76 :: a77 :: a78 :: a79 :: a80 :: a81 :: a82 :: a83 :: a84 :: a85 :: a86 :: a87 :: a88 :: a89 :: a90 :: a91 :: a92 :: a93 :: a94 :: a95 :: a96 :: a97 :: a98 :: a99 :: a100 :: [], ht =>
  obtain ⟨_, t0, t1, t2, t7, t8, t9, t10⟩ := ht
  simp only [List.getElem?_cons_zero, List.getElem?_cons_succ, Option.some.injEq] at t0 t1 t2 t7 t8 t9 t10
  replace t0 := t0.symm; replace t1 := t1.symm; replace t2 := t2.symm; replace t7 := t7.symm; replace t8 := t8.symm; replace t9 := t9.symm; replace t10 := t10.symm
  subst t0 t1 t2 t7 t8 t9 t10
  refine ⟨?tm, ?run, ?sh⟩
  case run =>
    delta tail4
    simp (decide := true) only [note_false, Int.reduceBEq, Int.reduceBNe, x_drawn, l_nil, l_op, l_guard, l_some, l_true, l_false, l_draw, readsA, x_true, x_false, x_seq, x_ops, x_cond, x_skip, x_ret, x_exit, x_block, x_then, x_thenE, x_thenR, x_blockN, x_blockR, x_blockE, s_nil, s_op, s_guard, s_some, s_true, s_false, s_put, s_put0, s_opsR, s_ret, s_norm, aop, ev, evs, List.map_cons, List.map_nil, List.cons_append, List.nil_append, List.append_nil, List.replicate, List.take_succ_cons, List.take_zero, List.take_nil, List.drop_succ_cons, List.drop_zero, List.drop_nil, Nat.zero_add, Nat.add_zero, Nat.reduceAdd, Nat.reduceMul, Nat.reduceLeDiff, Bool.false_eq_true, and_self, List.length_cons, List.length_nil, List.set_cons_zero, List.set_cons_succ, List.getD_cons_zero, List.getD_cons_succ, wantedA, List.getElem?_cons_zero, List.getElem?_cons_succ, q_t, q_f, Bool.not_true, Bool.not_false, b_add, b_sub, b_mul, b_eql, b_neq, b_lss, b_leq, b_gtr, b_geq, b_and, b_or, b_xor, b_quo, b_rem, b_shl, b_shr, unA, Option.map_some, Option.map_none, resA, tupA, Int.reduceLT, not_false_eq_true, not_true_eq_false, decide_true, decide_false, f_bool, c_bool, f_int, c_int, f_str, c_str, f_nilptr, c_nilptr, f_ptr, c_ptr, f_nilsl, c_nilsl, f_slice, c_slice, f_nilmap, c_nilmap, f_map, c_map, f_nilf, c_nilf, f_func, c_func, f_yieldf, c_yieldf, f_nilif, c_nilif, f_iface, c_iface, c_agg, List.all_cons, List.all_nil, Bool.and_true, Bool.true_and, if_true, if_false, ite_true, ite_false, eL, hf, lives20]
    rfl
  case sh => rfl
theorem go4 {h : Heap} {V : AV} {bs : List Int} (hV : BytesAt h V bs) (hf : V.flat = true) (hid : ∀ id o l c e z, V = .slice id o l c e z → id < h.next) (hby : Bytes bs) (hl : bs.length ≤ 1048576) {b len : Nat} {rows : List (List AV)} (hth : ThingsAt h b rows) (hlen : rows.length = len) (by_ : Int) : ∃ h', xcall X1 tab (.fn 4) [V, .slice b 0 len len false 5, .int .u8 by_] h = some (.bool true, h') := by
  obtain ⟨w, H0, r, H1, F, e0, hw, hV0, g0, e1, hv⟩ := start4 hV hf hid hby hl
  have hth0 : ThingsAt H0 b rows := ⟨Nat.lt_of_lt_of_le hth.1 g0.1, g0.get hth.2.1, hth.2.2.1, fun i row hi => by
    obtain ⟨a, q⟩ := hth.2.2.2 i row hi
    exact ⟨a, q.grow g0⟩⟩
  generalize hq : H1.next = q at *
  generalize hwv : AV.slice w 0 bs.length (bs.length + 3) false 1 = wv at *
  have hwf : wv.flat = true := by subst hwv; rfl
  have hVc : V.cells = [V] := by cases V <;> first | rfl | cases hf
  have hT : Sh4 V (.slice b 0 len len false 5) by_ wv r q 0 [V, .slice b 0 len len false 5, .int .u8 by_, undefA, undefA, undefA, .bool false, wv, .ptr r 0, .ptr q 0, .int .i64 0, undefA, undefA, V, wv, wv, .ptr r 0, V, .agg [V, .int .i64 0, .int .i64 0], .ptr q 0, undefA, undefA, undefA, undefA, undefA, undefA, undefA, undefA, undefA, undefA, undefA, undefA, undefA, undefA, undefA, undefA, undefA, undefA, undefA, undefA, undefA, undefA, undefA, undefA, undefA, undefA, undefA, undefA, undefA, undefA, undefA, undefA, undefA, undefA, undefA, undefA, undefA, undefA, undefA, undefA, undefA, undefA, undefA, undefA, undefA, undefA, undefA, undefA, undefA, undefA, undefA, undefA, undefA, undefA, undefA, undefA, undefA, undefA, undefA, undefA, undefA, undefA, undefA, undefA, undefA, undefA, undefA, undefA, undefA, undefA, undefA, undefA, undefA, undefA, undefA, undefA, undefA, undefA, undefA, undefA, undefA] := ⟨rfl, rfl, rfl, rfl, rfl, rfl, rfl, rfl⟩
  obtain ⟨tm1, H2, s', i', e2, s1, hv2⟩ := loop4 hth0 hlen 60 0 _ _ _ (by omega) hT hv
  obtain ⟨tm2, e3, e4⟩ := tail4_spec (hwv ▸ s1) hw hV0 hv2 hf
  refine ⟨H2, ?_⟩
  rw [x_fn rfl (show tab 4 = some ⟨101, [.tmp 6], sf4.body⟩ from rfl), body4_eq]
  simp (decide := true) only [note_false, Int.reduceBEq, Int.reduceBNe, x_drawn, l_nil, l_op, l_guard, l_some, l_true, l_false, l_draw, readsA, x_true, x_false, x_seq, x_ops, x_cond, x_skip, x_ret, x_exit, x_block, x_then, x_thenE, x_thenR, x_blockN, x_blockR, x_blockE, s_nil, s_op, s_guard, s_some, s_true, s_false, s_put, s_put0, s_opsR, s_ret, s_norm, aop, ev, evs, List.map_cons, List.map_nil, List.cons_append, List.nil_append, List.append_nil, List.replicate, List.take_succ_cons, List.take_zero, List.take_nil, List.drop_succ_cons, List.drop_zero, List.drop_nil, Nat.zero_add, Nat.add_zero, Nat.reduceAdd, Nat.reduceMul, Nat.reduceLeDiff, Bool.false_eq_true, and_self, List.length_cons, List.length_nil, List.set_cons_zero, List.set_cons_succ, List.getD_cons_zero, List.getD_cons_succ, wantedA, List.getElem?_cons_zero, List.getElem?_cons_succ, q_t, q_f, Bool.not_true, Bool.not_false, b_add, b_sub, b_mul, b_eql, b_neq, b_lss, b_leq, b_gtr, b_geq, b_and, b_or, b_xor, b_quo, b_rem, b_shl, b_shr, unA, Option.map_some, Option.map_none, resA, tupA, Int.reduceLT, not_false_eq_true, not_true_eq_false, decide_true, decide_false, f_bool, c_bool, f_int, c_int, f_str, c_str, f_nilptr, c_nilptr, f_ptr, c_ptr, f_nilsl, c_nilsl, f_slice, c_slice, f_nilmap, c_nilmap, f_map, c_map, f_nilf, c_nilf, f_func, c_func, f_yieldf, c_yieldf, f_nilif, c_nilif, f_iface, c_iface, c_agg, List.all_cons, List.all_nil, Bool.and_true, Bool.true_and, if_true, if_false, ite_true, ite_false, e0, e1, hwf, hf, hVc, hq, fillA, splice, e2, e3, e4]
theorem go4nil {h : Heap} {V : AV} {bs : List Int} (hV : BytesAt h V bs) (hf : V.flat = true) (hid : ∀ id o l c e z, V = .slice id o l c e z → id < h.next) (hby : Bytes bs) (hl : bs.length ≤ 1048576) (by_ : Int) : ∃ h', xcall X1 tab (.fn 4) [V, .nilsl, .int .u8 by_] h = some (.bool true, h') := by
  obtain ⟨w, H0, r, H1, F, e0, hw, hV0, g0, e1, hv⟩ := start4 hV hf hid hby hl
  generalize hq : H1.next = q at *
  generalize hwv : AV.slice w 0 bs.length (bs.length + 3) false 1 = wv at *
  have hwf : wv.flat = true := by subst hwv; rfl
  have hVc : V.cells = [V] := by cases V <;> first | rfl | cases hf
  have key : ∃ tm', xcode X1 tab 4 none (.loop body4) [V, .nilsl, .int .u8 by_, undefA, undefA, undefA, .bool false, wv, .ptr r 0, .ptr q 0, .int .i64 0, undefA, undefA, V, wv, wv, .ptr r 0, V, .agg [V, .int .i64 0, .int .i64 0], .ptr q 0, undefA, undefA, undefA, undefA, undefA, undefA, undefA, undefA, undefA, undefA, undefA, undefA, undefA, undefA, undefA, undefA, undefA, undefA, undefA, undefA, undefA, undefA, undefA, undefA, undefA, undefA, undefA, undefA, undefA, undefA, undefA, undefA, undefA, undefA, undefA, undefA, undefA, undefA, undefA, undefA, undefA, undefA, undefA, undefA, undefA, undefA, undefA, undefA, undefA, undefA, undefA, undefA, undefA, undefA, undefA, undefA, undefA, undefA, undefA, undefA, undefA, undefA, undefA, undefA, undefA, undefA, undefA, undefA, undefA, undefA, undefA, undefA, undefA, undefA, undefA, undefA, undefA, undefA, undefA, undefA, undefA] (H1.alloc (.cells [V, .int .i64 0, .int .i64 0] false)) = some (.exit 0, tm', H1.alloc (.cells [V, .int .i64 0, .int .i64 0] false)) ∧ Sh4 V .nilsl by_ wv r q 0 tm' := by
    refine ⟨?tm, ?run, ?sh⟩
    case run =>
      rw [show ∀ tm h, xcode X1 tab 4 none (.loop body4) tm h = thenX X1 tab 4 none (.loop body4) (xcode X1 tab 4 none body4 tm h) from fun _ _ => x_loop]
      delta body4
      simp (decide := true) only [note_false, Int.reduceBEq, Int.reduceBNe, x_drawn, l_nil, l_op, l_guard, l_some, l_true, l_false, l_draw, readsA, x_true, x_false, x_seq, x_ops, x_cond, x_skip, x_ret, x_exit, x_block, x_then, x_thenE, x_thenR, x_blockN, x_blockR, x_blockE, s_nil, s_op, s_guard, s_some, s_true, s_false, s_put, s_put0, s_opsR, s_ret, s_norm, aop, ev, evs, List.map_cons, List.map_nil, List.cons_append, List.nil_append, List.append_nil, List.replicate, List.take_succ_cons, List.take_zero, List.take_nil, List.drop_succ_cons, List.drop_zero, List.drop_nil, Nat.zero_add, Nat.add_zero, Nat.reduceAdd, Nat.reduceMul, Nat.reduceLeDiff, Bool.false_eq_true, and_self, List.length_cons, List.length_nil, List.set_cons_zero, List.set_cons_succ, List.getD_cons_zero, List.getD_cons_succ, wantedA, List.getElem?_cons_zero, List.getElem?_cons_succ, q_t, q_f, Bool.not_true, Bool.not_false, b_add, b_sub, b_mul, b_eql, b_neq, b_lss, b_leq, b_gtr, b_geq, b_and, b_or, b_xor, b_quo, b_rem, b_shl, b_shr, unA, Option.map_some, Option.map_none, resA, tupA, Int.reduceLT, not_false_eq_true, not_true_eq_false, decide_true, decide_false, f_bool, c_bool, f_int, c_int, f_str, c_str, f_nilptr, c_nilptr, f_ptr, c_ptr, f_nilsl, c_nilsl, f_slice, c_slice, f_nilmap, c_nilmap, f_map, c_map, f_nilf, c_nilf, f_func, c_func, f_yieldf, c_yieldf, f_nilif, c_nilif, f_iface, c_iface, c_agg, List.all_cons, List.all_nil, Bool.and_true, Bool.true_and, if_true, if_false, ite_true, ite_false]
      rfl
    case sh => exact ⟨rfl, rfl, rfl, rfl, rfl, rfl, rfl, rfl⟩
  obtain ⟨tm1, e2, s1⟩ := key
  obtain ⟨tm2, e3, e4⟩ := tail4_spec (hwv ▸ s1) hw hV0 hv hf
  refine ⟨H1.alloc (.cells [V, .int .i64 0, .int .i64 0] false), ?_⟩
  rw [x_fn rfl (show tab 4 = some ⟨101, [.tmp 6], sf4.body⟩ from rfl), body4_eq]
  simp (decide := true) only [note_false, Int.reduceBEq, Int.reduceBNe, x_drawn, l_nil, l_op, l_guard, l_some, l_true, l_false, l_draw, readsA, x_true, x_false, x_seq, x_ops, x_cond, x_skip, x_ret, x_exit, x_block, x_then, x_thenE, x_thenR, x_blockN, x_blockR, x_blockE, s_nil, s_op, s_guard, s_some, s_true, s_false, s_put, s_put0, s_opsR, s_ret, s_norm, aop, ev, evs, List.map_cons, List.map_nil, List.cons_append, List.nil_append, List.append_nil, List.replicate, List.take_succ_cons, List.take_zero, List.take_nil, List.drop_succ_cons, List.drop_zero, List.drop_nil, Nat.zero_add, Nat.add_zero, Nat.reduceAdd, Nat.reduceMul, Nat.reduceLeDiff, Bool.false_eq_true, and_self, List.length_cons, List.length_nil, List.set_cons_zero, List.set_cons_succ, List.getD_cons_zero, List.getD_cons_succ, wantedA, List.getElem?_cons_zero, List.getElem?_cons_succ, q_t, q_f, Bool.not_true, Bool.not_false, b_add, b_sub, b_mul, b_eql, b_neq, b_lss, b_leq, b_gtr, b_geq, b_and, b_or, b_xor, b_quo, b_rem, b_shl, b_shr, unA, Option.map_some, Option.map_none, resA, tupA, Int.reduceLT, not_false_eq_true, not_true_eq_false, decide_true, decide_false, f_bool, c_bool, f_int, c_int, f_str, c_str, f_nilptr, c_nilptr, f_ptr, c_ptr, f_nilsl, c_nilsl, f_slice, c_slice, f_nilmap, c_nilmap, f_map, c_map, f_nilf, c_nilf, f_func, c_func, f_yieldf, c_yieldf, f_nilif, c_nilif, f_iface, c_iface, c_agg, List.all_cons, List.all_nil, Bool.and_true, Bool.true_and, if_true, if_false, ite_true, ite_false, e0, e1, hwf, hf, hVc, hq, fillA, splice, e2, e3, e4]

/-- The bytes that are handed in. -/
theorem arg_bytes {h h' : Heap} {v : AV} (hx : argX Try.prog 1048576 5 24 h v h') : ∃ bs, BytesAt h' v bs ∧ v.flat = true ∧ (∀ id o l c e z, v = .slice id o l c e z → id < h'.next) ∧ Bytes bs ∧ bs.length ≤ 1048576 ∧ Grow h h' := by
  rcases argX_slice Try.underlying24 hx with ⟨rfl, rfl⟩ | ⟨len, ys, h7, e7, hN, _, rfl, rfl⟩
  · exact ⟨[], .inl ⟨rfl, rfl⟩, rfl, fun _ _ _ _ _ _ e => (by cases e), (fun x hx => by cases hx), by simp, .refl _⟩
  · obtain ⟨rfl, bs, hbl, hwf, e8⟩ := listX_ints Try.underlying5 e7
    have hc : Try.prog.cellsOf 5 = 1 := by kernel_rfl
    subst hbl
    refine ⟨bs, .inr ⟨_, 0, bs.length, false, ys.flatten, true, by rw [hc], Nat.le_refl _, by rw [Heap.get_alloc, if_pos rfl], by rw [e8]; simp, by rw [e8]; simp [ints, List.take_of_length_le]⟩, rfl, fun id o l c e z hv => ?_, fun c hc => ?_, hN, Grow.alloc _ _⟩
    · cases hv; simp
    · simpa [wfInt, IntKind.signed, IntKind.bits, IntKind.min, IntKind.max] using hwf c hc
theorem run4 : ∀ h xs, argsT Try.prog 1048576 h 5 Try.f4.params.toList xs → argsX Try.prog 1048576 5 Try.f4.params.toList emptyHeap xs h →
    ∃ n h', acall X1 tab n (.fn 4) xs h = some (.bool true, h') ∨ (AV.bares xs = true ∧ acall X1 tab n (.fn 4) xs emptyHeap = some (.bool true, h')) := by
  intro h xs _ hx
  rw [Try.params4] at hx
  obtain ⟨V, _, h1, rfl, hv, hx⟩ := argsX_cons hx
  obtain ⟨l, _, h2, rfl, hl, hx⟩ := argsX_cons hx
  obtain ⟨y, _, h3, rfl, hy, hx⟩ := argsX_cons hx
  obtain ⟨rfl, rfl⟩ := argsX_nil hx
  obtain ⟨by_, rfl, _, rfl⟩ := argX_int Try.underlying5 hy
  obtain ⟨bs, b1, b2, b3, b4, b5, _⟩ := arg_bytes hv
  rcases argX_slice Try.underlying22 hl with ⟨rfl, rfl⟩ | ⟨len, ass, h3, e1, _, _, rfl, rfl⟩
  · obtain ⟨h', e⟩ := go4nil b1 b2 b3 b4 b5 by_
    exact ranX e
  · obtain ⟨r1, r2, r3⟩ := thing_rows len e1
    have hc : Try.prog.cellsOf 29 = 5 := by kernel_rfl
    rw [hc]
    have ha : ThingsAt (h3.alloc (.cells ass.flatten true)) h3.next ass :=
      ⟨by simp, by rw [Heap.get_alloc, if_pos rfl], fun r hr => (r3 r hr).1, fun i row hi => by
        obtain ⟨a, q⟩ := (r3 row (List.mem_of_getElem? hi)).2
        exact ⟨a, q.grow (Grow.alloc _ _)⟩⟩
    have g := r2.trans (Grow.alloc h3 (.cells ass.flatten true))
    obtain ⟨h', e⟩ := go4 (b1.grow g) b2 (fun id o l c e z hv => Nat.lt_of_lt_of_le (b3 id o l c e z hv) g.1) b4 b5 ha r1 by_
    exact ranX e
end Go.Proofs.Ytndcokalnpnbgaa.Ya

