/-
  Xdr, law XdrBack: the rest.
-/
import Derived.Test.YtndcokalnpnbgaaYaXdrPure
namespace Go.Proofs.Ytndcokalnpnbgaa.Ya
open Go.Ya
set_option linter.unusedVariables false
set_option linter.unusedSimpArgs false
set_option maxRecDepth 100000
set_option maxHeartbeats 8000000

theorem tail5_spec {h0 h : Heap} {w : Nat} {cut : Int} {L : AV} {ts : List Thing} {tm : List AV} (ht : tm.length = 112 ∧ tm[0]? = some L ∧ tm[1]? = some (.int .i64 cut) ∧ tm[5]? = some (.ptr w 0)) (hv : Inv5 h0 h w (encs ts)) (hl : (encs ts).length ≤ 62916000) (hgood : ∀ a ∈ ts, Good a)
    (hgo : ∀ (r : Nat) (s : List Int × Int) (F : Nat → Prop) (H : Heap), Inv33 h0 H r s F → ∃ H', xcall X1 tab (.fn 33) [.ptr r 0, L] H = some (.bool (goesP ts s).1, H') ∧ Inv33 h0 H' r (goesP ts s).2 F ∧ Stp H H' F F) :
    ∃ tm' h', xcode X1 tab 5 none tail5 tm h = some (.ret, tm', h') ∧ tm'.getD 4 undefA = .bool true := by
  obtain ⟨F, f, hlo, hx, hsame⟩ := hv
  have hby := encs_bytes hgood
  have hmd := encs_mod ts
  have hgoal := goesP_enc ts [] hgood
  have hcutP := goesP_cut ts
  rw [List.append_nil] at hgoal
  generalize hbs : encs ts = bs at *
  obtain ⟨bv, H1, e17, g1, nb⟩ := W.bare_spec f (by omega)
  replace e17 : xcall X1 tab (.fn 17) [.ptr w 0] h = some (bv, H1) := e17
  obtain ⟨r, H2, F2, e21, f2, g2, hF2⟩ := R.newRd_spec nb.at hby (by omega)
  replace e21 : xcall X1 tab (.fn 21) [bv] H1 = some (.ptr r 0, H2) := e21
  have q1 := g1.1
  have q2 := g2.1
  have hv2 : Inv33 h0 H2 r (bs, 0) F2 := ⟨f2, fun j hj => by have := hF2 j hj; omega, by omega, fun j hj => by rw [g2.2 j (by omega), g1.2 j (by omega), hsame j hj]⟩
  obtain ⟨H3, e33, hv3, s3⟩ := hgo r (bs, 0) F2 H2 hv2
  rw [hgoal] at e33 hv3
  have e31 := R.rdEnd_spec hv3.1
  replace e31 : xcall X1 tab (.fn 31) [.ptr r 0] H3 = some (.int .i64 0, H3) := e31
  have hfb : bv.flat = true := by rcases nb with ⟨rfl, _⟩ | ⟨_, _, _, rfl, _⟩ <;> rfl
  have hmod : ((bs.length : Int).tmod 4 != 0) = false := by
    have := Int.tmod_eq_emod_of_nonneg (b := 4) (show (0 : Int) ≤ bs.length by omega)
    rw [this]
    have : (bs.length : Int) % 4 = 0 := by omega
    rw [this]; rfl
  have hmod0 : ((0 : Int).tmod 4 != 0) = false := rfl
  by_cases hc1 : cut < 0
  · rcases nb with ⟨rfl, hnil⟩ | ⟨id, cap, ex, rfl, k1, k2, k3, k4, k5⟩
    · rw [hnil] at hmod
      match tm, ht with
      | a0 :: a1 :: a2 :: a3 :: a4 :: a5 :: a6 :: a7 :: a8 :: a9 :: a10 :: a11 :: a12 :: a13 :: a14 :: a15 :: a16 :: a17 :: a18 :: a19 :: a20 :: a21 :: a22 :: a23 :: a24 :: a25 :: a26 :: a27 :: a28 :: a29 :: a30 :: a31 :: a32 :: a33 :: a34 :: a35 :: a36 :: a37 :: a38 :: a39 :: a40 :: a41 :: a42 :: a43 :: a44 :: a45 :: a46 :: a47 :: a48 :: a49 :: a50 :: a51 :: a52 :: a53 :: a54 :: a55 :: a56 :: a57 :: a58 :: a59 :: a60 :: a61 :: a62 :: a63 :: a64 :: a65 :: a66 :: a67 :: a68 :: a69 :: a70 :: a71 :: a72 :: a73 :: a74 :: a75 :: a76 :: a77 :: a78 :: a79 :: a80 :: a81 :: a82 :: a83 :: a84 :: a85 :: a86 :: a87 :: a88 :: a89 :: a90 :: a91 :: a92 :: a93 :: a94 :: a95 :: a96 :: a97 :: a98 :: a99 :: a100 :: a101 :: a102 :: a103 :: a104 :: a105 :: a106 :: a107 :: a108 :: a109 :: a110 :: a111 :: [], ht =>
      obtain ⟨_, t0, t1, t5⟩ := ht
      simp only [List.getElem?_cons_zero, List.getElem?_cons_succ, Option.some.injEq] at t0 t1 t5
      replace t0 := t0.symm; replace t1 := t1.symm; replace t5 := t5.symm
      subst t0 t1 t5
      refine ⟨?tmA, H3, ?runA, ?shA⟩
      case runA =>
        delta tail5
        simp (decide := true) only [note_false, Int.reduceBEq, Int.reduceBNe, x_drawn, l_nil, l_op, l_guard, l_some, l_true, l_false, l_draw, readsA, x_true, x_false, x_seq, x_ops, x_cond, x_skip, x_ret, x_exit, x_block, x_then, x_thenE, x_thenR, x_blockN, x_blockR, x_blockE, s_nil, s_op, s_guard, s_some, s_true, s_false, s_put, s_put0, s_opsR, s_ret, s_norm, aop, ev, evs, List.map_cons, List.map_nil, List.cons_append, List.nil_append, List.append_nil, List.replicate, List.take_succ_cons, List.take_zero, List.take_nil, List.drop_succ_cons, List.drop_zero, List.drop_nil, Nat.zero_add, Nat.add_zero, Nat.reduceAdd, Nat.reduceMul, Nat.reduceLeDiff, Bool.false_eq_true, and_self, List.length_cons, List.length_nil, List.set_cons_zero, List.set_cons_succ, List.getD_cons_zero, List.getD_cons_succ, wantedA, List.getElem?_cons_zero, List.getElem?_cons_succ, q_t, q_f, Bool.not_true, Bool.not_false, b_add, b_sub, b_mul, b_eql, b_neq, b_lss, b_leq, b_gtr, b_geq, b_and, b_or, b_xor, b_quo, b_rem, b_shl, b_shr, unA, Option.map_some, Option.map_none, resA, tupA, Int.reduceLT, not_false_eq_true, not_true_eq_false, decide_true, decide_false, f_bool, c_bool, f_int, c_int, f_str, c_str, f_nilptr, c_nilptr, f_ptr, c_ptr, f_nilsl, c_nilsl, f_slice, c_slice, f_nilmap, c_nilmap, f_map, c_map, f_nilf, c_nilf, f_func, c_func, f_yieldf, c_yieldf, f_nilif, c_nilif, f_iface, c_iface, c_agg, List.all_cons, List.all_nil, Bool.and_true, Bool.true_and, if_true, if_false, ite_true, ite_false, e17, e21, e33, e31, lives20, hc1, hmod0, Int.ofNat_zero]
        rfl
      case shA => rfl
    · skip
      match tm, ht with
      | a0 :: a1 :: a2 :: a3 :: a4 :: a5 :: a6 :: a7 :: a8 :: a9 :: a10 :: a11 :: a12 :: a13 :: a14 :: a15 :: a16 :: a17 :: a18 :: a19 :: a20 :: a21 :: a22 :: a23 :: a24 :: a25 :: a26 :: a27 :: a28 :: a29 :: a30 :: a31 :: a32 :: a33 :: a34 :: a35 :: a36 :: a37 :: a38 :: a39 :: a40 :: a41 :: a42 :: a43 :: a44 :: a45 :: a46 :: a47 :: a48 :: a49 :: a50 :: a51 :: a52 :: a53 :: a54 :: a55 :: a56 :: a57 :: a58 :: a59 :: a60 :: a61 :: a62 :: a63 :: a64 :: a65 :: a66 :: a67 :: a68 :: a69 :: a70 :: a71 :: a72 :: a73 :: a74 :: a75 :: a76 :: a77 :: a78 :: a79 :: a80 :: a81 :: a82 :: a83 :: a84 :: a85 :: a86 :: a87 :: a88 :: a89 :: a90 :: a91 :: a92 :: a93 :: a94 :: a95 :: a96 :: a97 :: a98 :: a99 :: a100 :: a101 :: a102 :: a103 :: a104 :: a105 :: a106 :: a107 :: a108 :: a109 :: a110 :: a111 :: [], ht =>
      obtain ⟨_, t0, t1, t5⟩ := ht
      simp only [List.getElem?_cons_zero, List.getElem?_cons_succ, Option.some.injEq] at t0 t1 t5
      replace t0 := t0.symm; replace t1 := t1.symm; replace t5 := t5.symm
      subst t0 t1 t5
      refine ⟨?tmB, H3, ?runB, ?shB⟩
      case runB =>
        delta tail5
        simp (decide := true) only [note_false, Int.reduceBEq, Int.reduceBNe, x_drawn, l_nil, l_op, l_guard, l_some, l_true, l_false, l_draw, readsA, x_true, x_false, x_seq, x_ops, x_cond, x_skip, x_ret, x_exit, x_block, x_then, x_thenE, x_thenR, x_blockN, x_blockR, x_blockE, s_nil, s_op, s_guard, s_some, s_true, s_false, s_put, s_put0, s_opsR, s_ret, s_norm, aop, ev, evs, List.map_cons, List.map_nil, List.cons_append, List.nil_append, List.append_nil, List.replicate, List.take_succ_cons, List.take_zero, List.take_nil, List.drop_succ_cons, List.drop_zero, List.drop_nil, Nat.zero_add, Nat.add_zero, Nat.reduceAdd, Nat.reduceMul, Nat.reduceLeDiff, Bool.false_eq_true, and_self, List.length_cons, List.length_nil, List.set_cons_zero, List.set_cons_succ, List.getD_cons_zero, List.getD_cons_succ, wantedA, List.getElem?_cons_zero, List.getElem?_cons_succ, q_t, q_f, Bool.not_true, Bool.not_false, b_add, b_sub, b_mul, b_eql, b_neq, b_lss, b_leq, b_gtr, b_geq, b_and, b_or, b_xor, b_quo, b_rem, b_shl, b_shr, unA, Option.map_some, Option.map_none, resA, tupA, Int.reduceLT, not_false_eq_true, not_true_eq_false, decide_true, decide_false, f_bool, c_bool, f_int, c_int, f_str, c_str, f_nilptr, c_nilptr, f_ptr, c_ptr, f_nilsl, c_nilsl, f_slice, c_slice, f_nilmap, c_nilmap, f_map, c_map, f_nilf, c_nilf, f_func, c_func, f_yieldf, c_yieldf, f_nilif, c_nilif, f_iface, c_iface, c_agg, List.all_cons, List.all_nil, Bool.and_true, Bool.true_and, if_true, if_false, ite_true, ite_false, e17, e21, e33, e31, lives20, hc1, hmod]
        rfl
      case shB => rfl
  · by_cases hc2 : cut ≥ bs.length
    · rcases nb with ⟨rfl, hnil⟩ | ⟨id, cap, ex, rfl, k1, k2, k3, k4, k5⟩
      · rw [hnil] at hc2
        have hc20 : cut ≥ 0 := by omega
        match tm, ht with
        | a0 :: a1 :: a2 :: a3 :: a4 :: a5 :: a6 :: a7 :: a8 :: a9 :: a10 :: a11 :: a12 :: a13 :: a14 :: a15 :: a16 :: a17 :: a18 :: a19 :: a20 :: a21 :: a22 :: a23 :: a24 :: a25 :: a26 :: a27 :: a28 :: a29 :: a30 :: a31 :: a32 :: a33 :: a34 :: a35 :: a36 :: a37 :: a38 :: a39 :: a40 :: a41 :: a42 :: a43 :: a44 :: a45 :: a46 :: a47 :: a48 :: a49 :: a50 :: a51 :: a52 :: a53 :: a54 :: a55 :: a56 :: a57 :: a58 :: a59 :: a60 :: a61 :: a62 :: a63 :: a64 :: a65 :: a66 :: a67 :: a68 :: a69 :: a70 :: a71 :: a72 :: a73 :: a74 :: a75 :: a76 :: a77 :: a78 :: a79 :: a80 :: a81 :: a82 :: a83 :: a84 :: a85 :: a86 :: a87 :: a88 :: a89 :: a90 :: a91 :: a92 :: a93 :: a94 :: a95 :: a96 :: a97 :: a98 :: a99 :: a100 :: a101 :: a102 :: a103 :: a104 :: a105 :: a106 :: a107 :: a108 :: a109 :: a110 :: a111 :: [], ht =>
        obtain ⟨_, t0, t1, t5⟩ := ht
        simp only [List.getElem?_cons_zero, List.getElem?_cons_succ, Option.some.injEq] at t0 t1 t5
        replace t0 := t0.symm; replace t1 := t1.symm; replace t5 := t5.symm
        subst t0 t1 t5
        refine ⟨?tmC, H3, ?runC, ?shC⟩
        case runC =>
          delta tail5
          simp (decide := true) only [note_false, Int.reduceBEq, Int.reduceBNe, x_drawn, l_nil, l_op, l_guard, l_some, l_true, l_false, l_draw, readsA, x_true, x_false, x_seq, x_ops, x_cond, x_skip, x_ret, x_exit, x_block, x_then, x_thenE, x_thenR, x_blockN, x_blockR, x_blockE, s_nil, s_op, s_guard, s_some, s_true, s_false, s_put, s_put0, s_opsR, s_ret, s_norm, aop, ev, evs, List.map_cons, List.map_nil, List.cons_append, List.nil_append, List.append_nil, List.replicate, List.take_succ_cons, List.take_zero, List.take_nil, List.drop_succ_cons, List.drop_zero, List.drop_nil, Nat.zero_add, Nat.add_zero, Nat.reduceAdd, Nat.reduceMul, Nat.reduceLeDiff, Bool.false_eq_true, and_self, List.length_cons, List.length_nil, List.set_cons_zero, List.set_cons_succ, List.getD_cons_zero, List.getD_cons_succ, wantedA, List.getElem?_cons_zero, List.getElem?_cons_succ, q_t, q_f, Bool.not_true, Bool.not_false, b_add, b_sub, b_mul, b_eql, b_neq, b_lss, b_leq, b_gtr, b_geq, b_and, b_or, b_xor, b_quo, b_rem, b_shl, b_shr, unA, Option.map_some, Option.map_none, resA, tupA, Int.reduceLT, not_false_eq_true, not_true_eq_false, decide_true, decide_false, f_bool, c_bool, f_int, c_int, f_str, c_str, f_nilptr, c_nilptr, f_ptr, c_ptr, f_nilsl, c_nilsl, f_slice, c_slice, f_nilmap, c_nilmap, f_map, c_map, f_nilf, c_nilf, f_func, c_func, f_yieldf, c_yieldf, f_nilif, c_nilif, f_iface, c_iface, c_agg, List.all_cons, List.all_nil, Bool.and_true, Bool.true_and, if_true, if_false, ite_true, ite_false, e17, e21, e33, e31, lives20, hc1, hc20, hmod0, Int.ofNat_zero]
          rfl
        case shC => rfl
      · skip
        match tm, ht with
        | a0 :: a1 :: a2 :: a3 :: a4 :: a5 :: a6 :: a7 :: a8 :: a9 :: a10 :: a11 :: a12 :: a13 :: a14 :: a15 :: a16 :: a17 :: a18 :: a19 :: a20 :: a21 :: a22 :: a23 :: a24 :: a25 :: a26 :: a27 :: a28 :: a29 :: a30 :: a31 :: a32 :: a33 :: a34 :: a35 :: a36 :: a37 :: a38 :: a39 :: a40 :: a41 :: a42 :: a43 :: a44 :: a45 :: a46 :: a47 :: a48 :: a49 :: a50 :: a51 :: a52 :: a53 :: a54 :: a55 :: a56 :: a57 :: a58 :: a59 :: a60 :: a61 :: a62 :: a63 :: a64 :: a65 :: a66 :: a67 :: a68 :: a69 :: a70 :: a71 :: a72 :: a73 :: a74 :: a75 :: a76 :: a77 :: a78 :: a79 :: a80 :: a81 :: a82 :: a83 :: a84 :: a85 :: a86 :: a87 :: a88 :: a89 :: a90 :: a91 :: a92 :: a93 :: a94 :: a95 :: a96 :: a97 :: a98 :: a99 :: a100 :: a101 :: a102 :: a103 :: a104 :: a105 :: a106 :: a107 :: a108 :: a109 :: a110 :: a111 :: [], ht =>
        obtain ⟨_, t0, t1, t5⟩ := ht
        simp only [List.getElem?_cons_zero, List.getElem?_cons_succ, Option.some.injEq] at t0 t1 t5
        replace t0 := t0.symm; replace t1 := t1.symm; replace t5 := t5.symm
        subst t0 t1 t5
        refine ⟨?tmD, H3, ?runD, ?shD⟩
        case runD =>
          delta tail5
          simp (decide := true) only [note_false, Int.reduceBEq, Int.reduceBNe, x_drawn, l_nil, l_op, l_guard, l_some, l_true, l_false, l_draw, readsA, x_true, x_false, x_seq, x_ops, x_cond, x_skip, x_ret, x_exit, x_block, x_then, x_thenE, x_thenR, x_blockN, x_blockR, x_blockE, s_nil, s_op, s_guard, s_some, s_true, s_false, s_put, s_put0, s_opsR, s_ret, s_norm, aop, ev, evs, List.map_cons, List.map_nil, List.cons_append, List.nil_append, List.append_nil, List.replicate, List.take_succ_cons, List.take_zero, List.take_nil, List.drop_succ_cons, List.drop_zero, List.drop_nil, Nat.zero_add, Nat.add_zero, Nat.reduceAdd, Nat.reduceMul, Nat.reduceLeDiff, Bool.false_eq_true, and_self, List.length_cons, List.length_nil, List.set_cons_zero, List.set_cons_succ, List.getD_cons_zero, List.getD_cons_succ, wantedA, List.getElem?_cons_zero, List.getElem?_cons_succ, q_t, q_f, Bool.not_true, Bool.not_false, b_add, b_sub, b_mul, b_eql, b_neq, b_lss, b_leq, b_gtr, b_geq, b_and, b_or, b_xor, b_quo, b_rem, b_shl, b_shr, unA, Option.map_some, Option.map_none, resA, tupA, Int.reduceLT, not_false_eq_true, not_true_eq_false, decide_true, decide_false, f_bool, c_bool, f_int, c_int, f_str, c_str, f_nilptr, c_nilptr, f_ptr, c_ptr, f_nilsl, c_nilsl, f_slice, c_slice, f_nilmap, c_nilmap, f_map, c_map, f_nilf, c_nilf, f_func, c_func, f_yieldf, c_yieldf, f_nilif, c_nilif, f_iface, c_iface, c_agg, List.all_cons, List.all_nil, Bool.and_true, Bool.true_and, if_true, if_false, ite_true, ite_false, e17, e21, e33, e31, lives20, hc1, hc2, hmod]
          rfl
        case shD => rfl
    · rcases nb with ⟨rfl, hnil⟩ | ⟨id, cap, ex, rfl, k1, k2, k3, k4, k5⟩
      · rw [hnil] at hc2; simp at hc2; omega
      · obtain ⟨c, rfl⟩ : ∃ c : Nat, cut = c := ⟨cut.toNat, by omega⟩
        have hcl : c < bs.length := by omega
        have hid := Heap.lt_of_get k4
        have hk3 : H3.get id = some (.cells (ints bs) false) := by
          rw [s3.2.1 id (by omega) (fun e => by have := hF2 id e; omega), g2.2 id hid]; exact k4
        have hsl : sliceA 1 (.slice id 0 bs.length cap ex 1) none (some (.int .i64 (c : Nat))) none = some (.slice id 0 c cap ex 1) := by
          have := bd_h (k' := .i64) (len := bs.length) (cap := cap) (j := c) (by omega)
          simp only [sliceA, this, if_true, Nat.zero_mul, Nat.add_zero, Nat.sub_zero]
          simp
        have hlen : (bs.take c).length = c := by simp; omega
        have hbt : BytesAt H3 (.slice id 0 c cap ex 1) (bs.take c) := .inr ⟨id, 0, cap, ex, _, _, by rw [hlen], by rw [hlen]; omega, hk3, by rw [hlen]; simp; omega, by rw [hlen]; simp [ints, List.map_take]⟩
        obtain ⟨x, H4, F4, e21b, f4, g4, hF4⟩ := R.newRd_spec hbt (fun z hz => hby z (List.mem_of_mem_take hz)) (by rw [hlen]; omega)
        replace e21b : xcall X1 tab (.fn 21) [.slice id 0 c cap ex 1] H3 = some (.ptr x 0, H4) := e21b
        have q3 := s3.1
        have q4 := g4.1
        have hv4 : Inv33 h0 H4 x (bs.take c, 0) F4 := ⟨f4, fun j hj => by have := hF4 j hj; omega, by omega, fun j hj => by rw [g4.2 j (by omega)]; exact hv3.2.2.2 j hj⟩
        obtain ⟨H5, e33b, hv5, s5⟩ := hgo x (bs.take c, 0) F4 H4 hv4
        obtain ⟨c1, c2⟩ := hcutP c hgood hcl
        rw [c1] at e33b
        have e30 := R.rdError_spec hv5.1
        have e31b := R.rdEnd_spec hv5.1
        have hend : endE (goesP ts (bs.take c, 0)).2 = 4 := by unfold endE; rw [if_neg (by rw [c2]; simp)]; exact c2
        rw [c2] at e30
        rw [hend] at e31b
        replace e30 : xcall X1 tab (.fn 30) [.ptr x 0] H5 = some (.int .i64 4, H5) := e30
        replace e31b : xcall X1 tab (.fn 31) [.ptr x 0] H5 = some (.int .i64 4, H5) := e31b
        match tm, ht with
        | a0 :: a1 :: a2 :: a3 :: a4 :: a5 :: a6 :: a7 :: a8 :: a9 :: a10 :: a11 :: a12 :: a13 :: a14 :: a15 :: a16 :: a17 :: a18 :: a19 :: a20 :: a21 :: a22 :: a23 :: a24 :: a25 :: a26 :: a27 :: a28 :: a29 :: a30 :: a31 :: a32 :: a33 :: a34 :: a35 :: a36 :: a37 :: a38 :: a39 :: a40 :: a41 :: a42 :: a43 :: a44 :: a45 :: a46 :: a47 :: a48 :: a49 :: a50 :: a51 :: a52 :: a53 :: a54 :: a55 :: a56 :: a57 :: a58 :: a59 :: a60 :: a61 :: a62 :: a63 :: a64 :: a65 :: a66 :: a67 :: a68 :: a69 :: a70 :: a71 :: a72 :: a73 :: a74 :: a75 :: a76 :: a77 :: a78 :: a79 :: a80 :: a81 :: a82 :: a83 :: a84 :: a85 :: a86 :: a87 :: a88 :: a89 :: a90 :: a91 :: a92 :: a93 :: a94 :: a95 :: a96 :: a97 :: a98 :: a99 :: a100 :: a101 :: a102 :: a103 :: a104 :: a105 :: a106 :: a107 :: a108 :: a109 :: a110 :: a111 :: [], ht =>
        obtain ⟨_, t0, t1, t5⟩ := ht
        simp only [List.getElem?_cons_zero, List.getElem?_cons_succ, Option.some.injEq] at t0 t1 t5
        replace t0 := t0.symm; replace t1 := t1.symm; replace t5 := t5.symm
        subst t0 t1 t5
        refine ⟨?tmE, H5, ?runE, ?shE⟩
        case runE =>
          delta tail5
          simp (decide := true) only [note_false, Int.reduceBEq, Int.reduceBNe, x_drawn, l_nil, l_op, l_guard, l_some, l_true, l_false, l_draw, readsA, x_true, x_false, x_seq, x_ops, x_cond, x_skip, x_ret, x_exit, x_block, x_then, x_thenE, x_thenR, x_blockN, x_blockR, x_blockE, s_nil, s_op, s_guard, s_some, s_true, s_false, s_put, s_put0, s_opsR, s_ret, s_norm, aop, ev, evs, List.map_cons, List.map_nil, List.cons_append, List.nil_append, List.append_nil, List.replicate, List.take_succ_cons, List.take_zero, List.take_nil, List.drop_succ_cons, List.drop_zero, List.drop_nil, Nat.zero_add, Nat.add_zero, Nat.reduceAdd, Nat.reduceMul, Nat.reduceLeDiff, Bool.false_eq_true, and_self, List.length_cons, List.length_nil, List.set_cons_zero, List.set_cons_succ, List.getD_cons_zero, List.getD_cons_succ, wantedA, List.getElem?_cons_zero, List.getElem?_cons_succ, q_t, q_f, Bool.not_true, Bool.not_false, b_add, b_sub, b_mul, b_eql, b_neq, b_lss, b_leq, b_gtr, b_geq, b_and, b_or, b_xor, b_quo, b_rem, b_shl, b_shr, unA, Option.map_some, Option.map_none, resA, tupA, Int.reduceLT, not_false_eq_true, not_true_eq_false, decide_true, decide_false, f_bool, c_bool, f_int, c_int, f_str, c_str, f_nilptr, c_nilptr, f_ptr, c_ptr, f_nilsl, c_nilsl, f_slice, c_slice, f_nilmap, c_nilmap, f_map, c_map, f_nilf, c_nilf, f_func, c_func, f_yieldf, c_yieldf, f_nilif, c_nilif, f_iface, c_iface, c_agg, List.all_cons, List.all_nil, Bool.and_true, Bool.true_and, if_true, if_false, ite_true, ite_false, e17, e21, e33, e31, lives20, hc1, hc2, hmod, hsl, e21b, e33b, e30, e31b]
          rfl
        case shE => rfl
end Go.Proofs.Ytndcokalnpnbgaa.Ya
