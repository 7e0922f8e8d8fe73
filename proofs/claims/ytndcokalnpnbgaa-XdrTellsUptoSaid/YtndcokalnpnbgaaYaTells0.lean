/-
  Xdr, law XdrTells: the rounds.
-/
import Derived.Test.YtndcokalnpnbgaaYaXdrRd
import Derived.Test.YtndcokalnpnbgaaYaXdrQ
namespace Go.Proofs.Ytndcokalnpnbgaa.Ya
open Go.Ya
set_option linter.unusedVariables false
set_option linter.unusedSimpArgs false
set_option maxRecDepth 100000
set_option maxHeartbeats 8000000

def Q : XdrQ X1 tab where
  toNumW := W.toNumW
  qget := 51
  qzero := 46
  qnum := 42
  qNumber := 23
  qGreat := 25
  qTruth := 27
  qBytes := 29
  qEnd := 32
  qcopy := 34
  kx5 := fun f args h e => by rcases e with rfl | rfl | rfl | rfl | rfl | rfl | rfl | rfl | rfl <;> rfl
  s40 := rfl
  s41 := rfl
  s42 := rfl
  s43 := rfl
  s44 := rfl
  s45 := rfl
  s46 := rfl
  s47 := rfl
  s48 := rfl

def body4 : SC := (.seq (.seq (.ops [⟨some 20, .mov (.t 10), none⟩, ⟨some 21, .mov (.t 1), none⟩, ⟨some 22, .len (.sl) (.t 21), none⟩, ⟨some 23, .bin (.lss) (.other) (.t 20) (.t 22), none⟩, ⟨some 24, .mov (.t 23), none⟩, ⟨some 25, .mov (.t 10), some (24, true)⟩, ⟨some 26, .bin (.lss) (.other) (.t 25) (.c (.int (.i64) 60)), some (24, true)⟩, ⟨some 27, .pick (.t 24) (.t 26) (.c (.bool false)), none⟩]) (.cond (.t 27) (.skip) (.exit 0))) (.seq (.block 1 (.seq (.ops [⟨some 11, .mov (.c (.bool true)), none⟩]) (.seq (.seq (.ops [⟨some 30, .mov (.t 1), none⟩, ⟨some 31, .mov (.t 10), none⟩, ⟨some 32, .idxAddrSl 5 (.t 30) (.t 31), none⟩, ⟨some 33, .fieldAddr 0 (.t 32), none⟩, ⟨some 34, .load false 1 (.t 33), none⟩, ⟨some 35, .bin (.rem) (.other) (.t 34) (.c (.int (.u8) 4)), none⟩]) (.block 2 (.seq (.ops [⟨some 57, .bin (.eql) (.other) (.t 35) (.c (.int (.u8) 0)), none⟩, ⟨some 56, .mov (.t 57), none⟩]) (.cond (.t 56) (.ops [⟨some 58, .mov (.t 8), none⟩, ⟨some 59, .call 22 [.t 58], none⟩, ⟨some 60, .mov (.t 9), none⟩, ⟨some 61, .call 23 [.t 60], none⟩, ⟨some 62, .bin (.eql) (.other) (.t 59) (.t 61), none⟩, ⟨some 11, .mov (.t 62), none⟩]) (.seq (.ops [⟨some 64, .bin (.eql) (.other) (.t 35) (.c (.int (.u8) 1)), none⟩, ⟨some 63, .mov (.t 64), none⟩]) (.cond (.t 63) (.ops [⟨some 65, .mov (.t 8), none⟩, ⟨some 66, .call 24 [.t 65], none⟩, ⟨some 67, .mov (.t 9), none⟩, ⟨some 68, .call 25 [.t 67], none⟩, ⟨some 69, .bin (.eql) (.other) (.t 66) (.t 68), none⟩, ⟨some 11, .mov (.t 69), none⟩]) (.seq (.ops [⟨some 71, .bin (.eql) (.other) (.t 35) (.c (.int (.u8) 2)), none⟩, ⟨some 70, .mov (.t 71), none⟩]) (.cond (.t 70) (.ops [⟨some 72, .mov (.t 8), none⟩, ⟨some 73, .call 26 [.t 72], none⟩, ⟨some 74, .mov (.t 9), none⟩, ⟨some 75, .call 27 [.t 74], none⟩, ⟨some 76, .bin (.eql) (.bool) (.t 73) (.t 75), none⟩, ⟨some 11, .mov (.t 76), none⟩]) (.seq (.ops [⟨some 36, .mov (.t 8), none⟩, ⟨some 37, .mov (.t 1), none⟩, ⟨some 38, .mov (.t 10), none⟩, ⟨some 39, .idxAddrSl 5 (.t 37) (.t 38), none⟩, ⟨some 40, .fieldAddr 4 (.t 39), none⟩, ⟨some 41, .load false 1 (.t 40), none⟩, ⟨some 42, .call 28 [.t 36, .t 41], none⟩, ⟨some 12, .mov (.t 42), none⟩]) (.seq (.ops [⟨some 43, .mov (.t 12), none⟩, ⟨some 44, .mov (.t 9), none⟩, ⟨some 45, .mov (.t 1), none⟩, ⟨some 46, .mov (.t 10), none⟩, ⟨some 47, .idxAddrSl 5 (.t 45) (.t 46), none⟩, ⟨some 48, .fieldAddr 4 (.t 47), none⟩, ⟨some 49, .load false 1 (.t 48), none⟩, ⟨some 50, .call 29 [.t 44, .t 49], none⟩, ⟨some 51, .call 18 [.t 43, .t 50], none⟩, ⟨some 11, .mov (.t 51), none⟩]) (.ops [⟨some 52, .mov (.t 12), none⟩, ⟨some 53, .mov (.t 2), none⟩, ⟨some 54, .bin (.or) (.other) (.t 53) (.c (.int (.u8) 1)), none⟩, ⟨some 55, .call 19 [.t 52, .t 54], none⟩]))))))))))) (.seq (.drawOps [⟨some 77, .mov (.t 11), none⟩, ⟨some 78, .un (.not) (.t 77), none⟩, ⟨some 79, .mov (.t 78), none⟩, ⟨some 80, .mov (.t 8), some (79, false)⟩, ⟨some 81, .call 30 [.t 80], some (79, false)⟩, ⟨some 82, .mov (.t 9), some (79, false)⟩, ⟨some 83, .nilChk (.t 82), some (79, false)⟩, ⟨some 84, .fieldAddr 2 (.t 83), some (79, false)⟩, ⟨some 85, .load false 1 (.t 84), some (79, false)⟩, ⟨some 86, .bin (.neq) (.other) (.t 81) (.t 85), some (79, false)⟩, ⟨some 87, .pick (.t 79) (.c (.bool true)) (.t 86), none⟩, ⟨some 88, .mov (.t 87), none⟩, ⟨some 89, .mov (.t 8), some (88, false)⟩, ⟨some 90, .call 31 [.t 89], some (88, false)⟩, ⟨some 91, .mov (.t 9), some (88, false)⟩, ⟨some 92, .call 32 [.t 91], some (88, false)⟩, ⟨some 93, .bin (.neq) (.other) (.t 90) (.t 92), some (88, false)⟩, ⟨some 94, .pick (.t 88) (.c (.bool true)) (.t 93), none⟩] [(8, 4)]) (.cond (.t 94) (.seq (.ops [⟨some 6, .mov (.c (.bool false)), none⟩]) (.ret)) (.skip)))))) (.ops [⟨some 28, .mov (.t 10), none⟩, ⟨some 29, .bin (.add) (.other) (.t 28) (.c (.int (.i64) 1)), none⟩, ⟨some 10, .mov (.t 29), none⟩])))
def tail4 : SC := (.seq (.ops [⟨some 95, .mov (.t 7), none⟩, ⟨some 96, .mov (.t 0), none⟩, ⟨some 97, .call 16 [.t 95, .t 96], none⟩, ⟨some 98, .mov (.t 97), none⟩, ⟨some 99, .call 20 [], some (98, true)⟩, ⟨some 100, .pick (.t 98) (.t 99) (.c (.bool false)), none⟩, ⟨some 6, .mov (.t 100), none⟩]) (.ret))
theorem body4_eq : sf4.body = .seq (.ops [⟨some 6, .mov (.c (.bool false)), none⟩]) (.seq (.ops [⟨some 13, .mov (.t 0), none⟩, ⟨some 14, .call 7 [.t 13], none⟩, ⟨some 7, .mov (.t 14), none⟩]) (.seq (.ops [⟨some 15, .mov (.t 7), none⟩, ⟨some 16, .call 21 [.t 15], none⟩, ⟨some 8, .mov (.t 16), none⟩]) (.seq (.ops [⟨some 17, .mov (.t 0), none⟩, ⟨some 18, .build [.nilsl, .int (.i64) 0, .int (.i64) 0] [(0, 1, .t 17)], none⟩, ⟨some 19, .box (.t 18), none⟩, ⟨some 9, .mov (.t 19), none⟩]) (.seq (.seq (.ops [⟨some 10, .mov (.c (.int (.i64) 0)), none⟩]) (.block 0 (.loop body4))) tail4)))) := rfl
def Sh4 (V L : AV) (by_ : Int) (wv : AV) (r q i : Nat) (tm : List AV) : Prop := tm.length = 101 ∧ tm[0]? = some V ∧ tm[1]? = some L ∧ tm[2]? = some (.int .u8 by_) ∧ tm[7]? = some wv ∧ tm[8]? = some (.ptr r 0) ∧ tm[9]? = some (.ptr q 0) ∧ tm[10]? = some (.int .i64 (i : Nat))
/-- Both readers have the same left. -/
def Inv4 (h0 h : Heap) (V : AV) (r q : Nat) (s : List Int × Int) (F : Nat → Prop) : Prop :=
  RAt h r s F ∧ QAt h q V s (fun j => j = q) ∧ (∀ j, F j → h0.next ≤ j) ∧ h0.next ≤ q ∧ ¬ F q ∧ h0.next ≤ h.next ∧ (∀ j, j < h0.next → h.get j = h0.get j) ∧ ∀ id o l c e z, V = .slice id o l c e z → id < h0.next
/-- Behind the code's reader. -/
theorem Inv4.mid {h0 h h1 : Heap} {V : AV} {r q : Nat} {s : List Int × Int} {F : Nat → Prop} (v : Inv4 h0 h V r q s F) (st : Stp h h1 F F) : QAt h1 q V s (fun j => j = q) := by
  obtain ⟨f, g, k1, k2, k3, k4, k5, k6⟩ := v
  refine g.keep st.1 (fun j hj => ?_) fun all hb => hb.stp st fun id o l c e z hV hF => ?_
  · subst hj; exact st.2.1 _ (g.2.1 _ rfl) k3
  · have := k6 _ _ _ _ _ _ hV; have := k1 _ hF; omega
/-- Behind both. -/
theorem Inv4.step {h0 h h1 h2 : Heap} {V : AV} {r q : Nat} {s s' : List Int × Int} {F : Nat → Prop} (v : Inv4 h0 h V r q s F) (f1 : RAt h1 r s' F) (st : Stp h h1 F F) (g2 : QAt h2 q V s' (fun j => j = q)) (st2 : Stp h1 h2 (fun j => j = q) (fun j => j = q)) : Inv4 h0 h2 V r q s' F := by
  obtain ⟨f, g, k1, k2, k3, k4, k5, k6⟩ := v
  have hle := st.1
  refine ⟨f1.keep st2.1 fun j hj => st2.2.1 j (f1.2.1 j hj) fun e => k3 (e ▸ hj), g2, k1, k2, k3, by have := st2.1; omega, fun j hj => ?_, k6⟩
  rw [st2.2.1 j (by omega) (by omega), st.2.1 j (by omega) fun e => by have := k1 _ e; omega]
  exact k5 j hj
/-- What stands behind is as it was. -/
theorem Inv4.keep {h0 h h1 h2 : Heap} {V : AV} {r q : Nat} {s s' : List Int × Int} {F : Nat → Prop} (v : Inv4 h0 h V r q s F) (v1 : Inv4 h0 h1 V r q s' F) (e1 : h2.next = h1.next) (e2 : ∀ j, j < h.next → h2.get j = h1.get j) : Inv4 h0 h2 V r q s' F := by
  obtain ⟨f, g, k1, k2, k3, k4, k5, k6⟩ := v
  obtain ⟨f1, g1, _, _, _, m4, m5, _⟩ := v1
  refine ⟨f1.keep (by omega) fun j hj => e2 j (f.2.1 j hj), g1.keep (by omega) (fun j hj => e2 j (g.2.1 j hj)) (fun all hb => ?_), k1, k2, k3, by omega, fun j hj => ?_, k6⟩
  · rcases hb with hb | ⟨id, off, cap, ex, c, ro, e3, e4, e5, e6, e7⟩
    · exact .inl hb
    · exact .inr ⟨id, off, cap, ex, c, ro, e3, e4, (e2 id (by have := k6 _ _ _ _ _ _ e3; omega)).trans e5, e6, e7⟩
  · rw [e2 j (by omega)]; exact m5 j hj
theorem qcell {h : Heap} {q : Nat} {V : AV} {s : List Int × Int} {F : Nat → Prop} (f : QAt h q V s F) : ∃ c, h.get q = some (.cells c false) ∧ loadA h false 1 q 2 = some (.int .i64 s.2) := by
  obtain ⟨_, _, all, at_, f3, _⟩ := f
  exact ⟨_, f3, by rw [load_of f3]; rfl⟩
theorem tell_num {h0 h : Heap} {V wv : AV} {by_ : Int} {r q b len i : Nat} {s : List Int × Int} {F : Nat → Prop} {rows : List (List AV)} {a : Thing} {row : List AV} {tm : List AV} (ht : Sh4 V (.slice b 0 len len false 5) by_ wv r q i tm) (hb : b < h0.next) (hg : h0.get b = some (.cells rows.flatten true)) (hall : ∀ r ∈ rows, r.length = 5) (hlen : rows.length = len) (hi : rows[i]? = some row) (ha : ThingAt h0 row a) (hi1 : i < 60)
    (hv : Inv4 h0 h V r q s F) (c0 : (a.what.tmod 4 == 0) = true) :
    ∃ tm' h', xcode X1 tab 4 none (.loop body4) tm h = xcode X1 tab 4 none (.loop body4) tm' h' ∧ Sh4 V (.slice b 0 len len false 5) by_ wv r q (i + 1) tm' ∧ Inv4 h0 h' V r q (rdN 4 s).2 F := by
  match tm, ht with
  | a0 :: a1 :: a2 :: a3 :: a4 :: a5 :: a6 :: a7 :: a8 :: a9 :: a10 :: a11 :: a12 :: a13 :: a14 :: a15 :: a16 :: a17 :: a18 :: a19 :: a20 :: a21 :: a22 :: a23 :: a24 :: a25 :: a26 :: a27 :: a28 :: a29 :: a30 :: a31 :: a32 :: a33 :: a34 :: a35 :: a36 :: a37 :: a38 :: a39 :: a40 :: a41 :: a42 :: a43 :: a44 :: a45 :: a46 :: a47 :: a48 :: a49 :: a50 :: a51 :: a52 :: a53 :: a54 :: a55 :: a56 :: a57 :: a58 :: a59 :: a60 :: a61 :: a62 :: a63 :: a64 :: a65 :: a66 :: a67 :: a68 :: a69 :: a70 :: a71 :: a72 :: a73 :: a74 :: a75 :: a76 :: a77 :: a78 :: a79 :: a80 :: a81 :: a82 :: a83 :: a84 :: a85 :: a86 :: a87 :: a88 :: a89 :: a90 :: a91 :: a92 :: a93 :: a94 :: a95 :: a96 :: a97 :: a98 :: a99 :: a100 :: [], ht =>
  obtain ⟨_, t0, t1, t2, t7, t8, t9, t10⟩ := ht
  simp only [List.getElem?_cons_zero, List.getElem?_cons_succ, Option.some.injEq] at t0 t1 t2 t7 t8 t9 t10
  replace t0 := t0.symm; replace t1 := t1.symm; replace t2 := t2.symm; replace t7 := t7.symm; replace t8 := t8.symm; replace t9 := t9.symm; replace t10 := t10.symm
  subst t0 t1 t2 t7 t8 t9 t10
  obtain ⟨f, g, hlo, hq0, hqF, hx, hsame, hVid⟩ := id hv
  obtain ⟨v, rfl, hbt0, hmax, hN, hW, hM, hBy⟩ := ha
  have hilt : i < len := by
    rcases Nat.lt_or_ge i rows.length with h | h
    · omega
    · rw [List.getElem?_eq_none h] at hi; cases hi
  have hgh := (hsame b hb).trans hg
  have l0 := load_cell hgh hall hi (k := 0) rfl
  have l4 := load_cell hgh hall hi (k := 4) rfl
  rw [Nat.add_zero] at l0
  have hw : IntKind.i64.wrap ((i : Int) + 1) = ((i + 1 : Nat) : Int) := by
    rw [IntWalk.i64_in _ (by omega)]; simp
  have hlt : (i : Int) < (len : Int) := by omega
  have hlt2 : (i : Int) < 60 := by omega
  have hix : (0 : Int) ≤ (i : Int) ∧ (i : Int) < (len : Int) := by omega
  have hin : 0 + (i : Int).toNat * 5 = i * 5 := by omega
  obtain ⟨H1, e1, f1, s1⟩ := R.rdNumber_spec f
  replace e1 : xcall X1 tab (.fn 22) [.ptr r 0] h = some (.int .u32 (rdN 4 s).1, H1) := e1
  obtain ⟨H2, e2, g2, s2⟩ := Q.qNumber_spec (hv.mid s1)
  replace e2 : xcall X1 tab (.fn 23) [.ptr q 0] H1 = some (.int .u32 (rdN 4 s).1, H2) := e2
  have hv' := hv.step f1 s1 g2 s2
  obtain ⟨f3, g3, _⟩ := id hv'
  obtain ⟨c3, hc3, L2⟩ := qcell g3
  have eE := R.rdError_spec f3
  replace eE : xcall X1 tab (.fn 30) [.ptr r 0] H2 = some (.int .i64 (rdN 4 s).2.2, H2) := eE
  have eN := R.rdEnd_spec f3
  replace eN : xcall X1 tab (.fn 31) [.ptr r 0] H2 = some (.int .i64 (endE (rdN 4 s).2), H2) := eN
  have eQ := Q.qEnd_spec g3
  replace eQ : xcall X1 tab (.fn 32) [.ptr q 0] H2 = some (.int .i64 (endE (rdN 4 s).2), H2) := eQ
  refine ⟨?tm, H2, ?run, ?sh, hv'⟩
  case run =>
    rw [show ∀ tm h, xcode X1 tab 4 none (.loop body4) tm h = thenX X1 tab 4 none (.loop body4) (xcode X1 tab 4 none body4 tm h) from fun _ _ => x_loop]
    delta body4
    simp (decide := true) only [note_false, Int.reduceBEq, Int.reduceBNe, x_drawn, l_nil, l_op, l_guard, l_some, l_true, l_false, l_draw, readsA, x_true, x_false, x_seq, x_ops, x_cond, x_skip, x_ret, x_exit, x_block, x_then, x_thenE, x_thenR, x_blockN, x_blockR, x_blockE, s_nil, s_op, s_guard, s_some, s_true, s_false, s_put, s_put0, s_opsR, s_ret, s_norm, aop, ev, evs, List.map_cons, List.map_nil, List.cons_append, List.nil_append, List.append_nil, List.replicate, List.take_succ_cons, List.take_zero, List.take_nil, List.drop_succ_cons, List.drop_zero, List.drop_nil, Nat.zero_add, Nat.add_zero, Nat.reduceAdd, Nat.reduceMul, Nat.reduceLeDiff, Bool.false_eq_true, and_self, List.length_cons, List.length_nil, List.set_cons_zero, List.set_cons_succ, List.getD_cons_zero, List.getD_cons_succ, wantedA, List.getElem?_cons_zero, List.getElem?_cons_succ, q_t, q_f, Bool.not_true, Bool.not_false, b_add, b_sub, b_mul, b_eql, b_neq, b_lss, b_leq, b_gtr, b_geq, b_and, b_or, b_xor, b_quo, b_rem, b_shl, b_shr, unA, Option.map_some, Option.map_none, resA, tupA, Int.reduceLT, not_false_eq_true, not_true_eq_false, decide_true, decide_false, f_bool, c_bool, f_int, c_int, f_str, c_str, f_nilptr, c_nilptr, f_ptr, c_ptr, f_nilsl, c_nilsl, f_slice, c_slice, f_nilmap, c_nilmap, f_map, c_map, f_nilf, c_nilf, f_func, c_func, f_yieldf, c_yieldf, f_nilif, c_nilif, f_iface, c_iface, c_agg, List.all_cons, List.all_nil, Bool.and_true, Bool.true_and, if_true, if_false, ite_true, ite_false, hlt, hlt2, hix, hin, l0, c0, e1, e2, eE, eN, eQ, L2, hc3, hw, chkLog, same_cells, beq_self_eq_true, bne_self_eq_false]
    rfl
  case sh => exact ⟨rfl, rfl, rfl, rfl, rfl, rfl, rfl, rfl⟩
theorem tell_great {h0 h : Heap} {V wv : AV} {by_ : Int} {r q b len i : Nat} {s : List Int × Int} {F : Nat → Prop} {rows : List (List AV)} {a : Thing} {row : List AV} {tm : List AV} (ht : Sh4 V (.slice b 0 len len false 5) by_ wv r q i tm) (hb : b < h0.next) (hg : h0.get b = some (.cells rows.flatten true)) (hall : ∀ r ∈ rows, r.length = 5) (hlen : rows.length = len) (hi : rows[i]? = some row) (ha : ThingAt h0 row a) (hi1 : i < 60)
    (hv : Inv4 h0 h V r q s F) (c0 : (a.what.tmod 4 == 0) = false) (c1 : (a.what.tmod 4 == 1) = true) :
    ∃ tm' h', xcode X1 tab 4 none (.loop body4) tm h = xcode X1 tab 4 none (.loop body4) tm' h' ∧ Sh4 V (.slice b 0 len len false 5) by_ wv r q (i + 1) tm' ∧ Inv4 h0 h' V r q (rdN 8 s).2 F := by
  match tm, ht with
  | a0 :: a1 :: a2 :: a3 :: a4 :: a5 :: a6 :: a7 :: a8 :: a9 :: a10 :: a11 :: a12 :: a13 :: a14 :: a15 :: a16 :: a17 :: a18 :: a19 :: a20 :: a21 :: a22 :: a23 :: a24 :: a25 :: a26 :: a27 :: a28 :: a29 :: a30 :: a31 :: a32 :: a33 :: a34 :: a35 :: a36 :: a37 :: a38 :: a39 :: a40 :: a41 :: a42 :: a43 :: a44 :: a45 :: a46 :: a47 :: a48 :: a49 :: a50 :: a51 :: a52 :: a53 :: a54 :: a55 :: a56 :: a57 :: a58 :: a59 :: a60 :: a61 :: a62 :: a63 :: a64 :: a65 :: a66 :: a67 :: a68 :: a69 :: a70 :: a71 :: a72 :: a73 :: a74 :: a75 :: a76 :: a77 :: a78 :: a79 :: a80 :: a81 :: a82 :: a83 :: a84 :: a85 :: a86 :: a87 :: a88 :: a89 :: a90 :: a91 :: a92 :: a93 :: a94 :: a95 :: a96 :: a97 :: a98 :: a99 :: a100 :: [], ht =>
  obtain ⟨_, t0, t1, t2, t7, t8, t9, t10⟩ := ht
  simp only [List.getElem?_cons_zero, List.getElem?_cons_succ, Option.some.injEq] at t0 t1 t2 t7 t8 t9 t10
  replace t0 := t0.symm; replace t1 := t1.symm; replace t2 := t2.symm; replace t7 := t7.symm; replace t8 := t8.symm; replace t9 := t9.symm; replace t10 := t10.symm
  subst t0 t1 t2 t7 t8 t9 t10
  obtain ⟨f, g, hlo, hq0, hqF, hx, hsame, hVid⟩ := id hv
  obtain ⟨v, rfl, hbt0, hmax, hN, hW, hM, hBy⟩ := ha
  have hilt : i < len := by
    rcases Nat.lt_or_ge i rows.length with h | h
    · omega
    · rw [List.getElem?_eq_none h] at hi; cases hi
  have hgh := (hsame b hb).trans hg
  have l0 := load_cell hgh hall hi (k := 0) rfl
  have l4 := load_cell hgh hall hi (k := 4) rfl
  rw [Nat.add_zero] at l0
  have hw : IntKind.i64.wrap ((i : Int) + 1) = ((i + 1 : Nat) : Int) := by
    rw [IntWalk.i64_in _ (by omega)]; simp
  have hlt : (i : Int) < (len : Int) := by omega
  have hlt2 : (i : Int) < 60 := by omega
  have hix : (0 : Int) ≤ (i : Int) ∧ (i : Int) < (len : Int) := by omega
  have hin : 0 + (i : Int).toNat * 5 = i * 5 := by omega
  obtain ⟨H1, e1, f1, s1⟩ := R.rdGreat_spec f
  replace e1 : xcall X1 tab (.fn 24) [.ptr r 0] h = some (.int .u64 (rdN 8 s).1, H1) := e1
  obtain ⟨H2, e2, g2, s2⟩ := Q.qGreat_spec (hv.mid s1)
  replace e2 : xcall X1 tab (.fn 25) [.ptr q 0] H1 = some (.int .u64 (rdN 8 s).1, H2) := e2
  have hv' := hv.step f1 s1 g2 s2
  obtain ⟨f3, g3, _⟩ := id hv'
  obtain ⟨c3, hc3, L2⟩ := qcell g3
  have eE := R.rdError_spec f3
  replace eE : xcall X1 tab (.fn 30) [.ptr r 0] H2 = some (.int .i64 (rdN 8 s).2.2, H2) := eE
  have eN := R.rdEnd_spec f3
  replace eN : xcall X1 tab (.fn 31) [.ptr r 0] H2 = some (.int .i64 (endE (rdN 8 s).2), H2) := eN
  have eQ := Q.qEnd_spec g3
  replace eQ : xcall X1 tab (.fn 32) [.ptr q 0] H2 = some (.int .i64 (endE (rdN 8 s).2), H2) := eQ
  refine ⟨?tm, H2, ?run, ?sh, hv'⟩
  case run =>
    rw [show ∀ tm h, xcode X1 tab 4 none (.loop body4) tm h = thenX X1 tab 4 none (.loop body4) (xcode X1 tab 4 none body4 tm h) from fun _ _ => x_loop]
    delta body4
    simp (decide := true) only [note_false, Int.reduceBEq, Int.reduceBNe, x_drawn, l_nil, l_op, l_guard, l_some, l_true, l_false, l_draw, readsA, x_true, x_false, x_seq, x_ops, x_cond, x_skip, x_ret, x_exit, x_block, x_then, x_thenE, x_thenR, x_blockN, x_blockR, x_blockE, s_nil, s_op, s_guard, s_some, s_true, s_false, s_put, s_put0, s_opsR, s_ret, s_norm, aop, ev, evs, List.map_cons, List.map_nil, List.cons_append, List.nil_append, List.append_nil, List.replicate, List.take_succ_cons, List.take_zero, List.take_nil, List.drop_succ_cons, List.drop_zero, List.drop_nil, Nat.zero_add, Nat.add_zero, Nat.reduceAdd, Nat.reduceMul, Nat.reduceLeDiff, Bool.false_eq_true, and_self, List.length_cons, List.length_nil, List.set_cons_zero, List.set_cons_succ, List.getD_cons_zero, List.getD_cons_succ, wantedA, List.getElem?_cons_zero, List.getElem?_cons_succ, q_t, q_f, Bool.not_true, Bool.not_false, b_add, b_sub, b_mul, b_eql, b_neq, b_lss, b_leq, b_gtr, b_geq, b_and, b_or, b_xor, b_quo, b_rem, b_shl, b_shr, unA, Option.map_some, Option.map_none, resA, tupA, Int.reduceLT, not_false_eq_true, not_true_eq_false, decide_true, decide_false, f_bool, c_bool, f_int, c_int, f_str, c_str, f_nilptr, c_nilptr, f_ptr, c_ptr, f_nilsl, c_nilsl, f_slice, c_slice, f_nilmap, c_nilmap, f_map, c_map, f_nilf, c_nilf, f_func, c_func, f_yieldf, c_yieldf, f_nilif, c_nilif, f_iface, c_iface, c_agg, List.all_cons, List.all_nil, Bool.and_true, Bool.true_and, if_true, if_false, ite_true, ite_false, hlt, hlt2, hix, hin, l0, c0, c1, e1, e2, eE, eN, eQ, L2, hc3, hw, chkLog, same_cells, beq_self_eq_true, bne_self_eq_false]
    rfl
  case sh => exact ⟨rfl, rfl, rfl, rfl, rfl, rfl, rfl, rfl⟩
theorem tell_truth {h0 h : Heap} {V wv : AV} {by_ : Int} {r q b len i : Nat} {s : List Int × Int} {F : Nat → Prop} {rows : List (List AV)} {a : Thing} {row : List AV} {tm : List AV} (ht : Sh4 V (.slice b 0 len len false 5) by_ wv r q i tm) (hb : b < h0.next) (hg : h0.get b = some (.cells rows.flatten true)) (hall : ∀ r ∈ rows, r.length = 5) (hlen : rows.length = len) (hi : rows[i]? = some row) (ha : ThingAt h0 row a) (hi1 : i < 60)
    (hv : Inv4 h0 h V r q s F) (c0 : (a.what.tmod 4 == 0) = false) (c1 : (a.what.tmod 4 == 1) = false) (c2 : (a.what.tmod 4 == 2) = true) :
    ∃ tm' h', xcode X1 tab 4 none (.loop body4) tm h = xcode X1 tab 4 none (.loop body4) tm' h' ∧ Sh4 V (.slice b 0 len len false 5) by_ wv r q (i + 1) tm' ∧ Inv4 h0 h' V r q (rdT s).2 F := by
  match tm, ht with
  | a0 :: a1 :: a2 :: a3 :: a4 :: a5 :: a6 :: a7 :: a8 :: a9 :: a10 :: a11 :: a12 :: a13 :: a14 :: a15 :: a16 :: a17 :: a18 :: a19 :: a20 :: a21 :: a22 :: a23 :: a24 :: a25 :: a26 :: a27 :: a28 :: a29 :: a30 :: a31 :: a32 :: a33 :: a34 :: a35 :: a36 :: a37 :: a38 :: a39 :: a40 :: a41 :: a42 :: a43 :: a44 :: a45 :: a46 :: a47 :: a48 :: a49 :: a50 :: a51 :: a52 :: a53 :: a54 :: a55 :: a56 :: a57 :: a58 :: a59 :: a60 :: a61 :: a62 :: a63 :: a64 :: a65 :: a66 :: a67 :: a68 :: a69 :: a70 :: a71 :: a72 :: a73 :: a74 :: a75 :: a76 :: a77 :: a78 :: a79 :: a80 :: a81 :: a82 :: a83 :: a84 :: a85 :: a86 :: a87 :: a88 :: a89 :: a90 :: a91 :: a92 :: a93 :: a94 :: a95 :: a96 :: a97 :: a98 :: a99 :: a100 :: [], ht =>
  obtain ⟨_, t0, t1, t2, t7, t8, t9, t10⟩ := ht
  simp only [List.getElem?_cons_zero, List.getElem?_cons_succ, Option.some.injEq] at t0 t1 t2 t7 t8 t9 t10
  replace t0 := t0.symm; replace t1 := t1.symm; replace t2 := t2.symm; replace t7 := t7.symm; replace t8 := t8.symm; replace t9 := t9.symm; replace t10 := t10.symm
  subst t0 t1 t2 t7 t8 t9 t10
  obtain ⟨f, g, hlo, hq0, hqF, hx, hsame, hVid⟩ := id hv
  obtain ⟨v, rfl, hbt0, hmax, hN, hW, hM, hBy⟩ := ha
  have hilt : i < len := by
    rcases Nat.lt_or_ge i rows.length with h | h
    · omega
    · rw [List.getElem?_eq_none h] at hi; cases hi
  have hgh := (hsame b hb).trans hg
  have l0 := load_cell hgh hall hi (k := 0) rfl
  have l4 := load_cell hgh hall hi (k := 4) rfl
  rw [Nat.add_zero] at l0
  have hw : IntKind.i64.wrap ((i : Int) + 1) = ((i + 1 : Nat) : Int) := by
    rw [IntWalk.i64_in _ (by omega)]; simp
  have hlt : (i : Int) < (len : Int) := by omega
  have hlt2 : (i : Int) < 60 := by omega
  have hix : (0 : Int) ≤ (i : Int) ∧ (i : Int) < (len : Int) := by omega
  have hin : 0 + (i : Int).toNat * 5 = i * 5 := by omega
  obtain ⟨H1, e1, f1, s1⟩ := R.rdTruth_spec f
  replace e1 : xcall X1 tab (.fn 26) [.ptr r 0] h = some (.bool (rdT s).1, H1) := e1
  obtain ⟨H2, e2, g2, s2⟩ := Q.qTruth_spec (hv.mid s1)
  replace e2 : xcall X1 tab (.fn 27) [.ptr q 0] H1 = some (.bool (rdT s).1, H2) := e2
  have hv' := hv.step f1 s1 g2 s2
  have hbk : binA .eql .bool (.bool (rdT s).1) (.bool (rdT s).1) = some (.bool true) := by cases (rdT s).1 <;> rfl
  obtain ⟨f3, g3, _⟩ := id hv'
  obtain ⟨c3, hc3, L2⟩ := qcell g3
  have eE := R.rdError_spec f3
  replace eE : xcall X1 tab (.fn 30) [.ptr r 0] H2 = some (.int .i64 (rdT s).2.2, H2) := eE
  have eN := R.rdEnd_spec f3
  replace eN : xcall X1 tab (.fn 31) [.ptr r 0] H2 = some (.int .i64 (endE (rdT s).2), H2) := eN
  have eQ := Q.qEnd_spec g3
  replace eQ : xcall X1 tab (.fn 32) [.ptr q 0] H2 = some (.int .i64 (endE (rdT s).2), H2) := eQ
  refine ⟨?tm, H2, ?run, ?sh, hv'⟩
  case run =>
    rw [show ∀ tm h, xcode X1 tab 4 none (.loop body4) tm h = thenX X1 tab 4 none (.loop body4) (xcode X1 tab 4 none body4 tm h) from fun _ _ => x_loop]
    delta body4
    simp (decide := true) only [note_false, Int.reduceBEq, Int.reduceBNe, x_drawn, l_nil, l_op, l_guard, l_some, l_true, l_false, l_draw, readsA, x_true, x_false, x_seq, x_ops, x_cond, x_skip, x_ret, x_exit, x_block, x_then, x_thenE, x_thenR, x_blockN, x_blockR, x_blockE, s_nil, s_op, s_guard, s_some, s_true, s_false, s_put, s_put0, s_opsR, s_ret, s_norm, aop, ev, evs, List.map_cons, List.map_nil, List.cons_append, List.nil_append, List.append_nil, List.replicate, List.take_succ_cons, List.take_zero, List.take_nil, List.drop_succ_cons, List.drop_zero, List.drop_nil, Nat.zero_add, Nat.add_zero, Nat.reduceAdd, Nat.reduceMul, Nat.reduceLeDiff, Bool.false_eq_true, and_self, List.length_cons, List.length_nil, List.set_cons_zero, List.set_cons_succ, List.getD_cons_zero, List.getD_cons_succ, wantedA, List.getElem?_cons_zero, List.getElem?_cons_succ, q_t, q_f, Bool.not_true, Bool.not_false, b_add, b_sub, b_mul, b_eql, b_neq, b_lss, b_leq, b_gtr, b_geq, b_and, b_or, b_xor, b_quo, b_rem, b_shl, b_shr, unA, Option.map_some, Option.map_none, resA, tupA, Int.reduceLT, not_false_eq_true, not_true_eq_false, decide_true, decide_false, f_bool, c_bool, f_int, c_int, f_str, c_str, f_nilptr, c_nilptr, f_ptr, c_ptr, f_nilsl, c_nilsl, f_slice, c_slice, f_nilmap, c_nilmap, f_map, c_map, f_nilf, c_nilf, f_func, c_func, f_yieldf, c_yieldf, f_nilif, c_nilif, f_iface, c_iface, c_agg, List.all_cons, List.all_nil, Bool.and_true, Bool.true_and, if_true, if_false, ite_true, ite_false, hlt, hlt2, hix, hin, l0, c0, c1, c2, e1, e2, hbk, eE, eN, eQ, L2, hc3, hw, chkLog, same_cells, beq_self_eq_true, bne_self_eq_false]
    rfl
  case sh => exact ⟨rfl, rfl, rfl, rfl, rfl, rfl, rfl, rfl⟩
theorem tell_bytes {h0 h : Heap} {V wv : AV} {by_ : Int} {r q b len i : Nat} {s : List Int × Int} {F : Nat → Prop} {rows : List (List AV)} {a : Thing} {row : List AV} {tm : List AV} (ht : Sh4 V (.slice b 0 len len false 5) by_ wv r q i tm) (hb : b < h0.next) (hg : h0.get b = some (.cells rows.flatten true)) (hall : ∀ r ∈ rows, r.length = 5) (hlen : rows.length = len) (hi : rows[i]? = some row) (ha : ThingAt h0 row a) (hi1 : i < 60)
    (hv : Inv4 h0 h V r q s F) (c0 : (a.what.tmod 4 == 0) = false) (c1 : (a.what.tmod 4 == 1) = false) (c2 : (a.what.tmod 4 == 2) = false) :
    ∃ tm' h', xcode X1 tab 4 none (.loop body4) tm h = xcode X1 tab 4 none (.loop body4) tm' h' ∧ Sh4 V (.slice b 0 len len false 5) by_ wv r q (i + 1) tm' ∧ Inv4 h0 h' V r q (rdB a.most s).2 F := by
  match tm, ht with
  | a0 :: a1 :: a2 :: a3 :: a4 :: a5 :: a6 :: a7 :: a8 :: a9 :: a10 :: a11 :: a12 :: a13 :: a14 :: a15 :: a16 :: a17 :: a18 :: a19 :: a20 :: a21 :: a22 :: a23 :: a24 :: a25 :: a26 :: a27 :: a28 :: a29 :: a30 :: a31 :: a32 :: a33 :: a34 :: a35 :: a36 :: a37 :: a38 :: a39 :: a40 :: a41 :: a42 :: a43 :: a44 :: a45 :: a46 :: a47 :: a48 :: a49 :: a50 :: a51 :: a52 :: a53 :: a54 :: a55 :: a56 :: a57 :: a58 :: a59 :: a60 :: a61 :: a62 :: a63 :: a64 :: a65 :: a66 :: a67 :: a68 :: a69 :: a70 :: a71 :: a72 :: a73 :: a74 :: a75 :: a76 :: a77 :: a78 :: a79 :: a80 :: a81 :: a82 :: a83 :: a84 :: a85 :: a86 :: a87 :: a88 :: a89 :: a90 :: a91 :: a92 :: a93 :: a94 :: a95 :: a96 :: a97 :: a98 :: a99 :: a100 :: [], ht =>
  obtain ⟨_, t0, t1, t2, t7, t8, t9, t10⟩ := ht
  simp only [List.getElem?_cons_zero, List.getElem?_cons_succ, Option.some.injEq] at t0 t1 t2 t7 t8 t9 t10
  replace t0 := t0.symm; replace t1 := t1.symm; replace t2 := t2.symm; replace t7 := t7.symm; replace t8 := t8.symm; replace t9 := t9.symm; replace t10 := t10.symm
  subst t0 t1 t2 t7 t8 t9 t10
  obtain ⟨f, g, hlo, hq0, hqF, hx, hsame, hVid⟩ := id hv
  obtain ⟨v, rfl, hbt0, hmax, hN, hW, hM, hBy⟩ := ha
  have hilt : i < len := by
    rcases Nat.lt_or_ge i rows.length with h | h
    · omega
    · rw [List.getElem?_eq_none h] at hi; cases hi
  have hgh := (hsame b hb).trans hg
  have l0 := load_cell hgh hall hi (k := 0) rfl
  have l4 := load_cell hgh hall hi (k := 4) rfl
  rw [Nat.add_zero] at l0
  have hw : IntKind.i64.wrap ((i : Int) + 1) = ((i + 1 : Nat) : Int) := by
    rw [IntWalk.i64_in _ (by omega)]; simp
  have hlt : (i : Int) < (len : Int) := by omega
  have hlt2 : (i : Int) < 60 := by omega
  have hix : (0 : Int) ≤ (i : Int) ∧ (i : Int) < (len : Int) := by omega
  have hin : 0 + (i : Int).toNat * 5 = i * 5 := by omega
  obtain ⟨bv, H1, e1, nb1, f1, s1⟩ := R.rdBytes_spec f hM
  replace e1 : xcall X1 tab (.fn 28) [.ptr r 0, .int .i64 a.most] h = some (bv, H1) := e1
  obtain ⟨cv, H2, e2, cb, g2, s2⟩ := Q.qBytes_spec (hv.mid s1) hM
  replace e2 : xcall X1 tab (.fn 29) [.ptr q 0, .int .i64 a.most] H1 = some (cv, H2) := e2
  have hv2 := hv.step f1 s1 g2 s2
  have hgh1 : H1.get b = some (.cells rows.flatten true) := by
    rw [s1.2.1 b (by omega) fun e => by have := hlo _ e; omega]; exact hgh
  have m4 := load_cell hgh1 hall hi (k := 4) rfl
  have hqn : q < h.next := g.2.1 q rfl
  have nb2 : NewBytes h H2 bv (rdB a.most s).1 := by
    rcases nb1 with e | ⟨id, cap, ex, k0, k1, k2, k3, k4, k5⟩
    · exact .inl e
    · refine .inr ⟨id, cap, ex, k0, k1, k2, k3, (s2.2.1 id (Heap.lt_of_get k4) (by omega)).trans k4, k5.imp (fun e => e) fun e => ?_⟩
      have hm : id + 1 < H1.next := by
        rcases hc : H1.get (id + 1) with _ | o
        · simp [Heap.byteAt, hc] at e
        · exact Heap.lt_of_get hc
      rw [Heap.byteAt_of (s2.2.1 (id + 1) hm (by omega))]; exact e
  have eS := same_spec (X := X1) (SP := tab) (f := 18) (fun _ _ => rfl) (show tab 18 = some sameS from rfl) nb2.at cb
  simp only [beq_self_eq_true] at eS
  obtain ⟨H3, e3, k1, k2⟩ := spoil_new (SP := tab) hk19 nb2 (IntKind.u8.wrap ((BitVec.ofInt IntKind.u8.bits by_ ||| BitVec.ofInt IntKind.u8.bits 1).toNat))
  have hv' := hv.keep hv2 k1 k2
  have hbf : bv.flat = true := by rcases nb2 with ⟨rfl, _⟩ | ⟨_, _, _, rfl, _⟩ <;> rfl
  have hcf : cv.flat = true := by rcases cb with ⟨rfl, _⟩ | ⟨_, _, _, _, _, _, rfl, _⟩ <;> rfl
  obtain ⟨f3, g3, _⟩ := id hv'
  obtain ⟨c3, hc3, L2⟩ := qcell g3
  have eE := R.rdError_spec f3
  replace eE : xcall X1 tab (.fn 30) [.ptr r 0] H3 = some (.int .i64 (rdB a.most s).2.2, H3) := eE
  have eN := R.rdEnd_spec f3
  replace eN : xcall X1 tab (.fn 31) [.ptr r 0] H3 = some (.int .i64 (endE (rdB a.most s).2), H3) := eN
  have eQ := Q.qEnd_spec g3
  replace eQ : xcall X1 tab (.fn 32) [.ptr q 0] H3 = some (.int .i64 (endE (rdB a.most s).2), H3) := eQ
  refine ⟨?tm, H3, ?run, ?sh, hv'⟩
  case run =>
    rw [show ∀ tm h, xcode X1 tab 4 none (.loop body4) tm h = thenX X1 tab 4 none (.loop body4) (xcode X1 tab 4 none body4 tm h) from fun _ _ => x_loop]
    delta body4
    simp (decide := true) only [note_false, Int.reduceBEq, Int.reduceBNe, x_drawn, l_nil, l_op, l_guard, l_some, l_true, l_false, l_draw, readsA, x_true, x_false, x_seq, x_ops, x_cond, x_skip, x_ret, x_exit, x_block, x_then, x_thenE, x_thenR, x_blockN, x_blockR, x_blockE, s_nil, s_op, s_guard, s_some, s_true, s_false, s_put, s_put0, s_opsR, s_ret, s_norm, aop, ev, evs, List.map_cons, List.map_nil, List.cons_append, List.nil_append, List.append_nil, List.replicate, List.take_succ_cons, List.take_zero, List.take_nil, List.drop_succ_cons, List.drop_zero, List.drop_nil, Nat.zero_add, Nat.add_zero, Nat.reduceAdd, Nat.reduceMul, Nat.reduceLeDiff, Bool.false_eq_true, and_self, List.length_cons, List.length_nil, List.set_cons_zero, List.set_cons_succ, List.getD_cons_zero, List.getD_cons_succ, wantedA, List.getElem?_cons_zero, List.getElem?_cons_succ, q_t, q_f, Bool.not_true, Bool.not_false, b_add, b_sub, b_mul, b_eql, b_neq, b_lss, b_leq, b_gtr, b_geq, b_and, b_or, b_xor, b_quo, b_rem, b_shl, b_shr, unA, Option.map_some, Option.map_none, resA, tupA, Int.reduceLT, not_false_eq_true, not_true_eq_false, decide_true, decide_false, f_bool, c_bool, f_int, c_int, f_str, c_str, f_nilptr, c_nilptr, f_ptr, c_ptr, f_nilsl, c_nilsl, f_slice, c_slice, f_nilmap, c_nilmap, f_map, c_map, f_nilf, c_nilf, f_func, c_func, f_yieldf, c_yieldf, f_nilif, c_nilif, f_iface, c_iface, c_agg, List.all_cons, List.all_nil, Bool.and_true, Bool.true_and, if_true, if_false, ite_true, ite_false, hlt, hlt2, hix, hin, l0, c0, c1, c2, e1, e2, eS, e3, l4, m4, hbf, hcf, hgh, hgh1, eE, eN, eQ, L2, hc3, hw, chkLog, same_cells, beq_self_eq_true, bne_self_eq_false]
    rfl
  case sh => exact ⟨rfl, rfl, rfl, rfl, rfl, rfl, rfl, rfl⟩
end Go.Proofs.Ytndcokalnpnbgaa.Ya

