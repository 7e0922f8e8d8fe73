/-
  Xdr, law XdrBack: what is laid.
-/
import Derived.Test.YtndcokalnpnbgaaYaXdrSpec
namespace Go.Proofs.Ytndcokalnpnbgaa.Ya
open Go.Ya
set_option linter.unusedVariables false
set_option linter.unusedSimpArgs false
set_option maxRecDepth 100000
set_option maxHeartbeats 8000000

def body5 : SC := (.seq (.seq (.ops [⟨some 12, .mov (.t 6), none⟩, ⟨some 13, .mov (.t 0), none⟩, ⟨some 14, .len (.sl) (.t 13), none⟩, ⟨some 15, .bin (.lss) (.other) (.t 12) (.t 14), none⟩, ⟨some 16, .mov (.t 15), none⟩, ⟨some 17, .mov (.t 6), some (16, true)⟩, ⟨some 18, .bin (.lss) (.other) (.t 17) (.c (.int (.i64) 60)), some (16, true)⟩, ⟨some 19, .pick (.t 16) (.t 18) (.c (.bool false)), none⟩]) (.cond (.t 19) (.skip) (.exit 0))) (.seq (.block 1 (.seq (.ops [⟨some 22, .mov (.t 0), none⟩, ⟨some 23, .mov (.t 6), none⟩, ⟨some 24, .idxAddrSl 5 (.t 22) (.t 23), none⟩, ⟨some 25, .fieldAddr 0 (.t 24), none⟩, ⟨some 26, .load false 1 (.t 25), none⟩, ⟨some 27, .bin (.rem) (.other) (.t 26) (.c (.int (.u8) 4)), none⟩]) (.block 2 (.seq (.ops [⟨some 36, .bin (.eql) (.other) (.t 27) (.c (.int (.u8) 0)), none⟩, ⟨some 35, .mov (.t 36), none⟩]) (.cond (.t 35) (.ops [⟨some 37, .mov (.t 5), none⟩, ⟨some 38, .mov (.t 0), none⟩, ⟨some 39, .mov (.t 6), none⟩, ⟨some 40, .idxAddrSl 5 (.t 38) (.t 39), none⟩, ⟨some 41, .fieldAddr 1 (.t 40), none⟩, ⟨some 42, .load false 1 (.t 41), none⟩, ⟨some 43, .convInt (.u32) (.t 42), none⟩, ⟨some 44, .call 8 [.t 37, .t 43], none⟩]) (.seq (.ops [⟨some 46, .bin (.eql) (.other) (.t 27) (.c (.int (.u8) 1)), none⟩, ⟨some 45, .mov (.t 46), none⟩]) (.cond (.t 45) (.ops [⟨some 47, .mov (.t 5), none⟩, ⟨some 48, .mov (.t 0), none⟩, ⟨some 49, .mov (.t 6), none⟩, ⟨some 50, .idxAddrSl 5 (.t 48) (.t 49), none⟩, ⟨some 51, .fieldAddr 1 (.t 50), none⟩, ⟨some 52, .load false 1 (.t 51), none⟩, ⟨some 53, .call 10 [.t 47, .t 52], none⟩]) (.seq (.ops [⟨some 55, .bin (.eql) (.other) (.t 27) (.c (.int (.u8) 2)), none⟩, ⟨some 54, .mov (.t 55), none⟩]) (.cond (.t 54) (.ops [⟨some 56, .mov (.t 5), none⟩, ⟨some 57, .mov (.t 0), none⟩, ⟨some 58, .mov (.t 6), none⟩, ⟨some 59, .idxAddrSl 5 (.t 57) (.t 58), none⟩, ⟨some 60, .fieldAddr 2 (.t 59), none⟩, ⟨some 61, .load false 1 (.t 60), none⟩, ⟨some 62, .call 12 [.t 56, .t 61], none⟩]) (.ops [⟨some 28, .mov (.t 5), none⟩, ⟨some 29, .mov (.t 0), none⟩, ⟨some 30, .mov (.t 6), none⟩, ⟨some 31, .idxAddrSl 5 (.t 29) (.t 30), none⟩, ⟨some 32, .fieldAddr 3 (.t 31), none⟩, ⟨some 33, .load false 1 (.t 32), none⟩, ⟨some 34, .call 14 [.t 28, .t 33], none⟩])))))))))) (.ops [⟨some 20, .mov (.t 6), none⟩, ⟨some 21, .bin (.add) (.other) (.t 20) (.c (.int (.i64) 1)), none⟩, ⟨some 6, .mov (.t 21), none⟩])))
def tail5 : SC := (.seq (.ops [⟨some 63, .mov (.t 5), none⟩, ⟨some 64, .call 17 [.t 63], none⟩, ⟨some 7, .mov (.t 64), none⟩]) (.seq (.ops [⟨some 65, .mov (.t 7), none⟩, ⟨some 66, .call 21 [.t 65], none⟩, ⟨some 8, .mov (.t 66), none⟩]) (.seq (.seq (.ops [⟨some 67, .mov (.t 8), none⟩, ⟨some 68, .mov (.t 0), none⟩, ⟨some 69, .call 33 [.t 67, .t 68], none⟩, ⟨some 70, .un (.not) (.t 69), none⟩, ⟨some 71, .mov (.t 70), none⟩, ⟨some 72, .mov (.t 8), some (71, false)⟩, ⟨some 73, .call 31 [.t 72], some (71, false)⟩, ⟨some 74, .bin (.neq) (.other) (.t 73) (.c (.int (.i64) 0)), some (71, false)⟩, ⟨some 75, .pick (.t 71) (.c (.bool true)) (.t 74), none⟩, ⟨some 76, .mov (.t 75), none⟩, ⟨some 77, .mov (.t 7), some (76, false)⟩, ⟨some 78, .len (.sl) (.t 77), some (76, false)⟩, ⟨some 79, .bin (.rem) (.other) (.t 78) (.c (.int (.i64) 4)), some (76, false)⟩, ⟨some 80, .bin (.neq) (.other) (.t 79) (.c (.int (.i64) 0)), some (76, false)⟩, ⟨some 81, .pick (.t 76) (.c (.bool true)) (.t 80), none⟩]) (.cond (.t 81) (.seq (.ops [⟨some 4, .mov (.c (.bool false)), none⟩]) (.ret)) (.skip))) (.seq (.seq (.ops [⟨some 82, .mov (.t 1), none⟩, ⟨some 83, .bin (.lss) (.other) (.t 82) (.c (.int (.i64) 0)), none⟩, ⟨some 84, .mov (.t 83), none⟩, ⟨some 85, .mov (.t 1), some (84, false)⟩, ⟨some 86, .mov (.t 7), some (84, false)⟩, ⟨some 87, .len (.sl) (.t 86), some (84, false)⟩, ⟨some 88, .bin (.geq) (.other) (.t 85) (.t 87), some (84, false)⟩, ⟨some 89, .pick (.t 84) (.c (.bool true)) (.t 88), none⟩]) (.cond (.t 89) (.seq (.ops [⟨some 90, .call 20 [], none⟩, ⟨some 4, .mov (.t 90), none⟩]) (.ret)) (.skip))) (.seq (.ops [⟨some 91, .mov (.t 7), none⟩, ⟨some 92, .mov (.t 1), none⟩, ⟨some 93, .slice 1 (.t 91) none (some (.t 92)) none, none⟩, ⟨some 94, .call 21 [.t 93], none⟩, ⟨some 9, .mov (.t 94), none⟩]) (.seq (.ops [⟨some 95, .mov (.t 9), none⟩, ⟨some 96, .mov (.t 0), none⟩, ⟨some 97, .call 33 [.t 95, .t 96], none⟩, ⟨some 98, .un (.not) (.t 97), none⟩, ⟨some 99, .mov (.t 98), none⟩, ⟨some 100, .mov (.t 9), some (99, true)⟩, ⟨some 101, .call 30 [.t 100], some (99, true)⟩, ⟨some 102, .bin (.eql) (.other) (.t 101) (.c (.int (.i64) 4)), some (99, true)⟩, ⟨some 103, .pick (.t 99) (.t 102) (.c (.bool false)), none⟩, ⟨some 104, .mov (.t 103), none⟩, ⟨some 105, .mov (.t 9), some (104, true)⟩, ⟨some 106, .call 31 [.t 105], some (104, true)⟩, ⟨some 107, .bin (.eql) (.other) (.t 106) (.c (.int (.i64) 4)), some (104, true)⟩, ⟨some 108, .pick (.t 104) (.t 107) (.c (.bool false)), none⟩, ⟨some 109, .mov (.t 108), none⟩, ⟨some 110, .call 20 [], some (109, true)⟩, ⟨some 111, .pick (.t 109) (.t 110) (.c (.bool false)), none⟩, ⟨some 4, .mov (.t 111), none⟩]) (.ret)))))))
theorem body5_eq : sf5.body = .seq (.ops [⟨some 4, .mov (.c (.bool false)), none⟩]) (.seq (.ops [⟨some 10, .build [.nilsl] [], none⟩, ⟨some 11, .box (.t 10), none⟩, ⟨some 5, .mov (.t 11), none⟩]) (.seq (.seq (.ops [⟨some 6, .mov (.c (.int (.i64) 0)), none⟩]) (.block 0 (.loop body5))) tail5)) := rfl

/-- The bytes of a thing. -/
def encT (a : Thing) : List Int := if (a.what.tmod 4 == 0) = true then beL (IntKind.u32.wrap a.n) 4 else if (a.what.tmod 4 == 1) = true then beL a.n 8 else if (a.what.tmod 4 == 2) = true then beL (if a.is then 1 else 0) 4 else encB a.b
def encs (ts : List Thing) : List Int := (ts.map encT).flatten
theorem wrap_u32 (n : Int) : 0 ≤ IntKind.u32.wrap n ∧ IntKind.u32.wrap n < 4294967296 := by rw [IntKind.wrap_u32]; omega
theorem encT_len {a : Thing} (h : a.b.length ≤ 1048576) : (encT a).length ≤ 1048600 := by
  have hp := padZ_le a.b.length
  unfold encT
  split
  · simp [beL_len]
  · split
    · simp [beL_len]
    · split
      · simp [beL_len]
      · simp [encB, beL_len]; omega

def Inv5 (h0 h : Heap) (w : Nat) (bs : List Int) : Prop := ∃ F, WAt h w bs F ∧ (∀ j, F j → h0.next ≤ j) ∧ h0.next ≤ h.next ∧ ∀ j, j < h0.next → h.get j = h0.get j
def Sh5 (b w len : Nat) (cut : Int) (i : Nat) (tm : List AV) : Prop := tm.length = 112 ∧ tm[0]? = some (.slice b 0 len len false 5) ∧ tm[1]? = some (.int .i64 cut) ∧ tm[5]? = some (.ptr w 0) ∧ tm[6]? = some (.int .i64 (i : Nat))
theorem inv5 {h0 h h' : Heap} {w : Nat} {bs bs' : List Int} {F F' : Nat → Prop} (hlo : ∀ j, F j → h0.next ≤ j) (hx : h0.next ≤ h.next) (hs : ∀ j, j < h0.next → h.get j = h0.get j) (f : WAt h' w bs' F') (s : Stp h h' F F') : Inv5 h0 h' w bs' :=
  ⟨F', f, fun j hj => (s.2.2 j hj).elim (hlo j) fun e => by omega, by have := s.1; omega, fun j hj => by rw [s.2.1 j (by omega) (fun e => by have := hlo j e; omega)]; exact hs j hj⟩

theorem put_num {h0 h : Heap} {b w len i : Nat} {cut : Int} {bs : List Int} {rows : List (List AV)} {a : Thing} {row : List AV} {tm : List AV} (ht : Sh5 b w len cut i tm) (hb : b < h0.next) (hg : h0.get b = some (.cells rows.flatten true)) (hall : ∀ r ∈ rows, r.length = 5) (hlen : rows.length = len) (hi : rows[i]? = some row) (ha : ThingAt h0 row a) (hi1 : i < 60)
    (hv : Inv5 h0 h w bs) (hbl : bs.length ≤ i * 1048600) (c0 : (a.what.tmod 4 == 0) = true) :
    ∃ tm' h', xcode X1 tab 5 none (.loop body5) tm h = xcode X1 tab 5 none (.loop body5) tm' h' ∧ Sh5 b w len cut (i + 1) tm' ∧ Inv5 h0 h' w (bs ++ encT a) := by
  match tm, ht with
  | a0 :: a1 :: a2 :: a3 :: a4 :: a5 :: a6 :: a7 :: a8 :: a9 :: a10 :: a11 :: a12 :: a13 :: a14 :: a15 :: a16 :: a17 :: a18 :: a19 :: a20 :: a21 :: a22 :: a23 :: a24 :: a25 :: a26 :: a27 :: a28 :: a29 :: a30 :: a31 :: a32 :: a33 :: a34 :: a35 :: a36 :: a37 :: a38 :: a39 :: a40 :: a41 :: a42 :: a43 :: a44 :: a45 :: a46 :: a47 :: a48 :: a49 :: a50 :: a51 :: a52 :: a53 :: a54 :: a55 :: a56 :: a57 :: a58 :: a59 :: a60 :: a61 :: a62 :: a63 :: a64 :: a65 :: a66 :: a67 :: a68 :: a69 :: a70 :: a71 :: a72 :: a73 :: a74 :: a75 :: a76 :: a77 :: a78 :: a79 :: a80 :: a81 :: a82 :: a83 :: a84 :: a85 :: a86 :: a87 :: a88 :: a89 :: a90 :: a91 :: a92 :: a93 :: a94 :: a95 :: a96 :: a97 :: a98 :: a99 :: a100 :: a101 :: a102 :: a103 :: a104 :: a105 :: a106 :: a107 :: a108 :: a109 :: a110 :: a111 :: [], ht =>
  obtain ⟨_, t0, t1, t5, t6⟩ := ht
  simp only [List.getElem?_cons_zero, List.getElem?_cons_succ, Option.some.injEq] at t0 t1 t5 t6
  replace t0 := t0.symm; replace t1 := t1.symm; replace t5 := t5.symm; replace t6 := t6.symm
  subst t0 t1 t5 t6
  obtain ⟨F, f, hlo, hx, hsame⟩ := hv
  obtain ⟨v, rfl, hbt0, hmax, hN, hW, hM, hBy⟩ := ha
  have hilt : i < len := by
    rcases Nat.lt_or_ge i rows.length with h | h
    · omega
    · rw [List.getElem?_eq_none h] at hi; cases hi
  have hbt : BytesAt h v a.b := by
    rcases hbt0 with e | ⟨id, off, cap, ex, c, ro, e1, e2, e3, e4, e5⟩
    · exact .inl e
    · exact .inr ⟨id, off, cap, ex, c, ro, e1, e2, (hsame id (Heap.lt_of_get e3)).trans e3, e4, e5⟩
  have hgh := (hsame b hb).trans hg
  have l0 := load_cell hgh hall hi (k := 0) rfl
  have l1 := load_cell hgh hall hi (k := 1) rfl
  have l2 := load_cell hgh hall hi (k := 2) rfl
  have l3 := load_cell hgh hall hi (k := 3) rfl
  rw [Nat.add_zero] at l0
  have hw : IntKind.i64.wrap ((i : Int) + 1) = ((i + 1 : Nat) : Int) := by
    rw [IntWalk.i64_in _ (by omega)]; simp
  have hlt : (i : Int) < (len : Int) := by omega
  have hlt2 : (i : Int) < 60 := by omega
  have hix : (0 : Int) ≤ (i : Int) ∧ (i : Int) < (len : Int) := by omega
  have hin : 0 + (i : Int).toNat * 5 = i * 5 := by omega
  have hu := wrap_u32 a.n
  obtain ⟨H3, F', eW, f3, s3⟩ := W.wNumber_spec f hu.1 hu.2 (by omega)
  replace eW : xcall X1 tab (.fn 8) [.ptr w 0, .int .u32 (IntKind.u32.wrap a.n)] h = some (undefA, H3) := eW
  have henc : encT a = beL (IntKind.u32.wrap a.n) 4 := by simp [encT, c0]
  refine ⟨?tm, H3, ?run, ?sh, by rw [henc]; exact inv5 (bs := bs) hlo hx hsame f3 s3⟩
  case run =>
    rw [show ∀ tm h, xcode X1 tab 5 none (.loop body5) tm h = thenX X1 tab 5 none (.loop body5) (xcode X1 tab 5 none body5 tm h) from fun _ _ => x_loop]
    delta body5
    simp (decide := true) only [note_false, Int.reduceBEq, Int.reduceBNe, x_drawn, l_nil, l_op, l_guard, l_some, l_true, l_false, l_draw, readsA, x_true, x_false, x_seq, x_ops, x_cond, x_skip, x_ret, x_exit, x_block, x_then, x_thenE, x_thenR, x_blockN, x_blockR, x_blockE, s_nil, s_op, s_guard, s_some, s_true, s_false, s_put, s_put0, s_opsR, s_ret, s_norm, aop, ev, evs, List.map_cons, List.map_nil, List.cons_append, List.nil_append, List.append_nil, List.replicate, List.take_succ_cons, List.take_zero, List.take_nil, List.drop_succ_cons, List.drop_zero, List.drop_nil, Nat.zero_add, Nat.add_zero, Nat.reduceAdd, Nat.reduceMul, Nat.reduceLeDiff, Bool.false_eq_true, and_self, List.length_cons, List.length_nil, List.set_cons_zero, List.set_cons_succ, List.getD_cons_zero, List.getD_cons_succ, wantedA, List.getElem?_cons_zero, List.getElem?_cons_succ, q_t, q_f, Bool.not_true, Bool.not_false, b_add, b_sub, b_mul, b_eql, b_neq, b_lss, b_leq, b_gtr, b_geq, b_and, b_or, b_xor, b_quo, b_rem, b_shl, b_shr, unA, Option.map_some, Option.map_none, resA, tupA, Int.reduceLT, not_false_eq_true, not_true_eq_false, decide_true, decide_false, f_bool, c_bool, f_int, c_int, f_str, c_str, f_nilptr, c_nilptr, f_ptr, c_ptr, f_nilsl, c_nilsl, f_slice, c_slice, f_nilmap, c_nilmap, f_map, c_map, f_nilf, c_nilf, f_func, c_func, f_yieldf, c_yieldf, f_nilif, c_nilif, f_iface, c_iface, c_agg, List.all_cons, List.all_nil, Bool.and_true, Bool.true_and, if_true, if_false, ite_true, ite_false, hlt, hlt2, hix, hin, l0, l1, l2, l3, c0, eW, hw]
    rfl
  case sh => exact ⟨rfl, rfl, rfl, rfl, rfl⟩

theorem put_great {h0 h : Heap} {b w len i : Nat} {cut : Int} {bs : List Int} {rows : List (List AV)} {a : Thing} {row : List AV} {tm : List AV} (ht : Sh5 b w len cut i tm) (hb : b < h0.next) (hg : h0.get b = some (.cells rows.flatten true)) (hall : ∀ r ∈ rows, r.length = 5) (hlen : rows.length = len) (hi : rows[i]? = some row) (ha : ThingAt h0 row a) (hi1 : i < 60)
    (hv : Inv5 h0 h w bs) (hbl : bs.length ≤ i * 1048600) (c0 : (a.what.tmod 4 == 0) = false) (c1 : (a.what.tmod 4 == 1) = true) :
    ∃ tm' h', xcode X1 tab 5 none (.loop body5) tm h = xcode X1 tab 5 none (.loop body5) tm' h' ∧ Sh5 b w len cut (i + 1) tm' ∧ Inv5 h0 h' w (bs ++ encT a) := by
  match tm, ht with
  | a0 :: a1 :: a2 :: a3 :: a4 :: a5 :: a6 :: a7 :: a8 :: a9 :: a10 :: a11 :: a12 :: a13 :: a14 :: a15 :: a16 :: a17 :: a18 :: a19 :: a20 :: a21 :: a22 :: a23 :: a24 :: a25 :: a26 :: a27 :: a28 :: a29 :: a30 :: a31 :: a32 :: a33 :: a34 :: a35 :: a36 :: a37 :: a38 :: a39 :: a40 :: a41 :: a42 :: a43 :: a44 :: a45 :: a46 :: a47 :: a48 :: a49 :: a50 :: a51 :: a52 :: a53 :: a54 :: a55 :: a56 :: a57 :: a58 :: a59 :: a60 :: a61 :: a62 :: a63 :: a64 :: a65 :: a66 :: a67 :: a68 :: a69 :: a70 :: a71 :: a72 :: a73 :: a74 :: a75 :: a76 :: a77 :: a78 :: a79 :: a80 :: a81 :: a82 :: a83 :: a84 :: a85 :: a86 :: a87 :: a88 :: a89 :: a90 :: a91 :: a92 :: a93 :: a94 :: a95 :: a96 :: a97 :: a98 :: a99 :: a100 :: a101 :: a102 :: a103 :: a104 :: a105 :: a106 :: a107 :: a108 :: a109 :: a110 :: a111 :: [], ht =>
  obtain ⟨_, t0, t1, t5, t6⟩ := ht
  simp only [List.getElem?_cons_zero, List.getElem?_cons_succ, Option.some.injEq] at t0 t1 t5 t6
  replace t0 := t0.symm; replace t1 := t1.symm; replace t5 := t5.symm; replace t6 := t6.symm
  subst t0 t1 t5 t6
  obtain ⟨F, f, hlo, hx, hsame⟩ := hv
  obtain ⟨v, rfl, hbt0, hmax, hN, hW, hM, hBy⟩ := ha
  have hilt : i < len := by
    rcases Nat.lt_or_ge i rows.length with h | h
    · omega
    · rw [List.getElem?_eq_none h] at hi; cases hi
  have hbt : BytesAt h v a.b := by
    rcases hbt0 with e | ⟨id, off, cap, ex, c, ro, e1, e2, e3, e4, e5⟩
    · exact .inl e
    · exact .inr ⟨id, off, cap, ex, c, ro, e1, e2, (hsame id (Heap.lt_of_get e3)).trans e3, e4, e5⟩
  have hgh := (hsame b hb).trans hg
  have l0 := load_cell hgh hall hi (k := 0) rfl
  have l1 := load_cell hgh hall hi (k := 1) rfl
  have l2 := load_cell hgh hall hi (k := 2) rfl
  have l3 := load_cell hgh hall hi (k := 3) rfl
  rw [Nat.add_zero] at l0
  have hw : IntKind.i64.wrap ((i : Int) + 1) = ((i + 1 : Nat) : Int) := by
    rw [IntWalk.i64_in _ (by omega)]; simp
  have hlt : (i : Int) < (len : Int) := by omega
  have hlt2 : (i : Int) < 60 := by omega
  have hix : (0 : Int) ≤ (i : Int) ∧ (i : Int) < (len : Int) := by omega
  have hin : 0 + (i : Int).toNat * 5 = i * 5 := by omega
  obtain ⟨H3, F', eW, f3, s3⟩ := W.wGreat_spec f hN.1 (by omega)
  replace eW : xcall X1 tab (.fn 10) [.ptr w 0, .int .u64 a.n] h = some (undefA, H3) := eW
  have henc : encT a = beL a.n 8 := by simp [encT, c0, c1]
  refine ⟨?tm, H3, ?run, ?sh, by rw [henc]; exact inv5 (bs := bs) hlo hx hsame f3 s3⟩
  case run =>
    rw [show ∀ tm h, xcode X1 tab 5 none (.loop body5) tm h = thenX X1 tab 5 none (.loop body5) (xcode X1 tab 5 none body5 tm h) from fun _ _ => x_loop]
    delta body5
    simp (decide := true) only [note_false, Int.reduceBEq, Int.reduceBNe, x_drawn, l_nil, l_op, l_guard, l_some, l_true, l_false, l_draw, readsA, x_true, x_false, x_seq, x_ops, x_cond, x_skip, x_ret, x_exit, x_block, x_then, x_thenE, x_thenR, x_blockN, x_blockR, x_blockE, s_nil, s_op, s_guard, s_some, s_true, s_false, s_put, s_put0, s_opsR, s_ret, s_norm, aop, ev, evs, List.map_cons, List.map_nil, List.cons_append, List.nil_append, List.append_nil, List.replicate, List.take_succ_cons, List.take_zero, List.take_nil, List.drop_succ_cons, List.drop_zero, List.drop_nil, Nat.zero_add, Nat.add_zero, Nat.reduceAdd, Nat.reduceMul, Nat.reduceLeDiff, Bool.false_eq_true, and_self, List.length_cons, List.length_nil, List.set_cons_zero, List.set_cons_succ, List.getD_cons_zero, List.getD_cons_succ, wantedA, List.getElem?_cons_zero, List.getElem?_cons_succ, q_t, q_f, Bool.not_true, Bool.not_false, b_add, b_sub, b_mul, b_eql, b_neq, b_lss, b_leq, b_gtr, b_geq, b_and, b_or, b_xor, b_quo, b_rem, b_shl, b_shr, unA, Option.map_some, Option.map_none, resA, tupA, Int.reduceLT, not_false_eq_true, not_true_eq_false, decide_true, decide_false, f_bool, c_bool, f_int, c_int, f_str, c_str, f_nilptr, c_nilptr, f_ptr, c_ptr, f_nilsl, c_nilsl, f_slice, c_slice, f_nilmap, c_nilmap, f_map, c_map, f_nilf, c_nilf, f_func, c_func, f_yieldf, c_yieldf, f_nilif, c_nilif, f_iface, c_iface, c_agg, List.all_cons, List.all_nil, Bool.and_true, Bool.true_and, if_true, if_false, ite_true, ite_false, hlt, hlt2, hix, hin, l0, l1, l2, l3, c0, c1, eW, hw]
    rfl
  case sh => exact ⟨rfl, rfl, rfl, rfl, rfl⟩

theorem put_truth {h0 h : Heap} {b w len i : Nat} {cut : Int} {bs : List Int} {rows : List (List AV)} {a : Thing} {row : List AV} {tm : List AV} (ht : Sh5 b w len cut i tm) (hb : b < h0.next) (hg : h0.get b = some (.cells rows.flatten true)) (hall : ∀ r ∈ rows, r.length = 5) (hlen : rows.length = len) (hi : rows[i]? = some row) (ha : ThingAt h0 row a) (hi1 : i < 60)
    (hv : Inv5 h0 h w bs) (hbl : bs.length ≤ i * 1048600) (c0 : (a.what.tmod 4 == 0) = false) (c1 : (a.what.tmod 4 == 1) = false) (c2 : (a.what.tmod 4 == 2) = true) :
    ∃ tm' h', xcode X1 tab 5 none (.loop body5) tm h = xcode X1 tab 5 none (.loop body5) tm' h' ∧ Sh5 b w len cut (i + 1) tm' ∧ Inv5 h0 h' w (bs ++ encT a) := by
  match tm, ht with
  | a0 :: a1 :: a2 :: a3 :: a4 :: a5 :: a6 :: a7 :: a8 :: a9 :: a10 :: a11 :: a12 :: a13 :: a14 :: a15 :: a16 :: a17 :: a18 :: a19 :: a20 :: a21 :: a22 :: a23 :: a24 :: a25 :: a26 :: a27 :: a28 :: a29 :: a30 :: a31 :: a32 :: a33 :: a34 :: a35 :: a36 :: a37 :: a38 :: a39 :: a40 :: a41 :: a42 :: a43 :: a44 :: a45 :: a46 :: a47 :: a48 :: a49 :: a50 :: a51 :: a52 :: a53 :: a54 :: a55 :: a56 :: a57 :: a58 :: a59 :: a60 :: a61 :: a62 :: a63 :: a64 :: a65 :: a66 :: a67 :: a68 :: a69 :: a70 :: a71 :: a72 :: a73 :: a74 :: a75 :: a76 :: a77 :: a78 :: a79 :: a80 :: a81 :: a82 :: a83 :: a84 :: a85 :: a86 :: a87 :: a88 :: a89 :: a90 :: a91 :: a92 :: a93 :: a94 :: a95 :: a96 :: a97 :: a98 :: a99 :: a100 :: a101 :: a102 :: a103 :: a104 :: a105 :: a106 :: a107 :: a108 :: a109 :: a110 :: a111 :: [], ht =>
  obtain ⟨_, t0, t1, t5, t6⟩ := ht
  simp only [List.getElem?_cons_zero, List.getElem?_cons_succ, Option.some.injEq] at t0 t1 t5 t6
  replace t0 := t0.symm; replace t1 := t1.symm; replace t5 := t5.symm; replace t6 := t6.symm
  subst t0 t1 t5 t6
  obtain ⟨F, f, hlo, hx, hsame⟩ := hv
  obtain ⟨v, rfl, hbt0, hmax, hN, hW, hM, hBy⟩ := ha
  have hilt : i < len := by
    rcases Nat.lt_or_ge i rows.length with h | h
    · omega
    · rw [List.getElem?_eq_none h] at hi; cases hi
  have hbt : BytesAt h v a.b := by
    rcases hbt0 with e | ⟨id, off, cap, ex, c, ro, e1, e2, e3, e4, e5⟩
    · exact .inl e
    · exact .inr ⟨id, off, cap, ex, c, ro, e1, e2, (hsame id (Heap.lt_of_get e3)).trans e3, e4, e5⟩
  have hgh := (hsame b hb).trans hg
  have l0 := load_cell hgh hall hi (k := 0) rfl
  have l1 := load_cell hgh hall hi (k := 1) rfl
  have l2 := load_cell hgh hall hi (k := 2) rfl
  have l3 := load_cell hgh hall hi (k := 3) rfl
  rw [Nat.add_zero] at l0
  have hw : IntKind.i64.wrap ((i : Int) + 1) = ((i + 1 : Nat) : Int) := by
    rw [IntWalk.i64_in _ (by omega)]; simp
  have hlt : (i : Int) < (len : Int) := by omega
  have hlt2 : (i : Int) < 60 := by omega
  have hix : (0 : Int) ≤ (i : Int) ∧ (i : Int) < (len : Int) := by omega
  have hin : 0 + (i : Int).toNat * 5 = i * 5 := by omega
  obtain ⟨H3, F', eW, f3, s3⟩ := W.wTruth_spec f a.is (by omega)
  replace eW : xcall X1 tab (.fn 12) [.ptr w 0, .bool a.is] h = some (undefA, H3) := eW
  have henc : encT a = beL (if a.is then 1 else 0) 4 := by simp [encT, c0, c1, c2]
  refine ⟨?tm, H3, ?run, ?sh, by rw [henc]; exact inv5 (bs := bs) hlo hx hsame f3 s3⟩
  case run =>
    rw [show ∀ tm h, xcode X1 tab 5 none (.loop body5) tm h = thenX X1 tab 5 none (.loop body5) (xcode X1 tab 5 none body5 tm h) from fun _ _ => x_loop]
    delta body5
    simp (decide := true) only [note_false, Int.reduceBEq, Int.reduceBNe, x_drawn, l_nil, l_op, l_guard, l_some, l_true, l_false, l_draw, readsA, x_true, x_false, x_seq, x_ops, x_cond, x_skip, x_ret, x_exit, x_block, x_then, x_thenE, x_thenR, x_blockN, x_blockR, x_blockE, s_nil, s_op, s_guard, s_some, s_true, s_false, s_put, s_put0, s_opsR, s_ret, s_norm, aop, ev, evs, List.map_cons, List.map_nil, List.cons_append, List.nil_append, List.append_nil, List.replicate, List.take_succ_cons, List.take_zero, List.take_nil, List.drop_succ_cons, List.drop_zero, List.drop_nil, Nat.zero_add, Nat.add_zero, Nat.reduceAdd, Nat.reduceMul, Nat.reduceLeDiff, Bool.false_eq_true, and_self, List.length_cons, List.length_nil, List.set_cons_zero, List.set_cons_succ, List.getD_cons_zero, List.getD_cons_succ, wantedA, List.getElem?_cons_zero, List.getElem?_cons_succ, q_t, q_f, Bool.not_true, Bool.not_false, b_add, b_sub, b_mul, b_eql, b_neq, b_lss, b_leq, b_gtr, b_geq, b_and, b_or, b_xor, b_quo, b_rem, b_shl, b_shr, unA, Option.map_some, Option.map_none, resA, tupA, Int.reduceLT, not_false_eq_true, not_true_eq_false, decide_true, decide_false, f_bool, c_bool, f_int, c_int, f_str, c_str, f_nilptr, c_nilptr, f_ptr, c_ptr, f_nilsl, c_nilsl, f_slice, c_slice, f_nilmap, c_nilmap, f_map, c_map, f_nilf, c_nilf, f_func, c_func, f_yieldf, c_yieldf, f_nilif, c_nilif, f_iface, c_iface, c_agg, List.all_cons, List.all_nil, Bool.and_true, Bool.true_and, if_true, if_false, ite_true, ite_false, hlt, hlt2, hix, hin, l0, l1, l2, l3, c0, c1, c2, eW, hw]
    rfl
  case sh => exact ⟨rfl, rfl, rfl, rfl, rfl⟩

theorem put_bytes {h0 h : Heap} {b w len i : Nat} {cut : Int} {bs : List Int} {rows : List (List AV)} {a : Thing} {row : List AV} {tm : List AV} (ht : Sh5 b w len cut i tm) (hb : b < h0.next) (hg : h0.get b = some (.cells rows.flatten true)) (hall : ∀ r ∈ rows, r.length = 5) (hlen : rows.length = len) (hi : rows[i]? = some row) (ha : ThingAt h0 row a) (hi1 : i < 60)
    (hv : Inv5 h0 h w bs) (hbl : bs.length ≤ i * 1048600) (c0 : (a.what.tmod 4 == 0) = false) (c1 : (a.what.tmod 4 == 1) = false) (c2 : (a.what.tmod 4 == 2) = false) :
    ∃ tm' h', xcode X1 tab 5 none (.loop body5) tm h = xcode X1 tab 5 none (.loop body5) tm' h' ∧ Sh5 b w len cut (i + 1) tm' ∧ Inv5 h0 h' w (bs ++ encT a) := by
  match tm, ht with
  | a0 :: a1 :: a2 :: a3 :: a4 :: a5 :: a6 :: a7 :: a8 :: a9 :: a10 :: a11 :: a12 :: a13 :: a14 :: a15 :: a16 :: a17 :: a18 :: a19 :: a20 :: a21 :: a22 :: a23 :: a24 :: a25 :: a26 :: a27 :: a28 :: a29 :: a30 :: a31 :: a32 :: a33 :: a34 :: a35 :: a36 :: a37 :: a38 :: a39 :: a40 :: a41 :: a42 :: a43 :: a44 :: a45 :: a46 :: a47 :: a48 :: a49 :: a50 :: a51 :: a52 :: a53 :: a54 :: a55 :: a56 :: a57 :: a58 :: a59 :: a60 :: a61 :: a62 :: a63 :: a64 :: a65 :: a66 :: a67 :: a68 :: a69 :: a70 :: a71 :: a72 :: a73 :: a74 :: a75 :: a76 :: a77 :: a78 :: a79 :: a80 :: a81 :: a82 :: a83 :: a84 :: a85 :: a86 :: a87 :: a88 :: a89 :: a90 :: a91 :: a92 :: a93 :: a94 :: a95 :: a96 :: a97 :: a98 :: a99 :: a100 :: a101 :: a102 :: a103 :: a104 :: a105 :: a106 :: a107 :: a108 :: a109 :: a110 :: a111 :: [], ht =>
  obtain ⟨_, t0, t1, t5, t6⟩ := ht
  simp only [List.getElem?_cons_zero, List.getElem?_cons_succ, Option.some.injEq] at t0 t1 t5 t6
  replace t0 := t0.symm; replace t1 := t1.symm; replace t5 := t5.symm; replace t6 := t6.symm
  subst t0 t1 t5 t6
  obtain ⟨F, f, hlo, hx, hsame⟩ := hv
  obtain ⟨v, rfl, hbt0, hmax, hN, hW, hM, hBy⟩ := ha
  have hilt : i < len := by
    rcases Nat.lt_or_ge i rows.length with h | h
    · omega
    · rw [List.getElem?_eq_none h] at hi; cases hi
  have hbt : BytesAt h v a.b := by
    rcases hbt0 with e | ⟨id, off, cap, ex, c, ro, e1, e2, e3, e4, e5⟩
    · exact .inl e
    · exact .inr ⟨id, off, cap, ex, c, ro, e1, e2, (hsame id (Heap.lt_of_get e3)).trans e3, e4, e5⟩
  have hgh := (hsame b hb).trans hg
  have l0 := load_cell hgh hall hi (k := 0) rfl
  have l1 := load_cell hgh hall hi (k := 1) rfl
  have l2 := load_cell hgh hall hi (k := 2) rfl
  have l3 := load_cell hgh hall hi (k := 3) rfl
  rw [Nat.add_zero] at l0
  have hw : IntKind.i64.wrap ((i : Int) + 1) = ((i + 1 : Nat) : Int) := by
    rw [IntWalk.i64_in _ (by omega)]; simp
  have hlt : (i : Int) < (len : Int) := by omega
  have hlt2 : (i : Int) < 60 := by omega
  have hix : (0 : Int) ≤ (i : Int) ∧ (i : Int) < (len : Int) := by omega
  have hin : 0 + (i : Int).toNat * 5 = i * 5 := by omega
  have hvF : ∀ id o l c e z, v = .slice id o l c e z → ¬ F id := fun id o l c e z e0 hF => by
    rcases hbt0 with ⟨q, _⟩ | ⟨id2, off, cap, ex, c2, ro, q1, q2, q3, _⟩
    · rw [q] at e0; cases e0
    · rw [q1] at e0; cases e0; have := Heap.lt_of_get q3; have := hlo _ hF; omega
  obtain ⟨H3, F', eW, f3, s3⟩ := W.wBytes_spec f hbt hvF (by omega) (by omega)
  replace eW : xcall X1 tab (.fn 14) [.ptr w 0, v] h = some (undefA, H3) := eW
  have henc : encT a = encB a.b := by simp [encT, c0, c1, c2]
  refine ⟨?tm, H3, ?run, ?sh, by rw [henc]; exact inv5 (bs := bs) hlo hx hsame f3 s3⟩
  case run =>
    rw [show ∀ tm h, xcode X1 tab 5 none (.loop body5) tm h = thenX X1 tab 5 none (.loop body5) (xcode X1 tab 5 none body5 tm h) from fun _ _ => x_loop]
    delta body5
    simp (decide := true) only [note_false, Int.reduceBEq, Int.reduceBNe, x_drawn, l_nil, l_op, l_guard, l_some, l_true, l_false, l_draw, readsA, x_true, x_false, x_seq, x_ops, x_cond, x_skip, x_ret, x_exit, x_block, x_then, x_thenE, x_thenR, x_blockN, x_blockR, x_blockE, s_nil, s_op, s_guard, s_some, s_true, s_false, s_put, s_put0, s_opsR, s_ret, s_norm, aop, ev, evs, List.map_cons, List.map_nil, List.cons_append, List.nil_append, List.append_nil, List.replicate, List.take_succ_cons, List.take_zero, List.take_nil, List.drop_succ_cons, List.drop_zero, List.drop_nil, Nat.zero_add, Nat.add_zero, Nat.reduceAdd, Nat.reduceMul, Nat.reduceLeDiff, Bool.false_eq_true, and_self, List.length_cons, List.length_nil, List.set_cons_zero, List.set_cons_succ, List.getD_cons_zero, List.getD_cons_succ, wantedA, List.getElem?_cons_zero, List.getElem?_cons_succ, q_t, q_f, Bool.not_true, Bool.not_false, b_add, b_sub, b_mul, b_eql, b_neq, b_lss, b_leq, b_gtr, b_geq, b_and, b_or, b_xor, b_quo, b_rem, b_shl, b_shr, unA, Option.map_some, Option.map_none, resA, tupA, Int.reduceLT, not_false_eq_true, not_true_eq_false, decide_true, decide_false, f_bool, c_bool, f_int, c_int, f_str, c_str, f_nilptr, c_nilptr, f_ptr, c_ptr, f_nilsl, c_nilsl, f_slice, c_slice, f_nilmap, c_nilmap, f_map, c_map, f_nilf, c_nilf, f_func, c_func, f_yieldf, c_yieldf, f_nilif, c_nilif, f_iface, c_iface, c_agg, List.all_cons, List.all_nil, Bool.and_true, Bool.true_and, if_true, if_false, ite_true, ite_false, hlt, hlt2, hix, hin, l0, l1, l2, l3, c0, c1, c2, eW, hw]
    rfl
  case sh => exact ⟨rfl, rfl, rfl, rfl, rfl⟩

theorem put_outA {h : Heap} {b w len : Nat} {cut : Int} {i : Nat} {tm : List AV} (ht : Sh5 b w len cut i tm) (hlt : ¬ (i : Int) < (len : Int)) :
    ∃ tm', xcode X1 tab 5 none (.loop body5) tm h = some (.exit 0, tm', h) ∧ Sh5 b w len cut i tm' := by
  match tm, ht with
  | a0 :: a1 :: a2 :: a3 :: a4 :: a5 :: a6 :: a7 :: a8 :: a9 :: a10 :: a11 :: a12 :: a13 :: a14 :: a15 :: a16 :: a17 :: a18 :: a19 :: a20 :: a21 :: a22 :: a23 :: a24 :: a25 :: a26 :: a27 :: a28 :: a29 :: a30 :: a31 :: a32 :: a33 :: a34 :: a35 :: a36 :: a37 :: a38 :: a39 :: a40 :: a41 :: a42 :: a43 :: a44 :: a45 :: a46 :: a47 :: a48 :: a49 :: a50 :: a51 :: a52 :: a53 :: a54 :: a55 :: a56 :: a57 :: a58 :: a59 :: a60 :: a61 :: a62 :: a63 :: a64 :: a65 :: a66 :: a67 :: a68 :: a69 :: a70 :: a71 :: a72 :: a73 :: a74 :: a75 :: a76 :: a77 :: a78 :: a79 :: a80 :: a81 :: a82 :: a83 :: a84 :: a85 :: a86 :: a87 :: a88 :: a89 :: a90 :: a91 :: a92 :: a93 :: a94 :: a95 :: a96 :: a97 :: a98 :: a99 :: a100 :: a101 :: a102 :: a103 :: a104 :: a105 :: a106 :: a107 :: a108 :: a109 :: a110 :: a111 :: [], ht =>
  obtain ⟨_, t0, t1, t5, t6⟩ := ht
  simp only [List.getElem?_cons_zero, List.getElem?_cons_succ, Option.some.injEq] at t0 t1 t5 t6
  replace t0 := t0.symm; replace t1 := t1.symm; replace t5 := t5.symm; replace t6 := t6.symm
  subst t0 t1 t5 t6
  refine ⟨?tm, ?run, ?sh⟩
  case run =>
    rw [show ∀ tm h, xcode X1 tab 5 none (.loop body5) tm h = thenX X1 tab 5 none (.loop body5) (xcode X1 tab 5 none body5 tm h) from fun _ _ => x_loop]
    delta body5
    simp (decide := true) only [note_false, Int.reduceBEq, Int.reduceBNe, x_drawn, l_nil, l_op, l_guard, l_some, l_true, l_false, l_draw, readsA, x_true, x_false, x_seq, x_ops, x_cond, x_skip, x_ret, x_exit, x_block, x_then, x_thenE, x_thenR, x_blockN, x_blockR, x_blockE, s_nil, s_op, s_guard, s_some, s_true, s_false, s_put, s_put0, s_opsR, s_ret, s_norm, aop, ev, evs, List.map_cons, List.map_nil, List.cons_append, List.nil_append, List.append_nil, List.replicate, List.take_succ_cons, List.take_zero, List.take_nil, List.drop_succ_cons, List.drop_zero, List.drop_nil, Nat.zero_add, Nat.add_zero, Nat.reduceAdd, Nat.reduceMul, Nat.reduceLeDiff, Bool.false_eq_true, and_self, List.length_cons, List.length_nil, List.set_cons_zero, List.set_cons_succ, List.getD_cons_zero, List.getD_cons_succ, wantedA, List.getElem?_cons_zero, List.getElem?_cons_succ, q_t, q_f, Bool.not_true, Bool.not_false, b_add, b_sub, b_mul, b_eql, b_neq, b_lss, b_leq, b_gtr, b_geq, b_and, b_or, b_xor, b_quo, b_rem, b_shl, b_shr, unA, Option.map_some, Option.map_none, resA, tupA, Int.reduceLT, not_false_eq_true, not_true_eq_false, decide_true, decide_false, f_bool, c_bool, f_int, c_int, f_str, c_str, f_nilptr, c_nilptr, f_ptr, c_ptr, f_nilsl, c_nilsl, f_slice, c_slice, f_nilmap, c_nilmap, f_map, c_map, f_nilf, c_nilf, f_func, c_func, f_yieldf, c_yieldf, f_nilif, c_nilif, f_iface, c_iface, c_agg, List.all_cons, List.all_nil, Bool.and_true, Bool.true_and, if_true, if_false, ite_true, ite_false, hlt]
    rfl
  case sh => exact ⟨rfl, rfl, rfl, rfl, rfl⟩
theorem put_outB {h : Heap} {b w len : Nat} {cut : Int} {i : Nat} {tm : List AV} (ht : Sh5 b w len cut i tm) (hlt : (i : Int) < (len : Int)) (hlt2 : ¬ (i : Int) < 60) :
    ∃ tm', xcode X1 tab 5 none (.loop body5) tm h = some (.exit 0, tm', h) ∧ Sh5 b w len cut i tm' := by
  match tm, ht with
  | a0 :: a1 :: a2 :: a3 :: a4 :: a5 :: a6 :: a7 :: a8 :: a9 :: a10 :: a11 :: a12 :: a13 :: a14 :: a15 :: a16 :: a17 :: a18 :: a19 :: a20 :: a21 :: a22 :: a23 :: a24 :: a25 :: a26 :: a27 :: a28 :: a29 :: a30 :: a31 :: a32 :: a33 :: a34 :: a35 :: a36 :: a37 :: a38 :: a39 :: a40 :: a41 :: a42 :: a43 :: a44 :: a45 :: a46 :: a47 :: a48 :: a49 :: a50 :: a51 :: a52 :: a53 :: a54 :: a55 :: a56 :: a57 :: a58 :: a59 :: a60 :: a61 :: a62 :: a63 :: a64 :: a65 :: a66 :: a67 :: a68 :: a69 :: a70 :: a71 :: a72 :: a73 :: a74 :: a75 :: a76 :: a77 :: a78 :: a79 :: a80 :: a81 :: a82 :: a83 :: a84 :: a85 :: a86 :: a87 :: a88 :: a89 :: a90 :: a91 :: a92 :: a93 :: a94 :: a95 :: a96 :: a97 :: a98 :: a99 :: a100 :: a101 :: a102 :: a103 :: a104 :: a105 :: a106 :: a107 :: a108 :: a109 :: a110 :: a111 :: [], ht =>
  obtain ⟨_, t0, t1, t5, t6⟩ := ht
  simp only [List.getElem?_cons_zero, List.getElem?_cons_succ, Option.some.injEq] at t0 t1 t5 t6
  replace t0 := t0.symm; replace t1 := t1.symm; replace t5 := t5.symm; replace t6 := t6.symm
  subst t0 t1 t5 t6
  refine ⟨?tm, ?run, ?sh⟩
  case run =>
    rw [show ∀ tm h, xcode X1 tab 5 none (.loop body5) tm h = thenX X1 tab 5 none (.loop body5) (xcode X1 tab 5 none body5 tm h) from fun _ _ => x_loop]
    delta body5
    simp (decide := true) only [note_false, Int.reduceBEq, Int.reduceBNe, x_drawn, l_nil, l_op, l_guard, l_some, l_true, l_false, l_draw, readsA, x_true, x_false, x_seq, x_ops, x_cond, x_skip, x_ret, x_exit, x_block, x_then, x_thenE, x_thenR, x_blockN, x_blockR, x_blockE, s_nil, s_op, s_guard, s_some, s_true, s_false, s_put, s_put0, s_opsR, s_ret, s_norm, aop, ev, evs, List.map_cons, List.map_nil, List.cons_append, List.nil_append, List.append_nil, List.replicate, List.take_succ_cons, List.take_zero, List.take_nil, List.drop_succ_cons, List.drop_zero, List.drop_nil, Nat.zero_add, Nat.add_zero, Nat.reduceAdd, Nat.reduceMul, Nat.reduceLeDiff, Bool.false_eq_true, and_self, List.length_cons, List.length_nil, List.set_cons_zero, List.set_cons_succ, List.getD_cons_zero, List.getD_cons_succ, wantedA, List.getElem?_cons_zero, List.getElem?_cons_succ, q_t, q_f, Bool.not_true, Bool.not_false, b_add, b_sub, b_mul, b_eql, b_neq, b_lss, b_leq, b_gtr, b_geq, b_and, b_or, b_xor, b_quo, b_rem, b_shl, b_shr, unA, Option.map_some, Option.map_none, resA, tupA, Int.reduceLT, not_false_eq_true, not_true_eq_false, decide_true, decide_false, f_bool, c_bool, f_int, c_int, f_str, c_str, f_nilptr, c_nilptr, f_ptr, c_ptr, f_nilsl, c_nilsl, f_slice, c_slice, f_nilmap, c_nilmap, f_map, c_map, f_nilf, c_nilf, f_func, c_func, f_yieldf, c_yieldf, f_nilif, c_nilif, f_iface, c_iface, c_agg, List.all_cons, List.all_nil, Bool.and_true, Bool.true_and, if_true, if_false, ite_true, ite_false, hlt, hlt2]
    rfl
  case sh => exact ⟨rfl, rfl, rfl, rfl, rfl⟩
theorem encs_snoc {ts : List Thing} {i : Nat} {a : Thing} (h : ts[i]? = some a) : encs (ts.take (i + 1)) = encs (ts.take i) ++ encT a := by
  rw [List.take_add_one, h]; simp [encs]
theorem put_loop {h0 : Heap} {b w len : Nat} {cut : Int} {rows : List (List AV)} {ts : List Thing} (hb : b < h0.next) (hg : h0.get b = some (.cells rows.flatten true)) (hall : ∀ r ∈ rows, r.length = 5) (hlen : rows.length = len) (h2 : Things2 h0 rows ts) : ∀ (d i : Nat) (h : Heap) (tm : List AV), i + d = 60 → Sh5 b w len cut i tm → Inv5 h0 h w (encs (ts.take i)) → (encs (ts.take i)).length ≤ i * 1048600 →
    ∃ tm' h' i', xcode X1 tab 5 none (.loop body5) tm h = some (.exit 0, tm', h') ∧ Sh5 b w len cut i' tm' ∧ Inv5 h0 h' w (encs (ts.take 60)) ∧ (encs (ts.take 60)).length ≤ 62916000 := by
  intro d
  induction d with
  | zero =>
    intro i h tm hd ht hv hl
    obtain rfl : i = 60 := by omega
    by_cases hlt : 60 < len
    · obtain ⟨tm', e, e2⟩ := put_outB (h := h) ht (by omega) (by omega)
      exact ⟨tm', h, 60, e, e2, hv, by omega⟩
    · obtain ⟨tm', e, e2⟩ := put_outA (h := h) ht (by omega)
      exact ⟨tm', h, 60, e, e2, hv, by omega⟩
  | succ d ih =>
    intro i h tm hd ht hv hl
    by_cases hlt : i < len
    · have hlt2 : i < rows.length := by omega
      have hr := List.getElem?_eq_getElem hlt2
      obtain ⟨a, hta, haa⟩ := h2.2 i _ hr
      have hal : (encT a).length ≤ 1048600 := by
        obtain ⟨v, _, _, hmax, _⟩ := haa
        exact encT_len hmax
      have key : ∃ tm' h', xcode X1 tab 5 none (.loop body5) tm h = xcode X1 tab 5 none (.loop body5) tm' h' ∧ Sh5 b w len cut (i + 1) tm' ∧ Inv5 h0 h' w (encs (ts.take i) ++ encT a) := by
        cases c0 : (a.what.tmod 4 == 0)
        · cases c1 : (a.what.tmod 4 == 1)
          · cases c2 : (a.what.tmod 4 == 2)
            · exact put_bytes ht hb hg hall hlen hr haa (by omega) hv hl c0 c1 c2
            · exact put_truth ht hb hg hall hlen hr haa (by omega) hv hl c0 c1 c2
          · exact put_great ht hb hg hall hlen hr haa (by omega) hv hl c0 c1
        · exact put_num ht hb hg hall hlen hr haa (by omega) hv hl c0
      obtain ⟨tm', h', e, ht', hv'⟩ := key
      rw [← encs_snoc hta] at hv'
      obtain ⟨tm2, h2', i2, e2, e3⟩ := ih (i + 1) h' tm' (by omega) ht' hv' (by rw [encs_snoc hta, List.length_append]; omega)
      exact ⟨tm2, h2', i2, e.trans e2, e3⟩
    · obtain ⟨tm', e, e2⟩ := put_outA (h := h) ht (by omega)
      have htk : ts.take i = ts.take 60 := by
        rw [List.take_of_length_le (by rw [h2.1]; omega), List.take_of_length_le (by rw [h2.1]; omega)]
      rw [htk] at hv hl
      exact ⟨tm', h, i, e, e2, hv, by omega⟩
end Go.Proofs.Ytndcokalnpnbgaa.Ya
