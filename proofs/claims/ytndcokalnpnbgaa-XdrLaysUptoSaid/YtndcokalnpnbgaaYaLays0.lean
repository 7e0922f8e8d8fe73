/-
  Xdr, law XdrLays: its rounds.
-/
import Derived.Test.YtndcokalnpnbgaaYaXdrSpec
namespace Go.Proofs.Ytndcokalnpnbgaa.Ya
open Go.Ya
set_option linter.unusedVariables false
set_option linter.unusedSimpArgs false
set_option maxRecDepth 100000
set_option maxHeartbeats 8000000

def body3 : SC := (.seq (.seq (.ops [⟨some 14, .mov (.t 7), none⟩, ⟨some 15, .mov (.t 0), none⟩, ⟨some 16, .len (.sl) (.t 15), none⟩, ⟨some 17, .bin (.lss) (.other) (.t 14) (.t 16), none⟩, ⟨some 18, .mov (.t 17), none⟩, ⟨some 19, .mov (.t 7), some (18, true)⟩, ⟨some 20, .bin (.lss) (.other) (.t 19) (.c (.int (.i64) 100)), some (18, true)⟩, ⟨some 21, .pick (.t 18) (.t 20) (.c (.bool false)), none⟩]) (.cond (.t 21) (.skip) (.exit 0))) (.seq (.block 1 (.seq (.ops [⟨some 24, .mov (.t 0), none⟩, ⟨some 25, .mov (.t 7), none⟩, ⟨some 26, .idxAddrSl 5 (.t 24) (.t 25), none⟩, ⟨some 27, .load true 5 (.t 26), none⟩, ⟨some 8, .box (.c (.agg [.int (.u8) 0, .int (.u64) 0, .bool false, .nilsl, .int (.i64) 0])), none⟩, ⟨none, .store 5 (.t 8) (.t 27), none⟩]) (.seq (.ops [⟨some 28, .fieldAddr 3 (.t 8), none⟩, ⟨some 29, .load false 1 (.t 28), none⟩, ⟨some 30, .call 7 [.t 29], none⟩, ⟨some 9, .mov (.t 30), none⟩]) (.seq (.seq (.ops [⟨some 31, .fieldAddr 0 (.t 8), none⟩, ⟨some 32, .load false 1 (.t 31), none⟩, ⟨some 33, .bin (.rem) (.other) (.t 32) (.c (.int (.u8) 4)), none⟩]) (.block 2 (.seq (.ops [⟨some 43, .bin (.eql) (.other) (.t 33) (.c (.int (.u8) 0)), none⟩, ⟨some 42, .mov (.t 43), none⟩]) (.cond (.t 42) (.seq (.ops [⟨some 44, .mov (.t 5), none⟩, ⟨some 45, .fieldAddr 1 (.t 8), none⟩, ⟨some 46, .load false 1 (.t 45), none⟩, ⟨some 47, .convInt (.u32) (.t 46), none⟩, ⟨some 48, .call 8 [.t 44, .t 47], none⟩]) (.ops [⟨some 49, .mov (.t 6), none⟩, ⟨some 50, .fieldAddr 1 (.t 8), none⟩, ⟨some 51, .load false 1 (.t 50), none⟩, ⟨some 52, .convInt (.u32) (.t 51), none⟩, ⟨some 53, .call 9 [.t 52], none⟩, ⟨some 54, .append 1 1 (.t 49) (.t 53), none⟩, ⟨some 6, .mov (.t 54), none⟩])) (.seq (.ops [⟨some 56, .bin (.eql) (.other) (.t 33) (.c (.int (.u8) 1)), none⟩, ⟨some 55, .mov (.t 56), none⟩]) (.cond (.t 55) (.seq (.ops [⟨some 57, .mov (.t 5), none⟩, ⟨some 58, .fieldAddr 1 (.t 8), none⟩, ⟨some 59, .load false 1 (.t 58), none⟩, ⟨some 60, .call 10 [.t 57, .t 59], none⟩]) (.ops [⟨some 61, .mov (.t 6), none⟩, ⟨some 62, .fieldAddr 1 (.t 8), none⟩, ⟨some 63, .load false 1 (.t 62), none⟩, ⟨some 64, .call 11 [.t 63], none⟩, ⟨some 65, .append 1 1 (.t 61) (.t 64), none⟩, ⟨some 6, .mov (.t 65), none⟩])) (.seq (.ops [⟨some 67, .bin (.eql) (.other) (.t 33) (.c (.int (.u8) 2)), none⟩, ⟨some 66, .mov (.t 67), none⟩]) (.cond (.t 66) (.seq (.ops [⟨some 68, .mov (.t 5), none⟩, ⟨some 69, .fieldAddr 2 (.t 8), none⟩, ⟨some 70, .load false 1 (.t 69), none⟩, ⟨some 71, .call 12 [.t 68, .t 70], none⟩]) (.ops [⟨some 72, .mov (.t 6), none⟩, ⟨some 73, .fieldAddr 2 (.t 8), none⟩, ⟨some 74, .load false 1 (.t 73), none⟩, ⟨some 75, .call 13 [.t 74], none⟩, ⟨some 76, .append 1 1 (.t 72) (.t 75), none⟩, ⟨some 6, .mov (.t 76), none⟩])) (.seq (.ops [⟨some 34, .mov (.t 5), none⟩, ⟨some 35, .mov (.t 9), none⟩, ⟨some 36, .call 14 [.t 34, .t 35], none⟩]) (.ops [⟨some 37, .mov (.t 6), none⟩, ⟨some 38, .fieldAddr 3 (.t 8), none⟩, ⟨some 39, .load false 1 (.t 38), none⟩, ⟨some 40, .call 15 [.t 39], none⟩, ⟨some 41, .append 1 1 (.t 37) (.t 40), none⟩, ⟨some 6, .mov (.t 41), none⟩])))))))))) (.seq (.ops [⟨some 77, .mov (.t 9), none⟩, ⟨some 78, .fieldAddr 3 (.t 8), none⟩, ⟨some 79, .load false 1 (.t 78), none⟩, ⟨some 80, .call 16 [.t 77, .t 79], none⟩, ⟨some 81, .un (.not) (.t 80), none⟩]) (.cond (.t 81) (.seq (.ops [⟨some 4, .mov (.c (.bool false)), none⟩]) (.ret)) (.skip))))))) (.ops [⟨some 22, .mov (.t 7), none⟩, ⟨some 23, .bin (.add) (.other) (.t 22) (.c (.int (.i64) 1)), none⟩, ⟨some 7, .mov (.t 23), none⟩])))
def tail3 : SC := (.seq (.ops [⟨some 82, .mov (.t 5), none⟩, ⟨some 83, .call 17 [.t 82], none⟩, ⟨some 10, .mov (.t 83), none⟩]) (.seq (.ops [⟨some 84, .mov (.t 10), none⟩, ⟨some 85, .mov (.t 6), none⟩, ⟨some 86, .call 18 [.t 84, .t 85], none⟩, ⟨some 11, .mov (.t 86), none⟩]) (.seq (.ops [⟨some 87, .mov (.t 10), none⟩, ⟨some 88, .mov (.t 1), none⟩, ⟨some 89, .bin (.or) (.other) (.t 88) (.c (.int (.u8) 1)), none⟩, ⟨some 90, .call 19 [.t 87, .t 89], none⟩]) (.seq (.ops [⟨some 91, .mov (.t 11), none⟩, ⟨some 92, .mov (.t 91), none⟩, ⟨some 93, .mov (.t 5), some (92, true)⟩, ⟨some 94, .call 17 [.t 93], some (92, true)⟩, ⟨some 95, .mov (.t 6), some (92, true)⟩, ⟨some 96, .call 18 [.t 94, .t 95], some (92, true)⟩, ⟨some 97, .pick (.t 92) (.t 96) (.c (.bool false)), none⟩, ⟨some 98, .mov (.t 97), none⟩, ⟨some 99, .call 20 [], some (98, true)⟩, ⟨some 100, .pick (.t 98) (.t 99) (.c (.bool false)), none⟩, ⟨some 4, .mov (.t 100), none⟩]) (.ret)))))
theorem body3_eq : sf3.body = .seq (.ops [⟨some 4, .mov (.c (.bool false)), none⟩]) (.seq (.ops [⟨some 12, .build [.nilsl] [], none⟩, ⟨some 13, .box (.t 12), none⟩, ⟨some 5, .mov (.t 13), none⟩]) (.seq (.ops [⟨some 6, .mov (.c (.nilsl)), none⟩]) (.seq (.seq (.ops [⟨some 7, .mov (.c (.int (.i64) 0)), none⟩]) (.block 0 (.loop body3))) tail3))) := rfl

def Inv (h0 h : Heap) (w : Nat) (want : AV) (bs : List Int) : Prop := ∃ F b, WAt h w bs F ∧ BufAt h want b bs ∧ (want ≠ .nilsl → h0.next ≤ b ∧ b < h.next ∧ ¬ F b) ∧ (∀ j, F j → h0.next ≤ j) ∧ h0.next ≤ h.next ∧ ∀ j, j < h0.next → h.get j = h0.get j

theorem rest {h0 h H2 H3 H4 : Heap} {w wd b : Nat} {want v x : AV} {bs enc xs : List Int} {F F' : Nat → Prop}
    (f : WAt h w bs F) (hb : BufAt h want b bs) (hwn : want ≠ .nilsl → h0.next ≤ b ∧ b < h.next ∧ ¬ F b) (hlo : ∀ j, F j → h0.next ≤ j) (hx : h0.next ≤ h.next) (hs : ∀ j, j < h0.next → h.get j = h0.get j)
    (g2 : Grow h H2) (hwd : WideAt H2 wd xs) (hwd2 : h.next ≤ wd) (f3 : WAt H3 w (bs ++ enc) F') (s3 : Stp H2 H3 F F') (g4 : Grow H3 H4) (hv : BytesAt H4 v enc) (hxb : BytesAt h0 x xs) (hl : bs.length + enc.length ≤ 140737488355328) :
    ∃ want' H5, appendA H4 1 1 want v = some (want', H5) ∧ want'.flat = true ∧ Inv h0 H5 w want' (bs ++ enc) ∧ xcall X1 tab (.fn 16) [.slice wd 0 xs.length (xs.length + 3) false 1, x] H5 = some (.bool true, H5) ∧
      ∀ j, h.next ≤ j → j < H2.next → H3.get j = H2.get j ∧ H5.get j = H2.get j := by
  have q2 := g2.1
  have q3 := s3.1
  have q4 := g4.1
  have hFn : ∀ j, h.next ≤ j → ¬ F j := fun j hj e => by have := f.2.1 j e; omega
  have hb4 : BufAt H4 want b bs := by
    by_cases hn : want = .nilsl
    · rcases hb with e | ⟨cap, rest, e, _⟩
      · exact .inl e
      · rw [hn] at e; cases e
    · obtain ⟨b1, b2, b3⟩ := hwn hn
      exact hb.keep fun o e => by rw [g4.2 b (by omega), s3.2.1 b (by omega) b3, g2.2 b b2]; exact e
  obtain ⟨want', H5, b', hap, hb5, x1, x2, x3, x4⟩ := hb4.append hv hl
  have hjb : ∀ j, j < H4.next → (want ≠ .nilsl → j ≠ b) → H5.get j = H4.get j := fun j j1 j2 => x2 j j1 (by
    by_cases hn : want = .nilsl
    · exact .inl hn
    · exact .inr (j2 hn))
  have hF'b : want ≠ .nilsl → ¬ F' b := fun hn e => by
    obtain ⟨b1, b2, b3⟩ := hwn hn
    rcases s3.2.2 b e with q | q
    · exact b3 q
    · omega
  have hF'lt : ∀ j, F' j → j < H3.next := f3.2.1
  have hbase : ∀ j, j < h0.next → H5.get j = h0.get j := fun j hj => by
    rw [hjb j (by omega) (fun hn => by have := (hwn hn).1; omega), g4.2 j (by omega), s3.2.1 j (by omega) (fun e => by have := hlo j e; omega), g2.2 j (by omega), hs j hj]
  have hmid : ∀ j, h.next ≤ j → j < H2.next → H3.get j = H2.get j ∧ H5.get j = H2.get j := fun j j1 j2 => by
    have e3 := s3.2.1 j j2 (hFn j j1)
    exact ⟨e3, by rw [hjb j (by omega) (fun hn => by have := (hwn hn).2.1; omega), g4.2 j (by omega), e3]⟩
  refine ⟨want', H5, hap, hb5.flat, ⟨F', b', (f3.grow g4).keep x1 fun j hj => hjb j (by have := hF'lt j hj; omega) (fun hn e => hF'b hn (e ▸ hj)), hb5, fun hn => ?_, fun j hj => ?_, by omega, hbase⟩, ?_, hmid⟩
  · have := x4 hn
    rcases x3 hn with ⟨q1, rfl⟩ | q
    · exact ⟨(hwn q1).1, this, hF'b q1⟩
    · exact ⟨by omega, this, fun e => by have := hF'lt _ e; omega⟩
  · rcases s3.2.2 j hj with e | e
    · exact hlo j e
    · omega
  · have hw1 := Heap.lt_of_get hwd.1
    have hw2 := Heap.byteAt_lt hwd.2
    refine left_wide hk16 (hwd.keep (hmid wd hwd2 hw1).2 (hmid (wd + 1) (by omega) hw2).2) ?_
    rcases hxb with e | ⟨id, off, cap, ex, c, ro, e1, e2, e3, e4, e5⟩
    · exact .inl e
    · exact .inr ⟨id, off, cap, ex, c, ro, e1, e2, (hbase id (Heap.lt_of_get e3)).trans e3, e4, e5⟩
def Sh3 (b w len : Nat) (by_ : Int) (want : AV) (i : Nat) (tm : List AV) : Prop := tm.length = 101 ∧ tm[0]? = some (.slice b 0 len len false 5) ∧ tm[1]? = some (.int .u8 by_) ∧ tm[5]? = some (.ptr w 0) ∧ tm[6]? = some want ∧ tm[7]? = some (.int .i64 (i : Nat))
theorem wrap_u32 (n : Int) : 0 ≤ IntKind.u32.wrap n ∧ IntKind.u32.wrap n < 4294967296 := by rw [IntKind.wrap_u32]; omega

theorem lays_num {h0 h : Heap} {b w len i : Nat} {by_ : Int} {want : AV} {bs : List Int} {rows : List (List AV)} {a : Thing} {row : List AV} {tm : List AV} (ht : Sh3 b w len by_ want i tm) (hb : b < h0.next) (hg : h0.get b = some (.cells rows.flatten true)) (hall : ∀ r ∈ rows, r.length = 5) (hlen : rows.length = len) (hi : rows[i]? = some row) (ha : ThingAt h0 row a) (hi1 : i < 100)
    (hv : Inv h0 h w want bs) (hbl : bs.length ≤ i * 2000000) (c0 : (a.what.tmod 4 == 0) = true) :
    ∃ tm' h' want' bs', xcode X1 tab 3 none (.loop body3) tm h = xcode X1 tab 3 none (.loop body3) tm' h' ∧ Sh3 b w len by_ want' (i + 1) tm' ∧ Inv h0 h' w want' bs' ∧ bs'.length ≤ (i + 1) * 2000000 := by
  match tm, ht with
  | a0 :: a1 :: a2 :: a3 :: a4 :: a5 :: a6 :: a7 :: a8 :: a9 :: a10 :: a11 :: a12 :: a13 :: a14 :: a15 :: a16 :: a17 :: a18 :: a19 :: a20 :: a21 :: a22 :: a23 :: a24 :: a25 :: a26 :: a27 :: a28 :: a29 :: a30 :: a31 :: a32 :: a33 :: a34 :: a35 :: a36 :: a37 :: a38 :: a39 :: a40 :: a41 :: a42 :: a43 :: a44 :: a45 :: a46 :: a47 :: a48 :: a49 :: a50 :: a51 :: a52 :: a53 :: a54 :: a55 :: a56 :: a57 :: a58 :: a59 :: a60 :: a61 :: a62 :: a63 :: a64 :: a65 :: a66 :: a67 :: a68 :: a69 :: a70 :: a71 :: a72 :: a73 :: a74 :: a75 :: a76 :: a77 :: a78 :: a79 :: a80 :: a81 :: a82 :: a83 :: a84 :: a85 :: a86 :: a87 :: a88 :: a89 :: a90 :: a91 :: a92 :: a93 :: a94 :: a95 :: a96 :: a97 :: a98 :: a99 :: a100 :: [], ht =>
  obtain ⟨_, t0, t1, t5, t6, t7⟩ := ht
  simp only [List.getElem?_cons_zero, List.getElem?_cons_succ, Option.some.injEq] at t0 t1 t5 t6 t7
  replace t0 := t0.symm; replace t1 := t1.symm; replace t5 := t5.symm; replace t6 := t6.symm; replace t7 := t7.symm
  subst t0 t1 t5 t6 t7
  obtain ⟨F, bw, f, hbw, hwn, hlo, hx, hsame⟩ := hv
  obtain ⟨v, rfl, hbt0, hmax, hN, hW, hM⟩ := ha
  have hilt : i < len := by
    rcases Nat.lt_or_ge i rows.length with h | h
    · omega
    · rw [List.getElem?_eq_none h] at hi; cases hi
  have hbt : BytesAt h v a.b := by
    rcases hbt0 with e | ⟨id, off, cap, ex, c, ro, e1, e2, e3, e4, e5⟩
    · exact .inl e
    · exact .inr ⟨id, off, cap, ex, c, ro, e1, e2, (hsame id (Heap.lt_of_get e3)).trans e3, e4, e5⟩
  have hfv : v.flat = true := by rcases hbt with ⟨rfl, _⟩ | ⟨_, _, _, _, _, _, rfl, _⟩ <;> rfl
  have ldr := load_row ((hsame b hb).trans hg) hall hi
  have hw : IntKind.i64.wrap ((i : Int) + 1) = ((i + 1 : Nat) : Int) := by
    rw [IntWalk.i64_in _ (by omega)]; simp
  have hlt : (i : Int) < (len : Int) := by omega
  have hlt2 : (i : Int) < 100 := by omega
  have hix : (0 : Int) ≤ (i : Int) ∧ (i : Int) < (len : Int) := by omega
  have hin : 0 + (i : Int).toNat * 5 = i * 5 := by omega
  have hH : ∃ H, (h.alloc (.cells [.int .u8 0, .int .u64 0, .bool false, .nilsl, .int .i64 0] false)).set h.next (.cells [.int .u8 a.what, .int .u64 a.n, .bool a.is, v, .int .i64 a.most] false) = H ∧ Grow h H ∧ H.next = h.next + 1 ∧ H.get h.next = some (.cells [.int .u8 a.what, .int .u64 a.n, .bool a.is, v, .int .i64 a.most] false) :=
    ⟨_, rfl, Grow.set (.alloc _ _) _ (Nat.le_refl _) (by simp), by simp, by rw [get_set, if_pos rfl, if_pos (by simp)]⟩
  obtain ⟨H1, hA1, gA1, hn1, G8⟩ := hH
  have hst1 : storeA (h.alloc (.cells [.int .u8 0, .int .u64 0, .bool false, .nilsl, .int .i64 0] false)) h.next 0 [.int .u8 a.what, .int .u64 a.n, .bool a.is, v, .int .i64 a.most] = some H1 := by
    rw [← hA1]; simp [storeA, Heap.get_alloc, splice]
  have q1 := gA1.1
  have hFn : ∀ j, h.next ≤ j → ¬ F j := fun j hj e => by have := f.2.1 j e; omega
  obtain ⟨wd, H2, e7, g2, kw, kg, km⟩ := wide_spec (X := X1) (SP := tab) (f := 7) (fC := 34) (fun _ _ => rfl) (fun _ _ => rfl) (show tab 7 = some (wideS 34) from rfl) (show tab 34 = some copyS from rfl) (hbt.grow gA1) (by omega)
  have g02 := gA1.trans g2
  have q2 := g2.1
  have hwd : WideAt H2 wd a.b := ⟨kg, km⟩
  have G8b := g2.get G8
  have f2 := f.grow g02
  have hu := wrap_u32 a.n
  obtain ⟨H3, F', eW, f3, s3⟩ := W.wNumber_spec f2 hu.1 hu.2 (by omega)
  obtain ⟨rv, rb, H4, eR, g4, hrv, _⟩ := W.rNumber_spec hu.1 hu.2 H3
  replace eW : xcall X1 tab (.fn 8) [.ptr w 0, .int .u32 (IntKind.u32.wrap a.n)] H2 = some (undefA, H3) := eW
  replace eR : xcall X1 tab (.fn 9) [.int .u32 (IntKind.u32.wrap a.n)] H3 = some (rv, H4) := eR
  obtain ⟨want', H5, hap, hfw, hinv, e16, hmid⟩ := rest f hbw hwn hlo hx hsame g02 hwd (by omega) f3 s3 g4 hrv.at hbt0 (by simp [beL_len]; omega)
  have G8c := (hmid h.next (Nat.le_refl _) (by omega)).1.trans G8b
  have G8d := (hmid h.next (Nat.le_refl _) (by omega)).2.trans G8b
  have la3 : loadA H1 false 1 h.next 3 = some v := by simp [loadA, G8]
  have la0 : loadA H2 false 1 h.next 0 = some (.int .u8 a.what) := by simp [loadA, G8b]
  have lz : loadA H5 false 1 h.next 3 = some v := by simp [loadA, G8d]
  have m1 : loadA H2 false 1 h.next 1 = some (.int .u64 a.n) := by simp [loadA, G8b]
  have m2 : loadA H3 false 1 h.next 1 = some (.int .u64 a.n) := by simp [loadA, G8c]
  refine ⟨?tm, H5, want', bs ++ beL (IntKind.u32.wrap a.n) 4, ?run, ?sh, hinv, by simp [beL_len]; omega⟩
  case run =>
    rw [show ∀ tm h, xcode X1 tab 3 none (.loop body3) tm h = thenX X1 tab 3 none (.loop body3) (xcode X1 tab 3 none body3 tm h) from fun _ _ => x_loop]
    delta body3
    simp (decide := true) only [note_false, Int.reduceBEq, Int.reduceBNe, x_drawn, l_nil, l_op, l_guard, l_some, l_true, l_false, l_draw, readsA, x_true, x_false, x_seq, x_ops, x_cond, x_skip, x_ret, x_exit, x_block, x_then, x_thenE, x_thenR, x_blockN, x_blockR, x_blockE, s_nil, s_op, s_guard, s_some, s_true, s_false, s_put, s_put0, s_opsR, s_ret, s_norm, aop, ev, evs, List.map_cons, List.map_nil, List.cons_append, List.nil_append, List.append_nil, List.replicate, List.take_succ_cons, List.take_zero, List.take_nil, List.drop_succ_cons, List.drop_zero, List.drop_nil, Nat.zero_add, Nat.add_zero, Nat.reduceAdd, Nat.reduceMul, Nat.reduceLeDiff, Bool.false_eq_true, and_self, List.length_cons, List.length_nil, List.set_cons_zero, List.set_cons_succ, List.getD_cons_zero, List.getD_cons_succ, wantedA, List.getElem?_cons_zero, List.getElem?_cons_succ, q_t, q_f, Bool.not_true, Bool.not_false, b_add, b_sub, b_mul, b_eql, b_neq, b_lss, b_leq, b_gtr, b_geq, b_and, b_or, b_xor, b_quo, b_rem, b_shl, b_shr, unA, Option.map_some, Option.map_none, resA, tupA, Int.reduceLT, not_false_eq_true, not_true_eq_false, decide_true, decide_false, f_bool, c_bool, f_int, c_int, f_str, c_str, f_nilptr, c_nilptr, f_ptr, c_ptr, f_nilsl, c_nilsl, f_slice, c_slice, f_nilmap, c_nilmap, f_map, c_map, f_nilf, c_nilf, f_func, c_func, f_yieldf, c_yieldf, f_nilif, c_nilif, f_iface, c_iface, c_agg, List.all_cons, List.all_nil, Bool.and_true, Bool.true_and, if_true, if_false, ite_true, ite_false, hlt, hlt2, hix, hin, ldr, hst1, la3, e7, la0, c0, m1, m2, eW, eR, hap, lz, e16, hw, hfv, hfw]
    rfl
  case sh => exact ⟨rfl, rfl, rfl, rfl, rfl, rfl⟩

theorem lays_great {h0 h : Heap} {b w len i : Nat} {by_ : Int} {want : AV} {bs : List Int} {rows : List (List AV)} {a : Thing} {row : List AV} {tm : List AV} (ht : Sh3 b w len by_ want i tm) (hb : b < h0.next) (hg : h0.get b = some (.cells rows.flatten true)) (hall : ∀ r ∈ rows, r.length = 5) (hlen : rows.length = len) (hi : rows[i]? = some row) (ha : ThingAt h0 row a) (hi1 : i < 100)
    (hv : Inv h0 h w want bs) (hbl : bs.length ≤ i * 2000000) (c0 : (a.what.tmod 4 == 0) = false) (c1 : (a.what.tmod 4 == 1) = true) :
    ∃ tm' h' want' bs', xcode X1 tab 3 none (.loop body3) tm h = xcode X1 tab 3 none (.loop body3) tm' h' ∧ Sh3 b w len by_ want' (i + 1) tm' ∧ Inv h0 h' w want' bs' ∧ bs'.length ≤ (i + 1) * 2000000 := by
  match tm, ht with
  | a0 :: a1 :: a2 :: a3 :: a4 :: a5 :: a6 :: a7 :: a8 :: a9 :: a10 :: a11 :: a12 :: a13 :: a14 :: a15 :: a16 :: a17 :: a18 :: a19 :: a20 :: a21 :: a22 :: a23 :: a24 :: a25 :: a26 :: a27 :: a28 :: a29 :: a30 :: a31 :: a32 :: a33 :: a34 :: a35 :: a36 :: a37 :: a38 :: a39 :: a40 :: a41 :: a42 :: a43 :: a44 :: a45 :: a46 :: a47 :: a48 :: a49 :: a50 :: a51 :: a52 :: a53 :: a54 :: a55 :: a56 :: a57 :: a58 :: a59 :: a60 :: a61 :: a62 :: a63 :: a64 :: a65 :: a66 :: a67 :: a68 :: a69 :: a70 :: a71 :: a72 :: a73 :: a74 :: a75 :: a76 :: a77 :: a78 :: a79 :: a80 :: a81 :: a82 :: a83 :: a84 :: a85 :: a86 :: a87 :: a88 :: a89 :: a90 :: a91 :: a92 :: a93 :: a94 :: a95 :: a96 :: a97 :: a98 :: a99 :: a100 :: [], ht =>
  obtain ⟨_, t0, t1, t5, t6, t7⟩ := ht
  simp only [List.getElem?_cons_zero, List.getElem?_cons_succ, Option.some.injEq] at t0 t1 t5 t6 t7
  replace t0 := t0.symm; replace t1 := t1.symm; replace t5 := t5.symm; replace t6 := t6.symm; replace t7 := t7.symm
  subst t0 t1 t5 t6 t7
  obtain ⟨F, bw, f, hbw, hwn, hlo, hx, hsame⟩ := hv
  obtain ⟨v, rfl, hbt0, hmax, hN, hW, hM⟩ := ha
  have hilt : i < len := by
    rcases Nat.lt_or_ge i rows.length with h | h
    · omega
    · rw [List.getElem?_eq_none h] at hi; cases hi
  have hbt : BytesAt h v a.b := by
    rcases hbt0 with e | ⟨id, off, cap, ex, c, ro, e1, e2, e3, e4, e5⟩
    · exact .inl e
    · exact .inr ⟨id, off, cap, ex, c, ro, e1, e2, (hsame id (Heap.lt_of_get e3)).trans e3, e4, e5⟩
  have hfv : v.flat = true := by rcases hbt with ⟨rfl, _⟩ | ⟨_, _, _, _, _, _, rfl, _⟩ <;> rfl
  have ldr := load_row ((hsame b hb).trans hg) hall hi
  have hw : IntKind.i64.wrap ((i : Int) + 1) = ((i + 1 : Nat) : Int) := by
    rw [IntWalk.i64_in _ (by omega)]; simp
  have hlt : (i : Int) < (len : Int) := by omega
  have hlt2 : (i : Int) < 100 := by omega
  have hix : (0 : Int) ≤ (i : Int) ∧ (i : Int) < (len : Int) := by omega
  have hin : 0 + (i : Int).toNat * 5 = i * 5 := by omega
  have hH : ∃ H, (h.alloc (.cells [.int .u8 0, .int .u64 0, .bool false, .nilsl, .int .i64 0] false)).set h.next (.cells [.int .u8 a.what, .int .u64 a.n, .bool a.is, v, .int .i64 a.most] false) = H ∧ Grow h H ∧ H.next = h.next + 1 ∧ H.get h.next = some (.cells [.int .u8 a.what, .int .u64 a.n, .bool a.is, v, .int .i64 a.most] false) :=
    ⟨_, rfl, Grow.set (.alloc _ _) _ (Nat.le_refl _) (by simp), by simp, by rw [get_set, if_pos rfl, if_pos (by simp)]⟩
  obtain ⟨H1, hA1, gA1, hn1, G8⟩ := hH
  have hst1 : storeA (h.alloc (.cells [.int .u8 0, .int .u64 0, .bool false, .nilsl, .int .i64 0] false)) h.next 0 [.int .u8 a.what, .int .u64 a.n, .bool a.is, v, .int .i64 a.most] = some H1 := by
    rw [← hA1]; simp [storeA, Heap.get_alloc, splice]
  have q1 := gA1.1
  have hFn : ∀ j, h.next ≤ j → ¬ F j := fun j hj e => by have := f.2.1 j e; omega
  obtain ⟨wd, H2, e7, g2, kw, kg, km⟩ := wide_spec (X := X1) (SP := tab) (f := 7) (fC := 34) (fun _ _ => rfl) (fun _ _ => rfl) (show tab 7 = some (wideS 34) from rfl) (show tab 34 = some copyS from rfl) (hbt.grow gA1) (by omega)
  have g02 := gA1.trans g2
  have q2 := g2.1
  have hwd : WideAt H2 wd a.b := ⟨kg, km⟩
  have G8b := g2.get G8
  have f2 := f.grow g02
  obtain ⟨H3, F', eW, f3, s3⟩ := W.wGreat_spec f2 hN.1 (by omega)
  obtain ⟨rv, rb, H4, eR, g4, hrv, _⟩ := W.rGreat_spec hN.1 H3
  replace eW : xcall X1 tab (.fn 10) [.ptr w 0, .int .u64 a.n] H2 = some (undefA, H3) := eW
  replace eR : xcall X1 tab (.fn 11) [.int .u64 a.n] H3 = some (rv, H4) := eR
  obtain ⟨want', H5, hap, hfw, hinv, e16, hmid⟩ := rest f hbw hwn hlo hx hsame g02 hwd (by omega) f3 s3 g4 hrv.at hbt0 (by simp [beL_len]; omega)
  have G8c := (hmid h.next (Nat.le_refl _) (by omega)).1.trans G8b
  have G8d := (hmid h.next (Nat.le_refl _) (by omega)).2.trans G8b
  have la3 : loadA H1 false 1 h.next 3 = some v := by simp [loadA, G8]
  have la0 : loadA H2 false 1 h.next 0 = some (.int .u8 a.what) := by simp [loadA, G8b]
  have lz : loadA H5 false 1 h.next 3 = some v := by simp [loadA, G8d]
  have m1 : loadA H2 false 1 h.next 1 = some (.int .u64 a.n) := by simp [loadA, G8b]
  have m2 : loadA H3 false 1 h.next 1 = some (.int .u64 a.n) := by simp [loadA, G8c]
  refine ⟨?tm, H5, want', bs ++ beL a.n 8, ?run, ?sh, hinv, by simp [beL_len]; omega⟩
  case run =>
    rw [show ∀ tm h, xcode X1 tab 3 none (.loop body3) tm h = thenX X1 tab 3 none (.loop body3) (xcode X1 tab 3 none body3 tm h) from fun _ _ => x_loop]
    delta body3
    simp (decide := true) only [note_false, Int.reduceBEq, Int.reduceBNe, x_drawn, l_nil, l_op, l_guard, l_some, l_true, l_false, l_draw, readsA, x_true, x_false, x_seq, x_ops, x_cond, x_skip, x_ret, x_exit, x_block, x_then, x_thenE, x_thenR, x_blockN, x_blockR, x_blockE, s_nil, s_op, s_guard, s_some, s_true, s_false, s_put, s_put0, s_opsR, s_ret, s_norm, aop, ev, evs, List.map_cons, List.map_nil, List.cons_append, List.nil_append, List.append_nil, List.replicate, List.take_succ_cons, List.take_zero, List.take_nil, List.drop_succ_cons, List.drop_zero, List.drop_nil, Nat.zero_add, Nat.add_zero, Nat.reduceAdd, Nat.reduceMul, Nat.reduceLeDiff, Bool.false_eq_true, and_self, List.length_cons, List.length_nil, List.set_cons_zero, List.set_cons_succ, List.getD_cons_zero, List.getD_cons_succ, wantedA, List.getElem?_cons_zero, List.getElem?_cons_succ, q_t, q_f, Bool.not_true, Bool.not_false, b_add, b_sub, b_mul, b_eql, b_neq, b_lss, b_leq, b_gtr, b_geq, b_and, b_or, b_xor, b_quo, b_rem, b_shl, b_shr, unA, Option.map_some, Option.map_none, resA, tupA, Int.reduceLT, not_false_eq_true, not_true_eq_false, decide_true, decide_false, f_bool, c_bool, f_int, c_int, f_str, c_str, f_nilptr, c_nilptr, f_ptr, c_ptr, f_nilsl, c_nilsl, f_slice, c_slice, f_nilmap, c_nilmap, f_map, c_map, f_nilf, c_nilf, f_func, c_func, f_yieldf, c_yieldf, f_nilif, c_nilif, f_iface, c_iface, c_agg, List.all_cons, List.all_nil, Bool.and_true, Bool.true_and, if_true, if_false, ite_true, ite_false, hlt, hlt2, hix, hin, ldr, hst1, la3, e7, la0, c0, c1, m1, m2, eW, eR, hap, lz, e16, hw, hfv, hfw]
    rfl
  case sh => exact ⟨rfl, rfl, rfl, rfl, rfl, rfl⟩

theorem lays_truth {h0 h : Heap} {b w len i : Nat} {by_ : Int} {want : AV} {bs : List Int} {rows : List (List AV)} {a : Thing} {row : List AV} {tm : List AV} (ht : Sh3 b w len by_ want i tm) (hb : b < h0.next) (hg : h0.get b = some (.cells rows.flatten true)) (hall : ∀ r ∈ rows, r.length = 5) (hlen : rows.length = len) (hi : rows[i]? = some row) (ha : ThingAt h0 row a) (hi1 : i < 100)
    (hv : Inv h0 h w want bs) (hbl : bs.length ≤ i * 2000000) (c0 : (a.what.tmod 4 == 0) = false) (c1 : (a.what.tmod 4 == 1) = false) (c2 : (a.what.tmod 4 == 2) = true) :
    ∃ tm' h' want' bs', xcode X1 tab 3 none (.loop body3) tm h = xcode X1 tab 3 none (.loop body3) tm' h' ∧ Sh3 b w len by_ want' (i + 1) tm' ∧ Inv h0 h' w want' bs' ∧ bs'.length ≤ (i + 1) * 2000000 := by
  match tm, ht with
  | a0 :: a1 :: a2 :: a3 :: a4 :: a5 :: a6 :: a7 :: a8 :: a9 :: a10 :: a11 :: a12 :: a13 :: a14 :: a15 :: a16 :: a17 :: a18 :: a19 :: a20 :: a21 :: a22 :: a23 :: a24 :: a25 :: a26 :: a27 :: a28 :: a29 :: a30 :: a31 :: a32 :: a33 :: a34 :: a35 :: a36 :: a37 :: a38 :: a39 :: a40 :: a41 :: a42 :: a43 :: a44 :: a45 :: a46 :: a47 :: a48 :: a49 :: a50 :: a51 :: a52 :: a53 :: a54 :: a55 :: a56 :: a57 :: a58 :: a59 :: a60 :: a61 :: a62 :: a63 :: a64 :: a65 :: a66 :: a67 :: a68 :: a69 :: a70 :: a71 :: a72 :: a73 :: a74 :: a75 :: a76 :: a77 :: a78 :: a79 :: a80 :: a81 :: a82 :: a83 :: a84 :: a85 :: a86 :: a87 :: a88 :: a89 :: a90 :: a91 :: a92 :: a93 :: a94 :: a95 :: a96 :: a97 :: a98 :: a99 :: a100 :: [], ht =>
  obtain ⟨_, t0, t1, t5, t6, t7⟩ := ht
  simp only [List.getElem?_cons_zero, List.getElem?_cons_succ, Option.some.injEq] at t0 t1 t5 t6 t7
  replace t0 := t0.symm; replace t1 := t1.symm; replace t5 := t5.symm; replace t6 := t6.symm; replace t7 := t7.symm
  subst t0 t1 t5 t6 t7
  obtain ⟨F, bw, f, hbw, hwn, hlo, hx, hsame⟩ := hv
  obtain ⟨v, rfl, hbt0, hmax, hN, hW, hM⟩ := ha
  have hilt : i < len := by
    rcases Nat.lt_or_ge i rows.length with h | h
    · omega
    · rw [List.getElem?_eq_none h] at hi; cases hi
  have hbt : BytesAt h v a.b := by
    rcases hbt0 with e | ⟨id, off, cap, ex, c, ro, e1, e2, e3, e4, e5⟩
    · exact .inl e
    · exact .inr ⟨id, off, cap, ex, c, ro, e1, e2, (hsame id (Heap.lt_of_get e3)).trans e3, e4, e5⟩
  have hfv : v.flat = true := by rcases hbt with ⟨rfl, _⟩ | ⟨_, _, _, _, _, _, rfl, _⟩ <;> rfl
  have ldr := load_row ((hsame b hb).trans hg) hall hi
  have hw : IntKind.i64.wrap ((i : Int) + 1) = ((i + 1 : Nat) : Int) := by
    rw [IntWalk.i64_in _ (by omega)]; simp
  have hlt : (i : Int) < (len : Int) := by omega
  have hlt2 : (i : Int) < 100 := by omega
  have hix : (0 : Int) ≤ (i : Int) ∧ (i : Int) < (len : Int) := by omega
  have hin : 0 + (i : Int).toNat * 5 = i * 5 := by omega
  have hH : ∃ H, (h.alloc (.cells [.int .u8 0, .int .u64 0, .bool false, .nilsl, .int .i64 0] false)).set h.next (.cells [.int .u8 a.what, .int .u64 a.n, .bool a.is, v, .int .i64 a.most] false) = H ∧ Grow h H ∧ H.next = h.next + 1 ∧ H.get h.next = some (.cells [.int .u8 a.what, .int .u64 a.n, .bool a.is, v, .int .i64 a.most] false) :=
    ⟨_, rfl, Grow.set (.alloc _ _) _ (Nat.le_refl _) (by simp), by simp, by rw [get_set, if_pos rfl, if_pos (by simp)]⟩
  obtain ⟨H1, hA1, gA1, hn1, G8⟩ := hH
  have hst1 : storeA (h.alloc (.cells [.int .u8 0, .int .u64 0, .bool false, .nilsl, .int .i64 0] false)) h.next 0 [.int .u8 a.what, .int .u64 a.n, .bool a.is, v, .int .i64 a.most] = some H1 := by
    rw [← hA1]; simp [storeA, Heap.get_alloc, splice]
  have q1 := gA1.1
  have hFn : ∀ j, h.next ≤ j → ¬ F j := fun j hj e => by have := f.2.1 j e; omega
  obtain ⟨wd, H2, e7, g2, kw, kg, km⟩ := wide_spec (X := X1) (SP := tab) (f := 7) (fC := 34) (fun _ _ => rfl) (fun _ _ => rfl) (show tab 7 = some (wideS 34) from rfl) (show tab 34 = some copyS from rfl) (hbt.grow gA1) (by omega)
  have g02 := gA1.trans g2
  have q2 := g2.1
  have hwd : WideAt H2 wd a.b := ⟨kg, km⟩
  have G8b := g2.get G8
  have f2 := f.grow g02
  obtain ⟨H3, F', eW, f3, s3⟩ := W.wTruth_spec f2 a.is (by omega)
  obtain ⟨rv, rb, H4, eR, g4, hrv, _⟩ := W.rTruth_spec a.is H3
  replace eW : xcall X1 tab (.fn 12) [.ptr w 0, .bool a.is] H2 = some (undefA, H3) := eW
  replace eR : xcall X1 tab (.fn 13) [.bool a.is] H3 = some (rv, H4) := eR
  obtain ⟨want', H5, hap, hfw, hinv, e16, hmid⟩ := rest f hbw hwn hlo hx hsame g02 hwd (by omega) f3 s3 g4 hrv.at hbt0 (by simp [beL_len]; omega)
  have G8c := (hmid h.next (Nat.le_refl _) (by omega)).1.trans G8b
  have G8d := (hmid h.next (Nat.le_refl _) (by omega)).2.trans G8b
  have la3 : loadA H1 false 1 h.next 3 = some v := by simp [loadA, G8]
  have la0 : loadA H2 false 1 h.next 0 = some (.int .u8 a.what) := by simp [loadA, G8b]
  have lz : loadA H5 false 1 h.next 3 = some v := by simp [loadA, G8d]
  have m1 : loadA H2 false 1 h.next 2 = some (.bool a.is) := by simp [loadA, G8b]
  have m2 : loadA H3 false 1 h.next 2 = some (.bool a.is) := by simp [loadA, G8c]
  refine ⟨?tm, H5, want', bs ++ beL (if a.is then 1 else 0) 4, ?run, ?sh, hinv, by simp [beL_len]; omega⟩
  case run =>
    rw [show ∀ tm h, xcode X1 tab 3 none (.loop body3) tm h = thenX X1 tab 3 none (.loop body3) (xcode X1 tab 3 none body3 tm h) from fun _ _ => x_loop]
    delta body3
    simp (decide := true) only [note_false, Int.reduceBEq, Int.reduceBNe, x_drawn, l_nil, l_op, l_guard, l_some, l_true, l_false, l_draw, readsA, x_true, x_false, x_seq, x_ops, x_cond, x_skip, x_ret, x_exit, x_block, x_then, x_thenE, x_thenR, x_blockN, x_blockR, x_blockE, s_nil, s_op, s_guard, s_some, s_true, s_false, s_put, s_put0, s_opsR, s_ret, s_norm, aop, ev, evs, List.map_cons, List.map_nil, List.cons_append, List.nil_append, List.append_nil, List.replicate, List.take_succ_cons, List.take_zero, List.take_nil, List.drop_succ_cons, List.drop_zero, List.drop_nil, Nat.zero_add, Nat.add_zero, Nat.reduceAdd, Nat.reduceMul, Nat.reduceLeDiff, Bool.false_eq_true, and_self, List.length_cons, List.length_nil, List.set_cons_zero, List.set_cons_succ, List.getD_cons_zero, List.getD_cons_succ, wantedA, List.getElem?_cons_zero, List.getElem?_cons_succ, q_t, q_f, Bool.not_true, Bool.not_false, b_add, b_sub, b_mul, b_eql, b_neq, b_lss, b_leq, b_gtr, b_geq, b_and, b_or, b_xor, b_quo, b_rem, b_shl, b_shr, unA, Option.map_some, Option.map_none, resA, tupA, Int.reduceLT, not_false_eq_true, not_true_eq_false, decide_true, decide_false, f_bool, c_bool, f_int, c_int, f_str, c_str, f_nilptr, c_nilptr, f_ptr, c_ptr, f_nilsl, c_nilsl, f_slice, c_slice, f_nilmap, c_nilmap, f_map, c_map, f_nilf, c_nilf, f_func, c_func, f_yieldf, c_yieldf, f_nilif, c_nilif, f_iface, c_iface, c_agg, List.all_cons, List.all_nil, Bool.and_true, Bool.true_and, if_true, if_false, ite_true, ite_false, hlt, hlt2, hix, hin, ldr, hst1, la3, e7, la0, c0, c1, c2, m1, m2, eW, eR, hap, lz, e16, hw, hfv, hfw]
    rfl
  case sh => exact ⟨rfl, rfl, rfl, rfl, rfl, rfl⟩

theorem lays_bytes {h0 h : Heap} {b w len i : Nat} {by_ : Int} {want : AV} {bs : List Int} {rows : List (List AV)} {a : Thing} {row : List AV} {tm : List AV} (ht : Sh3 b w len by_ want i tm) (hb : b < h0.next) (hg : h0.get b = some (.cells rows.flatten true)) (hall : ∀ r ∈ rows, r.length = 5) (hlen : rows.length = len) (hi : rows[i]? = some row) (ha : ThingAt h0 row a) (hi1 : i < 100)
    (hv : Inv h0 h w want bs) (hbl : bs.length ≤ i * 2000000) (c0 : (a.what.tmod 4 == 0) = false) (c1 : (a.what.tmod 4 == 1) = false) (c2 : (a.what.tmod 4 == 2) = false) :
    ∃ tm' h' want' bs', xcode X1 tab 3 none (.loop body3) tm h = xcode X1 tab 3 none (.loop body3) tm' h' ∧ Sh3 b w len by_ want' (i + 1) tm' ∧ Inv h0 h' w want' bs' ∧ bs'.length ≤ (i + 1) * 2000000 := by
  match tm, ht with
  | a0 :: a1 :: a2 :: a3 :: a4 :: a5 :: a6 :: a7 :: a8 :: a9 :: a10 :: a11 :: a12 :: a13 :: a14 :: a15 :: a16 :: a17 :: a18 :: a19 :: a20 :: a21 :: a22 :: a23 :: a24 :: a25 :: a26 :: a27 :: a28 :: a29 :: a30 :: a31 :: a32 :: a33 :: a34 :: a35 :: a36 :: a37 :: a38 :: a39 :: a40 :: a41 :: a42 :: a43 :: a44 :: a45 :: a46 :: a47 :: a48 :: a49 :: a50 :: a51 :: a52 :: a53 :: a54 :: a55 :: a56 :: a57 :: a58 :: a59 :: a60 :: a61 :: a62 :: a63 :: a64 :: a65 :: a66 :: a67 :: a68 :: a69 :: a70 :: a71 :: a72 :: a73 :: a74 :: a75 :: a76 :: a77 :: a78 :: a79 :: a80 :: a81 :: a82 :: a83 :: a84 :: a85 :: a86 :: a87 :: a88 :: a89 :: a90 :: a91 :: a92 :: a93 :: a94 :: a95 :: a96 :: a97 :: a98 :: a99 :: a100 :: [], ht =>
  obtain ⟨_, t0, t1, t5, t6, t7⟩ := ht
  simp only [List.getElem?_cons_zero, List.getElem?_cons_succ, Option.some.injEq] at t0 t1 t5 t6 t7
  replace t0 := t0.symm; replace t1 := t1.symm; replace t5 := t5.symm; replace t6 := t6.symm; replace t7 := t7.symm
  subst t0 t1 t5 t6 t7
  obtain ⟨F, bw, f, hbw, hwn, hlo, hx, hsame⟩ := hv
  obtain ⟨v, rfl, hbt0, hmax, hN, hW, hM⟩ := ha
  have hilt : i < len := by
    rcases Nat.lt_or_ge i rows.length with h | h
    · omega
    · rw [List.getElem?_eq_none h] at hi; cases hi
  have hbt : BytesAt h v a.b := by
    rcases hbt0 with e | ⟨id, off, cap, ex, c, ro, e1, e2, e3, e4, e5⟩
    · exact .inl e
    · exact .inr ⟨id, off, cap, ex, c, ro, e1, e2, (hsame id (Heap.lt_of_get e3)).trans e3, e4, e5⟩
  have hfv : v.flat = true := by rcases hbt with ⟨rfl, _⟩ | ⟨_, _, _, _, _, _, rfl, _⟩ <;> rfl
  have ldr := load_row ((hsame b hb).trans hg) hall hi
  have hw : IntKind.i64.wrap ((i : Int) + 1) = ((i + 1 : Nat) : Int) := by
    rw [IntWalk.i64_in _ (by omega)]; simp
  have hlt : (i : Int) < (len : Int) := by omega
  have hlt2 : (i : Int) < 100 := by omega
  have hix : (0 : Int) ≤ (i : Int) ∧ (i : Int) < (len : Int) := by omega
  have hin : 0 + (i : Int).toNat * 5 = i * 5 := by omega
  have hH : ∃ H, (h.alloc (.cells [.int .u8 0, .int .u64 0, .bool false, .nilsl, .int .i64 0] false)).set h.next (.cells [.int .u8 a.what, .int .u64 a.n, .bool a.is, v, .int .i64 a.most] false) = H ∧ Grow h H ∧ H.next = h.next + 1 ∧ H.get h.next = some (.cells [.int .u8 a.what, .int .u64 a.n, .bool a.is, v, .int .i64 a.most] false) :=
    ⟨_, rfl, Grow.set (.alloc _ _) _ (Nat.le_refl _) (by simp), by simp, by rw [get_set, if_pos rfl, if_pos (by simp)]⟩
  obtain ⟨H1, hA1, gA1, hn1, G8⟩ := hH
  have hst1 : storeA (h.alloc (.cells [.int .u8 0, .int .u64 0, .bool false, .nilsl, .int .i64 0] false)) h.next 0 [.int .u8 a.what, .int .u64 a.n, .bool a.is, v, .int .i64 a.most] = some H1 := by
    rw [← hA1]; simp [storeA, Heap.get_alloc, splice]
  have q1 := gA1.1
  have hFn : ∀ j, h.next ≤ j → ¬ F j := fun j hj e => by have := f.2.1 j e; omega
  obtain ⟨wd, H2, e7, g2, kw, kg, km⟩ := wide_spec (X := X1) (SP := tab) (f := 7) (fC := 34) (fun _ _ => rfl) (fun _ _ => rfl) (show tab 7 = some (wideS 34) from rfl) (show tab 34 = some copyS from rfl) (hbt.grow gA1) (by omega)
  have g02 := gA1.trans g2
  have q2 := g2.1
  have hwd : WideAt H2 wd a.b := ⟨kg, km⟩
  have G8b := g2.get G8
  have f2 := f.grow g02
  obtain ⟨H3, F', eW, f3, s3⟩ := W.wBytes_spec f2 hwd.at (fun id o l c e z e0 => by cases e0; exact hFn _ (by omega)) (by omega) (by omega)
  have hb3 : BytesAt H3 v a.b := by
    rcases hbt0 with e | ⟨id, off, cap, ex, c, ro, e1, e2, e3, e4, e5⟩
    · exact .inl e
    · have hid := Heap.lt_of_get e3
      refine .inr ⟨id, off, cap, ex, c, ro, e1, e2, ?_, e4, e5⟩
      rw [s3.2.1 id (by omega) (fun e => by have := hlo id e; omega), g02.2 id (by omega), hsame id hid]; exact e3
  obtain ⟨rv, rb, H4, eR, g4, hrv, _⟩ := W.rBytes_spec hb3 (by omega)
  replace eW : xcall X1 tab (.fn 14) [.ptr w 0, .slice wd 0 a.b.length (a.b.length + 3) false 1] H2 = some (undefA, H3) := eW
  replace eR : xcall X1 tab (.fn 15) [v] H3 = some (rv, H4) := eR
  have hp := padZ_le a.b.length
  obtain ⟨want', H5, hap, hfw, hinv, e16, hmid⟩ := rest f hbw hwn hlo hx hsame g02 hwd (by omega) f3 s3 g4 hrv.at hbt0 (by simp [encB, beL_len]; omega)
  have G8c := (hmid h.next (Nat.le_refl _) (by omega)).1.trans G8b
  have G8d := (hmid h.next (Nat.le_refl _) (by omega)).2.trans G8b
  have la3 : loadA H1 false 1 h.next 3 = some v := by simp [loadA, G8]
  have la0 : loadA H2 false 1 h.next 0 = some (.int .u8 a.what) := by simp [loadA, G8b]
  have lz : loadA H5 false 1 h.next 3 = some v := by simp [loadA, G8d]
  have m2 : loadA H3 false 1 h.next 3 = some (v) := by simp [loadA, G8c]
  refine ⟨?tm, H5, want', bs ++ encB a.b, ?run, ?sh, hinv, by simp [encB, beL_len]; omega⟩
  case run =>
    rw [show ∀ tm h, xcode X1 tab 3 none (.loop body3) tm h = thenX X1 tab 3 none (.loop body3) (xcode X1 tab 3 none body3 tm h) from fun _ _ => x_loop]
    delta body3
    simp (decide := true) only [note_false, Int.reduceBEq, Int.reduceBNe, x_drawn, l_nil, l_op, l_guard, l_some, l_true, l_false, l_draw, readsA, x_true, x_false, x_seq, x_ops, x_cond, x_skip, x_ret, x_exit, x_block, x_then, x_thenE, x_thenR, x_blockN, x_blockR, x_blockE, s_nil, s_op, s_guard, s_some, s_true, s_false, s_put, s_put0, s_opsR, s_ret, s_norm, aop, ev, evs, List.map_cons, List.map_nil, List.cons_append, List.nil_append, List.append_nil, List.replicate, List.take_succ_cons, List.take_zero, List.take_nil, List.drop_succ_cons, List.drop_zero, List.drop_nil, Nat.zero_add, Nat.add_zero, Nat.reduceAdd, Nat.reduceMul, Nat.reduceLeDiff, Bool.false_eq_true, and_self, List.length_cons, List.length_nil, List.set_cons_zero, List.set_cons_succ, List.getD_cons_zero, List.getD_cons_succ, wantedA, List.getElem?_cons_zero, List.getElem?_cons_succ, q_t, q_f, Bool.not_true, Bool.not_false, b_add, b_sub, b_mul, b_eql, b_neq, b_lss, b_leq, b_gtr, b_geq, b_and, b_or, b_xor, b_quo, b_rem, b_shl, b_shr, unA, Option.map_some, Option.map_none, resA, tupA, Int.reduceLT, not_false_eq_true, not_true_eq_false, decide_true, decide_false, f_bool, c_bool, f_int, c_int, f_str, c_str, f_nilptr, c_nilptr, f_ptr, c_ptr, f_nilsl, c_nilsl, f_slice, c_slice, f_nilmap, c_nilmap, f_map, c_map, f_nilf, c_nilf, f_func, c_func, f_yieldf, c_yieldf, f_nilif, c_nilif, f_iface, c_iface, c_agg, List.all_cons, List.all_nil, Bool.and_true, Bool.true_and, if_true, if_false, ite_true, ite_false, hlt, hlt2, hix, hin, ldr, hst1, la3, e7, la0, c0, c1, c2, m2, eW, eR, hap, lz, e16, hw, hfv, hfw]
    rfl
  case sh => exact ⟨rfl, rfl, rfl, rfl, rfl, rfl⟩

end Go.Proofs.Ytndcokalnpnbgaa.Ya
