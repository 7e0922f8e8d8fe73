/-
  Net, law NetPlays: its rounds.
-/
import Derived.Test.YtdgpjefbdocepaaYaNetFly2
namespace Go.Proofs.Ytdgpjefbdocepaa.Ya
open Go.Ya
set_option linter.unusedVariables false
set_option linter.unusedSimpArgs false
set_option maxRecDepth 100000
set_option maxHeartbeats 8000000

def body4 : SC := (.seq (.seq (.ops [⟨some 19, .mov (.t 7), none⟩, ⟨some 20, .mov (.t 0), none⟩, ⟨some 21, .len (.sl) (.t 20), none⟩, ⟨some 22, .bin (.lss) (.other) (.t 19) (.t 21), none⟩, ⟨some 23, .mov (.t 22), none⟩, ⟨some 24, .mov (.t 7), some (23, true)⟩, ⟨some 25, .bin (.lss) (.other) (.t 24) (.c (.int (.i64) 100)), some (23, true)⟩, ⟨some 26, .pick (.t 23) (.t 25) (.c (.bool false)), none⟩]) (.cond (.t 26) (.skip) (.exit 0))) (.seq (.block 1 (.seq (.ops [⟨some 29, .mov (.t 0), none⟩, ⟨some 30, .mov (.t 7), none⟩, ⟨some 31, .idxAddrSl 5 (.t 29) (.t 30), none⟩, ⟨some 32, .load true 5 (.t 31), none⟩, ⟨some 8, .box (.c (.agg [.int (.i64) 0, .int (.i64) 0, .bool false, .nilsl, .int (.i64) 0])), none⟩, ⟨none, .store 5 (.t 8) (.t 32), none⟩]) (.seq (.seq (.ops [⟨some 33, .fieldAddr 0 (.t 8), none⟩, ⟨some 34, .load false 1 (.t 33), none⟩, ⟨some 35, .bin (.eql) (.other) (.t 34) (.c (.int (.i64) 0)), none⟩]) (.cond (.t 35) (.seq (.ops [⟨some 36, .fieldAddr 1 (.t 8), none⟩, ⟨some 37, .load true 3 (.t 36), none⟩, ⟨some 9, .box (.c (.agg [.int (.i64) 0, .bool false, .nilsl])), none⟩, ⟨none, .store 3 (.t 9) (.t 37), none⟩]) (.seq (.ops [⟨some 38, .fieldAddr 1 (.t 8), none⟩, ⟨some 39, .fieldAddr 2 (.t 38), none⟩, ⟨some 40, .load false 1 (.t 39), none⟩, ⟨some 41, .call 11 [.t 40], none⟩, ⟨some 42, .fieldAddr 2 (.t 9), none⟩, ⟨none, .store 1 (.t 42) (.t 41), none⟩]) (.seq (.seq (.drawOps [⟨some 43, .mov (.t 5), none⟩, ⟨some 44, .load true 3 (.t 9), none⟩, ⟨some 45, .call 7 [.t 43, .t 44], none⟩, ⟨some 46, .mov (.t 6), none⟩, ⟨some 47, .fieldAddr 1 (.t 8), none⟩, ⟨some 48, .load true 3 (.t 47), none⟩, ⟨some 49, .call 12 [.t 46, .t 48], none⟩, ⟨some 50, .bin (.neq) (.other) (.t 45) (.t 49), none⟩, ⟨some 51, .mov (.t 50), none⟩, ⟨some 52, .fieldAddr 2 (.t 9), some (51, false)⟩, ⟨some 53, .load false 1 (.t 52), some (51, false)⟩, ⟨some 54, .fieldAddr 1 (.t 8), some (51, false)⟩, ⟨some 55, .fieldAddr 2 (.t 54), some (51, false)⟩, ⟨some 56, .load false 1 (.t 55), some (51, false)⟩, ⟨some 57, .call 13 [.t 53, .t 56], some (51, false)⟩, ⟨some 58, .un (.not) (.t 57), some (51, false)⟩, ⟨some 59, .pick (.t 51) (.c (.bool true)) (.t 58), none⟩] [(5, 2)]) (.cond (.t 59) (.seq (.ops [⟨some 4, .mov (.c (.bool false)), none⟩]) (.ret)) (.skip))) (.ops [⟨some 60, .fieldAddr 2 (.t 9), none⟩, ⟨some 61, .load false 1 (.t 60), none⟩, ⟨some 62, .mov (.t 1), none⟩, ⟨some 63, .bin (.or) (.other) (.t 62) (.c (.int (.u8) 1)), none⟩, ⟨some 64, .call 14 [.t 61, .t 63], none⟩])))) (.seq (.ops [⟨some 65, .fieldAddr 0 (.t 8), none⟩, ⟨some 66, .load false 1 (.t 65), none⟩, ⟨some 67, .bin (.eql) (.other) (.t 66) (.c (.int (.i64) 3)), none⟩]) (.cond (.t 67) (.seq (.drawOps [⟨some 68, .mov (.t 5), none⟩, ⟨some 69, .fieldAddr 4 (.t 8), none⟩, ⟨some 70, .load false 1 (.t 69), none⟩, ⟨some 71, .call 15 [.t 68, .t 70], none⟩, ⟨some 72, .mov (.t 6), none⟩, ⟨some 73, .fieldAddr 4 (.t 8), none⟩, ⟨some 74, .load false 1 (.t 73), none⟩, ⟨some 75, .call 16 [.t 72, .t 74], none⟩, ⟨some 76, .bin (.neq) (.bool) (.t 71) (.t 75), none⟩] [(6, 3)]) (.cond (.t 76) (.seq (.ops [⟨some 4, .mov (.c (.bool false)), none⟩]) (.ret)) (.skip))) (.seq (.ops [⟨some 78, .mov (.t 5), none⟩, ⟨some 79, .fieldAddr 4 (.t 8), none⟩, ⟨some 80, .load false 1 (.t 79), none⟩, ⟨some 81, .fieldAddr 0 (.t 8), none⟩, ⟨some 82, .load false 1 (.t 81), none⟩, ⟨some 83, .bin (.eql) (.other) (.t 82) (.c (.int (.i64) 2)), none⟩, ⟨some 84, .call 8 [.t 78, .t 80, .t 83], none⟩, ⟨some 77, .mov (.t 84), none⟩, ⟨some 85, .extract (.t 77) 0, none⟩, ⟨some 86, .extract (.t 77) 1, none⟩, ⟨some 10, .box (.c (.agg [.int (.i64) 0, .bool false, .nilsl])), none⟩, ⟨none, .store 3 (.t 10) (.t 85), none⟩, ⟨some 11, .mov (.t 86), none⟩]) (.seq (.ops [⟨some 88, .mov (.t 6), none⟩, ⟨some 89, .fieldAddr 4 (.t 8), none⟩, ⟨some 90, .load false 1 (.t 89), none⟩, ⟨some 91, .fieldAddr 0 (.t 8), none⟩, ⟨some 92, .load false 1 (.t 91), none⟩, ⟨some 93, .bin (.eql) (.other) (.t 92) (.c (.int (.i64) 2)), none⟩, ⟨some 94, .call 17 [.t 88, .t 90, .t 93], none⟩, ⟨some 87, .mov (.t 94), none⟩, ⟨some 95, .extract (.t 87) 0, none⟩, ⟨some 96, .extract (.t 87) 1, none⟩, ⟨some 12, .box (.c (.agg [.int (.i64) 0, .bool false, .nilsl])), none⟩, ⟨none, .store 3 (.t 12) (.t 95), none⟩, ⟨some 13, .mov (.t 96), none⟩]) (.seq (.seq (.ops [⟨some 97, .mov (.t 11), none⟩, ⟨some 98, .mov (.t 13), none⟩, ⟨some 99, .bin (.neq) (.bool) (.t 97) (.t 98), none⟩, ⟨some 100, .mov (.t 99), none⟩, ⟨some 101, .load true 3 (.t 10), some (100, false)⟩, ⟨some 102, .load true 3 (.t 12), some (100, false)⟩, ⟨some 103, .call 18 [.t 101, .t 102], some (100, false)⟩, ⟨some 104, .un (.not) (.t 103), some (100, false)⟩, ⟨some 105, .pick (.t 100) (.c (.bool true)) (.t 104), none⟩]) (.cond (.t 105) (.seq (.ops [⟨some 4, .mov (.c (.bool false)), none⟩]) (.ret)) (.skip))) (.ops [⟨some 106, .fieldAddr 2 (.t 10), none⟩, ⟨some 107, .load false 1 (.t 106), none⟩, ⟨some 108, .mov (.t 1), none⟩, ⟨some 109, .bin (.or) (.other) (.t 108) (.c (.int (.u8) 1)), none⟩, ⟨some 110, .call 14 [.t 107, .t 109], none⟩])))))))) (.seq (.ops [⟨some 111, .mov (.t 5), none⟩, ⟨some 112, .mov (.t 6), none⟩, ⟨some 113, .call 19 [.t 111, .t 112], none⟩, ⟨some 114, .un (.not) (.t 113), none⟩]) (.cond (.t 114) (.seq (.ops [⟨some 4, .mov (.c (.bool false)), none⟩]) (.ret)) (.skip)))))) (.ops [⟨some 27, .mov (.t 7), none⟩, ⟨some 28, .bin (.add) (.other) (.t 27) (.c (.int (.i64) 1)), none⟩, ⟨some 7, .mov (.t 28), none⟩])))
def tail4 : SC := (.seq (.ops [⟨some 115, .call 10 [], none⟩, ⟨some 4, .mov (.t 115), none⟩]) (.ret))
theorem body4_eq : sf4.body = .seq (.ops [⟨some 4, .mov (.c (.bool false)), none⟩]) (.seq (.ops [⟨some 14, .call 6 [], none⟩, ⟨some 5, .mov (.t 14), none⟩]) (.seq (.ops [⟨some 15, .build [.nilsl] [], none⟩, ⟨some 16, .box (.t 15), none⟩, ⟨some 6, .mov (.t 16), none⟩]) (.seq (.seq (.ops [⟨some 17, .mov (.t 5), none⟩, ⟨some 18, .bin (.eql) (.ptr) (.t 17) (.c (.nilptr)), none⟩]) (.cond (.t 18) (.seq (.ops [⟨some 4, .mov (.c (.bool false)), none⟩]) (.ret)) (.skip))) (.seq (.seq (.ops [⟨some 7, .mov (.c (.int (.i64) 0)), none⟩]) (.block 0 (.loop body4))) tail4)))) := rfl

/-- An act: what is done, the message, the place. -/
structure Act where
  act : Int
  m : Msg
  k : Int
/-- A row of an argument. -/
def ActAt (h : Heap) (row : List AV) (a : Act) : Prop := ∃ v, row = [.int .i64 a.act, .int .i64 a.m.client, .bool a.m.back, v, .int .i64 a.k] ∧ BytesAt h v a.m.bytes ∧ a.m.bytes.length ≤ 1048576

theorem load_row {esz : Nat} {h : Heap} {b : Nat} {rows : List (List AV)} {ro : Bool} (hg : h.get b = some (.cells rows.flatten ro)) (hall : ∀ r ∈ rows, r.length = esz) {i : Nat} {row : List AV} (hi : rows[i]? = some row) : loadA h true esz b (i * esz) = some (.agg row) := by
  have hlt : i < rows.length := by
    rcases Nat.lt_or_ge i rows.length with h | h
    · exact h
    · rw [List.getElem?_eq_none h] at hi; cases hi
  have hr : rows[i] = row := by rw [List.getElem?_eq_getElem hlt] at hi; exact Option.some.inj hi
  have hsp : rows = rows.take i ++ row :: rows.drop (i + 1) := by rw [← hr, ← List.drop_eq_getElem_cons hlt, List.take_append_drop]
  have ht : (rows.take i).flatten.length = i * esz := by
    rw [rows_len (fun r hr => hall r (List.mem_of_mem_take hr)), List.length_take, Nat.min_eq_left (by omega)]
  have hrl : row.length = esz := hall row (List.mem_of_getElem? hi)
  have hc : rows.flatten = (rows.take i).flatten ++ (row ++ (rows.drop (i + 1)).flatten) := by
    conv => lhs; rw [hsp]
    simp
  have hle : i * esz + esz ≤ rows.flatten.length := by rw [hc]; simp only [List.length_append, ht, hrl]; omega
  simp only [loadA, hg, hle, if_true]
  rw [hc, ← ht, List.drop_left, ← hrl, List.take_left]

/-- Bytes with three 9s behind them. -/
def WideAt (h : Heap) (w : Nat) (bs : List Int) : Prop := h.get w = some (.cells (ints (bs ++ [9, 9, 9])) false) ∧ h.byteAt w = true
theorem WideAt.at {h : Heap} {w : Nat} {bs : List Int} (hw : WideAt h w bs) : BytesAt h (.slice w 0 bs.length (bs.length + 3) false 1) bs :=
  .inr ⟨w, 0, _, false, _, _, rfl, by omega, hw.1, by simp, by simp [ints]⟩
theorem WideAt.keep {h h' : Heap} {w : Nat} {bs : List Int} (hw : WideAt h w bs) (h1 : h'.get w = h.get w) (h2 : h'.get (w + 1) = h.get (w + 1)) : WideAt h' w bs :=
  ⟨h1.trans hw.1, by rw [Heap.byteAt_of h2]; exact hw.2⟩
theorem left13 {h : Heap} {w : Nat} {bs : List Int} {v : AV} (hw : WideAt h w bs) (hb : BytesAt h v bs) : xcall X1 tab (.fn 13) [.slice w 0 bs.length (bs.length + 3) false 1, v] h = some (.bool true, h) := by
  have e1 := hw.at.bytesA
  have e2 := hb.bytesA
  have e3 : bytesA h (.slice w (0 + bs.length) 3 3 false 1) = some [9, 9, 9] := by
    have : BytesAt h (.slice w (0 + bs.length) [9, 9, 9].length 3 false 1) [9, 9, 9] :=
      .inr ⟨w, 0 + bs.length, 3, false, _, _, rfl, Nat.le_refl _, hw.1, by simp, by simp [ints]⟩
    exact this.bytesA
  have hk : X1 13 [.slice w 0 bs.length (bs.length + 3) false 1, v] h = some (.bool true, h) := by
    show (match leftK 13 13 [.slice w 0 bs.length (bs.length + 3) false 1, v] h with | some r => some r | none => _) = _
    simp only [leftK, if_true, Nat.le_refl, e1, e2, e3]
    simp
  rw [xcall_fn, hk]
theorem spoilW {h : Heap} {w : Nat} {bs : List Int} (hw : WideAt h w bs) (by_ : Int) :
    ∃ h', xcall X1 tab (.fn 14) [.slice w 0 bs.length (bs.length + 3) false 1, .int .u8 by_] h = some (undefA, h') ∧ h'.next = h.next ∧ ∀ j, j ≠ w → h'.get j = h.get j := by
  obtain ⟨h1, h2⟩ := hw
  have hk : X1 14 [.slice w 0 bs.length (bs.length + 3) false 1, .int .u8 by_] h = some (undefA, h.set w (.cells (ints ((bs ++ [9, 9, 9]).map (spoiled by_))) false)) := by
    show spoilK 14 14 [.slice w 0 bs.length (bs.length + 3) false 1, .int .u8 by_] h = _
    have e1 : 0 + (bs.length + 3) ≤ (ints (bs ++ [9, 9, 9])).length ∧ ((false : Bool) = true ∨ (h.byteAt w = true ∧ 0 + (bs.length + 3) = (ints (bs ++ [9, 9, 9])).length)) := ⟨by simp, .inr ⟨h2, by simp⟩⟩
    have e2 : ((ints (bs ++ [9, 9, 9])).drop 0).take (bs.length + 3) = ints (bs ++ [9, 9, 9]) := by rw [List.drop_zero, List.take_of_length_le (by simp)]
    have e3 : (ints (bs ++ [9, 9, 9])).drop (0 + (bs.length + 3)) = [] := List.drop_eq_nil_of_le (by simp)
    simp only [spoilK, if_true, h1, e1, e2, byteCells_ints, e3, List.take_zero, List.nil_append, List.append_nil]
    simp
  exact ⟨_, by rw [xcall_fn, hk], by simp, fun j hj => by rw [get_set, if_neg hj]⟩

/-- The state between the rounds. -/
def Inv (h0 h : Heap) (n r : Nat) (l : List Msg) : Prop := ∃ F R, ObF [.bool true] h n l F ∧ ObF [] h r l R ∧ (∀ j, F j → ¬ R j) ∧ (∀ j, F j ∨ R j → h0.next ≤ j) ∧ h0.next ≤ h.next ∧ (∀ j, j < h0.next → h.get j = h0.get j) ∧ l.length ≤ 64 ∧ ∀ m ∈ l, ¬ Bad m
theorem sendL_ok {l : List Msg} {m : Msg} (h1 : l.length ≤ 64) (h2 : ∀ m ∈ l, ¬ Bad m) : (sendL l m).length ≤ 64 ∧ ∀ x ∈ sendL l m, ¬ Bad x := by
  unfold sendL
  by_cases hb : Bad m
  · rw [if_pos hb]; exact ⟨h1, h2⟩
  · rw [if_neg hb]
    by_cases hl : l.length ≥ 64
    · rw [if_pos hl]; exact ⟨h1, h2⟩
    · rw [if_neg hl]
      refine ⟨by simp; omega, fun x hx => ?_⟩
      rcases List.mem_append.1 hx with hx | hx
      · exact h2 x hx
      · simp at hx; subst hx; exact hb
theorem dropL_ok {l : List Msg} (k : Int) (h1 : l.length ≤ 64) (h2 : ∀ m ∈ l, ¬ Bad m) : (dropL l k).length ≤ 64 ∧ ∀ x ∈ dropL l k, ¬ Bad x := by
  unfold dropL
  by_cases hk : isThere l k
  · rw [if_pos hk]
    exact ⟨Nat.le_trans (List.length_eraseIdx_le _ _) h1, fun x hx => h2 x (List.mem_of_mem_eraseIdx hx)⟩
  · rw [if_neg hk]; exact ⟨h1, h2⟩

/-- Both have acted. -/
theorem both {h0 h h1 h2 h3 : Heap} {n r : Nat} {l : List Msg} {F F' R R' : Nat → Prop} (hd : ∀ j, F j → ¬ R j) (hlo : ∀ j, F j ∨ R j → h0.next ≤ j) (hx : h0.next ≤ h.next) (hR : ∀ j, R j → j < h.next)
    (hf : ObF [.bool true] h1 n l F') (s1 : Step h h1 F F') (hr : ObF [] h2 r l R') (s2 : Step h1 h2 R R') :
    ObF [.bool true] h2 n l F' ∧ (∀ j, F' j → ¬ R' j) ∧ (∀ j, F' j ∨ R' j → h0.next ≤ j) := by
  have hd1 : ∀ j, F' j → ¬ R j := fun j hj hr => by
    rcases s1.2.2 j hj with e | e
    · exact hd j e hr
    · have := hR j hr; omega
  refine ⟨hf.other s2 hd1, fun j hj hr => ?_, fun j hj => ?_⟩
  · rcases s2.2.2 j hr with e | e
    · exact hd1 j hj e
    · have := hf.2.1 j hj; omega
  · have q := s1.1
    rcases hj with hj | hj
    · rcases s1.2.2 j hj with e | e
      · exact hlo j (.inl e)
      · omega
    · rcases s2.2.2 j hj with e | e
      · exact hlo j (.inr e)
      · omega
def Sh4 (b n r len : Nat) (by_ : Int) (i : Nat) (tm : List AV) : Prop := tm.length = 116 ∧ tm[0]? = some (.slice b 0 len len false 5) ∧ tm[1]? = some (.int .u8 by_) ∧ tm[5]? = some (.ptr n 0) ∧ tm[6]? = some (.ptr r 0) ∧ tm[7]? = some (.int .i64 (i : Nat))

theorem round4send {h0 h : Heap} {b n r len i : Nat} {by_ : Int} {l : List Msg} {rows : List (List AV)} {a : Act} {row : List AV} {tm : List AV} (ht : Sh4 b n r len by_ i tm) (hb : b < h0.next) (hg : h0.get b = some (.cells rows.flatten true)) (hall : ∀ r ∈ rows, r.length = 5) (hlen : rows.length = len) (hi : rows[i]? = some row) (ha : ActAt h0 row a) (hi1 : i < 100)
    (hv : Inv h0 h n r l) (hact : (a.act == 0) = true) :
    ∃ tm' h' l', xcode X1 tab 4 none (.loop body4) tm h = xcode X1 tab 4 none (.loop body4) tm' h' ∧ Sh4 b n r len by_ (i + 1) tm' ∧ Inv h0 h' n r l' := by
  match tm, ht with
  | a0 :: a1 :: a2 :: a3 :: a4 :: a5 :: a6 :: a7 :: a8 :: a9 :: a10 :: a11 :: a12 :: a13 :: a14 :: a15 :: a16 :: a17 :: a18 :: a19 :: a20 :: a21 :: a22 :: a23 :: a24 :: a25 :: a26 :: a27 :: a28 :: a29 :: a30 :: a31 :: a32 :: a33 :: a34 :: a35 :: a36 :: a37 :: a38 :: a39 :: a40 :: a41 :: a42 :: a43 :: a44 :: a45 :: a46 :: a47 :: a48 :: a49 :: a50 :: a51 :: a52 :: a53 :: a54 :: a55 :: a56 :: a57 :: a58 :: a59 :: a60 :: a61 :: a62 :: a63 :: a64 :: a65 :: a66 :: a67 :: a68 :: a69 :: a70 :: a71 :: a72 :: a73 :: a74 :: a75 :: a76 :: a77 :: a78 :: a79 :: a80 :: a81 :: a82 :: a83 :: a84 :: a85 :: a86 :: a87 :: a88 :: a89 :: a90 :: a91 :: a92 :: a93 :: a94 :: a95 :: a96 :: a97 :: a98 :: a99 :: a100 :: a101 :: a102 :: a103 :: a104 :: a105 :: a106 :: a107 :: a108 :: a109 :: a110 :: a111 :: a112 :: a113 :: a114 :: a115 :: [], ht =>
  obtain ⟨_, t0, t1, t5, t6, t7⟩ := ht
  simp only [List.getElem?_cons_zero, List.getElem?_cons_succ, Option.some.injEq] at t0 t1 t5 t6 t7
  replace t0 := t0.symm; replace t1 := t1.symm; replace t5 := t5.symm; replace t6 := t6.symm; replace t7 := t7.symm
  subst t0 t1 t5 t6 t7
  obtain ⟨F, R, hf, hr, hd, hlo, hx, hsame, hl64, hok⟩ := hv
  obtain ⟨v, rfl, hbt0, hmax⟩ := ha
  have hilt : i < len := by
    rcases Nat.lt_or_ge i rows.length with h | h
    · omega
    · rw [List.getElem?_eq_none h] at hi; cases hi
  have hbt : BytesAt h v a.m.bytes := by
    rcases hbt0 with e | ⟨id, off, cap, ex, c, ro, e1, e2, e3, e4, e5⟩
    · exact .inl e
    · exact .inr ⟨id, off, cap, ex, c, ro, e1, e2, (hsame id (Heap.lt_of_get e3)).trans e3, e4, e5⟩
  have hfv : v.flat = true := by rcases hbt with ⟨rfl, _⟩ | ⟨_, _, _, _, _, _, rfl, _⟩ <;> rfl
  have ldr := load_row ((hsame b hb).trans hg) hall hi
  have hw : IntKind.i64.wrap ((i : Int) + 1) = ((i + 1 : Nat) : Int) := by
    rw [IntWalk.i64_in _ (by omega)]; simp
  have hlt : (i : Int) < (len : Int) := by omega
  have hlt2 : (i : Int) < 100 := by omega
  have hix : (0 : Int) ≤ (i : Int) ∧ (i : Int) < (len : Int) := by omega
  have hin : 0 + (i : Int).toNat * 5 = i * 5 := by omega
  have hH : ∃ H, (h.alloc (.cells [.int .i64 0, .int .i64 0, .bool false, .nilsl, .int .i64 0] false)).set h.next (.cells [.int .i64 a.act, .int .i64 a.m.client, .bool a.m.back, v, .int .i64 a.k] false) = H ∧ Grow h H ∧ H.next = h.next + 1 ∧ H.get h.next = some (.cells [.int .i64 a.act, .int .i64 a.m.client, .bool a.m.back, v, .int .i64 a.k] false) :=
    ⟨_, rfl, Grow.set (.alloc _ _) _ (Nat.le_refl _) (by simp), by simp, by rw [get_set, if_pos rfl, if_pos (by simp)]⟩
  obtain ⟨H1, hA1, gA1, hn1, G8⟩ := hH
  have hst1 : storeA (h.alloc (.cells [.int .i64 0, .int .i64 0, .bool false, .nilsl, .int .i64 0] false)) h.next 0 [.int .i64 a.act, .int .i64 a.m.client, .bool a.m.back, v, .int .i64 a.k] = some H1 := by
    rw [← hA1]; simp [storeA, Heap.get_alloc, splice]
  have q1 := gA1.1
  have hFn : ∀ j, h.next ≤ j → ¬ F j := fun j hj e => by have := hf.2.1 j e; omega
  have hRn : ∀ j, h.next ≤ j → ¬ R j := fun j hj e => by have := hr.2.1 j e; omega
  -- own
  have hH2 : ∃ H, (H1.alloc (.cells [.int .i64 0, .bool false, .nilsl] false)).set H1.next (.cells [.int .i64 a.m.client, .bool a.m.back, v] false) = H ∧ Grow H1 H ∧ H.next = H1.next + 1 ∧ H.get H1.next = some (.cells [.int .i64 a.m.client, .bool a.m.back, v] false) :=
    ⟨_, rfl, Grow.set (.alloc _ _) _ (Nat.le_refl _) (by simp), by simp, by rw [get_set, if_pos rfl, if_pos (by simp)]⟩
  obtain ⟨H2, hA2, gA2, hn2, G9⟩ := hH2
  have hst2 : storeA (H1.alloc (.cells [.int .i64 0, .bool false, .nilsl] false)) H1.next 0 [.int .i64 a.m.client, .bool a.m.back, v] = some H2 := by
    rw [← hA2]; simp [storeA, Heap.get_alloc, splice]
  have G8b := gA2.get G8
  obtain ⟨w, H3, e11, g3, kw, kg, km⟩ := wide_spec (X := X1) (SP := tab) (f := 11) (fC := 25) (fun _ _ => rfl) (fun _ _ => rfl) (show tab 11 = some (wideS 25) from rfl) (show tab 25 = some copyS from rfl) (hbt.grow (gA1.trans gA2)) (by omega)
  have G9c := g3.get G9
  have G8c := g3.get G8b
  have q3 := g3.1
  have hw1 := Heap.lt_of_get kg
  have hw2 := Heap.byteAt_lt km
  have hH4 : ∃ H4, H3.set H1.next (.cells [.int .i64 a.m.client, .bool a.m.back, .slice w 0 a.m.bytes.length (a.m.bytes.length + 3) false 1] false) = H4 ∧ Grow h H4 ∧ H4.next = H3.next ∧ (∀ j, j ≠ H1.next → H4.get j = H3.get j) ∧ H4.get H1.next = some (.cells [.int .i64 a.m.client, .bool a.m.back, .slice w 0 a.m.bytes.length (a.m.bytes.length + 3) false 1] false) :=
    ⟨_, rfl, Grow.set ((gA1.trans gA2).trans g3) _ (by omega) (by omega), by simp, fun j hj => by rw [get_set, if_neg hj], by rw [get_set, if_pos rfl, if_pos (by omega)]⟩
  obtain ⟨H4, hA4, g4, hn4, k4, G9d⟩ := hH4
  have hst4 : storeA H3 H1.next 2 [.slice w 0 a.m.bytes.length (a.m.bytes.length + 3) false 1] = some H4 := by
    rw [← hA4]; simp [storeA, G9c, splice]
  have G8d : H4.get h.next = some (.cells [.int .i64 a.act, .int .i64 a.m.client, .bool a.m.back, v, .int .i64 a.k] false) := by rw [k4 _ (by omega)]; exact G8c
  have hwd : WideAt H4 w a.m.bytes := WideAt.keep (h := H3) ⟨kg, km⟩ (k4 _ (by omega)) (k4 _ (by omega))
  obtain ⟨H5, F', e7, hf5, s5⟩ := send7F (hf.grow g4) (m := a.m) ⟨_, rfl, hwd.at⟩
  have q4 := g4.1
  have q5 := s5.1
  have k5 : ∀ j, h.next ≤ j → j < H4.next → H5.get j = H4.get j := fun j j1 j2 => s5.2.1 j j2 (hFn j j1)
  have G8e := (k5 h.next (Nat.le_refl _) (by omega)).trans G8d
  have G9e := (k5 H1.next (by omega) (by omega)).trans G9d
  have hr4 := hr.grow g4
  have hr5 := hr4.other s5 (fun j hj hf => hd j hf hj)
  have hb5 : BytesAt H5 v a.m.bytes := by
    rcases hbt0 with e | ⟨id, off, cap, ex, c, ro, e1, e2, e3, e4, e5⟩
    · exact .inl e
    · have hid := Heap.lt_of_get e3
      refine .inr ⟨id, off, cap, ex, c, ro, e1, e2, ?_, e4, e5⟩
      rw [s5.2.1 id (by omega) (fun e => by have := hlo id (.inl e); omega), g4.2 id (by omega), hsame id hid]; exact e3
  obtain ⟨H6, R', e12, hr6, s6⟩ := send12F hr5 (m := a.m) ⟨v, rfl, hb5⟩ hl64
  have q6 := s6.1
  have k6 : ∀ j, h.next ≤ j → j < H5.next → H6.get j = H5.get j := fun j j1 j2 => s6.2.1 j j2 (hRn j j1)
  have G8f := (k6 h.next (Nat.le_refl _) (by omega)).trans G8e
  have G9f := (k6 H1.next (by omega) (by omega)).trans G9e
  have hw6 : WideAt H6 w a.m.bytes := hwd.keep ((k6 w (by omega) (by omega)).trans (k5 w (by omega) (by omega))) ((k6 (w + 1) (by omega) (by omega)).trans (k5 (w + 1) (by omega) (by omega)))
  have hbase6 : ∀ j, j < h0.next → H6.get j = h0.get j := fun j hj => by
    rw [s6.2.1 j (by omega) (fun e => by have := hlo j (.inr e); omega), s5.2.1 j (by omega) (fun e => by have := hlo j (.inl e); omega), g4.2 j (by omega), hsame j hj]
  have hb6 : BytesAt H6 v a.m.bytes := by
    rcases hbt0 with e | ⟨id, off, cap, ex, c, ro, e1, e2, e3, e4, e5⟩
    · exact .inl e
    · exact .inr ⟨id, off, cap, ex, c, ro, e1, e2, (hbase6 id (Heap.lt_of_get e3)).trans e3, e4, e5⟩
  have e13 := left13 hw6 hb6
  obtain ⟨b1, b2, b3⟩ := both (h := H4) (h3 := H6) hd hlo (by omega) (fun j e => by have := hr.2.1 j e; omega) hf5 s5 hr6 s6
  obtain ⟨H7, e14, hn7, k7⟩ := spoilW hw6 (IntKind.u8.wrap ((BitVec.ofInt IntKind.u8.bits by_ ||| BitVec.ofInt IntKind.u8.bits 1).toNat))
  have hwF : ∀ j, F' j ∨ R' j → j ≠ w := fun j hj e => by
    subst e
    rcases hj with hj | hj
    · rcases s5.2.2 j hj with e | e
      · exact hFn j (by omega) e
      · omega
    · rcases s6.2.2 j hj with e | e
      · exact hRn j (by omega) e
      · omega
  have hf7 := b1.keep (h' := H7) (by omega) fun j hj => k7 j (hwF j (.inl hj))
  have hr7 := hr6.keep (h' := H7) (by omega) fun j hj => k7 j (hwF j (.inr hj))
  obtain ⟨sl1, sl2⟩ := sendL_ok (m := a.m) hl64 hok
  obtain ⟨H8, e19, g8⟩ := flies19 hf7 hr7 sl1 sl2
  have q8 := g8.1
  have hcode : (sendE l a.m != sendE l a.m) = false := by simp
  have la0 : loadA H1 false 1 h.next 0 = some (.int .i64 a.act) := by simp [loadA, G8]
  have la1 : loadA H1 true 3 h.next 1 = some (.agg [.int .i64 a.m.client, .bool a.m.back, v]) := by simp [loadA, G8]
  have lb3 : loadA H2 false 1 h.next 3 = some (v) := by simp [loadA, G8b]
  have lc : loadA H4 true 3 H1.next 0 = some (.agg [.int .i64 a.m.client, .bool a.m.back, .slice w 0 a.m.bytes.length (a.m.bytes.length + 3) false 1]) := by simp [loadA, G9d]
  have ld : loadA H5 true 3 h.next 1 = some (.agg [.int .i64 a.m.client, .bool a.m.back, v]) := by simp [loadA, G8e]
  have le : loadA H6 false 1 H1.next 2 = some (.slice w 0 a.m.bytes.length (a.m.bytes.length + 3) false 1) := by simp [loadA, G9f]
  have lf : loadA H6 false 1 h.next 3 = some (v) := by simp [loadA, G8f]
  refine ⟨?tm, H8, sendL l a.m, ?run, ?sh, F', R', hf7.grow g8, hr7.grow g8, b2, b3, by omega, fun j hj => ?_, sl1, sl2⟩
  case run =>
    rw [show ∀ tm h, xcode X1 tab 4 none (.loop body4) tm h = thenX X1 tab 4 none (.loop body4) (xcode X1 tab 4 none body4 tm h) from fun _ _ => x_loop]
    delta body4
    simp (decide := true) only [note_false, x_drawn, l_nil, l_op, l_guard, l_some, l_true, l_false, l_draw, readsA, x_true, x_false, x_seq, x_ops, x_cond, x_skip, x_ret, x_exit, x_block, x_then, x_thenE, x_thenR, x_blockN, x_blockR, x_blockE, s_nil, s_op, s_guard, s_some, s_true, s_false, s_put, s_put0, s_opsR, s_ret, s_norm, aop, ev, evs, List.map_cons, List.map_nil, List.cons_append, List.nil_append, List.append_nil, List.replicate, List.take_succ_cons, List.take_zero, List.take_nil, List.drop_succ_cons, List.drop_zero, List.drop_nil, Nat.zero_add, Nat.add_zero, Nat.reduceAdd, Nat.reduceMul, Nat.reduceLeDiff, Bool.false_eq_true, and_self, List.length_cons, List.length_nil, List.set_cons_zero, List.set_cons_succ, List.getD_cons_zero, List.getD_cons_succ, wantedA, List.getElem?_cons_zero, List.getElem?_cons_succ, q_t, q_f, Bool.not_true, Bool.not_false, b_add, b_sub, b_mul, b_eql, b_neq, b_lss, b_leq, b_gtr, b_geq, b_and, b_or, b_xor, b_quo, b_rem, b_shl, b_shr, unA, Option.map_some, Option.map_none, resA, tupA, Int.reduceLT, not_false_eq_true, not_true_eq_false, decide_true, decide_false, f_bool, c_bool, f_int, c_int, f_str, c_str, f_nilptr, c_nilptr, f_ptr, c_ptr, f_nilsl, c_nilsl, f_slice, c_slice, f_nilmap, c_nilmap, f_map, c_map, f_nilf, c_nilf, f_func, c_func, f_yieldf, c_yieldf, f_nilif, c_nilif, f_iface, c_iface, c_agg, List.all_cons, List.all_nil, Bool.and_true, Bool.true_and, if_true, if_false, ite_true, ite_false, hlt, hlt2, hix, hin, ldr, hst1, la0, la1, lb3, lc, ld, le, lf, hact, hst2, e11, hst4, G8d, e7, G8e, e12, hcode, e13, e14, e19, hw, hfv, chkLog, same_cells]
    rfl
  case sh => exact ⟨rfl, rfl, rfl, rfl, rfl, rfl⟩
  · rw [g8.2 j (by omega), k7 j (by omega)]; exact hbase6 j hj

theorem round4drop {h0 h : Heap} {b n r len i : Nat} {by_ : Int} {l : List Msg} {rows : List (List AV)} {a : Act} {row : List AV} {tm : List AV} (ht : Sh4 b n r len by_ i tm) (hb : b < h0.next) (hg : h0.get b = some (.cells rows.flatten true)) (hall : ∀ r ∈ rows, r.length = 5) (hlen : rows.length = len) (hi : rows[i]? = some row) (ha : ActAt h0 row a) (hi1 : i < 100)
    (hv : Inv h0 h n r l) (hact0 : (a.act == 0) = false) (hact : (a.act == 3) = true) :
    ∃ tm' h' l', xcode X1 tab 4 none (.loop body4) tm h = xcode X1 tab 4 none (.loop body4) tm' h' ∧ Sh4 b n r len by_ (i + 1) tm' ∧ Inv h0 h' n r l' := by
  match tm, ht with
  | a0 :: a1 :: a2 :: a3 :: a4 :: a5 :: a6 :: a7 :: a8 :: a9 :: a10 :: a11 :: a12 :: a13 :: a14 :: a15 :: a16 :: a17 :: a18 :: a19 :: a20 :: a21 :: a22 :: a23 :: a24 :: a25 :: a26 :: a27 :: a28 :: a29 :: a30 :: a31 :: a32 :: a33 :: a34 :: a35 :: a36 :: a37 :: a38 :: a39 :: a40 :: a41 :: a42 :: a43 :: a44 :: a45 :: a46 :: a47 :: a48 :: a49 :: a50 :: a51 :: a52 :: a53 :: a54 :: a55 :: a56 :: a57 :: a58 :: a59 :: a60 :: a61 :: a62 :: a63 :: a64 :: a65 :: a66 :: a67 :: a68 :: a69 :: a70 :: a71 :: a72 :: a73 :: a74 :: a75 :: a76 :: a77 :: a78 :: a79 :: a80 :: a81 :: a82 :: a83 :: a84 :: a85 :: a86 :: a87 :: a88 :: a89 :: a90 :: a91 :: a92 :: a93 :: a94 :: a95 :: a96 :: a97 :: a98 :: a99 :: a100 :: a101 :: a102 :: a103 :: a104 :: a105 :: a106 :: a107 :: a108 :: a109 :: a110 :: a111 :: a112 :: a113 :: a114 :: a115 :: [], ht =>
  obtain ⟨_, t0, t1, t5, t6, t7⟩ := ht
  simp only [List.getElem?_cons_zero, List.getElem?_cons_succ, Option.some.injEq] at t0 t1 t5 t6 t7
  replace t0 := t0.symm; replace t1 := t1.symm; replace t5 := t5.symm; replace t6 := t6.symm; replace t7 := t7.symm
  subst t0 t1 t5 t6 t7
  obtain ⟨F, R, hf, hr, hd, hlo, hx, hsame, hl64, hok⟩ := hv
  obtain ⟨v, rfl, hbt0, hmax⟩ := ha
  have hilt : i < len := by
    rcases Nat.lt_or_ge i rows.length with h | h
    · omega
    · rw [List.getElem?_eq_none h] at hi; cases hi
  have hbt : BytesAt h v a.m.bytes := by
    rcases hbt0 with e | ⟨id, off, cap, ex, c, ro, e1, e2, e3, e4, e5⟩
    · exact .inl e
    · exact .inr ⟨id, off, cap, ex, c, ro, e1, e2, (hsame id (Heap.lt_of_get e3)).trans e3, e4, e5⟩
  have hfv : v.flat = true := by rcases hbt with ⟨rfl, _⟩ | ⟨_, _, _, _, _, _, rfl, _⟩ <;> rfl
  have ldr := load_row ((hsame b hb).trans hg) hall hi
  have hw : IntKind.i64.wrap ((i : Int) + 1) = ((i + 1 : Nat) : Int) := by
    rw [IntWalk.i64_in _ (by omega)]; simp
  have hlt : (i : Int) < (len : Int) := by omega
  have hlt2 : (i : Int) < 100 := by omega
  have hix : (0 : Int) ≤ (i : Int) ∧ (i : Int) < (len : Int) := by omega
  have hin : 0 + (i : Int).toNat * 5 = i * 5 := by omega
  have hH : ∃ H, (h.alloc (.cells [.int .i64 0, .int .i64 0, .bool false, .nilsl, .int .i64 0] false)).set h.next (.cells [.int .i64 a.act, .int .i64 a.m.client, .bool a.m.back, v, .int .i64 a.k] false) = H ∧ Grow h H ∧ H.next = h.next + 1 ∧ H.get h.next = some (.cells [.int .i64 a.act, .int .i64 a.m.client, .bool a.m.back, v, .int .i64 a.k] false) :=
    ⟨_, rfl, Grow.set (.alloc _ _) _ (Nat.le_refl _) (by simp), by simp, by rw [get_set, if_pos rfl, if_pos (by simp)]⟩
  obtain ⟨H1, hA1, gA1, hn1, G8⟩ := hH
  have hst1 : storeA (h.alloc (.cells [.int .i64 0, .int .i64 0, .bool false, .nilsl, .int .i64 0] false)) h.next 0 [.int .i64 a.act, .int .i64 a.m.client, .bool a.m.back, v, .int .i64 a.k] = some H1 := by
    rw [← hA1]; simp [storeA, Heap.get_alloc, splice]
  have q1 := gA1.1
  have hFn : ∀ j, h.next ≤ j → ¬ F j := fun j hj e => by have := hf.2.1 j e; omega
  have hRn : ∀ j, h.next ≤ j → ¬ R j := fun j hj e => by have := hr.2.1 j e; omega
  obtain ⟨H2, F', e15, hf2, s2⟩ := drop15F (hf.grow gA1) hl64 a.k
  have q2 := s2.1
  have k2 : ∀ j, h.next ≤ j → j < H1.next → H2.get j = H1.get j := fun j j1 j2 => s2.2.1 j j2 (hFn j j1)
  have G8b := (k2 h.next (Nat.le_refl _) (by omega)).trans G8
  have hr2 := (hr.grow gA1).other s2 (fun j hj hf => hd j hf hj)
  obtain ⟨H3, R', e16, hr3, s3⟩ := drop16F hr2 hl64 a.k
  have q3 := s3.1
  obtain ⟨b1, b2, b3⟩ := both (h := H1) (h3 := H3) hd hlo (by omega) (fun j e => by have := hr.2.1 j e; omega) hf2 s2 hr3 s3
  obtain ⟨sl1, sl2⟩ := dropL_ok a.k hl64 hok
  obtain ⟨H8, e19, g8⟩ := flies19 b1 hr3 sl1 sl2
  have q8 := g8.1
  have hne : binA .neq .bool (.bool (decide (isThere l a.k))) (.bool (decide (isThere l a.k))) = some (.bool false) := by cases decide (isThere l a.k) <;> rfl
  have la0 : loadA H1 false 1 h.next 0 = some (.int .i64 a.act) := by simp [loadA, G8]
  have la4 : loadA H1 false 1 h.next 4 = some (.int .i64 a.k) := by simp [loadA, G8]
  have lb4 : loadA H2 false 1 h.next 4 = some (.int .i64 a.k) := by simp [loadA, G8b]
  refine ⟨?tm, H8, dropL l a.k, ?run, ?sh, F', R', b1.grow g8, hr3.grow g8, b2, b3, by omega, fun j hj => ?_, sl1, sl2⟩
  case run =>
    rw [show ∀ tm h, xcode X1 tab 4 none (.loop body4) tm h = thenX X1 tab 4 none (.loop body4) (xcode X1 tab 4 none body4 tm h) from fun _ _ => x_loop]
    delta body4
    simp (decide := true) only [note_false, x_drawn, l_nil, l_op, l_guard, l_some, l_true, l_false, l_draw, readsA, x_true, x_false, x_seq, x_ops, x_cond, x_skip, x_ret, x_exit, x_block, x_then, x_thenE, x_thenR, x_blockN, x_blockR, x_blockE, s_nil, s_op, s_guard, s_some, s_true, s_false, s_put, s_put0, s_opsR, s_ret, s_norm, aop, ev, evs, List.map_cons, List.map_nil, List.cons_append, List.nil_append, List.append_nil, List.replicate, List.take_succ_cons, List.take_zero, List.take_nil, List.drop_succ_cons, List.drop_zero, List.drop_nil, Nat.zero_add, Nat.add_zero, Nat.reduceAdd, Nat.reduceMul, Nat.reduceLeDiff, Bool.false_eq_true, and_self, List.length_cons, List.length_nil, List.set_cons_zero, List.set_cons_succ, List.getD_cons_zero, List.getD_cons_succ, wantedA, List.getElem?_cons_zero, List.getElem?_cons_succ, q_t, q_f, Bool.not_true, Bool.not_false, b_add, b_sub, b_mul, b_eql, b_neq, b_lss, b_leq, b_gtr, b_geq, b_and, b_or, b_xor, b_quo, b_rem, b_shl, b_shr, unA, Option.map_some, Option.map_none, resA, tupA, Int.reduceLT, not_false_eq_true, not_true_eq_false, decide_true, decide_false, f_bool, c_bool, f_int, c_int, f_str, c_str, f_nilptr, c_nilptr, f_ptr, c_ptr, f_nilsl, c_nilsl, f_slice, c_slice, f_nilmap, c_nilmap, f_map, c_map, f_nilf, c_nilf, f_func, c_func, f_yieldf, c_yieldf, f_nilif, c_nilif, f_iface, c_iface, c_agg, List.all_cons, List.all_nil, Bool.and_true, Bool.true_and, if_true, if_false, ite_true, ite_false, hlt, hlt2, hix, hin, ldr, hst1, la0, la4, lb4, G8, hact0, hact, e15, G8b, e16, hne, e19, hw, hfv, chkLog, same_cells]
    rfl
  case sh => exact ⟨rfl, rfl, rfl, rfl, rfl, rfl⟩
  · rw [g8.2 j (by omega), s3.2.1 j (by omega) (fun e => by have := hlo j (.inr e); omega), s2.2.1 j (by omega) (fun e => by have := hlo j (.inl e); omega), gA1.2 j (by omega), hsame j hj]

theorem round4take {h0 h : Heap} {b n r len i : Nat} {by_ : Int} {l : List Msg} {rows : List (List AV)} {a : Act} {row : List AV} {tm : List AV} (ht : Sh4 b n r len by_ i tm) (hb : b < h0.next) (hg : h0.get b = some (.cells rows.flatten true)) (hall : ∀ r ∈ rows, r.length = 5) (hlen : rows.length = len) (hi : rows[i]? = some row) (ha : ActAt h0 row a) (hi1 : i < 100)
    (hv : Inv h0 h n r l) (hact : (a.act == 0) = false) (hact3 : (a.act == 3) = false) :
    ∃ tm' h' l', xcode X1 tab 4 none (.loop body4) tm h = xcode X1 tab 4 none (.loop body4) tm' h' ∧ Sh4 b n r len by_ (i + 1) tm' ∧ Inv h0 h' n r l' := by
  match tm, ht with
  | a0 :: a1 :: a2 :: a3 :: a4 :: a5 :: a6 :: a7 :: a8 :: a9 :: a10 :: a11 :: a12 :: a13 :: a14 :: a15 :: a16 :: a17 :: a18 :: a19 :: a20 :: a21 :: a22 :: a23 :: a24 :: a25 :: a26 :: a27 :: a28 :: a29 :: a30 :: a31 :: a32 :: a33 :: a34 :: a35 :: a36 :: a37 :: a38 :: a39 :: a40 :: a41 :: a42 :: a43 :: a44 :: a45 :: a46 :: a47 :: a48 :: a49 :: a50 :: a51 :: a52 :: a53 :: a54 :: a55 :: a56 :: a57 :: a58 :: a59 :: a60 :: a61 :: a62 :: a63 :: a64 :: a65 :: a66 :: a67 :: a68 :: a69 :: a70 :: a71 :: a72 :: a73 :: a74 :: a75 :: a76 :: a77 :: a78 :: a79 :: a80 :: a81 :: a82 :: a83 :: a84 :: a85 :: a86 :: a87 :: a88 :: a89 :: a90 :: a91 :: a92 :: a93 :: a94 :: a95 :: a96 :: a97 :: a98 :: a99 :: a100 :: a101 :: a102 :: a103 :: a104 :: a105 :: a106 :: a107 :: a108 :: a109 :: a110 :: a111 :: a112 :: a113 :: a114 :: a115 :: [], ht =>
  obtain ⟨_, t0, t1, t5, t6, t7⟩ := ht
  simp only [List.getElem?_cons_zero, List.getElem?_cons_succ, Option.some.injEq] at t0 t1 t5 t6 t7
  replace t0 := t0.symm; replace t1 := t1.symm; replace t5 := t5.symm; replace t6 := t6.symm; replace t7 := t7.symm
  subst t0 t1 t5 t6 t7
  obtain ⟨F, R, hf, hr, hd, hlo, hx, hsame, hl64, hok⟩ := hv
  obtain ⟨v, rfl, hbt0, hmax⟩ := ha
  have hilt : i < len := by
    rcases Nat.lt_or_ge i rows.length with h | h
    · omega
    · rw [List.getElem?_eq_none h] at hi; cases hi
  have hbt : BytesAt h v a.m.bytes := by
    rcases hbt0 with e | ⟨id, off, cap, ex, c, ro, e1, e2, e3, e4, e5⟩
    · exact .inl e
    · exact .inr ⟨id, off, cap, ex, c, ro, e1, e2, (hsame id (Heap.lt_of_get e3)).trans e3, e4, e5⟩
  have hfv : v.flat = true := by rcases hbt with ⟨rfl, _⟩ | ⟨_, _, _, _, _, _, rfl, _⟩ <;> rfl
  have ldr := load_row ((hsame b hb).trans hg) hall hi
  have hw : IntKind.i64.wrap ((i : Int) + 1) = ((i + 1 : Nat) : Int) := by
    rw [IntWalk.i64_in _ (by omega)]; simp
  have hlt : (i : Int) < (len : Int) := by omega
  have hlt2 : (i : Int) < 100 := by omega
  have hix : (0 : Int) ≤ (i : Int) ∧ (i : Int) < (len : Int) := by omega
  have hin : 0 + (i : Int).toNat * 5 = i * 5 := by omega
  have hH : ∃ H, (h.alloc (.cells [.int .i64 0, .int .i64 0, .bool false, .nilsl, .int .i64 0] false)).set h.next (.cells [.int .i64 a.act, .int .i64 a.m.client, .bool a.m.back, v, .int .i64 a.k] false) = H ∧ Grow h H ∧ H.next = h.next + 1 ∧ H.get h.next = some (.cells [.int .i64 a.act, .int .i64 a.m.client, .bool a.m.back, v, .int .i64 a.k] false) :=
    ⟨_, rfl, Grow.set (.alloc _ _) _ (Nat.le_refl _) (by simp), by simp, by rw [get_set, if_pos rfl, if_pos (by simp)]⟩
  obtain ⟨H1, hA1, gA1, hn1, G8⟩ := hH
  have hst1 : storeA (h.alloc (.cells [.int .i64 0, .int .i64 0, .bool false, .nilsl, .int .i64 0] false)) h.next 0 [.int .i64 a.act, .int .i64 a.m.client, .bool a.m.back, v, .int .i64 a.k] = some H1 := by
    rw [← hA1]; simp [storeA, Heap.get_alloc, splice]
  have q1 := gA1.1
  have hFn : ∀ j, h.next ≤ j → ¬ F j := fun j hj e => by have := hf.2.1 j e; omega
  have hRn : ∀ j, h.next ≤ j → ¬ R j := fun j hj e => by have := hr.2.1 j e; omega
  obtain ⟨x, H2, F', e8, hf2, s2, sp⟩ := take8F (hf.grow gA1) hl64 hok a.k (a.act == 2)
  generalize hl' : (if (a.act == 2) = true then l else dropL l a.k) = l' at *
  generalize htm : takeM l a.k = m at *
  have hfx := sp.flat
  have q2 := s2.1
  have k2 : ∀ j, h.next ≤ j → j < H1.next → H2.get j = H1.get j := fun j j1 j2 => s2.2.1 j j2 (hFn j j1)
  have G8b := (k2 h.next (Nat.le_refl _) (by omega)).trans G8
  -- x
  have hH3 : ∃ H, (H2.alloc (.cells [.int .i64 0, .bool false, .nilsl] false)).set H2.next (.cells [.int .i64 m.client, .bool m.back, x] false) = H ∧ Grow H2 H ∧ H.next = H2.next + 1 ∧ H.get H2.next = some (.cells [.int .i64 m.client, .bool m.back, x] false) :=
    ⟨_, rfl, Grow.set (.alloc _ _) _ (Nat.le_refl _) (by simp), by simp, by rw [get_set, if_pos rfl, if_pos (by simp)]⟩
  obtain ⟨H3, hA3, gA3, hn3, G10⟩ := hH3
  have hst3 : storeA (H2.alloc (.cells [.int .i64 0, .bool false, .nilsl] false)) H2.next 0 [.int .i64 m.client, .bool m.back, x] = some H3 := by
    rw [← hA3]; simp [storeA, Heap.get_alloc, splice]
  have q3 := gA3.1
  have G8c := gA3.get G8b
  have hr3 := ((hr.grow gA1).other s2 (fun j hj hf => hd j hf hj)).grow gA3
  have s23 := s2.trans (Step.of_grow (F := F') gA3)
  obtain ⟨y, H4, R', e17, hr4, s4, hby, hfy, hyR⟩ := take17F hr3 hl64 hok a.k (a.act == 2)
  rw [hl'] at hr4
  rw [htm] at hby e17
  have q4 := s4.1
  have k4 : ∀ j, h.next ≤ j → j < H3.next → H4.get j = H3.get j := fun j j1 j2 => s4.2.1 j j2 (hRn j j1)
  have G10b := (k4 H2.next (by omega) (by omega)).trans G10
  have hH5 : ∃ H, (H4.alloc (.cells [.int .i64 0, .bool false, .nilsl] false)).set H4.next (.cells [.int .i64 m.client, .bool m.back, y] false) = H ∧ Grow H4 H ∧ H.next = H4.next + 1 ∧ H.get H4.next = some (.cells [.int .i64 m.client, .bool m.back, y] false) :=
    ⟨_, rfl, Grow.set (.alloc _ _) _ (Nat.le_refl _) (by simp), by simp, by rw [get_set, if_pos rfl, if_pos (by simp)]⟩
  obtain ⟨H5, hA5, gA5, hn5, G12⟩ := hH5
  have hst5 : storeA (H4.alloc (.cells [.int .i64 0, .bool false, .nilsl] false)) H4.next 0 [.int .i64 m.client, .bool m.back, y] = some H5 := by
    rw [← hA5]; simp [storeA, Heap.get_alloc, splice]
  have q5 := gA5.1
  have G10c := gA5.get G10b
  obtain ⟨b1, b2, b3⟩ := both (h := H1) (h1 := H3) (h2 := H4) (h3 := H4) hd hlo (by omega) (fun j e => by have := hr.2.1 j e; omega) (hf2.grow gA3) s23 hr4 s4
  -- x's bytes stand as they were
  have sp4 : SpB H5 x m.bytes h.next (fun j => F' j ∨ R' j) := by
    rcases sp with e | ⟨ix, cap, ex, c1, c2, c3, c4, c5, c6, c7⟩
    · exact .inl e
    · have hlt6 := Heap.lt_of_get c6
      refine .inr ⟨ix, cap, ex, c1, c2, c3, by omega, ?_, ?_, c7.imp (fun e => e) fun e => ?_⟩
      · rintro (e | e)
        · exact c5 e
        · rcases s4.2.2 ix e with e | e
          · exact hRn ix (by omega) e
          · omega
      · rw [gA5.2 ix (by omega), k4 ix (by omega) (by omega), gA3.2 ix hlt6]; exact c6
      · have hlt7 := Heap.byteAt_lt e
        rw [Heap.byteAt_of (h := H2)]
        · exact e
        · rw [gA5.2 (ix + 1) (by omega), k4 (ix + 1) (by omega) (by omega), gA3.2 (ix + 1) hlt7]
  obtain ⟨H6, e18, g6⟩ := same18 (h := H5) (m := m) (n := m) ⟨x, rfl, sp4.at⟩ ⟨y, rfl, hby.grow gA5⟩
  simp only [beq_self_eq_true, Bool.and_self] at e18
  have q6 := g6.1
  have G10d := g6.get G10c
  have sp6 : SpB H6 x m.bytes h.next (fun j => F' j ∨ R' j) := by
    rcases sp4 with e | ⟨ix, cap, ex, c1, c2, c3, c4, c5, c6, c7⟩
    · exact .inl e
    · exact .inr ⟨ix, cap, ex, c1, c2, c3, c4, c5, g6.get c6, c7.imp (fun e => e) fun e => g6.byteAt e⟩
  obtain ⟨H7, e14, hn7, k7, _⟩ := spoil14 sp6 (IntKind.u8.wrap ((BitVec.ofInt IntKind.u8.bits by_ ||| BitVec.ofInt IntKind.u8.bits 1).toNat))
  have g56 := gA5.trans g6
  have hf7 := (b1.grow g56).keep (h' := H7) (by omega) fun j hj => k7 j (.inr (.inl hj))
  have hr7 := (hr4.grow g56).keep (h' := H7) (by omega) fun j hj => k7 j (.inr (.inr hj))
  have hlok : l'.length ≤ 64 ∧ ∀ m ∈ l', ¬ Bad m := by
    rw [← hl']
    cases (a.act == 2)
    · simpa using dropL_ok a.k hl64 hok
    · simpa using And.intro hl64 hok
  obtain ⟨H8, e19, g8⟩ := flies19 hf7 hr7 hlok.1 hlok.2
  have q8 := g8.1
  have hne : binA .neq .bool (.bool (decide (isThere l a.k))) (.bool (decide (isThere l a.k))) = some (.bool false) := by cases decide (isThere l a.k) <;> rfl
  have la0 : loadA H1 false 1 h.next 0 = some (.int .i64 a.act) := by simp [loadA, G8]
  have la4 : loadA H1 false 1 h.next 4 = some (.int .i64 a.k) := by simp [loadA, G8]
  have lb0 : loadA H3 false 1 h.next 0 = some (.int .i64 a.act) := by simp [loadA, G8c]
  have lb4 : loadA H3 false 1 h.next 4 = some (.int .i64 a.k) := by simp [loadA, G8c]
  have lc : loadA H5 true 3 H2.next 0 = some (.agg [.int .i64 m.client, .bool m.back, x]) := by simp [loadA, G10c]
  have ld : loadA H5 true 3 H4.next 0 = some (.agg [.int .i64 m.client, .bool m.back, y]) := by simp [loadA, G12]
  have le : loadA H6 false 1 H2.next 2 = some (x) := by simp [loadA, G10d]
  refine ⟨?tm, H8, l', ?run, ?sh, F', R', hf7.grow g8, hr7.grow g8, b2, b3, by omega, fun j hj => ?_, hlok.1, hlok.2⟩
  case run =>
    rw [show ∀ tm h, xcode X1 tab 4 none (.loop body4) tm h = thenX X1 tab 4 none (.loop body4) (xcode X1 tab 4 none body4 tm h) from fun _ _ => x_loop]
    delta body4
    simp (decide := true) only [note_false, x_drawn, l_nil, l_op, l_guard, l_some, l_true, l_false, l_draw, readsA, x_true, x_false, x_seq, x_ops, x_cond, x_skip, x_ret, x_exit, x_block, x_then, x_thenE, x_thenR, x_blockN, x_blockR, x_blockE, s_nil, s_op, s_guard, s_some, s_true, s_false, s_put, s_put0, s_opsR, s_ret, s_norm, aop, ev, evs, List.map_cons, List.map_nil, List.cons_append, List.nil_append, List.append_nil, List.replicate, List.take_succ_cons, List.take_zero, List.take_nil, List.drop_succ_cons, List.drop_zero, List.drop_nil, Nat.zero_add, Nat.add_zero, Nat.reduceAdd, Nat.reduceMul, Nat.reduceLeDiff, Bool.false_eq_true, and_self, List.length_cons, List.length_nil, List.set_cons_zero, List.set_cons_succ, List.getD_cons_zero, List.getD_cons_succ, wantedA, List.getElem?_cons_zero, List.getElem?_cons_succ, q_t, q_f, Bool.not_true, Bool.not_false, b_add, b_sub, b_mul, b_eql, b_neq, b_lss, b_leq, b_gtr, b_geq, b_and, b_or, b_xor, b_quo, b_rem, b_shl, b_shr, unA, Option.map_some, Option.map_none, resA, tupA, Int.reduceLT, not_false_eq_true, not_true_eq_false, decide_true, decide_false, f_bool, c_bool, f_int, c_int, f_str, c_str, f_nilptr, c_nilptr, f_ptr, c_ptr, f_nilsl, c_nilsl, f_slice, c_slice, f_nilmap, c_nilmap, f_map, c_map, f_nilf, c_nilf, f_func, c_func, f_yieldf, c_yieldf, f_nilif, c_nilif, f_iface, c_iface, c_agg, List.all_cons, List.all_nil, Bool.and_true, Bool.true_and, if_true, if_false, ite_true, ite_false, hlt, hlt2, hix, hin, ldr, hst1, la0, la4, lb0, lb4, lc, ld, le, hact, hact3, e8, hst3, e17, hst5, hne, e18, G10d, e14, e19, hw, hfv, hfx, hfy, chkLog, same_cells]
    rfl
  case sh => exact ⟨rfl, rfl, rfl, rfl, rfl, rfl⟩
  · rw [g8.2 j (by omega), k7 j (.inl (by omega)), g56.2 j (by omega), s4.2.1 j (by omega) (fun e => by have := hlo j (.inr e); omega), gA3.2 j (by omega), s2.2.1 j (by omega) (fun e => by have := hlo j (.inl e); omega), gA1.2 j (by omega), hsame j hj]

end Go.Proofs.Ytdgpjefbdocepaa.Ya
