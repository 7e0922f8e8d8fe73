/-
  Numbers as bytes, walked.
-/
import Derived.Test.YtpoccinfeekdhaaDoorYaRpSpec
import Derived.Test.YtpoccinfeekdhaaDoorYbL
namespace Go.Proofs.YtpoccinfeekdhaaDoor.Ya
open Go.Ya
set_option linter.unusedVariables false
set_option linter.unusedSimpArgs false
set_option maxRecDepth 100000
set_option maxHeartbeats 8000000
theorem num_sized {s : Nat} (hs : Sz s) (h : Heap) : Runs (xcall X1 tab (.fn 78) [.int .i64 (s : Nat)] h) fun v h' => v = .bool true ∧ h = h' := by
  rcases hs with rfl | rfl | rfl | rfl <;> exact Runs.eq (ofRun (n := 40) (by kernel_rfl))
def lenTab : List Int := [0, 1, 2, 2, 3, 3, 3, 3, 4, 4, 4, 4, 4, 4, 4, 4, 5, 5, 5, 5, 5, 5, 5, 5, 5, 5, 5, 5, 5, 5, 5, 5, 6, 6, 6, 6, 6, 6, 6, 6, 6, 6, 6, 6, 6, 6, 6, 6, 6, 6, 6, 6, 6, 6, 6, 6, 6, 6, 6, 6, 6, 6, 6, 6, 7, 7, 7, 7, 7, 7, 7, 7, 7, 7, 7, 7, 7, 7, 7, 7, 7, 7, 7, 7, 7, 7, 7, 7, 7, 7, 7, 7, 7, 7, 7, 7, 7, 7, 7, 7, 7, 7, 7, 7, 7, 7, 7, 7, 7, 7, 7, 7, 7, 7, 7, 7, 7, 7, 7, 7, 7, 7, 7, 7, 7, 7, 7, 7, 8, 8, 8, 8, 8, 8, 8, 8, 8, 8, 8, 8, 8, 8, 8, 8, 8, 8, 8, 8, 8, 8, 8, 8, 8, 8, 8, 8, 8, 8, 8, 8, 8, 8, 8, 8, 8, 8, 8, 8, 8, 8, 8, 8, 8, 8, 8, 8, 8, 8, 8, 8, 8, 8, 8, 8, 8, 8, 8, 8, 8, 8, 8, 8, 8, 8, 8, 8, 8, 8, 8, 8, 8, 8, 8, 8, 8, 8, 8, 8, 8, 8, 8, 8, 8, 8, 8, 8, 8, 8, 8, 8, 8, 8, 8, 8, 8, 8, 8, 8, 8, 8, 8, 8, 8, 8, 8, 8, 8, 8, 8, 8, 8, 8, 8, 8, 8, 8, 8, 8, 8, 8, 8, 8, 8, 8, 8, 8]
theorem lenTab_all : ∀ x ∈ lenTab, 0 ≤ x ∧ x ≤ 8 := by decide +kernel
theorem lenTab_len : lenTab.length = 256 := by decide +kernel
theorem lenTab_at {i : Int} (h0 : 0 ≤ i) (h1 : i < 256) : lenTab[i.toNat]? = some (len8 lenTab i) := by
  rw [idx_at (by rw [lenTab_len]; omega)]; rfl
theorem lenTab_w {i : Int} : IntKind.i64.wrap (len8 lenTab i) = len8 lenTab i := by
  have := len8_le i lenTab lenTab_all
  exact w_i64 qo
theorem lenTab_wa {i a : Int} (h : 0 ≤ a ∧ a ≤ 1000) : IntKind.i64.wrap (a + len8 lenTab i) = a + len8 lenTab i := by
  have := len8_le i lenTab lenTab_all
  exact w_i64 qo
theorem len_end {a i n : Int} (h : 0 ≤ a ∧ a ≤ 56) (h1 : n < 4294967296 → a ≤ 24) (h2 : n < 65536 → a ≤ 8) (h3 : n < 256 → a ≤ 0) : 0 ≤ a + len8 lenTab i ∧ a + len8 lenTab i ≤ 64 ∧ (n < 4294967296 → a + len8 lenTab i ≤ 32) ∧ (n < 65536 → a + len8 lenTab i ≤ 16) ∧ (n < 256 → a + len8 lenTab i ≤ 8) := by
  have := len8_le i lenTab lenTab_all
  omega
theorem fd32 {n : Int} : n.fdiv (2 ^ Nat.min 32 IntKind.u64.bits) = n / 4294967296 := by
  have : (2 : Int) ^ Nat.min 32 IntKind.u64.bits = 4294967296 := by decide
  rw [this, Int.fdiv_eq_ediv_of_nonneg _ (by decide)]
theorem fd16 {n : Int} : n.fdiv (2 ^ Nat.min 16 IntKind.u64.bits) = n / 65536 := by
  have : (2 : Int) ^ Nat.min 16 IntKind.u64.bits = 65536 := by decide
  rw [this, Int.fdiv_eq_ediv_of_nonneg _ (by decide)]
def b82 : SC := (.seq (.ops [⟨some 2, .mov (.c (.int (.i64) 0)), none⟩]) (.seq (.seq (.ops [⟨some 3, .mov (.t 0), none⟩, ⟨some 4, .bin (.geq) (.other) (.t 3) (.c (.int (.u64) 4294967296)), none⟩]) (.cond (.t 4) (.seq (.ops [⟨some 5, .mov (.t 0), none⟩, ⟨some 6, .bin (.shr) (.other) (.t 5) (.c (.int (.u64) 32)), none⟩, ⟨some 0, .mov (.t 6), none⟩]) (.ops [⟨some 2, .mov (.c (.int (.i64) 32)), none⟩])) .skip)) (.seq (.seq (.ops [⟨some 7, .mov (.t 0), none⟩, ⟨some 8, .bin (.geq) (.other) (.t 7) (.c (.int (.u64) 65536)), none⟩]) (.cond (.t 8) (.seq (.ops [⟨some 9, .mov (.t 0), none⟩, ⟨some 10, .bin (.shr) (.other) (.t 9) (.c (.int (.u64) 16)), none⟩, ⟨some 0, .mov (.t 10), none⟩]) (.ops [⟨some 11, .mov (.t 2), none⟩, ⟨some 12, .bin (.add) (.other) (.t 11) (.c (.int (.i64) 16)), none⟩, ⟨some 2, .mov (.t 12), none⟩])) .skip)) (.seq (.seq (.ops [⟨some 13, .mov (.t 0), none⟩, ⟨some 14, .bin (.geq) (.other) (.t 13) (.c (.int (.u64) 256)), none⟩]) (.cond (.t 14) (.seq (.ops [⟨some 15, .mov (.t 0), none⟩, ⟨some 16, .bin (.shr) (.other) (.t 15) (.c (.int (.u64) 8)), none⟩, ⟨some 0, .mov (.t 16), none⟩]) (.ops [⟨some 17, .mov (.t 2), none⟩, ⟨some 18, .bin (.add) (.other) (.t 17) (.c (.int (.i64) 8)), none⟩, ⟨some 2, .mov (.t 18), none⟩])) .skip)) (.seq (.ops [⟨some 19, .mov (.t 2), none⟩, ⟨some 20, .mov (.t 0), none⟩, ⟨some 21, .convInt (.u8) (.t 20), none⟩, ⟨some 22, .idxStr (.c (.str lenTab)) (.t 21), none⟩, ⟨some 23, .convInt (.i64) (.t 22), none⟩, ⟨some 24, .bin (.add) (.other) (.t 19) (.t 23), none⟩, ⟨some 2, .mov (.t 24), none⟩]) .ret)))))
theorem t82 : tab 82 = some ⟨25, [.tmp 2], b82⟩ := rfl
theorem bits_Len64 (n : Int) (h0 : 0 ≤ n ∧ n ≤ 18446744073709551615) (h : Heap) : Runs (xcall X1 tab (.fn 82) [.int .u64 n] h) fun v h' => h = h' ∧ ∃ r, v = .int .i64 r ∧ 0 ≤ r ∧ r ≤ 64 ∧ (n < 4294967296 → r ≤ 32) ∧ (n < 65536 → r ≤ 16) ∧ (n < 256 → r ≤ 8) := by
  refine Runs.intro fun K hK => ?_
  rw [w_fn rfl t82 (Nat.le_of_ble_eq_true rfl)]
  delta b82
  repeat' (first
    | simp (disch := first | exact qd | fail) only [WB, ↓WP, ↓WL, WR, WC, if_true, if_false, ite_true, ite_false, aop, ev, evs, readsA, List.replicate, numF, unA, resA, tupA, loadA, storeA, splice, fillA, kindsOk, plainEq, ↓reduceIte, Nat.reduceEqDiff, Nat.reduceLT, Int.reduceToNat, Int.reduceBEq, Int.reduceBNe, Nat.reduceAdd, Nat.reduceMul, Nat.reduceLeDiff, Int.reduceLT, Int.reduceSub, Int.reduceAdd, lenTab_at, lenTab_w, lenTab_wa, fd32, fd16, fdiv256]
    | ((first | refine atC ?_ ?_ | refine atG ?_ ?_ | refine atH ?_ ?_ | refine atP ?_ ?_) <;> intro hc <;> (try rw [hc]) <;> (try simp only [BD] at hc) <;> try (exfalso; omega)))
  all_goals try (first
    | (refine hK _ _ ?_; (first | exact ⟨rfl, _, rfl, len_end qo qo qo qo⟩ | (have := len_end (a := 0) (i := n) (n := n) qo qo qo qo; rw [Int.zero_add] at this; exact ⟨rfl, _, rfl, this⟩)); done)
    | fail)
theorem t75 : tab 75 = some ⟨34, [.tmp 4, .tmp 5], b75⟩ := rfl
theorem num_Put {n : Int} {s : Nat} (hs : Sz s) (h0 : 0 ≤ n) (h1 : n < 256 ^ s) (h : Heap) : Runs (xcall X1 tab (.fn 75) [.int .u64 n, .int .i64 (s : Nat)] h) fun v h' => Grow h h' ∧ ∃ w, v = .tuple [w, .int .i64 0] ∧ OwB h.next h' w (beL n s) := by
  refine Runs.intro fun K hK => ?_
  have hsl := hs.le
  have hp := sz_pow hs
  rw [w_fn rfl t75 (Nat.le_of_ble_eq_true rfl)]
  delta b75
  repeat' (first
    | simp (disch := first | exact qd | fail) only [WB, ↓WP, ↓WL, WR, WC, if_true, if_false, ite_true, ite_false, aop, ev, evs, readsA, List.replicate, numF, unA, resA, tupA, loadA, storeA, splice, fillA, kindsOk, plainEq, ↓reduceIte, Nat.reduceEqDiff, Nat.reduceLT, Int.reduceToNat, Int.reduceBEq, Int.reduceBNe, Nat.reduceAdd, Nat.reduceMul, Nat.reduceLeDiff, Int.reduceLT, Int.reduceSub, Int.reduceAdd, fdiv256]
    | ((first | refine atC ?_ ?_ | refine atG ?_ ?_ | refine atH ?_ ?_ | refine atP ?_ ?_) <;> intro hc <;> (try rw [hc]) <;> (try simp only [BD] at hc) <;> try (exfalso; omega))
    | ((first
      | (refine Runs.call (num_sized hs _) ?_; rintro _ _ ⟨rfl, rfl⟩)
      | (refine Runs.call (bits_Len64 n qo _) ?_; rintro _ _ ⟨rfl, r, rfl, hr⟩)
      | fail); all_goals ((try (have gn := gr.1; try simp only [nx_alloc, nx_set] at gn)); (try (have an := ha.num; try simp only [nx_alloc, nx_set, own_sl, own_nil] at an)); (try (have on := hO.num; try simp only [nx_alloc, nx_set] at on)); (try (have kn := hk.1; try simp only [nx_alloc, nx_set] at kn)); try have hB := hO.at)))
  all_goals try (first
    | (refine hK _ _ ?_; obtain rfl : j = 0 := qo; obtain rfl : p = [] := List.eq_nil_of_length_eq_zero hj; exact ⟨qg, _, rfl, .inr ⟨h.next, s, s, true, [], rfl, Nat.le_refl _, by simpa using hg, by simp [beL_len], by simp [beL_len], Nat.le_refl _⟩⟩; done)
    | fail)
  all_goals
    refine wloop (α := Nat × Int × (List AV)) [6] (fun x => [(0, .int .u64 x.2.1), (7, .int .i64 ((x.1 : Nat) - 1 : Int))]) (fun x H => H.get h.next = some (.cells (x.2.2 ++ ints (beL n (s - x.1))) false) ∧ Grow h H ∧ h.next < H.next ∧ x.2.2.length = x.1 ∧ x.1 ≤ s ∧ x.2.1 = n / 256 ^ (s - x.1) ∧ 0 ≤ x.2.1) (fun x => x.1) ?_ ((s, n, List.replicate s (.int .u8 0))) ?_ ?_
    rotate_left
    · exact qf
    · (try dsimp only)
      refine ⟨?_, Grow.alloc _ _, by simp, by simp, by omega, by simp, by omega⟩; simp [ga_new, beL, ints]
    intro x b1 H hI ih
    obtain ⟨j, m, p⟩ := x
    try dsimp only at hI
    obtain ⟨hg, g, hn, hj, hjs, hm, hm0⟩ := hI
    try have gn := g.1
    refine w_unfold (by delta L75_0; rfl) ?_
    simp only [keeps_nil, keeps_cons, List.cons_append, List.nil_append, lk_cons, lk_nil, numF, Nat.reduceEqDiff, Nat.reduceAdd, Nat.zero_add, ↓reduceIte]
    repeat' (first
      | simp (disch := first | exact qd | fail) only [WB, ↓WP, ↓WL, WR, WC, if_true, if_false, ite_true, ite_false, aop, ev, evs, readsA, List.replicate, numF, unA, resA, tupA, loadA, storeA, splice, fillA, kindsOk, plainEq, ↓reduceIte, Nat.reduceEqDiff, Nat.reduceLT, Int.reduceToNat, Int.reduceBEq, Int.reduceBNe, Nat.reduceAdd, Nat.reduceMul, Nat.reduceLeDiff, Int.reduceLT, Int.reduceSub, Int.reduceAdd, fdiv256, hg, List.length_append, ints_len, beL_len]
      | ((first | refine atC ?_ ?_ | refine atG ?_ ?_ | refine atH ?_ ?_ | refine atP ?_ ?_) <;> intro hc <;> (try rw [hc]) <;> (try simp only [BD] at hc) <;> try (exfalso; omega))
      | ((first
        | (refine Runs.call (num_sized hs _) ?_; rintro _ _ ⟨rfl, rfl⟩)
        | (refine Runs.call (bits_Len64 n qo _) ?_; rintro _ _ ⟨rfl, r, rfl, hr⟩)
        | fail); all_goals ((try (have gn := gr.1; try simp only [nx_alloc, nx_set] at gn)); (try (have an := ha.num; try simp only [nx_alloc, nx_set, own_sl, own_nil] at an)); (try (have on := hO.num; try simp only [nx_alloc, nx_set] at on)); (try (have kn := hk.1; try simp only [nx_alloc, nx_set] at kn)); try have hB := hO.at)))
    all_goals try (first
      | exact ih ((j - 1, m / 256, p.take (j - 1))) _ _ _ (by ((try dsimp only); omega)) qf (by ((try dsimp only); (first | (refine ⟨?_, qg, by simp only [nx_set]; omega, by rw [List.length_take, hj]; omega, by omega, put_next qo hjs hm, by omega⟩; rw [gs_new rfl hn, ← put_step hj qo hjs hm h0]; simp) | fail)))
      | (refine hK _ _ ?_; obtain rfl : j = 0 := qo; obtain rfl : p = [] := List.eq_nil_of_length_eq_zero hj; exact ⟨qg, _, rfl, .inr ⟨h.next, s, s, true, [], rfl, Nat.le_refl _, by simpa using hg, by simp [beL_len], by simp [beL_len], Nat.le_refl _⟩⟩; done)
      | fail)
theorem ref01_size {s : Nat} (hs : Sz s) (h : Heap) : Runs (xcall X1 tab (.fn 56) [.int .i64 (s : Nat)] h) fun v h' => v = .bool true ∧ h = h' := by
  rcases hs with rfl | rfl | rfl | rfl <;> exact Runs.eq (ofRun (n := 40) (by kernel_rfl))
theorem t36 : tab 36 = some ⟨39, [.tmp 4, .tmp 5], b36⟩ := rfl
theorem ref01_Put {n : Int} {s : Nat} (hs : Sz s) (h0 : 0 ≤ n) (h1 : n < 256 ^ s) (h : Heap) : Runs (xcall X1 tab (.fn 36) [.int .u64 n, .int .i64 (s : Nat)] h) fun v h' => Grow h h' ∧ ∃ w, v = .tuple [w, .int .i64 0] ∧ OwB h.next h' w (beL n s) := by
  refine Runs.intro fun K hK => ?_
  have hsl := hs.le
  have hp := sz_pow hs
  rw [w_fn rfl t36 (Nat.le_of_ble_eq_true rfl)]
  delta b36
  repeat' (first
    | simp (disch := first | exact qd | fail) only [WB, ↓WP, ↓WL, WR, WC, if_true, if_false, ite_true, ite_false, aop, ev, evs, readsA, List.replicate, numF, unA, resA, tupA, loadA, storeA, splice, fillA, kindsOk, plainEq, ↓reduceIte, Nat.reduceEqDiff, Nat.reduceLT, Int.reduceToNat, Int.reduceBEq, Int.reduceBNe, Nat.reduceAdd, Nat.reduceMul, Nat.reduceLeDiff, Int.reduceLT, Int.reduceSub, Int.reduceAdd, shl_sz hs, shr_sz]
    | ((first | refine atC ?_ ?_ | refine atG ?_ ?_ | refine atH ?_ ?_ | refine atP ?_ ?_) <;> intro hc <;> (try rw [hc]) <;> (try simp only [BD] at hc) <;> try (exfalso; omega))
    | ((first
      | (refine Runs.call (ref01_size hs _) ?_; rintro _ _ ⟨rfl, rfl⟩)
      | fail); all_goals ((try (have gn := gr.1; try simp only [nx_alloc, nx_set] at gn)); (try (have an := ha.num; try simp only [nx_alloc, nx_set, own_sl, own_nil] at an)); (try (have on := hO.num; try simp only [nx_alloc, nx_set] at on)); (try (have kn := hk.1; try simp only [nx_alloc, nx_set] at kn)); try have hB := hO.at)))
  all_goals try (first
    | (refine hK _ _ ?_; obtain rfl : j = 0 := qo; refine ⟨qg, _, rfl, ?_⟩; rw [Nat.sub_zero, List.take_of_length_le (by rw [beL_len]; omega)] at hO; exact hO; done)
    | fail)
  all_goals
    refine wloop (α := Nat × AV) [0] (fun x => [(6, x.2), (7, .int .i64 ((x.1 : Nat) - 1 : Int))]) (fun x H => OwB h.next H x.2 ((beL n s).take (s - x.1)) ∧ Grow h H ∧ x.1 ≤ s) (fun x => x.1) ?_ ((s, .nilsl)) ?_ ?_
    rotate_left
    · exact qf
    · (try dsimp only)
      refine ⟨?_, Grow.refl _, by omega⟩; simp [ints]; exact OwC.nil
    intro x b1 H hI ih
    obtain ⟨j, b⟩ := x
    try dsimp only at hI
    obtain ⟨hO, g, hj⟩ := hI
    have on := hO.num
    have hB := hO.at
    try have gn := g.1
    refine w_unfold (by delta L36_0; rfl) ?_
    simp only [keeps_nil, keeps_cons, List.cons_append, List.nil_append, lk_cons, lk_nil, numF, Nat.reduceEqDiff, Nat.reduceAdd, Nat.zero_add, ↓reduceIte]
    repeat' (first
      | simp (disch := first | exact qd | fail) only [WB, ↓WP, ↓WL, WR, WC, if_true, if_false, ite_true, ite_false, aop, ev, evs, readsA, List.replicate, numF, unA, resA, tupA, loadA, storeA, splice, fillA, kindsOk, plainEq, ↓reduceIte, Nat.reduceEqDiff, Nat.reduceLT, Int.reduceToNat, Int.reduceBEq, Int.reduceBNe, Nat.reduceAdd, Nat.reduceMul, Nat.reduceLeDiff, Int.reduceLT, Int.reduceSub, Int.reduceAdd, shl_sz hs, shr_sz]
      | ((first | refine atC ?_ ?_ | refine atG ?_ ?_ | refine atH ?_ ?_ | refine atP ?_ ?_) <;> intro hc <;> (try rw [hc]) <;> (try simp only [BD] at hc) <;> try (exfalso; omega))
      | ((first
        | (refine Runs.call (ref01_size hs _) ?_; rintro _ _ ⟨rfl, rfl⟩)
        | (refine Runs.call (OwB.app (hO.grow qg) (by simp only [nx_alloc]; omega) (Src.lit1 (ga_new rfl)) (by simp [beL_len]; omega)) ?_; rintro _ _ ⟨hO, ha⟩)
        | fail); all_goals ((try (have gn := gr.1; try simp only [nx_alloc, nx_set] at gn)); (try (have an := ha.num; try simp only [nx_alloc, nx_set, own_sl, own_nil] at an)); (try (have on := hO.num; try simp only [nx_alloc, nx_set] at on)); (try (have kn := hk.1; try simp only [nx_alloc, nx_set] at kn)); try have hB := hO.at)))
    all_goals try (first
      | exact ih ((j - 1, _)) _ _ _ (by ((try dsimp only); omega)) qf (by ((try dsimp only); (first | (refine ⟨?_, qg, by omega⟩; rw [rput_step h0 qo hj]; exact hO) | fail)))
      | (refine hK _ _ ?_; obtain rfl : j = 0 := qo; refine ⟨qg, _, rfl, ?_⟩; rw [Nat.sub_zero, List.take_of_length_le (by rw [beL_len]; omega)] at hO; exact hO; done)
      | fail)
theorem t79 : tab 79 = some ⟨4, [.tmp 2], b79⟩ := rfl
theorem t83 : tab 83 = some ⟨19, [], b83⟩ := rfl
theorem t71 : tab 71 = some ⟨47, [.cell 6 false 1, .tmp 7], b71⟩ := rfl
theorem num_Get {v : AV} {bs : List Int} {h : Heap} (hb : BytesAt h v bs) (hy : Bytes bs) {s : Nat} (hs : Sz s) (hl : bs.length ≤ 140737488355328) : Runs (xcall X1 tab (.fn 71) [v, .int .i64 0, .int .i64 (s : Nat)] h) fun v h' => Grow h h' ∧ v = if bs.length < s then .tuple [.int .u64 0, .int .i64 4] else .tuple [.int .u64 (valBE (bs.take s)), .int .i64 0] := by
  refine Runs.intro fun K hK => ?_
  have hsl := hs.le
  have hp := sz_pow hs
  rw [w_fn rfl t71 (Nat.le_of_ble_eq_true rfl)]
  delta b71
  repeat' (first
    | simp (disch := first | exact qd | fail) only [WB, ↓WP, ↓WL, WR, WC, if_true, if_false, ite_true, ite_false, aop, ev, evs, readsA, List.replicate, numF, unA, resA, tupA, loadA, storeA, splice, fillA, kindsOk, plainEq, ↓reduceIte, Nat.reduceEqDiff, Nat.reduceLT, Int.reduceToNat, Int.reduceBEq, Int.reduceBNe, Nat.reduceAdd, Nat.reduceMul, Nat.reduceLeDiff, Int.reduceLT, Int.reduceSub, Int.reduceAdd]
    | ((first | refine atC ?_ ?_ | refine atG ?_ ?_ | refine atH ?_ ?_ | refine atP ?_ ?_) <;> intro hc <;> (try rw [hc]) <;> (try simp only [BD] at hc) <;> try (exfalso; omega))
    | (rw [w_fn rfl t79 (Nat.le_of_ble_eq_true rfl)]; delta b79)
    | (rw [w_fn rfl t83 (Nat.le_of_ble_eq_true rfl)]; delta b83)
    | ((first
      | (refine Runs.call (num_sized hs _) ?_; rintro _ _ ⟨rfl, rfl⟩)
      | (refine Runs.call (BytesAt.cutR hb (a := 0) (b := bs.length) qg (.inl rfl) (.inr ⟨rfl, rfl⟩) qo qo) ?_; rintro v1 _ ⟨rfl, hb1⟩; simp only [List.take_length, List.drop_zero] at hb1)
      | (refine Runs.call (BytesAt.cutR hb1 (a := 0) (b := s) qg (.inr ⟨rfl, rfl⟩) (.inl rfl) qo qo) ?_; rintro v2 _ ⟨rfl, hb2⟩; simp only [List.drop_zero] at hb2; have hlt : (List.take s bs).length = s := (by rw [List.length_take]; omega); have hyB := hy.take s; obtain ⟨B, hT⟩ : ∃ B, B = List.take s bs := ⟨_, rfl⟩; rw [← hT] at hb2 hlt hyB)
      | fail); all_goals ((try (have gn := gr.1; try simp only [nx_alloc, nx_set] at gn)); (try (have an := ha.num; try simp only [nx_alloc, nx_set, own_sl, own_nil] at an)); (try (have on := hO.num; try simp only [nx_alloc, nx_set] at on)); (try (have kn := hk.1; try simp only [nx_alloc, nx_set] at kn)); try have hB := hO.at)))
  all_goals try (first
    | (refine hK _ _ ?_; (first | (refine ⟨qg, ?_⟩; rw [if_pos qo]; done) | (obtain rfl : j = 0 := qo; refine ⟨qg, ?_⟩; rw [if_neg qo, ← hT, List.drop_zero])); done)
    | fail)
  all_goals
    refine wloop (α := Nat) [0, 1] (fun x => [(3, .int .i64 ((x : Nat) - 1 : Int))]) (fun x H => H.get h.next = some (.cells [.int .i64 (s : Nat)] false) ∧ H.get (h.next + 1) = some (.cells [.int .u64 (valBE (B.drop x))] false) ∧ H.get (h.next + 1 + 1) = some (.cells [v2] false) ∧ (∃ base ov, H.get (h.next + 1 + 1 + 1) = some (.loop 71 (mk 47 base ov) [34, 35] L71_0a L71_0 .ready .normal) ∧ lk base ov 5 = .ptr h.next 0 ∧ lk base ov 6 = .ptr (h.next + 1) 0) ∧ Grow h H ∧ h.next + 4 ≤ H.next ∧ x ≤ s) (fun x => x) ?_ (s) ?_ ?_
    rotate_left
    · exact qf
    · (try dsimp only)
      refine ⟨qs, by (simp (disch := first | (refine Asm.mk ?_; assumption) | omega | (simp only [nx_alloc, nx_set, own_sl, own_nil] <;> omega) | fail) only [ga_new, ga_old, gs_new, gs_old, nx_alloc, nx_set, g_get, app_get, pok_get, get_asm, id_eq, ]); rw [List.drop_of_length_le qo]; rfl, qs, ⟨_, _, ga_new rfl, rfl, rfl⟩, qg, by simp only [nx_alloc]; omega, by omega⟩
    intro j b1 H hI ih
    try dsimp only at hI
    obtain ⟨hS, hN, hW, ⟨base, ov, hL, l5, l6⟩, g, hn, hj⟩ := hI
    have hv := valBE_lt (B.drop j) (hyB.drop j)
    rw [List.length_drop, hlt] at hv
    have hc := hyB.at (j - 1)
    have hst := fun z => val_step (bs := B) (j := j) z qo
    rw [hlt] at hst
    try have gn := g.1
    refine w_unfold (by delta L83_0; rfl) ?_
    simp only [keeps_nil, keeps_cons, List.cons_append, List.nil_append, lk_cons, lk_nil, numF, Nat.reduceEqDiff, Nat.reduceAdd, Nat.zero_add, ↓reduceIte]
    repeat' (first
      | simp (disch := first | exact qd | fail) only [WB, ↓WP, ↓WL, WR, WC, if_true, if_false, ite_true, ite_false, aop, ev, evs, readsA, List.replicate, numF, unA, resA, tupA, loadA, storeA, splice, fillA, kindsOk, plainEq, ↓reduceIte, Nat.reduceEqDiff, Nat.reduceLT, Int.reduceToNat, Int.reduceBEq, Int.reduceBNe, Nat.reduceAdd, Nat.reduceMul, Nat.reduceLeDiff, Int.reduceLT, Int.reduceSub, Int.reduceAdd, hS, hN, hW, hL, l5, l6, L71_0a, L71_0, get_or]
      | ((first | refine atC ?_ ?_ | refine atG ?_ ?_ | refine atH ?_ ?_ | refine atP ?_ ?_) <;> intro hc <;> (try rw [hc]) <;> (try simp only [BD] at hc) <;> try (exfalso; omega))
      | (rw [w_fn rfl t79 (Nat.le_of_ble_eq_true rfl)]; delta b79)
      | (rw [w_fn rfl t83 (Nat.le_of_ble_eq_true rfl)]; delta b83)
      | ((first
        | (refine Runs.call (num_sized hs _) ?_; rintro _ _ ⟨rfl, rfl⟩)
        | (refine Runs.call (BytesAt.cutR hb (a := 0) (b := bs.length) qg (.inl rfl) (.inr ⟨rfl, rfl⟩) qo qo) ?_; rintro v1 _ ⟨rfl, hb1⟩; simp only [List.take_length, List.drop_zero] at hb1)
        | (refine Runs.call (BytesAt.cutR hb1 (a := 0) (b := s) qg (.inr ⟨rfl, rfl⟩) (.inl rfl) qo qo) ?_; rintro v2 _ ⟨rfl, hb2⟩; simp only [List.drop_zero] at hb2; have hlt : (List.take s bs).length = s := (by rw [List.length_take]; omega); have hyB := hy.take s; obtain ⟨B, hT⟩ : ∃ B, B = List.take s bs := ⟨_, rfl⟩; rw [← hT] at hb2 hlt hyB)
        | fail); all_goals ((try (have gn := gr.1; try simp only [nx_alloc, nx_set] at gn)); (try (have an := ha.num; try simp only [nx_alloc, nx_set, own_sl, own_nil] at an)); (try (have on := hO.num; try simp only [nx_alloc, nx_set] at on)); (try (have kn := hk.1; try simp only [nx_alloc, nx_set] at kn)); try have hB := hO.at)))
    all_goals try (first
      | exact ih (j - 1) _ _ _ (by ((try dsimp only); omega)) qf (by ((try dsimp only); (first | (rw [hst qo]; exact ⟨by (simp (disch := first | (refine Asm.mk ?_; assumption) | omega | (simp only [nx_alloc, nx_set, own_sl, own_nil] <;> omega) | fail) only [ga_new, ga_old, gs_new, gs_old, nx_alloc, nx_set, g_get, app_get, pok_get, get_asm, id_eq, hS]; first | done | fail), qs, by (simp (disch := first | (refine Asm.mk ?_; assumption) | omega | (simp only [nx_alloc, nx_set, own_sl, own_nil] <;> omega) | fail) only [ga_new, ga_old, gs_new, gs_old, nx_alloc, nx_set, g_get, app_get, pok_get, get_asm, id_eq, hW]; first | done | fail), ⟨base, ov, by ((simp (disch := first | (refine Asm.mk ?_; assumption) | omega | (simp only [nx_alloc, nx_set, own_sl, own_nil] <;> omega) | fail) only [ga_new, ga_old, gs_new, gs_old, nx_alloc, nx_set, g_get, app_get, pok_get, get_asm, id_eq, ]) <;> rfl), l5, l6⟩, qg, by simp only [nx_set]; omega, by omega⟩) | fail)))
      | (refine hK _ _ ?_; (first | (refine ⟨qg, ?_⟩; rw [if_pos qo]; done) | (obtain rfl : j = 0 := qo; refine ⟨qg, ?_⟩; rw [if_neg qo, ← hT, List.drop_zero])); done)
      | fail)
end Go.Proofs.YtpoccinfeekdhaaDoor.Ya
