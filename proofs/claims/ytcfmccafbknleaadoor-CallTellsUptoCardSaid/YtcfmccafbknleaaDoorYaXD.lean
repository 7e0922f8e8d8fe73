/-
  The document's writer, and its numbers.
-/
import Derived.Test.YtcfmccafbknleaaDoorYaXT
import Derived.Test.YtcfmccafbknleaaDoorYbL
namespace Go.Proofs.YtcfmccafbknleaaDoor.Ya
open Go.Ya
set_option linter.unusedVariables false
set_option linter.unusedSimpArgs false
set_option maxRecDepth 100000
set_option maxHeartbeats 8000000
theorem valBE_lt7 {l : List Int} (hy : Bytes l) (hl : l.length ≤ 7) : 0 ≤ valBE l ∧ valBE l < 72057594037927936 := by
  have h := valBE_lt l hy
  generalize l.length = m at h hl
  have : m = 0 ∨ m = 1 ∨ m = 2 ∨ m = 3 ∨ m = 4 ∨ m = 5 ∨ m = 6 ∨ m = 7 := by omega
  rcases this with rfl | rfl | rfl | rfl | rfl | rfl | rfl | rfl <;> (simp only [Int.reducePow] at h; omega)
theorem valBE_snoc (l : List Int) (c : Int) : valBE (l ++ [c]) = valBE l * 256 + c := by simp [valBE, List.foldl_append]
theorem valBE_next {bs : List Int} {a i : Nat} (h : a + i < bs.length) : valBE ((bs.drop a).take (i + 1)) = 256 * valBE ((bs.drop a).take i) + bs.getD (a + i) 0 := by
  rw [List.take_add_one, List.getElem?_drop, List.getElem?_eq_getElem h, List.getD_eq_getElem?_getD, List.getElem?_eq_getElem h]
  show valBE (_ ++ [_]) = _
  rw [valBE_snoc]; show _ = _ + bs[a + i]; omega
theorem nat_add {a i : Nat} : ((a : Int) + (i : Int)) = ((a + i : Nat) : Int) := by omega
theorem any_hit2 {bs : List Int} {a n i : Nat} (h : a + n ≤ bs.length) (hi : i < n) (hc : bs.getD (a + i) 0 > 0) : ((bs.drop a).take n).any posB = true := by
  refine any_hit (j := i) (by rw [List.length_take, List.length_drop]; omega) ?_
  rw [List.getD_eq_getElem?_getD, List.getElem?_take, if_pos hi, List.getElem?_drop, ← List.getD_eq_getElem?_getD]; exact hc
theorem any_no2 {bs : List Int} {a n : Nat} (h : ∀ i, i < n → ¬ bs.getD (a + i) 0 > 0) : ((bs.drop a).take n).any posB = false := by
  refine any_no fun i hi => ?_
  rw [List.length_take] at hi
  rw [List.getD_eq_getElem?_getD, List.getElem?_take, if_pos qo, List.getElem?_drop, ← List.getD_eq_getElem?_getD]; exact h i qo
theorem t22 : tab 22 = some ⟨12, [.tmp 2], b22⟩ := rfl
theorem d_Number {n : Int} (n0 : 0 ≤ n) (n1 : n ≤ 4294967295) (h : Heap) : Runs (xcall X1 tab (.fn 22) [.int .u32 n] h) fun v h' => Grow h h' ∧ OwB h.next h' v (beL n 4) := by
  refine Runs.intro fun K hK => ?_
  have hp : (256 : Int) ^ 4 = 4294967296 := by decide
  rw [w_fn rfl t22 (Nat.le_of_ble_eq_true rfl)]
  delta b22
  repeat' (first
    | simp (disch := first | exact qd | fail) only [WB, ↓WP, ↓WL, WR, WC, if_true, if_false, ite_true, ite_false, aop, ev, evs, readsA, List.replicate, numF, unA, resA, tupA, loadA, storeA, splice, fillA, kindsOk, plainEq, ↓reduceIte, Nat.reduceEqDiff, Nat.reduceLT, Int.reduceToNat, Int.reduceBEq, Int.reduceBNe, Nat.reduceAdd, Nat.reduceMul, Nat.reduceLeDiff, Int.reduceLT, Int.reduceSub, Int.reduceAdd]
    | ((first | refine atC ?_ ?_ | refine atG ?_ ?_ | refine atH ?_ ?_ | refine atP ?_ ?_) <;> intro hc <;> (try rw [hc]) <;> (try simp only [BD] at hc) <;> try (exfalso; omega))
    | ((first
      | (refine Runs.call (ref01_Put (s := 4) sz4 n0 qo _) ?_; rintro _ H1 ⟨gr, b1, rfl, hB⟩; have hfb := hB.fl; have hcb := cells_of hfb)
      | fail); all_goals ((try (have gn := gr.1; try simp only [nx_alloc, nx_set] at gn)); (try (have an := ha.num; try simp only [nx_alloc, nx_set, own_sl, own_nil] at an)); (try (have on := hO.num; try simp only [nx_alloc, nx_set] at on)); (try (have kn := hk.1; try simp only [nx_alloc, nx_set] at kn)); try have hB := hO.at)))
  all_goals try (first
    | (refine hK _ _ ?_; exact ⟨gr, hB⟩; done)
    | fail)
theorem t23 : tab 23 = some ⟨11, [.tmp 2], b23⟩ := rfl
theorem d_Great {n : Int} (n0 : 0 ≤ n) (n1 : n ≤ 18446744073709551615) (h : Heap) : Runs (xcall X1 tab (.fn 23) [.int .u64 n] h) fun v h' => Grow h h' ∧ OwB h.next h' v (beL n 8) := by
  refine Runs.intro fun K hK => ?_
  have hp : (256 : Int) ^ 8 = 18446744073709551616 := by decide
  rw [w_fn rfl t23 (Nat.le_of_ble_eq_true rfl)]
  delta b23
  repeat' (first
    | simp (disch := first | exact qd | fail) only [WB, ↓WP, ↓WL, WR, WC, if_true, if_false, ite_true, ite_false, aop, ev, evs, readsA, List.replicate, numF, unA, resA, tupA, loadA, storeA, splice, fillA, kindsOk, plainEq, ↓reduceIte, Nat.reduceEqDiff, Nat.reduceLT, Int.reduceToNat, Int.reduceBEq, Int.reduceBNe, Nat.reduceAdd, Nat.reduceMul, Nat.reduceLeDiff, Int.reduceLT, Int.reduceSub, Int.reduceAdd]
    | ((first | refine atC ?_ ?_ | refine atG ?_ ?_ | refine atH ?_ ?_ | refine atP ?_ ?_) <;> intro hc <;> (try rw [hc]) <;> (try simp only [BD] at hc) <;> try (exfalso; omega))
    | ((first
      | (refine Runs.call (ref01_Put (s := 8) sz8 n0 qo _) ?_; rintro _ H1 ⟨gr, b1, rfl, hB⟩; have hfb := hB.fl; have hcb := cells_of hfb)
      | fail); all_goals ((try (have gn := gr.1; try simp only [nx_alloc, nx_set] at gn)); (try (have an := ha.num; try simp only [nx_alloc, nx_set, own_sl, own_nil] at an)); (try (have on := hO.num; try simp only [nx_alloc, nx_set] at on)); (try (have kn := hk.1; try simp only [nx_alloc, nx_set] at kn)); try have hB := hO.at)))
  all_goals try (first
    | (refine hK _ _ ?_; exact ⟨gr, hB⟩; done)
    | fail)
theorem t25 : tab 25 = some ⟨23, [.tmp 2], b25⟩ := rfl
theorem d_Bytes {h : Heap} {v : AV} {xs : List Int} (hv : BytesAt h v xs) (hx : xs.length ≤ 1000000000) : Runs (xcall X1 tab (.fn 25) [v] h) fun v h' => Grow h h' ∧ OwB h.next h' v (encB xs) := by
  refine Runs.intro fun K hK => ?_
  have hpn := padN_le xs.length
  have hbl := beL_len xs.length 4
  have hfl := BytesAt.flat' hv
  have hcl := cells_of hfl
  rw [w_fn rfl t25 (Nat.le_of_ble_eq_true rfl)]
  delta b25
  repeat' (first
    | simp (disch := first | exact qd | fail) only [WB, ↓WP, ↓WL, WR, WC, if_true, if_false, ite_true, ite_false, aop, ev, evs, readsA, List.replicate, numF, unA, resA, tupA, loadA, storeA, splice, fillA, kindsOk, plainEq, ↓reduceIte, Nat.reduceEqDiff, Nat.reduceLT, Int.reduceToNat, Int.reduceBEq, Int.reduceBNe, Nat.reduceAdd, Nat.reduceMul, Nat.reduceLeDiff, Int.reduceLT, Int.reduceSub, Int.reduceAdd, hfl, hcl]
    | ((first | refine atC ?_ ?_ | refine atG ?_ ?_ | refine atH ?_ ?_ | refine atP ?_ ?_) <;> intro hc <;> (try rw [hc]) <;> (try simp only [BD] at hc) <;> try (exfalso; omega))
    | ((first
      | (refine Runs.call (d_Number (n := (xs.length : Nat)) qo qo _) ?_; rintro v1 H1 ⟨gr, hB⟩; have on1 := hB.num; have hf1 := hB.fl; have hc1 := cells_of hf1)
      | (refine Runs.call (OwB.app hB qo (hv.grow qg).src qo) ?_; rintro v2 H2 ⟨hB2, ha⟩; have on2 := hB2.num; have hf2 := hB2.fl; have hc2 := cells_of hf2; have g2 : Grow h H2 := ha.grow gr qo)
      | fail); all_goals ((try (have gn := gr.1; try simp only [nx_alloc, nx_set] at gn)); (try (have an := ha.num; try simp only [nx_alloc, nx_set, own_sl, own_nil] at an)); (try (have on := hO.num; try simp only [nx_alloc, nx_set] at on)); (try (have kn := hk.1; try simp only [nx_alloc, nx_set] at kn)); try have hB := hO.at)))
  all_goals try (first
    | (refine hK _ _ ?_; (obtain rfl : i = padN xs.length := qo; exact ⟨qg, hO⟩); done)
    | fail)
  all_goals
    refine wloop (α := Nat × AV) [0] (fun x => [(3, x.2), (4, .int .i64 (x.1 : Nat))]) (fun x H => OwB h.next H x.2 (beL xs.length 4 ++ xs ++ List.replicate x.1 0) ∧ Grow h H ∧ x.1 ≤ padN xs.length) (fun x => padN xs.length - x.1) ?_ ((0, v2)) ?_ ?_
    rotate_left
    · exact qf
    · (try dsimp only)
      exact ⟨by simpa using hB2, by assumption, by omega⟩
    intro x b1 H hI ih
    obtain ⟨i, o⟩ := x
    try dsimp only at hI
    obtain ⟨hO, g, hi⟩ := hI
    have on := hO.num
    have hfo := hO.fl
    have hco := cells_of hfo
    try have gn := g.1
    refine w_unfold (by delta L25_0; rfl) ?_
    simp only [keeps_nil, keeps_cons, List.cons_append, List.nil_append, lk_cons, lk_nil, numF, Nat.reduceEqDiff, Nat.reduceAdd, Nat.zero_add, ↓reduceIte]
    repeat' (first
      | simp (disch := first | exact qd | fail) only [WB, ↓WP, ↓WL, WR, WC, if_true, if_false, ite_true, ite_false, aop, ev, evs, readsA, List.replicate, numF, unA, resA, tupA, loadA, storeA, splice, fillA, kindsOk, plainEq, ↓reduceIte, Nat.reduceEqDiff, Nat.reduceLT, Int.reduceToNat, Int.reduceBEq, Int.reduceBNe, Nat.reduceAdd, Nat.reduceMul, Nat.reduceLeDiff, Int.reduceLT, Int.reduceSub, Int.reduceAdd, hfl, hcl, hfo, hco]
      | ((first | refine atC ?_ ?_ | refine atG ?_ ?_ | refine atH ?_ ?_ | refine atP ?_ ?_) <;> intro hc <;> (try rw [hc]) <;> (try simp only [BD] at hc) <;> try (exfalso; omega))
      | ((first
        | (refine Runs.call (d_Number (n := (xs.length : Nat)) qo qo _) ?_; rintro v1 H1 ⟨gr, hB⟩; have on1 := hB.num; have hf1 := hB.fl; have hc1 := cells_of hf1)
        | (refine Runs.call (OwB.app hB qo (hv.grow qg).src qo) ?_; rintro v2 H2 ⟨hB2, ha⟩; have on2 := hB2.num; have hf2 := hB2.fl; have hc2 := cells_of hf2; have g2 : Grow h H2 := ha.grow gr qo)
        | (refine Runs.call (ref01_Pad (n := xs.length) qo _) ?_; rintro _ _ ⟨rfl, rfl⟩)
        | (refine Runs.call (OwB.app (hO.grow qg) (by simp only [nx_alloc]; omega) (Src.lit1 (ga_new rfl)) (by simp [beL_len]; omega)) ?_; rintro _ _ ⟨hO, ha⟩)
        | fail); all_goals ((try (have gn := gr.1; try simp only [nx_alloc, nx_set] at gn)); (try (have an := ha.num; try simp only [nx_alloc, nx_set, own_sl, own_nil] at an)); (try (have on := hO.num; try simp only [nx_alloc, nx_set] at on)); (try (have kn := hk.1; try simp only [nx_alloc, nx_set] at kn)); try have hB := hO.at)))
    all_goals try (first
      | exact ih ((i + 1, _)) _ _ _ (by ((try dsimp only); omega)) qf (by ((try dsimp only); (first | (exact ⟨by (rw [List.replicate_succ', ← List.append_assoc]; exact hO), qg, by omega⟩) | fail)))
      | (refine hK _ _ ?_; (obtain rfl : i = padN xs.length := qo; exact ⟨qg, hO⟩); done)
      | fail)
theorem t61 : tab 61 = some ⟨46, [.tmp 6, .tmp 7], b61⟩ := rfl
theorem ref01_Get {v : AV} {bs : List Int} {h : Heap} (hb : BytesAt h v bs) (hy : Bytes bs) {a s : Nat} (hs : Sz s) (ha : a ≤ bs.length) (hl : bs.length ≤ 1000000000) : Runs (xcall X1 tab (.fn 61) [v, .int .i64 (a : Nat), .int .i64 (s : Nat)] h) fun v h' => (∃ n e, v = .tuple [.int .u64 n, .int .i64 e] ∧ (((bs.drop a).length < s ∧ n = 0 ∧ e = 4) ∨ (s ≤ (bs.drop a).length ∧ n = valBE ((bs.drop a).take s) ∧ e = 0))) ∧ h = h' := by
  refine Runs.intro fun K hK => ?_
  have hsl := hs.le
  have hdl : (bs.drop a).length = bs.length - a := List.length_drop
  rw [w_fn rfl t61 (Nat.le_of_ble_eq_true rfl)]
  delta b61
  repeat' (first
    | simp (disch := first | exact qd | fail) only [WB, ↓WP, ↓WL, WR, WC, if_true, if_false, ite_true, ite_false, aop, ev, evs, readsA, List.replicate, numF, unA, resA, tupA, loadA, storeA, splice, fillA, kindsOk, plainEq, ↓reduceIte, Nat.reduceEqDiff, Nat.reduceLT, Int.reduceToNat, Int.reduceBEq, Int.reduceBNe, Nat.reduceAdd, Nat.reduceMul, Nat.reduceLeDiff, Int.reduceLT, Int.reduceSub, Int.reduceAdd, nat_add]
    | ((first | refine atC ?_ ?_ | refine atG ?_ ?_ | refine atH ?_ ?_ | refine atP ?_ ?_) <;> intro hc <;> (try rw [hc]) <;> (try simp only [BD] at hc) <;> try (exfalso; omega))
    | ((first
      | (refine Runs.call (ref01_size hs _) ?_; rintro _ _ ⟨rfl, rfl⟩)
      | fail); all_goals ((try (have gn := gr.1; try simp only [nx_alloc, nx_set] at gn)); (try (have an := ha.num; try simp only [nx_alloc, nx_set, own_sl, own_nil] at an)); (try (have on := hO.num; try simp only [nx_alloc, nx_set] at on)); (try (have kn := hk.1; try simp only [nx_alloc, nx_set] at kn)); try have hB := hO.at)))
  all_goals try (first
    | (refine hK _ _ ?_; (first | exact ⟨⟨_, _, rfl, .inl ⟨by omega, rfl, rfl⟩⟩, rfl⟩ | (obtain rfl : i = s := qo; exact ⟨⟨_, _, rfl, .inr ⟨by omega, hn, rfl⟩⟩, rfl⟩) | fail); done)
    | fail)
  all_goals
    refine wloop (α := Nat × Int) [0, 1, 2] (fun x => [(8, .int .u64 x.2), (9, .int .i64 (a + x.1 : Nat))]) (fun x H => h = H ∧ x.1 ≤ s ∧ x.2 = valBE ((bs.drop a).take x.1)) (fun x => s - x.1) ?_ ((0, 0)) ?_ ?_
    rotate_left
    · exact qf
    · (try dsimp only)
      exact ⟨rfl, by omega, by simp [valBE]⟩
    intro x b1 H hI ih
    obtain ⟨i, n⟩ := x
    try dsimp only at hI
    obtain ⟨rfl, hi, hn⟩ := hI
    have hb7 := fun q => valBE_lt7 (l := (bs.drop a).take i) ((hy.drop a).take i) (by rw [List.length_take]; omega)
    have hnx := fun q => valBE_next (bs := bs) (a := a) (i := i) q
    have hca := hy.at (a + i)
    have hb8 : i < s → 0 ≤ n ∧ n < 72057594037927936 := fun q => by rw [hn]; exact valBE_lt7 ((hy.drop a).take i) (by rw [List.length_take]; omega)
    try have gn := g.1
    refine w_unfold (by delta L61_0; rfl) ?_
    simp only [keeps_nil, keeps_cons, List.cons_append, List.nil_append, lk_cons, lk_nil, numF, Nat.reduceEqDiff, Nat.reduceAdd, Nat.zero_add, ↓reduceIte]
    repeat' (first
      | simp (disch := first | exact qd | fail) only [WB, ↓WP, ↓WL, WR, WC, if_true, if_false, ite_true, ite_false, aop, ev, evs, readsA, List.replicate, numF, unA, resA, tupA, loadA, storeA, splice, fillA, kindsOk, plainEq, ↓reduceIte, Nat.reduceEqDiff, Nat.reduceLT, Int.reduceToNat, Int.reduceBEq, Int.reduceBNe, Nat.reduceAdd, Nat.reduceMul, Nat.reduceLeDiff, Int.reduceLT, Int.reduceSub, Int.reduceAdd, nat_add]
      | ((first | refine atC ?_ ?_ | refine atG ?_ ?_ | refine atH ?_ ?_ | refine atP ?_ ?_) <;> intro hc <;> (try rw [hc]) <;> (try simp only [BD] at hc) <;> try (exfalso; omega))
      | ((first
        | (refine Runs.call (ref01_size hs _) ?_; rintro _ _ ⟨rfl, rfl⟩)
        | fail); all_goals ((try (have gn := gr.1; try simp only [nx_alloc, nx_set] at gn)); (try (have an := ha.num; try simp only [nx_alloc, nx_set, own_sl, own_nil] at an)); (try (have on := hO.num; try simp only [nx_alloc, nx_set] at on)); (try (have kn := hk.1; try simp only [nx_alloc, nx_set] at kn)); try have hB := hO.at)))
    all_goals try (first
      | exact ih ((i + 1, _)) _ _ _ (by ((try dsimp only); omega)) qf (by ((try dsimp only); (first | (exact ⟨rfl, by omega, by rw [hnx qo, hn]⟩) | fail)))
      | (refine hK _ _ ?_; (first | exact ⟨⟨_, _, rfl, .inl ⟨by omega, rfl, rfl⟩⟩, rfl⟩ | (obtain rfl : i = s := qo; exact ⟨⟨_, _, rfl, .inr ⟨by omega, hn, rfl⟩⟩, rfl⟩) | fail); done)
      | fail)
theorem t48 : tab 48 = some ⟨39, [.tmp 6], b48⟩ := rfl
theorem ref01_Zero {v : AV} {bs : List Int} {h : Heap} (hb : BytesAt h v bs) (hy : Bytes bs) {a n : Nat} (hl : a + n ≤ bs.length) (hz : bs.length ≤ 1000000000) : Runs (xcall X1 tab (.fn 48) [v, .int .i64 (a : Nat), .int .i64 (n : Nat)] h) fun v' h' => (∃ e, v' = .int .i64 e ∧ ((((bs.drop a).take n).any posB = true ∧ e = 5) ∨ (((bs.drop a).take n).any posB = false ∧ e = 0))) ∧ h = h' := by
  refine Runs.intro fun K hK => ?_
  rw [w_fn rfl t48 (Nat.le_of_ble_eq_true rfl)]
  delta b48
  repeat' (first
    | simp (disch := first | exact qd | fail) only [WB, ↓WP, ↓WL, WR, WC, if_true, if_false, ite_true, ite_false, aop, ev, evs, readsA, List.replicate, numF, unA, resA, tupA, loadA, storeA, splice, fillA, kindsOk, plainEq, ↓reduceIte, Nat.reduceEqDiff, Nat.reduceLT, Int.reduceToNat, Int.reduceBEq, Int.reduceBNe, Nat.reduceAdd, Nat.reduceMul, Nat.reduceLeDiff, Int.reduceLT, Int.reduceSub, Int.reduceAdd, nat_add]
    | ((first | refine atC ?_ ?_ | refine atG ?_ ?_ | refine atH ?_ ?_ | refine atP ?_ ?_) <;> intro hc <;> (try rw [hc]) <;> (try simp only [BD] at hc) <;> try (exfalso; omega)))
  all_goals try (first
    | (refine hK _ _ ?_; (first | exact ⟨⟨_, rfl, .inl ⟨any_hit2 (i := i) hl qo qo, rfl⟩⟩, rfl⟩ | exact ⟨⟨_, rfl, .inr ⟨any_no2 (fun j q => hall j qo), rfl⟩⟩, rfl⟩ | fail); done)
    | fail)
  all_goals
    refine wloop (α := Nat) [0, 1, 2] (fun x => [(7, .int .i64 (a + x : Nat))]) (fun x H => h = H ∧ x ≤ n ∧ ∀ j, j < x → ¬ bs.getD (a + j) 0 > 0) (fun x => n - x) ?_ (0) ?_ ?_
    rotate_left
    · exact qf
    · (try dsimp only)
      exact ⟨rfl, by omega, fun j q => absurd q qo⟩
    intro i b1 H hI ih
    try dsimp only at hI
    obtain ⟨rfl, hi, hall⟩ := hI
    have hca := hy.at (a + i)
    try have gn := g.1
    refine w_unfold (by delta L48_0; rfl) ?_
    simp only [keeps_nil, keeps_cons, List.cons_append, List.nil_append, lk_cons, lk_nil, numF, Nat.reduceEqDiff, Nat.reduceAdd, Nat.zero_add, ↓reduceIte]
    repeat' (first
      | simp (disch := first | exact qd | fail) only [WB, ↓WP, ↓WL, WR, WC, if_true, if_false, ite_true, ite_false, aop, ev, evs, readsA, List.replicate, numF, unA, resA, tupA, loadA, storeA, splice, fillA, kindsOk, plainEq, ↓reduceIte, Nat.reduceEqDiff, Nat.reduceLT, Int.reduceToNat, Int.reduceBEq, Int.reduceBNe, Nat.reduceAdd, Nat.reduceMul, Nat.reduceLeDiff, Int.reduceLT, Int.reduceSub, Int.reduceAdd, nat_add]
      | ((first | refine atC ?_ ?_ | refine atG ?_ ?_ | refine atH ?_ ?_ | refine atP ?_ ?_) <;> intro hc <;> (try rw [hc]) <;> (try simp only [BD] at hc) <;> try (exfalso; omega)))
    all_goals try (first
      | exact ih (i + 1) _ _ _ (by ((try dsimp only); omega)) qf (by ((try dsimp only); (first | (exact ⟨rfl, by omega, pre_succ hall qo⟩) | fail)))
      | (refine hK _ _ ?_; (first | exact ⟨⟨_, rfl, .inl ⟨any_hit2 (i := i) hl qo qo, rfl⟩⟩, rfl⟩ | exact ⟨⟨_, rfl, .inr ⟨any_no2 (fun j q => hall j qo), rfl⟩⟩, rfl⟩ | fail); done)
      | fail)
end Go.Proofs.YtcfmccafbknleaaDoor.Ya
