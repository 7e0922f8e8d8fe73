/-
  The document's writer, and its numbers.
-/
import Derived.Test.YtdmabiefaeidmaaDoorYaXT
import Derived.Test.YtdmabiefaeidmaaDoorYbL
namespace Go.Proofs.YtdmabiefaeidmaaDoor.Ya
open Go.Ya
set_option linter.unusedVariables false
set_option linter.unusedSimpArgs false
set_option maxRecDepth 100000
set_option maxHeartbeats 8000000
theorem valBE_lt7 {l : List Int} (hy : Bytes l) (hl : l.length ≤ 7) : 0 ≤ valBE l ∧ valBE l < 72057594037927936 := by
  have h := valBE_lt l hy
  generalize l.length = m at h hl
  have : m = 0 ∨ m = 1 ∨ m = 2 ∨ m = 3 ∨ m = 4 ∨ m = 5 ∨ m = 6 ∨ m = 7 := by omega
  rcases this with rfl | rfl | rfl | rfl | rfl | rfl | rfl | rfl <;> (simp only [Int.reducePow] at h; omega)
theorem valBE_snoc (l : List Int) (c : Int) : valBE (l ++ [c]) = valBE l * 256 + c := by simp [valBE, List.foldl_append]
theorem valBE_next {bs : List Int} {a i : Nat} (h : a + i < bs.length) : valBE ((bs.drop a).take (i + 1)) = 256 * valBE ((bs.drop a).take i) + bs.getD (a + i) 0 := by
  rw [List.take_add_one, List.getElem?_drop, List.getElem?_eq_getElem h, List.getD_eq_getElem?_getD, List.getElem?_eq_getElem h]
  show valBE (_ ++ [_]) = _
  rw [valBE_snoc]; show _ = _ + bs[a + i]; omega
theorem nat_add {a i : Nat} : ((a : Int) + (i : Int)) = ((a + i : Nat) : Int) := by omega
theorem any_hit2 {bs : List Int} {a n i : Nat} (h : a + n ≤ bs.length) (hi : i < n) (hc : bs.getD (a + i) 0 > 0) : ((bs.drop a).take n).any posB = true := by
  refine any_hit (j := i) (by rw [List.length_take, List.length_drop]; omega) ?_
  rw [List.getD_eq_getElem?_getD, List.getElem?_take, if_pos hi, List.getElem?_drop, ← List.getD_eq_getElem?_getD]; exact hc
theorem any_no2 {bs : List Int} {a n : Nat} (h : ∀ i, i < n → ¬ bs.getD (a + i) 0 > 0) : ((bs.drop a).take n).any posB = false := by
  refine any_no fun i hi => ?_
  rw [List.length_take] at hi
  rw [List.getD_eq_getElem?_getD, List.getElem?_take, if_pos qo, List.getElem?_drop, ← List.getD_eq_getElem?_getD]; exact h i qo
def b36 : SC := (.seq (.ops [⟨some 2, .mov (.c (.nilsl)), none⟩]) (.seq (.ops [⟨some 6, .mov (.t 0), none⟩, ⟨some 7, .convInt (.u64) (.t 6), none⟩, ⟨some 8, .call 59 [.t 7, .c (.int (.i64) 4)], none⟩, ⟨some 5, .mov (.t 8), none⟩, ⟨some 9, .extract (.t 5) 0, none⟩, ⟨some 10, .extract (.t 5) 1, none⟩, ⟨some 3, .mov (.t 9), none⟩, ⟨some 4, .mov (.t 10), none⟩]) (.seq (.ops [⟨some 11, .mov (.t 3), none⟩, ⟨some 2, .mov (.t 11), none⟩]) .ret)))
theorem t36 : tab 36 = some ⟨12, [.tmp 2], b36⟩ := rfl
theorem d_Number {n : Int} (n0 : 0 ≤ n) (n1 : n ≤ 4294967295) (h : Heap) : Runs (xcall X1 tab (.fn 36) [.int .u32 n] h) fun v h' => Grow h h' ∧ OwB h.next h' v (beL n 4) := by
  refine Runs.intro fun K hK => ?_
  have hp : (256 : Int) ^ 4 = 4294967296 := by decide
  rw [w_fn rfl t36 (Nat.le_of_ble_eq_true rfl)]
  delta b36
  repeat' (first
    | simp (disch := first | exact qd | fail) only [WB, ↓WP, ↓WL, WR, WC, if_true, if_false, ite_true, ite_false, aop, ev, evs, readsA, List.replicate, numF, unA, resA, tupA, loadA, storeA, splice, fillA, kindsOk, plainEq, ↓reduceIte, Nat.reduceEqDiff, Nat.reduceLT, Int.reduceToNat, Int.reduceBEq, Int.reduceBNe, Nat.reduceAdd, Nat.reduceMul, Nat.reduceLeDiff, Int.reduceLT, Int.reduceSub, Int.reduceAdd]
    | ((first | refine atC ?_ ?_ | refine atG ?_ ?_ | refine atH ?_ ?_ | refine atP ?_ ?_) <;> intro hc <;> (try rw [hc]) <;> (try simp only [BD] at hc) <;> try (exfalso; omega))
    | ((first
      | (refine Runs.call (ref01_Put (s := 4) sz4 n0 qo _) ?_; rintro _ H1 ⟨gr, b1, rfl, hB⟩; have hfb := hB.fl; have hcb := cells_of hfb)
      | fail); all_goals ((try (have gn := gr.1; try simp only [nx_alloc, nx_set] at gn)); (try (have an := ha.num; try simp only [nx_alloc, nx_set, own_sl, own_nil] at an)); (try (have on := hO.num; try simp only [nx_alloc, nx_set] at on)); (try (have kn := hk.1; try simp only [nx_alloc, nx_set] at kn)); try have hB := hO.at)))
  all_goals try (first
    | (refine hK _ _ ?_; exact ⟨gr, hB⟩; done)
    | fail)
def b37 : SC := (.seq (.ops [⟨some 2, .mov (.c (.nilsl)), none⟩]) (.seq (.ops [⟨some 6, .mov (.t 0), none⟩, ⟨some 7, .call 59 [.t 6, .c (.int (.i64) 8)], none⟩, ⟨some 5, .mov (.t 7), none⟩, ⟨some 8, .extract (.t 5) 0, none⟩, ⟨some 9, .extract (.t 5) 1, none⟩, ⟨some 3, .mov (.t 8), none⟩, ⟨some 4, .mov (.t 9), none⟩]) (.seq (.ops [⟨some 10, .mov (.t 3), none⟩, ⟨some 2, .mov (.t 10), none⟩]) .ret)))
theorem t37 : tab 37 = some ⟨11, [.tmp 2], b37⟩ := rfl
theorem d_Great {n : Int} (n0 : 0 ≤ n) (n1 : n ≤ 18446744073709551615) (h : Heap) : Runs (xcall X1 tab (.fn 37) [.int .u64 n] h) fun v h' => Grow h h' ∧ OwB h.next h' v (beL n 8) := by
  refine Runs.intro fun K hK => ?_
  have hp : (256 : Int) ^ 8 = 18446744073709551616 := by decide
  rw [w_fn rfl t37 (Nat.le_of_ble_eq_true rfl)]
  delta b37
  repeat' (first
    | simp (disch := first | exact qd | fail) only [WB, ↓WP, ↓WL, WR, WC, if_true, if_false, ite_true, ite_false, aop, ev, evs, readsA, List.replicate, numF, unA, resA, tupA, loadA, storeA, splice, fillA, kindsOk, plainEq, ↓reduceIte, Nat.reduceEqDiff, Nat.reduceLT, Int.reduceToNat, Int.reduceBEq, Int.reduceBNe, Nat.reduceAdd, Nat.reduceMul, Nat.reduceLeDiff, Int.reduceLT, Int.reduceSub, Int.reduceAdd]
    | ((first | refine atC ?_ ?_ | refine atG ?_ ?_ | refine atH ?_ ?_ | refine atP ?_ ?_) <;> intro hc <;> (try rw [hc]) <;> (try simp only [BD] at hc) <;> try (exfalso; omega))
    | ((first
      | (refine Runs.call (ref01_Put (s := 8) sz8 n0 qo _) ?_; rintro _ H1 ⟨gr, b1, rfl, hB⟩; have hfb := hB.fl; have hcb := cells_of hfb)
      | fail); all_goals ((try (have gn := gr.1; try simp only [nx_alloc, nx_set] at gn)); (try (have an := ha.num; try simp only [nx_alloc, nx_set, own_sl, own_nil] at an)); (try (have on := hO.num; try simp only [nx_alloc, nx_set] at on)); (try (have kn := hk.1; try simp only [nx_alloc, nx_set] at kn)); try have hB := hO.at)))
  all_goals try (first
    | (refine hK _ _ ?_; exact ⟨gr, hB⟩; done)
    | fail)
def b38 : SC := (.seq (.ops [⟨some 2, .mov (.c (.nilsl)), none⟩]) (.seq (.seq (.ops [⟨some 3, .mov (.t 0), none⟩]) (.cond (.t 3) (.seq (.ops [⟨some 4, .call 36 [.c (.int (.u32) 1)], none⟩, ⟨some 2, .mov (.t 4), none⟩]) .ret) .skip)) (.seq (.ops [⟨some 5, .call 36 [.c (.int (.u32) 0)], none⟩, ⟨some 2, .mov (.t 5), none⟩]) .ret)))
theorem t38 : tab 38 = some ⟨6, [.tmp 2], b38⟩ := rfl
theorem d_Truth {t : Bool} (h : Heap) : Runs (xcall X1 tab (.fn 38) [.bool t] h) fun v h' => Grow h h' ∧ OwB h.next h' v (beL (if t = true then 1 else 0) 4) := by
  refine Runs.intro fun K hK => ?_
  rw [w_fn rfl t38 (Nat.le_of_ble_eq_true rfl)]
  delta b38
  repeat' (first
    | simp (disch := first | exact qd | fail) only [WB, ↓WP, ↓WL, WR, WC, if_true, if_false, ite_true, ite_false, aop, ev, evs, readsA, List.replicate, numF, unA, resA, tupA, loadA, storeA, splice, fillA, kindsOk, plainEq, ↓reduceIte, Nat.reduceEqDiff, Nat.reduceLT, Int.reduceToNat, Int.reduceBEq, Int.reduceBNe, Nat.reduceAdd, Nat.reduceMul, Nat.reduceLeDiff, Int.reduceLT, Int.reduceSub, Int.reduceAdd]
    | ((first | refine atC ?_ ?_ | refine atG ?_ ?_ | refine atH ?_ ?_ | refine atP ?_ ?_) <;> intro hc <;> (try rw [hc]) <;> (try simp only [BD] at hc) <;> try (exfalso; omega))
    | ((first
      | (refine Runs.call (d_Number (n := 1) qo qo _) ?_; rintro _ H1 ⟨gr, hB⟩)
      | (refine Runs.call (d_Number (n := 0) qo qo _) ?_; rintro _ H1 ⟨gr, hB⟩)
      | fail); all_goals ((try (have gn := gr.1; try simp only [nx_alloc, nx_set] at gn)); (try (have an := ha.num; try simp only [nx_alloc, nx_set, own_sl, own_nil] at an)); (try (have on := hO.num; try simp only [nx_alloc, nx_set] at on)); (try (have kn := hk.1; try simp only [nx_alloc, nx_set] at kn)); try have hB := hO.at)))
  all_goals try (first
    | (refine hK _ _ ?_; (refine ⟨gr, ?_⟩; (first | (rw [if_pos (by assumption)]; exact hB) | (rw [if_neg (by simp_all)]; exact hB) | fail)); done)
    | fail)
def L39_0 : SC := (.seq (.seq (.ops [⟨some 12, .mov (.t 4), none⟩, ⟨some 13, .mov (.t 0), none⟩, ⟨some 14, .len (.sl) (.t 13), none⟩, ⟨some 15, .call 60 [.t 14], none⟩, ⟨some 16, .bin (.lss) (.other) (.t 12) (.t 15), none⟩]) (.cond (.t 16) .skip (.exit 0))) (.seq (.block 1 (.ops [⟨some 19, .mov (.t 3), none⟩, ⟨some 20, .buildSlice [.int (.u8) 0] 1 1 [(0, 1, .c (.int (.u8) 0))], none⟩, ⟨some 21, .append 1 1 (.t 19) (.t 20), none⟩, ⟨some 3, .mov (.t 21), none⟩])) (.ops [⟨some 17, .mov (.t 4), none⟩, ⟨some 18, .bin (.add) (.other) (.t 17) (.c (.int (.i64) 1)), none⟩, ⟨some 4, .mov (.t 18), none⟩])))
def b39 : SC := (.seq (.ops [⟨some 2, .mov (.c (.nilsl)), none⟩]) (.seq (.ops [⟨some 5, .mov (.t 0), none⟩, ⟨some 6, .len (.sl) (.t 5), none⟩, ⟨some 7, .convInt (.u32) (.t 6), none⟩, ⟨some 8, .call 36 [.t 7], none⟩, ⟨some 3, .mov (.t 8), none⟩]) (.seq (.ops [⟨some 9, .mov (.t 3), none⟩, ⟨some 10, .mov (.t 0), none⟩, ⟨some 11, .append 1 1 (.t 9) (.t 10), none⟩, ⟨some 3, .mov (.t 11), none⟩]) (.seq (.seq (.ops [⟨some 4, .mov (.c (.int (.i64) 0)), none⟩]) (.block 0 (.loop L39_0))) (.seq (.ops [⟨some 22, .mov (.t 3), none⟩, ⟨some 2, .mov (.t 22), none⟩]) .ret)))))
theorem t39 : tab 39 = some ⟨23, [.tmp 2], b39⟩ := rfl
theorem d_Bytes {h : Heap} {v : AV} {xs : List Int} (hv : BytesAt h v xs) (hx : xs.length ≤ 1000000000) : Runs (xcall X1 tab (.fn 39) [v] h) fun v h' => Grow h h' ∧ OwB h.next h' v (encB xs) := by
  refine Runs.intro fun K hK => ?_
  have hpn := padN_le xs.length
  have hbl := beL_len xs.length 4
  have hfl := BytesAt.flat' hv
  have hcl := cells_of hfl
  rw [w_fn rfl t39 (Nat.le_of_ble_eq_true rfl)]
  delta b39
  repeat' (first
    | simp (disch := first | exact qd | fail) only [WB, ↓WP, ↓WL, WR, WC, if_true, if_false, ite_true, ite_false, aop, ev, evs, readsA, List.replicate, numF, unA, resA, tupA, loadA, storeA, splice, fillA, kindsOk, plainEq, ↓reduceIte, Nat.reduceEqDiff, Nat.reduceLT, Int.reduceToNat, Int.reduceBEq, Int.reduceBNe, Nat.reduceAdd, Nat.reduceMul, Nat.reduceLeDiff, Int.reduceLT, Int.reduceSub, Int.reduceAdd, hfl, hcl]
    | ((first | refine atC ?_ ?_ | refine atG ?_ ?_ | refine atH ?_ ?_ | refine atP ?_ ?_) <;> intro hc <;> (try rw [hc]) <;> (try simp only [BD] at hc) <;> try (exfalso; omega))
    | ((first
      | (refine Runs.call (d_Number (n := (xs.length : Nat)) qo qo _) ?_; rintro v1 H1 ⟨gr, hB⟩; have on1 := hB.num; have hf1 := hB.fl; have hc1 := cells_of hf1)
      | (refine Runs.call (OwB.app hB qo (hv.grow qg).src qo) ?_; rintro v2 H2 ⟨hB2, ha⟩; have on2 := hB2.num; have hf2 := hB2.fl; have hc2 := cells_of hf2; have g2 : Grow h H2 := ha.grow gr qo)
      | fail); all_goals ((try (have gn := gr.1; try simp only [nx_alloc, nx_set] at gn)); (try (have an := ha.num; try simp only [nx_alloc, nx_set, own_sl, own_nil] at an)); (try (have on := hO.num; try simp only [nx_alloc, nx_set] at on)); (try (have kn := hk.1; try simp only [nx_alloc, nx_set] at kn)); try have hB := hO.at)))
  all_goals try (first
    | (refine hK _ _ ?_; (obtain rfl : i = padN xs.length := qo; exact ⟨qg, hO⟩); done)
    | fail)
  all_goals
    refine wloop (α := Nat × AV) [0] (fun x => [(3, x.2), (4, .int .i64 (x.1 : Nat))]) (fun x H => OwB h.next H x.2 (beL xs.length 4 ++ xs ++ List.replicate x.1 0) ∧ Grow h H ∧ x.1 ≤ padN xs.length) (fun x => padN xs.length - x.1) ?_ ((0, v2)) ?_ ?_
    rotate_left
    · exact qf
    · (try dsimp only)
      exact ⟨by simpa using hB2, by assumption, by omega⟩
    intro x b1 H hI ih
    obtain ⟨i, o⟩ := x
    try dsimp only at hI
    obtain ⟨hO, g, hi⟩ := hI
    have on := hO.num
    have hfo := hO.fl
    have hco := cells_of hfo
    try have gn := g.1
    refine w_unfold (by delta L39_0; rfl) ?_
    simp only [keeps_nil, keeps_cons, List.cons_append, List.nil_append, lk_cons, lk_nil, numF, Nat.reduceEqDiff, Nat.reduceAdd, Nat.zero_add, ↓reduceIte]
    repeat' (first
      | simp (disch := first | exact qd | fail) only [WB, ↓WP, ↓WL, WR, WC, if_true, if_false, ite_true, ite_false, aop, ev, evs, readsA, List.replicate, numF, unA, resA, tupA, loadA, storeA, splice, fillA, kindsOk, plainEq, ↓reduceIte, Nat.reduceEqDiff, Nat.reduceLT, Int.reduceToNat, Int.reduceBEq, Int.reduceBNe, Nat.reduceAdd, Nat.reduceMul, Nat.reduceLeDiff, Int.reduceLT, Int.reduceSub, Int.reduceAdd, hfl, hcl, hfo, hco]
      | ((first | refine atC ?_ ?_ | refine atG ?_ ?_ | refine atH ?_ ?_ | refine atP ?_ ?_) <;> intro hc <;> (try rw [hc]) <;> (try simp only [BD] at hc) <;> try (exfalso; omega))
      | ((first
        | (refine Runs.call (d_Number (n := (xs.length : Nat)) qo qo _) ?_; rintro v1 H1 ⟨gr, hB⟩; have on1 := hB.num; have hf1 := hB.fl; have hc1 := cells_of hf1)
        | (refine Runs.call (OwB.app hB qo (hv.grow qg).src qo) ?_; rintro v2 H2 ⟨hB2, ha⟩; have on2 := hB2.num; have hf2 := hB2.fl; have hc2 := cells_of hf2; have g2 : Grow h H2 := ha.grow gr qo)
        | (refine Runs.call (ref01_Pad (n := xs.length) qo _) ?_; rintro _ _ ⟨rfl, rfl⟩)
        | (refine Runs.call (OwB.app (hO.grow qg) (by simp only [nx_alloc]; omega) (Src.lit1 (ga_new rfl)) (by simp [beL_len]; omega)) ?_; rintro _ _ ⟨hO, ha⟩)
        | fail); all_goals ((try (have gn := gr.1; try simp only [nx_alloc, nx_set] at gn)); (try (have an := ha.num; try simp only [nx_alloc, nx_set, own_sl, own_nil] at an)); (try (have on := hO.num; try simp only [nx_alloc, nx_set] at on)); (try (have kn := hk.1; try simp only [nx_alloc, nx_set] at kn)); try have hB := hO.at)))
    all_goals try (first
      | exact ih ((i + 1, _)) _ _ _ (by ((try dsimp only); omega)) qf (by ((try dsimp only); (first | (exact ⟨by (rw [List.replicate_succ', ← List.append_assoc]; exact hO), qg, by omega⟩) | fail)))
      | (refine hK _ _ ?_; (obtain rfl : i = padN xs.length := qo; exact ⟨qg, hO⟩); done)
      | fail)
def L71_0 : SC := (.seq (.seq (.ops [⟨some 30, .mov (.t 9), none⟩, ⟨some 31, .mov (.t 1), none⟩, ⟨some 32, .mov (.t 2), none⟩, ⟨some 33, .bin (.add) (.other) (.t 31) (.t 32), none⟩, ⟨some 34, .bin (.lss) (.other) (.t 30) (.t 33), none⟩]) (.cond (.t 34) .skip (.exit 0))) (.seq (.block 1 (.ops [⟨some 37, .mov (.t 8), none⟩, ⟨some 38, .bin (.mul) (.other) (.c (.int (.u64) 256)) (.t 37), none⟩, ⟨some 39, .mov (.t 0), none⟩, ⟨some 40, .mov (.t 9), none⟩, ⟨some 41, .idxAddrSl 1 (.t 39) (.t 40), none⟩, ⟨some 42, .load false 1 (.t 41), none⟩, ⟨some 43, .convInt (.u64) (.t 42), none⟩, ⟨some 44, .bin (.add) (.other) (.t 38) (.t 43), none⟩, ⟨some 8, .mov (.t 44), none⟩])) (.ops [⟨some 35, .mov (.t 9), none⟩, ⟨some 36, .bin (.add) (.other) (.t 35) (.c (.int (.i64) 1)), none⟩, ⟨some 9, .mov (.t 36), none⟩])))
def b71 : SC := (.seq (.ops [⟨some 6, .mov (.c (.int (.u64) 0)), none⟩, ⟨some 7, .mov (.c (.int (.i64) 0)), none⟩]) (.seq (.seq (.ops [⟨some 10, .mov (.t 2), none⟩, ⟨some 11, .call 70 [.t 10], none⟩, ⟨some 12, .un (.not) (.t 11), none⟩, ⟨some 13, .mov (.t 12), none⟩, ⟨some 14, .mov (.t 1), some (13, false)⟩, ⟨some 15, .bin (.lss) (.other) (.t 14) (.c (.int (.i64) 0)), some (13, false)⟩, ⟨some 16, .pick (.t 13) (.c (.bool true)) (.t 15), none⟩, ⟨some 17, .mov (.t 16), none⟩, ⟨some 18, .mov (.t 1), some (17, false)⟩, ⟨some 19, .mov (.t 0), some (17, false)⟩, ⟨some 20, .len (.sl) (.t 19), some (17, false)⟩, ⟨some 21, .bin (.gtr) (.other) (.t 18) (.t 20), some (17, false)⟩, ⟨some 22, .pick (.t 17) (.c (.bool true)) (.t 21), none⟩]) (.cond (.t 22) (.seq (.ops [⟨some 6, .mov (.c (.int (.u64) 0)), none⟩, ⟨some 7, .mov (.c (.int (.i64) 2)), none⟩]) .ret) .skip)) (.seq (.seq (.ops [⟨some 23, .mov (.t 0), none⟩, ⟨some 24, .len (.sl) (.t 23), none⟩, ⟨some 25, .mov (.t 1), none⟩, ⟨some 26, .bin (.sub) (.other) (.t 24) (.t 25), none⟩, ⟨some 27, .mov (.t 2), none⟩, ⟨some 28, .bin (.lss) (.other) (.t 26) (.t 27), none⟩]) (.cond (.t 28) (.seq (.ops [⟨some 6, .mov (.c (.int (.u64) 0)), none⟩, ⟨some 7, .mov (.c (.int (.i64) 4)), none⟩]) .ret) .skip)) (.seq (.ops [⟨some 8, .mov (.c (.int (.u64) 0)), none⟩]) (.seq (.seq (.ops [⟨some 29, .mov (.t 1), none⟩, ⟨some 9, .mov (.t 29), none⟩]) (.block 0 (.loop L71_0))) (.seq (.ops [⟨some 45, .mov (.t 8), none⟩, ⟨some 6, .mov (.t 45), none⟩, ⟨some 7, .mov (.c (.int (.i64) 0)), none⟩]) .ret))))))
theorem t71 : tab 71 = some ⟨46, [.tmp 6, .tmp 7], b71⟩ := rfl
theorem ref01_Get {v : AV} {bs : List Int} {h : Heap} (hb : BytesAt h v bs) (hy : Bytes bs) {a s : Nat} (hs : Sz s) (ha : a ≤ bs.length) (hl : bs.length ≤ 1000000000) : Runs (xcall X1 tab (.fn 71) [v, .int .i64 (a : Nat), .int .i64 (s : Nat)] h) fun v h' => (∃ n e, v = .tuple [.int .u64 n, .int .i64 e] ∧ (((bs.drop a).length < s ∧ n = 0 ∧ e = 4) ∨ (s ≤ (bs.drop a).length ∧ n = valBE ((bs.drop a).take s) ∧ e = 0))) ∧ h = h' := by
  refine Runs.intro fun K hK => ?_
  have hsl := hs.le
  have hdl : (bs.drop a).length = bs.length - a := List.length_drop
  rw [w_fn rfl t71 (Nat.le_of_ble_eq_true rfl)]
  delta b71
  repeat' (first
    | simp (disch := first | exact qd | fail) only [WB, ↓WP, ↓WL, WR, WC, if_true, if_false, ite_true, ite_false, aop, ev, evs, readsA, List.replicate, numF, unA, resA, tupA, loadA, storeA, splice, fillA, kindsOk, plainEq, ↓reduceIte, Nat.reduceEqDiff, Nat.reduceLT, Int.reduceToNat, Int.reduceBEq, Int.reduceBNe, Nat.reduceAdd, Nat.reduceMul, Nat.reduceLeDiff, Int.reduceLT, Int.reduceSub, Int.reduceAdd, nat_add]
    | ((first | refine atC ?_ ?_ | refine atG ?_ ?_ | refine atH ?_ ?_ | refine atP ?_ ?_) <;> intro hc <;> (try rw [hc]) <;> (try simp only [BD] at hc) <;> try (exfalso; omega))
    | ((first
      | (refine Runs.call (ref01_size hs _) ?_; rintro _ _ ⟨rfl, rfl⟩)
      | fail); all_goals ((try (have gn := gr.1; try simp only [nx_alloc, nx_set] at gn)); (try (have an := ha.num; try simp only [nx_alloc, nx_set, own_sl, own_nil] at an)); (try (have on := hO.num; try simp only [nx_alloc, nx_set] at on)); (try (have kn := hk.1; try simp only [nx_alloc, nx_set] at kn)); try have hB := hO.at)))
  all_goals try (first
    | (refine hK _ _ ?_; (first | exact ⟨⟨_, _, rfl, .inl ⟨by omega, rfl, rfl⟩⟩, rfl⟩ | (obtain rfl : i = s := qo; exact ⟨⟨_, _, rfl, .inr ⟨by omega, hn, rfl⟩⟩, rfl⟩) | fail); done)
    | fail)
  all_goals
    refine wloop (α := Nat × Int) [0, 1, 2] (fun x => [(8, .int .u64 x.2), (9, .int .i64 (a + x.1 : Nat))]) (fun x H => h = H ∧ x.1 ≤ s ∧ x.2 = valBE ((bs.drop a).take x.1)) (fun x => s - x.1) ?_ ((0, 0)) ?_ ?_
    rotate_left
    · exact qf
    · (try dsimp only)
      exact ⟨rfl, by omega, by simp [valBE]⟩
    intro x b1 H hI ih
    obtain ⟨i, n⟩ := x
    try dsimp only at hI
    obtain ⟨rfl, hi, hn⟩ := hI
    have hb7 := fun q => valBE_lt7 (l := (bs.drop a).take i) ((hy.drop a).take i) (by rw [List.length_take]; omega)
    have hnx := fun q => valBE_next (bs := bs) (a := a) (i := i) q
    have hca := hy.at (a + i)
    have hb8 : i < s → 0 ≤ n ∧ n < 72057594037927936 := fun q => by rw [hn]; exact valBE_lt7 ((hy.drop a).take i) (by rw [List.length_take]; omega)
    try have gn := g.1
    refine w_unfold (by delta L71_0; rfl) ?_
    simp only [keeps_nil, keeps_cons, List.cons_append, List.nil_append, lk_cons, lk_nil, numF, Nat.reduceEqDiff, Nat.reduceAdd, Nat.zero_add, ↓reduceIte]
    repeat' (first
      | simp (disch := first | exact qd | fail) only [WB, ↓WP, ↓WL, WR, WC, if_true, if_false, ite_true, ite_false, aop, ev, evs, readsA, List.replicate, numF, unA, resA, tupA, loadA, storeA, splice, fillA, kindsOk, plainEq, ↓reduceIte, Nat.reduceEqDiff, Nat.reduceLT, Int.reduceToNat, Int.reduceBEq, Int.reduceBNe, Nat.reduceAdd, Nat.reduceMul, Nat.reduceLeDiff, Int.reduceLT, Int.reduceSub, Int.reduceAdd, nat_add]
      | ((first | refine atC ?_ ?_ | refine atG ?_ ?_ | refine atH ?_ ?_ | refine atP ?_ ?_) <;> intro hc <;> (try rw [hc]) <;> (try simp only [BD] at hc) <;> try (exfalso; omega))
      | ((first
        | (refine Runs.call (ref01_size hs _) ?_; rintro _ _ ⟨rfl, rfl⟩)
        | fail); all_goals ((try (have gn := gr.1; try simp only [nx_alloc, nx_set] at gn)); (try (have an := ha.num; try simp only [nx_alloc, nx_set, own_sl, own_nil] at an)); (try (have on := hO.num; try simp only [nx_alloc, nx_set] at on)); (try (have kn := hk.1; try simp only [nx_alloc, nx_set] at kn)); try have hB := hO.at)))
    all_goals try (first
      | exact ih ((i + 1, _)) _ _ _ (by ((try dsimp only); omega)) qf (by ((try dsimp only); (first | (exact ⟨rfl, by omega, by rw [hnx qo, hn]⟩) | fail)))
      | (refine hK _ _ ?_; (first | exact ⟨⟨_, _, rfl, .inl ⟨by omega, rfl, rfl⟩⟩, rfl⟩ | (obtain rfl : i = s := qo; exact ⟨⟨_, _, rfl, .inr ⟨by omega, hn, rfl⟩⟩, rfl⟩) | fail); done)
      | fail)
def L62_0 : SC := (.seq (.seq (.ops [⟨some 27, .mov (.t 7), none⟩, ⟨some 28, .mov (.t 1), none⟩, ⟨some 29, .mov (.t 2), none⟩, ⟨some 30, .bin (.add) (.other) (.t 28) (.t 29), none⟩, ⟨some 31, .bin (.lss) (.other) (.t 27) (.t 30), none⟩]) (.cond (.t 31) .skip (.exit 0))) (.seq (.block 1 (.seq (.ops [⟨some 34, .mov (.t 0), none⟩, ⟨some 35, .mov (.t 7), none⟩, ⟨some 36, .idxAddrSl 1 (.t 34) (.t 35), none⟩, ⟨some 37, .load false 1 (.t 36), none⟩, ⟨some 38, .bin (.neq) (.other) (.t 37) (.c (.int (.u8) 0)), none⟩]) (.cond (.t 38) (.seq (.ops [⟨some 6, .mov (.c (.int (.i64) 5)), none⟩]) .ret) .skip))) (.ops [⟨some 32, .mov (.t 7), none⟩, ⟨some 33, .bin (.add) (.other) (.t 32) (.c (.int (.i64) 1)), none⟩, ⟨some 7, .mov (.t 33), none⟩])))
def b62 : SC := (.seq (.ops [⟨some 6, .mov (.c (.int (.i64) 0)), none⟩]) (.seq (.seq (.ops [⟨some 8, .mov (.t 1), none⟩, ⟨some 9, .bin (.lss) (.other) (.t 8) (.c (.int (.i64) 0)), none⟩, ⟨some 10, .mov (.t 9), none⟩, ⟨some 11, .mov (.t 1), some (10, false)⟩, ⟨some 12, .mov (.t 0), some (10, false)⟩, ⟨some 13, .len (.sl) (.t 12), some (10, false)⟩, ⟨some 14, .bin (.gtr) (.other) (.t 11) (.t 13), some (10, false)⟩, ⟨some 15, .pick (.t 10) (.c (.bool true)) (.t 14), none⟩, ⟨some 16, .mov (.t 15), none⟩, ⟨some 17, .mov (.t 2), some (16, false)⟩, ⟨some 18, .bin (.lss) (.other) (.t 17) (.c (.int (.i64) 0)), some (16, false)⟩, ⟨some 19, .pick (.t 16) (.c (.bool true)) (.t 18), none⟩]) (.cond (.t 19) (.seq (.ops [⟨some 6, .mov (.c (.int (.i64) 2)), none⟩]) .ret) .skip)) (.seq (.seq (.ops [⟨some 20, .mov (.t 0), none⟩, ⟨some 21, .len (.sl) (.t 20), none⟩, ⟨some 22, .mov (.t 1), none⟩, ⟨some 23, .bin (.sub) (.other) (.t 21) (.t 22), none⟩, ⟨some 24, .mov (.t 2), none⟩, ⟨some 25, .bin (.lss) (.other) (.t 23) (.t 24), none⟩]) (.cond (.t 25) (.seq (.ops [⟨some 6, .mov (.c (.int (.i64) 4)), none⟩]) .ret) .skip)) (.seq (.seq (.ops [⟨some 26, .mov (.t 1), none⟩, ⟨some 7, .mov (.t 26), none⟩]) (.block 0 (.loop L62_0))) (.seq (.ops [⟨some 6, .mov (.c (.int (.i64) 0)), none⟩]) .ret)))))
theorem t62 : tab 62 = some ⟨39, [.tmp 6], b62⟩ := rfl
theorem ref01_Zero {v : AV} {bs : List Int} {h : Heap} (hb : BytesAt h v bs) (hy : Bytes bs) {a n : Nat} (hl : a + n ≤ bs.length) (hz : bs.length ≤ 1000000000) : Runs (xcall X1 tab (.fn 62) [v, .int .i64 (a : Nat), .int .i64 (n : Nat)] h) fun v' h' => (∃ e, v' = .int .i64 e ∧ ((((bs.drop a).take n).any posB = true ∧ e = 5) ∨ (((bs.drop a).take n).any posB = false ∧ e = 0))) ∧ h = h' := by
  refine Runs.intro fun K hK => ?_
  rw [w_fn rfl t62 (Nat.le_of_ble_eq_true rfl)]
  delta b62
  repeat' (first
    | simp (disch := first | exact qd | fail) only [WB, ↓WP, ↓WL, WR, WC, if_true, if_false, ite_true, ite_false, aop, ev, evs, readsA, List.replicate, numF, unA, resA, tupA, loadA, storeA, splice, fillA, kindsOk, plainEq, ↓reduceIte, Nat.reduceEqDiff, Nat.reduceLT, Int.reduceToNat, Int.reduceBEq, Int.reduceBNe, Nat.reduceAdd, Nat.reduceMul, Nat.reduceLeDiff, Int.reduceLT, Int.reduceSub, Int.reduceAdd, nat_add]
    | ((first | refine atC ?_ ?_ | refine atG ?_ ?_ | refine atH ?_ ?_ | refine atP ?_ ?_) <;> intro hc <;> (try rw [hc]) <;> (try simp only [BD] at hc) <;> try (exfalso; omega)))
  all_goals try (first
    | (refine hK _ _ ?_; (first | exact ⟨⟨_, rfl, .inl ⟨any_hit2 (i := i) hl qo qo, rfl⟩⟩, rfl⟩ | exact ⟨⟨_, rfl, .inr ⟨any_no2 (fun j q => hall j qo), rfl⟩⟩, rfl⟩ | fail); done)
    | fail)
  all_goals
    refine wloop (α := Nat) [0, 1, 2] (fun x => [(7, .int .i64 (a + x : Nat))]) (fun x H => h = H ∧ x ≤ n ∧ ∀ j, j < x → ¬ bs.getD (a + j) 0 > 0) (fun x => n - x) ?_ (0) ?_ ?_
    rotate_left
    · exact qf
    · (try dsimp only)
      exact ⟨rfl, by omega, fun j q => absurd q qo⟩
    intro i b1 H hI ih
    try dsimp only at hI
    obtain ⟨rfl, hi, hall⟩ := hI
    have hca := hy.at (a + i)
    try have gn := g.1
    refine w_unfold (by delta L62_0; rfl) ?_
    simp only [keeps_nil, keeps_cons, List.cons_append, List.nil_append, lk_cons, lk_nil, numF, Nat.reduceEqDiff, Nat.reduceAdd, Nat.zero_add, ↓reduceIte]
    repeat' (first
      | simp (disch := first | exact qd | fail) only [WB, ↓WP, ↓WL, WR, WC, if_true, if_false, ite_true, ite_false, aop, ev, evs, readsA, List.replicate, numF, unA, resA, tupA, loadA, storeA, splice, fillA, kindsOk, plainEq, ↓reduceIte, Nat.reduceEqDiff, Nat.reduceLT, Int.reduceToNat, Int.reduceBEq, Int.reduceBNe, Nat.reduceAdd, Nat.reduceMul, Nat.reduceLeDiff, Int.reduceLT, Int.reduceSub, Int.reduceAdd, nat_add]
      | ((first | refine atC ?_ ?_ | refine atG ?_ ?_ | refine atH ?_ ?_ | refine atP ?_ ?_) <;> intro hc <;> (try rw [hc]) <;> (try simp only [BD] at hc) <;> try (exfalso; omega)))
    all_goals try (first
      | exact ih (i + 1) _ _ _ (by ((try dsimp only); omega)) qf (by ((try dsimp only); (first | (exact ⟨rfl, by omega, pre_succ hall qo⟩) | fail)))
      | (refine hK _ _ ?_; (first | exact ⟨⟨_, rfl, .inl ⟨any_hit2 (i := i) hl qo qo, rfl⟩⟩, rfl⟩ | exact ⟨⟨_, rfl, .inr ⟨any_no2 (fun j q => hall j qo), rfl⟩⟩, rfl⟩ | fail); done)
      | fail)
end Go.Proofs.YtdmabiefaeidmaaDoor.Ya
