/-
  The document's writer, and its numbers.
-/
import Derived.Test.YtpoccinfeekdhaaDoorYaXT
import Derived.Test.YtpoccinfeekdhaaDoorYbL
namespace Go.Proofs.YtpoccinfeekdhaaDoor.Ya
open Go.Ya
set_option linter.unusedVariables false
set_option linter.unusedSimpArgs false
set_option maxRecDepth 100000
set_option maxHeartbeats 8000000
theorem t23 : tab 23 = some ⟨12, [.tmp 2], b23⟩ := rfl
theorem d_Number {n : Int} (n0 : 0 ≤ n) (n1 : n ≤ 4294967295) (h : Heap) : Runs (xcall X1 tab (.fn 23) [.int .u32 n] h) fun v h' => Grow h h' ∧ OwB h.next h' v (beL n 4) := by
  refine Runs.intro fun K hK => ?_
  have hp : (256 : Int) ^ 4 = 4294967296 := by decide
  rw [w_fn rfl t23 (Nat.le_of_ble_eq_true rfl)]
  delta b23
  repeat' (first
    | simp (disch := first | exact qd | fail) only [WB, ↓WP, ↓WL, WR, WC, if_true, if_false, ite_true, ite_false, aop, ev, evs, readsA, List.replicate, numF, unA, resA, tupA, loadA, storeA, splice, fillA, kindsOk, plainEq, ↓reduceIte, Nat.reduceEqDiff, Nat.reduceLT, Int.reduceToNat, Int.reduceBEq, Int.reduceBNe, Nat.reduceAdd, Nat.reduceMul, Nat.reduceLeDiff, Int.reduceLT, Int.reduceSub, Int.reduceAdd]
    | ((first | refine atC ?_ ?_ | refine atG ?_ ?_ | refine atH ?_ ?_ | refine atP ?_ ?_) <;> intro hc <;> (try rw [hc]) <;> (try simp only [BD] at hc) <;> try (exfalso; omega))
    | ((first
      | (refine Runs.call (ref01_Put (s := 4) sz4 n0 qo _) ?_; rintro _ H1 ⟨gr, b1, rfl, hB⟩; have hfb := hB.fl; have hcb := cells_of hfb)
      | fail); all_goals ((try (have gn := gr.1; try simp only [nx_alloc, nx_set] at gn)); (try (have an := ha.num; try simp only [nx_alloc, nx_set, own_sl, own_nil] at an)); (try (have on := hO.num; try simp only [nx_alloc, nx_set] at on)); (try (have kn := hk.1; try simp only [nx_alloc, nx_set] at kn)); try have hB := hO.at)))
  all_goals try (first
    | (refine hK _ _ ?_; exact ⟨gr, hB⟩; done)
    | fail)
theorem t24 : tab 24 = some ⟨11, [.tmp 2], b24⟩ := rfl
theorem d_Great {n : Int} (n0 : 0 ≤ n) (n1 : n ≤ 18446744073709551615) (h : Heap) : Runs (xcall X1 tab (.fn 24) [.int .u64 n] h) fun v h' => Grow h h' ∧ OwB h.next h' v (beL n 8) := by
  refine Runs.intro fun K hK => ?_
  have hp : (256 : Int) ^ 8 = 18446744073709551616 := by decide
  rw [w_fn rfl t24 (Nat.le_of_ble_eq_true rfl)]
  delta b24
  repeat' (first
    | simp (disch := first | exact qd | fail) only [WB, ↓WP, ↓WL, WR, WC, if_true, if_false, ite_true, ite_false, aop, ev, evs, readsA, List.replicate, numF, unA, resA, tupA, loadA, storeA, splice, fillA, kindsOk, plainEq, ↓reduceIte, Nat.reduceEqDiff, Nat.reduceLT, Int.reduceToNat, Int.reduceBEq, Int.reduceBNe, Nat.reduceAdd, Nat.reduceMul, Nat.reduceLeDiff, Int.reduceLT, Int.reduceSub, Int.reduceAdd]
    | ((first | refine atC ?_ ?_ | refine atG ?_ ?_ | refine atH ?_ ?_ | refine atP ?_ ?_) <;> intro hc <;> (try rw [hc]) <;> (try simp only [BD] at hc) <;> try (exfalso; omega))
    | ((first
      | (refine Runs.call (ref01_Put (s := 8) sz8 n0 qo _) ?_; rintro _ H1 ⟨gr, b1, rfl, hB⟩; have hfb := hB.fl; have hcb := cells_of hfb)
      | fail); all_goals ((try (have gn := gr.1; try simp only [nx_alloc, nx_set] at gn)); (try (have an := ha.num; try simp only [nx_alloc, nx_set, own_sl, own_nil] at an)); (try (have on := hO.num; try simp only [nx_alloc, nx_set] at on)); (try (have kn := hk.1; try simp only [nx_alloc, nx_set] at kn)); try have hB := hO.at)))
  all_goals try (first
    | (refine hK _ _ ?_; exact ⟨gr, hB⟩; done)
    | fail)
theorem t25 : tab 25 = some ⟨6, [.tmp 2], b25⟩ := rfl
theorem d_Truth {t : Bool} (h : Heap) : Runs (xcall X1 tab (.fn 25) [.bool t] h) fun v h' => Grow h h' ∧ OwB h.next h' v (beL (if t = true then 1 else 0) 4) := by
  refine Runs.intro fun K hK => ?_
  rw [w_fn rfl t25 (Nat.le_of_ble_eq_true rfl)]
  delta b25
  repeat' (first
    | simp (disch := first | exact qd | fail) only [WB, ↓WP, ↓WL, WR, WC, if_true, if_false, ite_true, ite_false, aop, ev, evs, readsA, List.replicate, numF, unA, resA, tupA, loadA, storeA, splice, fillA, kindsOk, plainEq, ↓reduceIte, Nat.reduceEqDiff, Nat.reduceLT, Int.reduceToNat, Int.reduceBEq, Int.reduceBNe, Nat.reduceAdd, Nat.reduceMul, Nat.reduceLeDiff, Int.reduceLT, Int.reduceSub, Int.reduceAdd]
    | ((first | refine atC ?_ ?_ | refine atG ?_ ?_ | refine atH ?_ ?_ | refine atP ?_ ?_) <;> intro hc <;> (try rw [hc]) <;> (try simp only [BD] at hc) <;> try (exfalso; omega))
    | ((first
      | (refine Runs.call (d_Number (n := 1) qo qo _) ?_; rintro _ H1 ⟨gr, hB⟩)
      | (refine Runs.call (d_Number (n := 0) qo qo _) ?_; rintro _ H1 ⟨gr, hB⟩)
      | fail); all_goals ((try (have gn := gr.1; try simp only [nx_alloc, nx_set] at gn)); (try (have an := ha.num; try simp only [nx_alloc, nx_set, own_sl, own_nil] at an)); (try (have on := hO.num; try simp only [nx_alloc, nx_set] at on)); (try (have kn := hk.1; try simp only [nx_alloc, nx_set] at kn)); try have hB := hO.at)))
  all_goals try (first
    | (refine hK _ _ ?_; (refine ⟨gr, ?_⟩; (first | (rw [if_pos (by assumption)]; exact hB) | (rw [if_neg (by simp_all)]; exact hB) | fail)); done)
    | fail)
theorem t26 : tab 26 = some ⟨23, [.tmp 2], b26⟩ := rfl
theorem d_Bytes {h : Heap} {v : AV} {xs : List Int} (hv : BytesAt h v xs) (hx : xs.length ≤ 1000000000) : Runs (xcall X1 tab (.fn 26) [v] h) fun v h' => Grow h h' ∧ OwB h.next h' v (encB xs) := by
  refine Runs.intro fun K hK => ?_
  have hpn := padN_le xs.length
  have hbl := beL_len xs.length 4
  have hfl := BytesAt.flat' hv
  have hcl := cells_of hfl
  rw [w_fn rfl t26 (Nat.le_of_ble_eq_true rfl)]
  delta b26
  repeat' (first
    | simp (disch := first | exact qd | fail) only [WB, ↓WP, ↓WL, WR, WC, if_true, if_false, ite_true, ite_false, aop, ev, evs, readsA, List.replicate, numF, unA, resA, tupA, loadA, storeA, splice, fillA, kindsOk, plainEq, ↓reduceIte, Nat.reduceEqDiff, Nat.reduceLT, Int.reduceToNat, Int.reduceBEq, Int.reduceBNe, Nat.reduceAdd, Nat.reduceMul, Nat.reduceLeDiff, Int.reduceLT, Int.reduceSub, Int.reduceAdd, hfl, hcl]
    | ((first | refine atC ?_ ?_ | refine atG ?_ ?_ | refine atH ?_ ?_ | refine atP ?_ ?_) <;> intro hc <;> (try rw [hc]) <;> (try simp only [BD] at hc) <;> try (exfalso; omega))
    | ((first
      | (refine Runs.call (d_Number (n := (xs.length : Nat)) qo qo _) ?_; rintro v1 H1 ⟨gr, hB⟩; have on1 := hB.num; have hf1 := hB.fl; have hc1 := cells_of hf1)
      | (refine Runs.call (OwB.app hB qo (hv.grow qg).src qo) ?_; rintro v2 H2 ⟨hB2, ha⟩; have on2 := hB2.num; have hf2 := hB2.fl; have hc2 := cells_of hf2; have g2 : Grow h H2 := ha.grow gr qo)
      | fail); all_goals ((try (have gn := gr.1; try simp only [nx_alloc, nx_set] at gn)); (try (have an := ha.num; try simp only [nx_alloc, nx_set, own_sl, own_nil] at an)); (try (have on := hO.num; try simp only [nx_alloc, nx_set] at on)); (try (have kn := hk.1; try simp only [nx_alloc, nx_set] at kn)); try have hB := hO.at)))
  all_goals try (first
    | (refine hK _ _ ?_; (obtain rfl : i = padN xs.length := qo; exact ⟨qg, hO⟩); done)
    | fail)
  all_goals
    refine wloop (α := Nat × AV) [0] (fun x => [(3, x.2), (4, .int .i64 (x.1 : Nat))]) (fun x H => OwB h.next H x.2 (beL xs.length 4 ++ xs ++ List.replicate x.1 0) ∧ Grow h H ∧ x.1 ≤ padN xs.length) (fun x => padN xs.length - x.1) ?_ ((0, v2)) ?_ ?_
    rotate_left
    · exact qf
    · (try dsimp only)
      exact ⟨by simpa using hB2, by assumption, by omega⟩
    intro x b1 H hI ih
    obtain ⟨i, o⟩ := x
    try dsimp only at hI
    obtain ⟨hO, g, hi⟩ := hI
    have on := hO.num
    have hfo := hO.fl
    have hco := cells_of hfo
    try have gn := g.1
    refine w_unfold (by delta L26_0; rfl) ?_
    simp only [keeps_nil, keeps_cons, List.cons_append, List.nil_append, lk_cons, lk_nil, numF, Nat.reduceEqDiff, Nat.reduceAdd, Nat.zero_add, ↓reduceIte]
    repeat' (first
      | simp (disch := first | exact qd | fail) only [WB, ↓WP, ↓WL, WR, WC, if_true, if_false, ite_true, ite_false, aop, ev, evs, readsA, List.replicate, numF, unA, resA, tupA, loadA, storeA, splice, fillA, kindsOk, plainEq, ↓reduceIte, Nat.reduceEqDiff, Nat.reduceLT, Int.reduceToNat, Int.reduceBEq, Int.reduceBNe, Nat.reduceAdd, Nat.reduceMul, Nat.reduceLeDiff, Int.reduceLT, Int.reduceSub, Int.reduceAdd, hfl, hcl, hfo, hco]
      | ((first | refine atC ?_ ?_ | refine atG ?_ ?_ | refine atH ?_ ?_ | refine atP ?_ ?_) <;> intro hc <;> (try rw [hc]) <;> (try simp only [BD] at hc) <;> try (exfalso; omega))
      | ((first
        | (refine Runs.call (d_Number (n := (xs.length : Nat)) qo qo _) ?_; rintro v1 H1 ⟨gr, hB⟩; have on1 := hB.num; have hf1 := hB.fl; have hc1 := cells_of hf1)
        | (refine Runs.call (OwB.app hB qo (hv.grow qg).src qo) ?_; rintro v2 H2 ⟨hB2, ha⟩; have on2 := hB2.num; have hf2 := hB2.fl; have hc2 := cells_of hf2; have g2 : Grow h H2 := ha.grow gr qo)
        | (refine Runs.call (ref01_Pad (n := xs.length) qo _) ?_; rintro _ _ ⟨rfl, rfl⟩)
        | (refine Runs.call (OwB.app (hO.grow qg) (by simp only [nx_alloc]; omega) (Src.lit1 (ga_new rfl)) (by simp [beL_len]; omega)) ?_; rintro _ _ ⟨hO, ha⟩)
        | fail); all_goals ((try (have gn := gr.1; try simp only [nx_alloc, nx_set] at gn)); (try (have an := ha.num; try simp only [nx_alloc, nx_set, own_sl, own_nil] at an)); (try (have on := hO.num; try simp only [nx_alloc, nx_set] at on)); (try (have kn := hk.1; try simp only [nx_alloc, nx_set] at kn)); try have hB := hO.at)))
    all_goals try (first
      | exact ih ((i + 1, _)) _ _ _ (by ((try dsimp only); omega)) qf (by ((try dsimp only); (first | (exact ⟨by (rw [List.replicate_succ', ← List.append_assoc]; exact hO), qg, by omega⟩) | fail)))
      | (refine hK _ _ ?_; (obtain rfl : i = padN xs.length := qo; exact ⟨qg, hO⟩); done)
      | fail)
end Go.Proofs.YtpoccinfeekdhaaDoor.Ya
