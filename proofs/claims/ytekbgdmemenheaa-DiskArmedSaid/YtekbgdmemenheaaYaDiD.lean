/-
  A disk: Write, Flush, Read, Sure.
-/
import Derived.Test.YtekbgdmemenheaaYaDiC
import Derived.Test.YtekbgdmemenheaaYbL
namespace Go.Proofs.Ytekbgdmemenheaa.Ya
open Go.Ya
set_option linter.unusedVariables false
set_option linter.unusedSimpArgs false
set_option maxRecDepth 100000
set_option maxHeartbeats 8000000
theorem Dkf.ofGrow {S : List Nat} {h h' : Heap} (g : Grow h h') : Dkf S S h h' := ⟨g.1, fun j h1 _ => g.2 j h1, fun x hx => .inl hx⟩
theorem write_C {h H : Heap} {p : Nat} {S : List Nat} {laid : List (List Int)} {Y W : List (Nat × List Int)} {left work : Int} (hD : DkAt h p S laid Y W left false work) (g : Grow h H) {c0 c1 c2 k : Nat} {b : List Int} (h0 : H.get c0 = some (.cells [.ptr p 0] false)) (h1 : H.get c1 = some (.cells [.int .i64 (k : Nat)] false)) (h2 : H.get c2 = some (.cells (cellsB b) false)) (l0 : h.next ≤ c0) (l1 : h.next ≤ c1) (l2 : h.next ≤ c2) (hk : k < laid.length) (hz : (W.length + 1) * 72 ≤ 140737488355328) :
    ∀ h1, DkAt h1 p S laid Y W (stepL left) false (work + 1) → Dkf S S H h1 → Runs (xcall X1 tab (.fn 25) [.ptr c0 0, .ptr c1 0, .ptr c2 0] h1) fun v h' => v = undefA ∧ ∃ S', DkAt h' p S' laid (putY k b Y) (W ++ [(k, b)]) (stepL left) false (work + 1) ∧ Dkf S S' h h' := by
  intro g1 hD1 hF
  have nS : ∀ c, h.next ≤ c → c ∉ S := fun c hc hin => by have := hD.lt c hin; omega
  obtain ⟨v, h', e, rfl, S', a, b⟩ := d_Write1 hD1 (hF.get h0 (nS _ l0)) (hF.get h1 (nS _ l1)) (hF.get h2 (nS _ l2)) (nS _ l0) (nS _ l1) (nS _ l2) hk hz
  exact ⟨_, h', e, rfl, S', a, ((Dkf.ofGrow g).trans hF).trans b⟩
theorem flush_C {h H : Heap} {p : Nat} {S : List Nat} {laid : List (List Int)} {Y W : List (Nat × List Int)} {left work : Int} (hD : DkAt h p S laid Y W left false work) (g : Grow h H) {c0 : Nat} (h0 : H.get c0 = some (.cells [.ptr p 0] false)) (l0 : h.next ≤ c0) :
    ∀ h1, DkAt h1 p S laid Y W (stepL left) false (work + 1) → Dkf S S H h1 → Runs (xcall X1 tab (.fn 23) [.ptr c0 0] h1) fun v h' => v = undefA ∧ ∃ S', DkAt h' p S' (layY Y laid) [] [] (stepL left) false (work + 1) ∧ Dkf S S' h h' := by
  intro g1 hD1 hF
  have nS : ∀ c, h.next ≤ c → c ∉ S := fun c hc hin => by have := hD.lt c hin; omega
  obtain ⟨v, h', e, rfl, S', a, b⟩ := d_Flush1 hD1 (hF.get h0 (nS _ l0)) (nS _ l0)
  exact ⟨_, h', e, rfl, S', a, ((Dkf.ofGrow g).trans hF).trans b⟩
theorem d_blockN {h : Heap} {p L n : Nat} {ex gone : Bool} {qv mv : AV} {left work : Int} (hg : h.get p = some (.cells [.slice L 0 n n ex 64, qv, mv, .int .i64 left, .bool gone, .int .i64 work] false)) (k : Int) {e : Int} (he : e ≠ 0) : Runs (xcall X1 tab (.fn 24) [.ptr p 0, .int .i64 k, .int .i64 e] h) fun v h' => v = .int .i64 e ∧ h = h' := by
  obtain ⟨v, h', e1, e2, e3⟩ := d_block hg k e
  exact ⟨v, h', e1, by rw [e2, if_neg qo], e3⟩
theorem d_blockI {h : Heap} {p L n : Nat} {ex gone : Bool} {qv mv : AV} {left work : Int} (hg : h.get p = some (.cells [.slice L 0 n n ex 64, qv, mv, .int .i64 left, .bool gone, .int .i64 work] false)) {k : Nat} (hk : k < n) : Runs (xcall X1 tab (.fn 24) [.ptr p 0, .int .i64 (k : Nat), .int .i64 0] h) fun v h' => v = .int .i64 0 ∧ h = h' := by
  obtain ⟨v, h', e1, e2, e3⟩ := d_block hg (k : Nat) 0
  exact ⟨v, h', e1, by rw [e2, if_neg qo], e3⟩
theorem t10 : tab 10 = some ⟨15, [.tmp 6], b10⟩ := rfl
theorem d_WriteT {h : Heap} {p : Nat} {S : List Nat} {laid : List (List Int)} {Y W : List (Nat × List Int)} {left work : Int} (hD : DkAt h p S laid Y W left true work) (hl : 0 < laid.length) (k : Int) (b : List Int) : Runs (xcall X1 tab (.fn 10) [.ptr p 0, .int .i64 k, .agg (cellsB b)] h) fun v h' => v = .int .i64 9 ∧ Grow h h' := by
  refine Runs.intro fun K hK => ?_
  have hD0 := hD
  have hSl := hD.lt
  obtain ⟨L, ex, m, qv, hg, hL, hm, hO, n1, n2, rfl, hKY, hqf⟩ := hD
  have hplt := Heap.lt_of_get hg
  have hLlt := Heap.lt_of_get hL
  have hmlt := Heap.lt_of_get hm
  rw [w_fn rfl t10 (Nat.le_of_ble_eq_true rfl)]
  delta b10
  repeat' (first
    | simp (disch := first | exact qd | fail) only [WB, ↓WP, ↓WL, WR, WC, if_true, if_false, ite_true, ite_false, aop, ev, evs, readsA, List.replicate, numF, unA, resA, tupA, loadA, storeA, splice, fillA, kindsOk, plainEq, ↓reduceIte, Nat.reduceEqDiff, Nat.reduceLT, Int.reduceToNat, Int.reduceBEq, Int.reduceBNe, Nat.reduceAdd, Nat.reduceMul, Nat.reduceLeDiff, Int.reduceLT, Int.reduceSub, Int.reduceAdd, hg, cellsB_len, cellsB_flat, cells_asm, flat_asm]
    | ((first | refine atC ?_ ?_ | refine atG ?_ ?_ | refine atH ?_ ?_ | refine atP ?_ ?_) <;> intro hc <;> (try rw [hc]) <;> (try simp only [BD] at hc) <;> try (exfalso; omega))
    | ((first
      | (refine Runs.call (d_poweredT (Grow.get (h := h) qg hg) hl) ?_; rintro _ _ ⟨rfl, rfl⟩)
      | (refine Runs.call (d_blockN (Grow.get (h := h) qg hg) _ qo) ?_; rintro _ _ ⟨rfl, rfl⟩)
      | (refine Runs.call (d_doE _ _ qo _ _ _) ?_; rintro _ _ ⟨rfl, rfl⟩)
      | fail); all_goals ((try (have gn := gr.1; try simp only [nx_alloc, nx_set] at gn)); (try (have an := ha.num; try simp only [nx_alloc, nx_set, own_sl, own_nil] at an)); (try (have on := hO.num; try simp only [nx_alloc, nx_set] at on)); (try (have kn := hk.1; try simp only [nx_alloc, nx_set] at kn)); try have hB := hO.at)))
  all_goals try (first
    | (refine hK _ _ ?_; exact ⟨rfl, qg⟩; done)
    | fail)
theorem d_WriteG {h : Heap} {p : Nat} {S : List Nat} {laid : List (List Int)} {Y W : List (Nat × List Int)} {left work : Int} (hD : DkAt h p S laid Y W left false work) (hl : 0 < laid.length) (k : Nat) (hk : k < laid.length) (b : List Int) (hq : left = 1) : Runs (xcall X1 tab (.fn 10) [.ptr p 0, .int .i64 (k : Nat), .agg (cellsB b)] h) fun v h' => v = .int .i64 9 ∧ DkAt h' p S laid Y W 0 true work ∧ Dkf S S h h' := by
  refine Runs.intro fun K hK => ?_
  have hD0 := hD
  have hSl := hD.lt
  obtain ⟨L, ex, m, qv, hg, hL, hm, hO, n1, n2, rfl, hKY, hqf⟩ := hD
  have hplt := Heap.lt_of_get hg
  have hLlt := Heap.lt_of_get hL
  have hmlt := Heap.lt_of_get hm
  rw [w_fn rfl t10 (Nat.le_of_ble_eq_true rfl)]
  delta b10
  repeat' (first
    | simp (disch := first | exact qd | fail) only [WB, ↓WP, ↓WL, WR, WC, if_true, if_false, ite_true, ite_false, aop, ev, evs, readsA, List.replicate, numF, unA, resA, tupA, loadA, storeA, splice, fillA, kindsOk, plainEq, ↓reduceIte, Nat.reduceEqDiff, Nat.reduceLT, Int.reduceToNat, Int.reduceBEq, Int.reduceBNe, Nat.reduceAdd, Nat.reduceMul, Nat.reduceLeDiff, Int.reduceLT, Int.reduceSub, Int.reduceAdd, hg, cellsB_len, cellsB_flat, cells_asm, flat_asm]
    | ((first | refine atC ?_ ?_ | refine atG ?_ ?_ | refine atH ?_ ?_ | refine atP ?_ ?_) <;> intro hc <;> (try rw [hc]) <;> (try simp only [BD] at hc) <;> try (exfalso; omega))
    | ((first
      | (refine Runs.call (d_poweredF (Grow.get (h := h) qg hg) hl) ?_; rintro _ _ ⟨rfl, rfl⟩)
      | (refine Runs.call (d_blockI (Grow.get (h := h) qg hg) hk) ?_; rintro _ _ ⟨rfl, rfl⟩)
      | (refine Runs.call (d_doG (hD0.grow qg) hq _ _) ?_; rintro _ H2 ⟨rfl, hd2, hf2⟩)
      | fail); all_goals ((try (have gn := gr.1; try simp only [nx_alloc, nx_set] at gn)); (try (have an := ha.num; try simp only [nx_alloc, nx_set, own_sl, own_nil] at an)); (try (have on := hO.num; try simp only [nx_alloc, nx_set] at on)); (try (have kn := hk.1; try simp only [nx_alloc, nx_set] at kn)); try have hB := hO.at)))
  all_goals try (first
    | (refine hK _ _ ?_; exact ⟨rfl, hd2, (Dkf.ofGrow qg).trans hf2⟩; done)
    | fail)
theorem d_WriteF {h : Heap} {p : Nat} {S : List Nat} {laid : List (List Int)} {Y W : List (Nat × List Int)} {left work : Int} (hD : DkAt h p S laid Y W left false work) (hl : 0 < laid.length) (k : Nat) (hk : k < laid.length) (b : List Int) (hq : left ≠ 1) (hq0 : left ≠ 0) (hq1 : -9223372036854775808 ≤ left ∧ left ≤ 9223372036854775807) (hw : 0 ≤ work ∧ work ≤ 4611686018427387904) (hz : (W.length + 1) * 72 ≤ 140737488355328) : Runs (xcall X1 tab (.fn 10) [.ptr p 0, .int .i64 (k : Nat), .agg (cellsB b)] h) fun v h' => v = .int .i64 0 ∧ ∃ S', DkAt h' p S' laid (putY k b Y) (W ++ [(k, b)]) (stepL left) false (work + 1) ∧ Dkf S S' h h' := by
  refine Runs.intro fun K hK => ?_
  have hD0 := hD
  have hSl := hD.lt
  obtain ⟨L, ex, m, qv, hg, hL, hm, hO, n1, n2, rfl, hKY, hqf⟩ := hD
  have hplt := Heap.lt_of_get hg
  have hLlt := Heap.lt_of_get hL
  have hmlt := Heap.lt_of_get hm
  rw [w_fn rfl t10 (Nat.le_of_ble_eq_true rfl)]
  delta b10
  repeat' (first
    | simp (disch := first | exact qd | fail) only [WB, ↓WP, ↓WL, WR, WC, if_true, if_false, ite_true, ite_false, aop, ev, evs, readsA, List.replicate, numF, unA, resA, tupA, loadA, storeA, splice, fillA, kindsOk, plainEq, ↓reduceIte, Nat.reduceEqDiff, Nat.reduceLT, Int.reduceToNat, Int.reduceBEq, Int.reduceBNe, Nat.reduceAdd, Nat.reduceMul, Nat.reduceLeDiff, Int.reduceLT, Int.reduceSub, Int.reduceAdd, hg, cellsB_len, cellsB_flat, cells_asm, flat_asm]
    | ((first | refine atC ?_ ?_ | refine atG ?_ ?_ | refine atH ?_ ?_ | refine atP ?_ ?_) <;> intro hc <;> (try rw [hc]) <;> (try simp only [BD] at hc) <;> try (exfalso; omega))
    | ((first
      | (refine Runs.call (d_poweredF (Grow.get (h := h) qg hg) hl) ?_; rintro _ _ ⟨rfl, rfl⟩)
      | (refine Runs.call (d_blockI (Grow.get (h := h) qg hg) hk) ?_; rintro _ _ ⟨rfl, rfl⟩)
      | (refine Runs.call (d_doF (hD0.grow qg) hq hq0 hq1 hw _ _ _ (write_C hD0 (k := k) (b := b) qg qs qs qs qo qo qo hk hz)) ?_; rintro _ H2 ⟨rfl, hQ⟩)
      | fail); all_goals ((try (have gn := gr.1; try simp only [nx_alloc, nx_set] at gn)); (try (have an := ha.num; try simp only [nx_alloc, nx_set, own_sl, own_nil] at an)); (try (have on := hO.num; try simp only [nx_alloc, nx_set] at on)); (try (have kn := hk.1; try simp only [nx_alloc, nx_set] at kn)); try have hB := hO.at)))
  all_goals try (first
    | (refine hK _ _ ?_; exact ⟨rfl, hQ⟩; done)
    | fail)
theorem t9 : tab 9 = some ⟨8, [.tmp 2], b9⟩ := rfl
theorem d_FlushT {h : Heap} {p : Nat} {S : List Nat} {laid : List (List Int)} {Y W : List (Nat × List Int)} {left work : Int} (hD : DkAt h p S laid Y W left true work) (hl : 0 < laid.length) : Runs (xcall X1 tab (.fn 9) [.ptr p 0] h) fun v h' => v = .int .i64 9 ∧ Grow h h' := by
  refine Runs.intro fun K hK => ?_
  have hD0 := hD
  have hSl := hD.lt
  obtain ⟨L, ex, m, qv, hg, hL, hm, hO, n1, n2, rfl, hKY, hqf⟩ := hD
  have hplt := Heap.lt_of_get hg
  have hLlt := Heap.lt_of_get hL
  have hmlt := Heap.lt_of_get hm
  rw [w_fn rfl t9 (Nat.le_of_ble_eq_true rfl)]
  delta b9
  repeat' (first
    | simp (disch := first | exact qd | fail) only [WB, ↓WP, ↓WL, WR, WC, if_true, if_false, ite_true, ite_false, aop, ev, evs, readsA, List.replicate, numF, unA, resA, tupA, loadA, storeA, splice, fillA, kindsOk, plainEq, ↓reduceIte, Nat.reduceEqDiff, Nat.reduceLT, Int.reduceToNat, Int.reduceBEq, Int.reduceBNe, Nat.reduceAdd, Nat.reduceMul, Nat.reduceLeDiff, Int.reduceLT, Int.reduceSub, Int.reduceAdd, hg, cells_asm, flat_asm]
    | ((first | refine atC ?_ ?_ | refine atG ?_ ?_ | refine atH ?_ ?_ | refine atP ?_ ?_) <;> intro hc <;> (try rw [hc]) <;> (try simp only [BD] at hc) <;> try (exfalso; omega))
    | ((first
      | (refine Runs.call (d_poweredT (Grow.get (h := h) qg hg) hl) ?_; rintro _ _ ⟨rfl, rfl⟩)
      | (refine Runs.call (d_doE _ _ qo _ _ _) ?_; rintro _ _ ⟨rfl, rfl⟩)
      | fail); all_goals ((try (have gn := gr.1; try simp only [nx_alloc, nx_set] at gn)); (try (have an := ha.num; try simp only [nx_alloc, nx_set, own_sl, own_nil] at an)); (try (have on := hO.num; try simp only [nx_alloc, nx_set] at on)); (try (have kn := hk.1; try simp only [nx_alloc, nx_set] at kn)); try have hB := hO.at)))
  all_goals try (first
    | (refine hK _ _ ?_; exact ⟨rfl, qg⟩; done)
    | fail)
theorem d_FlushG {h : Heap} {p : Nat} {S : List Nat} {laid : List (List Int)} {Y W : List (Nat × List Int)} {left work : Int} (hD : DkAt h p S laid Y W left false work) (hl : 0 < laid.length) (hq : left = 1) : Runs (xcall X1 tab (.fn 9) [.ptr p 0] h) fun v h' => v = .int .i64 9 ∧ DkAt h' p S laid Y W 0 true work ∧ Dkf S S h h' := by
  refine Runs.intro fun K hK => ?_
  have hD0 := hD
  have hSl := hD.lt
  obtain ⟨L, ex, m, qv, hg, hL, hm, hO, n1, n2, rfl, hKY, hqf⟩ := hD
  have hplt := Heap.lt_of_get hg
  have hLlt := Heap.lt_of_get hL
  have hmlt := Heap.lt_of_get hm
  rw [w_fn rfl t9 (Nat.le_of_ble_eq_true rfl)]
  delta b9
  repeat' (first
    | simp (disch := first | exact qd | fail) only [WB, ↓WP, ↓WL, WR, WC, if_true, if_false, ite_true, ite_false, aop, ev, evs, readsA, List.replicate, numF, unA, resA, tupA, loadA, storeA, splice, fillA, kindsOk, plainEq, ↓reduceIte, Nat.reduceEqDiff, Nat.reduceLT, Int.reduceToNat, Int.reduceBEq, Int.reduceBNe, Nat.reduceAdd, Nat.reduceMul, Nat.reduceLeDiff, Int.reduceLT, Int.reduceSub, Int.reduceAdd, hg, cells_asm, flat_asm]
    | ((first | refine atC ?_ ?_ | refine atG ?_ ?_ | refine atH ?_ ?_ | refine atP ?_ ?_) <;> intro hc <;> (try rw [hc]) <;> (try simp only [BD] at hc) <;> try (exfalso; omega))
    | ((first
      | (refine Runs.call (d_poweredF (Grow.get (h := h) qg hg) hl) ?_; rintro _ _ ⟨rfl, rfl⟩)
      | (refine Runs.call (d_doG (hD0.grow qg) hq _ _) ?_; rintro _ H2 ⟨rfl, hd2, hf2⟩)
      | fail); all_goals ((try (have gn := gr.1; try simp only [nx_alloc, nx_set] at gn)); (try (have an := ha.num; try simp only [nx_alloc, nx_set, own_sl, own_nil] at an)); (try (have on := hO.num; try simp only [nx_alloc, nx_set] at on)); (try (have kn := hk.1; try simp only [nx_alloc, nx_set] at kn)); try have hB := hO.at)))
  all_goals try (first
    | (refine hK _ _ ?_; exact ⟨rfl, hd2, (Dkf.ofGrow qg).trans hf2⟩; done)
    | fail)
theorem d_FlushF {h : Heap} {p : Nat} {S : List Nat} {laid : List (List Int)} {Y W : List (Nat × List Int)} {left work : Int} (hD : DkAt h p S laid Y W left false work) (hl : 0 < laid.length) (hq : left ≠ 1) (hq0 : left ≠ 0) (hq1 : -9223372036854775808 ≤ left ∧ left ≤ 9223372036854775807) (hw : 0 ≤ work ∧ work ≤ 4611686018427387904) : Runs (xcall X1 tab (.fn 9) [.ptr p 0] h) fun v h' => v = .int .i64 0 ∧ ∃ S', DkAt h' p S' (layY Y laid) [] [] (stepL left) false (work + 1) ∧ Dkf S S' h h' := by
  refine Runs.intro fun K hK => ?_
  have hD0 := hD
  have hSl := hD.lt
  obtain ⟨L, ex, m, qv, hg, hL, hm, hO, n1, n2, rfl, hKY, hqf⟩ := hD
  have hplt := Heap.lt_of_get hg
  have hLlt := Heap.lt_of_get hL
  have hmlt := Heap.lt_of_get hm
  rw [w_fn rfl t9 (Nat.le_of_ble_eq_true rfl)]
  delta b9
  repeat' (first
    | simp (disch := first | exact qd | fail) only [WB, ↓WP, ↓WL, WR, WC, if_true, if_false, ite_true, ite_false, aop, ev, evs, readsA, List.replicate, numF, unA, resA, tupA, loadA, storeA, splice, fillA, kindsOk, plainEq, ↓reduceIte, Nat.reduceEqDiff, Nat.reduceLT, Int.reduceToNat, Int.reduceBEq, Int.reduceBNe, Nat.reduceAdd, Nat.reduceMul, Nat.reduceLeDiff, Int.reduceLT, Int.reduceSub, Int.reduceAdd, hg, cells_asm, flat_asm]
    | ((first | refine atC ?_ ?_ | refine atG ?_ ?_ | refine atH ?_ ?_ | refine atP ?_ ?_) <;> intro hc <;> (try rw [hc]) <;> (try simp only [BD] at hc) <;> try (exfalso; omega))
    | ((first
      | (refine Runs.call (d_poweredF (Grow.get (h := h) qg hg) hl) ?_; rintro _ _ ⟨rfl, rfl⟩)
      | (refine Runs.call (d_doF (hD0.grow qg) hq hq0 hq1 hw _ _ _ (flush_C hD0 qg qs qo)) ?_; rintro _ H2 ⟨rfl, hQ⟩)
      | fail); all_goals ((try (have gn := gr.1; try simp only [nx_alloc, nx_set] at gn)); (try (have an := ha.num; try simp only [nx_alloc, nx_set, own_sl, own_nil] at an)); (try (have on := hO.num; try simp only [nx_alloc, nx_set] at on)); (try (have kn := hk.1; try simp only [nx_alloc, nx_set] at kn)); try have hB := hO.at)))
  all_goals try (first
    | (refine hK _ _ ?_; exact ⟨rfl, hQ⟩; done)
    | fail)
end Go.Proofs.Ytekbgdmemenheaa.Ya
