/-
  A disk: one step of it.
-/
import Derived.Test.YtekbgdmemenheaaYaDiB
import Derived.Test.YtekbgdmemenheaaYbL
namespace Go.Proofs.Ytekbgdmemenheaa.Ya
open Go.Ya
set_option linter.unusedVariables false
set_option linter.unusedSimpArgs false
set_option maxRecDepth 100000
set_option maxHeartbeats 8000000
theorem Dk_set {h h' : Heap} {p L m : Nat} {ex gone' : Bool} {qv : AV} {laid : List (List Int)} {Y W : List (Nat × List Int)} {left' work' : Int} (hn : h'.next = h.next) (h0 : h'.get p = some (.cells [.slice L 0 laid.length laid.length ex 64, qv, .map m, .int .i64 left', .bool gone', .int .i64 work'] false)) (hr : ∀ j, j ≠ p → h'.get j = h.get j) (hL : h.get L = some (.cells (cellsL laid) false)) (hm : h.get m = some (.map (Y.map encY))) (hO : OwR 65 encW 0 h qv W) (n1 : L ≠ p) (n2 : own qv = 0 ∨ (own qv - 1 ≠ p ∧ own qv - 1 ≠ L ∧ own qv - 1 ≠ m)) (hpm : p ≠ m) (hKY : keysY laid.length Y) (hqf : qv.flat = true) :
    DkAt h' p ([p, L, m] ++ qB qv) laid Y W left' gone' work' ∧ Dkf ([p, L, m] ++ qB qv) ([p, L, m] ++ qB qv) h h' := Dk_reset (ex := ex) hn h0 hr hL hm hO n1 n2 hpm hKY hqf
theorem stepL_ge {left : Int} (h : 0 ≤ left) : stepL left = left - 1 := if_pos h
theorem stepL_lt {left : Int} (h : left < 0) : stepL left = left := if_neg qo
theorem t22 : tab 22 = some ⟨43, [.tmp 6], b22⟩ := rfl
theorem d_doE (p : Nat) (e : Int) (he : e ≠ 0) (f : FuncId) (cs : List AV) (h : Heap) : Runs (xcall X1 tab (.fn 22) [.ptr p 0, .int .i64 e, .func f [] cs] h) fun v h' => v = .int .i64 e ∧ h = h' := by
  refine Runs.intro fun K hK => ?_
  rw [w_fn rfl t22 (Nat.le_of_ble_eq_true rfl)]
  delta b22
  repeat' (first
    | simp (disch := first | exact qd | fail) only [WB, ↓WP, ↓WL, WR, WC, if_true, if_false, ite_true, ite_false, aop, ev, evs, readsA, List.replicate, numF, unA, resA, tupA, loadA, storeA, splice, fillA, kindsOk, plainEq, ↓reduceIte, Nat.reduceEqDiff, Nat.reduceLT, Int.reduceToNat, Int.reduceBEq, Int.reduceBNe, Nat.reduceAdd, Nat.reduceMul, Nat.reduceLeDiff, Int.reduceLT, Int.reduceSub, Int.reduceAdd, he]
    | ((first | refine atC ?_ ?_ | refine atG ?_ ?_ | refine atH ?_ ?_ | refine atP ?_ ?_) <;> intro hc <;> (try rw [hc]) <;> (try simp only [BD] at hc) <;> try (exfalso; omega)))
  all_goals try (first
    | (refine hK _ _ ?_; exact ⟨rfl, rfl⟩; done)
    | fail)
theorem d_doG {h : Heap} {p : Nat} {S : List Nat} {laid : List (List Int)} {Y W : List (Nat × List Int)} {left work : Int} (hD : DkAt h p S laid Y W left false work) (hl : left = 1) (f : FuncId) (cs : List AV) : Runs (xcall X1 tab (.fn 22) [.ptr p 0, .int .i64 0, .func f [] cs] h) fun v h' => v = .int .i64 9 ∧ DkAt h' p S laid Y W 0 true work ∧ Dkf S S h h' := by
  refine Runs.intro fun K hK => ?_
  obtain ⟨L, ex, m, qv, hg, hL, hm, hO, n1, n2, rfl, hKY, hqf⟩ := hD
  have hplt := Heap.lt_of_get hg
  have hLlt := Heap.lt_of_get hL
  have hmlt := Heap.lt_of_get hm
  have hqn := OwR.num hO
  have hpm : p ≠ m := fun e => by rw [e, hm] at hg; cases hg
  have hLm : L ≠ m := fun e => by rw [e, hm] at hL; cases hL
  obtain ⟨m1, m2, m3⟩ := not_Q n2
  subst hl
  rw [w_fn rfl t22 (Nat.le_of_ble_eq_true rfl)]
  delta b22
  repeat' (first
    | simp (disch := first | exact qd | fail) only [WB, ↓WP, ↓WL, WR, WC, if_true, if_false, ite_true, ite_false, aop, ev, evs, readsA, List.replicate, numF, unA, resA, tupA, loadA, storeA, splice, fillA, kindsOk, plainEq, ↓reduceIte, Nat.reduceEqDiff, Nat.reduceLT, Int.reduceToNat, Int.reduceBEq, Int.reduceBNe, Nat.reduceAdd, Nat.reduceMul, Nat.reduceLeDiff, Int.reduceLT, Int.reduceSub, Int.reduceAdd, hg, hqf, cells_asm, flat_asm]
    | ((first | refine atC ?_ ?_ | refine atG ?_ ?_ | refine atH ?_ ?_ | refine atP ?_ ?_) <;> intro hc <;> (try rw [hc]) <;> (try simp only [BD] at hc) <;> try (exfalso; omega)))
  all_goals try (first
    | (refine hK _ _ ?_; (refine ⟨rfl, Dk_set (ex := ex) rfl ?_ (fun j hj => by first | (rw [gs_old hj, gs_old hj, gs_old hj]; done) | (rw [gs_old hj, gs_old hj]; done) | (rw [gs_old hj])) hL hm hO n1 n2 hpm hKY hqf⟩; exact gs_new rfl hplt); done)
    | fail)
theorem d_doF {h : Heap} {p : Nat} {S : List Nat} {laid : List (List Int)} {Y W : List (Nat × List Int)} {left work : Int} (hD : DkAt h p S laid Y W left false work) (hl : left ≠ 1) (hl0 : left ≠ 0) (hl1 : -9223372036854775808 ≤ left ∧ left ≤ 9223372036854775807) (hw : 0 ≤ work ∧ work ≤ 4611686018427387904) (f : FuncId) (cs : List AV) (Q : Heap → Prop) (hC : ∀ h1, DkAt h1 p S laid Y W (stepL left) false (work + 1) → Dkf S S h h1 → Runs (xcall X1 tab (.fn f) cs h1) fun v h' => v = undefA ∧ Q h') : Runs (xcall X1 tab (.fn 22) [.ptr p 0, .int .i64 0, .func f [] cs] h) fun v h' => v = .int .i64 0 ∧ Q h' := by
  refine Runs.intro fun K hK => ?_
  obtain ⟨L, ex, m, qv, hg, hL, hm, hO, n1, n2, rfl, hKY, hqf⟩ := hD
  have hplt := Heap.lt_of_get hg
  have hLlt := Heap.lt_of_get hL
  have hmlt := Heap.lt_of_get hm
  have hqn := OwR.num hO
  have hpm : p ≠ m := fun e => by rw [e, hm] at hg; cases hg
  have hLm : L ≠ m := fun e => by rw [e, hm] at hL; cases hL
  obtain ⟨m1, m2, m3⟩ := not_Q n2
  have hC2 : ∀ h1 : Heap, h1.next = h.next → h1.get p = some (.cells [.slice L 0 laid.length laid.length ex 64, qv, .map m, .int .i64 (stepL left), .bool false, .int .i64 (work + 1)] false) → (∀ j, j ≠ p → h1.get j = h.get j) → Runs (xcall X1 tab (.fn f) cs h1) fun v h' => v = undefA ∧ Q h' := fun h1 a b c => by
    obtain ⟨q1, q2⟩ := Dk_set (ex := ex) a b c hL hm hO n1 n2 hpm hKY hqf
    exact hC h1 q1 q2
  clear hC
  rw [w_fn rfl t22 (Nat.le_of_ble_eq_true rfl)]
  delta b22
  repeat' (first
    | simp (disch := first | exact qd | fail) only [WB, ↓WP, ↓WL, WR, WC, if_true, if_false, ite_true, ite_false, aop, ev, evs, readsA, List.replicate, numF, unA, resA, tupA, loadA, storeA, splice, fillA, kindsOk, plainEq, ↓reduceIte, Nat.reduceEqDiff, Nat.reduceLT, Int.reduceToNat, Int.reduceBEq, Int.reduceBNe, Nat.reduceAdd, Nat.reduceMul, Nat.reduceLeDiff, Int.reduceLT, Int.reduceSub, Int.reduceAdd, hg, hqf, cells_asm, flat_asm]
    | ((first | refine atC ?_ ?_ | refine atG ?_ ?_ | refine atH ?_ ?_ | refine atP ?_ ?_) <;> intro hc <;> (try rw [hc]) <;> (try simp only [BD] at hc) <;> try (exfalso; omega))
    | ((first
      | (refine Runs.call (hC2 _ rfl (by rw [stepL_ge qo]; exact gs_new rfl hplt) (fun j hj => by first | (rw [gs_old hj, gs_old hj, gs_old hj]; done) | (rw [gs_old hj, gs_old hj]; done) | (rw [gs_old hj]))) ?_; rintro _ H2 ⟨rfl, hq⟩)
      | (refine Runs.call (hC2 _ rfl (by rw [stepL_lt qo]; exact gs_new rfl hplt) (fun j hj => by first | (rw [gs_old hj, gs_old hj, gs_old hj]; done) | (rw [gs_old hj, gs_old hj]; done) | (rw [gs_old hj]))) ?_; rintro _ H2 ⟨rfl, hq⟩)
      | fail); all_goals ((try (have gn := gr.1; try simp only [nx_alloc, nx_set] at gn)); (try (have an := ha.num; try simp only [nx_alloc, nx_set, own_sl, own_nil] at an)); (try (have on := hO.num; try simp only [nx_alloc, nx_set] at on)); (try (have kn := hk.1; try simp only [nx_alloc, nx_set] at kn)); try have hB := hO.at)))
  all_goals try (first
    | (refine hK _ _ ?_; exact ⟨rfl, by assumption⟩; done)
    | fail)
end Go.Proofs.Ytekbgdmemenheaa.Ya
