/-
  A disk: its methods.
-/
import Derived.Test.YtekbgdmemenheaaYaDiPure
import Derived.Test.YtekbgdmemenheaaYbL
import Derived.Test.YtekbgdmemenheaaYbJ
namespace Go.Proofs.Ytekbgdmemenheaa.Ya
open Go.Ya
set_option linter.unusedVariables false
set_option linter.unusedSimpArgs false
set_option maxRecDepth 100000
set_option maxHeartbeats 8000000
def qB (v : AV) : List Nat := if own v = 0 then [] else [own v - 1]
def DkAt (H : Heap) (p : Nat) (S : List Nat) (laid : List (List Int)) (Y W : List (Nat × List Int)) (left : Int) (gone : Bool) (work : Int) : Prop :=
  ∃ L ex m qv, H.get p = some (.cells [.slice L 0 laid.length laid.length ex 64, qv, .map m, .int .i64 left, .bool gone, .int .i64 work] false) ∧ H.get L = some (.cells (cellsL laid) false) ∧ H.get m = some (.map (Y.map encY)) ∧ OwR 65 encW 0 H qv W ∧ L ≠ p ∧ (own qv = 0 ∨ (own qv - 1 ≠ p ∧ own qv - 1 ≠ L ∧ own qv - 1 ≠ m)) ∧ S = [p, L, m] ++ qB qv ∧ keysY laid.length Y ∧ qv.flat = true
def Dkf (S S' : List Nat) (h h' : Heap) : Prop := h.next ≤ h'.next ∧ (∀ j, j < h.next → j ∉ S → h'.get j = h.get j) ∧ ∀ x ∈ S', x ∈ S ∨ h.next ≤ x
theorem Dkf.trans {S S' S2 : List Nat} {h h' h2 : Heap} (a : Dkf S S' h h') (b : Dkf S' S2 h' h2) : Dkf S S2 h h2 :=
  ⟨Nat.le_trans a.1 b.1, fun j h1 h2 => (b.2.1 j (Nat.lt_of_lt_of_le h1 a.1) (fun hin => (a.2.2 j hin).elim h2 qo)).trans (a.2.1 j h1 h2), fun x hx => (b.2.2 x hx).elim (fun h => a.2.2 x h) (fun h => .inr (Nat.le_trans a.1 h))⟩
theorem Dkf.refl (S : List Nat) (h : Heap) : Dkf S S h h := ⟨Nat.le_refl _, fun _ _ _ => rfl, fun x hx => .inl hx⟩
theorem Dkf.get {S S' : List Nat} {h h' : Heap} (a : Dkf S S' h h') {j : Nat} {o : AObj} (hj : h.get j = some o) (hn : j ∉ S) : h'.get j = some o := (a.2.1 j (Heap.lt_of_get hj) hn).trans hj
theorem DkAt.grow {H H' : Heap} {p : Nat} {S : List Nat} {laid : List (List Int)} {Y W : List (Nat × List Int)} {left work : Int} {gone : Bool} (a : DkAt H p S laid Y W left gone work) (g : Grow H H') : DkAt H' p S laid Y W left gone work := by
  obtain ⟨L, ex, m, qv, h1, h2, h3, h4, h5⟩ := a
  exact ⟨L, ex, m, qv, g.get h1, g.get h2, g.get h3, h4.grow g, h5⟩
def stepL (left : Int) : Int := if 0 ≤ left then left - 1 else left
theorem t19 : tab 19 = some ⟨10, [.tmp 2], b19⟩ := rfl
theorem d_Blocks {h : Heap} {p L n : Nat} {ex gone : Bool} {qv mv : AV} {left work : Int} (hg : h.get p = some (.cells [.slice L 0 n n ex 64, qv, mv, .int .i64 left, .bool gone, .int .i64 work] false)) : Runs (xcall X1 tab (.fn 19) [.ptr p 0] h) fun v h' => v = .int .i64 (n : Nat) ∧ h = h' := by
  refine Runs.intro fun K hK => ?_
  rw [w_fn rfl t19 (Nat.le_of_ble_eq_true rfl)]
  delta b19
  repeat' (first
    | simp (disch := first | exact qd | fail) only [WB, ↓WP, ↓WL, WR, WC, if_true, if_false, ite_true, ite_false, aop, ev, evs, readsA, List.replicate, numF, unA, resA, tupA, loadA, storeA, splice, fillA, kindsOk, plainEq, ↓reduceIte, Nat.reduceEqDiff, Nat.reduceLT, Int.reduceToNat, Int.reduceBEq, Int.reduceBNe, Nat.reduceAdd, Nat.reduceMul, Nat.reduceLeDiff, Int.reduceLT, Int.reduceSub, Int.reduceAdd, hg, ptr_ee, ptr_en, ptr_ne]
    | ((first | refine atC ?_ ?_ | refine atG ?_ ?_ | refine atH ?_ ?_ | refine atP ?_ ?_) <;> intro hc <;> (try rw [hc]) <;> (try simp only [BD] at hc) <;> try (exfalso; omega)))
  all_goals try (first
    | (refine hK _ _ ?_; exact ⟨rfl, rfl⟩; done)
    | fail)
theorem t21 : tab 21 = some ⟨10, [.tmp 2], b21⟩ := rfl
theorem d_poweredT {h : Heap} {p L n : Nat} {ex : Bool} {qv mv : AV} {left work : Int} (hg : h.get p = some (.cells [.slice L 0 n n ex 64, qv, mv, .int .i64 left, .bool true, .int .i64 work] false)) (hn : 0 < n) : Runs (xcall X1 tab (.fn 21) [.ptr p 0] h) fun v h' => v = .int .i64 9 ∧ h = h' := by
  refine Runs.intro fun K hK => ?_
  rw [w_fn rfl t21 (Nat.le_of_ble_eq_true rfl)]
  delta b21
  repeat' (first
    | simp (disch := first | exact qd | fail) only [WB, ↓WP, ↓WL, WR, WC, if_true, if_false, ite_true, ite_false, aop, ev, evs, readsA, List.replicate, numF, unA, resA, tupA, loadA, storeA, splice, fillA, kindsOk, plainEq, ↓reduceIte, Nat.reduceEqDiff, Nat.reduceLT, Int.reduceToNat, Int.reduceBEq, Int.reduceBNe, Nat.reduceAdd, Nat.reduceMul, Nat.reduceLeDiff, Int.reduceLT, Int.reduceSub, Int.reduceAdd, hg, ptr_ee, ptr_en, ptr_ne]
    | ((first | refine atC ?_ ?_ | refine atG ?_ ?_ | refine atH ?_ ?_ | refine atP ?_ ?_) <;> intro hc <;> (try rw [hc]) <;> (try simp only [BD] at hc) <;> try (exfalso; omega))
    | ((first
      | (refine Runs.call (d_Blocks hg) ?_; rintro _ _ ⟨rfl, rfl⟩)
      | fail); all_goals ((try (have gn := gr.1; try simp only [nx_alloc, nx_set] at gn)); (try (have an := ha.num; try simp only [nx_alloc, nx_set, own_sl, own_nil] at an)); (try (have on := hO.num; try simp only [nx_alloc, nx_set] at on)); (try (have kn := hk.1; try simp only [nx_alloc, nx_set] at kn)); try have hB := hO.at)))
  all_goals try (first
    | (refine hK _ _ ?_; exact ⟨rfl, rfl⟩; done)
    | fail)
theorem d_poweredF {h : Heap} {p L n : Nat} {ex : Bool} {qv mv : AV} {left work : Int} (hg : h.get p = some (.cells [.slice L 0 n n ex 64, qv, mv, .int .i64 left, .bool false, .int .i64 work] false)) (hn : 0 < n) : Runs (xcall X1 tab (.fn 21) [.ptr p 0] h) fun v h' => v = .int .i64 0 ∧ h = h' := by
  refine Runs.intro fun K hK => ?_
  rw [w_fn rfl t21 (Nat.le_of_ble_eq_true rfl)]
  delta b21
  repeat' (first
    | simp (disch := first | exact qd | fail) only [WB, ↓WP, ↓WL, WR, WC, if_true, if_false, ite_true, ite_false, aop, ev, evs, readsA, List.replicate, numF, unA, resA, tupA, loadA, storeA, splice, fillA, kindsOk, plainEq, ↓reduceIte, Nat.reduceEqDiff, Nat.reduceLT, Int.reduceToNat, Int.reduceBEq, Int.reduceBNe, Nat.reduceAdd, Nat.reduceMul, Nat.reduceLeDiff, Int.reduceLT, Int.reduceSub, Int.reduceAdd, hg, ptr_ee, ptr_en, ptr_ne]
    | ((first | refine atC ?_ ?_ | refine atG ?_ ?_ | refine atH ?_ ?_ | refine atP ?_ ?_) <;> intro hc <;> (try rw [hc]) <;> (try simp only [BD] at hc) <;> try (exfalso; omega))
    | ((first
      | (refine Runs.call (d_Blocks hg) ?_; rintro _ _ ⟨rfl, rfl⟩)
      | fail); all_goals ((try (have gn := gr.1; try simp only [nx_alloc, nx_set] at gn)); (try (have an := ha.num; try simp only [nx_alloc, nx_set, own_sl, own_nil] at an)); (try (have on := hO.num; try simp only [nx_alloc, nx_set] at on)); (try (have kn := hk.1; try simp only [nx_alloc, nx_set] at kn)); try have hB := hO.at)))
  all_goals try (first
    | (refine hK _ _ ?_; exact ⟨rfl, rfl⟩; done)
    | fail)
theorem t24 : tab 24 = some ⟨20, [.tmp 6], b24⟩ := rfl
theorem d_block {h : Heap} {p L n : Nat} {ex gone : Bool} {qv mv : AV} {left work : Int} (hg : h.get p = some (.cells [.slice L 0 n n ex 64, qv, mv, .int .i64 left, .bool gone, .int .i64 work] false)) (k e : Int) : Runs (xcall X1 tab (.fn 24) [.ptr p 0, .int .i64 k, .int .i64 e] h) fun v h' => v = .int .i64 (if e = 0 ∧ (k < 0 ∨ (n : Int) ≤ k) then 2 else e) ∧ h = h' := by
  refine Runs.intro fun K hK => ?_
  rw [w_fn rfl t24 (Nat.le_of_ble_eq_true rfl)]
  delta b24
  repeat' (first
    | simp (disch := first | exact qd | fail) only [WB, ↓WP, ↓WL, WR, WC, if_true, if_false, ite_true, ite_false, aop, ev, evs, readsA, List.replicate, numF, unA, resA, tupA, loadA, storeA, splice, fillA, kindsOk, plainEq, ↓reduceIte, Nat.reduceEqDiff, Nat.reduceLT, Int.reduceToNat, Int.reduceBEq, Int.reduceBNe, Nat.reduceAdd, Nat.reduceMul, Nat.reduceLeDiff, Int.reduceLT, Int.reduceSub, Int.reduceAdd, hg, ptr_ee, ptr_en, ptr_ne]
    | ((first | refine atC ?_ ?_ | refine atG ?_ ?_ | refine atH ?_ ?_ | refine atP ?_ ?_) <;> intro hc <;> (try rw [hc]) <;> (try simp only [BD] at hc) <;> try (exfalso; omega))
    | ((first
      | (refine Runs.call (d_Blocks hg) ?_; rintro _ _ ⟨rfl, rfl⟩)
      | fail); all_goals ((try (have gn := gr.1; try simp only [nx_alloc, nx_set] at gn)); (try (have an := ha.num; try simp only [nx_alloc, nx_set, own_sl, own_nil] at an)); (try (have on := hO.num; try simp only [nx_alloc, nx_set] at on)); (try (have kn := hk.1; try simp only [nx_alloc, nx_set] at kn)); try have hB := hO.at)))
  all_goals try (first
    | (refine hK _ _ ?_; (first | exact ⟨by rw [if_pos qo], rfl⟩ | exact ⟨by rw [if_neg qo], rfl⟩ | fail); done)
    | fail)
theorem t11 : tab 11 = some ⟨11, [.tmp 2], b11⟩ := rfl
theorem d_Dark {h : Heap} {p L n : Nat} {ex gone : Bool} {qv mv : AV} {left work : Int} (hg : h.get p = some (.cells [.slice L 0 n n ex 64, qv, mv, .int .i64 left, .bool gone, .int .i64 work] false)) : Runs (xcall X1 tab (.fn 11) [.ptr p 0] h) fun v h' => v = .bool gone ∧ h = h' := by
  refine Runs.intro fun K hK => ?_
  rw [w_fn rfl t11 (Nat.le_of_ble_eq_true rfl)]
  delta b11
  repeat' (first
    | simp (disch := first | exact qd | fail) only [WB, ↓WP, ↓WL, WR, WC, if_true, if_false, ite_true, ite_false, aop, ev, evs, readsA, List.replicate, numF, unA, resA, tupA, loadA, storeA, splice, fillA, kindsOk, plainEq, ↓reduceIte, Nat.reduceEqDiff, Nat.reduceLT, Int.reduceToNat, Int.reduceBEq, Int.reduceBNe, Nat.reduceAdd, Nat.reduceMul, Nat.reduceLeDiff, Int.reduceLT, Int.reduceSub, Int.reduceAdd, hg, ptr_ee, ptr_en, ptr_ne]
    | ((first | refine atC ?_ ?_ | refine atG ?_ ?_ | refine atH ?_ ?_ | refine atP ?_ ?_) <;> intro hc <;> (try rw [hc]) <;> (try simp only [BD] at hc) <;> try (exfalso; omega)))
  all_goals try (first
    | (refine hK _ _ ?_; exact ⟨rfl, rfl⟩; done)
    | fail)
theorem t12 : tab 12 = some ⟨9, [.tmp 2], b12⟩ := rfl
theorem d_Steps {h : Heap} {p L n : Nat} {ex gone : Bool} {qv mv : AV} {left work : Int} (hg : h.get p = some (.cells [.slice L 0 n n ex 64, qv, mv, .int .i64 left, .bool gone, .int .i64 work] false)) : Runs (xcall X1 tab (.fn 12) [.ptr p 0] h) fun v h' => v = .int .i64 work ∧ h = h' := by
  refine Runs.intro fun K hK => ?_
  rw [w_fn rfl t12 (Nat.le_of_ble_eq_true rfl)]
  delta b12
  repeat' (first
    | simp (disch := first | exact qd | fail) only [WB, ↓WP, ↓WL, WR, WC, if_true, if_false, ite_true, ite_false, aop, ev, evs, readsA, List.replicate, numF, unA, resA, tupA, loadA, storeA, splice, fillA, kindsOk, plainEq, ↓reduceIte, Nat.reduceEqDiff, Nat.reduceLT, Int.reduceToNat, Int.reduceBEq, Int.reduceBNe, Nat.reduceAdd, Nat.reduceMul, Nat.reduceLeDiff, Int.reduceLT, Int.reduceSub, Int.reduceAdd, hg, ptr_ee, ptr_en, ptr_ne]
    | ((first | refine atC ?_ ?_ | refine atG ?_ ?_ | refine atH ?_ ?_ | refine atP ?_ ?_) <;> intro hc <;> (try rw [hc]) <;> (try simp only [BD] at hc) <;> try (exfalso; omega)))
  all_goals try (first
    | (refine hK _ _ ?_; exact ⟨rfl, rfl⟩; done)
    | fail)
theorem d_empty {d : Nat} {lv q mv l gn wk : AV} {h : Heap} (hd : h.get d = some (.cells [lv, q, mv, l, gn, wk] false)) (f1 : lv.flat = true) (f2 : l.flat = true) (f3 : gn.flat = true) (f4 : wk.flat = true) : Runs (xcall X1 tab (.fn 20) [.ptr d 0] h) fun v h' => v = undefA ∧ h'.next = h.next + 1 ∧ ∀ id, h'.get id = if id = d then some (.cells [lv, .nilsl, .map h.next, l, gn, wk] false) else if id = h.next then some (.map []) else h.get id := by
  refine Runs.intro fun K hK => ?_
  have hlt := Heap.lt_of_get hd
  rw [w_fn rfl t20 (Nat.le_of_ble_eq_true rfl)]
  delta b20
  repeat' (first
    | simp (disch := first | exact qd | fail) only [WB, ↓WP, ↓WL, WR, WC, if_true, if_false, ite_true, ite_false, aop, ev, evs, readsA, List.replicate, numF, unA, resA, tupA, loadA, storeA, splice, fillA, kindsOk, plainEq, ↓reduceIte, Nat.reduceEqDiff, Nat.reduceLT, Int.reduceToNat, Int.reduceBEq, Int.reduceBNe, Nat.reduceAdd, Nat.reduceMul, Nat.reduceLeDiff, Int.reduceLT, Int.reduceSub, Int.reduceAdd, hd, flat_asm, cells_asm]
    | ((first | refine atC ?_ ?_ | refine atG ?_ ?_ | refine atH ?_ ?_ | refine atP ?_ ?_) <;> intro hc <;> (try rw [hc]) <;> (try simp only [BD] at hc) <;> try (exfalso; omega)))
  all_goals try (first
    | (refine hK _ _ ?_; exact ⟨rfl, by simp only [nx_alloc, nx_set], fun id => empty_get hlt⟩; done)
    | fail)
theorem mem_S {p L m : Nat} {qv : AV} {x : Nat} : x ∈ [p, L, m] ++ qB qv ↔ x = p ∨ x = L ∨ x = m ∨ (own qv ≠ 0 ∧ x = own qv - 1) := by
  unfold qB
  split
  · rename_i h; simp [h]
  · rename_i h; simp [h]
theorem DkAt.lt {H : Heap} {p : Nat} {S : List Nat} {laid : List (List Int)} {Y W : List (Nat × List Int)} {left work : Int} {gone : Bool} (a : DkAt H p S laid Y W left gone work) : ∀ x ∈ S, x < H.next := by
  obtain ⟨L, ex, m, qv, hg, hL, hm, hO, n1, n2, rfl, hKY, hqf⟩ := a
  intro x hx
  have := OwR.num hO
  rcases mem_S.1 hx with rfl | rfl | rfl | ⟨e1, rfl⟩
  · exact Heap.lt_of_get hg
  · exact Heap.lt_of_get hL
  · exact Heap.lt_of_get hm
  · omega
theorem max64 {n : Int} (h : 64 ≤ n) : maxA (.int .i64 n) [.int .i64 64] = some (.int .i64 n) := by
  simp only [maxA, if_true]
  congr 2
  split <;> omega
theorem min16k {n : Int} (h : n ≤ 16384) : minA (.int .i64 n) [.int .i64 16384] = some (.int .i64 n) := by
  simp only [minA, if_true]
  congr 2
  split <;> omega
theorem cellsB_nil : cellsB [] = List.replicate 64 (.int .u8 0) := by kernel_rfl
theorem cellsL_zero (n : Nat) : (List.replicate n (List.replicate 64 (AV.int .u8 0))).flatten = cellsL (List.replicate n []) := by
  show _ = ((List.replicate n []).map cellsB).flatten
  rw [List.map_replicate, cellsB_nil]
theorem d_NewEnd {n : Nat} (n0 : 64 ≤ n) {h H1 : Heap} (hn9 : H1.next = h.next + 1 + 1 + 1) (hg9 : ∀ id, H1.get id = if id = h.next + 1 then some (.cells [.slice h.next 0 n n true 64, .nilsl, .map (h.next + 1 + 1), .int .i64 (-1), .bool false, .int .i64 0] false) else if id = h.next + 1 + 1 then some (.map []) else ((h.alloc (.cells (cellsL (List.replicate n [])) false)).alloc (.cells [.slice h.next 0 n n true 64, .nilsl, .nilmap, .int .i64 (-1), .bool false, .int .i64 0] false)).get id) : Grow h H1 ∧ ∃ p S, (AV.tuple [.ptr (h.next + 1) 0, .int .i64 0]) = .tuple [.ptr p 0, .int .i64 0] ∧ DkAt H1 p S (List.replicate n []) [] [] (-1) false 0 ∧ h.next ≤ p ∧ ∀ x ∈ S, h.next ≤ x := by
  refine ⟨⟨by omega, fun j hj => ?_⟩, h.next + 1, [h.next + 1, h.next, h.next + 1 + 1], rfl, ⟨h.next, true, h.next + 1 + 1, .nilsl, by rw [hg9, if_pos rfl, List.length_replicate], ?_, by rw [hg9, if_neg qo, if_pos rfl]; rfl, OwC.nil, by omega, .inl rfl, rfl, keysY_nil _, rfl⟩, by omega, fun x hx => ?_⟩
  · rw [hg9, if_neg qo, if_neg qo, Heap.get_alloc, if_neg (by simp only [nx_alloc]; omega), Heap.get_alloc, if_neg qo]
  · rw [hg9, if_neg qo, if_neg qo, Heap.get_alloc, if_neg (by simp only [nx_alloc]; omega), Heap.get_alloc, if_pos rfl]
  · simp only [List.mem_cons, List.not_mem_nil, or_false] at hx
    omega
theorem t7 : tab 7 = some ⟨17, [.tmp 2, .tmp 3], b7⟩ := rfl
theorem d_New {n : Nat} (n0 : 64 ≤ n) (n1 : n ≤ 16384) (h : Heap) : Runs (xcall X1 tab (.fn 7) [.int .i64 (n : Nat)] h) fun v h' => Grow h h' ∧ ∃ p S, v = .tuple [.ptr p 0, .int .i64 0] ∧ DkAt h' p S (List.replicate n []) [] [] (-1) false 0 ∧ h.next ≤ p ∧ ∀ x ∈ S, h.next ≤ x := by
  refine Runs.intro fun K hK => ?_
  have e1 := max64 (n := (n : Nat)) qo
  have e2 := min16k (n := (n : Nat)) qo
  have e3 := cellsL_zero n
  simp only [List.replicate] at e3
  rw [w_fn rfl t7 (Nat.le_of_ble_eq_true rfl)]
  delta b7
  repeat' (first
    | simp (disch := first | exact qd | fail) only [WB, ↓WP, ↓WL, WR, WC, if_true, if_false, ite_true, ite_false, aop, ev, evs, readsA, List.replicate, numF, unA, resA, tupA, loadA, storeA, splice, fillA, kindsOk, plainEq, ↓reduceIte, Nat.reduceEqDiff, Nat.reduceLT, Int.reduceToNat, Int.reduceBEq, Int.reduceBNe, Nat.reduceAdd, Nat.reduceMul, Nat.reduceLeDiff, Int.reduceLT, Int.reduceSub, Int.reduceAdd, e1, e2, e3, Int.reduceNeg]
    | ((first | refine atC ?_ ?_ | refine atG ?_ ?_ | refine atH ?_ ?_ | refine atP ?_ ?_) <;> intro hc <;> (try rw [hc]) <;> (try simp only [BD] at hc) <;> try (exfalso; omega))
    | ((first
      | (refine Runs.call (d_empty (d := h.next + 1) (lv := .slice h.next 0 n n true 64) (q := .nilsl) (mv := .nilmap) (l := .int .i64 (-1)) (gn := .bool false) (wk := .int .i64 0) qs rfl rfl rfl rfl) ?_; rintro _ H1 ⟨rfl, hn9, hg9⟩; simp only [nx_alloc] at hn9 hg9)
      | fail); all_goals ((try (have gn := gr.1; try simp only [nx_alloc, nx_set] at gn)); (try (have an := ha.num; try simp only [nx_alloc, nx_set, own_sl, own_nil] at an)); (try (have on := hO.num; try simp only [nx_alloc, nx_set] at on)); (try (have kn := hk.1; try simp only [nx_alloc, nx_set] at kn)); try have hB := hO.at)))
  all_goals try (first
    | (refine hK _ _ ?_; exact d_NewEnd n0 hn9 hg9; done)
    | fail)
theorem Dk_reset {h h' : Heap} {p L m : Nat} {ex gone' : Bool} {qv : AV} {laid : List (List Int)} {Y W : List (Nat × List Int)} {left' work' : Int} (hn : h'.next = h.next) (h0 : h'.get p = some (.cells [.slice L 0 laid.length laid.length ex 64, qv, .map m, .int .i64 left', .bool gone', .int .i64 work'] false)) (hr : ∀ j, j ≠ p → h'.get j = h.get j) (hL : h.get L = some (.cells (cellsL laid) false)) (hm : h.get m = some (.map (Y.map encY))) (hO : OwR 65 encW 0 h qv W) (n1 : L ≠ p) (n2 : own qv = 0 ∨ (own qv - 1 ≠ p ∧ own qv - 1 ≠ L ∧ own qv - 1 ≠ m)) (hpm : p ≠ m) (hKY : keysY laid.length Y) (hqf : qv.flat = true) :
    DkAt h' p ([p, L, m] ++ qB qv) laid Y W left' gone' work' ∧ Dkf ([p, L, m] ++ qB qv) ([p, L, m] ++ qB qv) h h' :=
  ⟨⟨L, ex, m, qv, h0, (hr _ n1).trans hL, (hr _ (Ne.symm hpm)).trans hm, hO.keep (fun j hj he => hr j (fun e => by subst e; rcases n2 with e2 | e2 <;> omega)), n1, n2, rfl, hKY, hqf⟩, by omega, fun j h1 h2 => hr j (fun e => h2 (mem_S.2 (.inl e))), fun x hx => .inl hx⟩
theorem t8 : tab 8 = some ⟨24, [.tmp 4], b8⟩ := rfl
theorem d_Arm {h : Heap} {p : Nat} {S : List Nat} {laid : List (List Int)} {Y W : List (Nat × List Int)} {left work : Int} (hD : DkAt h p S laid Y W left false work) (hl : 0 < laid.length) (k : Nat) : Runs (xcall X1 tab (.fn 8) [.ptr p 0, .int .i64 (k : Nat)] h) fun v h' => v = .int .i64 0 ∧ DkAt h' p S laid Y W (if k = 0 then -1 else (k : Int)) false work ∧ Dkf S S h h' := by
  refine Runs.intro fun K hK => ?_
  obtain ⟨L, ex, m, qv, hg, hL, hm, hO, n1, n2, rfl, hKY, hqf⟩ := hD
  have hplt := Heap.lt_of_get hg
  have hLlt := Heap.lt_of_get hL
  have hmlt := Heap.lt_of_get hm
  have hqn := OwR.num hO
  have hpm : p ≠ m := fun e => by rw [e, hm] at hg; cases hg
  have hLm : L ≠ m := fun e => by rw [e, hm] at hL; cases hL
  rw [w_fn rfl t8 (Nat.le_of_ble_eq_true rfl)]
  delta b8
  repeat' (first
    | simp (disch := first | exact qd | fail) only [WB, ↓WP, ↓WL, WR, WC, if_true, if_false, ite_true, ite_false, aop, ev, evs, readsA, List.replicate, numF, unA, resA, tupA, loadA, storeA, splice, fillA, kindsOk, plainEq, ↓reduceIte, Nat.reduceEqDiff, Nat.reduceLT, Int.reduceToNat, Int.reduceBEq, Int.reduceBNe, Nat.reduceAdd, Nat.reduceMul, Nat.reduceLeDiff, Int.reduceLT, Int.reduceSub, Int.reduceAdd, hg, hqf, cells_asm, flat_asm]
    | ((first | refine atC ?_ ?_ | refine atG ?_ ?_ | refine atH ?_ ?_ | refine atP ?_ ?_) <;> intro hc <;> (try rw [hc]) <;> (try simp only [BD] at hc) <;> try (exfalso; omega))
    | ((first
      | (refine Runs.call (d_poweredF hg hl) ?_; rintro _ _ ⟨rfl, rfl⟩)
      | fail); all_goals ((try (have gn := gr.1; try simp only [nx_alloc, nx_set] at gn)); (try (have an := ha.num; try simp only [nx_alloc, nx_set, own_sl, own_nil] at an)); (try (have on := hO.num; try simp only [nx_alloc, nx_set] at on)); (try (have kn := hk.1; try simp only [nx_alloc, nx_set] at kn)); try have hB := hO.at)))
  all_goals try (first
    | (refine hK _ _ ?_; (refine ⟨rfl, Dk_reset (ex := ex) rfl ?_ (fun j hj => by first | (rw [gs_old hj, gs_old hj]; done) | (rw [gs_old hj])) hL hm hO n1 n2 hpm hKY hqf⟩; (first | (have hk : k = 0 := qo; rw [if_pos hk]; exact gs_new rfl hplt) | (have hk : ¬ k = 0 := qo; rw [if_neg hk]; exact gs_new rfl hplt) | fail)); done)
    | fail)
end Go.Proofs.Ytekbgdmemenheaa.Ya
