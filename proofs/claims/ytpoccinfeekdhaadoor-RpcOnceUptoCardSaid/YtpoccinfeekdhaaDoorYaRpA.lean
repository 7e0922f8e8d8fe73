/-
  Lines: what is out, walked.
-/
import Derived.Test.YtpoccinfeekdhaaDoorYaCaE
import Derived.Test.YtpoccinfeekdhaaDoorYbL
import Derived.Test.YtpoccinfeekdhaaDoorYaBkJ
import Derived.Test.YtpoccinfeekdhaaDoorYaLStd
namespace Go.Proofs.YtpoccinfeekdhaaDoor.Ya
open Go.Ya Go.Ya.Na
set_option linter.unusedVariables false
set_option linter.unusedSimpArgs false
set_option maxRecDepth 100000
set_option maxHeartbeats 8000000
theorem t14 : tab 14 = some ⟨12, [.tmp 2], b14⟩ := rfl
theorem wq0 : IntKind.i64.wrap ((-1 : Int).tdiv 2) = 0 := by decide
theorem l_none {h : Heap} {p : Nat} {cl inc sq : Int} {o : AV} (hg : h.get p = some (.cells [.int .u8 cl, .int .u32 inc, .int .u64 sq, o] false)) : Runs (xcall X1 tab (.fn 14) [.ptr p 0] h) fun v h' => v = .bool (inc == 0) ∧ h = h' := by
  refine Runs.intro fun K hK => ?_
  rw [w_fn rfl t14 (Nat.le_of_ble_eq_true rfl)]
  delta b14
  repeat' (first
    | simp (disch := first | exact qd | fail) only [WB, ↓WP, ↓WL, WR, WC, if_true, if_false, ite_true, ite_false, aop, ev, evs, readsA, List.replicate, numF, unA, resA, tupA, loadA, storeA, splice, fillA, kindsOk, plainEq, ↓reduceIte, Nat.reduceEqDiff, Nat.reduceLT, Int.reduceToNat, Int.reduceBEq, Int.reduceBNe, Nat.reduceAdd, Nat.reduceMul, Nat.reduceLeDiff, Int.reduceLT, Int.reduceSub, Int.reduceAdd, hg, ptr_nn, ptr_en]
    | ((first | refine atC ?_ ?_ | refine atG ?_ ?_ | refine atH ?_ ?_ | refine atP ?_ ?_) <;> intro hc <;> (try rw [hc]) <;> (try simp only [BD] at hc) <;> try (exfalso; omega)))
  all_goals try (first
    | (refine hK _ _ ?_; exact ⟨rfl, rfl⟩; done)
    | fail)
theorem t5 : tab 5 = some ⟨16, [.tmp 4, .tmp 5], b5⟩ := rfl
theorem l_New (h : Heap) : Runs (xcall X1 tab (.fn 5) [.int .u8 1, .int .u32 7] h) fun v h' => v = .tuple [.ptr h.next 0, .int .i64 0] ∧ h.alloc (.cells [.int .u8 1, .int .u32 7, .int .u64 0, .nilsl] false) = h' := by
  refine Runs.intro fun K hK => ?_
  rw [w_fn rfl t5 (Nat.le_of_ble_eq_true rfl)]
  delta b5
  repeat' (first
    | simp (disch := first | exact qd | fail) only [WB, ↓WP, ↓WL, WR, WC, if_true, if_false, ite_true, ite_false, aop, ev, evs, readsA, List.replicate, numF, unA, resA, tupA, loadA, storeA, splice, fillA, kindsOk, plainEq, ↓reduceIte, Nat.reduceEqDiff, Nat.reduceLT, Int.reduceToNat, Int.reduceBEq, Int.reduceBNe, Nat.reduceAdd, Nat.reduceMul, Nat.reduceLeDiff, Int.reduceLT, Int.reduceSub, Int.reduceAdd]
    | ((first | refine atC ?_ ?_ | refine atG ?_ ?_ | refine atH ?_ ?_ | refine atP ?_ ?_) <;> intro hc <;> (try rw [hc]) <;> (try simp only [BD] at hc) <;> try (exfalso; omega)))
  all_goals try (first
    | (refine hK _ _ ?_; exact ⟨rfl, rfl⟩; done)
    | fail)
theorem t33 : tab 33 = some ⟨23, [], b33⟩ := rfl
theorem hp_up (h : Heap) (p : Nat) : Runs (xcall X1 tab (.fn 33) [.iface 62 (.ptr p 3), .int .i64 0] h) fun v h' => h = h' := by
  refine Runs.intro fun K hK => ?_
  rw [w_fn rfl t33 (Nat.le_of_ble_eq_true rfl)]
  delta b33
  repeat' (first
    | simp (disch := first | exact qd | fail) only [WB, ↓WP, ↓WL, WR, WC, if_true, if_false, ite_true, ite_false, aop, ev, evs, readsA, List.replicate, numF, unA, resA, tupA, loadA, storeA, splice, fillA, kindsOk, plainEq, ↓reduceIte, Nat.reduceEqDiff, Nat.reduceLT, Int.reduceToNat, Int.reduceBEq, Int.reduceBNe, Nat.reduceAdd, Nat.reduceMul, Nat.reduceLeDiff, Int.reduceLT, Int.reduceSub, Int.reduceAdd, wq0]
    | ((first | refine atC ?_ ?_ | refine atG ?_ ?_ | refine atH ?_ ?_ | refine atP ?_ ?_) <;> intro hc <;> (try rw [hc]) <;> (try simp only [BD] at hc) <;> try (exfalso; omega))
    | (refine w_roll (by delta L33_0; rfl) ?_))
  all_goals try (first
    | (refine hK _ _ ?_; exact rfl; done)
    | fail)
theorem t34 : tab 34 = some ⟨48, [.tmp 6], b34⟩ := rfl
theorem hp_down (h : Heap) (p : Nat) {k : Int} (hk : 0 ≤ k ∧ k ≤ 1) : Runs (xcall X1 tab (.fn 34) [.iface 62 (.ptr p 3), .int .i64 0, .int .i64 k] h) fun v h' => v = .bool false ∧ h = h' := by
  refine Runs.intro fun K hK => ?_
  rw [w_fn rfl t34 (Nat.le_of_ble_eq_true rfl)]
  delta b34
  repeat' (first
    | simp (disch := first | exact qd | fail) only [WB, ↓WP, ↓WL, WR, WC, if_true, if_false, ite_true, ite_false, aop, ev, evs, readsA, List.replicate, numF, unA, resA, tupA, loadA, storeA, splice, fillA, kindsOk, plainEq, ↓reduceIte, Nat.reduceEqDiff, Nat.reduceLT, Int.reduceToNat, Int.reduceBEq, Int.reduceBNe, Nat.reduceAdd, Nat.reduceMul, Nat.reduceLeDiff, Int.reduceLT, Int.reduceSub, Int.reduceAdd]
    | ((first | refine atC ?_ ?_ | refine atG ?_ ?_ | refine atH ?_ ?_ | refine atP ?_ ?_) <;> intro hc <;> (try rw [hc]) <;> (try simp only [BD] at hc) <;> try (exfalso; omega))
    | (refine w_roll (by delta L34_0; rfl) ?_))
  all_goals try (first
    | (refine hK _ _ ?_; exact ⟨rfl, rfl⟩; done)
    | fail)
theorem t101 : tab 101 = some ⟨5, [.tmp 2], b101⟩ := rfl
theorem t103 : tab 103 = some ⟨20, [], b103⟩ := rfl
theorem t104 : tab 104 = some ⟨27, [.tmp 2], b104⟩ := rfl
theorem t105 : tab 105 = some ⟨13, [], b105⟩ := rfl
theorem t20 : tab 20 = some ⟨13, [], b20⟩ := rfl
def encQ (b : Nat) : List AV := [.ptr b 0]
theorem encQ_len (b : Nat) : (encQ b).length = 1 := rfl
theorem due_Len {h : Heap} (s cap : Nat) (ex : Bool) : Runs (xcall X1 tab (.fn 101) [(.slice s 0 1 cap ex 1)] h) fun v h' => v = .int .i64 1 ∧ h = h' := by
  refine Runs.intro fun K hK => ?_
  rw [w_fn rfl t101 (Nat.le_of_ble_eq_true rfl)]
  delta b101
  repeat' (first
    | simp (disch := first | exact qd | fail) only [WB, ↓WP, ↓WL, WR, WC, if_true, if_false, ite_true, ite_false, aop, ev, evs, readsA, List.replicate, numF, unA, resA, tupA, loadA, storeA, splice, fillA, kindsOk, plainEq, ↓reduceIte, Nat.reduceEqDiff, Nat.reduceLT, Int.reduceToNat, Int.reduceBEq, Int.reduceBNe, Nat.reduceAdd, Nat.reduceMul, Nat.reduceLeDiff, Int.reduceLT, Int.reduceSub, Int.reduceAdd]
    | ((first | refine atC ?_ ?_ | refine atG ?_ ?_ | refine atH ?_ ?_ | refine atP ?_ ?_) <;> intro hc <;> (try rw [hc]) <;> (try simp only [BD] at hc) <;> try (exfalso; omega)))
  all_goals try (first
    | (refine hK _ _ ?_; exact ⟨rfl, rfl⟩; done)
    | fail)
theorem Eqv.trans {a b c : Heap} (x : Eqv a b) (y : Eqv b c) : Eqv a c := ⟨y.1.trans x.1, fun j => (y.2 j).trans (x.2 j)⟩
theorem eqv2 {h : Heap} {s : Nat} {ob : AObj} (hs : h.get s = some ob) : Eqv h ((h.set s ob).set s ob) := (Eqv.set hs).trans (Eqv.set (gs_new rfl (Heap.lt_of_get hs)))
theorem due_Swap {h : Heap} {s b cap : Nat} {ex : Bool} {rest : List AV} (hs : h.get s = some (.cells (.ptr b 0 :: rest) false)) : Runs (xcall X1 tab (.fn 103) [(.slice s 0 1 cap ex 1), .int .i64 0, .int .i64 0] h) fun v h' => Eqv h h' := by
  refine Runs.intro fun K hK => ?_
  have hlt := Heap.lt_of_get hs
  rw [w_fn rfl t103 (Nat.le_of_ble_eq_true rfl)]
  delta b103
  repeat' (first
    | simp (disch := first | exact qd | fail) only [WB, ↓WP, ↓WL, WR, WC, if_true, if_false, ite_true, ite_false, aop, ev, evs, readsA, List.replicate, numF, unA, resA, tupA, loadA, storeA, splice, fillA, kindsOk, plainEq, ↓reduceIte, Nat.reduceEqDiff, Nat.reduceLT, Int.reduceToNat, Int.reduceBEq, Int.reduceBNe, Nat.reduceAdd, Nat.reduceMul, Nat.reduceLeDiff, Int.reduceLT, Int.reduceSub, Int.reduceAdd, hs]
    | ((first | refine atC ?_ ?_ | refine atG ?_ ?_ | refine atH ?_ ?_ | refine atP ?_ ?_) <;> intro hc <;> (try rw [hc]) <;> (try simp only [BD] at hc) <;> try (exfalso; omega)))
  all_goals try (first
    | (refine hK _ _ ?_; exact eqv2 hs; done)
    | fail)
theorem hp_Fix {h : Heap} {p s b cap : Nat} {ex : Bool} {rest : List AV} {cl inc sq : Int} (hg : h.get p = some (.cells [.int .u8 cl, .int .u32 inc, .int .u64 sq, .slice s 0 1 cap ex 1] false)) (hs : h.get s = some (.cells (.ptr b 0 :: rest) false)) : Runs (xcall X1 tab (.fn 20) [.iface 62 (.ptr p 3), .int .i64 0] h) fun v h' => h = h' := by
  refine Runs.intro fun K hK => ?_
  rw [w_fn rfl t20 (Nat.le_of_ble_eq_true rfl)]
  delta b20
  repeat' (first
    | simp (disch := first | exact qd | fail) only [WB, ↓WP, ↓WL, WR, WC, if_true, if_false, ite_true, ite_false, aop, ev, evs, readsA, List.replicate, numF, unA, resA, tupA, loadA, storeA, splice, fillA, kindsOk, plainEq, ↓reduceIte, Nat.reduceEqDiff, Nat.reduceLT, Int.reduceToNat, Int.reduceBEq, Int.reduceBNe, Nat.reduceAdd, Nat.reduceMul, Nat.reduceLeDiff, Int.reduceLT, Int.reduceSub, Int.reduceAdd, hg, invA, findM, chkM]
    | ((first | refine atC ?_ ?_ | refine atG ?_ ?_ | refine atH ?_ ?_ | refine atP ?_ ?_) <;> intro hc <;> (try rw [hc]) <;> (try simp only [BD] at hc) <;> try (exfalso; omega))
    | ((first
      | (refine Runs.call (due_Len s cap ex) ?_; rintro _ _ ⟨rfl, rfl⟩)
      | (refine Runs.call (hp_down _ p (k := 1) qo) ?_; rintro _ _ ⟨rfl, rfl⟩)
      | (refine Runs.call (hp_up _ p) ?_; rintro _ _ rfl)
      | fail); all_goals ((try (have gn := gr.1; try simp only [nx_alloc, nx_set] at gn)); (try (have an := ha.num; try simp only [nx_alloc, nx_set, own_sl, own_nil] at an)); (try (have on := hO.num; try simp only [nx_alloc, nx_set] at on)); (try (have kn := hk.1; try simp only [nx_alloc, nx_set] at kn)); try have hB := hO.at)))
  all_goals try (first
    | (refine hK _ _ ?_; exact rfl; done)
    | fail)
theorem OwQ.opn {n : Nat} {H : Heap} {sl : AV} {b : Nat} (o : OwR 1 encQ n H sl [b]) : ∃ s cap ex rest, sl = .slice s 0 1 cap ex 1 ∧ n ≤ s ∧ H.get s = some (.cells (.ptr b 0 :: rest) false) := by
  rcases o with ⟨_, e⟩ | ⟨s, len, cap, ex, rest, e0, e1, e2, e3, _⟩
  · cases e
  · have : len = 1 := by simpa [encQ] using e3.symm
    subst this
    exact ⟨s, cap, ex, rest, e0, e1, e2⟩
theorem due_Push {h : Heap} {p b : Nat} {cl inc sq : Int} (hg : h.get p = some (.cells [.int .u8 cl, .int .u32 inc, .int .u64 sq, .nilsl] false)) : Runs (xcall X1 tab (.fn 105) [.ptr p 3, .iface 63 (.ptr b 0)] h) fun v h' => ∃ s cap ex rest, h.next ≤ s ∧ h'.get p = some (.cells [.int .u8 cl, .int .u32 inc, .int .u64 sq, .slice s 0 1 cap ex 1] false) ∧ h'.get s = some (.cells (.ptr b 0 :: rest) false) ∧ Pok p h h' := by
  refine Runs.intro fun K hK => ?_
  have hlt := Heap.lt_of_get hg
  rw [w_fn rfl t105 (Nat.le_of_ble_eq_true rfl)]
  delta b105
  repeat' (first
    | simp (disch := first | exact qd | fail) only [WB, ↓WP, ↓WL, WR, WC, if_true, if_false, ite_true, ite_false, aop, ev, evs, readsA, List.replicate, numF, unA, resA, tupA, loadA, storeA, splice, fillA, kindsOk, plainEq, ↓reduceIte, Nat.reduceEqDiff, Nat.reduceLT, Int.reduceToNat, Int.reduceBEq, Int.reduceBNe, Nat.reduceAdd, Nat.reduceMul, Nat.reduceLeDiff, Int.reduceLT, Int.reduceSub, Int.reduceAdd, hg, assertA]
    | ((first | refine atC ?_ ?_ | refine atG ?_ ?_ | refine atH ?_ ?_ | refine atP ?_ ?_) <;> intro hc <;> (try rw [hc]) <;> (try simp only [BD] at hc) <;> try (exfalso; omega))
    | ((first
      | (refine Runs.call (OwR.push encQ_len qo (OwR.nil (n := h.next)) (by simp only [nx_alloc]; omega) (a := b) (ga_new rfl) rfl (by simp)) ?_; rintro o2 H2 ⟨hO2, ha⟩; have g2 := App.grow ha (Grow.alloc _ _) (.inl rfl); have an2 := ha.num; clear ha; obtain ⟨s, cap, ex, rest, rfl, hs1, hs2⟩ := OwQ.opn hO2; have hg2 := g2.get hg; have hlt2 := Heap.lt_of_get hg2)
      | fail); all_goals ((try (have gn := gr.1; try simp only [nx_alloc, nx_set] at gn)); (try (have an := ha.num; try simp only [nx_alloc, nx_set, own_sl, own_nil] at an)); (try (have on := hO.num; try simp only [nx_alloc, nx_set] at on)); (try (have kn := hk.1; try simp only [nx_alloc, nx_set] at kn)); try have hB := hO.at)))
  all_goals try (first
    | (refine hK _ _ ?_; exact ⟨s, cap, ex, rest, hs1, gs_new rfl hlt2, (get_setq qo).trans hs2, (Pok.of g2).trans (Pok.set hlt2)⟩; done)
    | fail)
theorem t17 : tab 17 = some ⟨12, [], b17⟩ := rfl
theorem hp_Push {h : Heap} {p b : Nat} {cl inc sq : Int} (hg : h.get p = some (.cells [.int .u8 cl, .int .u32 inc, .int .u64 sq, .nilsl] false)) : Runs (xcall X1 tab (.fn 17) [.iface 62 (.ptr p 3), .iface 63 (.ptr b 0)] h) fun v h' => ∃ s cap ex rest, h.next ≤ s ∧ h'.get p = some (.cells [.int .u8 cl, .int .u32 inc, .int .u64 sq, .slice s 0 1 cap ex 1] false) ∧ h'.get s = some (.cells (.ptr b 0 :: rest) false) ∧ Pok p h h' := by
  refine Runs.intro fun K hK => ?_
  rw [w_fn rfl t17 (Nat.le_of_ble_eq_true rfl)]
  delta b17
  repeat' (first
    | simp (disch := first | exact qd | fail) only [WB, ↓WP, ↓WL, WR, WC, if_true, if_false, ite_true, ite_false, aop, ev, evs, readsA, List.replicate, numF, unA, resA, tupA, loadA, storeA, splice, fillA, kindsOk, plainEq, ↓reduceIte, Nat.reduceEqDiff, Nat.reduceLT, Int.reduceToNat, Int.reduceBEq, Int.reduceBNe, Nat.reduceAdd, Nat.reduceMul, Nat.reduceLeDiff, Int.reduceLT, Int.reduceSub, Int.reduceAdd, hg, invA, findM, chkM]
    | ((first | refine atC ?_ ?_ | refine atG ?_ ?_ | refine atH ?_ ?_ | refine atP ?_ ?_) <;> intro hc <;> (try rw [hc]) <;> (try simp only [BD] at hc) <;> try (exfalso; omega))
    | ((first
      | (refine Runs.call (due_Push (b := b) hg) ?_; rintro _ H1 ⟨s, cap, ex, rest, hs1, hg1, hs2, k1⟩)
      | (refine Runs.call (due_Len s cap ex) ?_; rintro _ _ ⟨rfl, rfl⟩)
      | (refine Runs.call (hp_up _ p) ?_; rintro _ _ rfl)
      | fail); all_goals ((try (have gn := gr.1; try simp only [nx_alloc, nx_set] at gn)); (try (have an := ha.num; try simp only [nx_alloc, nx_set, own_sl, own_nil] at an)); (try (have on := hO.num; try simp only [nx_alloc, nx_set] at on)); (try (have kn := hk.1; try simp only [nx_alloc, nx_set] at kn)); try have hB := hO.at)))
  all_goals try (first
    | (refine hK _ _ ?_; exact ⟨s, cap, ex, rest, hs1, hg1, hs2, k1⟩; done)
    | fail)
theorem due_Pop {h : Heap} {p s b cap : Nat} {ex : Bool} {rest : List AV} {cl inc sq : Int} (hg : h.get p = some (.cells [.int .u8 cl, .int .u32 inc, .int .u64 sq, .slice s 0 1 cap ex 1] false)) (hs : h.get s = some (.cells (.ptr b 0 :: rest) false)) : Runs (xcall X1 tab (.fn 104) [.ptr p 3] h) fun v h' => v = .iface 63 (.ptr b 0) ∧ h'.get p = some (.cells [.int .u8 cl, .int .u32 inc, .int .u64 sq, .slice s 0 0 cap ex 1] false) ∧ Pok p h h' := by
  refine Runs.intro fun K hK => ?_
  have hlt := Heap.lt_of_get hg
  rw [w_fn rfl t104 (Nat.le_of_ble_eq_true rfl)]
  delta b104
  repeat' (first
    | simp (disch := first | exact qd | fail) only [WB, ↓WP, ↓WL, WR, WC, if_true, if_false, ite_true, ite_false, aop, ev, evs, readsA, List.replicate, numF, unA, resA, tupA, loadA, storeA, splice, fillA, kindsOk, plainEq, ↓reduceIte, Nat.reduceEqDiff, Nat.reduceLT, Int.reduceToNat, Int.reduceBEq, Int.reduceBNe, Nat.reduceAdd, Nat.reduceMul, Nat.reduceLeDiff, Int.reduceLT, Int.reduceSub, Int.reduceAdd, hg, hs, Nat.reduceSub]
    | ((first | refine atC ?_ ?_ | refine atG ?_ ?_ | refine atH ?_ ?_ | refine atP ?_ ?_) <;> intro hc <;> (try rw [hc]) <;> (try simp only [BD] at hc) <;> try (exfalso; omega)))
  all_goals try (first
    | (refine hK _ _ ?_; exact ⟨rfl, gs_new rfl hlt, Pok.set hlt⟩; done)
    | fail)
theorem t28 : tab 28 = some ⟨15, [.tmp 2], b28⟩ := rfl
theorem hp_Pop {h : Heap} {p s b cap : Nat} {ex : Bool} {rest : List AV} {cl inc sq : Int} (hg : h.get p = some (.cells [.int .u8 cl, .int .u32 inc, .int .u64 sq, .slice s 0 1 cap ex 1] false)) (hs : h.get s = some (.cells (.ptr b 0 :: rest) false)) (hps : p ≠ s) : Runs (xcall X1 tab (.fn 28) [.iface 62 (.ptr p 3)] h) fun v h' => v = .iface 63 (.ptr b 0) ∧ h'.get p = some (.cells [.int .u8 cl, .int .u32 inc, .int .u64 sq, .slice s 0 0 cap ex 1] false) ∧ Pok p h h' := by
  refine Runs.intro fun K hK => ?_
  rw [w_fn rfl t28 (Nat.le_of_ble_eq_true rfl)]
  delta b28
  repeat' (first
    | simp (disch := first | exact qd | fail) only [WB, ↓WP, ↓WL, WR, WC, if_true, if_false, ite_true, ite_false, aop, ev, evs, readsA, List.replicate, numF, unA, resA, tupA, loadA, storeA, splice, fillA, kindsOk, plainEq, ↓reduceIte, Nat.reduceEqDiff, Nat.reduceLT, Int.reduceToNat, Int.reduceBEq, Int.reduceBNe, Nat.reduceAdd, Nat.reduceMul, Nat.reduceLeDiff, Int.reduceLT, Int.reduceSub, Int.reduceAdd, hg, hs, invA, findM, chkM]
    | ((first | refine atC ?_ ?_ | refine atG ?_ ?_ | refine atH ?_ ?_ | refine atP ?_ ?_) <;> intro hc <;> (try rw [hc]) <;> (try simp only [BD] at hc) <;> try (exfalso; omega))
    | ((first
      | (refine Runs.call (due_Len s cap ex) ?_; rintro _ _ ⟨rfl, rfl⟩)
      | (refine Runs.call (due_Swap hs) ?_; rintro _ H1 e1; have hg1 := (e1.2 p).trans hg; have hs1 := (e1.2 s).trans hs)
      | (refine Runs.call (hp_down _ p (k := 0) qo) ?_; rintro _ _ ⟨rfl, rfl⟩)
      | (refine Runs.call (due_Pop hg1 hs1) ?_; rintro _ H2 ⟨rfl, hg2, k2⟩)
      | fail); all_goals ((try (have gn := gr.1; try simp only [nx_alloc, nx_set] at gn)); (try (have an := ha.num; try simp only [nx_alloc, nx_set, own_sl, own_nil] at an)); (try (have on := hO.num; try simp only [nx_alloc, nx_set] at on)); (try (have kn := hk.1; try simp only [nx_alloc, nx_set] at kn)); try have hB := hO.at)))
  all_goals try (first
    | (refine hK _ _ ?_; exact ⟨rfl, hg2, Pok.trans ⟨Nat.le_of_eq e1.1.symm, fun j _ _ => e1.2 j⟩ k2⟩; done)
    | fail)
end Go.Proofs.YtpoccinfeekdhaaDoor.Ya
