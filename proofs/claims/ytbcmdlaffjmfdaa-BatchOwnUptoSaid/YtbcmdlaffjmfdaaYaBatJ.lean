/-
  Batch: Between of the program.
-/
import Derived.Test.YtbcmdlaffjmfdaaYaBatI
import Derived.Test.YtbcmdlaffjmfdaaYbL
namespace Go.Proofs.Ytbcmdlaffjmfdaa.Ya
open Go.Ya Go.Ya.Bat
set_option linter.unusedVariables false
set_option linter.unusedSimpArgs false
set_option maxRecDepth 100000
set_option maxHeartbeats 8000000

def b54 : SC := (.seq (.ops [⟨some 2, .box (.t 0), none⟩, ⟨some 3, .box (.t 1), none⟩, ⟨some 4, .mov (.c (.int (.i64) 0)), none⟩]) (.seq (.ops [⟨some 5, .fieldAddr 0 (.t 2), none⟩, ⟨some 6, .load false 1 (.t 5), none⟩, ⟨some 7, .fieldAddr 0 (.t 3), none⟩, ⟨some 8, .load false 1 (.t 7), none⟩, ⟨some 9, .call 46 [.t 6, .t 8], none⟩, ⟨some 4, .mov (.t 9), none⟩]) .ret))
theorem t54 : tab 54 = some ⟨10, [.tmp 4], b54⟩ := rfl
theorem bat_Between1 {x y : Ro} {h : Heap} (hxf : x.v.flat = true) (hyf : y.v.flat = true) : Runs (xcall X1 tab (.fn 54) [.agg [.str x.key, x.v], .agg [.str y.key, y.v]] h) fun v h' => v = .int .i64 (cmpI x.key y.key) ∧ Grow h h' := by
  refine Runs.intro fun K hK => ?_
  rw [w_fn rfl t54 (Nat.le_of_ble_eq_true rfl)]
  delta b54
  repeat' (first
    | simp (disch := first | exact qd | fail) only [WB, ↓WP, ↓WL, WR, WC, if_true, if_false, ite_true, ite_false, aop, ev, evs, readsA, List.replicate, numF, unA, resA, tupA, loadA, storeA, splice, fillA, kindsOk, plainEq, ↓reduceIte, Nat.reduceEqDiff, Nat.reduceLT, Int.reduceToNat, Int.reduceBEq, Int.reduceBNe, Nat.reduceAdd, Nat.reduceMul, Nat.reduceLeDiff, Int.reduceLT, Int.reduceSub, Int.reduceAdd, hxf, cells_of hxf, hyf, cells_of hyf]
    | ((first | refine atC ?_ ?_ | refine atG ?_ ?_ | refine atH ?_ ?_ | refine atP ?_ ?_) <;> intro hc <;> (try rw [hc]) <;> (try simp only [BD] at hc) <;> try (exfalso; omega))
    | ((first
      | (refine Runs.call (str_Compare) ?_; rintro _ _ ⟨rfl, rfl⟩)
      | fail); all_goals ((try (have gn := gr.1; try simp only [nx_alloc, nx_set] at gn)); (try (have an := ha.num; try simp only [nx_alloc, nx_set, own_sl, own_nil] at an)); (try (have on := hO.num; try simp only [nx_alloc, nx_set] at on)); (try (have kn := hk.1; try simp only [nx_alloc, nx_set] at kn)); try have hB := hO.at)))
  all_goals try (first
    | (refine hK _ _ ?_; exact ⟨rfl, qg⟩; done)
    | fail)
def b57 : SC := (.seq (.ops [⟨some 4, .mov (.c (.bool false)), none⟩]) (.seq (.ops [⟨some 5, .mov (.t 0), none⟩, ⟨some 6, .bytesToStr (.t 5), none⟩, ⟨some 7, .mov (.t 1), none⟩, ⟨some 8, .bytesToStr (.t 7), none⟩, ⟨some 9, .bin (.eql) (.str) (.t 6) (.t 8), none⟩, ⟨some 4, .mov (.t 9), none⟩]) .ret))
theorem t57 : tab 57 = some ⟨10, [.tmp 4], b57⟩ := rfl
theorem bytes_Equal {a b : AV} {x y : Bs} {h : Heap} (ha : BytesAt h a x) (hb : BytesAt h b y) : Runs (xcall X1 tab (.fn 57) [a, b] h) fun v h' => v = .bool (decide (x = y)) ∧ h = h' := by
  refine Runs.intro fun K hK => ?_
  rw [w_fn rfl t57 (Nat.le_of_ble_eq_true rfl)]
  delta b57
  repeat' (first
    | simp (disch := first | exact qd | fail) only [WB, ↓WP, ↓WL, WR, WC, if_true, if_false, ite_true, ite_false, aop, ev, evs, readsA, List.replicate, numF, unA, resA, tupA, loadA, storeA, splice, fillA, kindsOk, plainEq, ↓reduceIte, Nat.reduceEqDiff, Nat.reduceLT, Int.reduceToNat, Int.reduceBEq, Int.reduceBNe, Nat.reduceAdd, Nat.reduceMul, Nat.reduceLeDiff, Int.reduceLT, Int.reduceSub, Int.reduceAdd]
    | ((first | refine atC ?_ ?_ | refine atG ?_ ?_ | refine atH ?_ ?_ | refine atP ?_ ?_) <;> intro hc <;> (try rw [hc]) <;> (try simp only [BD] at hc) <;> try (exfalso; omega)))
  all_goals try (first
    | (refine hK _ _ ?_; exact ⟨by (congr 1; exact Bool.eq_iff_iff.2 (by simp)), rfl⟩; done)
    | fail)
def b56 : SC := (.seq (.seq (.ops [⟨some 5, .mov (.t 1), none⟩, ⟨some 6, .bin (.eql) (.ptr) (.t 5) (.c (.nilptr)), none⟩]) (.cond (.t 6) (.seq (.drawOps [⟨some 7, .load false 1 (.t 2), none⟩, ⟨some 8, .mov (.t 0), none⟩, ⟨some 9, .nilChk (.t 8), none⟩, ⟨some 10, .fieldAddr 0 (.t 9), none⟩, ⟨some 11, .load false 1 (.t 10), none⟩, ⟨some 12, .build [.str [], .nilsl, .bool false] [(0, 1, .t 11), (2, 1, .c (.bool true))], none⟩, ⟨some 13, .buildSlice [.str [], .nilsl, .bool false] 1 3 [(0, 3, .t 12)], none⟩, ⟨some 14, .append 3 48 (.t 7) (.t 13), none⟩, ⟨none, .store 1 (.t 2) (.t 14), none⟩] [(0, 6)]) .ret) .skip)) (.seq (.ops [⟨some 15, .mov (.t 0), none⟩, ⟨some 16, .bin (.eql) (.ptr) (.t 15) (.c (.nilptr)), none⟩, ⟨some 17, .mov (.t 16), none⟩, ⟨some 18, .mov (.t 0), some (17, false)⟩, ⟨some 19, .nilChk (.t 18), some (17, false)⟩, ⟨some 20, .fieldAddr 1 (.t 19), some (17, false)⟩, ⟨some 21, .load false 1 (.t 20), some (17, false)⟩, ⟨some 22, .mov (.t 1), some (17, false)⟩, ⟨some 23, .nilChk (.t 22), some (17, false)⟩, ⟨some 24, .fieldAddr 1 (.t 23), some (17, false)⟩, ⟨some 25, .load false 1 (.t 24), some (17, false)⟩, ⟨some 26, .call 57 [.t 21, .t 25], some (17, false)⟩, ⟨some 27, .un (.not) (.t 26), some (17, false)⟩, ⟨some 28, .pick (.t 17) (.c (.bool true)) (.t 27), none⟩]) (.cond (.t 28) (.drawOps [⟨some 29, .load false 1 (.t 2), none⟩, ⟨some 30, .mov (.t 1), none⟩, ⟨some 31, .nilChk (.t 30), none⟩, ⟨some 32, .fieldAddr 0 (.t 31), none⟩, ⟨some 33, .load false 1 (.t 32), none⟩, ⟨some 34, .mov (.t 1), none⟩, ⟨some 35, .nilChk (.t 34), none⟩, ⟨some 36, .fieldAddr 1 (.t 35), none⟩, ⟨some 37, .load false 1 (.t 36), none⟩, ⟨some 38, .call 49 [.t 37], none⟩, ⟨some 39, .build [.str [], .nilsl, .bool false] [(0, 1, .t 33), (1, 1, .t 38)], none⟩, ⟨some 40, .buildSlice [.str [], .nilsl, .bool false] 1 3 [(0, 3, .t 39)], none⟩, ⟨some 41, .append 3 48 (.t 29) (.t 40), none⟩, ⟨none, .store 1 (.t 2) (.t 41), none⟩] [(0, 9), (0, 11), (4, 9)]) .skip)))
theorem t56 : tab 56 = some ⟨42, [], b56⟩ := rfl
theorem bat_putD (t : List Ro) {m : List Ro} {h0 h : Heap} {V o : AV} {i p : Nat} (hV : RAt h0 V t) (hv : VAt h0 t) (g : Grow h0 h) (hp : h0.next ≤ p) (hpn : p < h.next) (hi : i < t.length) (hgp : h.get p = some (.cells [o] false)) (hO : OwR 3 encC (p + 1) h o m) (hva : VX (p + 1) h o m) (hm : m.length ≤ 100000000) : Runs (xcall X1 tab (.fn 56) [.ptr (sid V) (soff V + i * 2), .nilptr, .ptr p 0] h) fun v h' => v = .tuple [] ∧ Grow h0 h' ∧ ∃ o' x, h'.get p = some (.cells [o'] false) ∧ p < h'.next ∧ OwR 3 encC (p + 1) h' o' (m ++ [x]) ∧ VX (p + 1) h' o' (m ++ [x]) ∧ x.en = ⟨(t.getD i default).key, [], true⟩ := by
  refine Runs.intro fun K hK => ?_
  have on := OwR.num hO
  have hfl := OwR.fl hO
  have hcl := cells_of hfl
  rw [w_fn rfl t56 (Nat.le_of_ble_eq_true rfl)]
  delta b56
  repeat' (first
    | simp (disch := first | exact qd | fail) only [WB, ↓WP, ↓WL, WR, WC, if_true, if_false, ite_true, ite_false, aop, ev, evs, readsA, List.replicate, numF, unA, resA, tupA, loadA, storeA, splice, fillA, kindsOk, plainEq, ↓reduceIte, Nat.reduceEqDiff, Nat.reduceLT, Int.reduceToNat, Int.reduceBEq, Int.reduceBNe, Nat.reduceAdd, Nat.reduceMul, Nat.reduceLeDiff, Int.reduceLT, Int.reduceSub, Int.reduceAdd, VA_ln, VA_fl, VA_cl, encR_def, chk_R, hgp, hfl, hcl, pn1, pn2, pe1, pe2]
    | ((first | refine atC ?_ ?_ | refine atG ?_ ?_ | refine atH ?_ ?_ | refine atP ?_ ?_) <;> intro hc <;> (try rw [hc]) <;> (try simp only [BD] at hc) <;> try (exfalso; omega))
    | ((first
      | (refine Runs.call (OwR.push encC_len qo (hO.keep (fun j hj he => qs)) ql (a := ⟨(t.getD i default).key, .nilsl, [], true⟩) (ga_new rfl) rfl qo) ?_; rintro o2 H2 ⟨hO2, ha⟩; have on2 := OwR.num hO2; have hC2 : OwC 3 (p + 1) H2 o2 _ := hO2)
      | fail); all_goals ((try (have gn := gr.1; try simp only [nx_alloc, nx_set] at gn)); (try (have an := ha.num; try simp only [nx_alloc, nx_set, own_sl, own_nil] at an)); (try (have on := hO.num; try simp only [nx_alloc, nx_set] at on)); (try (have kn := hk.1; try simp only [nx_alloc, nx_set] at kn)); try have hB := hO.at)))
  all_goals try (first
    | (refine hK _ _ ?_; exact ⟨rfl, qg, o2, ⟨(t.getD i default).key, .nilsl, [], true⟩, qs, by (simp only [nx_set]; omega), hO2.keep (fun j hj he => qs), VX.push (VX.stepN hva (fun j hn hj he => qs) qo) OwC.nil (.inl rfl) (fun _ _ _ _ _ _ q => nomatch q), rfl⟩; done)
    | fail)
theorem bat_putN (t u : List Ro) {m : List Ro} {h0 h : Heap} {V W o : AV} {i j p : Nat} (hV : RAt h0 V t) (hv : VAt h0 t) (hW : RAt h0 W u) (hw : VAt h0 u) (g : Grow h0 h) (hp : h0.next ≤ p) (hpn : p < h.next) (hj : j < u.length) (hgp : h.get p = some (.cells [o] false)) (hO : OwR 3 encC (p + 1) h o m) (hva : VX (p + 1) h o m) (hm : m.length ≤ 100000000) (hvj : (u.getD j default).val.length ≤ 100000000) : Runs (xcall X1 tab (.fn 56) [.nilptr, .ptr (sid W) (soff W + j * 2), .ptr p 0] h) fun v h' => v = .tuple [] ∧ Grow h0 h' ∧ ∃ o' m', h'.get p = some (.cells [o'] false) ∧ p < h'.next ∧ OwR 3 encC (p + 1) h' o' m' ∧ VX (p + 1) h' o' m' ∧ m'.length ≤ m.length + 1 ∧ m'.map Ro.en = m.map Ro.en ++ [⟨(u.getD j default).key, (u.getD j default).val, false⟩] := by
  refine Runs.intro fun K hK => ?_
  have on := OwR.num hO
  have hfl := OwR.fl hO
  have hcl := cells_of hfl
  rw [w_fn rfl t56 (Nat.le_of_ble_eq_true rfl)]
  delta b56
  repeat' (first
    | simp (disch := first | exact qd | fail) only [WB, ↓WP, ↓WL, WR, WC, if_true, if_false, ite_true, ite_false, aop, ev, evs, readsA, List.replicate, numF, unA, resA, tupA, loadA, storeA, splice, fillA, kindsOk, plainEq, ↓reduceIte, Nat.reduceEqDiff, Nat.reduceLT, Int.reduceToNat, Int.reduceBEq, Int.reduceBNe, Nat.reduceAdd, Nat.reduceMul, Nat.reduceLeDiff, Int.reduceLT, Int.reduceSub, Int.reduceAdd, VA_ln, VA_fl, VA_cl, encR_def, chk_R, hgp, hfl, hcl, pn1, pn2, pe1, pe2]
    | ((first | refine atC ?_ ?_ | refine atG ?_ ?_ | refine atH ?_ ?_ | refine atP ?_ ?_) <;> intro hc <;> (try rw [hc]) <;> (try simp only [BD] at hc) <;> try (exfalso; omega))
    | ((first
      | (refine Runs.call (bytes_Clone ((hw.get hj).grow qg) qo) ?_; rintro w1 H1 ⟨gr, hn1, hz⟩; have hO1 := hn1.own (Nat.le_refl _); have on1 := hO1.num; have hf1 := hO1.fl; have hc1 := cells_of hf1)
      | (refine Runs.call (OwR.push encC_len qo (hO.keep (fun j hj he => qs)) ql (a := ⟨(u.getD j default).key, w1, (u.getD j default).val, false⟩) (ga_new rfl) rfl qo) ?_; rintro o2 H2 ⟨hO2, ha⟩; have on2 := OwR.num hO2; have hC2 : OwC 3 (p + 1) H2 o2 _ := hO2)
      | fail); all_goals ((try (have gn := gr.1; try simp only [nx_alloc, nx_set] at gn)); (try (have an := ha.num; try simp only [nx_alloc, nx_set, own_sl, own_nil] at an)); (try (have on := hO.num; try simp only [nx_alloc, nx_set] at on)); (try (have kn := hk.1; try simp only [nx_alloc, nx_set] at kn)); try have hB := hO.at)))
  all_goals try (first
    | (refine hK _ _ ?_; have hW2 : OwB (p + 1) (H2.set p (.cells [o2] false)) w1 (u.getD j default).val := OwC.le (OwC.keep hO1 (fun j hj he => qs)) qo; exact ⟨rfl, qg, o2, m ++ [⟨(u.getD j default).key, w1, (u.getD j default).val, false⟩], qs, by (simp only [nx_set]; omega), hO2.keep (fun j hj he => qs), VX.push (VX.stepN hva (fun j hn hj he => qs) qo) hW2 (by show own w1 = 0 ∨ own w1 ≠ own o2; omega) (newX hn1 (fun j h1 h2 => by ((try simp only [nx_alloc, nx_set] at h1); exact qs)) ql), ql, by (rw [List.map_append]; rfl)⟩; done)
    | fail)
theorem bat_putB (t u : List Ro) {m : List Ro} {h0 h : Heap} {V W o : AV} {i j p : Nat} (hV : RAt h0 V t) (hv : VAt h0 t) (hW : RAt h0 W u) (hw : VAt h0 u) (g : Grow h0 h) (hp : h0.next ≤ p) (hpn : p < h.next) (hi : i < t.length) (hj : j < u.length) (hgp : h.get p = some (.cells [o] false)) (hO : OwR 3 encC (p + 1) h o m) (hva : VX (p + 1) h o m) (hm : m.length ≤ 100000000) (hvj : (u.getD j default).val.length ≤ 100000000) : Runs (xcall X1 tab (.fn 56) [.ptr (sid V) (soff V + i * 2), .ptr (sid W) (soff W + j * 2), .ptr p 0] h) fun v h' => v = .tuple [] ∧ Grow h0 h' ∧ ∃ o' m', h'.get p = some (.cells [o'] false) ∧ p < h'.next ∧ OwR 3 encC (p + 1) h' o' m' ∧ VX (p + 1) h' o' m' ∧ m'.length ≤ m.length + 1 ∧ m'.map Ro.en = m.map Ro.en ++ (if (t.getD i default).val = (u.getD j default).val then [] else [⟨(u.getD j default).key, (u.getD j default).val, false⟩]) := by
  refine Runs.intro fun K hK => ?_
  have on := OwR.num hO
  have hfl := OwR.fl hO
  have hcl := cells_of hfl
  rw [w_fn rfl t56 (Nat.le_of_ble_eq_true rfl)]
  delta b56
  repeat' (first
    | simp (disch := first | exact qd | fail) only [WB, ↓WP, ↓WL, WR, WC, if_true, if_false, ite_true, ite_false, aop, ev, evs, readsA, List.replicate, numF, unA, resA, tupA, loadA, storeA, splice, fillA, kindsOk, plainEq, ↓reduceIte, Nat.reduceEqDiff, Nat.reduceLT, Int.reduceToNat, Int.reduceBEq, Int.reduceBNe, Nat.reduceAdd, Nat.reduceMul, Nat.reduceLeDiff, Int.reduceLT, Int.reduceSub, Int.reduceAdd, VA_ln, VA_fl, VA_cl, encR_def, chk_R, hgp, hfl, hcl, pn1, pn2, pe1, pe2]
    | ((first | refine atC ?_ ?_ | refine atG ?_ ?_ | refine atH ?_ ?_ | refine atP ?_ ?_) <;> intro hc <;> (try rw [hc]) <;> (try simp only [BD] at hc) <;> try (exfalso; omega))
    | ((first
      | (refine Runs.call (bytes_Equal ((hv.get hi).grow qg) ((hw.get hj).grow qg)) ?_; rintro _ _ ⟨rfl, rfl⟩)
      | (refine Runs.call (bytes_Clone ((hw.get hj).grow qg) qo) ?_; rintro w1 H1 ⟨gr, hn1, hz⟩; have hO1 := hn1.own (Nat.le_refl _); have on1 := hO1.num; have hf1 := hO1.fl; have hc1 := cells_of hf1)
      | (refine Runs.call (OwR.push encC_len qo (hO.keep (fun j hj he => qs)) ql (a := ⟨(u.getD j default).key, w1, (u.getD j default).val, false⟩) (ga_new rfl) rfl qo) ?_; rintro o2 H2 ⟨hO2, ha⟩; have on2 := OwR.num hO2; have hC2 : OwC 3 (p + 1) H2 o2 _ := hO2)
      | fail); all_goals ((try (have gn := gr.1; try simp only [nx_alloc, nx_set] at gn)); (try (have an := ha.num; try simp only [nx_alloc, nx_set, own_sl, own_nil] at an)); (try (have on := hO.num; try simp only [nx_alloc, nx_set] at on)); (try (have kn := hk.1; try simp only [nx_alloc, nx_set] at kn)); try have hB := hO.at)))
  all_goals try (first
    | (refine hK _ _ ?_; (first | (have hW2 : OwB (p + 1) (H2.set p (.cells [o2] false)) w1 (u.getD j default).val := OwC.le (OwC.keep hO1 (fun j hj he => qs)) qo; exact ⟨rfl, qg, o2, m ++ [⟨(u.getD j default).key, w1, (u.getD j default).val, false⟩], qs, by (simp only [nx_set]; omega), hO2.keep (fun j hj he => qs), VX.push (VX.stepN hva (fun j hn hj he => qs) qo) hW2 (by show own w1 = 0 ∨ own w1 ≠ own o2; omega) (newX hn1 (fun j h1 h2 => by ((try simp only [nx_alloc, nx_set] at h1); exact qs)) ql), ql, by (rw [List.map_append, if_neg hc]; rfl)⟩) | exact ⟨rfl, qg, o, m, by (simp (disch := first | (refine Asm.mk ?_; assumption) | omega | (simp only [nx_alloc, nx_set, own_sl, own_nil] <;> omega) | fail) only [ga_new, ga_old, gs_new, gs_old, nx_alloc, nx_set, g_get, app_get, pok_get, get_asm, id_eq, hgp]; first | done | fail), ql, hO.keep (fun j hj he => qs), VX.stepN hva (fun j hn hj he => qs) qo, by omega, by rw [if_pos hc, List.append_nil]⟩ | fail); done)
    | fail)
end Go.Proofs.Ytbcmdlaffjmfdaa.Ya

