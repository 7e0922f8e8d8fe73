/-
  Batch: what makes a table another one.
-/
import Derived.Test.YtbcmdlaffjmfdaaYaBatJ
import Derived.Test.YtbcmdlaffjmfdaaYbL
namespace Go.Proofs.Ytbcmdlaffjmfdaa.Ya
open Go.Ya Go.Ya.Bat
set_option linter.unusedVariables false
set_option linter.unusedSimpArgs false
set_option maxRecDepth 100000
set_option maxHeartbeats 8000000

def delOf (x : En) : En := ⟨x.key, [], true⟩
def newOf (y : En) : En := ⟨y.key, y.val, false⟩
/-- The changes that make a table another one. -/
def betP : List En → List En → List En
  | t, [] => t.map delOf
  | [], y :: u => newOf y :: betP [] u
  | x :: t, y :: u => if lessA x.key y.key = true then delOf x :: betP t (y :: u) else if lessA y.key x.key = true then newOf y :: betP (x :: t) u else (if x.val = y.val then [] else [newOf y]) ++ betP t u
termination_by t u => t.length + u.length
theorem bet_nil (t : List En) : betP t [] = t.map delOf := by cases t <;> rw [betP]
theorem bet_nl (y : En) (u : List En) : betP [] (y :: u) = newOf y :: betP [] u := by rw [betP]
theorem bet_lt {x y : En} {t u : List En} (h : lessA x.key y.key = true) : betP (x :: t) (y :: u) = delOf x :: betP t (y :: u) := by rw [betP, if_pos h]
theorem bet_gt {x y : En} {t u : List En} (h : lessA y.key x.key = true) : betP (x :: t) (y :: u) = newOf y :: betP (x :: t) u := by rw [betP, if_neg (by rw [less_asymm h]; decide), if_pos h]
theorem bet_eq {x y : En} {t u : List En} (h : x.key = y.key) : betP (x :: t) (y :: u) = (if x.val = y.val then [] else [newOf y]) ++ betP t u := by
  rw [betP, if_neg (by rw [h, less_irrefl]; decide), if_neg (by rw [h, less_irrefl]; decide)]
theorem b_row {t u : List Ro} {m : List En} {i j : Nat} {A : List En} {e : En} (hA : A = m ++ betP (restN t i) (restN u j)) (hi : i < t.length) (h : u.length ≤ j ∨ (j < u.length ∧ lessA (t.getD i default).key (u.getD j default).key = true)) (he : e = delOf (t.getD i default).en) : A = (m ++ [e]) ++ betP (restN t (i + 1)) (restN u j) := by
  subst he
  rw [hA, restN_s hi]
  rcases h with h | ⟨h1, h2⟩
  · rw [restN_end h, bet_nil, bet_nil]; simp
  · rw [restN_s h1, bet_lt h2]; simp
theorem b_new {t u : List Ro} {m : List En} {i j : Nat} {A : List En} (hA : A = m ++ betP (restN t i) (restN u j)) (hj : j < u.length) (h : t.length ≤ i ∨ (i < t.length ∧ lessA (u.getD j default).key (t.getD i default).key = true)) : A = (m ++ [newOf (u.getD j default).en]) ++ betP (restN t i) (restN u (j + 1)) := by
  rw [hA, restN_s hj]
  rcases h with h | ⟨h1, h2⟩
  · rw [restN_end h, bet_nl]; simp
  · rw [restN_s h1, bet_gt h2]; simp
theorem b_both {t u : List Ro} {m : List En} {i j : Nat} {A : List En} (hA : A = m ++ betP (restN t i) (restN u j)) (hi : i < t.length) (hj : j < u.length) (h : (t.getD i default).key = (u.getD j default).key) : A = (m ++ (if (t.getD i default).val = (u.getD j default).val then [] else [newOf (u.getD j default).en])) ++ betP (restN t (i + 1)) (restN u (j + 1)) := by
  rw [hA, restN_s hj, restN_s hi, bet_eq h]; simp [Ro.en]
def L55_0 : SC := (.seq (.seq (.ops [⟨some 11, .mov (.t 8), none⟩, ⟨some 12, .mov (.t 0), none⟩, ⟨some 13, .len (.sl) (.t 12), none⟩, ⟨some 14, .bin (.lss) (.other) (.t 11) (.t 13), none⟩, ⟨some 15, .mov (.t 14), none⟩, ⟨some 16, .mov (.t 9), some (15, false)⟩, ⟨some 17, .mov (.t 1), some (15, false)⟩, ⟨some 18, .len (.sl) (.t 17), some (15, false)⟩, ⟨some 19, .bin (.lss) (.other) (.t 16) (.t 18), some (15, false)⟩, ⟨some 20, .pick (.t 15) (.c (.bool true)) (.t 19), none⟩]) (.cond (.t 20) .skip (.exit 0))) (.block 1 (.seq (.ops [⟨some 21, .mov (.t 1), none⟩, ⟨some 22, .len (.sl) (.t 21), none⟩, ⟨some 23, .mov (.t 9), none⟩, ⟨some 24, .bin (.sub) (.other) (.t 22) (.t 23), none⟩, ⟨some 25, .call 68 [.t 24, .c (.int (.i64) 0)], none⟩, ⟨some 26, .mov (.t 0), none⟩, ⟨some 27, .len (.sl) (.t 26), none⟩, ⟨some 28, .mov (.t 8), none⟩, ⟨some 29, .bin (.sub) (.other) (.t 27) (.t 28), none⟩, ⟨some 30, .call 68 [.t 29, .c (.int (.i64) 0)], none⟩, ⟨some 31, .bin (.sub) (.other) (.t 25) (.t 30), none⟩, ⟨some 10, .mov (.t 31), none⟩]) (.seq (.seq (.ops [⟨some 32, .mov (.t 10), none⟩, ⟨some 33, .bin (.eql) (.other) (.t 32) (.c (.int (.i64) 0)), none⟩]) (.cond (.t 33) (.ops [⟨some 34, .mov (.t 2), none⟩, ⟨some 35, .mov (.t 0), none⟩, ⟨some 36, .mov (.t 8), none⟩, ⟨some 37, .idxAddrSl 2 (.t 35) (.t 36), none⟩, ⟨some 38, .load true 2 (.t 37), none⟩, ⟨some 39, .mov (.t 1), none⟩, ⟨some 40, .mov (.t 9), none⟩, ⟨some 41, .idxAddrSl 2 (.t 39) (.t 40), none⟩, ⟨some 42, .load true 2 (.t 41), none⟩, ⟨some 43, .callV (.t 34) [.t 38, .t 42], none⟩, ⟨some 10, .mov (.t 43), none⟩]) .skip)) (.block 2 (.seq (.ops [⟨some 57, .mov (.t 10), none⟩, ⟨some 58, .bin (.lss) (.other) (.t 57) (.c (.int (.i64) 0)), none⟩, ⟨some 56, .mov (.t 58), none⟩]) (.cond (.t 56) (.seq (.ops [⟨some 59, .mov (.t 3), none⟩, ⟨some 60, .mov (.t 0), none⟩, ⟨some 61, .mov (.t 8), none⟩, ⟨some 62, .idxAddrSl 2 (.t 60) (.t 61), none⟩, ⟨some 63, .callV (.t 59) [.t 62, .c (.nilptr)], none⟩]) (.ops [⟨some 64, .mov (.t 8), none⟩, ⟨some 65, .bin (.add) (.other) (.t 64) (.c (.int (.i64) 1)), none⟩, ⟨some 8, .mov (.t 65), none⟩])) (.seq (.ops [⟨some 67, .mov (.t 10), none⟩, ⟨some 68, .bin (.gtr) (.other) (.t 67) (.c (.int (.i64) 0)), none⟩, ⟨some 66, .mov (.t 68), none⟩]) (.cond (.t 66) (.seq (.ops [⟨some 69, .mov (.t 3), none⟩, ⟨some 70, .mov (.t 1), none⟩, ⟨some 71, .mov (.t 9), none⟩, ⟨some 72, .idxAddrSl 2 (.t 70) (.t 71), none⟩, ⟨some 73, .callV (.t 69) [.c (.nilptr), .t 72], none⟩]) (.ops [⟨some 74, .mov (.t 9), none⟩, ⟨some 75, .bin (.add) (.other) (.t 74) (.c (.int (.i64) 1)), none⟩, ⟨some 9, .mov (.t 75), none⟩])) (.seq (.ops [⟨some 44, .mov (.t 3), none⟩, ⟨some 45, .mov (.t 0), none⟩, ⟨some 46, .mov (.t 8), none⟩, ⟨some 47, .idxAddrSl 2 (.t 45) (.t 46), none⟩, ⟨some 48, .mov (.t 1), none⟩, ⟨some 49, .mov (.t 9), none⟩, ⟨some 50, .idxAddrSl 2 (.t 48) (.t 49), none⟩, ⟨some 51, .callV (.t 44) [.t 47, .t 50], none⟩]) (.ops [⟨some 52, .mov (.t 8), none⟩, ⟨some 53, .bin (.add) (.other) (.t 52) (.c (.int (.i64) 1)), none⟩, ⟨some 54, .mov (.t 9), none⟩, ⟨some 55, .bin (.add) (.other) (.t 54) (.c (.int (.i64) 1)), none⟩, ⟨some 8, .mov (.t 53), none⟩, ⟨some 9, .mov (.t 55), none⟩])))))))))))
def b55 : SC := (.seq (.ops [⟨some 8, .mov (.c (.int (.i64) 0)), none⟩, ⟨some 9, .mov (.c (.int (.i64) 0)), none⟩]) (.block 0 (.loop L55_0)))
theorem t55 : tab 55 = some ⟨76, [], b55⟩ := rfl
theorem bat_besideR (t u : List Ro) {h0 h : Heap} {V W : AV} {p : Nat} (hV : RAt h0 V t) (hv : VAt h0 t) (hW : RAt h0 W u) (hw : VAt h0 u) (hl : t.length + u.length ≤ 100000000) (hvu : VR u) (g : Grow h0 h) (hp : h0.next ≤ p) (hpn : p < h.next) (hgp : h.get p = some (.cells [.nilsl] false)) : Runs (xcall X1 tab (.fn 55) [V, W, .func 54 [] [], .func 56 [] [.ptr p 0]] h) fun v h' => v = .tuple [] ∧ Grow h0 h' ∧ ∃ o m, h'.get p = some (.cells [o] false) ∧ p < h'.next ∧ OwR 3 encC (p + 1) h' o m ∧ VX (p + 1) h' o m ∧ m.length ≤ t.length + u.length ∧ m.map Ro.en = betP (t.map Ro.en) (u.map Ro.en) := by
  refine Runs.intro fun K hK => ?_
  rw [w_fn rfl t55 (Nat.le_of_ble_eq_true rfl)]
  delta b55
  repeat' (first
    | simp (disch := first | exact qd | fail) only [WB, ↓WP, ↓WL, WR, WC, if_true, if_false, ite_true, ite_false, aop, ev, evs, readsA, List.replicate, numF, unA, resA, tupA, loadA, storeA, splice, fillA, kindsOk, plainEq, ↓reduceIte, Nat.reduceEqDiff, Nat.reduceLT, Int.reduceToNat, Int.reduceBEq, Int.reduceBNe, Nat.reduceAdd, Nat.reduceMul, Nat.reduceLeDiff, Int.reduceLT, Int.reduceSub, Int.reduceAdd, VA_ln, VA_fl, VA_cl, encR_def, encC_def]
    | ((first | refine atC ?_ ?_ | refine atG ?_ ?_ | refine atH ?_ ?_ | refine atP ?_ ?_) <;> intro hc <;> (try rw [hc]) <;> (try simp only [BD] at hc) <;> try (exfalso; omega)))
  all_goals try (first
    | (refine hK _ _ ?_; exact ⟨rfl, qg, o, m, hgp, hpn, hO, hva, by omega, by (rw [hA, restN_end qo, restN_end qo, bet_nil]; simp)⟩; done)
    | fail)
  all_goals
    refine wloop (α := Nat × Nat × AV × (List Ro)) [0, 1, 2, 3] (fun x => [(8, .int .i64 (x.1 : Nat)), (9, .int .i64 (x.2.1 : Nat))]) (fun x H => H.get p = some (.cells [x.2.2.1] false) ∧ p < H.next ∧ OwR 3 encC (p + 1) H x.2.2.1 x.2.2.2 ∧ VX (p + 1) H x.2.2.1 x.2.2.2 ∧ Grow h0 H ∧ x.1 ≤ t.length ∧ x.2.1 ≤ u.length ∧ x.2.2.2.length ≤ x.1 + x.2.1 ∧ betP (t.map Ro.en) (u.map Ro.en) = x.2.2.2.map Ro.en ++ betP (restN t x.1) (restN u x.2.1)) (fun x => (t.length - x.1) + (u.length - x.2.1)) ?_ ((0, 0, .nilsl, [])) ?_ ?_
    rotate_left
    · exact qf
    · (try dsimp only)
      exact ⟨hgp, hpn, OwC.nil, VX.nil, g, by omega, by omega, by simp, rfl⟩
    intro x b1 H hI ih
    obtain ⟨i, j, o, m⟩ := x
    try dsimp only at hI
    obtain ⟨hgp, hpn, hO, hva, g, hi, hj, hml, hA⟩ := hI
    have hvj := fun q => hvu.get (i := j) q
    try have gn := g.1
    refine w_unfold (by delta L55_0; rfl) ?_
    simp only [keeps_nil, keeps_cons, List.cons_append, List.nil_append, lk_cons, lk_nil, numF, Nat.reduceEqDiff, Nat.reduceAdd, Nat.zero_add, ↓reduceIte]
    repeat' (first
      | simp (disch := first | exact qd | fail) only [WB, ↓WP, ↓WL, WR, WC, if_true, if_false, ite_true, ite_false, aop, ev, evs, readsA, List.replicate, numF, unA, resA, tupA, loadA, storeA, splice, fillA, kindsOk, plainEq, ↓reduceIte, Nat.reduceEqDiff, Nat.reduceLT, Int.reduceToNat, Int.reduceBEq, Int.reduceBNe, Nat.reduceAdd, Nat.reduceMul, Nat.reduceLeDiff, Int.reduceLT, Int.reduceSub, Int.reduceAdd, VA_ln, VA_fl, VA_cl, encR_def, encC_def]
      | ((first | refine atC ?_ ?_ | refine atG ?_ ?_ | refine atH ?_ ?_ | refine atP ?_ ?_) <;> intro hc <;> (try rw [hc]) <;> (try simp only [BD] at hc) <;> try (exfalso; omega))
      | ((first
        | (refine Runs.call (cmp_int) ?_; rintro _ _ ⟨rfl, hq⟩; (rcases hq with ⟨hq, rfl⟩ | ⟨hq, rfl⟩ | ⟨hq, rfl⟩ <;> (try (exfalso; omega))))
        | (refine Runs.call (bat_Between1 (x := t.getD i default) (y := u.getD j default) (hv.fl i qo) (hw.fl j qo)) ?_; rintro _ _ ⟨rfl, gr⟩)
        | (refine Runs.call (bat_putD t hV hv qg hp qo qo (by (simp (disch := first | (refine Asm.mk ?_; assumption) | omega | (simp only [nx_alloc, nx_set, own_sl, own_nil] <;> omega) | fail) only [ga_new, ga_old, gs_new, gs_old, nx_alloc, nx_set, g_get, app_get, pok_get, get_asm, id_eq, hgp]; first | done | fail)) (hO.keep (fun j hj he => qs)) (VX.stepN hva (fun j hn hj he => qs) (.inl rfl)) qo) ?_; rintro v2 H2 ⟨rfl, gr2, o2, x, hg2, hp2, hO2, hva2, hx⟩)
        | (refine Runs.call (bat_putN t u (i := 0) hV hv hW hw qg hp qo qo (by (simp (disch := first | (refine Asm.mk ?_; assumption) | omega | (simp only [nx_alloc, nx_set, own_sl, own_nil] <;> omega) | fail) only [ga_new, ga_old, gs_new, gs_old, nx_alloc, nx_set, g_get, app_get, pok_get, get_asm, id_eq, hgp]; first | done | fail)) (hO.keep (fun j hj he => qs)) (VX.stepN hva (fun j hn hj he => qs) (.inl rfl)) qo qo) ?_; rintro v3 H3 ⟨rfl, gr3, o3, m3, hg3, hp3, hO3, hva3, hml3, hm3⟩)
        | (refine Runs.call (bat_putB t u hV hv hW hw qg hp qo qo qo (by (simp (disch := first | (refine Asm.mk ?_; assumption) | omega | (simp only [nx_alloc, nx_set, own_sl, own_nil] <;> omega) | fail) only [ga_new, ga_old, gs_new, gs_old, nx_alloc, nx_set, g_get, app_get, pok_get, get_asm, id_eq, hgp]; first | done | fail)) (hO.keep (fun j hj he => qs)) (VX.stepN hva (fun j hn hj he => qs) (.inl rfl)) qo qo) ?_; rintro v4 H4 ⟨rfl, gr4, o4, m4, hg4, hp4, hO4, hva4, hml4, hm4⟩)
        | fail); all_goals ((try (have gn := gr.1; try simp only [nx_alloc, nx_set] at gn)); (try (have an := ha.num; try simp only [nx_alloc, nx_set, own_sl, own_nil] at an)); (try (have on := hO.num; try simp only [nx_alloc, nx_set] at on)); (try (have kn := hk.1; try simp only [nx_alloc, nx_set] at kn)); try have hB := hO.at)))
    all_goals try (first
      | exact ih ((i + 1, j, o2, m ++ [x])) _ _ _ (by ((try dsimp only); omega)) qf (by ((try dsimp only); (first | ((first | exact ⟨hg2, hp2, hO2, hva2, gr2, by omega, by omega, ql, by (rw [List.map_append]; exact b_row hA qo (by first | exact .inl qo | exact .inr ⟨by omega, cmp_neg hc⟩ | fail) hx)⟩ | exact ⟨hg3, hp3, hO3, hva3, gr3, by omega, by omega, by omega, by (rw [hm3]; exact b_new hA qo (by first | exact .inl qo | exact .inr ⟨by omega, cmp_pos hc⟩ | fail))⟩ | exact ⟨hg4, hp4, hO4, hva4, gr4, by omega, by omega, by omega, by (rw [hm4]; exact b_both hA qo qo (cmp_zero qo qo))⟩ | fail)) | fail)))
      | exact ih ((i, j + 1, o3, m3)) _ _ _ (by ((try dsimp only); omega)) qf (by ((try dsimp only); (first | ((first | exact ⟨hg2, hp2, hO2, hva2, gr2, by omega, by omega, ql, by (rw [List.map_append]; exact b_row hA qo (by first | exact .inl qo | exact .inr ⟨by omega, cmp_neg hc⟩ | fail) hx)⟩ | exact ⟨hg3, hp3, hO3, hva3, gr3, by omega, by omega, by omega, by (rw [hm3]; exact b_new hA qo (by first | exact .inl qo | exact .inr ⟨by omega, cmp_pos hc⟩ | fail))⟩ | exact ⟨hg4, hp4, hO4, hva4, gr4, by omega, by omega, by omega, by (rw [hm4]; exact b_both hA qo qo (cmp_zero qo qo))⟩ | fail)) | fail)))
      | exact ih ((i + 1, j + 1, o4, m4)) _ _ _ (by ((try dsimp only); omega)) qf (by ((try dsimp only); (first | ((first | exact ⟨hg2, hp2, hO2, hva2, gr2, by omega, by omega, ql, by (rw [List.map_append]; exact b_row hA qo (by first | exact .inl qo | exact .inr ⟨by omega, cmp_neg hc⟩ | fail) hx)⟩ | exact ⟨hg3, hp3, hO3, hva3, gr3, by omega, by omega, by omega, by (rw [hm3]; exact b_new hA qo (by first | exact .inl qo | exact .inr ⟨by omega, cmp_pos hc⟩ | fail))⟩ | exact ⟨hg4, hp4, hO4, hva4, gr4, by omega, by omega, by omega, by (rw [hm4]; exact b_both hA qo qo (cmp_zero qo qo))⟩ | fail)) | fail)))
      | (refine hK _ _ ?_; exact ⟨rfl, qg, o, m, hgp, hpn, hO, hva, by omega, by (rw [hA, restN_end qo, restN_end qo, bet_nil]; simp)⟩; done)
      | fail)
end Go.Proofs.Ytbcmdlaffjmfdaa.Ya

