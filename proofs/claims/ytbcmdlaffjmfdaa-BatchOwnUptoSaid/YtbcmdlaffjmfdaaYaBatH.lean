/-
  Batch: tables of the program: Apply.
-/
import Derived.Test.YtbcmdlaffjmfdaaYaBatG
import Derived.Test.YtbcmdlaffjmfdaaYbL
namespace Go.Proofs.Ytbcmdlaffjmfdaa.Ya
open Go.Ya Go.Ya.Bat
set_option linter.unusedVariables false
set_option linter.unusedSimpArgs false
set_option maxRecDepth 100000
set_option maxHeartbeats 8000000

def restN (l : List Ro) (i : Nat) : List En := (l.drop i).map Ro.en
theorem restN_0 (l : List Ro) : restN l 0 = l.map Ro.en := rfl
theorem restN_s {l : List Ro} {i : Nat} (hi : i < l.length) : restN l i = (l.getD i default).en :: restN l (i + 1) := by
  unfold restN
  rw [List.getD_eq_getElem?_getD, List.getElem?_eq_getElem hi, List.drop_eq_getElem_cons hi]; rfl
theorem restN_end {l : List Ro} {i : Nat} (hi : l.length ≤ i) : restN l i = [] := by
  unfold restN
  rw [List.drop_eq_nil_of_le hi]; rfl
theorem cmp_neg {a b : Bs} (h : cmpI a b < 0) : lessA a b = true := (cmpI_lt a b).1 (by rcases cmpI_wf a b with q | q | q <;> omega)
theorem cmp_pos {a b : Bs} (h : 0 < cmpI a b) : lessA b a = true := (cmpI_gt a b).1 (by rcases cmpI_wf a b with q | q | q <;> omega)
theorem cmp_zero {a b : Bs} (h1 : ¬ cmpI a b < 0) (h2 : ¬ 0 < cmpI a b) : a = b := (cmpI_eq0 a b).1 qo
/-- A row is told: no change left, or it is the smaller. -/
theorem app_row {t l : List Ro} {m : List En} {i j : Nat} {A : List En} {x : Ro} (hA : A = m ++ applyP (restN t i) (restN l j)) (hi : i < t.length) (h : l.length ≤ j ∨ (j < l.length ∧ lessA (t.getD i default).key (l.getD j default).key = true)) (hg : (t.getD i default).gone = false) (hx : x.en = ⟨(t.getD i default).key, (t.getD i default).val, false⟩) : A = (m ++ [x.en]) ++ applyP (restN t (i + 1)) (restN l j) := by
  have e : (t.getD i default).en = x.en := by rw [hx]; unfold Ro.en; rw [hg]
  rw [hA, restN_s hi]
  rcases h with h | ⟨h1, h2⟩
  · rw [restN_end h, apply_nil, apply_nil, e]; simp
  · rw [restN_s h1, apply_lt h2, e]; simp
theorem app_chg {t l : List Ro} {m : List En} {i j : Nat} {A : List En} (hA : A = m ++ applyP (restN t i) (restN l j)) (hj : j < l.length) (h : t.length ≤ i ∨ (i < t.length ∧ lessA (l.getD j default).key (t.getD i default).key = true)) : A = (m ++ rowOf (l.getD j default).en) ++ applyP (restN t i) (restN l (j + 1)) := by
  rw [hA, restN_s hj]
  rcases h with h | ⟨h1, h2⟩
  · rw [restN_end h, apply_nl]; simp
  · rw [restN_s h1, apply_gt h2]; simp
theorem app_both {t l : List Ro} {m : List En} {i j : Nat} {A : List En} (hA : A = m ++ applyP (restN t i) (restN l j)) (hi : i < t.length) (hj : j < l.length) (h : (t.getD i default).key = (l.getD j default).key) : A = (m ++ rowOf (l.getD j default).en) ++ applyP (restN t (i + 1)) (restN l (j + 1)) := by
  rw [hA, restN_s hj, restN_s hi, apply_eq h]; simp
def L47_0 : SC := (.seq (.seq (.ops [⟨some 11, .mov (.t 8), none⟩, ⟨some 12, .mov (.t 0), none⟩, ⟨some 13, .len (.sl) (.t 12), none⟩, ⟨some 14, .bin (.lss) (.other) (.t 11) (.t 13), none⟩, ⟨some 15, .mov (.t 14), none⟩, ⟨some 16, .mov (.t 9), some (15, false)⟩, ⟨some 17, .mov (.t 1), some (15, false)⟩, ⟨some 18, .len (.sl) (.t 17), some (15, false)⟩, ⟨some 19, .bin (.lss) (.other) (.t 16) (.t 18), some (15, false)⟩, ⟨some 20, .pick (.t 15) (.c (.bool true)) (.t 19), none⟩]) (.cond (.t 20) .skip (.exit 0))) (.block 1 (.seq (.ops [⟨some 21, .mov (.t 1), none⟩, ⟨some 22, .len (.sl) (.t 21), none⟩, ⟨some 23, .mov (.t 9), none⟩, ⟨some 24, .bin (.sub) (.other) (.t 22) (.t 23), none⟩, ⟨some 25, .call 68 [.t 24, .c (.int (.i64) 0)], none⟩, ⟨some 26, .mov (.t 0), none⟩, ⟨some 27, .len (.sl) (.t 26), none⟩, ⟨some 28, .mov (.t 8), none⟩, ⟨some 29, .bin (.sub) (.other) (.t 27) (.t 28), none⟩, ⟨some 30, .call 68 [.t 29, .c (.int (.i64) 0)], none⟩, ⟨some 31, .bin (.sub) (.other) (.t 25) (.t 30), none⟩, ⟨some 10, .mov (.t 31), none⟩]) (.seq (.seq (.ops [⟨some 32, .mov (.t 10), none⟩, ⟨some 33, .bin (.eql) (.other) (.t 32) (.c (.int (.i64) 0)), none⟩]) (.cond (.t 33) (.ops [⟨some 34, .mov (.t 2), none⟩, ⟨some 35, .mov (.t 0), none⟩, ⟨some 36, .mov (.t 8), none⟩, ⟨some 37, .idxAddrSl 2 (.t 35) (.t 36), none⟩, ⟨some 38, .load true 2 (.t 37), none⟩, ⟨some 39, .mov (.t 1), none⟩, ⟨some 40, .mov (.t 9), none⟩, ⟨some 41, .idxAddrSl 3 (.t 39) (.t 40), none⟩, ⟨some 42, .load true 3 (.t 41), none⟩, ⟨some 43, .callV (.t 34) [.t 38, .t 42], none⟩, ⟨some 10, .mov (.t 43), none⟩]) .skip)) (.block 2 (.seq (.ops [⟨some 57, .mov (.t 10), none⟩, ⟨some 58, .bin (.lss) (.other) (.t 57) (.c (.int (.i64) 0)), none⟩, ⟨some 56, .mov (.t 58), none⟩]) (.cond (.t 56) (.seq (.ops [⟨some 59, .mov (.t 3), none⟩, ⟨some 60, .mov (.t 0), none⟩, ⟨some 61, .mov (.t 8), none⟩, ⟨some 62, .idxAddrSl 2 (.t 60) (.t 61), none⟩, ⟨some 63, .callV (.t 59) [.t 62, .c (.nilptr)], none⟩]) (.ops [⟨some 64, .mov (.t 8), none⟩, ⟨some 65, .bin (.add) (.other) (.t 64) (.c (.int (.i64) 1)), none⟩, ⟨some 8, .mov (.t 65), none⟩])) (.seq (.ops [⟨some 67, .mov (.t 10), none⟩, ⟨some 68, .bin (.gtr) (.other) (.t 67) (.c (.int (.i64) 0)), none⟩, ⟨some 66, .mov (.t 68), none⟩]) (.cond (.t 66) (.seq (.ops [⟨some 69, .mov (.t 3), none⟩, ⟨some 70, .mov (.t 1), none⟩, ⟨some 71, .mov (.t 9), none⟩, ⟨some 72, .idxAddrSl 3 (.t 70) (.t 71), none⟩, ⟨some 73, .callV (.t 69) [.c (.nilptr), .t 72], none⟩]) (.ops [⟨some 74, .mov (.t 9), none⟩, ⟨some 75, .bin (.add) (.other) (.t 74) (.c (.int (.i64) 1)), none⟩, ⟨some 9, .mov (.t 75), none⟩])) (.seq (.ops [⟨some 44, .mov (.t 3), none⟩, ⟨some 45, .mov (.t 0), none⟩, ⟨some 46, .mov (.t 8), none⟩, ⟨some 47, .idxAddrSl 2 (.t 45) (.t 46), none⟩, ⟨some 48, .mov (.t 1), none⟩, ⟨some 49, .mov (.t 9), none⟩, ⟨some 50, .idxAddrSl 3 (.t 48) (.t 49), none⟩, ⟨some 51, .callV (.t 44) [.t 47, .t 50], none⟩]) (.ops [⟨some 52, .mov (.t 8), none⟩, ⟨some 53, .bin (.add) (.other) (.t 52) (.c (.int (.i64) 1)), none⟩, ⟨some 54, .mov (.t 9), none⟩, ⟨some 55, .bin (.add) (.other) (.t 54) (.c (.int (.i64) 1)), none⟩, ⟨some 8, .mov (.t 53), none⟩, ⟨some 9, .mov (.t 55), none⟩])))))))))))
def b47 : SC := (.seq (.ops [⟨some 8, .mov (.c (.int (.i64) 0)), none⟩, ⟨some 9, .mov (.c (.int (.i64) 0)), none⟩]) (.block 0 (.loop L47_0)))
theorem t47 : tab 47 = some ⟨76, [], b47⟩ := rfl
theorem bat_besideC (t l : List Ro) {h0 h : Heap} {V W : AV} {p : Nat} (hV : RAt h0 V t) (hv : VAt h0 t) (hg : NoGo t) (hW : CAt h0 W l) (hw : VAt h0 l) (hl : t.length + l.length ≤ 100000000) (hvt : VR t) (hvl : VR l) (g : Grow h0 h) (hp : h0.next ≤ p) (hpn : p < h.next) (hgp : h.get p = some (.cells [.nilsl] false)) : Runs (xcall X1 tab (.fn 47) [V, W, .func 45 [] [], .func 48 [] [.ptr p 0]] h) fun v h' => v = .tuple [] ∧ Grow h0 h' ∧ ∃ o m, h'.get p = some (.cells [o] false) ∧ p < h'.next ∧ OwR 2 encR (p + 1) h' o m ∧ VX (p + 1) h' o m ∧ NoGo m ∧ m.length ≤ t.length + l.length ∧ m.map Ro.en = applyP (t.map Ro.en) (l.map Ro.en) := by
  refine Runs.intro fun K hK => ?_
  rw [w_fn rfl t47 (Nat.le_of_ble_eq_true rfl)]
  delta b47
  repeat' (first
    | simp (disch := first | exact qd | fail) only [WB, ↓WP, ↓WL, WR, WC, if_true, if_false, ite_true, ite_false, aop, ev, evs, readsA, List.replicate, numF, unA, resA, tupA, loadA, storeA, splice, fillA, kindsOk, plainEq, ↓reduceIte, Nat.reduceEqDiff, Nat.reduceLT, Int.reduceToNat, Int.reduceBEq, Int.reduceBNe, Nat.reduceAdd, Nat.reduceMul, Nat.reduceLeDiff, Int.reduceLT, Int.reduceSub, Int.reduceAdd, VA_ln, VA_fl, VA_cl, encR_def, encC_def]
    | ((first | refine atC ?_ ?_ | refine atG ?_ ?_ | refine atH ?_ ?_ | refine atP ?_ ?_) <;> intro hc <;> (try rw [hc]) <;> (try simp only [BD] at hc) <;> try (exfalso; omega)))
  all_goals try (first
    | (refine hK _ _ ?_; exact ⟨rfl, qg, o, m, hgp, hpn, hO, hva, hng, by omega, by rw [hA, restN_end qo, restN_end qo, apply_nil, List.append_nil]⟩; done)
    | fail)
  all_goals
    refine wloop (α := Nat × Nat × AV × (List Ro)) [0, 1, 2, 3] (fun x => [(8, .int .i64 (x.1 : Nat)), (9, .int .i64 (x.2.1 : Nat))]) (fun x H => H.get p = some (.cells [x.2.2.1] false) ∧ p < H.next ∧ OwR 2 encR (p + 1) H x.2.2.1 x.2.2.2 ∧ VX (p + 1) H x.2.2.1 x.2.2.2 ∧ NoGo x.2.2.2 ∧ Grow h0 H ∧ x.1 ≤ t.length ∧ x.2.1 ≤ l.length ∧ x.2.2.2.length ≤ x.1 + x.2.1 ∧ applyP (t.map Ro.en) (l.map Ro.en) = x.2.2.2.map Ro.en ++ applyP (restN t x.1) (restN l x.2.1)) (fun x => (t.length - x.1) + (l.length - x.2.1)) ?_ ((0, 0, .nilsl, [])) ?_ ?_
    rotate_left
    · exact qf
    · (try dsimp only)
      exact ⟨hgp, hpn, OwC.nil, VX.nil, (fun x hx => nomatch hx), g, by omega, by omega, by simp, rfl⟩
    intro x b1 H hI ih
    obtain ⟨i, j, o, m⟩ := x
    try dsimp only at hI
    obtain ⟨hgp, hpn, hO, hva, hng, g, hi, hj, hml, hA⟩ := hI
    have hvi := fun q => hvt.get (i := i) q
    have hvj := fun q => hvl.get (i := j) q
    try have gn := g.1
    refine w_unfold (by delta L47_0; rfl) ?_
    simp only [keeps_nil, keeps_cons, List.cons_append, List.nil_append, lk_cons, lk_nil, numF, Nat.reduceEqDiff, Nat.reduceAdd, Nat.zero_add, ↓reduceIte]
    repeat' (first
      | simp (disch := first | exact qd | fail) only [WB, ↓WP, ↓WL, WR, WC, if_true, if_false, ite_true, ite_false, aop, ev, evs, readsA, List.replicate, numF, unA, resA, tupA, loadA, storeA, splice, fillA, kindsOk, plainEq, ↓reduceIte, Nat.reduceEqDiff, Nat.reduceLT, Int.reduceToNat, Int.reduceBEq, Int.reduceBNe, Nat.reduceAdd, Nat.reduceMul, Nat.reduceLeDiff, Int.reduceLT, Int.reduceSub, Int.reduceAdd, VA_ln, VA_fl, VA_cl, encR_def, encC_def]
      | ((first | refine atC ?_ ?_ | refine atG ?_ ?_ | refine atH ?_ ?_ | refine atP ?_ ?_) <;> intro hc <;> (try rw [hc]) <;> (try simp only [BD] at hc) <;> try (exfalso; omega))
      | ((first
        | (refine Runs.call (cmp_int) ?_; rintro _ _ ⟨rfl, hq⟩; (rcases hq with ⟨hq, rfl⟩ | ⟨hq, rfl⟩ | ⟨hq, rfl⟩ <;> (try (exfalso; omega))))
        | (refine Runs.call (bat_Apply1 (x := t.getD i default) (y := l.getD j default) (hv.fl i qo) (hw.fl j qo)) ?_; rintro _ _ ⟨rfl, gr⟩)
        | (refine Runs.call (bat_putC (a0 := .nilptr) l hW hw qg hp qo qo (by (simp (disch := first | (refine Asm.mk ?_; assumption) | omega | (simp only [nx_alloc, nx_set, own_sl, own_nil] <;> omega) | fail) only [ga_new, ga_old, gs_new, gs_old, nx_alloc, nx_set, g_get, app_get, pok_get, get_asm, id_eq, hgp]; first | done | fail)) (hO.keep (fun j hj he => qs)) (VX.stepN hva (fun j hn hj he => qs) (.inl rfl)) qo qo) ?_; rintro v3 H3 ⟨rfl, gr3, o3, m3, hg3, hp3, hO3, hva3, hng3, hml3, hm3⟩)
        | (refine Runs.call (bat_putC (a0 := .ptr (sid V) (soff V + i * 2)) l hW hw qg hp qo qo (by (simp (disch := first | (refine Asm.mk ?_; assumption) | omega | (simp only [nx_alloc, nx_set, own_sl, own_nil] <;> omega) | fail) only [ga_new, ga_old, gs_new, gs_old, nx_alloc, nx_set, g_get, app_get, pok_get, get_asm, id_eq, hgp]; first | done | fail)) (hO.keep (fun j hj he => qs)) (VX.stepN hva (fun j hn hj he => qs) (.inl rfl)) qo qo) ?_; rintro v4 H4 ⟨rfl, gr4, o4, m4, hg4, hp4, hO4, hva4, hng4, hml4, hm4⟩)
        | (refine Runs.call (bat_putR t hV hv qg hp qo qo (by (simp (disch := first | (refine Asm.mk ?_; assumption) | omega | (simp only [nx_alloc, nx_set, own_sl, own_nil] <;> omega) | fail) only [ga_new, ga_old, gs_new, gs_old, nx_alloc, nx_set, g_get, app_get, pok_get, get_asm, id_eq, hgp]; first | done | fail)) (hO.keep (fun j hj he => qs)) (VX.stepN hva (fun j hn hj he => qs) (.inl rfl)) qo qo) ?_; rintro v2 H2 ⟨rfl, gr2, o2, x, hg2, hp2, hO2, hva2, hx⟩)
        | fail); all_goals ((try (have gn := gr.1; try simp only [nx_alloc, nx_set] at gn)); (try (have an := ha.num; try simp only [nx_alloc, nx_set, own_sl, own_nil] at an)); (try (have on := hO.num; try simp only [nx_alloc, nx_set] at on)); (try (have kn := hk.1; try simp only [nx_alloc, nx_set] at kn)); try have hB := hO.at)))
    all_goals try (first
      | exact ih ((i + 1, j, o2, m ++ [x])) _ _ _ (by ((try dsimp only); omega)) qf (by ((try dsimp only); (first | ((first | exact ⟨hg2, hp2, hO2, hva2, nogo_push hng (congrArg En.gone hx), gr2, by omega, by omega, ql, by (rw [List.map_append]; exact app_row hA qo (by first | exact .inl qo | exact .inr ⟨by omega, cmp_neg hc⟩ | fail) (hg.at i qo) hx)⟩ | exact ⟨hg3, hp3, hO3, hva3, hng3 hng, gr3, by omega, by omega, by omega, by (rw [hm3]; exact app_chg hA qo (by first | exact .inl qo | exact .inr ⟨by omega, cmp_pos hc⟩ | fail))⟩ | exact ⟨hg4, hp4, hO4, hva4, hng4 hng, gr4, by omega, by omega, by omega, by (rw [hm4]; exact app_both hA qo qo (cmp_zero qo qo))⟩ | fail)) | fail)))
      | exact ih ((i, j + 1, o3, m3)) _ _ _ (by ((try dsimp only); omega)) qf (by ((try dsimp only); (first | ((first | exact ⟨hg2, hp2, hO2, hva2, nogo_push hng (congrArg En.gone hx), gr2, by omega, by omega, ql, by (rw [List.map_append]; exact app_row hA qo (by first | exact .inl qo | exact .inr ⟨by omega, cmp_neg hc⟩ | fail) (hg.at i qo) hx)⟩ | exact ⟨hg3, hp3, hO3, hva3, hng3 hng, gr3, by omega, by omega, by omega, by (rw [hm3]; exact app_chg hA qo (by first | exact .inl qo | exact .inr ⟨by omega, cmp_pos hc⟩ | fail))⟩ | exact ⟨hg4, hp4, hO4, hva4, hng4 hng, gr4, by omega, by omega, by omega, by (rw [hm4]; exact app_both hA qo qo (cmp_zero qo qo))⟩ | fail)) | fail)))
      | exact ih ((i + 1, j + 1, o4, m4)) _ _ _ (by ((try dsimp only); omega)) qf (by ((try dsimp only); (first | ((first | exact ⟨hg2, hp2, hO2, hva2, nogo_push hng (congrArg En.gone hx), gr2, by omega, by omega, ql, by (rw [List.map_append]; exact app_row hA qo (by first | exact .inl qo | exact .inr ⟨by omega, cmp_neg hc⟩ | fail) (hg.at i qo) hx)⟩ | exact ⟨hg3, hp3, hO3, hva3, hng3 hng, gr3, by omega, by omega, by omega, by (rw [hm3]; exact app_chg hA qo (by first | exact .inl qo | exact .inr ⟨by omega, cmp_pos hc⟩ | fail))⟩ | exact ⟨hg4, hp4, hO4, hva4, hng4 hng, gr4, by omega, by omega, by omega, by (rw [hm4]; exact app_both hA qo qo (cmp_zero qo qo))⟩ | fail)) | fail)))
      | (refine hK _ _ ?_; exact ⟨rfl, qg, o, m, hgp, hpn, hO, hva, hng, by omega, by rw [hA, restN_end qo, restN_end qo, apply_nil, List.append_nil]⟩; done)
      | fail)
def b21 : SC := (.seq (.ops [⟨some 4, .box (.c (.nilsl)), none⟩, ⟨some 5, .mov (.c (.int (.i64) 0)), none⟩]) (.seq (.seq (.ops [⟨some 7, .mov (.t 0), none⟩, ⟨some 8, .call 23 [.t 7], none⟩, ⟨some 9, .un (.not) (.t 8), none⟩, ⟨some 10, .mov (.t 9), none⟩, ⟨some 11, .mov (.t 1), some (10, false)⟩, ⟨some 12, .call 14 [.t 11], some (10, false)⟩, ⟨some 13, .un (.not) (.t 12), some (10, false)⟩, ⟨some 14, .pick (.t 10) (.c (.bool true)) (.t 13), none⟩]) (.cond (.t 14) (.seq (.ops [⟨none, .store 1 (.t 4) (.c (.nilsl)), none⟩, ⟨some 5, .mov (.c (.int (.i64) 2)), none⟩]) .ret) .skip)) (.seq (.ops [⟨some 6, .mov (.c (.func 45 [] [])), none⟩]) (.seq (.ops [⟨some 15, .mov (.t 0), none⟩, ⟨some 16, .mov (.t 1), none⟩, ⟨some 17, .mov (.t 6), none⟩, ⟨some 18, .mkFunc 48 [] [.t 4], none⟩, ⟨some 19, .call 47 [.t 15, .t 16, .t 17, .t 18], none⟩]) (.seq (.ops [⟨some 20, .load false 1 (.t 4), none⟩, ⟨none, .store 1 (.t 4) (.t 20), none⟩, ⟨some 5, .mov (.c (.int (.i64) 0)), none⟩]) .ret)))))
theorem t21 : tab 21 = some ⟨21, [.cell 4 false 1, .tmp 5], b21⟩ := rfl
theorem bat_ApplyX (t l : List Ro) {h : Heap} {V W : AV} (hV : RAt h V t) (hv : VAt h t) (hg : NoGo t) (hW : CAt h W l) (hw : VAt h l) (hl : t.length + l.length ≤ 100000000) : Runs (xcall X1 tab (.fn 21) [V, W] h) fun v h' => Grow h h' ∧ ((¬ (mayP (t.map Ro.en) = true ∧ mayP (l.map Ro.en) = true) ∧ v = .tuple [.nilsl, .int .i64 2]) ∨ (mayP (t.map Ro.en) = true ∧ mayP (l.map Ro.en) = true ∧ ∃ o m, v = .tuple [o, .int .i64 0] ∧ OwR 2 encR h.next h' o m ∧ VX h.next h' o m ∧ NoGo m ∧ m.length ≤ t.length + l.length ∧ m.map Ro.en = applyP (t.map Ro.en) (l.map Ro.en))) := by
  refine Runs.intro fun K hK => ?_
  rw [w_fn rfl t21 (Nat.le_of_ble_eq_true rfl)]
  delta b21
  repeat' (first
    | simp (disch := first | exact qd | fail) only [WB, ↓WP, ↓WL, WR, WC, if_true, if_false, ite_true, ite_false, aop, ev, evs, readsA, List.replicate, numF, unA, resA, tupA, loadA, storeA, splice, fillA, kindsOk, plainEq, ↓reduceIte, Nat.reduceEqDiff, Nat.reduceLT, Int.reduceToNat, Int.reduceBEq, Int.reduceBNe, Nat.reduceAdd, Nat.reduceMul, Nat.reduceLeDiff, Int.reduceLT, Int.reduceSub, Int.reduceAdd, VA_ln, VA_fl, VA_cl, encR_def, encC_def]
    | ((first | refine atC ?_ ?_ | refine atG ?_ ?_ | refine atH ?_ ?_ | refine atP ?_ ?_) <;> intro hc <;> (try rw [hc]) <;> (try simp only [BD] at hc) <;> try (exfalso; omega))
    | ((first
      | (refine Runs.call (bat_May t (hV.grow qg) (hv.grow qg) qo hg.at) ?_; rintro _ _ ⟨rfl, gr⟩)
      | (refine Runs.call (bat_MayChange l (hW.grow qg) (hw.grow qg) qo) ?_; rintro _ _ ⟨rfl, gr⟩)
      | (refine Runs.call (bat_besideC t l (p := h.next) hV hv hg hW hw hl (may_VR (by assumption)) (may_VR (by assumption)) qg (Nat.le_refl _) ql qs) ?_; rintro v3 H3 ⟨rfl, gr3, o, m, hg3, hp3, hO3, hva3, hng3, hml3, hm3⟩; have on3 := OwR.num hO3; have hC3 : OwC 2 (h.next + 1) H3 o _ := hO3)
      | fail); all_goals ((try (have gn := gr.1; try simp only [nx_alloc, nx_set] at gn)); (try (have an := ha.num; try simp only [nx_alloc, nx_set, own_sl, own_nil] at an)); (try (have on := hO.num; try simp only [nx_alloc, nx_set] at on)); (try (have kn := hk.1; try simp only [nx_alloc, nx_set] at kn)); try have hB := hO.at)))
  all_goals try (first
    | (refine hK _ _ ?_; (first | exact ⟨qg, .inr ⟨by assumption, by assumption, o, m, rfl, OwC.le (hO3.keep (fun j hj he => qs)) qo, VX.le (VX.stepN hva3 (fun j hn hj he => qs) (.inl rfl)) qo, hng3, by omega, hm3⟩⟩ | exact ⟨qg, .inl ⟨fun q => (by first | (rw [q.1] at hc; exact absurd hc (by decide)) | (rw [q.2] at hc; exact absurd hc (by decide)) | fail), rfl⟩⟩ | fail); done)
    | fail)
theorem bat_Apply (t l : List Ro) {h : Heap} {V W : AV} (hV : RAt h V t) (hv : VAt h t) (hg : NoGo t) (hW : CAt h W l) (hw : VAt h l) (hl : t.length + l.length ≤ 100000000) : Runs (xcall X1 tab (.fn 21) [V, W] h) fun v h' => Grow h h' ∧ ((¬ (mayP (t.map Ro.en) = true ∧ mayP (l.map Ro.en) = true) ∧ v = .tuple [.nilsl, .int .i64 2]) ∨ (mayP (t.map Ro.en) = true ∧ mayP (l.map Ro.en) = true ∧ ∃ o m, v = .tuple [o, .int .i64 0] ∧ OwR 2 encR h.next h' o m ∧ VO h.next h' o m ∧ NoGo m ∧ m.length ≤ t.length + l.length ∧ m.map Ro.en = applyP (t.map Ro.en) (l.map Ro.en))) :=
  (bat_ApplyX t l hV hv hg hW hw hl).mono fun v h' ⟨g, q⟩ => ⟨g, q.imp id fun ⟨a, b, o, m, e, c, d, r⟩ => ⟨a, b, o, m, e, c, d.1, r⟩⟩
end Go.Proofs.Ytbcmdlaffjmfdaa.Ya

