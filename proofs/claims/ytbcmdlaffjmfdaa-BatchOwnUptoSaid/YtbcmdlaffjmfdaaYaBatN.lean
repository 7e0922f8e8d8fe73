/-
  Batch: Between of the document.
-/
import Derived.Test.YtbcmdlaffjmfdaaYaBatM
import Derived.Test.YtbcmdlaffjmfdaaYbL
namespace Go.Proofs.Ytbcmdlaffjmfdaa.Ya
open Go.Ya Go.Ya.Bat
set_option linter.unusedVariables false
set_option linter.unusedSimpArgs false
set_option maxRecDepth 100000
set_option maxHeartbeats 8000000

/-- The first keys of both. -/
def kN (t u : List Ro) (i : Nat) : List En := ((((t ++ u).map Ro.en).map keyE).take i).foldl stepP []
theorem kN_0 (t u : List Ro) : kN t u 0 = [] := rfl
theorem kN_s {t u : List Ro} {i : Nat} (hi : i < t.length + u.length) : kN t u (i + 1) = withP (withoutP (kN t u i) ((t ++ u).getD i default).key) ⟨((t ++ u).getD i default).key, [], false⟩ := by
  have hl : i < (((t ++ u).map Ro.en).map keyE).length := by rw [List.length_map, List.length_map, List.length_append]; exact hi
  have hl2 : i < (t ++ u).length := by rw [List.length_append]; exact hi
  unfold kN
  rw [List.take_add_one, List.getElem?_eq_getElem hl, List.foldl_append]
  simp only [Option.toList_some, List.foldl_cons, List.foldl_nil, List.getElem_map]
  rw [step_key, show (t ++ u).getD i default = (t ++ u)[i] by rw [List.getD_eq_getElem?_getD, List.getElem?_eq_getElem hl2]; rfl]; rfl
theorem kN_a {t u : List Ro} {i : Nat} (hi : i < t.length) : kN t u (i + 1) = withP (withoutP (kN t u i) (t.getD i default).key) ⟨(t.getD i default).key, [], false⟩ := by
  rw [kN_s qo, show (t ++ u).getD i default = t.getD i default by rw [List.getD_eq_getElem?_getD, List.getD_eq_getElem?_getD, List.getElem?_append_left hi]]
theorem kN_b {t u : List Ro} {i : Nat} (h1 : t.length ≤ i) (hi : i < t.length + u.length) : kN t u (i + 1) = withP (withoutP (kN t u i) (u.getD ((i : Int) - (t.length : Int)).toNat default).key) ⟨(u.getD ((i : Int) - (t.length : Int)).toNat default).key, [], false⟩ := by
  rw [kN_s hi, show (t ++ u).getD i default = u.getD ((i : Int) - (t.length : Int)).toNat default by rw [List.getD_eq_getElem?_getD, List.getD_eq_getElem?_getD, List.getElem?_append_right h1, show ((i : Int) - (t.length : Int)).toNat = i - t.length by omega]]
theorem kN_all {t u : List Ro} (h1 : mayP (t.map Ro.en) = true) (h2 : mayP (u.map Ro.en) = true) {i : Nat} (hi : t.length + u.length ≤ i) : kN t u i = applyP ((t.map Ro.en).map keyE) ((u.map Ro.en).map keyE) := by
  unfold kN
  rw [List.take_of_length_le (by rw [List.length_map, List.length_map, List.length_append]; exact hi), List.map_append]
  exact fold_keys h1 h2
/-- The changes of the first keys. -/
def cN (t u k : List Ro) (i : Nat) : List En := (enN k i).flatMap fun z => chgP (t.map Ro.en) (u.map Ro.en) z.key
theorem cN_s {t u k : List Ro} {i : Nat} (hi : i < k.length) : cN t u k (i + 1) = cN t u k i ++ chgP (t.map Ro.en) (u.map Ro.en) (k.getD i default).key := by
  unfold cN
  rw [enN_s hi, List.flatMap_append, List.flatMap_singleton]; rfl
theorem chg_no {t u : List En} {k : Bs} (hu : mayP u = true) (h : findP u k = none) : chgP t u k = [⟨k, [], true⟩] := by
  rw [findP_look hu] at h
  unfold chgP; rw [h]
theorem chg_new {t u : List En} {k w : Bs} (hu : mayP u = true) (h : findP u k = some w) (ht : mayP t = true) (h2 : findP t k = none) : chgP t u k = [⟨k, w, false⟩] := by
  rw [findP_look hu] at h
  rw [findP_look ht] at h2
  unfold chgP; rw [h, h2]; exact if_neg (fun q => nomatch q)
theorem chg_ne {t u : List En} {k w v : Bs} (hu : mayP u = true) (h : findP u k = some w) (ht : mayP t = true) (h2 : findP t k = some v) (hn : ¬ v = w) : chgP t u k = [⟨k, w, false⟩] := by
  rw [findP_look hu] at h
  rw [findP_look ht] at h2
  unfold chgP; rw [h, h2]; exact if_neg (fun q => hn (Option.some.inj q))
theorem chg_eq {t u : List En} {k w v : Bs} (hu : mayP u = true) (h : findP u k = some w) (ht : mayP t = true) (h2 : findP t k = some v) (hn : v = w) : chgP t u k = [] := by
  rw [findP_look hu] at h
  rw [findP_look ht] at h2
  unfold chgP; rw [h, h2]; exact if_pos (by rw [hn])
theorem VO.nilv {n : Nat} {H : Heap} {out : AV} {m : List Ro} {k : Bs} {g : Bool} (a : VO n H out m) : VO n H out (m ++ [⟨k, .nilsl, [], g⟩]) := a.push OwC.nil (.inl rfl)
def L27_0 : SC := (.seq (.seq (.ops [⟨some 23, .mov (.t 7), none⟩, ⟨some 24, .mov (.t 0), none⟩, ⟨some 25, .len (.sl) (.t 24), none⟩, ⟨some 26, .mov (.t 1), none⟩, ⟨some 27, .len (.sl) (.t 26), none⟩, ⟨some 28, .bin (.add) (.other) (.t 25) (.t 27), none⟩, ⟨some 29, .bin (.lss) (.other) (.t 23) (.t 28), none⟩]) (.cond (.t 29) .skip (.exit 0))) (.seq (.block 1 (.seq (.ops [⟨some 32, .build [.str [], .nilsl] [], none⟩, ⟨some 8, .box (.c (.agg [.str [], .nilsl])), none⟩, ⟨none, .store 2 (.t 8) (.t 32), none⟩]) (.seq (.seq (.ops [⟨some 33, .mov (.t 7), none⟩, ⟨some 34, .mov (.t 0), none⟩, ⟨some 35, .len (.sl) (.t 34), none⟩, ⟨some 36, .bin (.lss) (.other) (.t 33) (.t 35), none⟩]) (.cond (.t 36) (.ops [⟨some 37, .mov (.t 0), none⟩, ⟨some 38, .mov (.t 7), none⟩, ⟨some 39, .idxAddrSl 2 (.t 37) (.t 38), none⟩, ⟨some 40, .fieldAddr 0 (.t 39), none⟩, ⟨some 41, .load false 1 (.t 40), none⟩, ⟨some 42, .fieldAddr 0 (.t 8), none⟩, ⟨none, .store 1 (.t 42) (.t 41), none⟩]) (.ops [⟨some 43, .mov (.t 1), none⟩, ⟨some 44, .mov (.t 7), none⟩, ⟨some 45, .mov (.t 0), none⟩, ⟨some 46, .len (.sl) (.t 45), none⟩, ⟨some 47, .bin (.sub) (.other) (.t 44) (.t 46), none⟩, ⟨some 48, .idxAddrSl 2 (.t 43) (.t 47), none⟩, ⟨some 49, .fieldAddr 0 (.t 48), none⟩, ⟨some 50, .load false 1 (.t 49), none⟩, ⟨some 51, .fieldAddr 0 (.t 8), none⟩, ⟨none, .store 1 (.t 51) (.t 50), none⟩]))) (.drawOps [⟨some 52, .mov (.t 6), none⟩, ⟨some 53, .fieldAddr 0 (.t 8), none⟩, ⟨some 54, .load false 1 (.t 53), none⟩, ⟨some 55, .call 50 [.t 52, .t 54], none⟩, ⟨some 56, .load true 2 (.t 8), none⟩, ⟨some 57, .call 51 [.t 55, .t 56], none⟩, ⟨some 6, .mov (.t 57), none⟩] [(4, 3)])))) (.ops [⟨some 30, .mov (.t 7), none⟩, ⟨some 31, .bin (.add) (.other) (.t 30) (.c (.int (.i64) 1)), none⟩, ⟨some 7, .mov (.t 31), none⟩])))
def L27_1 : SC := (.seq (.seq (.ops [⟨some 58, .mov (.t 10), none⟩, ⟨some 59, .mov (.t 6), none⟩, ⟨some 60, .len (.sl) (.t 59), none⟩, ⟨some 61, .bin (.lss) (.other) (.t 58) (.t 60), none⟩]) (.cond (.t 61) .skip (.exit 2))) (.seq (.block 3 (.seq (.ops [⟨some 65, .mov (.t 0), none⟩, ⟨some 66, .mov (.t 6), none⟩, ⟨some 67, .mov (.t 10), none⟩, ⟨some 68, .idxAddrSl 2 (.t 66) (.t 67), none⟩, ⟨some 69, .fieldAddr 0 (.t 68), none⟩, ⟨some 70, .load false 1 (.t 69), none⟩, ⟨some 71, .call 29 [.t 65, .t 70], none⟩, ⟨some 64, .mov (.t 71), none⟩, ⟨some 72, .extract (.t 64) 0, none⟩, ⟨some 73, .extract (.t 64) 1, none⟩, ⟨some 11, .mov (.t 72), none⟩, ⟨some 12, .mov (.t 73), none⟩]) (.seq (.ops [⟨some 75, .mov (.t 1), none⟩, ⟨some 76, .mov (.t 6), none⟩, ⟨some 77, .mov (.t 10), none⟩, ⟨some 78, .idxAddrSl 2 (.t 76) (.t 77), none⟩, ⟨some 79, .fieldAddr 0 (.t 78), none⟩, ⟨some 80, .load false 1 (.t 79), none⟩, ⟨some 81, .call 29 [.t 75, .t 80], none⟩, ⟨some 74, .mov (.t 81), none⟩, ⟨some 82, .extract (.t 74) 0, none⟩, ⟨some 83, .extract (.t 74) 1, none⟩, ⟨some 13, .mov (.t 82), none⟩, ⟨some 14, .mov (.t 83), none⟩]) (.seq (.seq (.ops [⟨some 84, .mov (.t 14), none⟩, ⟨some 85, .un (.not) (.t 84), none⟩]) (.cond (.t 85) (.ops [⟨some 86, .mov (.t 9), none⟩, ⟨some 87, .mov (.t 6), none⟩, ⟨some 88, .mov (.t 10), none⟩, ⟨some 89, .idxAddrSl 2 (.t 87) (.t 88), none⟩, ⟨some 90, .fieldAddr 0 (.t 89), none⟩, ⟨some 91, .load false 1 (.t 90), none⟩, ⟨some 92, .build [.str [], .nilsl, .bool false] [(0, 1, .t 91), (2, 1, .c (.bool true))], none⟩, ⟨some 93, .buildSlice [.str [], .nilsl, .bool false] 1 3 [(0, 3, .t 92)], none⟩, ⟨some 94, .append 3 48 (.t 86) (.t 93), none⟩, ⟨some 9, .mov (.t 94), none⟩]) .skip)) (.seq (.ops [⟨some 95, .mov (.t 14), none⟩, ⟨some 96, .mov (.t 95), none⟩, ⟨some 97, .mov (.t 12), some (96, true)⟩, ⟨some 98, .un (.not) (.t 97), some (96, true)⟩, ⟨some 99, .mov (.t 98), some (96, true)⟩, ⟨some 100, .mov (.t 11), some (99, false)⟩, ⟨some 101, .mov (.t 13), some (99, false)⟩, ⟨some 102, .call 16 [.t 100, .t 101], some (99, false)⟩, ⟨some 103, .un (.not) (.t 102), some (99, false)⟩, ⟨some 104, .pick (.t 99) (.c (.bool true)) (.t 103), some (96, true)⟩, ⟨some 105, .pick (.t 96) (.t 104) (.c (.bool false)), none⟩]) (.cond (.t 105) (.ops [⟨some 106, .mov (.t 9), none⟩, ⟨some 107, .mov (.t 6), none⟩, ⟨some 108, .mov (.t 10), none⟩, ⟨some 109, .idxAddrSl 2 (.t 107) (.t 108), none⟩, ⟨some 110, .fieldAddr 0 (.t 109), none⟩, ⟨some 111, .load false 1 (.t 110), none⟩, ⟨some 112, .mov (.t 13), none⟩, ⟨some 113, .build [.str [], .nilsl, .bool false] [(0, 1, .t 111), (1, 1, .t 112)], none⟩, ⟨some 114, .buildSlice [.str [], .nilsl, .bool false] 1 3 [(0, 3, .t 113)], none⟩, ⟨some 115, .append 3 48 (.t 106) (.t 114), none⟩, ⟨some 9, .mov (.t 115), none⟩]) .skip)))))) (.ops [⟨some 62, .mov (.t 10), none⟩, ⟨some 63, .bin (.add) (.other) (.t 62) (.c (.int (.i64) 1)), none⟩, ⟨some 10, .mov (.t 63), none⟩])))
def b27 : SC := (.seq (.ops [⟨some 4, .mov (.c (.nilsl)), none⟩, ⟨some 5, .mov (.c (.int (.i64) 0)), none⟩]) (.seq (.seq (.ops [⟨some 15, .mov (.t 0), none⟩, ⟨some 16, .call 24 [.t 15], none⟩, ⟨some 17, .un (.not) (.t 16), none⟩, ⟨some 18, .mov (.t 17), none⟩, ⟨some 19, .mov (.t 1), some (18, false)⟩, ⟨some 20, .call 24 [.t 19], some (18, false)⟩, ⟨some 21, .un (.not) (.t 20), some (18, false)⟩, ⟨some 22, .pick (.t 18) (.c (.bool true)) (.t 21), none⟩]) (.cond (.t 22) (.seq (.ops [⟨some 4, .mov (.c (.nilsl)), none⟩, ⟨some 5, .mov (.c (.int (.i64) 2)), none⟩]) .ret) .skip)) (.seq (.ops [⟨some 6, .mov (.c (.nilsl)), none⟩]) (.seq (.seq (.ops [⟨some 7, .mov (.c (.int (.i64) 0)), none⟩]) (.block 0 (.loop L27_0))) (.seq (.ops [⟨some 9, .mov (.c (.nilsl)), none⟩]) (.seq (.seq (.ops [⟨some 10, .mov (.c (.int (.i64) 0)), none⟩]) (.block 2 (.loop L27_1))) (.seq (.ops [⟨some 116, .mov (.t 9), none⟩, ⟨some 4, .mov (.t 116), none⟩, ⟨some 5, .mov (.c (.int (.i64) 0)), none⟩]) .ret)))))))
theorem t27 : tab 27 = some ⟨117, [.tmp 4, .tmp 5], b27⟩ := rfl
theorem rbat_Between (t l : List Ro) {h : Heap} {V W : AV} (hV : RAt h V t) (hv : VAt h t) (hg : NoGo t) (hW : RAt h W l) (hw : VAt h l) (hgl : NoGo l) (hl : t.length + l.length ≤ 100000000) : Runs (xcall X1 tab (.fn 27) [V, W] h) fun v h' => Grow h h' ∧ ((¬ (mayP (t.map Ro.en) = true ∧ mayP (l.map Ro.en) = true) ∧ v = .tuple [.nilsl, .int .i64 2]) ∨ (mayP (t.map Ro.en) = true ∧ mayP (l.map Ro.en) = true ∧ ∃ o m, v = .tuple [o, .int .i64 0] ∧ OwR 3 encC h.next h' o m ∧ VO h.next h' o m ∧ m.map Ro.en = betP (t.map Ro.en) (l.map Ro.en))) := by
  refine Runs.intro fun K hK => ?_
  rw [w_fn rfl t27 (Nat.le_of_ble_eq_true rfl)]
  delta b27
  repeat' (first
    | simp (disch := first | exact qd | fail) only [WB, ↓WP, ↓WL, WR, WC, if_true, if_false, ite_true, ite_false, aop, ev, evs, readsA, List.replicate, numF, unA, resA, tupA, loadA, storeA, splice, fillA, kindsOk, plainEq, ↓reduceIte, Nat.reduceEqDiff, Nat.reduceLT, Int.reduceToNat, Int.reduceBEq, Int.reduceBNe, Nat.reduceAdd, Nat.reduceMul, Nat.reduceLeDiff, Int.reduceLT, Int.reduceSub, Int.reduceAdd, VA_ln, VA_fl, VA_cl, encR_def, encC_def, chk_R]
    | ((first | refine atC ?_ ?_ | refine atG ?_ ?_ | refine atH ?_ ?_ | refine atP ?_ ?_) <;> intro hc <;> (try rw [hc]) <;> (try simp only [BD] at hc) <;> try (exfalso; omega))
    | ((first
      | (refine Runs.call (rbat_May t hV hv qo hg.at) ?_; rintro _ _ ⟨rfl, rfl⟩)
      | (refine Runs.call (rbat_May l hW hw qo hgl.at) ?_; rintro _ _ ⟨rfl, rfl⟩)
      | fail); all_goals ((try (have gn := gr.1; try simp only [nx_alloc, nx_set] at gn)); (try (have an := ha.num; try simp only [nx_alloc, nx_set, own_sl, own_nil] at an)); (try (have on := hO.num; try simp only [nx_alloc, nx_set] at on)); (try (have kn := hk.1; try simp only [nx_alloc, nx_set] at kn)); try have hB := hO.at)))
  all_goals try (first
    | (refine hK _ _ ?_; (first | (obtain rfl : i = m.length := qo; exact ⟨qg, .inr ⟨by assumption, by assumption, p, q, rfl, hP, hvp, by (rw [hq]; unfold cN; rw [enN_all, hm, kN_all (t := t) (u := l) (by assumption) (by assumption) qo]; exact bet_flat (t := t.map Ro.en) (u := l.map Ro.en) (last := []) (up_of_may (by assumption)) (up_of_may (by assumption)))⟩⟩) | exact ⟨qg, .inl ⟨fun q => (by first | (rw [q.1] at hc; exact absurd hc (by decide)) | (rw [q.2] at hc; exact absurd hc (by decide)) | fail), rfl⟩⟩ | fail); done)
    | fail)
  all_goals
    refine wloop (α := Nat × AV × (List Ro)) [0, 1] (fun x => [(6, x.2.1), (7, .int .i64 (x.1 : Nat))]) (fun x H => OwR 2 encR h.next H x.2.1 x.2.2 ∧ VO h.next H x.2.1 x.2.2 ∧ NoGo x.2.2 ∧ Grow h H ∧ x.1 ≤ t.length + l.length ∧ x.2.2.length ≤ x.1 ∧ VR x.2.2 ∧ x.2.2.map Ro.en = kN t l x.1) (fun x => t.length + l.length - x.1) ?_ ((0, .nilsl, [])) ?_ ?_
    rotate_left
    · exact qf
    · (try dsimp only)
      exact ⟨OwC.nil, (fun x hx => nomatch hx), (fun x hx => nomatch hx), qg, Nat.zero_le _, Nat.zero_le _, (fun x hx => nomatch hx), rfl⟩
    intro x b1 H hI ih
    obtain ⟨i, o, m⟩ := x
    try dsimp only at hI
    obtain ⟨hO, hva, hng, g, hi, hml, hvb, hm⟩ := hI
    have on := OwR.num hO
    have hfl := OwR.fl hO
    have hcl := cells_of hfl
    try have gn := g.1
    refine w_unfold (by delta L27_0; rfl) ?_
    simp only [keeps_nil, keeps_cons, List.cons_append, List.nil_append, lk_cons, lk_nil, numF, Nat.reduceEqDiff, Nat.reduceAdd, Nat.zero_add, ↓reduceIte]
    repeat' (first
      | simp (disch := first | exact qd | fail) only [WB, ↓WP, ↓WL, WR, WC, if_true, if_false, ite_true, ite_false, aop, ev, evs, readsA, List.replicate, numF, unA, resA, tupA, loadA, storeA, splice, fillA, kindsOk, plainEq, ↓reduceIte, Nat.reduceEqDiff, Nat.reduceLT, Int.reduceToNat, Int.reduceBEq, Int.reduceBNe, Nat.reduceAdd, Nat.reduceMul, Nat.reduceLeDiff, Int.reduceLT, Int.reduceSub, Int.reduceAdd, VA_ln, VA_fl, VA_cl, encR_def, encC_def, chk_R, hfl, hcl]
      | ((first | refine atC ?_ ?_ | refine atG ?_ ?_ | refine atH ?_ ?_ | refine atP ?_ ?_) <;> intro hc <;> (try rw [hc]) <;> (try simp only [BD] at hc) <;> try (exfalso; omega))
      | ((first
        | (refine Runs.call (rbat_May t hV hv qo hg.at) ?_; rintro _ _ ⟨rfl, rfl⟩)
        | (refine Runs.call (rbat_May l hW hw qo hgl.at) ?_; rintro _ _ ⟨rfl, rfl⟩)
        | (refine Runs.call (rbat_without m (OwR.rd encR_len qo (hO.keep (fun j hj he => qs))) (hva.va.grow qg) hng qo hvb) ?_; rintro o2 H2 ⟨gr, m2, hO2, hva2, hng2, hm2⟩; have on2 := OwR.num hO2; have hfl2 := OwR.fl hO2; have hcl2 := cells_of hfl2; have hml2 := without_len hm2)
        | (refine Runs.call (rbat_with m2 (z := ⟨(t.getD i default).key, .nilsl, [], false⟩) (OwR.rd encR_len qo (hO2.grow qg)) (hva2.va.grow qg) rfl qo) ?_; rintro o3 H3 ⟨gr, hO3⟩; have on3 := OwR.num hO3; have hfl3 := OwR.fl hO3; have hcl3 := cells_of hfl3)
        | (refine Runs.call (rbat_with m2 (z := ⟨(l.getD ((i : Int) - (t.length : Int)).toNat default).key, .nilsl, [], false⟩) (OwR.rd encR_len qo (hO2.grow qg)) (hva2.va.grow qg) rfl qo) ?_; rintro o4 H4 ⟨gr, hO3⟩; have on3 := OwR.num hO3; have hfl3 := OwR.fl hO3; have hcl3 := cells_of hfl3)
        | fail); all_goals ((try (have gn := gr.1; try simp only [nx_alloc, nx_set] at gn)); (try (have an := ha.num; try simp only [nx_alloc, nx_set, own_sl, own_nil] at an)); (try (have on := hO.num; try simp only [nx_alloc, nx_set] at on)); (try (have kn := hk.1; try simp only [nx_alloc, nx_set] at kn)); try have hB := hO.at)))
    all_goals try (first
      | exact ih ((i + 1, o3, withR m2 ⟨(t.getD i default).key, .nilsl, [], false⟩)) _ _ _ (by ((try dsimp only); omega)) qf (by ((try dsimp only); (first | ((first | exact ⟨OwC.le hO3 qo, VO.with (hva2.le ql) qg qo OwC.nil (.inl rfl), withR_nogo hng2 rfl, qg, by omega, by (rw [withR_len]; omega), withR_vb (VB.ro (by rw [hm2]; exact (VB.en hvb).without _)) (by exact Nat.zero_le _), by (rw [kN_a qo, withR_en, hm2, hm]; rfl)⟩ | exact ⟨OwC.le hO3 qo, VO.with (hva2.le ql) qg qo OwC.nil (.inl rfl), withR_nogo hng2 rfl, qg, by omega, by (rw [withR_len]; omega), withR_vb (VB.ro (by rw [hm2]; exact (VB.en hvb).without _)) (by exact Nat.zero_le _), by (rw [kN_b qo qo, withR_en, hm2, hm]; rfl)⟩ | fail)) | fail)))
      | exact ih ((i + 1, o4, withR m2 ⟨(l.getD ((i : Int) - (t.length : Int)).toNat default).key, .nilsl, [], false⟩)) _ _ _ (by ((try dsimp only); omega)) qf (by ((try dsimp only); (first | ((first | exact ⟨OwC.le hO3 qo, VO.with (hva2.le ql) qg qo OwC.nil (.inl rfl), withR_nogo hng2 rfl, qg, by omega, by (rw [withR_len]; omega), withR_vb (VB.ro (by rw [hm2]; exact (VB.en hvb).without _)) (by exact Nat.zero_le _), by (rw [kN_a qo, withR_en, hm2, hm]; rfl)⟩ | exact ⟨OwC.le hO3 qo, VO.with (hva2.le ql) qg qo OwC.nil (.inl rfl), withR_nogo hng2 rfl, qg, by omega, by (rw [withR_len]; omega), withR_vb (VB.ro (by rw [hm2]; exact (VB.en hvb).without _)) (by exact Nat.zero_le _), by (rw [kN_b qo qo, withR_en, hm2, hm]; rfl)⟩ | fail)) | fail)))
      | (refine hK _ _ ?_; (first | (obtain rfl : i = m.length := qo; exact ⟨qg, .inr ⟨by assumption, by assumption, p, q, rfl, hP, hvp, by (rw [hq]; unfold cN; rw [enN_all, hm, kN_all (t := t) (u := l) (by assumption) (by assumption) qo]; exact bet_flat (t := t.map Ro.en) (u := l.map Ro.en) (last := []) (up_of_may (by assumption)) (up_of_may (by assumption)))⟩⟩) | exact ⟨qg, .inl ⟨fun q => (by first | (rw [q.1] at hc; exact absurd hc (by decide)) | (rw [q.2] at hc; exact absurd hc (by decide)) | fail), rfl⟩⟩ | fail); done)
      | fail)
  all_goals
    refine wloop (α := Nat × AV × (List Ro)) [0, 1, 6] (fun x => [(9, x.2.1), (10, .int .i64 (x.1 : Nat))]) (fun x H => OwR 3 encC h.next H x.2.1 x.2.2 ∧ VO h.next H x.2.1 x.2.2 ∧ Grow h H ∧ OwR 2 encR h.next H o m ∧ x.1 ≤ m.length ∧ x.2.2.length ≤ x.1 ∧ x.2.2.map Ro.en = cN t l m x.1 ∧ (own o = 0 ∨ own x.2.1 = 0 ∨ own o ≠ own x.2.1)) (fun x => m.length - x.1) ?_ ((0, .nilsl, [])) ?_ ?_
    rotate_left
    · exact qf
    · (try dsimp only)
      exact ⟨OwC.nil, (fun x hx => nomatch hx), qg, hO, Nat.zero_le _, Nat.zero_le _, rfl, .inr (.inl rfl)⟩
    intro x b1 H hI ih
    obtain ⟨i, p, q⟩ := x
    try dsimp only at hI
    obtain ⟨hP, hvp, g, hKO, hj, hql, hq, hne⟩ := hI
    have pn := OwR.num hP
    have kn := OwR.num hKO
    have hKr := OwR.rd encR_len qo hKO
    have pfl := OwR.fl hP
    have pcl := cells_of pfl
    have hcs := fun z => cN_s (t := t) (u := l) (k := m) (i := i) z
    try have gn := g.1
    refine w_unfold (by delta L27_1; rfl) ?_
    simp only [keeps_nil, keeps_cons, List.cons_append, List.nil_append, lk_cons, lk_nil, numF, Nat.reduceEqDiff, Nat.reduceAdd, Nat.zero_add, ↓reduceIte]
    repeat' (first
      | simp (disch := first | exact qd | fail) only [WB, ↓WP, ↓WL, WR, WC, if_true, if_false, ite_true, ite_false, aop, ev, evs, readsA, List.replicate, numF, unA, resA, tupA, loadA, storeA, splice, fillA, kindsOk, plainEq, ↓reduceIte, Nat.reduceEqDiff, Nat.reduceLT, Int.reduceToNat, Int.reduceBEq, Int.reduceBNe, Nat.reduceAdd, Nat.reduceMul, Nat.reduceLeDiff, Int.reduceLT, Int.reduceSub, Int.reduceAdd, VA_ln, VA_fl, VA_cl, encR_def, encC_def, chk_R, pfl, pcl]
      | ((first | refine atC ?_ ?_ | refine atG ?_ ?_ | refine atH ?_ ?_ | refine atP ?_ ?_) <;> intro hc <;> (try rw [hc]) <;> (try simp only [BD] at hc) <;> try (exfalso; omega))
      | ((first
        | (refine Runs.call (rbat_May t hV hv qo hg.at) ?_; rintro _ _ ⟨rfl, rfl⟩)
        | (refine Runs.call (rbat_May l hW hw qo hgl.at) ?_; rintro _ _ ⟨rfl, rfl⟩)
        | (refine Runs.call (rbat_Find t (hV.grow qg) (hv.grow qg) hg qo) ?_; rintro v1 H1 ⟨gr, hf1⟩; rcases hf1 with ⟨w1, val1, hf1, rfl, ho1⟩ | ⟨hf1, rfl⟩)
        | (refine Runs.call (rbat_Find l (hW.grow qg) (hw.grow qg) hgl qo) ?_; rintro v2 H2 ⟨gr, hf2⟩; rcases hf2 with ⟨w2, val2, hf2, rfl, ho2⟩ | ⟨hf2, rfl⟩; try (have wn2 := OwC.num ho2; have wf2 := OwC.fl ho2; have wc2 := cells_of wf2))
        | (refine Runs.call (f0_Same (ho1.at.grow qg) (ho2.at.grow qg)) ?_; rintro _ _ ⟨rfl, rfl⟩)
        | (refine Runs.call (OwR.push encC_len qo (hP.keep (fun j hj he => qs)) ql (a := ⟨(m.getD i default).key, .nilsl, [], true⟩) (ga_new rfl) rfl qo) ?_; rintro p2 H4 ⟨hP2, ha⟩; have pn2 := OwR.num hP2)
        | (refine Runs.call (OwR.push encC_len qo (hP.keep (fun j hj he => qs)) ql (a := ⟨(m.getD i default).key, w2, val2, false⟩) (ga_new rfl) rfl qo) ?_; rintro p3 H5 ⟨hP3, ha⟩; have pn3 := OwR.num hP3)
        | fail); all_goals ((try (have gn := gr.1; try simp only [nx_alloc, nx_set] at gn)); (try (have an := ha.num; try simp only [nx_alloc, nx_set, own_sl, own_nil] at an)); (try (have on := hO.num; try simp only [nx_alloc, nx_set] at on)); (try (have kn := hk.1; try simp only [nx_alloc, nx_set] at kn)); try have hB := hO.at)))
    all_goals try (first
      | exact ih ((i + 1, p2, q ++ [⟨(m.getD i default).key, .nilsl, [], true⟩])) _ _ _ (by ((try dsimp only); omega)) qf (by ((try dsimp only); (first | ((first | exact ⟨hP2, VO.push (VO.stepN hvp (fun j hn hj he => qs) qo) OwC.nil (.inl rfl), qg, hKO.keep (fun j hj he => qs), by omega, ql, by (rw [List.map_append, hq, hcs qo, chg_no (by assumption) hf2]; rfl), by omega⟩ | (have hw5 : OwB h.next H5 w2 val2 := OwC.le (OwC.keep ho2 (fun j hj he => qs)) ql; exact ⟨hP3, VO.push (VO.stepN hvp (fun j hn hj he => qs) qo) hw5 (by show own w2 = 0 ∨ own w2 ≠ own p3; omega), qg, hKO.keep (fun j hj he => qs), by omega, ql, by (rw [List.map_append, hq, hcs qo]; first | (rw [chg_new (by assumption) hf2 (by assumption) hf1]; rfl) | (rw [chg_ne (by assumption) hf2 (by assumption) hf1 hc]; rfl) | fail), by omega⟩) | exact ⟨hP.grow qg, VO.stepN hvp (fun j hn hj he => qs) qo, qg, hKO.grow qg, by omega, by omega, by (rw [hcs qo, chg_eq (by assumption) hf2 (by assumption) hf1 hc, List.append_nil]; exact hq), by omega⟩ | fail)) | fail)))
      | exact ih ((i + 1, p3, q ++ [⟨(m.getD i default).key, w2, val2, false⟩])) _ _ _ (by ((try dsimp only); omega)) qf (by ((try dsimp only); (first | ((first | exact ⟨hP2, VO.push (VO.stepN hvp (fun j hn hj he => qs) qo) OwC.nil (.inl rfl), qg, hKO.keep (fun j hj he => qs), by omega, ql, by (rw [List.map_append, hq, hcs qo, chg_no (by assumption) hf2]; rfl), by omega⟩ | (have hw5 : OwB h.next H5 w2 val2 := OwC.le (OwC.keep ho2 (fun j hj he => qs)) ql; exact ⟨hP3, VO.push (VO.stepN hvp (fun j hn hj he => qs) qo) hw5 (by show own w2 = 0 ∨ own w2 ≠ own p3; omega), qg, hKO.keep (fun j hj he => qs), by omega, ql, by (rw [List.map_append, hq, hcs qo]; first | (rw [chg_new (by assumption) hf2 (by assumption) hf1]; rfl) | (rw [chg_ne (by assumption) hf2 (by assumption) hf1 hc]; rfl) | fail), by omega⟩) | exact ⟨hP.grow qg, VO.stepN hvp (fun j hn hj he => qs) qo, qg, hKO.grow qg, by omega, by omega, by (rw [hcs qo, chg_eq (by assumption) hf2 (by assumption) hf1 hc, List.append_nil]; exact hq), by omega⟩ | fail)) | fail)))
      | exact ih ((i + 1, p, q)) _ _ _ (by ((try dsimp only); omega)) qf (by ((try dsimp only); (first | ((first | exact ⟨hP2, VO.push (VO.stepN hvp (fun j hn hj he => qs) qo) OwC.nil (.inl rfl), qg, hKO.keep (fun j hj he => qs), by omega, ql, by (rw [List.map_append, hq, hcs qo, chg_no (by assumption) hf2]; rfl), by omega⟩ | (have hw5 : OwB h.next H5 w2 val2 := OwC.le (OwC.keep ho2 (fun j hj he => qs)) ql; exact ⟨hP3, VO.push (VO.stepN hvp (fun j hn hj he => qs) qo) hw5 (by show own w2 = 0 ∨ own w2 ≠ own p3; omega), qg, hKO.keep (fun j hj he => qs), by omega, ql, by (rw [List.map_append, hq, hcs qo]; first | (rw [chg_new (by assumption) hf2 (by assumption) hf1]; rfl) | (rw [chg_ne (by assumption) hf2 (by assumption) hf1 hc]; rfl) | fail), by omega⟩) | exact ⟨hP.grow qg, VO.stepN hvp (fun j hn hj he => qs) qo, qg, hKO.grow qg, by omega, by omega, by (rw [hcs qo, chg_eq (by assumption) hf2 (by assumption) hf1 hc, List.append_nil]; exact hq), by omega⟩ | fail)) | fail)))
      | (refine hK _ _ ?_; (first | (obtain rfl : i = m.length := qo; exact ⟨qg, .inr ⟨by assumption, by assumption, p, q, rfl, hP, hvp, by (rw [hq]; unfold cN; rw [enN_all, hm, kN_all (t := t) (u := l) (by assumption) (by assumption) qo]; exact bet_flat (t := t.map Ro.en) (u := l.map Ro.en) (last := []) (up_of_may (by assumption)) (up_of_may (by assumption)))⟩⟩) | exact ⟨qg, .inl ⟨fun q => (by first | (rw [q.1] at hc; exact absurd hc (by decide)) | (rw [q.2] at hc; exact absurd hc (by decide)) | fail), rfl⟩⟩ | fail); done)
      | fail)
end Go.Proofs.Ytbcmdlaffjmfdaa.Ya

