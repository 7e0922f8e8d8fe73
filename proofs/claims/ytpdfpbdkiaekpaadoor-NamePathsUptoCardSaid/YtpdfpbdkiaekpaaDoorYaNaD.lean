/-
  Names: paths told and written; the runs of NamePaths and NameBack.
-/
import Derived.Test.YtpdfpbdkiaekpaaDoorYaNaC
import Derived.Test.YtpdfpbdkiaekpaaDoorYbL
namespace Go.Proofs.YtpdfpbdkiaekpaaDoor.Ya
open Go.Ya Go.Ya.Na
set_option linter.unusedVariables false
set_option linter.unusedSimpArgs false
set_option maxRecDepth 100000
set_option maxHeartbeats 8000000

theorem mayP_all {l : List Bs} (h : mayP l = true) : allP l = true ∧ l.length ≤ 4 := by
  unfold mayP at h
  simp only [Bool.and_eq_true, decide_eq_true_eq] at h
  exact ⟨h.2, h.1⟩
theorem join_short {l : List Bs} (h : mayP l = true) : (joinI l).length ≤ 200 := by
  have := join_len (mayP_all h).1
  have := (mayP_all h).2
  omega
theorem take_s2 {l : List Bs} {i : Nat} (hi : i < l.length) : l.take (i + 1) = l.take i ++ [l.getD i default] := by
  rw [List.take_add_one, List.getElem?_eq_getElem hi, List.getD_eq_getElem?_getD, List.getElem?_eq_getElem hi]; rfl
theorem join_next0 {l : List Bs} (hi : 0 < l.length) : joinI (l.take (0 + 1)) = l.getD 0 default := by
  rw [take_s2 hi]; simp [joinI]
theorem join_next {l : List Bs} {i : Nat} (h0 : 0 < i) (hi : i < l.length) : joinI (l.take (i + 1)) = joinI (l.take i) ++ [47] ++ l.getD i default := by
  rw [take_s2 hi, join_snoc (by intro e; have := congrArg List.length e; simp only [List.length_take, List.length_nil] at this; omega)]; simp
theorem allP_take {l : List Bs} {i : Nat} (h : allP l = true) : allP (l.take i) = true := by
  unfold allP at h ⊢
  rw [List.all_eq_true] at h ⊢
  exact fun x hx => h x (List.mem_of_mem_take hx)
theorem take_short {l : List Bs} {i : Nat} (h : mayP l = true) (hi : i ≤ l.length) : (joinI (l.take i)).length ≤ 200 := by
  have a := join_len (allP_take (i := i) (mayP_all h).1)
  have b := (mayP_all h).2
  have c : (l.take i).length ≤ 4 := by rw [List.length_take]; omega
  omega
theorem name_short {l : List Bs} {i : Nat} (h : mayP l = true) (hi : i < l.length) : (l.getD i default).length ≤ 32 := by
  have := (mayP_all h).1
  unfold allP at this
  rw [List.all_eq_true] at this
  rw [List.getD_eq_getElem?_getD, List.getElem?_eq_getElem hi]
  exact (isP_len (this _ (List.getElem_mem hi))).2
theorem may_asm {l : List Bs} (a : Asm (mayP l = true)) : mayP l = true := a.out
def L27_0 : SC := (.seq (.ops [⟨some 42, .bin (.lss) (.other) (.t 41) (.t 40), none⟩]) (.seq (.cond (.t 42) .skip (.exit 1)) (.seq (.block 2 (.seq (.ops [⟨some 43, .idxAddrSl 1 (.t 39) (.t 41), none⟩, ⟨some 44, .load false 1 (.t 43), none⟩, ⟨some 7, .mov (.t 44), none⟩]) (.seq (.seq (.ops [⟨some 45, .mov (.t 7), none⟩, ⟨some 46, .len (.str) (.t 45), none⟩, ⟨some 47, .mov (.t 5), none⟩, ⟨some 48, .bin (.sub) (.other) (.c (.int (.i64) 9223372036854775807)) (.t 47), none⟩, ⟨some 49, .bin (.gtr) (.other) (.t 46) (.t 48), none⟩]) (.cond (.t 49) (.ops [⟨some 50, .iface 9 (.c (.str [115, 116, 114, 105, 110, 103, 115, 58, 32, 74, 111, 105, 110, 32, 111, 117, 116, 112, 117, 116, 32, 108, 101, 110, 103, 116, 104, 32, 111, 118, 101, 114, 102, 108, 111, 119])), none⟩, ⟨none, .trap, none⟩]) .skip)) (.ops [⟨some 51, .mov (.t 5), none⟩, ⟨some 52, .mov (.t 7), none⟩, ⟨some 53, .len (.str) (.t 52), none⟩, ⟨some 54, .bin (.add) (.other) (.t 51) (.t 53), none⟩, ⟨some 5, .mov (.t 54), none⟩])))) (.ops [⟨some 55, .bin (.add) (.other) (.t 41) (.c (.int (.i64) 1)), none⟩, ⟨some 41, .mov (.t 55), none⟩]))))
def L27_1 : SC := (.seq (.ops [⟨some 66, .bin (.lss) (.other) (.t 65) (.t 64), none⟩]) (.seq (.cond (.t 66) .skip (.exit 3)) (.seq (.block 4 (.seq (.ops [⟨some 67, .idxAddrSl 1 (.t 63) (.t 65), none⟩, ⟨some 68, .load false 1 (.t 67), none⟩, ⟨some 10, .mov (.t 68), none⟩]) (.seq (.ops [⟨some 69, .mov (.t 1), none⟩, ⟨some 70, .call 31 [.t 8, .t 69], none⟩]) (.ops [⟨some 71, .mov (.t 10), none⟩, ⟨some 72, .call 31 [.t 8, .t 71], none⟩])))) (.ops [⟨some 73, .bin (.add) (.other) (.t 65) (.c (.int (.i64) 1)), none⟩, ⟨some 65, .mov (.t 73), none⟩]))))
def b27 : SC := (.seq (.ops [⟨some 4, .mov (.c (.str [])), none⟩]) (.seq (.seq (.ops [⟨some 11, .mov (.t 0), none⟩, ⟨some 12, .len (.sl) (.t 11), none⟩]) (.block 0 (.seq (.ops [⟨some 14, .bin (.eql) (.other) (.t 12) (.c (.int (.i64) 0)), none⟩, ⟨some 13, .mov (.t 14), none⟩]) (.cond (.t 13) (.seq (.ops [⟨some 4, .mov (.c (.str [])), none⟩]) .ret) (.seq (.ops [⟨some 16, .bin (.eql) (.other) (.t 12) (.c (.int (.i64) 1)), none⟩, ⟨some 15, .mov (.t 16), none⟩]) (.cond (.t 15) (.seq (.ops [⟨some 17, .mov (.t 0), none⟩, ⟨some 18, .idxAddrSl 1 (.t 17) (.c (.int (.i64) 0)), none⟩, ⟨some 19, .load false 1 (.t 18), none⟩, ⟨some 4, .mov (.t 19), none⟩]) .ret) .skip)))))) (.seq (.ops [⟨some 5, .mov (.c (.int (.i64) 0)), none⟩]) (.seq (.seq (.ops [⟨some 20, .mov (.t 1), none⟩, ⟨some 21, .len (.str) (.t 20), none⟩, ⟨some 22, .bin (.gtr) (.other) (.t 21) (.c (.int (.i64) 0)), none⟩]) (.cond (.t 22) (.seq (.seq (.ops [⟨some 23, .mov (.t 1), none⟩, ⟨some 24, .len (.str) (.t 23), none⟩, ⟨some 25, .mov (.t 0), none⟩, ⟨some 26, .len (.sl) (.t 25), none⟩, ⟨some 27, .bin (.sub) (.other) (.t 26) (.c (.int (.i64) 1)), none⟩, ⟨some 28, .bin (.quo) (.other) (.c (.int (.i64) 9223372036854775807)) (.t 27), none⟩, ⟨some 29, .bin (.geq) (.other) (.t 24) (.t 28), none⟩]) (.cond (.t 29) (.ops [⟨some 30, .iface 9 (.c (.str [115, 116, 114, 105, 110, 103, 115, 58, 32, 74, 111, 105, 110, 32, 111, 117, 116, 112, 117, 116, 32, 108, 101, 110, 103, 116, 104, 32, 111, 118, 101, 114, 102, 108, 111, 119])), none⟩, ⟨none, .trap, none⟩]) .skip)) (.ops [⟨some 31, .mov (.t 5), none⟩, ⟨some 32, .mov (.t 1), none⟩, ⟨some 33, .len (.str) (.t 32), none⟩, ⟨some 34, .mov (.t 0), none⟩, ⟨some 35, .len (.sl) (.t 34), none⟩, ⟨some 36, .bin (.sub) (.other) (.t 35) (.c (.int (.i64) 1)), none⟩, ⟨some 37, .bin (.mul) (.other) (.t 33) (.t 36), none⟩, ⟨some 38, .bin (.add) (.other) (.t 31) (.t 37), none⟩, ⟨some 5, .mov (.t 38), none⟩])) .skip)) (.seq (.seq (.ops [⟨some 39, .mov (.t 0), none⟩, ⟨some 40, .len (.sl) (.t 39), none⟩, ⟨some 41, .mov (.c (.int (.i64) 0)), none⟩]) (.block 1 (.loop L27_0))) (.seq (.ops [⟨some 8, .box (.c (.agg [.nilptr, .nilsl])), none⟩]) (.seq (.ops [⟨some 56, .mov (.t 5), none⟩, ⟨some 57, .call 30 [.t 8, .t 56], none⟩]) (.seq (.ops [⟨some 58, .mov (.t 0), none⟩, ⟨some 59, .idxAddrSl 1 (.t 58) (.c (.int (.i64) 0)), none⟩, ⟨some 60, .load false 1 (.t 59), none⟩, ⟨some 61, .call 31 [.t 8, .t 60], none⟩]) (.seq (.seq (.ops [⟨some 62, .mov (.t 0), none⟩, ⟨some 63, .slice 1 (.t 62) (some (.c (.int (.i64) 1))) none none, none⟩, ⟨some 64, .len (.sl) (.t 63), none⟩, ⟨some 65, .mov (.c (.int (.i64) 0)), none⟩]) (.block 3 (.loop L27_1))) (.seq (.ops [⟨some 74, .call 32 [.t 8], none⟩, ⟨some 4, .mov (.t 74), none⟩]) .ret))))))))))
theorem t27 : tab 27 = some ⟨75, [.tmp 4], b27⟩ := rfl
theorem join_none {h : Heap} {V : AV} (hV : TAt h V []) : X1 27 [V, .str [47]] h = none := by
  have hf := hV.first
  rcases hV.2 with ⟨rfl, e⟩ | ⟨id, off, cap, ex, c, ro, rfl, _⟩
  · rfl
  · have e : joinK 27 27 [.slice id off 0 cap ex 1, .str [47]] h = none := by
      unfold joinK
      rw [if_pos rfl]
      have q : firstA h 1 0 (.slice id off 0 cap ex 1) = some [] := hf
      simp only [q, strsA]
      rw [if_neg qo]
    exact e
theorem str_Join0 {h : Heap} {V : AV} (hV : TAt h V []) : Runs (xcall X1 tab (.fn 27) [V, .str [47]] h) fun v h' => v = .str [] ∧ h = h' := by
  refine Runs.intro fun K hK => ?_
  rw [w_fn (join_none hV) t27 (Nat.le_of_ble_eq_true rfl)]
  delta b27
  repeat' (first
    | simp (disch := first | exact qd | fail) only [WB, ↓WP, ↓WL, WR, WC, if_true, if_false, ite_true, ite_false, aop, ev, evs, readsA, List.replicate, numF, unA, resA, tupA, loadA, storeA, splice, fillA, kindsOk, plainEq, ↓reduceIte, Nat.reduceEqDiff, Nat.reduceLT, Int.reduceToNat, Int.reduceBEq, Int.reduceBNe, Nat.reduceAdd, Nat.reduceMul, Nat.reduceLeDiff, Int.reduceLT, Int.reduceSub, Int.reduceAdd]
    | ((first | refine atC ?_ ?_ | refine atG ?_ ?_ | refine atH ?_ ?_ | refine atP ?_ ?_) <;> intro hc <;> (try rw [hc]) <;> (try simp only [BD] at hc) <;> try (exfalso; omega)))
  all_goals try (first
    | (refine hK _ _ ?_; exact ⟨rfl, rfl⟩; done)
    | fail)
theorem str_Join (l : List Bs) {h : Heap} {V : AV} (hV : TAt h V l) (h2 : l.length ≤ 1000000) (h3 : (joinI l).length ≤ 140737488355328) : Runs (xcall X1 tab (.fn 27) [V, .str [47]] h) fun v h' => v = .str (joinI l) ∧ h = h' := by
  cases l with
  | nil => exact str_Join0 hV
  | cons a l => exact Runs.eq (join_run hV (by simp) h2 h3)
def b12 : SC := (.seq (.ops [⟨some 2, .mov (.c (.nilsl)), none⟩, ⟨some 3, .mov (.c (.int (.i64) 0)), none⟩]) (.seq (.seq (.ops [⟨some 5, .mov (.t 0), none⟩, ⟨some 6, .bin (.eql) (.str) (.t 5) (.c (.str [])), none⟩]) (.cond (.t 6) (.seq (.ops [⟨some 2, .mov (.c (.nilsl)), none⟩, ⟨some 3, .mov (.c (.int (.i64) 0)), none⟩]) .ret) .skip)) (.seq (.ops [⟨some 7, .mov (.t 0), none⟩, ⟨some 8, .call 24 [.t 7, .c (.str [47])], none⟩, ⟨some 4, .mov (.t 8), none⟩]) (.seq (.block 0 (.seq (.ops [⟨some 10, .mov (.t 4), none⟩, ⟨some 11, .call 25 [.t 10], none⟩, ⟨some 12, .un (.not) (.t 11), none⟩, ⟨some 9, .mov (.t 12), none⟩]) (.cond (.t 9) (.seq (.ops [⟨some 2, .mov (.c (.nilsl)), none⟩, ⟨some 3, .mov (.c (.int (.i64) 5)), none⟩]) .ret) (.seq (.ops [⟨some 14, .mov (.t 4), none⟩, ⟨some 15, .len (.sl) (.t 14), none⟩, ⟨some 16, .bin (.gtr) (.other) (.t 15) (.c (.int (.i64) 4)), none⟩, ⟨some 13, .mov (.t 16), none⟩]) (.cond (.t 13) (.seq (.ops [⟨some 2, .mov (.c (.nilsl)), none⟩, ⟨some 3, .mov (.c (.int (.i64) 3)), none⟩]) .ret) .skip))))) (.seq (.ops [⟨some 17, .mov (.t 4), none⟩, ⟨some 2, .mov (.t 17), none⟩, ⟨some 3, .mov (.c (.int (.i64) 0)), none⟩]) .ret)))))
theorem t12 : tab 12 = some ⟨18, [.tmp 2, .tmp 3], b12⟩ := rfl
theorem name_Path (s : Bs) (hy : Bytes s) (hl : s.length ≤ 100000000) (h : Heap) : Runs (xcall X1 tab (.fn 12) [.str s] h) fun v h' => Grow h h' ∧ ∃ w, v = .tuple [w, .int .i64 (errPath s)] ∧ TAt h' w (resPath s) := by
  refine Runs.intro fun K hK => ?_
  rw [w_fn rfl t12 (Nat.le_of_ble_eq_true rfl)]
  delta b12
  repeat' (first
    | simp (disch := first | exact qd | fail) only [WB, ↓WP, ↓WL, WR, WC, if_true, if_false, ite_true, ite_false, aop, ev, evs, readsA, List.replicate, numF, unA, resA, tupA, loadA, storeA, splice, fillA, kindsOk, plainEq, ↓reduceIte, Nat.reduceEqDiff, Nat.reduceLT, Int.reduceToNat, Int.reduceBEq, Int.reduceBNe, Nat.reduceAdd, Nat.reduceMul, Nat.reduceLeDiff, Int.reduceLT, Int.reduceSub, Int.reduceAdd]
    | ((first | refine atC ?_ ?_ | refine atG ?_ ?_ | refine atH ?_ ?_ | refine atP ?_ ?_) <;> intro hc <;> (try rw [hc]) <;> (try simp only [BD] at hc) <;> try (exfalso; omega))
    | ((first
      | (refine Runs.call (str_Split s hl _) ?_; rintro w1 H1 ⟨gr, hw⟩; have hpl := parts_len s; have hcl := List.count_le_length (a := (47 : Int)) (l := s))
      | (refine Runs.call (name_all (partsP s) (parts_bytes hy) (hw.grow qg) qo) ?_; rintro _ H2 ⟨rfl, gr⟩; have hw2 := hw.grow gr)
      | fail); all_goals ((try (have gn := gr.1; try simp only [nx_alloc, nx_set] at gn)); (try (have an := ha.num; try simp only [nx_alloc, nx_set, own_sl, own_nil] at an)); (try (have on := hO.num; try simp only [nx_alloc, nx_set] at on)); (try (have kn := hk.1; try simp only [nx_alloc, nx_set] at kn)); try have hB := hO.at)))
  all_goals try (first
    | (refine hK _ _ ?_; (first | exact ⟨qg, .nilsl, by (unfold errPath; rw [if_pos (by assumption)]), by (unfold resPath; rw [if_pos (by assumption)]; exact OwR.rd encT_len qo (OwR.nil (n := 0)))⟩ | exact ⟨qg, .nilsl, by (unfold errPath; rw [if_neg (by assumption), if_pos (by assumption)]), by (unfold resPath; rw [if_neg (by assumption), if_pos (by assumption)]; exact OwR.rd encT_len qo (OwR.nil (n := 0)))⟩ | exact ⟨qg, .nilsl, by (unfold errPath; rw [if_neg (by assumption), if_neg (by first | (simp_all; done) | fail), if_pos qo]), by (unfold resPath; rw [if_neg (by assumption), if_neg (by first | (simp_all; done) | fail), if_pos qo]; exact OwR.rd encT_len qo (OwR.nil (n := 0)))⟩ | exact ⟨qg, w1, by (unfold errPath; rw [if_neg (by assumption), if_neg (by first | (simp_all; done) | fail), if_neg qo]), by (unfold resPath; rw [if_neg (by assumption), if_neg (by first | (simp_all; done) | fail), if_neg qo]; exact hw2)⟩ | fail); done)
    | fail)
def L13_0 : SC := (.seq (.seq (.ops [⟨some 8, .mov (.t 5), none⟩, ⟨some 9, .mov (.t 4), none⟩, ⟨some 10, .len (.sl) (.t 9), none⟩, ⟨some 11, .bin (.lss) (.other) (.t 8) (.t 10), none⟩]) (.cond (.t 11) .skip (.exit 0))) (.seq (.block 1 (.seq (.ops [⟨some 14, .mov (.t 4), none⟩, ⟨some 15, .mov (.t 5), none⟩, ⟨some 16, .idxAddrSl 1 (.t 14) (.t 15), none⟩, ⟨some 17, .load false 1 (.t 16), none⟩, ⟨some 18, .call 10 [.t 17], none⟩, ⟨some 19, .un (.not) (.t 18), none⟩]) (.cond (.t 19) (.seq (.ops [⟨some 2, .mov (.c (.nilsl)), none⟩, ⟨some 3, .mov (.c (.int (.i64) 5)), none⟩]) .ret) .skip))) (.ops [⟨some 12, .mov (.t 5), none⟩, ⟨some 13, .bin (.add) (.other) (.t 12) (.c (.int (.i64) 1)), none⟩, ⟨some 5, .mov (.t 13), none⟩])))
def b13 : SC := (.seq (.ops [⟨some 2, .mov (.c (.nilsl)), none⟩, ⟨some 3, .mov (.c (.int (.i64) 0)), none⟩]) (.seq (.ops [⟨some 6, .mov (.t 0), none⟩, ⟨some 7, .call 26 [.t 6], none⟩, ⟨some 4, .mov (.t 7), none⟩]) (.seq (.seq (.ops [⟨some 5, .mov (.c (.int (.i64) 0)), none⟩]) (.block 0 (.loop L13_0))) (.seq (.seq (.ops [⟨some 20, .mov (.t 4), none⟩, ⟨some 21, .len (.sl) (.t 20), none⟩, ⟨some 22, .bin (.gtr) (.other) (.t 21) (.c (.int (.i64) 4)), none⟩]) (.cond (.t 22) (.seq (.ops [⟨some 2, .mov (.c (.nilsl)), none⟩, ⟨some 3, .mov (.c (.int (.i64) 3)), none⟩]) .ret) .skip)) (.seq (.ops [⟨some 23, .mov (.t 4), none⟩, ⟨some 2, .mov (.t 23), none⟩, ⟨some 3, .mov (.c (.int (.i64) 0)), none⟩]) .ret)))))
theorem t13 : tab 13 = some ⟨24, [.tmp 2, .tmp 3], b13⟩ := rfl
def pcs (s : Bs) : List Bs := if s = [] then [] else partsP s
theorem pcs_len (s : Bs) : (pcs s).length ≤ s.length + 1 := by
  unfold pcs
  split
  · simp
  · have := parts_len s
    have := List.count_le_length (a := (47 : Int)) (l := s)
    omega
theorem pcs_bytes {s : Bs} (h : Bytes s) : AllY (pcs s) := by
  unfold pcs
  split
  · exact fun x hx => nomatch hx
  · exact parts_bytes h
theorem path_bad {s : Bs} {i : Nat} (hi : i < (pcs s).length) (h : isP ((pcs s).getD i default) = false) : errPath s = 5 ∧ resPath s = [] := by
  unfold pcs at hi h
  unfold errPath resPath
  split at hi
  · simp at hi
  · rename_i e
    rw [if_neg e] at h
    rw [if_neg e, if_neg e, if_pos (allP_no hi h), if_pos (allP_no hi h)]
    exact ⟨rfl, rfl⟩
theorem path_long {s : Bs} (h : ∀ j, j < (pcs s).length → isP ((pcs s).getD j default) = true) (hl : 4 < (pcs s).length) : errPath s = 3 ∧ resPath s = [] := by
  unfold pcs at h hl
  unfold errPath resPath
  split at hl
  · simp at hl
  · rename_i e
    rw [if_neg e] at h
    have := allP_at (i := 0) h
    simp [e, this, hl]
theorem path_ok {s : Bs} (h : ∀ j, j < (pcs s).length → isP ((pcs s).getD j default) = true) (hl : (pcs s).length ≤ 4) : errPath s = 0 ∧ resPath s = pcs s := by
  unfold pcs at h hl ⊢
  unfold errPath resPath
  by_cases e : s = []
  · rw [if_pos e, if_pos e, if_pos e]; exact ⟨rfl, rfl⟩
  · rw [if_neg e] at h hl
    have := allP_at (i := 0) h
    simp [e, this, show ¬ 4 < (partsP s).length by omega]
theorem ref_Path (s : Bs) (hy : Bytes s) (hl : s.length ≤ 100000000) (h : Heap) : Runs (xcall X1 tab (.fn 13) [.str s] h) fun v h' => Grow h h' ∧ ∃ w, v = .tuple [w, .int .i64 (errPath s)] ∧ TAt h' w (resPath s) := by
  refine Runs.intro fun K hK => ?_
  rw [w_fn rfl t13 (Nat.le_of_ble_eq_true rfl)]
  delta b13
  repeat' (first
    | simp (disch := first | exact qd | fail) only [WB, ↓WP, ↓WL, WR, WC, if_true, if_false, ite_true, ite_false, aop, ev, evs, readsA, List.replicate, numF, unA, resA, tupA, loadA, storeA, splice, fillA, kindsOk, plainEq, ↓reduceIte, Nat.reduceEqDiff, Nat.reduceLT, Int.reduceToNat, Int.reduceBEq, Int.reduceBNe, Nat.reduceAdd, Nat.reduceMul, Nat.reduceLeDiff, Int.reduceLT, Int.reduceSub, Int.reduceAdd, encT_def]
    | ((first | refine atC ?_ ?_ | refine atG ?_ ?_ | refine atH ?_ ?_ | refine atP ?_ ?_) <;> intro hc <;> (try rw [hc]) <;> (try simp only [BD] at hc) <;> try (exfalso; omega))
    | ((first
      | (refine Runs.call (ref_parts s hl _) ?_; rintro w1 H1 ⟨gr, hw⟩; have hw : TAt H1 w1 (pcs s) := hw; have hpl := pcs_len s)
      | fail); all_goals ((try (have gn := gr.1; try simp only [nx_alloc, nx_set] at gn)); (try (have an := ha.num; try simp only [nx_alloc, nx_set, own_sl, own_nil] at an)); (try (have on := hO.num; try simp only [nx_alloc, nx_set] at on)); (try (have kn := hk.1; try simp only [nx_alloc, nx_set] at kn)); try have hB := hO.at)))
  all_goals try (first
    | (refine hK _ _ ?_; (first | (have q := path_bad (s := s) (i := i) qo (by assumption); exact ⟨qg, .nilsl, by rw [q.1], by (rw [q.2]; exact OwR.rd encT_len qo (OwR.nil (n := 0)))⟩) | (have q := path_long (s := s) (fun j q => hj j qo) qo; exact ⟨qg, .nilsl, by rw [q.1], by (rw [q.2]; exact OwR.rd encT_len qo (OwR.nil (n := 0)))⟩) | (have q := path_ok (s := s) (fun j q => hj j qo) qo; exact ⟨qg, w1, by rw [q.1], by (rw [q.2]; exact hw)⟩) | fail); done)
    | fail)
  all_goals
    refine wloop (α := Nat) [4] (fun x => [(5, .int .i64 (x : Nat))]) (fun x H => H1 = H ∧ x ≤ (pcs s).length ∧ ∀ j, j < x → isP ((pcs s).getD j default) = true) (fun x => (pcs s).length - x) ?_ (0) ?_ ?_
    rotate_left
    · exact qf
    · (try dsimp only)
      exact ⟨rfl, by omega, fun j q => absurd q qo⟩
    intro i b1 H hI ih
    try dsimp only at hI
    obtain ⟨rfl, hi, hj⟩ := hI
    try have gn := g.1
    refine w_unfold (by delta L13_0; rfl) ?_
    simp only [keeps_nil, keeps_cons, List.cons_append, List.nil_append, lk_cons, lk_nil, numF, Nat.reduceEqDiff, Nat.reduceAdd, Nat.zero_add, ↓reduceIte]
    repeat' (first
      | simp (disch := first | exact qd | fail) only [WB, ↓WP, ↓WL, WR, WC, if_true, if_false, ite_true, ite_false, aop, ev, evs, readsA, List.replicate, numF, unA, resA, tupA, loadA, storeA, splice, fillA, kindsOk, plainEq, ↓reduceIte, Nat.reduceEqDiff, Nat.reduceLT, Int.reduceToNat, Int.reduceBEq, Int.reduceBNe, Nat.reduceAdd, Nat.reduceMul, Nat.reduceLeDiff, Int.reduceLT, Int.reduceSub, Int.reduceAdd, encT_def]
      | ((first | refine atC ?_ ?_ | refine atG ?_ ?_ | refine atH ?_ ?_ | refine atP ?_ ?_) <;> intro hc <;> (try rw [hc]) <;> (try simp only [BD] at hc) <;> try (exfalso; omega))
      | ((first
        | (refine Runs.call (ref_parts s hl _) ?_; rintro w1 H1 ⟨gr, hw⟩; have hw : TAt H1 w1 (pcs s) := hw; have hpl := pcs_len s)
        | (refine Runs.call (ref_Is ((pcs s).getD i default) ((pcs_bytes hy).at i) _) ?_; rintro _ _ ⟨rfl, rfl⟩)
        | fail); all_goals ((try (have gn := gr.1; try simp only [nx_alloc, nx_set] at gn)); (try (have an := ha.num; try simp only [nx_alloc, nx_set, own_sl, own_nil] at an)); (try (have on := hO.num; try simp only [nx_alloc, nx_set] at on)); (try (have kn := hk.1; try simp only [nx_alloc, nx_set] at kn)); try have hB := hO.at)))
    all_goals try (first
      | exact ih (i + 1) _ _ _ (by ((try dsimp only); omega)) qf (by ((try dsimp only); (first | (exact ⟨rfl, by omega, pre_succ hj (by assumption)⟩) | fail)))
      | (refine hK _ _ ?_; (first | (have q := path_bad (s := s) (i := i) qo (by assumption); exact ⟨qg, .nilsl, by rw [q.1], by (rw [q.2]; exact OwR.rd encT_len qo (OwR.nil (n := 0)))⟩) | (have q := path_long (s := s) (fun j q => hj j qo) qo; exact ⟨qg, .nilsl, by rw [q.1], by (rw [q.2]; exact OwR.rd encT_len qo (OwR.nil (n := 0)))⟩) | (have q := path_ok (s := s) (fun j q => hj j qo) qo; exact ⟨qg, w1, by rw [q.1], by (rw [q.2]; exact hw)⟩) | fail); done)
      | fail)
def b14 : SC := (.seq (.ops [⟨some 2, .mov (.c (.str [])), none⟩, ⟨some 3, .mov (.c (.int (.i64) 0)), none⟩]) (.seq (.seq (.ops [⟨some 4, .mov (.t 0), none⟩, ⟨some 5, .call 17 [.t 4], none⟩, ⟨some 6, .un (.not) (.t 5), none⟩]) (.cond (.t 6) (.seq (.ops [⟨some 2, .mov (.c (.str [])), none⟩, ⟨some 3, .mov (.c (.int (.i64) 2)), none⟩]) .ret) .skip)) (.seq (.ops [⟨some 7, .mov (.t 0), none⟩, ⟨some 8, .call 27 [.t 7, .c (.str [47])], none⟩, ⟨some 2, .mov (.t 8), none⟩, ⟨some 3, .mov (.c (.int (.i64) 0)), none⟩]) .ret)))
theorem t14 : tab 14 = some ⟨9, [.tmp 2, .tmp 3], b14⟩ := rfl
theorem name_Write (l : List Bs) (hy : AllY l) {h : Heap} {V : AV} (hV : TAt h V l) (hl : l.length ≤ 1000000) : Runs (xcall X1 tab (.fn 14) [V] h) fun v h' => v = .tuple [.str (resW l), .int .i64 (errW l)] ∧ Grow h h' := by
  refine Runs.intro fun K hK => ?_
  rw [w_fn rfl t14 (Nat.le_of_ble_eq_true rfl)]
  delta b14
  repeat' (first
    | simp (disch := first | exact qd | fail) only [WB, ↓WP, ↓WL, WR, WC, if_true, if_false, ite_true, ite_false, aop, ev, evs, readsA, List.replicate, numF, unA, resA, tupA, loadA, storeA, splice, fillA, kindsOk, plainEq, ↓reduceIte, Nat.reduceEqDiff, Nat.reduceLT, Int.reduceToNat, Int.reduceBEq, Int.reduceBNe, Nat.reduceAdd, Nat.reduceMul, Nat.reduceLeDiff, Int.reduceLT, Int.reduceSub, Int.reduceAdd]
    | ((first | refine atC ?_ ?_ | refine atG ?_ ?_ | refine atH ?_ ?_ | refine atP ?_ ?_) <;> intro hc <;> (try rw [hc]) <;> (try simp only [BD] at hc) <;> try (exfalso; omega))
    | ((first
      | (refine Runs.call (name_May l hy (hV.grow qg) qo) ?_; rintro _ _ ⟨rfl, gr⟩)
      | (refine Runs.call (str_Join l (hV.grow qg) hl (by have := join_short (l := l) (by assumption); omega)) ?_; rintro _ _ ⟨rfl, rfl⟩)
      | fail); all_goals ((try (have gn := gr.1; try simp only [nx_alloc, nx_set] at gn)); (try (have an := ha.num; try simp only [nx_alloc, nx_set, own_sl, own_nil] at an)); (try (have on := hO.num; try simp only [nx_alloc, nx_set] at on)); (try (have kn := hk.1; try simp only [nx_alloc, nx_set] at kn)); try have hB := hO.at)))
  all_goals try (first
    | (refine hK _ _ ?_; (first | exact ⟨by (unfold resW errW; rw [if_pos (by assumption), if_pos (by assumption)]), qg⟩ | exact ⟨by (unfold resW errW; rw [if_neg (by first | (simp_all; done) | fail), if_neg (by first | (simp_all; done) | fail)]), qg⟩ | fail); done)
    | fail)
def L15_0 : SC := (.seq (.seq (.ops [⟨some 9, .mov (.t 5), none⟩, ⟨some 10, .mov (.t 0), none⟩, ⟨some 11, .len (.sl) (.t 10), none⟩, ⟨some 12, .bin (.lss) (.other) (.t 9) (.t 11), none⟩]) (.cond (.t 12) .skip (.exit 0))) (.seq (.block 1 (.seq (.seq (.ops [⟨some 15, .mov (.t 5), none⟩, ⟨some 16, .bin (.gtr) (.other) (.t 15) (.c (.int (.i64) 0)), none⟩]) (.cond (.t 16) (.ops [⟨some 17, .mov (.t 4), none⟩, ⟨some 18, .bin (.add) (.str) (.t 17) (.c (.str [47])), none⟩, ⟨some 4, .mov (.t 18), none⟩]) .skip)) (.ops [⟨some 19, .mov (.t 4), none⟩, ⟨some 20, .mov (.t 0), none⟩, ⟨some 21, .mov (.t 5), none⟩, ⟨some 22, .idxAddrSl 1 (.t 20) (.t 21), none⟩, ⟨some 23, .load false 1 (.t 22), none⟩, ⟨some 24, .bin (.add) (.str) (.t 19) (.t 23), none⟩, ⟨some 4, .mov (.t 24), none⟩]))) (.ops [⟨some 13, .mov (.t 5), none⟩, ⟨some 14, .bin (.add) (.other) (.t 13) (.c (.int (.i64) 1)), none⟩, ⟨some 5, .mov (.t 14), none⟩])))
def b15 : SC := (.seq (.ops [⟨some 2, .mov (.c (.str [])), none⟩, ⟨some 3, .mov (.c (.int (.i64) 0)), none⟩]) (.seq (.seq (.ops [⟨some 6, .mov (.t 0), none⟩, ⟨some 7, .call 18 [.t 6], none⟩, ⟨some 8, .un (.not) (.t 7), none⟩]) (.cond (.t 8) (.seq (.ops [⟨some 2, .mov (.c (.str [])), none⟩, ⟨some 3, .mov (.c (.int (.i64) 2)), none⟩]) .ret) .skip)) (.seq (.ops [⟨some 4, .mov (.c (.str [])), none⟩]) (.seq (.seq (.ops [⟨some 5, .mov (.c (.int (.i64) 0)), none⟩]) (.block 0 (.loop L15_0))) (.seq (.ops [⟨some 25, .mov (.t 4), none⟩, ⟨some 2, .mov (.t 25), none⟩, ⟨some 3, .mov (.c (.int (.i64) 0)), none⟩]) .ret)))))
theorem t15 : tab 15 = some ⟨26, [.tmp 2, .tmp 3], b15⟩ := rfl
theorem ref_Write (l : List Bs) (hy : AllY l) {h : Heap} {V : AV} (hV : TAt h V l) (hl : l.length ≤ 1000000) : Runs (xcall X1 tab (.fn 15) [V] h) fun v h' => v = .tuple [.str (resW l), .int .i64 (errW l)] ∧ h = h' := by
  refine Runs.intro fun K hK => ?_
  rw [w_fn rfl t15 (Nat.le_of_ble_eq_true rfl)]
  delta b15
  repeat' (first
    | simp (disch := first | exact qd | fail) only [WB, ↓WP, ↓WL, WR, WC, if_true, if_false, ite_true, ite_false, aop, ev, evs, readsA, List.replicate, numF, unA, resA, tupA, loadA, storeA, splice, fillA, kindsOk, plainEq, ↓reduceIte, Nat.reduceEqDiff, Nat.reduceLT, Int.reduceToNat, Int.reduceBEq, Int.reduceBNe, Nat.reduceAdd, Nat.reduceMul, Nat.reduceLeDiff, Int.reduceLT, Int.reduceSub, Int.reduceAdd, encT_def]
    | ((first | refine atC ?_ ?_ | refine atG ?_ ?_ | refine atH ?_ ?_ | refine atP ?_ ?_) <;> intro hc <;> (try rw [hc]) <;> (try simp only [BD] at hc) <;> try (exfalso; omega))
    | ((first
      | (refine Runs.call (ref_May l hy hV qo) ?_; rintro _ _ ⟨rfl, rfl⟩)
      | fail); all_goals ((try (have gn := gr.1; try simp only [nx_alloc, nx_set] at gn)); (try (have an := ha.num; try simp only [nx_alloc, nx_set, own_sl, own_nil] at an)); (try (have on := hO.num; try simp only [nx_alloc, nx_set] at on)); (try (have kn := hk.1; try simp only [nx_alloc, nx_set] at kn)); try have hB := hO.at)))
  all_goals try (first
    | (refine hK _ _ ?_; (first | exact ⟨by (unfold resW errW; rw [if_neg (by first | (simp_all; done) | fail), if_neg (by first | (simp_all; done) | fail)]), rfl⟩ | exact ⟨by (unfold resW errW; rw [if_pos (by assumption), if_pos (by assumption), ha, List.take_of_length_le qo]), rfl⟩ | fail); done)
    | fail)
  all_goals
    refine wloop (α := Nat × Bs) [0] (fun x => [(4, .str x.2), (5, .int .i64 (x.1 : Nat))]) (fun x H => h = H ∧ x.1 ≤ l.length ∧ x.2 = joinI (l.take x.1)) (fun x => l.length - x.1) ?_ ((0, [])) ?_ ?_
    rotate_left
    · exact qf
    · (try dsimp only)
      exact ⟨rfl, by omega, rfl⟩
    intro x b1 H hI ih
    obtain ⟨i, a⟩ := x
    try dsimp only at hI
    obtain ⟨rfl, hi, ha⟩ := hI
    have hsh := take_short (l := l) (i := i) (by assumption) hi
    rw [← ha] at hsh
    have hns := fun q => name_short (l := l) (i := i) (by assumption) q
    try have gn := g.1
    refine w_unfold (by delta L15_0; rfl) ?_
    simp only [keeps_nil, keeps_cons, List.cons_append, List.nil_append, lk_cons, lk_nil, numF, Nat.reduceEqDiff, Nat.reduceAdd, Nat.zero_add, ↓reduceIte]
    repeat' (first
      | simp (disch := first | exact qd | fail) only [WB, ↓WP, ↓WL, WR, WC, if_true, if_false, ite_true, ite_false, aop, ev, evs, readsA, List.replicate, numF, unA, resA, tupA, loadA, storeA, splice, fillA, kindsOk, plainEq, ↓reduceIte, Nat.reduceEqDiff, Nat.reduceLT, Int.reduceToNat, Int.reduceBEq, Int.reduceBNe, Nat.reduceAdd, Nat.reduceMul, Nat.reduceLeDiff, Int.reduceLT, Int.reduceSub, Int.reduceAdd, encT_def]
      | ((first | refine atC ?_ ?_ | refine atG ?_ ?_ | refine atH ?_ ?_ | refine atP ?_ ?_) <;> intro hc <;> (try rw [hc]) <;> (try simp only [BD] at hc) <;> try (exfalso; omega))
      | ((first
        | (refine Runs.call (ref_May l hy hV qo) ?_; rintro _ _ ⟨rfl, rfl⟩)
        | fail); all_goals ((try (have gn := gr.1; try simp only [nx_alloc, nx_set] at gn)); (try (have an := ha.num; try simp only [nx_alloc, nx_set, own_sl, own_nil] at an)); (try (have on := hO.num; try simp only [nx_alloc, nx_set] at on)); (try (have kn := hk.1; try simp only [nx_alloc, nx_set] at kn)); try have hB := hO.at)))
    all_goals try (first
      | exact ih ((i + 1, a ++ 47 :: l.getD i default)) _ _ _ (by ((try dsimp only); omega)) qf (by ((try dsimp only); (first | ((first | exact ⟨rfl, by omega, by (rw [join_next qo qo, ← ha]; simp)⟩ | exact ⟨rfl, by omega, by (obtain rfl : i = 0 := qo; rw [join_next0 qo, ha]; simp [joinI])⟩ | fail)) | fail)))
      | exact ih ((i + 1, a ++ l.getD i default)) _ _ _ (by ((try dsimp only); omega)) qf (by ((try dsimp only); (first | ((first | exact ⟨rfl, by omega, by (rw [join_next qo qo, ← ha]; simp)⟩ | exact ⟨rfl, by omega, by (obtain rfl : i = 0 := qo; rw [join_next0 qo, ha]; simp [joinI])⟩ | fail)) | fail)))
      | (refine hK _ _ ?_; (first | exact ⟨by (unfold resW errW; rw [if_neg (by first | (simp_all; done) | fail), if_neg (by first | (simp_all; done) | fail)]), rfl⟩ | exact ⟨by (unfold resW errW; rw [if_pos (by assumption), if_pos (by assumption), ha, List.take_of_length_le qo]), rfl⟩ | fail); done)
      | fail)
def b4 : SC := (.seq (.ops [⟨some 4, .mov (.c (.bool false)), none⟩]) (.seq (.seq (.ops [⟨some 14, .mov (.t 1), none⟩, ⟨some 15, .len (.sl) (.t 14), none⟩, ⟨some 16, .bin (.gtr) (.other) (.t 15) (.c (.int (.i64) 100)), none⟩]) (.cond (.t 16) (.seq (.ops [⟨some 17, .call 11 [], none⟩, ⟨some 4, .mov (.t 17), none⟩]) .ret) .skip)) (.seq (.ops [⟨some 5, .mov (.c (.nilsl)), none⟩]) (.seq (.ops [⟨some 18, .mov (.t 5), none⟩, ⟨some 19, .mov (.t 1), none⟩, ⟨some 20, .append 1 16 (.t 18) (.t 19), none⟩, ⟨some 5, .mov (.t 20), none⟩]) (.seq (.ops [⟨some 22, .mov (.t 0), none⟩, ⟨some 23, .call 12 [.t 22], none⟩, ⟨some 21, .mov (.t 23), none⟩, ⟨some 24, .extract (.t 21) 0, none⟩, ⟨some 25, .extract (.t 21) 1, none⟩, ⟨some 6, .mov (.t 24), none⟩, ⟨some 7, .mov (.t 25), none⟩]) (.seq (.ops [⟨some 27, .mov (.t 0), none⟩, ⟨some 28, .call 13 [.t 27], none⟩, ⟨some 26, .mov (.t 28), none⟩, ⟨some 29, .extract (.t 26) 0, none⟩, ⟨some 30, .extract (.t 26) 1, none⟩, ⟨some 8, .mov (.t 29), none⟩, ⟨some 9, .mov (.t 30), none⟩]) (.seq (.ops [⟨some 32, .mov (.t 5), none⟩, ⟨some 33, .call 14 [.t 32], none⟩, ⟨some 31, .mov (.t 33), none⟩, ⟨some 34, .extract (.t 31) 0, none⟩, ⟨some 35, .extract (.t 31) 1, none⟩, ⟨some 10, .mov (.t 34), none⟩, ⟨some 11, .mov (.t 35), none⟩]) (.seq (.ops [⟨some 37, .mov (.t 1), none⟩, ⟨some 38, .call 15 [.t 37], none⟩, ⟨some 36, .mov (.t 38), none⟩, ⟨some 39, .extract (.t 36) 0, none⟩, ⟨some 40, .extract (.t 36) 1, none⟩, ⟨some 12, .mov (.t 39), none⟩, ⟨some 13, .mov (.t 40), none⟩]) (.seq (.ops [⟨some 41, .mov (.t 6), none⟩, ⟨some 42, .mov (.t 8), none⟩, ⟨some 43, .call 16 [.t 41, .t 42], none⟩, ⟨some 44, .mov (.t 43), none⟩, ⟨some 45, .mov (.t 7), some (44, true)⟩, ⟨some 46, .mov (.t 9), some (44, true)⟩, ⟨some 47, .bin (.eql) (.other) (.t 45) (.t 46), some (44, true)⟩, ⟨some 48, .pick (.t 44) (.t 47) (.c (.bool false)), none⟩, ⟨some 49, .mov (.t 48), none⟩, ⟨some 50, .mov (.t 10), some (49, true)⟩, ⟨some 51, .mov (.t 12), some (49, true)⟩, ⟨some 52, .bin (.eql) (.str) (.t 50) (.t 51), some (49, true)⟩, ⟨some 53, .pick (.t 49) (.t 52) (.c (.bool false)), none⟩, ⟨some 54, .mov (.t 53), none⟩, ⟨some 55, .mov (.t 11), some (54, true)⟩, ⟨some 56, .mov (.t 13), some (54, true)⟩, ⟨some 57, .bin (.eql) (.other) (.t 55) (.t 56), some (54, true)⟩, ⟨some 58, .pick (.t 54) (.t 57) (.c (.bool false)), none⟩, ⟨some 59, .mov (.t 58), none⟩, ⟨some 60, .mov (.t 5), some (59, true)⟩, ⟨some 61, .call 17 [.t 60], some (59, true)⟩, ⟨some 62, .mov (.t 1), some (59, true)⟩, ⟨some 63, .call 18 [.t 62], some (59, true)⟩, ⟨some 64, .bin (.eql) (.bool) (.t 61) (.t 63), some (59, true)⟩, ⟨some 65, .pick (.t 59) (.t 64) (.c (.bool false)), none⟩, ⟨some 66, .mov (.t 65), none⟩, ⟨some 67, .mov (.t 5), some (66, true)⟩, ⟨some 68, .mov (.t 1), some (66, true)⟩, ⟨some 69, .call 16 [.t 67, .t 68], some (66, true)⟩, ⟨some 70, .pick (.t 66) (.t 69) (.c (.bool false)), none⟩, ⟨some 71, .mov (.t 70), none⟩, ⟨some 72, .call 11 [], some (71, true)⟩, ⟨some 73, .pick (.t 71) (.t 72) (.c (.bool false)), none⟩, ⟨some 4, .mov (.t 73), none⟩]) .ret)))))))))
theorem t4 : tab 4 = some ⟨74, [.tmp 4], b4⟩ := rfl
theorem go_Paths (s : Bs) (hys : Bytes s) (hs : s.length ≤ 100000000) (l : List Bs) (hy : AllY l) {h : Heap} {V : AV} (hV : TAt h V l) : Runs (xcall X1 tab (.fn 4) [.str s, V] h) fun v h' => v = .bool true := by
  refine Runs.intro fun K hK => ?_
  rw [w_fn rfl t4 (Nat.le_of_ble_eq_true rfl)]
  delta b4
  repeat' (first
    | simp (disch := first | exact qd | fail) only [WB, ↓WP, ↓WL, WR, WC, if_true, if_false, ite_true, ite_false, aop, ev, evs, readsA, List.replicate, numF, unA, resA, tupA, loadA, storeA, splice, fillA, kindsOk, plainEq, ↓reduceIte, Nat.reduceEqDiff, Nat.reduceLT, Int.reduceToNat, Int.reduceBEq, Int.reduceBNe, Nat.reduceAdd, Nat.reduceMul, Nat.reduceLeDiff, Int.reduceLT, Int.reduceSub, Int.reduceAdd]
    | ((first | refine atC ?_ ?_ | refine atG ?_ ?_ | refine atH ?_ ?_ | refine atP ?_ ?_) <;> intro hc <;> (try rw [hc]) <;> (try simp only [BD] at hc) <;> try (exfalso; omega))
    | ((first
      | (refine Runs.call (lives_r _) ?_; rintro _ _ ⟨rfl, rfl⟩)
      | (refine Runs.call (OwR.cat encT_len qo (OwR.nil (n := h.next)) ql hV ql) ?_; rintro o2 H2 ⟨hO2, ha⟩; simp only [List.nil_append] at hO2; have g2 := ha.grow (Grow.refl _) (.inl rfl); have an2 := ha.num; clear ha; have hW : TAt H2 o2 l := OwR.rd encT_len qo hO2)
      | (refine Runs.call (name_Path s hys hs _) ?_; rintro v3 H3 ⟨gr, w3, rfl, hw3⟩)
      | (refine Runs.call (ref_Path s hys hs _) ?_; rintro v4 H4 ⟨gr, w4, rfl, hw4⟩)
      | (refine Runs.call (name_Write l hy (hW.grow qg) qo) ?_; rintro _ _ ⟨rfl, gr⟩)
      | (refine Runs.call (ref_Write l hy (hV.grow qg) qo) ?_; rintro _ _ ⟨rfl, rfl⟩)
      | (refine Runs.call (f0_Texts (resPath s) (resPath s) (hw3.grow qg) (hw4.grow qg) (by have := resPath_len s; omega)) ?_; rintro _ _ ⟨rfl, rfl⟩)
      | (refine Runs.call (name_May l hy (hW.grow qg) qo) ?_; rintro _ _ ⟨rfl, gr⟩)
      | (refine Runs.call (ref_May l hy (hV.grow qg) qo) ?_; rintro _ _ ⟨rfl, rfl⟩)
      | (refine Runs.call (f0_Texts l l (hW.grow qg) (hV.grow qg) qo) ?_; rintro _ _ ⟨rfl, rfl⟩)
      | fail); all_goals ((try (have gn := gr.1; try simp only [nx_alloc, nx_set] at gn)); (try (have an := ha.num; try simp only [nx_alloc, nx_set, own_sl, own_nil] at an)); (try (have on := hO.num; try simp only [nx_alloc, nx_set] at on)); (try (have kn := hk.1; try simp only [nx_alloc, nx_set] at kn)); try have hB := hO.at)))
  all_goals try (first
    | (refine hK _ _ ?_; (first | rfl | (exfalso; exact hc rfl) | fail); done)
    | fail)
def b5 : SC := (.seq (.ops [⟨some 4, .mov (.c (.bool false)), none⟩]) (.seq (.seq (.ops [⟨some 13, .mov (.t 1), none⟩, ⟨some 14, .len (.sl) (.t 13), none⟩, ⟨some 15, .bin (.gtr) (.other) (.t 14) (.c (.int (.i64) 100)), none⟩]) (.cond (.t 15) (.seq (.ops [⟨some 16, .call 11 [], none⟩, ⟨some 4, .mov (.t 16), none⟩]) .ret) .skip)) (.seq (.ops [⟨some 18, .mov (.t 1), none⟩, ⟨some 19, .call 14 [.t 18], none⟩, ⟨some 17, .mov (.t 19), none⟩, ⟨some 20, .extract (.t 17) 0, none⟩, ⟨some 21, .extract (.t 17) 1, none⟩, ⟨some 5, .mov (.t 20), none⟩, ⟨some 6, .mov (.t 21), none⟩]) (.seq (.seq (.ops [⟨some 22, .mov (.t 6), none⟩, ⟨some 23, .bin (.eql) (.other) (.t 22) (.c (.int (.i64) 0)), none⟩, ⟨some 24, .mov (.t 1), none⟩, ⟨some 25, .call 17 [.t 24], none⟩, ⟨some 26, .bin (.neq) (.bool) (.t 23) (.t 25), none⟩]) (.cond (.t 26) (.seq (.ops [⟨some 4, .mov (.c (.bool false)), none⟩]) .ret) .skip)) (.seq (.seq (.ops [⟨some 27, .mov (.t 6), none⟩, ⟨some 28, .bin (.eql) (.other) (.t 27) (.c (.int (.i64) 0)), none⟩]) (.cond (.t 28) (.seq (.ops [⟨some 30, .mov (.t 5), none⟩, ⟨some 31, .call 12 [.t 30], none⟩, ⟨some 29, .mov (.t 31), none⟩, ⟨some 32, .extract (.t 29) 0, none⟩, ⟨some 33, .extract (.t 29) 1, none⟩, ⟨some 7, .mov (.t 32), none⟩, ⟨some 8, .mov (.t 33), none⟩]) (.seq (.ops [⟨some 34, .mov (.t 8), none⟩, ⟨some 35, .bin (.neq) (.other) (.t 34) (.c (.int (.i64) 0)), none⟩, ⟨some 36, .mov (.t 35), none⟩, ⟨some 37, .mov (.t 1), some (36, false)⟩, ⟨some 38, .mov (.t 7), some (36, false)⟩, ⟨some 39, .call 16 [.t 37, .t 38], some (36, false)⟩, ⟨some 40, .un (.not) (.t 39), some (36, false)⟩, ⟨some 41, .pick (.t 36) (.c (.bool true)) (.t 40), none⟩]) (.cond (.t 41) (.seq (.ops [⟨some 4, .mov (.c (.bool false)), none⟩]) .ret) .skip))) .skip)) (.seq (.ops [⟨some 43, .mov (.t 0), none⟩, ⟨some 44, .call 12 [.t 43], none⟩, ⟨some 42, .mov (.t 44), none⟩, ⟨some 45, .extract (.t 42) 0, none⟩, ⟨some 46, .extract (.t 42) 1, none⟩, ⟨some 9, .mov (.t 45), none⟩, ⟨some 10, .mov (.t 46), none⟩]) (.seq (.seq (.ops [⟨some 47, .mov (.t 10), none⟩, ⟨some 48, .bin (.neq) (.other) (.t 47) (.c (.int (.i64) 0)), none⟩]) (.cond (.t 48) (.seq (.ops [⟨some 49, .mov (.t 9), none⟩, ⟨some 50, .len (.sl) (.t 49), none⟩, ⟨some 51, .bin (.eql) (.other) (.t 50) (.c (.int (.i64) 0)), none⟩, ⟨some 52, .mov (.t 51), none⟩, ⟨some 53, .call 11 [], some (52, true)⟩, ⟨some 54, .pick (.t 52) (.t 53) (.c (.bool false)), none⟩, ⟨some 4, .mov (.t 54), none⟩]) .ret) .skip)) (.seq (.ops [⟨some 56, .mov (.t 9), none⟩, ⟨some 57, .call 14 [.t 56], none⟩, ⟨some 55, .mov (.t 57), none⟩, ⟨some 58, .extract (.t 55) 0, none⟩, ⟨some 59, .extract (.t 55) 1, none⟩, ⟨some 11, .mov (.t 58), none⟩, ⟨some 12, .mov (.t 59), none⟩]) (.seq (.ops [⟨some 60, .mov (.t 12), none⟩, ⟨some 61, .bin (.eql) (.other) (.t 60) (.c (.int (.i64) 0)), none⟩, ⟨some 62, .mov (.t 61), none⟩, ⟨some 63, .mov (.t 11), some (62, true)⟩, ⟨some 64, .mov (.t 0), some (62, true)⟩, ⟨some 65, .bin (.eql) (.str) (.t 63) (.t 64), some (62, true)⟩, ⟨some 66, .pick (.t 62) (.t 65) (.c (.bool false)), none⟩, ⟨some 67, .mov (.t 66), none⟩, ⟨some 68, .mov (.t 9), some (67, true)⟩, ⟨some 69, .call 17 [.t 68], some (67, true)⟩, ⟨some 70, .pick (.t 67) (.t 69) (.c (.bool false)), none⟩, ⟨some 71, .mov (.t 70), none⟩, ⟨some 72, .call 11 [], some (71, true)⟩, ⟨some 73, .pick (.t 71) (.t 72) (.c (.bool false)), none⟩, ⟨some 4, .mov (.t 73), none⟩]) .ret)))))))))
theorem t5 : tab 5 = some ⟨74, [.tmp 4], b5⟩ := rfl
theorem errW_z {l : List Bs} (a : Asm (mayP l = true)) : errW l = 0 := if_pos a.out
theorem errW_2 {l : List Bs} (a : Asm (mayP l = false)) : errW l = 2 := if_neg (by rw [a.out]; decide)
theorem may_asmF {l : List Bs} (a : Asm (mayP l = false)) : mayP l = false := a.out
theorem resW_j {l : List Bs} (a : Asm (mayP l = true)) : resW l = joinI l := if_pos a.out
theorem err_asm {s : Bs} (a : Asm (errPath s = 0)) : errPath s = 0 := a.out
theorem bk2 {s : Bs} (a : Asm (resW (resPath s) = s)) : resW (resPath s) = s := a.out
theorem join_bytes {l : List Bs} (h : AllY l) : Bytes (joinI l) := by
  cases l with
  | nil => exact fun b hb => nomatch hb
  | cons p r =>
    intro b hb
    simp only [joinI, List.mem_append, List.mem_flatMap, List.mem_cons] at hb
    rcases hb with hb | ⟨q, hq, rfl | hb⟩
    · exact h p (by simp) b hb
    · decide
    · exact h q (List.mem_cons_of_mem _ hq) b hb
theorem go_Back (s : Bs) (hys : Bytes s) (hs : s.length ≤ 100000000) (l : List Bs) (hy : AllY l) {h : Heap} {V : AV} (hV : TAt h V l) : Runs (xcall X1 tab (.fn 5) [.str s, V] h) fun v h' => v = .bool true := by
  refine Runs.intro fun K hK => ?_
  have hjy := join_bytes hy
  cases hm : mayP l
  all_goals try have hbk := back1 hy hm
  all_goals try have hjs := join_short hm
  all_goals rw [w_fn rfl t5 (Nat.le_of_ble_eq_true rfl)]
  all_goals delta b5
  all_goals repeat' (first
    | simp (disch := first | exact qd | fail) only [WB, ↓WP, ↓WL, WR, WC, if_true, if_false, ite_true, ite_false, aop, ev, evs, readsA, List.replicate, numF, unA, resA, tupA, loadA, storeA, splice, fillA, kindsOk, plainEq, ↓reduceIte, Nat.reduceEqDiff, Nat.reduceLT, Int.reduceToNat, Int.reduceBEq, Int.reduceBNe, Nat.reduceAdd, Nat.reduceMul, Nat.reduceLeDiff, Int.reduceLT, Int.reduceSub, Int.reduceAdd, bk2, errW_z, errW_2, may_asm, may_asmF, resW_j, err_asm]
    | ((first | refine atC ?_ ?_ | refine atG ?_ ?_ | refine atH ?_ ?_ | refine atP ?_ ?_) <;> intro hc <;> (try rw [hc]) <;> (try simp only [BD] at hc) <;> try (exfalso; omega))
    | ((first
      | (refine Runs.call (lives_r _) ?_; rintro _ _ ⟨rfl, rfl⟩)
      | (refine Runs.call (name_Write l hy (hV.grow qg) qo) ?_; rintro _ _ ⟨rfl, gr⟩)
      | (refine Runs.call (name_May l hy (hV.grow qg) qo) ?_; rintro _ _ ⟨rfl, gr⟩)
      | (refine Runs.call (name_Path (joinI l) hjy qo _) ?_; rintro v3 H3 ⟨gr, w3, rfl, hw3⟩; have hbe := hbk.1; rw [hbk.2] at hw3)
      | (refine Runs.call (f0_Texts l l (hV.grow qg) (hw3.grow qg) qo) ?_; rintro _ _ ⟨rfl, rfl⟩)
      | (refine Runs.call (name_Path s hys hs _) ?_; rintro v4 H4 ⟨gr, w4, rfl, hw4⟩; have hpy := resPath_bytes hys; have hpl := resPath_len s; have hp0 := fun q => resPath_err (s := s) q; have hp2 := fun q => back2 (s := s) q)
      | (refine Runs.call (name_Write (resPath s) hpy (hw4.grow qg) qo) ?_; rintro _ _ ⟨rfl, gr⟩)
      | (refine Runs.call (name_May (resPath s) hpy (hw4.grow qg) qo) ?_; rintro _ _ ⟨rfl, gr⟩)
      | fail); all_goals ((try (have gn := gr.1; try simp only [nx_alloc, nx_set] at gn)); (try (have an := ha.num; try simp only [nx_alloc, nx_set, own_sl, own_nil] at an)); (try (have on := hO.num; try simp only [nx_alloc, nx_set] at on)); (try (have kn := hk.1; try simp only [nx_alloc, nx_set] at kn)); try have hB := hO.at)))
  all_goals try (first
    | (refine hK _ _ ?_; (first | rfl | (exfalso; exact hc rfl) | (exfalso; have q := hp0 (by assumption); omega) | (exfalso; have q := hp2 (by assumption); rw [q.1] at hc; cases hc) | (exfalso; have q := hp2 (by assumption); exact hc ((resW_j ⟨q.1⟩).trans q.2)) | (exfalso; have q := hp2 (by assumption); exact hc (errW_z ⟨q.1⟩)) | fail); done)
    | fail)
theorem txt_row {N k : Nat} {h h' : Heap} {cs : List AV} (hx : cellsX Tryd.prog N (k + 3) 9 h cs h') : ∃ x : Bs, cs = encT x ∧ Bytes x ∧ Grow h h' := by
  obtain ⟨key, rfl, w1, n1, rfl⟩ := cellsX_string Tryd.underlying9 hx
  exact ⟨key, rfl, wf_bytes w1, Grow.refl _⟩
theorem arg_txt {N : Nat} {h h' : Heap} {a : AV} (hx : argX Tryd.prog N 5 26 h a h') : ∃ l : List Bs, TAt h' a l ∧ AllY l ∧ l.length ≤ N ∧ Grow h h' := by
  obtain ⟨l, h1, h2, h3, h4⟩ := arg_rows (enc := encT) (Q := fun _ x => Bytes x) Tryd.underlying26 (by kernel_rfl) encT_len (fun q g => q) (fun hx => txt_row hx) hx
  exact ⟨l, h1, h2, h3, h4⟩
theorem run_Paths (N : Nat) (hN : N ≤ 1048576) : ∀ h xs, (∀ l, AV.str l ∈ xs → l.length ≤ 9223372036854775807) → argsT Tryd.prog N h 5 Tryd.f4.params.toList xs → argsX Tryd.prog N 5 Tryd.f4.params.toList emptyHeap xs h →
    ∃ n h', acall X1 tab n (.fn 4) xs h = some (.bool true, h') ∨ (AV.bares xs = true ∧ acall X1 tab n (.fn 4) xs emptyHeap = some (.bool true, h')) := by
  intro h xs hs _ hx
  rw [Tryd.params4] at hx
  obtain ⟨x, _, h3, rfl, e3, hx⟩ := argsX_cons hx
  obtain ⟨y, _, h4, rfl, e4, hx⟩ := argsX_cons hx
  obtain ⟨rfl, rfl⟩ := argsX_nil hx
  obtain ⟨x, rfl, w1, n1, rfl⟩ := argX_string Tryd.underlying9 e3
  obtain ⟨l, c1, q1, n2, g1⟩ := arg_txt e4
  obtain ⟨v, h', e, rfl⟩ := go_Paths x (wf_bytes w1) qo l q1 c1
  exact ranX e
theorem run_Back (N : Nat) (hN : N ≤ 1048576) : ∀ h xs, (∀ l, AV.str l ∈ xs → l.length ≤ 9223372036854775807) → argsT Tryd.prog N h 5 Tryd.f5.params.toList xs → argsX Tryd.prog N 5 Tryd.f5.params.toList emptyHeap xs h →
    ∃ n h', acall X1 tab n (.fn 5) xs h = some (.bool true, h') ∨ (AV.bares xs = true ∧ acall X1 tab n (.fn 5) xs emptyHeap = some (.bool true, h')) := by
  intro h xs hs _ hx
  rw [Tryd.params5] at hx
  obtain ⟨x, _, h3, rfl, e3, hx⟩ := argsX_cons hx
  obtain ⟨y, _, h4, rfl, e4, hx⟩ := argsX_cons hx
  obtain ⟨rfl, rfl⟩ := argsX_nil hx
  obtain ⟨x, rfl, w1, n1, rfl⟩ := argX_string Tryd.underlying9 e3
  obtain ⟨l, c1, q1, n2, g1⟩ := arg_txt e4
  obtain ⟨v, h', e, rfl⟩ := go_Back x (wf_bytes w1) qo l q1 c1
  exact ranX e
end Go.Proofs.YtpdfpbdkiaekpaaDoor.Ya

