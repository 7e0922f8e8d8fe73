/-
  Names: runes and names of the document; the runs of NameTells and NamePieces.
-/
import Derived.Test.YtpdfpbdkiaekpaaDoorYaNaA
import Derived.Test.YtpdfpbdkiaekpaaDoorYbL
namespace Go.Proofs.YtpdfpbdkiaekpaaDoor.Ya
open Go.Ya Go.Ya.Na
set_option linter.unusedVariables false
set_option linter.unusedSimpArgs false
set_option maxRecDepth 100000
set_option maxHeartbeats 8000000

theorem pt_asm {t : Bs} {x : Nat × Nat} (a : Asm (ptP t = x)) : ptP t = x := a.out
theorem all_at {s : Bs} (h : ∀ i, i < s.length → goodB (s.getD i 0) = true) : s.all goodB = true := by
  rw [List.all_eq_true]
  intro b hb
  obtain ⟨i, hi, rfl⟩ := List.getElem_of_mem hb
  have := h i hi
  rwa [List.getD_eq_getElem?_getD, List.getElem?_eq_getElem hi] at this
theorem all_no {s : Bs} {i : Nat} (hi : i < s.length) (h : goodB (s.getD i 0) = false) : s.all goodB = false := by
  cases e : s.all goodB with
  | false => rfl
  | true =>
    rw [List.all_eq_true] at e
    have := e (s.getD i 0) (by rw [List.getD_eq_getElem?_getD, List.getElem?_eq_getElem hi]; exact List.getElem_mem hi)
    rw [h] at this; cases this
theorem good_t {b : Int} (h1 : 32 ≤ b) (h2 : ¬ b = 127) (h3 : ¬ b = 47) : goodB b = true := by unfold goodB; simp; omega
theorem good_f {b : Int} (h : b < 32 ∨ b = 127 ∨ b = 47) : goodB b = false := by
  unfold goodB
  rcases h with h | rfl | rfl
  · rw [show decide (32 ≤ b) = false from decide_eq_false qo]; rfl
  · rfl
  · rfl
theorem isD_no {s : Bs} (hy : Bytes s) (h : s.all goodB = false) : isP s = false := by rw [isP_doc hy, h]; simp
theorem isD_go {s : Bs} (hy : Bytes s) (h1 : 1 ≤ s.length) (h2 : s.length ≤ 32) (h3 : ¬ s = [46]) (h4 : ¬ s = [46, 46]) (h : s.all goodB = true) : isP s = (runesP everyP s).isSome := by
  rw [isP_doc hy, h]; simp [h1, h2, h3, h4]
theorem lives_r (h : Heap) : Runs (xcall X1 tab (.fn 11) [] h) fun v h' => v = .bool true ∧ h = h' := Runs.eq (lives8 h)
def L8_0 : SC := (.seq (.seq (.ops [⟨some 8, .mov (.t 5), none⟩, ⟨some 9, .mov (.t 0), none⟩, ⟨some 10, .len (.str) (.t 9), none⟩, ⟨some 11, .bin (.lss) (.other) (.t 8) (.t 10), none⟩]) (.cond (.t 11) .skip (.exit 0))) (.seq (.block 1 (.seq (.ops [⟨some 15, .mov (.t 0), none⟩, ⟨some 16, .mov (.t 5), none⟩, ⟨some 17, .call 21 [.t 15, .t 16], none⟩, ⟨some 14, .mov (.t 17), none⟩, ⟨some 18, .extract (.t 14) 0, none⟩, ⟨some 19, .extract (.t 14) 1, none⟩, ⟨some 6, .mov (.t 18), none⟩, ⟨some 7, .mov (.t 19), none⟩]) (.seq (.seq (.ops [⟨some 20, .mov (.t 7), none⟩, ⟨some 21, .bin (.eql) (.other) (.t 20) (.c (.int (.i64) 0)), none⟩]) (.cond (.t 21) (.seq (.ops [⟨some 2, .mov (.c (.int (.i64) 0)), none⟩, ⟨some 3, .mov (.c (.bool false)), none⟩]) .ret) .skip)) (.ops [⟨some 22, .mov (.t 5), none⟩, ⟨some 23, .mov (.t 7), none⟩, ⟨some 24, .bin (.add) (.other) (.t 22) (.t 23), none⟩, ⟨some 5, .mov (.t 24), none⟩])))) (.ops [⟨some 12, .mov (.t 4), none⟩, ⟨some 13, .bin (.add) (.other) (.t 12) (.c (.int (.i64) 1)), none⟩, ⟨some 4, .mov (.t 13), none⟩])))
def b8 : SC := (.seq (.ops [⟨some 2, .mov (.c (.int (.i64) 0)), none⟩, ⟨some 3, .mov (.c (.bool false)), none⟩]) (.seq (.ops [⟨some 4, .mov (.c (.int (.i64) 0)), none⟩]) (.seq (.seq (.ops [⟨some 5, .mov (.c (.int (.i64) 0)), none⟩]) (.block 0 (.loop L8_0))) (.seq (.ops [⟨some 25, .mov (.t 4), none⟩, ⟨some 2, .mov (.t 25), none⟩, ⟨some 3, .mov (.c (.bool true)), none⟩]) .ret))))
theorem t8 : tab 8 = some ⟨26, [.tmp 2, .tmp 3], b8⟩ := rfl
theorem ref_Runes (s : Bs) (hy : Bytes s) (hl : s.length ≤ 4611686018427387904) (h : Heap) : Runs (xcall X1 tab (.fn 8) [.str s] h) fun v h' => v = .tuple [.int .i64 ((runesP everyP s).getD 0 : Nat), .bool (runesP everyP s).isSome] ∧ h = h' := by
  refine Runs.intro fun K hK => ?_
  rw [w_fn rfl t8 (Nat.le_of_ble_eq_true rfl)]
  delta b8
  repeat' (first
    | simp (disch := first | exact qd | fail) only [WB, ↓WP, ↓WL, WR, WC, if_true, if_false, ite_true, ite_false, aop, ev, evs, readsA, List.replicate, numF, unA, resA, tupA, loadA, storeA, splice, fillA, kindsOk, plainEq, ↓reduceIte, Nat.reduceEqDiff, Nat.reduceLT, Int.reduceToNat, Int.reduceBEq, Int.reduceBNe, Nat.reduceAdd, Nat.reduceMul, Nat.reduceLeDiff, Int.reduceLT, Int.reduceSub, Int.reduceAdd, pt_asm]
    | ((first | refine atC ?_ ?_ | refine atG ?_ ?_ | refine atH ?_ ?_ | refine atP ?_ ?_) <;> intro hc <;> (try rw [hc]) <;> (try simp only [BD] at hc) <;> try (exfalso; omega)))
  all_goals try (first
    | (refine hK _ _ ?_; (first | (have q := run_some (run_done hr qo); exact ⟨by rw [q.2, ← q.1], rfl⟩) | (have q := run_none (run_bad hr qo hp); exact ⟨by rw [q.2, ← q.1], rfl⟩) | fail); done)
    | fail)
  all_goals
    refine wloop (α := Nat × Nat) [0] (fun x => [(4, .int .i64 (x.2 : Nat)), (5, .int .i64 (x.1 : Nat))]) (fun x H => h = H ∧ x.1 ≤ s.length ∧ runesP everyP s = (runesP everyP (s.drop x.1)).map (· + x.2) ∧ x.2 ≤ x.1) (fun x => s.length - x.1) ?_ ((0, 0)) ?_ ?_
    rotate_left
    · exact qf
    · (try dsimp only)
      exact ⟨rfl, by omega, by simp, by omega⟩
    intro x b1 H hI ih
    obtain ⟨k, n⟩ := x
    try dsimp only at hI
    obtain ⟨rfl, hk, hr, hnk⟩ := hI
    try have gn := g.1
    refine w_unfold (by delta L8_0; rfl) ?_
    simp only [keeps_nil, keeps_cons, List.cons_append, List.nil_append, lk_cons, lk_nil, numF, Nat.reduceEqDiff, Nat.reduceAdd, Nat.zero_add, ↓reduceIte]
    repeat' (first
      | simp (disch := first | exact qd | fail) only [WB, ↓WP, ↓WL, WR, WC, if_true, if_false, ite_true, ite_false, aop, ev, evs, readsA, List.replicate, numF, unA, resA, tupA, loadA, storeA, splice, fillA, kindsOk, plainEq, ↓reduceIte, Nat.reduceEqDiff, Nat.reduceLT, Int.reduceToNat, Int.reduceBEq, Int.reduceBNe, Nat.reduceAdd, Nat.reduceMul, Nat.reduceLeDiff, Int.reduceLT, Int.reduceSub, Int.reduceAdd, pt_asm]
      | ((first | refine atC ?_ ?_ | refine atG ?_ ?_ | refine atH ?_ ?_ | refine atP ?_ ?_) <;> intro hc <;> (try rw [hc]) <;> (try simp only [BD] at hc) <;> try (exfalso; omega))
      | ((first
        | (refine Runs.call (ref_point s hy hl (k := k) qo _) ?_; rintro _ _ ⟨rfl, rfl⟩; rcases raw_cases (s.drop k) with ⟨hp, hraw⟩ | ⟨r, w, ha⟩; rotate_left; (have hraw := ha.pt; have hwp := ha.pos; have hw4 := ha.four; have hwl := ha.len (by rw [List.length_drop]; omega); rw [List.length_drop] at hwl; have htop := ha.top))
        | fail); all_goals ((try (have gn := gr.1; try simp only [nx_alloc, nx_set] at gn)); (try (have an := ha.num; try simp only [nx_alloc, nx_set, own_sl, own_nil] at an)); (try (have on := hO.num; try simp only [nx_alloc, nx_set] at on)); (try (have kn := hk.1; try simp only [nx_alloc, nx_set] at kn)); try have hB := hO.at)))
    all_goals try (first
      | exact ih ((k + w, n + 1)) _ _ _ (by ((try dsimp only); omega)) qf (by ((try dsimp only); (first | (exact ⟨rfl, by omega, run_next hr qo ha rfl, by omega⟩) | fail)))
      | (refine hK _ _ ?_; (first | (have q := run_some (run_done hr qo); exact ⟨by rw [q.2, ← q.1], rfl⟩) | (have q := run_none (run_bad hr qo hp); exact ⟨by rw [q.2, ← q.1], rfl⟩) | fail); done)
      | fail)
def L10_0 : SC := (.seq (.seq (.ops [⟨some 22, .mov (.t 3), none⟩, ⟨some 23, .mov (.t 0), none⟩, ⟨some 24, .len (.str) (.t 23), none⟩, ⟨some 25, .bin (.lss) (.other) (.t 22) (.t 24), none⟩]) (.cond (.t 25) .skip (.exit 0))) (.seq (.block 1 (.seq (.ops [⟨some 28, .mov (.t 0), none⟩, ⟨some 29, .mov (.t 3), none⟩, ⟨some 30, .idxStr (.t 28) (.t 29), none⟩, ⟨some 31, .bin (.lss) (.other) (.t 30) (.c (.int (.u8) 32)), none⟩, ⟨some 32, .mov (.t 31), none⟩, ⟨some 33, .mov (.t 0), some (32, false)⟩, ⟨some 34, .mov (.t 3), some (32, false)⟩, ⟨some 35, .idxStr (.t 33) (.t 34), some (32, false)⟩, ⟨some 36, .bin (.eql) (.other) (.t 35) (.c (.int (.u8) 127)), some (32, false)⟩, ⟨some 37, .pick (.t 32) (.c (.bool true)) (.t 36), none⟩, ⟨some 38, .mov (.t 37), none⟩, ⟨some 39, .mov (.t 0), some (38, false)⟩, ⟨some 40, .mov (.t 3), some (38, false)⟩, ⟨some 41, .idxStr (.t 39) (.t 40), some (38, false)⟩, ⟨some 42, .bin (.eql) (.other) (.t 41) (.c (.int (.u8) 47)), some (38, false)⟩, ⟨some 43, .pick (.t 38) (.c (.bool true)) (.t 42), none⟩]) (.cond (.t 43) (.seq (.ops [⟨some 2, .mov (.c (.bool false)), none⟩]) .ret) .skip))) (.ops [⟨some 26, .mov (.t 3), none⟩, ⟨some 27, .bin (.add) (.other) (.t 26) (.c (.int (.i64) 1)), none⟩, ⟨some 3, .mov (.t 27), none⟩])))
def b10 : SC := (.seq (.ops [⟨some 2, .mov (.c (.bool false)), none⟩]) (.seq (.seq (.ops [⟨some 6, .mov (.t 0), none⟩, ⟨some 7, .len (.str) (.t 6), none⟩, ⟨some 8, .bin (.lss) (.other) (.t 7) (.c (.int (.i64) 1)), none⟩, ⟨some 9, .mov (.t 8), none⟩, ⟨some 10, .mov (.t 0), some (9, false)⟩, ⟨some 11, .len (.str) (.t 10), some (9, false)⟩, ⟨some 12, .bin (.gtr) (.other) (.t 11) (.c (.int (.i64) 32)), some (9, false)⟩, ⟨some 13, .pick (.t 9) (.c (.bool true)) (.t 12), none⟩, ⟨some 14, .mov (.t 13), none⟩, ⟨some 15, .mov (.t 0), some (14, false)⟩, ⟨some 16, .bin (.eql) (.str) (.t 15) (.c (.str [46])), some (14, false)⟩, ⟨some 17, .pick (.t 14) (.c (.bool true)) (.t 16), none⟩, ⟨some 18, .mov (.t 17), none⟩, ⟨some 19, .mov (.t 0), some (18, false)⟩, ⟨some 20, .bin (.eql) (.str) (.t 19) (.c (.str [46, 46])), some (18, false)⟩, ⟨some 21, .pick (.t 18) (.c (.bool true)) (.t 20), none⟩]) (.cond (.t 21) (.seq (.ops [⟨some 2, .mov (.c (.bool false)), none⟩]) .ret) .skip)) (.seq (.seq (.ops [⟨some 3, .mov (.c (.int (.i64) 0)), none⟩]) (.block 0 (.loop L10_0))) (.seq (.ops [⟨some 45, .mov (.t 0), none⟩, ⟨some 46, .call 8 [.t 45], none⟩, ⟨some 44, .mov (.t 46), none⟩, ⟨some 47, .extract (.t 44) 0, none⟩, ⟨some 48, .extract (.t 44) 1, none⟩, ⟨some 4, .mov (.t 47), none⟩, ⟨some 5, .mov (.t 48), none⟩]) (.seq (.ops [⟨some 49, .mov (.t 5), none⟩, ⟨some 2, .mov (.t 49), none⟩]) .ret)))))
theorem t10 : tab 10 = some ⟨50, [.tmp 2], b10⟩ := rfl
theorem ref_Is (s : Bs) (hy : Bytes s) (h : Heap) : Runs (xcall X1 tab (.fn 10) [.str s] h) fun v h' => v = .bool (isP s) ∧ h = h' := by
  refine Runs.intro fun K hK => ?_
  rw [w_fn rfl t10 (Nat.le_of_ble_eq_true rfl)]
  delta b10
  repeat' (first
    | simp (disch := first | exact qd | fail) only [WB, ↓WP, ↓WL, WR, WC, if_true, if_false, ite_true, ite_false, aop, ev, evs, readsA, List.replicate, numF, unA, resA, tupA, loadA, storeA, splice, fillA, kindsOk, plainEq, ↓reduceIte, Nat.reduceEqDiff, Nat.reduceLT, Int.reduceToNat, Int.reduceBEq, Int.reduceBNe, Nat.reduceAdd, Nat.reduceMul, Nat.reduceLeDiff, Int.reduceLT, Int.reduceSub, Int.reduceAdd]
    | ((first | refine atC ?_ ?_ | refine atG ?_ ?_ | refine atH ?_ ?_ | refine atP ?_ ?_) <;> intro hc <;> (try rw [hc]) <;> (try simp only [BD] at hc) <;> try (exfalso; omega))
    | ((first
      | (refine Runs.call (ref_Runes s hy qo _) ?_; rintro _ _ ⟨rfl, rfl⟩)
      | fail); all_goals ((try (have gn := gr.1; try simp only [nx_alloc, nx_set] at gn)); (try (have an := ha.num; try simp only [nx_alloc, nx_set, own_sl, own_nil] at an)); (try (have on := hO.num; try simp only [nx_alloc, nx_set] at on)); (try (have kn := hk.1; try simp only [nx_alloc, nx_set] at kn)); try have hB := hO.at)))
  all_goals try (first
    | (refine hK _ _ ?_; (first | exact ⟨by rw [isP_no (.inl (List.eq_nil_of_length_eq_zero qo))], rfl⟩ | exact ⟨by rw [isP_no (.inr (.inl qo))], rfl⟩ | exact ⟨by rw [isP_no (.inr (.inr (.inl (by assumption))))], rfl⟩ | exact ⟨by rw [isP_no (.inr (.inr (.inr (by assumption))))], rfl⟩ | exact ⟨by rw [isD_no hy (all_no (i := i) qo (good_f qo))], rfl⟩ | exact ⟨by rw [isD_go hy qo qo (by assumption) (by assumption) (all_at (fun j q => hj j qo))], rfl⟩ | fail); done)
    | fail)
  all_goals
    refine wloop (α := Nat) [0] (fun x => [(3, .int .i64 (x : Nat))]) (fun x H => h = H ∧ x ≤ s.length ∧ ∀ j, j < x → goodB (s.getD j 0) = true) (fun x => s.length - x) ?_ (0) ?_ ?_
    rotate_left
    · exact qf
    · (try dsimp only)
      exact ⟨rfl, by omega, fun j q => absurd q qo⟩
    intro i b1 H hI ih
    try dsimp only at hI
    obtain ⟨rfl, hi, hj⟩ := hI
    try have gn := g.1
    refine w_unfold (by delta L10_0; rfl) ?_
    simp only [keeps_nil, keeps_cons, List.cons_append, List.nil_append, lk_cons, lk_nil, numF, Nat.reduceEqDiff, Nat.reduceAdd, Nat.zero_add, ↓reduceIte]
    repeat' (first
      | simp (disch := first | exact qd | fail) only [WB, ↓WP, ↓WL, WR, WC, if_true, if_false, ite_true, ite_false, aop, ev, evs, readsA, List.replicate, numF, unA, resA, tupA, loadA, storeA, splice, fillA, kindsOk, plainEq, ↓reduceIte, Nat.reduceEqDiff, Nat.reduceLT, Int.reduceToNat, Int.reduceBEq, Int.reduceBNe, Nat.reduceAdd, Nat.reduceMul, Nat.reduceLeDiff, Int.reduceLT, Int.reduceSub, Int.reduceAdd]
      | ((first | refine atC ?_ ?_ | refine atG ?_ ?_ | refine atH ?_ ?_ | refine atP ?_ ?_) <;> intro hc <;> (try rw [hc]) <;> (try simp only [BD] at hc) <;> try (exfalso; omega))
      | ((first
        | (refine Runs.call (ref_Runes s hy qo _) ?_; rintro _ _ ⟨rfl, rfl⟩)
        | fail); all_goals ((try (have gn := gr.1; try simp only [nx_alloc, nx_set] at gn)); (try (have an := ha.num; try simp only [nx_alloc, nx_set, own_sl, own_nil] at an)); (try (have on := hO.num; try simp only [nx_alloc, nx_set] at on)); (try (have kn := hk.1; try simp only [nx_alloc, nx_set] at kn)); try have hB := hO.at)))
    all_goals try (first
      | exact ih (i + 1) _ _ _ (by ((try dsimp only); omega)) qf (by ((try dsimp only); (first | (exact ⟨rfl, by omega, pre_succ hj (good_t qo (by assumption) (by assumption))⟩) | fail)))
      | (refine hK _ _ ?_; (first | exact ⟨by rw [isP_no (.inl (List.eq_nil_of_length_eq_zero qo))], rfl⟩ | exact ⟨by rw [isP_no (.inr (.inl qo))], rfl⟩ | exact ⟨by rw [isP_no (.inr (.inr (.inl (by assumption))))], rfl⟩ | exact ⟨by rw [isP_no (.inr (.inr (.inr (by assumption))))], rfl⟩ | exact ⟨by rw [isD_no hy (all_no (i := i) qo (good_f qo))], rfl⟩ | exact ⟨by rw [isD_go hy qo qo (by assumption) (by assumption) (all_at (fun j q => hj j qo))], rfl⟩ | fail); done)
      | fail)
def b3 : SC := (.seq (.ops [⟨some 2, .mov (.c (.bool false)), none⟩]) (.seq (.ops [⟨some 8, .mov (.t 0), none⟩, ⟨some 9, .call 7 [.t 8], none⟩, ⟨some 7, .mov (.t 9), none⟩, ⟨some 10, .extract (.t 7) 0, none⟩, ⟨some 11, .extract (.t 7) 1, none⟩, ⟨some 3, .mov (.t 10), none⟩, ⟨some 4, .mov (.t 11), none⟩]) (.seq (.ops [⟨some 13, .mov (.t 0), none⟩, ⟨some 14, .call 8 [.t 13], none⟩, ⟨some 12, .mov (.t 14), none⟩, ⟨some 15, .extract (.t 12) 0, none⟩, ⟨some 16, .extract (.t 12) 1, none⟩, ⟨some 5, .mov (.t 15), none⟩, ⟨some 6, .mov (.t 16), none⟩]) (.seq (.ops [⟨some 17, .mov (.t 0), none⟩, ⟨some 18, .call 9 [.t 17], none⟩, ⟨some 19, .mov (.t 0), none⟩, ⟨some 20, .call 10 [.t 19], none⟩, ⟨some 21, .bin (.eql) (.bool) (.t 18) (.t 20), none⟩, ⟨some 22, .mov (.t 21), none⟩, ⟨some 23, .mov (.t 3), some (22, true)⟩, ⟨some 24, .mov (.t 5), some (22, true)⟩, ⟨some 25, .bin (.eql) (.other) (.t 23) (.t 24), some (22, true)⟩, ⟨some 26, .pick (.t 22) (.t 25) (.c (.bool false)), none⟩, ⟨some 27, .mov (.t 26), none⟩, ⟨some 28, .mov (.t 4), some (27, true)⟩, ⟨some 29, .mov (.t 6), some (27, true)⟩, ⟨some 30, .bin (.eql) (.bool) (.t 28) (.t 29), some (27, true)⟩, ⟨some 31, .pick (.t 27) (.t 30) (.c (.bool false)), none⟩, ⟨some 32, .mov (.t 31), none⟩, ⟨some 33, .call 11 [], some (32, true)⟩, ⟨some 34, .pick (.t 32) (.t 33) (.c (.bool false)), none⟩, ⟨some 2, .mov (.t 34), none⟩]) .ret))))
theorem t3 : tab 3 = some ⟨35, [.tmp 2], b3⟩ := rfl
theorem go_Tells (s : Bs) (hy : Bytes s) (hl : s.length ≤ 4611686018427387904) (h : Heap) : Runs (xcall X1 tab (.fn 3) [.str s] h) fun v h' => v = .bool true := by
  refine Runs.intro fun K hK => ?_
  rw [w_fn rfl t3 (Nat.le_of_ble_eq_true rfl)]
  delta b3
  repeat' (first
    | simp (disch := first | exact qd | fail) only [WB, ↓WP, ↓WL, WR, WC, if_true, if_false, ite_true, ite_false, aop, ev, evs, readsA, List.replicate, numF, unA, resA, tupA, loadA, storeA, splice, fillA, kindsOk, plainEq, ↓reduceIte, Nat.reduceEqDiff, Nat.reduceLT, Int.reduceToNat, Int.reduceBEq, Int.reduceBNe, Nat.reduceAdd, Nat.reduceMul, Nat.reduceLeDiff, Int.reduceLT, Int.reduceSub, Int.reduceAdd]
    | ((first | refine atC ?_ ?_ | refine atG ?_ ?_ | refine atH ?_ ?_ | refine atP ?_ ?_) <;> intro hc <;> (try rw [hc]) <;> (try simp only [BD] at hc) <;> try (exfalso; omega))
    | ((first
      | (refine Runs.call (name_Runes s hy qo _) ?_; rintro _ _ ⟨rfl, gr⟩)
      | (refine Runs.call (ref_Runes s hy hl _) ?_; rintro _ _ ⟨rfl, rfl⟩)
      | (refine Runs.call (name_Is s hy _) ?_; rintro _ _ ⟨rfl, gr⟩)
      | (refine Runs.call (ref_Is s hy _) ?_; rintro _ _ ⟨rfl, rfl⟩)
      | (refine Runs.call (lives_r _) ?_; rintro _ _ ⟨rfl, rfl⟩)
      | fail); all_goals ((try (have gn := gr.1; try simp only [nx_alloc, nx_set] at gn)); (try (have an := ha.num; try simp only [nx_alloc, nx_set, own_sl, own_nil] at an)); (try (have on := hO.num; try simp only [nx_alloc, nx_set] at on)); (try (have kn := hk.1; try simp only [nx_alloc, nx_set] at kn)); try have hB := hO.at)))
  all_goals try (first
    | (refine hK _ _ ?_; (first | rfl | (exfalso; exact hc rfl) | fail); done)
    | fail)
def b6 : SC := (.seq (.ops [⟨some 4, .mov (.c (.bool false)), none⟩]) (.seq (.ops [⟨some 12, .mov (.t 0), none⟩, ⟨some 13, .call 7 [.t 12], none⟩, ⟨some 11, .mov (.t 13), none⟩, ⟨some 14, .extract (.t 11) 0, none⟩, ⟨some 15, .extract (.t 11) 1, none⟩, ⟨some 5, .mov (.t 14), none⟩, ⟨some 6, .mov (.t 15), none⟩]) (.seq (.ops [⟨some 17, .mov (.t 1), none⟩, ⟨some 18, .call 7 [.t 17], none⟩, ⟨some 16, .mov (.t 18), none⟩, ⟨some 19, .extract (.t 16) 0, none⟩, ⟨some 20, .extract (.t 16) 1, none⟩, ⟨some 7, .mov (.t 19), none⟩, ⟨some 8, .mov (.t 20), none⟩]) (.seq (.ops [⟨some 22, .mov (.t 0), none⟩, ⟨some 23, .mov (.t 1), none⟩, ⟨some 24, .bin (.add) (.str) (.t 22) (.t 23), none⟩, ⟨some 25, .call 7 [.t 24], none⟩, ⟨some 21, .mov (.t 25), none⟩, ⟨some 26, .extract (.t 21) 0, none⟩, ⟨some 27, .extract (.t 21) 1, none⟩, ⟨some 9, .mov (.t 26), none⟩, ⟨some 10, .mov (.t 27), none⟩]) (.seq (.seq (.ops [⟨some 28, .mov (.t 6), none⟩, ⟨some 29, .mov (.t 28), none⟩, ⟨some 30, .mov (.t 8), some (29, true)⟩, ⟨some 31, .pick (.t 29) (.t 30) (.c (.bool false)), none⟩]) (.cond (.t 31) (.seq (.ops [⟨some 32, .mov (.t 10), none⟩, ⟨some 33, .mov (.t 32), none⟩, ⟨some 34, .mov (.t 9), some (33, true)⟩, ⟨some 35, .mov (.t 5), some (33, true)⟩, ⟨some 36, .mov (.t 7), some (33, true)⟩, ⟨some 37, .bin (.add) (.other) (.t 35) (.t 36), some (33, true)⟩, ⟨some 38, .bin (.eql) (.other) (.t 34) (.t 37), some (33, true)⟩, ⟨some 39, .pick (.t 33) (.t 38) (.c (.bool false)), none⟩, ⟨some 40, .mov (.t 39), none⟩, ⟨some 41, .call 11 [], some (40, true)⟩, ⟨some 42, .pick (.t 40) (.t 41) (.c (.bool false)), none⟩, ⟨some 4, .mov (.t 42), none⟩]) .ret) .skip)) (.seq (.seq (.ops [⟨some 43, .mov (.t 6), none⟩, ⟨some 44, .mov (.t 8), none⟩, ⟨some 45, .bin (.neq) (.bool) (.t 43) (.t 44), none⟩]) (.cond (.t 45) (.seq (.ops [⟨some 46, .mov (.t 10), none⟩, ⟨some 47, .un (.not) (.t 46), none⟩, ⟨some 48, .mov (.t 47), none⟩, ⟨some 49, .mov (.t 9), some (48, true)⟩, ⟨some 50, .bin (.eql) (.other) (.t 49) (.c (.int (.i64) 0)), some (48, true)⟩, ⟨some 51, .pick (.t 48) (.t 50) (.c (.bool false)), none⟩, ⟨some 52, .mov (.t 51), none⟩, ⟨some 53, .call 11 [], some (52, true)⟩, ⟨some 54, .pick (.t 52) (.t 53) (.c (.bool false)), none⟩, ⟨some 4, .mov (.t 54), none⟩]) .ret) .skip)) (.seq (.ops [⟨some 55, .call 11 [], none⟩, ⟨some 4, .mov (.t 55), none⟩]) .ret)))))))
theorem t6 : tab 6 = some ⟨56, [.tmp 4], b6⟩ := rfl
theorem app_run {a b : Bs} : (∃ n m, runesP everyP a = some n ∧ runesP everyP b = some m ∧ runesP everyP (a ++ b) = some (m + n)) ∨ (∃ n, runesP everyP a = some n ∧ runesP everyP b = none ∧ runesP everyP (a ++ b) = none) ∨
    (∃ n, runesP everyP b = some n ∧ runesP everyP a = none ∧ runesP everyP (a ++ b) = none) ∨ (runesP everyP a = none ∧ runesP everyP b = none) := by
  cases ha : runesP everyP a with
  | some n =>
    have := runes_app _ (u := b) (Nat.le_refl _) ha
    cases hb : runesP everyP b with
    | some m => rw [hb] at this; exact .inl ⟨n, m, rfl, rfl, this⟩
    | none => rw [hb] at this; exact .inr (.inl ⟨n, rfl, rfl, this⟩)
  | none =>
    cases hb : runesP everyP b with
    | some m => exact .inr (.inr (.inl ⟨m, rfl, rfl, runes_none _ (Nat.le_refl _) ha (by rw [hb]; exact fun e => nomatch e)⟩))
    | none => exact .inr (.inr (.inr ⟨rfl, rfl⟩))
theorem run_len {s : Bs} {n : Nat} (e : runesP everyP s = some n) : n ≤ s.length := by
  have key : ∀ (k : Nat) (t : Bs) (n : Nat), t.length ≤ k → runesP everyP t = some n → n ≤ t.length := by
    intro k
    induction k with
    | zero => intro t n hk e; rw [runesP_nil _ qo] at e; cases e; omega
    | succ k ih =>
      intro t n hk e
      by_cases h0 : t.length = 0
      · rw [runesP_nil _ h0] at e; cases e; omega
      rcases raw_cases t with ⟨q, _⟩ | ⟨r, w, a⟩
      · rw [runesP_bad qo (by rw [q])] at e; cases e
      · have := a.pos
        have := a.len qo
        rw [runesP_step qo a rfl] at e
        obtain ⟨m, hm, rfl⟩ := Option.map_eq_some_iff.1 e
        have := ih _ _ (by rw [List.length_drop]; omega) hm
        rw [List.length_drop] at this
        omega
  exact key _ _ _ (Nat.le_refl _) e
theorem rn_asm {t : Bs} {x : Option Nat} (a : Asm (runesP everyP t = x)) : runesP everyP t = x := a.out
theorem gs0 {n : Nat} : (some n).getD 0 = n := rfl
theorem gn0 : (none : Option Nat).getD 0 = 0 := rfl
theorem go_Pieces (a b : Bs) (hya : Bytes a) (hyb : Bytes b) (ha : a.length ≤ 1000000000) (hb : b.length ≤ 1000000000) (h : Heap) : Runs (xcall X1 tab (.fn 6) [.str a, .str b] h) fun v h' => v = .bool true := by
  refine Runs.intro fun K hK => ?_
  have hyab : Bytes (a ++ b) := fun x hx => (List.mem_append.1 hx).elim (hya x) (hyb x)
  have hab : (a ++ b).length = a.length + b.length := List.length_append
  have hra := fun n e => run_len (s := a) (n := n) e
  have hrb := fun n e => run_len (s := b) (n := n) e
  rcases app_run (a := a) (b := b) with ⟨n, m, e1, e2, e3⟩ | ⟨n, e1, e2, e3⟩ | ⟨n, e2, e1, e3⟩ | ⟨e1, e2⟩ <;> (try have hn := hra _ e1) <;> (try have hm := hrb _ e2)
  all_goals rw [w_fn rfl t6 (Nat.le_of_ble_eq_true rfl)]
  all_goals delta b6
  all_goals repeat' (first
    | simp (disch := first | exact qd | fail) only [WB, ↓WP, ↓WL, WR, WC, if_true, if_false, ite_true, ite_false, aop, ev, evs, readsA, List.replicate, numF, unA, resA, tupA, loadA, storeA, splice, fillA, kindsOk, plainEq, ↓reduceIte, Nat.reduceEqDiff, Nat.reduceLT, Int.reduceToNat, Int.reduceBEq, Int.reduceBNe, Nat.reduceAdd, Nat.reduceMul, Nat.reduceLeDiff, Int.reduceLT, Int.reduceSub, Int.reduceAdd, rn_asm, gs0, gn0]
    | ((first | refine atC ?_ ?_ | refine atG ?_ ?_ | refine atH ?_ ?_ | refine atP ?_ ?_) <;> intro hc <;> (try rw [hc]) <;> (try simp only [BD] at hc) <;> try (exfalso; omega))
    | ((first
      | (refine Runs.call (name_Runes a hya qo _) ?_; rintro _ _ ⟨rfl, gr⟩)
      | (refine Runs.call (name_Runes b hyb qo _) ?_; rintro _ _ ⟨rfl, gr⟩)
      | (refine Runs.call (name_Runes (a ++ b) hyab qo _) ?_; rintro _ _ ⟨rfl, gr⟩)
      | (refine Runs.call (lives_r _) ?_; rintro _ _ ⟨rfl, rfl⟩)
      | fail); all_goals ((try (have gn := gr.1; try simp only [nx_alloc, nx_set] at gn)); (try (have an := ha.num; try simp only [nx_alloc, nx_set, own_sl, own_nil] at an)); (try (have on := hO.num; try simp only [nx_alloc, nx_set] at on)); (try (have kn := hk.1; try simp only [nx_alloc, nx_set] at kn)); try have hB := hO.at)))
  all_goals try (first
    | (refine hK _ _ ?_; (first | rfl | (exfalso; omega) | fail); done)
    | fail)
theorem run_Tells (N : Nat) (hN : N ≤ 1048576) : ∀ h xs, (∀ l, AV.str l ∈ xs → l.length ≤ 9223372036854775807) → argsT Tryd.prog N h 5 Tryd.f3.params.toList xs → argsX Tryd.prog N 5 Tryd.f3.params.toList emptyHeap xs h →
    ∃ n h', acall X1 tab n (.fn 3) xs h = some (.bool true, h') ∨ (AV.bares xs = true ∧ acall X1 tab n (.fn 3) xs emptyHeap = some (.bool true, h')) := by
  intro h xs hs _ hx
  rw [Tryd.params3] at hx
  obtain ⟨x, _, h3, rfl, e3, hx⟩ := argsX_cons hx
  obtain ⟨rfl, rfl⟩ := argsX_nil hx
  obtain ⟨x, rfl, w1, n1, rfl⟩ := argX_string Tryd.underlying9 e3
  obtain ⟨v, h', e, rfl⟩ := go_Tells x (wf_bytes w1) qo _
  exact ranX e
theorem run_Pieces (N : Nat) (hN : N ≤ 1048576) : ∀ h xs, (∀ l, AV.str l ∈ xs → l.length ≤ 9223372036854775807) → argsT Tryd.prog N h 5 Tryd.f6.params.toList xs → argsX Tryd.prog N 5 Tryd.f6.params.toList emptyHeap xs h →
    ∃ n h', acall X1 tab n (.fn 6) xs h = some (.bool true, h') ∨ (AV.bares xs = true ∧ acall X1 tab n (.fn 6) xs emptyHeap = some (.bool true, h')) := by
  intro h xs hs _ hx
  rw [Tryd.params6] at hx
  obtain ⟨x, _, h3, rfl, e3, hx⟩ := argsX_cons hx
  obtain ⟨y, _, h4, rfl, e4, hx⟩ := argsX_cons hx
  obtain ⟨rfl, rfl⟩ := argsX_nil hx
  obtain ⟨x, rfl, w1, n1, rfl⟩ := argX_string Tryd.underlying9 e3
  obtain ⟨y, rfl, w2, n2, rfl⟩ := argX_string Tryd.underlying9 e4
  obtain ⟨v, h', e, rfl⟩ := go_Pieces x y (wf_bytes w1) (wf_bytes w2) qo qo _
  exact ranX e
end Go.Proofs.YtpdfpbdkiaekpaaDoor.Ya

