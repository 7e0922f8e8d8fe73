/-
  Batch: are tables the same? (document)
-/
import Derived.Test.YtbcmdlaffjmfdaaYaBatH
import Derived.Test.YtbcmdlaffjmfdaaYbL
namespace Go.Proofs.Ytbcmdlaffjmfdaa.Ya
open Go.Ya Go.Ya.Bat
set_option linter.unusedVariables false
set_option linter.unusedSimpArgs false
set_option maxRecDepth 100000
set_option maxHeartbeats 8000000

theorem en_same2 {t u : List Ro} (hl : t.length = u.length) (h : ∀ i, i < t.length → (t.getD i default).en = (u.getD i default).en) : t.map Ro.en = u.map Ro.en := by
  apply List.ext_getElem (by simpa using hl)
  intro i h1 h2
  rw [List.length_map] at h1 h2
  have := h i h1
  rw [List.getD_eq_getElem?_getD, List.getElem?_eq_getElem h1, List.getD_eq_getElem?_getD, List.getElem?_eq_getElem h2] at this
  simpa using this
theorem en_no {t u : List Ro} {i : Nat} (h1 : i < t.length) (h2 : i < u.length) (h : (t.getD i default).en ≠ (u.getD i default).en) : t.map Ro.en ≠ u.map Ro.en := fun e => h (by
  have : (t.map Ro.en).getD i ⟨[], [], false⟩ = (u.map Ro.en).getD i ⟨[], [], false⟩ := by rw [e]
  rwa [en_get h1, en_get h2] at this)
theorem en_len {t u : List Ro} (h : t.length ≠ u.length) : t.map Ro.en ≠ u.map Ro.en := fun e => h (by have := congrArg List.length e; simpa using this)
def L25_0 : SC := (.seq (.seq (.ops [⟨some 11, .mov (.t 5), none⟩, ⟨some 12, .mov (.t 0), none⟩, ⟨some 13, .len (.sl) (.t 12), none⟩, ⟨some 14, .bin (.lss) (.other) (.t 11) (.t 13), none⟩]) (.cond (.t 14) .skip (.exit 0))) (.seq (.block 1 (.seq (.ops [⟨some 17, .mov (.t 0), none⟩, ⟨some 18, .mov (.t 5), none⟩, ⟨some 19, .idxAddrSl 2 (.t 17) (.t 18), none⟩, ⟨some 20, .fieldAddr 0 (.t 19), none⟩, ⟨some 21, .load false 1 (.t 20), none⟩, ⟨some 22, .mov (.t 1), none⟩, ⟨some 23, .mov (.t 5), none⟩, ⟨some 24, .idxAddrSl 2 (.t 22) (.t 23), none⟩, ⟨some 25, .fieldAddr 0 (.t 24), none⟩, ⟨some 26, .load false 1 (.t 25), none⟩, ⟨some 27, .bin (.neq) (.str) (.t 21) (.t 26), none⟩, ⟨some 28, .mov (.t 27), none⟩, ⟨some 29, .mov (.t 0), some (28, false)⟩, ⟨some 30, .mov (.t 5), some (28, false)⟩, ⟨some 31, .idxAddrSl 2 (.t 29) (.t 30), some (28, false)⟩, ⟨some 32, .fieldAddr 1 (.t 31), some (28, false)⟩, ⟨some 33, .load false 1 (.t 32), some (28, false)⟩, ⟨some 34, .mov (.t 1), some (28, false)⟩, ⟨some 35, .mov (.t 5), some (28, false)⟩, ⟨some 36, .idxAddrSl 2 (.t 34) (.t 35), some (28, false)⟩, ⟨some 37, .fieldAddr 1 (.t 36), some (28, false)⟩, ⟨some 38, .load false 1 (.t 37), some (28, false)⟩, ⟨some 39, .call 16 [.t 33, .t 38], some (28, false)⟩, ⟨some 40, .un (.not) (.t 39), some (28, false)⟩, ⟨some 41, .pick (.t 28) (.c (.bool true)) (.t 40), none⟩]) (.cond (.t 41) (.seq (.ops [⟨some 4, .mov (.c (.bool false)), none⟩]) .ret) .skip))) (.ops [⟨some 15, .mov (.t 5), none⟩, ⟨some 16, .bin (.add) (.other) (.t 15) (.c (.int (.i64) 1)), none⟩, ⟨some 5, .mov (.t 16), none⟩])))
def b25 : SC := (.seq (.ops [⟨some 4, .mov (.c (.bool false)), none⟩]) (.seq (.seq (.ops [⟨some 6, .mov (.t 0), none⟩, ⟨some 7, .len (.sl) (.t 6), none⟩, ⟨some 8, .mov (.t 1), none⟩, ⟨some 9, .len (.sl) (.t 8), none⟩, ⟨some 10, .bin (.neq) (.other) (.t 7) (.t 9), none⟩]) (.cond (.t 10) (.seq (.ops [⟨some 4, .mov (.c (.bool false)), none⟩]) .ret) .skip)) (.seq (.seq (.ops [⟨some 5, .mov (.c (.int (.i64) 0)), none⟩]) (.block 0 (.loop L25_0))) (.seq (.ops [⟨some 4, .mov (.c (.bool true)), none⟩]) .ret))))
theorem t25 : tab 25 = some ⟨42, [.tmp 4], b25⟩ := rfl
theorem f0_Rows (t u : List Ro) {h0 h : Heap} {V W : AV} (hV : RAt h V t) (hv : VAt h t) (hg : NoGo t) (hW : RAt h W u) (hw : VAt h u) (hgu : NoGo u) (hl : t.length + u.length ≤ 1000000000) (hvt : VR t) (hvu : VR u) : Runs (xcall X1 tab (.fn 25) [V, W] h) fun v h' => (∃ b, v = .bool b ∧ (b = true ↔ t.map Ro.en = u.map Ro.en)) ∧ h = h' := by
  refine Runs.intro fun K hK => ?_
  rw [w_fn rfl t25 (Nat.le_of_ble_eq_true rfl)]
  delta b25
  repeat' (first
    | simp (disch := first | exact qd | fail) only [WB, ↓WP, ↓WL, WR, WC, if_true, if_false, ite_true, ite_false, aop, ev, evs, readsA, List.replicate, numF, unA, resA, tupA, loadA, storeA, splice, fillA, kindsOk, plainEq, ↓reduceIte, Nat.reduceEqDiff, Nat.reduceLT, Int.reduceToNat, Int.reduceBEq, Int.reduceBNe, Nat.reduceAdd, Nat.reduceMul, Nat.reduceLeDiff, Int.reduceLT, Int.reduceSub, Int.reduceAdd, VA_ln, VA_fl, VA_cl, encR_def]
    | ((first | refine atC ?_ ?_ | refine atG ?_ ?_ | refine atH ?_ ?_ | refine atP ?_ ?_) <;> intro hc <;> (try rw [hc]) <;> (try simp only [BD] at hc) <;> try (exfalso; omega)))
  all_goals try (first
    | (refine hK _ _ ?_; (first | exact ⟨⟨false, rfl, (fun q => nomatch q), fun q => absurd q (en_len qo)⟩, rfl⟩ | exact ⟨⟨true, rfl, (fun _ => en_same2 hlen (fun j q => hj j qo)), fun _ => rfl⟩, rfl⟩ | exact ⟨⟨false, rfl, (fun q => nomatch q), fun q => absurd q (en_no (i := i) qo qo (fun e => hc (congrArg En.key e)))⟩, rfl⟩ | exact ⟨⟨false, rfl, (fun q => nomatch q), fun q => absurd q (en_no (i := i) qo qo (fun e => hc (congrArg En.val e)))⟩, rfl⟩ | fail); done)
    | fail)
  all_goals
    refine wloop (α := Nat) [0, 1] (fun x => [(5, .int .i64 (x : Nat))]) (fun x H => h = H ∧ t.length = u.length ∧ x ≤ t.length ∧ ∀ j, j < x → (t.getD j default).en = (u.getD j default).en) (fun x => t.length - x) ?_ (0) ?_ ?_
    rotate_left
    · exact qf
    · (try dsimp only)
      exact ⟨rfl, by omega, by omega, fun j q => absurd q qo⟩
    intro i b1 H hI ih
    try dsimp only at hI
    obtain ⟨rfl, hlen, hi, hj⟩ := hI
    have hvi := fun q => hvt.get (i := i) q
    have hvj := fun q => hvu.get (i := i) q
    try have gn := g.1
    refine w_unfold (by delta L25_0; rfl) ?_
    simp only [keeps_nil, keeps_cons, List.cons_append, List.nil_append, lk_cons, lk_nil, numF, Nat.reduceEqDiff, Nat.reduceAdd, Nat.zero_add, ↓reduceIte]
    repeat' (first
      | simp (disch := first | exact qd | fail) only [WB, ↓WP, ↓WL, WR, WC, if_true, if_false, ite_true, ite_false, aop, ev, evs, readsA, List.replicate, numF, unA, resA, tupA, loadA, storeA, splice, fillA, kindsOk, plainEq, ↓reduceIte, Nat.reduceEqDiff, Nat.reduceLT, Int.reduceToNat, Int.reduceBEq, Int.reduceBNe, Nat.reduceAdd, Nat.reduceMul, Nat.reduceLeDiff, Int.reduceLT, Int.reduceSub, Int.reduceAdd, VA_ln, VA_fl, VA_cl, encR_def]
      | ((first | refine atC ?_ ?_ | refine atG ?_ ?_ | refine atH ?_ ?_ | refine atP ?_ ?_) <;> intro hc <;> (try rw [hc]) <;> (try simp only [BD] at hc) <;> try (exfalso; omega))
      | ((first
        | (refine Runs.call (f0_Same (hv.get (i := i) qo) (hw.get (i := i) qo)) ?_; rintro _ _ ⟨rfl, rfl⟩)
        | fail); all_goals ((try (have gn := gr.1; try simp only [nx_alloc, nx_set] at gn)); (try (have an := ha.num; try simp only [nx_alloc, nx_set, own_sl, own_nil] at an)); (try (have on := hO.num; try simp only [nx_alloc, nx_set] at on)); (try (have kn := hk.1; try simp only [nx_alloc, nx_set] at kn)); try have hB := hO.at)))
    all_goals try (first
      | exact ih (i + 1) _ _ _ (by ((try dsimp only); omega)) qf (by ((try dsimp only); (first | (exact ⟨rfl, hlen, by omega, fun j q => (by rcases Nat.lt_or_ge j i with q2 | q2; exact hj j q2; (obtain rfl : j = i := by omega); (show (⟨_, _, _⟩ : En) = ⟨_, _, _⟩); rw [hg.at _ qo, hgu.at _ qo]; congr 1 <;> assumption)⟩) | fail)))
      | (refine hK _ _ ?_; (first | exact ⟨⟨false, rfl, (fun q => nomatch q), fun q => absurd q (en_len qo)⟩, rfl⟩ | exact ⟨⟨true, rfl, (fun _ => en_same2 hlen (fun j q => hj j qo)), fun _ => rfl⟩, rfl⟩ | exact ⟨⟨false, rfl, (fun q => nomatch q), fun q => absurd q (en_no (i := i) qo qo (fun e => hc (congrArg En.key e)))⟩, rfl⟩ | exact ⟨⟨false, rfl, (fun q => nomatch q), fun q => absurd q (en_no (i := i) qo qo (fun e => hc (congrArg En.val e)))⟩, rfl⟩ | fail); done)
      | fail)
end Go.Proofs.Ytbcmdlaffjmfdaa.Ya

