/-
  Batch: what makes a table another one.
-/
import Derived.Test.YtbcmdlaffjmfdaaYaBatK
import Derived.Test.YtbcmdlaffjmfdaaYbL
namespace Go.Proofs.Ytbcmdlaffjmfdaa.Ya
open Go.Ya Go.Ya.Bat
set_option linter.unusedVariables false
set_option linter.unusedSimpArgs false
set_option maxRecDepth 100000
set_option maxHeartbeats 8000000

def b26 : SC := (.seq (.ops [⟨some 4, .box (.c (.nilsl)), none⟩, ⟨some 5, .mov (.c (.int (.i64) 0)), none⟩]) (.seq (.seq (.ops [⟨some 7, .mov (.t 0), none⟩, ⟨some 8, .call 23 [.t 7], none⟩, ⟨some 9, .un (.not) (.t 8), none⟩, ⟨some 10, .mov (.t 9), none⟩, ⟨some 11, .mov (.t 1), some (10, false)⟩, ⟨some 12, .call 23 [.t 11], some (10, false)⟩, ⟨some 13, .un (.not) (.t 12), some (10, false)⟩, ⟨some 14, .pick (.t 10) (.c (.bool true)) (.t 13), none⟩]) (.cond (.t 14) (.seq (.ops [⟨none, .store 1 (.t 4) (.c (.nilsl)), none⟩, ⟨some 5, .mov (.c (.int (.i64) 2)), none⟩]) .ret) .skip)) (.seq (.ops [⟨some 6, .mov (.c (.func 54 [] [])), none⟩]) (.seq (.ops [⟨some 15, .mov (.t 0), none⟩, ⟨some 16, .mov (.t 1), none⟩, ⟨some 17, .mov (.t 6), none⟩, ⟨some 18, .mkFunc 56 [] [.t 4], none⟩, ⟨some 19, .call 55 [.t 15, .t 16, .t 17, .t 18], none⟩]) (.seq (.ops [⟨some 20, .load false 1 (.t 4), none⟩, ⟨none, .store 1 (.t 4) (.t 20), none⟩, ⟨some 5, .mov (.c (.int (.i64) 0)), none⟩]) .ret)))))
theorem t26 : tab 26 = some ⟨21, [.cell 4 false 1, .tmp 5], b26⟩ := rfl
theorem bat_BetweenX (t l : List Ro) {h : Heap} {V W : AV} (hV : RAt h V t) (hv : VAt h t) (hg : NoGo t) (hW : RAt h W l) (hw : VAt h l) (hgl : NoGo l) (hl : t.length + l.length ≤ 100000000) : Runs (xcall X1 tab (.fn 26) [V, W] h) fun v h' => Grow h h' ∧ ((¬ (mayP (t.map Ro.en) = true ∧ mayP (l.map Ro.en) = true) ∧ v = .tuple [.nilsl, .int .i64 2]) ∨ (mayP (t.map Ro.en) = true ∧ mayP (l.map Ro.en) = true ∧ ∃ o m, v = .tuple [o, .int .i64 0] ∧ OwR 3 encC h.next h' o m ∧ VX h.next h' o m ∧ m.length ≤ t.length + l.length ∧ m.map Ro.en = betP (t.map Ro.en) (l.map Ro.en))) := by
  refine Runs.intro fun K hK => ?_
  rw [w_fn rfl t26 (Nat.le_of_ble_eq_true rfl)]
  delta b26
  repeat' (first
    | simp (disch := first | exact qd | fail) only [WB, ↓WP, ↓WL, WR, WC, if_true, if_false, ite_true, ite_false, aop, ev, evs, readsA, List.replicate, numF, unA, resA, tupA, loadA, storeA, splice, fillA, kindsOk, plainEq, ↓reduceIte, Nat.reduceEqDiff, Nat.reduceLT, Int.reduceToNat, Int.reduceBEq, Int.reduceBNe, Nat.reduceAdd, Nat.reduceMul, Nat.reduceLeDiff, Int.reduceLT, Int.reduceSub, Int.reduceAdd, VA_ln, VA_fl, VA_cl, encR_def, encC_def]
    | ((first | refine atC ?_ ?_ | refine atG ?_ ?_ | refine atH ?_ ?_ | refine atP ?_ ?_) <;> intro hc <;> (try rw [hc]) <;> (try simp only [BD] at hc) <;> try (exfalso; omega))
    | ((first
      | (refine Runs.call (bat_May t (hV.grow qg) (hv.grow qg) qo hg.at) ?_; rintro _ _ ⟨rfl, gr⟩)
      | (refine Runs.call (bat_May l (hW.grow qg) (hw.grow qg) qo hgl.at) ?_; rintro _ _ ⟨rfl, gr⟩)
      | (refine Runs.call (bat_besideR t l (p := h.next) hV hv hW hw hl (may_VR (by assumption)) qg (Nat.le_refl _) ql qs) ?_; rintro v3 H3 ⟨rfl, gr3, o, m, hg3, hp3, hO3, hva3, hml3, hm3⟩; have on3 := OwR.num hO3; have hC3 : OwC 3 (h.next + 1) H3 o _ := hO3)
      | fail); all_goals ((try (have gn := gr.1; try simp only [nx_alloc, nx_set] at gn)); (try (have an := ha.num; try simp only [nx_alloc, nx_set, own_sl, own_nil] at an)); (try (have on := hO.num; try simp only [nx_alloc, nx_set] at on)); (try (have kn := hk.1; try simp only [nx_alloc, nx_set] at kn)); try have hB := hO.at)))
  all_goals try (first
    | (refine hK _ _ ?_; (first | exact ⟨qg, .inr ⟨by assumption, by assumption, o, m, rfl, OwC.le (hO3.keep (fun j hj he => qs)) qo, VX.le (VX.stepN hva3 (fun j hn hj he => qs) (.inl rfl)) qo, by omega, hm3⟩⟩ | exact ⟨qg, .inl ⟨fun q => (by first | (rw [q.1] at hc; exact absurd hc (by decide)) | (rw [q.2] at hc; exact absurd hc (by decide)) | fail), rfl⟩⟩ | fail); done)
    | fail)
theorem bat_Between (t l : List Ro) {h : Heap} {V W : AV} (hV : RAt h V t) (hv : VAt h t) (hg : NoGo t) (hW : RAt h W l) (hw : VAt h l) (hgl : NoGo l) (hl : t.length + l.length ≤ 100000000) : Runs (xcall X1 tab (.fn 26) [V, W] h) fun v h' => Grow h h' ∧ ((¬ (mayP (t.map Ro.en) = true ∧ mayP (l.map Ro.en) = true) ∧ v = .tuple [.nilsl, .int .i64 2]) ∨ (mayP (t.map Ro.en) = true ∧ mayP (l.map Ro.en) = true ∧ ∃ o m, v = .tuple [o, .int .i64 0] ∧ OwR 3 encC h.next h' o m ∧ VO h.next h' o m ∧ m.length ≤ t.length + l.length ∧ m.map Ro.en = betP (t.map Ro.en) (l.map Ro.en))) :=
  (bat_BetweenX t l hV hv hg hW hw hgl hl).mono fun v h' ⟨g, q⟩ => ⟨g, q.imp id fun ⟨a, b, o, m, e, c, d, r⟩ => ⟨a, b, o, m, e, c, d.1, r⟩⟩
end Go.Proofs.Ytbcmdlaffjmfdaa.Ya

