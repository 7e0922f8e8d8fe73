/-
  Replies: what is the same; errors.
-/
import Derived.Test.YtpoccinfeekdhaaDoorYaBkA
import Derived.Test.YtpoccinfeekdhaaDoorYbL
namespace Go.Proofs.YtpoccinfeekdhaaDoor.Ya.B
open Go.Ya Go.Ya.Na
set_option linter.unusedVariables false
set_option linter.unusedSimpArgs false
set_option maxRecDepth 100000
set_option maxHeartbeats 8000000
theorem min255 {n : Nat} : minA (.int .u32 (n : Nat)) [.int .u32 255] = some (.int .u32 (min n 255 : Nat)) := by
  simp only [minA, if_true]
  congr 2
  split <;> omega
theorem t39 : tab 39 = some ⟨6, [.tmp 2], b39⟩ := rfl
theorem k_small {n : Nat} (hn : n ≤ 4294967295) (h : Heap) : Runs (xcall X1 tab (.fn 39) [.int .u32 (n : Nat)] h) fun v h' => v = .int .u8 (min n 255 : Nat) ∧ h = h' := by
  refine Runs.intro fun K hK => ?_
  rw [w_fn rfl t39 (Nat.le_of_ble_eq_true rfl)]
  delta b39
  repeat' (first
    | simp (disch := first | exact qd | fail) only [WB, ↓WP, ↓WL, WR, WC, if_true, if_false, ite_true, ite_false, aop, ev, evs, readsA, List.replicate, numF, unA, resA, tupA, loadA, storeA, splice, fillA, kindsOk, plainEq, ↓reduceIte, Nat.reduceEqDiff, Nat.reduceLT, Int.reduceToNat, Int.reduceBEq, Int.reduceBNe, Nat.reduceAdd, Nat.reduceMul, Nat.reduceLeDiff, Int.reduceLT, Int.reduceSub, Int.reduceAdd, min255]
    | ((first | refine atC ?_ ?_ | refine atG ?_ ?_ | refine atH ?_ ?_ | refine atP ?_ ?_) <;> intro hc <;> (try rw [hc]) <;> (try simp only [BD] at hc) <;> try (exfalso; omega)))
  all_goals try (first
    | (refine hK _ _ ?_; exact ⟨rfl, rfl⟩; done)
    | fail)
end Go.Proofs.YtpoccinfeekdhaaDoor.Ya.B
