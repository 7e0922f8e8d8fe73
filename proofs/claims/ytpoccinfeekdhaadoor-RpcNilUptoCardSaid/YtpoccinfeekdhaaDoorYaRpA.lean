/-
  Lines: what is out, walked.
-/
import Derived.Test.YtpoccinfeekdhaaDoorYaCaE
import Derived.Test.YtpoccinfeekdhaaDoorYbL
import Derived.Test.YtpoccinfeekdhaaDoorYaBkJ
import Derived.Test.YtpoccinfeekdhaaDoorYaLStd
namespace Go.Proofs.YtpoccinfeekdhaaDoor.Ya
open Go.Ya Go.Ya.Na
set_option linter.unusedVariables false
set_option linter.unusedSimpArgs false
set_option maxRecDepth 100000
set_option maxHeartbeats 8000000
theorem t14 : tab 14 = some ⟨12, [.tmp 2], b14⟩ := rfl
theorem ptr_ee : binA .eql .ptr .nilptr .nilptr = some (.bool true) := rfl
theorem l_noneN (h : Heap) : Runs (xcall X1 tab (.fn 14) [.nilptr] h) fun v h' => v = .bool true ∧ h = h' := by
  refine Runs.intro fun K hK => ?_
  rw [w_fn rfl t14 (Nat.le_of_ble_eq_true rfl)]
  delta b14
  repeat' (first
    | simp (disch := first | exact qd | fail) only [WB, ↓WP, ↓WL, WR, WC, if_true, if_false, ite_true, ite_false, aop, ev, evs, readsA, List.replicate, numF, unA, resA, tupA, loadA, storeA, splice, fillA, kindsOk, plainEq, ↓reduceIte, Nat.reduceEqDiff, Nat.reduceLT, Int.reduceToNat, Int.reduceBEq, Int.reduceBNe, Nat.reduceAdd, Nat.reduceMul, Nat.reduceLeDiff, Int.reduceLT, Int.reduceSub, Int.reduceAdd, ptr_nn, ptr_en, ptr_ee]
    | ((first | refine atC ?_ ?_ | refine atG ?_ ?_ | refine atH ?_ ?_ | refine atP ?_ ?_) <;> intro hc <;> (try rw [hc]) <;> (try simp only [BD] at hc) <;> try (exfalso; omega)))
  all_goals try (first
    | (refine hK _ _ ?_; exact ⟨rfl, rfl⟩; done)
    | fail)
theorem l_none {h : Heap} {p : Nat} {cl inc sq : Int} {o : AV} (hg : h.get p = some (.cells [.int .u8 cl, .int .u32 inc, .int .u64 sq, o] false)) : Runs (xcall X1 tab (.fn 14) [.ptr p 0] h) fun v h' => v = .bool (inc == 0) ∧ h = h' := by
  refine Runs.intro fun K hK => ?_
  rw [w_fn rfl t14 (Nat.le_of_ble_eq_true rfl)]
  delta b14
  repeat' (first
    | simp (disch := first | exact qd | fail) only [WB, ↓WP, ↓WL, WR, WC, if_true, if_false, ite_true, ite_false, aop, ev, evs, readsA, List.replicate, numF, unA, resA, tupA, loadA, storeA, splice, fillA, kindsOk, plainEq, ↓reduceIte, Nat.reduceEqDiff, Nat.reduceLT, Int.reduceToNat, Int.reduceBEq, Int.reduceBNe, Nat.reduceAdd, Nat.reduceMul, Nat.reduceLeDiff, Int.reduceLT, Int.reduceSub, Int.reduceAdd, hg, ptr_nn, ptr_en]
    | ((first | refine atC ?_ ?_ | refine atG ?_ ?_ | refine atH ?_ ?_ | refine atP ?_ ?_) <;> intro hc <;> (try rw [hc]) <;> (try simp only [BD] at hc) <;> try (exfalso; omega)))
  all_goals try (first
    | (refine hK _ _ ?_; exact ⟨rfl, rfl⟩; done)
    | fail)
theorem t5 : tab 5 = some ⟨16, [.tmp 4, .tmp 5], b5⟩ := rfl
theorem t105 : tab 105 = some ⟨13, [], b105⟩ := rfl
def encQ (b : Nat) : List AV := [.ptr b 0]
theorem Eqv.trans {a b c : Heap} (x : Eqv a b) (y : Eqv b c) : Eqv a c := ⟨y.1.trans x.1, fun j => (y.2 j).trans (x.2 j)⟩
theorem OwQ.opn {n : Nat} {H : Heap} {sl : AV} {b : Nat} (o : OwR 1 encQ n H sl [b]) : ∃ s cap ex rest, sl = .slice s 0 1 cap ex 1 ∧ n ≤ s ∧ H.get s = some (.cells (.ptr b 0 :: rest) false) := by
  rcases o with ⟨_, e⟩ | ⟨s, len, cap, ex, rest, e0, e1, e2, e3, _⟩
  · cases e
  · have : len = 1 := by simpa [encQ] using e3.symm
    subst this
    exact ⟨s, cap, ex, rest, e0, e1, e2⟩
end Go.Proofs.YtpoccinfeekdhaaDoor.Ya
