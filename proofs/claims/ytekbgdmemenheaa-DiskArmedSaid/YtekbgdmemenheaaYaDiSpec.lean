/-
  A disk: what is known.
-/
import Derived.Test.YtekbgdmemenheaaYaTab
import Derived.Test.YtekbgdmemenheaaYaFlush
import Derived.Test.YtekbgdmemenheaaYbI
import Derived.Test.YtekbgdmemenheaaYbK
import Derived.Test.YtekbgdmemenheaaYbL
namespace Go.Proofs.Ytekbgdmemenheaa.Ya
open Go.Ya
set_option linter.unusedVariables false
set_option linter.unusedSimpArgs false
set_option maxRecDepth 100000
set_option maxHeartbeats 4000000
def X0 : Known := fun _ _ _ => none
theorem x0ok : XOk Try.prog X0 := XOk.none _
theorem ptr_ee : binA .eql .ptr .nilptr .nilptr = some (.bool true) := rfl
theorem ptr_en {p o : Nat} : binA .eql .ptr (.ptr p o) .nilptr = some (.bool false) := rfl
theorem ptr_ne {p o : Nat} : binA .neq .ptr (.ptr p o) .nilptr = some (.bool true) := rfl
theorem empty_get {h : Heap} {d id : Nat} {a b : AObj} (hlt : d < h.next) : (((h.alloc (.map [])).set d a).set d b).get id = if id = d then some b else if id = h.next then some (.map []) else h.get id := by
  rw [Heap.get_set _ _ _ _ (by simp only [nx_set, nx_alloc]; omega), Heap.get_set _ _ _ _ (by simp only [nx_alloc]; omega), Heap.get_alloc]
  by_cases e : id = d
  · rw [if_pos e, if_pos e]
  · rw [if_neg e, if_neg e, if_neg e]
theorem flat_asm {v : AV} (x : Asm (v.flat = true)) : v.flat = true := x.out
theorem cells_asm {v : AV} (x : Asm (v.flat = true)) : v.cells = [v] := cells_of x.out
theorem t20 : tab 20 = some ⟨9, [], b20⟩ := rfl
theorem e0_empty {d : Nat} {lv q mv l gn wk : AV} {h : Heap} (hd : h.get d = some (.cells [lv, q, mv, l, gn, wk] false)) (f1 : lv.flat = true) (f2 : l.flat = true) (f3 : gn.flat = true) (f4 : wk.flat = true) : Runs (xcall X0 tab (.fn 20) [.ptr d 0] h) fun v h' => v = undefA ∧ h'.next = h.next + 1 ∧ ∀ id, h'.get id = if id = d then some (.cells [lv, .nilsl, .map h.next, l, gn, wk] false) else if id = h.next then some (.map []) else h.get id := by
  refine Runs.intro fun K hK => ?_
  have hlt := Heap.lt_of_get hd
  rw [w_fn rfl t20 (Nat.le_of_ble_eq_true rfl)]
  delta b20
  repeat' (first
    | simp (disch := first | exact qd | fail) only [WB, ↓WP, ↓WL, WR, WC, if_true, if_false, ite_true, ite_false, aop, ev, evs, readsA, List.replicate, numF, unA, resA, tupA, loadA, storeA, splice, fillA, kindsOk, plainEq, ↓reduceIte, Nat.reduceEqDiff, Nat.reduceLT, Int.reduceToNat, Int.reduceBEq, Int.reduceBNe, Nat.reduceAdd, Nat.reduceMul, Nat.reduceLeDiff, Int.reduceLT, Int.reduceSub, Int.reduceAdd, hd, flat_asm, cells_asm]
    | ((first | refine atC ?_ ?_ | refine atG ?_ ?_ | refine atH ?_ ?_ | refine atP ?_ ?_) <;> intro hc <;> (try rw [hc]) <;> (try simp only [BD] at hc) <;> try (exfalso; omega)))
  all_goals try (first
    | (refine hK _ _ ?_; exact ⟨rfl, by simp only [nx_alloc, nx_set], fun id => empty_get hlt⟩; done)
    | fail)
theorem emptyOk : EmptyOk Try.prog 20 := fun g d lv q mv l gn wk hd f1 f2 f3 f4 => by
  obtain ⟨v, h', e, rfl, n9, g9⟩ := e0_empty hd f1 f2 f3 f4
  obtain ⟨n, hn⟩ := xcall_iff.1 e
  exact ⟨acall X0 tab n, (acall_calls x0ok conv mixed n), h', hn, n9, g9⟩
noncomputable def flushAt : FlushAt Try.prog 23 20 where
  fn := Try.f23
  hf := Try.func23
  i0 := _
  i1 := _
  i2 := _
  i3 := _
  i4 := _
  o0 := _
  o1 := _
  o2 := _
  o3 := _
  oR := _
  oN := _
  oX := _
  oE := _
  p0 := _
  p1 := _
  p2 := _
  p3 := _
  p4 := _
  q0 := _
  q1 := _
  R3 := _
  tM := _
  kt := _
  et := _
  zs := List.replicate 64 (.int .u8 0)
  hb := rfl
  hn := rfl
  hres := rfl
  hname := by decide
  c0 := by kernel_rfl
  cR := ⟨rfl, rfl, rfl⟩
  cN := ⟨rfl, rfl, rfl⟩
  cX := by kernel_rfl
  cE := ⟨rfl, rfl, rfl⟩
  c2 := by kernel_rfl
  c3 := ⟨by kernel_rfl, by kernel_rfl, by kernel_rfl, by kernel_rfl⟩
  c4 := by kernel_rfl
  hz := ⟨by kernel_rfl, by kernel_rfl⟩
  uM := Try.underlying48
theorem flX : XOk Try.prog (flushK 23) := flushK_ok (call := acall X0 tab 0) (acall_calls x0ok conv mixed 0) (draw_sim mixed (acall_calls x0ok conv mixed 0)) emptyOk flushAt
theorem lives : (acallF X0 tab 300 (.fn 13) [] emptyHeap).map (·.1) = some (.bool true) := by kernel_rfl
def X1 : Known := orK (flushK 23) (knownBare [(13, [], .bool true)])
theorem kbOk : XOk Try.prog (knownBare [(13, [], .bool true)]) := knownBare_ok x0ok conv mixed (by
  intro x hx
  simp only [List.mem_singleton] at hx
  subst hx
  exact ⟨rfl, rfl, 300, by dsimp only; rw [← acallF_eq]; exact lives⟩)
theorem x1ok : XOk Try.prog X1 := flX.or kbOk
theorem lives8 (h : Heap) : xcall X1 tab (.fn 13) [] h = some (.bool true, h) := ofRun (n := 1) (by kernel_rfl)
theorem lives_r (h : Heap) : Runs (xcall X1 tab (.fn 13) [] h) fun v h' => v = .bool true ∧ h = h' := Runs.eq (lives8 h)
end Go.Proofs.Ytekbgdmemenheaa.Ya
