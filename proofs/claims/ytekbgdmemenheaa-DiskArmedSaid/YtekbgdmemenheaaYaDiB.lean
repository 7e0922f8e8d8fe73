/-
  A disk: a write, a flush.
-/
import Derived.Test.YtekbgdmemenheaaYaDiA
import Derived.Test.YtekbgdmemenheaaYbL
namespace Go.Proofs.Ytekbgdmemenheaa.Ya
open Go.Ya
set_option linter.unusedVariables false
set_option linter.unusedSimpArgs false
set_option maxRecDepth 100000
set_option maxHeartbeats 8000000
theorem not_S {p L m : Nat} {qv : AV} {x : Nat} (h : x ∉ [p, L, m] ++ qB qv) : x ≠ p ∧ x ≠ L ∧ x ≠ m ∧ x + 1 ≠ own qv := by
  have a := fun e => h (mem_S.2 (.inl e))
  have b := fun e => h (mem_S.2 (.inr (.inl e)))
  have c := fun e => h (mem_S.2 (.inr (.inr (.inl e))))
  refine ⟨a, b, c, fun e => h (mem_S.2 (.inr (.inr (.inr ⟨by omega, by omega⟩))))⟩
theorem not_Q {p L m : Nat} {qv : AV} (n2 : own qv = 0 ∨ (own qv - 1 ≠ p ∧ own qv - 1 ≠ L ∧ own qv - 1 ≠ m)) : p + 1 ≠ own qv ∧ L + 1 ≠ own qv ∧ m + 1 ≠ own qv := by omega
theorem Dk_write {h H2 : Heap} {p L m k : Nat} {b : List Int} {ex gone : Bool} {qv o2 : AV} {cs : List AV} {laid : List (List Int)} {Y W : List (Nat × List Int)} {left work : Int} (hplt : p < h.next) (hL : h.get L = some (.cells (cellsL laid) false)) (hmlt : m < h.next) (n1 : L ≠ p) (hpm : p ≠ m) (hLm : L ≠ m) (m1 : p + 1 ≠ own qv) (m2 : L + 1 ≠ own qv) (m3 : m + 1 ≠ own qv) (hKY : keysY laid.length Y) (hk : k < laid.length) (hO2 : OwR 65 encW 0 H2 o2 (W ++ [(k, b)])) (of2 : o2.flat = true) (ha : App qv o2 (h.alloc (.cells cs false)) H2) :
    ∃ S', DkAt ((H2.set p (.cells [.slice L 0 laid.length laid.length ex 64, o2, .map m, .int .i64 left, .bool gone, .int .i64 work] false)).set m (.map ((putY k b Y).map encY))) p S' laid (putY k b Y) (W ++ [(k, b)]) left gone work ∧ Dkf ([p, L, m] ++ qB qv) S' h ((H2.set p (.cells [.slice L 0 laid.length laid.length ex 64, o2, .map m, .int .i64 left, .bool gone, .int .i64 work] false)).set m (.map ((putY k b Y).map encY))) := by
  have hLlt := Heap.lt_of_get hL
  have an := ha.num
  simp only [nx_alloc] at an
  have hr : ∀ j, j < h.next → j + 1 ≠ own qv → H2.get j = h.get j := fun j h1 h2 => (ha.get (by simp only [nx_alloc]; omega) h2).trans (ga_old qo)
  have hn : ((H2.set p (.cells [.slice L 0 laid.length laid.length ex 64, o2, .map m, .int .i64 left, .bool gone, .int .i64 work] false)).set m (.map ((putY k b Y).map encY))).next = H2.next := rfl
  refine ⟨[p, L, m] ++ qB o2, ⟨L, ex, m, o2, (gs_old hpm).trans (gs_new rfl qo), ((gs_old hLm).trans (gs_old n1)).trans ((hr _ hLlt m2).trans hL), gs_new rfl (by simp only [nx_set]; omega), hO2.keep (fun j hj he => (gs_old qo).trans (gs_old qo)), n1, by omega, rfl, putY_keys hk hKY, of2⟩, by rw [hn]; omega, fun j h1 h2 => ?_, fun x hx => ?_⟩
  · obtain ⟨a, b, c, d⟩ := not_S h2
    exact ((gs_old c).trans (gs_old a)).trans (hr _ h1 d)
  · rcases mem_S.1 hx with e | e | e | ⟨e1, e⟩
    · exact .inl (mem_S.2 (.inl e))
    · exact .inl (mem_S.2 (.inr (.inl e)))
    · exact .inl (mem_S.2 (.inr (.inr (.inl e))))
    · rcases an.2.1 with e2 | e2
      · exact .inl (mem_S.2 (.inr (.inr (.inr ⟨by omega, by omega⟩))))
      · exact .inr qo
theorem t25 : tab 25 = some ⟨21, [], b25⟩ := rfl
theorem d_Write1 {h : Heap} {p : Nat} {S : List Nat} {laid : List (List Int)} {Y W : List (Nat × List Int)} {left work : Int} {gone : Bool} (hD : DkAt h p S laid Y W left gone work) {c0 c1 c2 k : Nat} {b : List Int} (h0 : h.get c0 = some (.cells [.ptr p 0] false)) (h1 : h.get c1 = some (.cells [.int .i64 (k : Nat)] false)) (h2 : h.get c2 = some (.cells (cellsB b) false)) (s0 : c0 ∉ S) (s1 : c1 ∉ S) (s2 : c2 ∉ S) (hk : k < laid.length) (hz : (W.length + 1) * 72 ≤ 140737488355328) : Runs (xcall X1 tab (.fn 25) [.ptr c0 0, .ptr c1 0, .ptr c2 0] h) fun v h' => v = undefA ∧ ∃ S', DkAt h' p S' laid (putY k b Y) (W ++ [(k, b)]) left gone work ∧ Dkf S S' h h' := by
  refine Runs.intro fun K hK => ?_
  obtain ⟨L, ex, m, qv, hg, hL, hm, hO, n1, n2, rfl, hKY, hqf⟩ := hD
  have hplt := Heap.lt_of_get hg
  have hLlt := Heap.lt_of_get hL
  have hmlt := Heap.lt_of_get hm
  have hqn := OwR.num hO
  have hpm : p ≠ m := fun e => by rw [e, hm] at hg; cases hg
  have hLm : L ≠ m := fun e => by rw [e, hm] at hL; cases hL
  obtain ⟨m1, m2, m3⟩ := not_Q n2
  have hc0 := Heap.lt_of_get h0
  have hc1 := Heap.lt_of_get h1
  have hc2 := Heap.lt_of_get h2
  obtain ⟨u1, u2, u3, u4⟩ := not_S s0
  obtain ⟨v1, v2, v3, v4⟩ := not_S s1
  obtain ⟨w1, w2, w3, w4⟩ := not_S s2
  clear s0 s1 s2 n2
  rw [w_fn rfl t25 (Nat.le_of_ble_eq_true rfl)]
  delta b25
  repeat' (first
    | simp (disch := first | exact qd | fail) only [WB, ↓WP, ↓WL, WR, WC, if_true, if_false, ite_true, ite_false, aop, ev, evs, readsA, List.replicate, numF, unA, resA, tupA, loadA, storeA, splice, fillA, kindsOk, plainEq, ↓reduceIte, Nat.reduceEqDiff, Nat.reduceLT, Int.reduceToNat, Int.reduceBEq, Int.reduceBNe, Nat.reduceAdd, Nat.reduceMul, Nat.reduceLeDiff, Int.reduceLT, Int.reduceSub, Int.reduceAdd, hg, hm, hL, h0, h1, h2, hqf, cells_asm, flat_asm, cellsB_all, cellsB_len, cellsB_flat, cellsB_take, isKey_nat, putA_Y]
    | ((first | refine atC ?_ ?_ | refine atG ?_ ?_ | refine atH ?_ ?_ | refine atP ?_ ?_) <;> intro hc <;> (try rw [hc]) <;> (try simp only [BD] at hc) <;> try (exfalso; omega))
    | ((first
      | (refine Runs.call (OwR.push encW_len qo (hO.grow qg) ql (a := (k, b)) (ga_new rfl) rfl qo) ?_; rintro o2 H2 ⟨hO2, ha⟩; have on2 := OwR.num hO2; have of2 := OwR.fl hO2)
      | fail); all_goals ((try (have gn := gr.1; try simp only [nx_alloc, nx_set] at gn)); (try (have an := ha.num; try simp only [nx_alloc, nx_set, own_sl, own_nil] at an)); (try (have on := hO.num; try simp only [nx_alloc, nx_set] at on)); (try (have kn := hk.1; try simp only [nx_alloc, nx_set] at kn)); try have hB := hO.at)))
  all_goals try (first
    | (refine hK _ _ ?_; exact ⟨rfl, Dk_write hplt hL hmlt n1 hpm hLm m1 m2 m3 hKY hk hO2 of2 ha⟩; done)
    | fail)
theorem flush_run {f : FuncId} {h : Heap} {c d L m n cap : Nat} {ex : Bool} {q l gn wk : AV} {cs : List AV} {es : List (AV × AV)} {ps : List (Nat × List AV)} (hf : f = 23) (h0 : h.get c = some (.cells [.ptr d 0] false)) (h1 : h.get d = some (.cells [.slice L 0 n cap ex 64, q, .map m, l, gn, wk] false)) (h2 : h.get L = some (.cells cs false)) (h3 : h.get m = some (.map es)) (h4 : prs es = some ps) (h5 : flushOk d L c n ps cs = true) : xcall X1 tab (.fn 23) [.ptr c 0] h = some (undefA, flushH h d L m n cap ex ps cs l gn wk) := by
  have e : X1 23 [.ptr c 0] h = some (undefA, flushH h d L m n cap ex ps cs l gn wk) := by
    have e2 : flushK 23 23 [.ptr c 0] h = some (undefA, flushH h d L m n cap ex ps cs l gn wk) := by
      unfold flushK
      rw [if_pos rfl]
      simp only [h0, h1, h2, h3, h4, h5, if_true]
    unfold X1 orK
    rw [e2]
  rw [xcall_fn, e]
theorem d_Flush1 {h : Heap} {p : Nat} {S : List Nat} {laid : List (List Int)} {Y W : List (Nat × List Int)} {left work : Int} {gone : Bool} (hD : DkAt h p S laid Y W left gone work) {c0 : Nat} (h0 : h.get c0 = some (.cells [.ptr p 0] false)) (s0 : c0 ∉ S) :
    Runs (xcall X1 tab (.fn 23) [.ptr c0 0] h) fun v h' => v = undefA ∧ ∃ S', DkAt h' p S' (layY Y laid) [] [] left gone work ∧ Dkf S S' h h' := by
  obtain ⟨L, ex, m, qv, hg, hL, hm, hO, n1, n2, rfl, hKY, hqf⟩ := hD
  have hplt := Heap.lt_of_get hg
  have hLlt := Heap.lt_of_get hL
  have hmlt := Heap.lt_of_get hm
  have hqn := OwR.num hO
  have hpm : p ≠ m := fun e => by rw [e, hm] at hg; cases hg
  have hLm : L ≠ m := fun e => by rw [e, hm] at hL; cases hL
  obtain ⟨m1, m2, m3⟩ := not_Q n2
  obtain ⟨u1, u2, u3, u4⟩ := not_S s0
  refine ⟨_, _, flush_run rfl h0 hg hL hm (prs_Y Y) ?_, rfl, [p, L, h.next + Y.length + 1], ⟨L, ex, h.next + Y.length + 1, .nilsl, ?_, ?_, ?_, OwC.nil, n1, .inl rfl, rfl, keysY_nil _, rfl⟩, ?_, fun j h1 h2 => ?_, fun x hx => ?_⟩
  · refine decide_eq_true ⟨by rw [cellsL_len]; exact Nat.le_refl _, fun e he => ?_, ?_, n1, Ne.symm u2, Ne.symm u1⟩
    · obtain ⟨e0, q0, rfl⟩ := List.mem_map.1 he
      exact hKY.2 e0 q0
    · rw [List.map_map]; exact hKY.1
  · unfold flushH
    rw [gs_new rfl (by simp only [nx_alloc, addDead_next, nx_set]; omega), List.length_map, layY_len]
  · unfold flushH
    rw [gs_old n1, ga_old (by simp only [addDead_next, nx_set]; omega), addDead_get, if_neg (by simp only [nx_set]; omega), gs_new rfl hLlt, upd_Y hKY.2]
  · unfold flushH
    rw [gs_old qo, ga_new (by simp only [addDead_next, nx_set, List.length_map]; omega)]; rfl
  · unfold flushH
    simp only [nx_set, nx_alloc, addDead_next]; omega
  · obtain ⟨a, b, c, e⟩ := not_S h2
    unfold flushH
    rw [gs_old a, ga_old (by simp only [addDead_next, nx_set]; omega), addDead_get, if_neg (by simp only [nx_set]; omega), gs_old b]
  · simp only [List.mem_cons, List.not_mem_nil, or_false] at hx
    rcases hx with e | e | e
    · exact .inl (mem_S.2 (.inl e))
    · exact .inl (mem_S.2 (.inr (.inl e)))
    · exact .inr qo
end Go.Proofs.Ytekbgdmemenheaa.Ya
