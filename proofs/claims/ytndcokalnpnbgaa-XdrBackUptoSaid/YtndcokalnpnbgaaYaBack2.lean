/-
  Xdr, law XdrBack: the run.
-/
import Derived.Test.YtndcokalnpnbgaaYaBack1
import Derived.Test.YtndcokalnpnbgaaYaGoes2
namespace Go.Proofs.Ytndcokalnpnbgaa.Ya
open Go.Ya
set_option linter.unusedVariables false
set_option linter.unusedSimpArgs false
set_option maxRecDepth 100000
set_option maxHeartbeats 8000000

theorem inv50 (h : Heap) : Inv5 h (h.alloc (.cells [.nilsl] false)) h.next [] :=
  ⟨fun j => j = h.next, ⟨rfl, fun j hj => by simp; omega, .nilsl, h.next + 1, by rw [Heap.get_alloc, if_pos rfl], .inl ⟨rfl, rfl⟩, by omega, fun e => absurd rfl e⟩, fun j hj => by omega, by simp, fun j hj => by rw [Heap.get_alloc, if_neg (by omega)]⟩
theorem good_of {h0 : Heap} {rows : List (List AV)} {ts : List Thing} (h2 : Things2 h0 rows ts) : ∀ a ∈ ts, Good a := by
  intro a ha
  obtain ⟨i, hi, rfl⟩ := List.mem_iff_getElem.1 ha
  have hr : i < rows.length := by rw [← h2.1]; exact hi
  obtain ⟨a', e, v, _, _, hm, hN, _, _, hb⟩ := h2.2 i _ (List.getElem?_eq_getElem hr)
  rw [List.getElem?_eq_getElem hi] at e
  cases e
  exact ⟨hN, hm, hb⟩
theorem go5 {h : Heap} {b len : Nat} {rows : List (List AV)} {ts : List Thing} (hb : b < h.next) (hg : h.get b = some (.cells rows.flatten true)) (hall : ∀ r ∈ rows, r.length = 5) (hlen : rows.length = len) (h2 : Things2 h rows ts) (cut : Int) : ∃ h', xcall X1 tab (.fn 5) [.slice b 0 len len false 5, .int .i64 cut] h = some (.bool true, h') := by
  have hT : Sh5 b h.next len cut 0 [.slice b 0 len len false 5, .int .i64 cut, undefA, undefA, .bool false, .ptr h.next 0, .int .i64 0, undefA, undefA, undefA, .agg [.nilsl], .ptr h.next 0, undefA, undefA, undefA, undefA, undefA, undefA, undefA, undefA, undefA, undefA, undefA, undefA, undefA, undefA, undefA, undefA, undefA, undefA, undefA, undefA, undefA, undefA, undefA, undefA, undefA, undefA, undefA, undefA, undefA, undefA, undefA, undefA, undefA, undefA, undefA, undefA, undefA, undefA, undefA, undefA, undefA, undefA, undefA, undefA, undefA, undefA, undefA, undefA, undefA, undefA, undefA, undefA, undefA, undefA, undefA, undefA, undefA, undefA, undefA, undefA, undefA, undefA, undefA, undefA, undefA, undefA, undefA, undefA, undefA, undefA, undefA, undefA, undefA, undefA, undefA, undefA, undefA, undefA, undefA, undefA, undefA, undefA, undefA, undefA, undefA, undefA, undefA, undefA, undefA, undefA, undefA, undefA, undefA, undefA, undefA, undefA, undefA, undefA, undefA, undefA] := ⟨rfl, rfl, rfl, rfl, rfl⟩
  obtain ⟨tm1, H1, i', e1, s1, hv, hl⟩ := put_loop hb hg hall hlen h2 60 0 (h.alloc (.cells [.nilsl] false)) _ (by omega) hT (by simpa [encs] using inv50 h) (by simp [encs])
  obtain ⟨r0, r1, r2, r3, r4⟩ := s1
  obtain ⟨tm2, H2, e2, e3⟩ := tail5_spec (L := .slice b 0 len len false 5) ⟨r0, r1, r2, r3⟩ hv hl (fun a ha => good_of h2 a (List.mem_of_mem_take ha)) (fun r s F H hi => goes33 hb hg hall hlen h2 hi)
  refine ⟨H2, ?_⟩
  rw [x_fn rfl (show tab 5 = some ⟨112, [.tmp 4], sf5.body⟩ from rfl), body5_eq]
  simp (decide := true) only [note_false, Int.reduceBEq, Int.reduceBNe, x_drawn, l_nil, l_op, l_guard, l_some, l_true, l_false, l_draw, readsA, x_true, x_false, x_seq, x_ops, x_cond, x_skip, x_ret, x_exit, x_block, x_then, x_thenE, x_thenR, x_blockN, x_blockR, x_blockE, s_nil, s_op, s_guard, s_some, s_true, s_false, s_put, s_put0, s_opsR, s_ret, s_norm, aop, ev, evs, List.map_cons, List.map_nil, List.cons_append, List.nil_append, List.append_nil, List.replicate, List.take_succ_cons, List.take_zero, List.take_nil, List.drop_succ_cons, List.drop_zero, List.drop_nil, Nat.zero_add, Nat.add_zero, Nat.reduceAdd, Nat.reduceMul, Nat.reduceLeDiff, Bool.false_eq_true, and_self, List.length_cons, List.length_nil, List.set_cons_zero, List.set_cons_succ, List.getD_cons_zero, List.getD_cons_succ, wantedA, List.getElem?_cons_zero, List.getElem?_cons_succ, q_t, q_f, Bool.not_true, Bool.not_false, b_add, b_sub, b_mul, b_eql, b_neq, b_lss, b_leq, b_gtr, b_geq, b_and, b_or, b_xor, b_quo, b_rem, b_shl, b_shr, unA, Option.map_some, Option.map_none, resA, tupA, Int.reduceLT, not_false_eq_true, not_true_eq_false, decide_true, decide_false, f_bool, c_bool, f_int, c_int, f_str, c_str, f_nilptr, c_nilptr, f_ptr, c_ptr, f_nilsl, c_nilsl, f_slice, c_slice, f_nilmap, c_nilmap, f_map, c_map, f_nilf, c_nilf, f_func, c_func, f_yieldf, c_yieldf, f_nilif, c_nilif, f_iface, c_iface, c_agg, List.all_cons, List.all_nil, Bool.and_true, Bool.true_and, if_true, if_false, ite_true, ite_false, fillA, splice, e1, e2, e3]
theorem go5nil (h : Heap) (cut : Int) : ∃ h', xcall X1 tab (.fn 5) [.nilsl, .int .i64 cut] h = some (.bool true, h') := by
  have key : ∃ tm', xcode X1 tab 5 none (.loop body5) [.nilsl, .int .i64 cut, undefA, undefA, .bool false, .ptr h.next 0, .int .i64 0, undefA, undefA, undefA, .agg [.nilsl], .ptr h.next 0, undefA, undefA, undefA, undefA, undefA, undefA, undefA, undefA, undefA, undefA, undefA, undefA, undefA, undefA, undefA, undefA, undefA, undefA, undefA, undefA, undefA, undefA, undefA, undefA, undefA, undefA, undefA, undefA, undefA, undefA, undefA, undefA, undefA, undefA, undefA, undefA, undefA, undefA, undefA, undefA, undefA, undefA, undefA, undefA, undefA, undefA, undefA, undefA, undefA, undefA, undefA, undefA, undefA, undefA, undefA, undefA, undefA, undefA, undefA, undefA, undefA, undefA, undefA, undefA, undefA, undefA, undefA, undefA, undefA, undefA, undefA, undefA, undefA, undefA, undefA, undefA, undefA, undefA, undefA, undefA, undefA, undefA, undefA, undefA, undefA, undefA, undefA, undefA, undefA, undefA, undefA, undefA, undefA, undefA, undefA, undefA, undefA, undefA, undefA, undefA] (h.alloc (.cells [.nilsl] false)) = some (.exit 0, tm', h.alloc (.cells [.nilsl] false)) ∧ (tm'.length = 112 ∧ tm'[0]? = some .nilsl ∧ tm'[1]? = some (.int .i64 cut) ∧ tm'[5]? = some (.ptr h.next 0)) := by
    refine ⟨?tm, ?run, ?sh⟩
    case run =>
      rw [show ∀ tm h, xcode X1 tab 5 none (.loop body5) tm h = thenX X1 tab 5 none (.loop body5) (xcode X1 tab 5 none body5 tm h) from fun _ _ => x_loop]
      delta body5
      simp (decide := true) only [note_false, Int.reduceBEq, Int.reduceBNe, x_drawn, l_nil, l_op, l_guard, l_some, l_true, l_false, l_draw, readsA, x_true, x_false, x_seq, x_ops, x_cond, x_skip, x_ret, x_exit, x_block, x_then, x_thenE, x_thenR, x_blockN, x_blockR, x_blockE, s_nil, s_op, s_guard, s_some, s_true, s_false, s_put, s_put0, s_opsR, s_ret, s_norm, aop, ev, evs, List.map_cons, List.map_nil, List.cons_append, List.nil_append, List.append_nil, List.replicate, List.take_succ_cons, List.take_zero, List.take_nil, List.drop_succ_cons, List.drop_zero, List.drop_nil, Nat.zero_add, Nat.add_zero, Nat.reduceAdd, Nat.reduceMul, Nat.reduceLeDiff, Bool.false_eq_true, and_self, List.length_cons, List.length_nil, List.set_cons_zero, List.set_cons_succ, List.getD_cons_zero, List.getD_cons_succ, wantedA, List.getElem?_cons_zero, List.getElem?_cons_succ, q_t, q_f, Bool.not_true, Bool.not_false, b_add, b_sub, b_mul, b_eql, b_neq, b_lss, b_leq, b_gtr, b_geq, b_and, b_or, b_xor, b_quo, b_rem, b_shl, b_shr, unA, Option.map_some, Option.map_none, resA, tupA, Int.reduceLT, not_false_eq_true, not_true_eq_false, decide_true, decide_false, f_bool, c_bool, f_int, c_int, f_str, c_str, f_nilptr, c_nilptr, f_ptr, c_ptr, f_nilsl, c_nilsl, f_slice, c_slice, f_nilmap, c_nilmap, f_map, c_map, f_nilf, c_nilf, f_func, c_func, f_yieldf, c_yieldf, f_nilif, c_nilif, f_iface, c_iface, c_agg, List.all_cons, List.all_nil, Bool.and_true, Bool.true_and, if_true, if_false, ite_true, ite_false]
      rfl
    case sh => exact ⟨rfl, rfl, rfl, rfl⟩
  obtain ⟨tm1, e1, s1⟩ := key
  obtain ⟨tm2, H2, e2, e3⟩ := tail5_spec (h0 := h) (ts := []) s1 (by simpa [encs] using inv50 h) (by simp [encs]) (fun a ha => by cases ha) (fun r s F H hi => ⟨H, goes_nil H r, hi, .of_grow (.refl H)⟩)
  refine ⟨H2, ?_⟩
  rw [x_fn rfl (show tab 5 = some ⟨112, [.tmp 4], sf5.body⟩ from rfl), body5_eq]
  simp (decide := true) only [note_false, Int.reduceBEq, Int.reduceBNe, x_drawn, l_nil, l_op, l_guard, l_some, l_true, l_false, l_draw, readsA, x_true, x_false, x_seq, x_ops, x_cond, x_skip, x_ret, x_exit, x_block, x_then, x_thenE, x_thenR, x_blockN, x_blockR, x_blockE, s_nil, s_op, s_guard, s_some, s_true, s_false, s_put, s_put0, s_opsR, s_ret, s_norm, aop, ev, evs, List.map_cons, List.map_nil, List.cons_append, List.nil_append, List.append_nil, List.replicate, List.take_succ_cons, List.take_zero, List.take_nil, List.drop_succ_cons, List.drop_zero, List.drop_nil, Nat.zero_add, Nat.add_zero, Nat.reduceAdd, Nat.reduceMul, Nat.reduceLeDiff, Bool.false_eq_true, and_self, List.length_cons, List.length_nil, List.set_cons_zero, List.set_cons_succ, List.getD_cons_zero, List.getD_cons_succ, wantedA, List.getElem?_cons_zero, List.getElem?_cons_succ, q_t, q_f, Bool.not_true, Bool.not_false, b_add, b_sub, b_mul, b_eql, b_neq, b_lss, b_leq, b_gtr, b_geq, b_and, b_or, b_xor, b_quo, b_rem, b_shl, b_shr, unA, Option.map_some, Option.map_none, resA, tupA, Int.reduceLT, not_false_eq_true, not_true_eq_false, decide_true, decide_false, f_bool, c_bool, f_int, c_int, f_str, c_str, f_nilptr, c_nilptr, f_ptr, c_ptr, f_nilsl, c_nilsl, f_slice, c_slice, f_nilmap, c_nilmap, f_map, c_map, f_nilf, c_nilf, f_func, c_func, f_yieldf, c_yieldf, f_nilif, c_nilif, f_iface, c_iface, c_agg, List.all_cons, List.all_nil, Bool.and_true, Bool.true_and, if_true, if_false, ite_true, ite_false, fillA, splice, e1, e2, e3]

theorem run5 : ∀ h xs, argsT Try.prog 1048576 h 5 Try.f5.params.toList xs → argsX Try.prog 1048576 5 Try.f5.params.toList emptyHeap xs h →
    ∃ n h', acall X1 tab n (.fn 5) xs h = some (.bool true, h') ∨ (AV.bares xs = true ∧ acall X1 tab n (.fn 5) xs emptyHeap = some (.bool true, h')) := by
  intro h xs _ hx
  rw [Try.params5] at hx
  obtain ⟨l, _, h1, rfl, hl, hx⟩ := argsX_cons hx
  obtain ⟨y, _, h2, rfl, hy, hx⟩ := argsX_cons hx
  obtain ⟨rfl, rfl⟩ := argsX_nil hx
  obtain ⟨cut, rfl, _, rfl⟩ := argX_int Try.underlying3 hy
  rcases argX_slice Try.underlying22 hl with ⟨rfl, rfl⟩ | ⟨len, ass, h3, e1, _, _, rfl, rfl⟩
  · obtain ⟨h', e⟩ := go5nil _ cut
    exact ranX e
  · obtain ⟨r1, r2, r3⟩ := thing_rows len e1
    have hc : Try.prog.cellsOf 29 = 5 := by kernel_rfl
    rw [hc]
    obtain ⟨ts, hts⟩ := things_of (h0 := h3.alloc (.cells ass.flatten true)) ass fun row hrow => by
      obtain ⟨a, q⟩ := (r3 row hrow).2
      exact ⟨a, q.grow (Grow.alloc _ _)⟩
    obtain ⟨h', e⟩ := go5 (b := h3.next) (h := h3.alloc (.cells ass.flatten true)) (by simp) (by rw [Heap.get_alloc, if_pos rfl]) (fun r hr => (r3 r hr).1) r1 hts cut
    exact ranX e
end Go.Proofs.Ytndcokalnpnbgaa.Ya

