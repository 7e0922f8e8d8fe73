/-
  Net, law NetFull: the run, whole.
-/
import Derived.Test.YtdgpjefbdocepaaYaNetFull1
namespace Go.Proofs.Ytdgpjefbdocepaa.Ya
open Go.Ya
set_option linter.unusedVariables false
set_option linter.unusedSimpArgs false
set_option maxRecDepth 100000
set_option maxHeartbeats 4000000

theorem body_eq : sf3.body = .seq (.ops [⟨some 2, .mov (.c (.bool false)), none⟩])
    (.seq (.ops [⟨some 9, .call 6 [], none⟩, ⟨some 3, .mov (.t 9), none⟩])
      (.seq (.seq (.ops [⟨some 10, .mov (.t 3), none⟩, ⟨some 11, .bin (.eql) (.ptr) (.t 10) (.c (.nilptr)), none⟩]) (.cond (.t 11) (.seq (.ops [⟨some 2, .mov (.c (.bool false)), none⟩]) (.ret)) (.skip)))
        (.seq (.seq (.ops [⟨some 4, .mov (.c (.int (.i64) 0)), none⟩]) (.block 0 loop1))
          (.seq (.seq (.ops [⟨some 6, .mov (.c (.int (.i64) 0)), none⟩]) (.block 2 loop2)) tail3)))) := rfl
theorem sf3_eq : sf3 = ⟨91, [.tmp 2], sf3.body⟩ := rfl
theorem go3 {more : Int} (h0 : 0 ≤ more) (h1 : more ≤ 255) (h : Heap) : ∃ h', xcall X1 tab (.fn 3) [.int .u8 more] h = some (.bool true, h') := by
  have hH : ∃ H, h.alloc (.cells [.nilsl, .bool true] false) = H ∧ Grow h H ∧ H.next = h.next + 1 ∧ H.get h.next = some (.cells [.nilsl, .bool true] false) :=
    ⟨_, rfl, .alloc _ _, by simp, by rw [Heap.get_alloc, if_pos rfl]⟩
  obtain ⟨H, hA, gA, hHn, G⟩ := hH
  have hn0 : NetAt H h.next (msgs (min 0 64)) (h.next + 1) (fun _ => False) :=
    ⟨by omega, .inr rfl, by omega, fun e => e, fun e => e, fun _ e => e.elim, .nilsl, G, .inl ⟨rfl, rfl⟩⟩
  have hT : Sh1 more h.next 0 [.int .u8 more, undefA, .bool false, .ptr h.next 0, .int .i64 0, undefA, undefA, undefA, undefA, .ptr h.next 0, .ptr h.next 0, .bool false, undefA, undefA, undefA, undefA, undefA, undefA, undefA, undefA, undefA, undefA, undefA, undefA, undefA, undefA, undefA, undefA, undefA, undefA, undefA, undefA, undefA, undefA, undefA, undefA, undefA, undefA, undefA, undefA, undefA, undefA, undefA, undefA, undefA, undefA, undefA, undefA, undefA, undefA, undefA, undefA, undefA, undefA, undefA, undefA, undefA, undefA, undefA, undefA, undefA, undefA, undefA, undefA, undefA, undefA, undefA, undefA, undefA, undefA, undefA, undefA, undefA, undefA, undefA, undefA, undefA, undefA, undefA, undefA, undefA, undefA, undefA, undefA, undefA, undefA, undefA, undefA, undefA, undefA, undefA] := ⟨rfl, rfl, rfl, rfl, rfl⟩
  obtain ⟨h1', b1, Q1, i1, tm1, e1, s1, n1⟩ := loop1_spec h0 h1 h.next 104 0 (h.next + 1) _ H _ (by omega) (by omega) hT hn0
  have s1' : Sh2 h.next 0 (tm1.set 6 (.int .i64 0)) := by
    obtain ⟨a0, a1, a2, a3, a4⟩ := s1
    refine ⟨by simpa using a0, ?_, ?_, ?_⟩
    · rw [List.getElem?_set_ne (by decide)]; exact a2
    · rw [List.getElem?_set_ne (by decide)]; exact a3
    · rw [List.getElem?_set_self (by omega)]; rfl
  obtain ⟨h2', b2, Q2, tm2, e2, s2, n2⟩ := loop2_spec h.next 64 0 b1 Q1 h1' _ rfl s1' (by simpa using n1)
  obtain ⟨tm3, e3, g3⟩ := tail3_spec h.next b2 Q2 h2' tm2 s2 n2
  have g4 : tm3.getD 2 undefA = .bool true := by rw [List.getD_eq_getElem?_getD, g3]; rfl
  refine ⟨h2', ?_⟩
  rw [x_fn rfl (show tab 3 = some ⟨91, [.tmp 2], sf3.body⟩ from rfl), body_eq]
  simp (decide := true) only [x_drawn, l_nil, l_op, l_guard, l_some, l_true, l_false, l_draw, readsA, x_true, x_false, x_seq, x_ops, x_cond, x_skip, x_ret, x_exit, x_block, x_then, x_thenE, x_thenR, x_blockN, x_blockR, x_blockE, s_nil, s_op, s_guard, s_some, s_true, s_false, s_put, s_put0, s_opsR, s_ret, s_norm, aop, ev, evs, List.map_cons, List.map_nil, List.cons_append, List.nil_append, List.append_nil, List.replicate, List.take_succ_cons, List.take_zero, List.take_nil, List.drop_succ_cons, List.drop_zero, List.drop_nil, Nat.zero_add, Nat.add_zero, Nat.reduceAdd, Nat.reduceMul, Nat.reduceLeDiff, Bool.false_eq_true, and_self, List.length_cons, List.length_nil, List.set_cons_zero, List.set_cons_succ, List.getD_cons_zero, List.getD_cons_succ, wantedA, List.getElem?_cons_zero, List.getElem?_cons_succ, q_t, q_f, Bool.not_true, Bool.not_false, b_add, b_sub, b_mul, b_eql, b_neq, b_lss, b_leq, b_gtr, b_geq, b_and, b_or, b_xor, b_quo, b_rem, b_shl, b_shr, unA, Option.map_some, Option.map_none, resA, tupA, Int.reduceLT, not_false_eq_true, not_true_eq_false, decide_true, decide_false, f_bool, c_bool, f_int, c_int, f_str, c_str, f_nilptr, c_nilptr, f_ptr, c_ptr, f_nilsl, c_nilsl, f_slice, c_slice, f_nilmap, c_nilmap, f_map, c_map, f_nilf, c_nilf, f_func, c_func, f_yieldf, c_yieldf, f_nilif, c_nilif, f_iface, c_iface, c_agg, List.all_cons, List.all_nil, Bool.and_true, Bool.true_and, if_true, if_false, ite_true, ite_false, new6 h, hA, e1, e2, e3, g4, show binA .eql .ptr (.ptr h.next 0) .nilptr = some (.bool false) from rfl]

theorem run3 (N : Nat) : ∀ h xs, argsT Try.prog N h 5 Try.f3.params.toList xs → argsX Try.prog N 5 Try.f3.params.toList emptyHeap xs h →
    ∃ n h', acall X1 tab n (.fn 3) xs h = some (.bool true, h') ∨ (AV.bares xs = true ∧ acall X1 tab n (.fn 3) xs emptyHeap = some (.bool true, h')) := by
  intro h xs _ hx
  rw [Try.params3] at hx
  obtain ⟨m, _, h1, rfl, hm, hx⟩ := argsX_cons hx
  obtain ⟨rfl, rfl⟩ := argsX_nil hx
  obtain ⟨k, rfl, wk, rfl⟩ := argX_int Try.underlying5 hm
  have hb : 0 ≤ k ∧ k ≤ 255 := by simpa [wfInt, IntKind.signed, IntKind.bits, IntKind.min, IntKind.max] using wk
  obtain ⟨h', e⟩ := go3 hb.1 hb.2 emptyHeap
  exact ranX e
end Go.Proofs.Ytdgpjefbdocepaa.Ya
