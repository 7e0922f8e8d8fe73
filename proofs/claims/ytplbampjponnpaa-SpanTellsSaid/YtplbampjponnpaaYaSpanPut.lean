/-
  Spans: the document's put and ends.
-/
import Derived.Test.YtplbampjponnpaaYaSpanScan3
import Derived.Test.YtplbampjponnpaaYaIter2
namespace Go.Proofs.Ytplbampjponnpaa.Ya
open Go.Ya Go.Ya.Span
set_option linter.unusedVariables false
set_option linter.unusedSimpArgs false
set_option maxRecDepth 100000
set_option maxHeartbeats 16000000

/-- What put has written behind i numbers, and whether n is among it. -/
def pStep (n : Int) (st : List Int × Bool) (x : Int) : List Int × Bool := (st.1 ++ ((if (!st.2 && decide (x ≥ n)) = true then [n] else []) ++ (if x ≠ n then [x] else [])), st.2 || decide (x ≥ n))
theorem putG_fold (n : Int) : ∀ (l : List Int) (out : List Int) (is : Bool), out ++ putG n is l = (l.foldl (pStep n) (out, is)).1 ++ (if (l.foldl (pStep n) (out, is)).2 = true then [] else [n])
  | [], out, is => by cases is <;> simp [putG]
  | x :: l, out, is => by
    rw [List.foldl_cons, ← putG_fold n l]
    simp [pStep, putG]
theorem putP_eq (l : List Int) (n : Int) : putP l n = (l.foldl (pStep n) ([], false)).1 ++ (if (l.foldl (pStep n) ([], false)).2 = true then [] else [n]) := by
  have := putG_fold n l [] false
  rwa [List.nil_append] at this
theorem take_snoc {l : List Int} {i : Nat} (hi : i < l.length) : l.take (i + 1) = l.take i ++ [l.getD i 0] := by
  rw [List.take_succ_eq_append_getElem hi, List.getD_eq_getElem?_getD, List.getElem?_eq_getElem hi]; rfl
theorem pfold_len (n : Int) : ∀ (l : List Int) (st : List Int × Bool), (l.foldl (pStep n) st).1.length ≤ st.1.length + 2 * l.length
  | [], st => by simp
  | x :: l, st => by
    have := pfold_len n l (pStep n st x)
    have h2 : (pStep n st x).1.length ≤ st.1.length + 2 := by
      unfold pStep
      simp only [List.length_append]
      split <;> split <;> simp
    rw [List.foldl_cons, List.length_cons]; omega
def L35_0 : SC := (.seq (.seq (.ops [⟨some 8, .mov (.t 7), none⟩, ⟨some 9, .mov (.t 0), none⟩, ⟨some 10, .len (.sl) (.t 9), none⟩, ⟨some 11, .bin (.lss) (.other) (.t 8) (.t 10), none⟩]) (.cond (.t 11) (.skip) (.exit 0))) (.seq (.block 1 (.seq (.seq (.ops [⟨some 14, .mov (.t 6), none⟩, ⟨some 15, .un (.not) (.t 14), none⟩, ⟨some 16, .mov (.t 15), none⟩, ⟨some 17, .mov (.t 0), some (16, true)⟩, ⟨some 18, .mov (.t 7), some (16, true)⟩, ⟨some 19, .idxAddrSl 1 (.t 17) (.t 18), some (16, true)⟩, ⟨some 20, .load false 1 (.t 19), some (16, true)⟩, ⟨some 21, .mov (.t 1), some (16, true)⟩, ⟨some 22, .bin (.geq) (.other) (.t 20) (.t 21), some (16, true)⟩, ⟨some 23, .pick (.t 16) (.t 22) (.c (.bool false)), none⟩]) (.cond (.t 23) (.seq (.ops [⟨some 24, .mov (.t 5), none⟩, ⟨some 25, .mov (.t 1), none⟩, ⟨some 26, .buildSlice [.int (.u32) 0] 1 1 [(0, 1, .t 25)], none⟩, ⟨some 27, .append 1 4 (.t 24) (.t 26), none⟩, ⟨some 5, .mov (.t 27), none⟩]) (.ops [⟨some 6, .mov (.c (.bool true)), none⟩])) (.skip))) (.seq (.ops [⟨some 28, .mov (.t 0), none⟩, ⟨some 29, .mov (.t 7), none⟩, ⟨some 30, .idxAddrSl 1 (.t 28) (.t 29), none⟩, ⟨some 31, .load false 1 (.t 30), none⟩, ⟨some 32, .mov (.t 1), none⟩, ⟨some 33, .bin (.neq) (.other) (.t 31) (.t 32), none⟩]) (.cond (.t 33) (.ops [⟨some 34, .mov (.t 5), none⟩, ⟨some 35, .mov (.t 0), none⟩, ⟨some 36, .mov (.t 7), none⟩, ⟨some 37, .idxAddrSl 1 (.t 35) (.t 36), none⟩, ⟨some 38, .load false 1 (.t 37), none⟩, ⟨some 39, .buildSlice [.int (.u32) 0] 1 1 [(0, 1, .t 38)], none⟩, ⟨some 40, .append 1 4 (.t 34) (.t 39), none⟩, ⟨some 5, .mov (.t 40), none⟩]) (.skip))))) (.ops [⟨some 12, .mov (.t 7), none⟩, ⟨some 13, .bin (.add) (.other) (.t 12) (.c (.int (.i64) 1)), none⟩, ⟨some 7, .mov (.t 13), none⟩])))
def b35 : SC := .seq (.ops [⟨some 4, .mov (.c (.nilsl)), none⟩]) (.seq (.ops [⟨some 5, .mov (.c (.nilsl)), none⟩]) (.seq (.ops [⟨some 6, .mov (.c (.bool false)), none⟩]) (.seq (.seq (.ops [⟨some 7, .mov (.c (.int (.i64) 0)), none⟩]) (.block 0 (.loop L35_0))) (.seq (.seq (.ops [⟨some 41, .mov (.t 6), none⟩, ⟨some 42, .un (.not) (.t 41), none⟩]) (.cond (.t 42) (.ops [⟨some 43, .mov (.t 5), none⟩, ⟨some 44, .mov (.t 1), none⟩, ⟨some 45, .buildSlice [.int (.u32) 0] 1 1 [(0, 1, .t 44)], none⟩, ⟨some 46, .append 1 4 (.t 43) (.t 45), none⟩, ⟨some 5, .mov (.t 46), none⟩]) (.skip))) (.seq (.ops [⟨some 47, .mov (.t 5), none⟩, ⟨some 4, .mov (.t 47), none⟩]) (.ret))))))
theorem t35 : tab 35 = some ⟨48, [.tmp 4], b35⟩ := rfl
def Sh35 (V sl : AV) (n : Int) (is : Bool) (i : Nat) (tm : List AV) : Prop := tm.length = 48 ∧ tm[0]? = some (V) ∧ tm[1]? = some (.int .u32 n) ∧ tm[5]? = some (sl) ∧ tm[6]? = some (.bool is) ∧ tm[7]? = some (.int .i64 (i : Nat))

theorem round35 {g h : Heap} {V sl : AV} {l : List Int} {n : Int} {st : List Int × Bool} {i : Nat} (hV : InAt g V l) (gr : Grow g h) (hl : l.length ≤ 1000000) (hi : i < l.length) (om : Mine 1 g.next h sl (st.1.map inA)) (hs : st.1.length ≤ 2 * i) {tm : List AV} (ht : Sh35 V sl n st.2 i tm) :
    ∃ tm' sl' h', xcode X1 tab 35 none (.loop L35_0) tm h = xcode X1 tab 35 none (.loop L35_0) tm' h' ∧ Sh35 V sl' n (pStep n st (l.getD i 0)).2 (i + 1) tm' ∧ Grow g h' ∧ Mine 1 g.next h' sl' ((pStep n st (l.getD i 0)).1.map inA) := by
  obtain ⟨out, is⟩ := st
  simp only at om hs ht
  match tm, ht with
  | a0 :: a1 :: a2 :: a3 :: a4 :: a5 :: a6 :: a7 :: a8 :: a9 :: a10 :: a11 :: a12 :: a13 :: a14 :: a15 :: a16 :: a17 :: a18 :: a19 :: a20 :: a21 :: a22 :: a23 :: a24 :: a25 :: a26 :: a27 :: a28 :: a29 :: a30 :: a31 :: a32 :: a33 :: a34 :: a35 :: a36 :: a37 :: a38 :: a39 :: a40 :: a41 :: a42 :: a43 :: a44 :: a45 :: a46 :: a47 :: [], ht =>
  obtain ⟨_, t0, t1, t5, t6, t7⟩ := ht
  simp only [List.getElem?_cons_zero, List.getElem?_cons_succ, Option.some.injEq] at t0 t1 t5 t6 t7
  replace t0 := t0.symm; replace t1 := t1.symm; replace t5 := t5.symm; replace t6 := t6.symm; replace t7 := t7.symm
  subst t0 t1 t5 t6 t7
  rcases in_cases (hV.grow gr) with ⟨rfl, rfl⟩ | ⟨id, off, cap, ex, c, ro, rfl, hg, hid, hcl, hc0⟩
  · exact absurd hi (by simp)
  have hlen : (out.map inA).length = out.length := by simp
  generalize hx : l.getD i 0 = x at *
  have hcx : c[off + i]? = some (.int .u32 x) := by rw [hc0 i hi, hx]
  by_cases hc : is = false ∧ x ≥ n
  · obtain ⟨rfl, hge⟩ := hc
    have e1 : (pStep n (out, false) x) = (out ++ ([n] ++ (if x ≠ n then [x] else [])), true) := by simp [pStep, hge]
    rw [e1]
    obtain ⟨sl1, h1, k1, m1, g1, f1, _, _⟩ := om.push (bytes := 4) gr (Nat.le_refl _) gr.1 (inA n) false rfl true (by rw [hlen]; omega)
    have hg1 : h1.get id = some (.cells c ro) := by
      have : id < g.next := by
        rcases in_cases hV with ⟨e, _⟩ | ⟨_, _, _, _, _, _, e, _, q, _⟩
        · cases e
        · cases e; exact q
      rw [g1.2 id this, ← gr.2 id this]; exact hg
    have hid1 := Heap.lt_of_get hg1
    by_cases hxn : x = n
    · refine ⟨?_, sl1, h1, ?_, ?_, g1, ?_⟩
      rotate_left
      · delta inA at k1
        rw [show ∀ tm h, xcode X1 tab 35 none (.loop L35_0) tm h = thenX X1 tab 35 none (.loop L35_0) (xcode X1 tab 35 none L35_0 tm h) from fun _ _ => x_loop]
        delta L35_0
        simp (disch := first | omega | (simp only [nx_alloc, nx_set] <;> omega) | (apply Rd.grow; assumption; repeat (first | exact Grow.refl _ | assumption | exact Grow.alloc _ _ | refine Grow.allocR ?_ _ | refine Grow.setR ?_ _ ?_ ?_ | omega | (simp only [nx_alloc, nx_set] <;> omega) | (apply Grow.trans; rotate_left; assumption) | fail)) | fail) only [note_false, Int.reduceBEq, Int.reduceBNe, x_drawn, l_nil, l_op, l_guard, l_some, l_true, l_false, l_draw, readsA, x_true, x_false, x_seq, x_ops, x_cond, x_skip, x_ret, x_exit, x_block, x_then, x_thenE, x_thenR, x_blockN, x_blockR, x_blockE, s_nil, s_op, s_guard, s_some, s_true, s_false, s_put, s_put0, s_opsR, s_ret, s_norm, aop, ev, evs, List.map_cons, List.map_nil, List.cons_append, List.nil_append, List.append_nil, List.replicate, List.take_succ_cons, List.take_zero, List.take_nil, List.drop_succ_cons, List.drop_zero, List.drop_nil, Nat.zero_add, Nat.add_zero, Nat.reduceAdd, Nat.reduceMul, Nat.reduceLeDiff, Bool.false_eq_true, and_self, List.length_cons, List.length_nil, List.set_cons_zero, List.set_cons_succ, List.getD_cons_zero, List.getD_cons_succ, wantedA, List.getElem?_cons_zero, List.getElem?_cons_succ, q_t, q_f, Bool.not_true, Bool.not_false, b_add, b_sub, b_mul, b_eql, b_neq, b_lss, b_leq, b_gtr, b_geq, b_and, b_or, b_xor, b_quo, b_rem, b_shl, b_shr, unA, Option.map_some, Option.map_none, resA, tupA, Int.reduceLT, not_false_eq_true, not_true_eq_false, decide_true, decide_false, f_bool, c_bool, f_int, c_int, f_str, c_str, f_nilptr, c_nilptr, f_ptr, c_ptr, f_nilsl, c_nilsl, f_slice, c_slice, f_nilmap, c_nilmap, f_map, c_map, f_nilf, c_nilf, f_func, c_func, f_yieldf, c_yieldf, f_nilif, c_nilif, f_iface, c_iface, c_agg, List.all_cons, List.all_nil, Bool.and_true, Bool.true_and, if_true, if_false, ite_true, ite_false, ga_new, ga_old, gs_new, gs_old, Heap.next_alloc, Heap.next_set, loadA, storeA, splice, fillA, d_t, d_f, i_t, i_f, beq_t, beq_f, bne_t, bne_f, w_i64, w_u64, w_u32, w_i32, w_u8, Int.toNat_natCast, n_sub1, n_add1, Nat.sub_zero, Nat.mul_one, Nat.one_mul, Nat.zero_mul, List.append_assoc, Option.bind_some, chkLog, same_cells, List.replicate_zero, List.flatten_nil, true_and, and_true, b_eqB, b_neB, b_eqS, b_neS, Bool.true_beq, Bool.false_beq, kindsOk, k_0, k_1, k_2, plainEq, Bool.bne_true, Bool.bne_false, beq_self_eq_true, bne_self_eq_false, Int.tdiv_eq_ediv_of_nonneg, Int.tmod_eq_emod_of_nonneg, List.length_nil, hg, hcx, hg1, k1]
        rfl
      · exact ⟨rfl, rfl, rfl, rfl, rfl, rfl⟩
      · rw [if_neg (by simpa using hxn), List.append_nil, List.map_append]; exact m1
    · obtain ⟨sl2, h2, k2, m2, g2, f2, _, _⟩ := m1.push (bytes := 4) g1 (Nat.le_refl _) g1.1 (inA x) false rfl true (by simp; omega)
      refine ⟨?_, sl2, h2, ?_, ?_, g2, ?_⟩
      rotate_left
      · delta inA at k1 k2
        rw [show ∀ tm h, xcode X1 tab 35 none (.loop L35_0) tm h = thenX X1 tab 35 none (.loop L35_0) (xcode X1 tab 35 none L35_0 tm h) from fun _ _ => x_loop]
        delta L35_0
        simp (disch := first | omega | (simp only [nx_alloc, nx_set] <;> omega) | (apply Rd.grow; assumption; repeat (first | exact Grow.refl _ | assumption | exact Grow.alloc _ _ | refine Grow.allocR ?_ _ | refine Grow.setR ?_ _ ?_ ?_ | omega | (simp only [nx_alloc, nx_set] <;> omega) | (apply Grow.trans; rotate_left; assumption) | fail)) | fail) only [note_false, Int.reduceBEq, Int.reduceBNe, x_drawn, l_nil, l_op, l_guard, l_some, l_true, l_false, l_draw, readsA, x_true, x_false, x_seq, x_ops, x_cond, x_skip, x_ret, x_exit, x_block, x_then, x_thenE, x_thenR, x_blockN, x_blockR, x_blockE, s_nil, s_op, s_guard, s_some, s_true, s_false, s_put, s_put0, s_opsR, s_ret, s_norm, aop, ev, evs, List.map_cons, List.map_nil, List.cons_append, List.nil_append, List.append_nil, List.replicate, List.take_succ_cons, List.take_zero, List.take_nil, List.drop_succ_cons, List.drop_zero, List.drop_nil, Nat.zero_add, Nat.add_zero, Nat.reduceAdd, Nat.reduceMul, Nat.reduceLeDiff, Bool.false_eq_true, and_self, List.length_cons, List.length_nil, List.set_cons_zero, List.set_cons_succ, List.getD_cons_zero, List.getD_cons_succ, wantedA, List.getElem?_cons_zero, List.getElem?_cons_succ, q_t, q_f, Bool.not_true, Bool.not_false, b_add, b_sub, b_mul, b_eql, b_neq, b_lss, b_leq, b_gtr, b_geq, b_and, b_or, b_xor, b_quo, b_rem, b_shl, b_shr, unA, Option.map_some, Option.map_none, resA, tupA, Int.reduceLT, not_false_eq_true, not_true_eq_false, decide_true, decide_false, f_bool, c_bool, f_int, c_int, f_str, c_str, f_nilptr, c_nilptr, f_ptr, c_ptr, f_nilsl, c_nilsl, f_slice, c_slice, f_nilmap, c_nilmap, f_map, c_map, f_nilf, c_nilf, f_func, c_func, f_yieldf, c_yieldf, f_nilif, c_nilif, f_iface, c_iface, c_agg, List.all_cons, List.all_nil, Bool.and_true, Bool.true_and, if_true, if_false, ite_true, ite_false, ga_new, ga_old, gs_new, gs_old, Heap.next_alloc, Heap.next_set, loadA, storeA, splice, fillA, d_t, d_f, i_t, i_f, beq_t, beq_f, bne_t, bne_f, w_i64, w_u64, w_u32, w_i32, w_u8, Int.toNat_natCast, n_sub1, n_add1, Nat.sub_zero, Nat.mul_one, Nat.one_mul, Nat.zero_mul, List.append_assoc, Option.bind_some, chkLog, same_cells, List.replicate_zero, List.flatten_nil, true_and, and_true, b_eqB, b_neB, b_eqS, b_neS, Bool.true_beq, Bool.false_beq, kindsOk, k_0, k_1, k_2, plainEq, Bool.bne_true, Bool.bne_false, beq_self_eq_true, bne_self_eq_false, Int.tdiv_eq_ediv_of_nonneg, Int.tmod_eq_emod_of_nonneg, List.length_nil, hg, hcx, hg1, k1, k2]
        rfl
      · exact ⟨rfl, rfl, rfl, rfl, rfl, rfl⟩
      · rw [if_pos hxn]
        simpa using m2
  · have e1 : (pStep n (out, is) x) = (out ++ (if x ≠ n then [x] else []), is || decide (x ≥ n)) := by
      have : (!is && decide (x ≥ n)) = false := by cases is <;> simp_all
      simp [pStep, this]
    rw [e1]
    by_cases hxn : x = n
    · have his : is = true := by
        cases is
        · exact absurd ⟨rfl, by omega⟩ hc
        · rfl
      subst his
      refine ⟨?_, sl, h, ?_, ?_, gr, ?_⟩
      rotate_left
      · rw [show ∀ tm h, xcode X1 tab 35 none (.loop L35_0) tm h = thenX X1 tab 35 none (.loop L35_0) (xcode X1 tab 35 none L35_0 tm h) from fun _ _ => x_loop]
        delta L35_0
        simp (disch := first | omega | (simp only [nx_alloc, nx_set] <;> omega) | (apply Rd.grow; assumption; repeat (first | exact Grow.refl _ | assumption | exact Grow.alloc _ _ | refine Grow.allocR ?_ _ | refine Grow.setR ?_ _ ?_ ?_ | omega | (simp only [nx_alloc, nx_set] <;> omega) | (apply Grow.trans; rotate_left; assumption) | fail)) | fail) only [note_false, Int.reduceBEq, Int.reduceBNe, x_drawn, l_nil, l_op, l_guard, l_some, l_true, l_false, l_draw, readsA, x_true, x_false, x_seq, x_ops, x_cond, x_skip, x_ret, x_exit, x_block, x_then, x_thenE, x_thenR, x_blockN, x_blockR, x_blockE, s_nil, s_op, s_guard, s_some, s_true, s_false, s_put, s_put0, s_opsR, s_ret, s_norm, aop, ev, evs, List.map_cons, List.map_nil, List.cons_append, List.nil_append, List.append_nil, List.replicate, List.take_succ_cons, List.take_zero, List.take_nil, List.drop_succ_cons, List.drop_zero, List.drop_nil, Nat.zero_add, Nat.add_zero, Nat.reduceAdd, Nat.reduceMul, Nat.reduceLeDiff, Bool.false_eq_true, and_self, List.length_cons, List.length_nil, List.set_cons_zero, List.set_cons_succ, List.getD_cons_zero, List.getD_cons_succ, wantedA, List.getElem?_cons_zero, List.getElem?_cons_succ, q_t, q_f, Bool.not_true, Bool.not_false, b_add, b_sub, b_mul, b_eql, b_neq, b_lss, b_leq, b_gtr, b_geq, b_and, b_or, b_xor, b_quo, b_rem, b_shl, b_shr, unA, Option.map_some, Option.map_none, resA, tupA, Int.reduceLT, not_false_eq_true, not_true_eq_false, decide_true, decide_false, f_bool, c_bool, f_int, c_int, f_str, c_str, f_nilptr, c_nilptr, f_ptr, c_ptr, f_nilsl, c_nilsl, f_slice, c_slice, f_nilmap, c_nilmap, f_map, c_map, f_nilf, c_nilf, f_func, c_func, f_yieldf, c_yieldf, f_nilif, c_nilif, f_iface, c_iface, c_agg, List.all_cons, List.all_nil, Bool.and_true, Bool.true_and, if_true, if_false, ite_true, ite_false, ga_new, ga_old, gs_new, gs_old, Heap.next_alloc, Heap.next_set, loadA, storeA, splice, fillA, d_t, d_f, i_t, i_f, beq_t, beq_f, bne_t, bne_f, w_i64, w_u64, w_u32, w_i32, w_u8, Int.toNat_natCast, n_sub1, n_add1, Nat.sub_zero, Nat.mul_one, Nat.one_mul, Nat.zero_mul, List.append_assoc, Option.bind_some, chkLog, same_cells, List.replicate_zero, List.flatten_nil, true_and, and_true, b_eqB, b_neB, b_eqS, b_neS, Bool.true_beq, Bool.false_beq, kindsOk, k_0, k_1, k_2, plainEq, Bool.bne_true, Bool.bne_false, beq_self_eq_true, bne_self_eq_false, Int.tdiv_eq_ediv_of_nonneg, Int.tmod_eq_emod_of_nonneg, List.length_nil, hg, hcx]
        rfl
      · exact ⟨rfl, rfl, rfl, rfl, rfl, rfl⟩
      · rw [if_neg (by simpa using hxn), List.append_nil]; exact om
    · obtain ⟨sl1, h1, k1, m1, g1, f1, _, _⟩ := om.push (bytes := 4) gr (Nat.le_refl _) gr.1 (inA x) false rfl true (by rw [hlen]; omega)
      delta inA at k1
      have hrun : ∃ tm', xcode X1 tab 35 none (.loop L35_0) (.slice id off l.length cap ex 1 :: .int .u32 n :: a2 :: a3 :: a4 :: sl :: .bool is :: .int .i64 (i : Nat) :: a8 :: a9 :: a10 :: a11 :: a12 :: a13 :: a14 :: a15 :: a16 :: a17 :: a18 :: a19 :: a20 :: a21 :: a22 :: a23 :: a24 :: a25 :: a26 :: a27 :: a28 :: a29 :: a30 :: a31 :: a32 :: a33 :: a34 :: a35 :: a36 :: a37 :: a38 :: a39 :: a40 :: a41 :: a42 :: a43 :: a44 :: a45 :: a46 :: a47 :: []) h = xcode X1 tab 35 none (.loop L35_0) tm' h1 ∧ Sh35 (.slice id off l.length cap ex 1) sl1 n (is || decide (x ≥ n)) (i + 1) tm' := by
        cases is
        · have hlt : ¬ x ≥ n := fun e => hc ⟨rfl, e⟩
          refine ⟨?_, ?_, ?_⟩
          rotate_left
          · rw [show ∀ tm h, xcode X1 tab 35 none (.loop L35_0) tm h = thenX X1 tab 35 none (.loop L35_0) (xcode X1 tab 35 none L35_0 tm h) from fun _ _ => x_loop]
            delta L35_0
            simp (disch := first | omega | (simp only [nx_alloc, nx_set] <;> omega) | (apply Rd.grow; assumption; repeat (first | exact Grow.refl _ | assumption | exact Grow.alloc _ _ | refine Grow.allocR ?_ _ | refine Grow.setR ?_ _ ?_ ?_ | omega | (simp only [nx_alloc, nx_set] <;> omega) | (apply Grow.trans; rotate_left; assumption) | fail)) | fail) only [note_false, Int.reduceBEq, Int.reduceBNe, x_drawn, l_nil, l_op, l_guard, l_some, l_true, l_false, l_draw, readsA, x_true, x_false, x_seq, x_ops, x_cond, x_skip, x_ret, x_exit, x_block, x_then, x_thenE, x_thenR, x_blockN, x_blockR, x_blockE, s_nil, s_op, s_guard, s_some, s_true, s_false, s_put, s_put0, s_opsR, s_ret, s_norm, aop, ev, evs, List.map_cons, List.map_nil, List.cons_append, List.nil_append, List.append_nil, List.replicate, List.take_succ_cons, List.take_zero, List.take_nil, List.drop_succ_cons, List.drop_zero, List.drop_nil, Nat.zero_add, Nat.add_zero, Nat.reduceAdd, Nat.reduceMul, Nat.reduceLeDiff, Bool.false_eq_true, and_self, List.length_cons, List.length_nil, List.set_cons_zero, List.set_cons_succ, List.getD_cons_zero, List.getD_cons_succ, wantedA, List.getElem?_cons_zero, List.getElem?_cons_succ, q_t, q_f, Bool.not_true, Bool.not_false, b_add, b_sub, b_mul, b_eql, b_neq, b_lss, b_leq, b_gtr, b_geq, b_and, b_or, b_xor, b_quo, b_rem, b_shl, b_shr, unA, Option.map_some, Option.map_none, resA, tupA, Int.reduceLT, not_false_eq_true, not_true_eq_false, decide_true, decide_false, f_bool, c_bool, f_int, c_int, f_str, c_str, f_nilptr, c_nilptr, f_ptr, c_ptr, f_nilsl, c_nilsl, f_slice, c_slice, f_nilmap, c_nilmap, f_map, c_map, f_nilf, c_nilf, f_func, c_func, f_yieldf, c_yieldf, f_nilif, c_nilif, f_iface, c_iface, c_agg, List.all_cons, List.all_nil, Bool.and_true, Bool.true_and, if_true, if_false, ite_true, ite_false, ga_new, ga_old, gs_new, gs_old, Heap.next_alloc, Heap.next_set, loadA, storeA, splice, fillA, d_t, d_f, i_t, i_f, beq_t, beq_f, bne_t, bne_f, w_i64, w_u64, w_u32, w_i32, w_u8, Int.toNat_natCast, n_sub1, n_add1, Nat.sub_zero, Nat.mul_one, Nat.one_mul, Nat.zero_mul, List.append_assoc, Option.bind_some, chkLog, same_cells, List.replicate_zero, List.flatten_nil, true_and, and_true, b_eqB, b_neB, b_eqS, b_neS, Bool.true_beq, Bool.false_beq, kindsOk, k_0, k_1, k_2, plainEq, Bool.bne_true, Bool.bne_false, beq_self_eq_true, bne_self_eq_false, Int.tdiv_eq_ediv_of_nonneg, Int.tmod_eq_emod_of_nonneg, List.length_nil, hg, hcx, k1]
            rfl
          · exact ⟨rfl, rfl, rfl, rfl, by rw [decide_eq_false hlt]; rfl, rfl⟩
        · refine ⟨?_, ?_, ?_⟩
          rotate_left
          · rw [show ∀ tm h, xcode X1 tab 35 none (.loop L35_0) tm h = thenX X1 tab 35 none (.loop L35_0) (xcode X1 tab 35 none L35_0 tm h) from fun _ _ => x_loop]
            delta L35_0
            simp (disch := first | omega | (simp only [nx_alloc, nx_set] <;> omega) | (apply Rd.grow; assumption; repeat (first | exact Grow.refl _ | assumption | exact Grow.alloc _ _ | refine Grow.allocR ?_ _ | refine Grow.setR ?_ _ ?_ ?_ | omega | (simp only [nx_alloc, nx_set] <;> omega) | (apply Grow.trans; rotate_left; assumption) | fail)) | fail) only [note_false, Int.reduceBEq, Int.reduceBNe, x_drawn, l_nil, l_op, l_guard, l_some, l_true, l_false, l_draw, readsA, x_true, x_false, x_seq, x_ops, x_cond, x_skip, x_ret, x_exit, x_block, x_then, x_thenE, x_thenR, x_blockN, x_blockR, x_blockE, s_nil, s_op, s_guard, s_some, s_true, s_false, s_put, s_put0, s_opsR, s_ret, s_norm, aop, ev, evs, List.map_cons, List.map_nil, List.cons_append, List.nil_append, List.append_nil, List.replicate, List.take_succ_cons, List.take_zero, List.take_nil, List.drop_succ_cons, List.drop_zero, List.drop_nil, Nat.zero_add, Nat.add_zero, Nat.reduceAdd, Nat.reduceMul, Nat.reduceLeDiff, Bool.false_eq_true, and_self, List.length_cons, List.length_nil, List.set_cons_zero, List.set_cons_succ, List.getD_cons_zero, List.getD_cons_succ, wantedA, List.getElem?_cons_zero, List.getElem?_cons_succ, q_t, q_f, Bool.not_true, Bool.not_false, b_add, b_sub, b_mul, b_eql, b_neq, b_lss, b_leq, b_gtr, b_geq, b_and, b_or, b_xor, b_quo, b_rem, b_shl, b_shr, unA, Option.map_some, Option.map_none, resA, tupA, Int.reduceLT, not_false_eq_true, not_true_eq_false, decide_true, decide_false, f_bool, c_bool, f_int, c_int, f_str, c_str, f_nilptr, c_nilptr, f_ptr, c_ptr, f_nilsl, c_nilsl, f_slice, c_slice, f_nilmap, c_nilmap, f_map, c_map, f_nilf, c_nilf, f_func, c_func, f_yieldf, c_yieldf, f_nilif, c_nilif, f_iface, c_iface, c_agg, List.all_cons, List.all_nil, Bool.and_true, Bool.true_and, if_true, if_false, ite_true, ite_false, ga_new, ga_old, gs_new, gs_old, Heap.next_alloc, Heap.next_set, loadA, storeA, splice, fillA, d_t, d_f, i_t, i_f, beq_t, beq_f, bne_t, bne_f, w_i64, w_u64, w_u32, w_i32, w_u8, Int.toNat_natCast, n_sub1, n_add1, Nat.sub_zero, Nat.mul_one, Nat.one_mul, Nat.zero_mul, List.append_assoc, Option.bind_some, chkLog, same_cells, List.replicate_zero, List.flatten_nil, true_and, and_true, b_eqB, b_neB, b_eqS, b_neS, Bool.true_beq, Bool.false_beq, kindsOk, k_0, k_1, k_2, plainEq, Bool.bne_true, Bool.bne_false, beq_self_eq_true, bne_self_eq_false, Int.tdiv_eq_ediv_of_nonneg, Int.tmod_eq_emod_of_nonneg, List.length_nil, hg, hcx, k1]
            rfl
          · exact ⟨rfl, rfl, rfl, rfl, rfl, rfl⟩
      obtain ⟨tm', hr, hs'⟩ := hrun
      refine ⟨tm', sl1, h1, hr, hs', g1, ?_⟩
      rw [if_pos hxn, List.map_append]; exact m1
theorem end35 {h : Heap} {V sl : AV} {l : List Int} {n : Int} {is : Bool} (hV : InAt h V l) {tm : List AV} (ht : Sh35 V sl n is l.length tm) : ∃ tm', xcode X1 tab 35 none (.loop L35_0) tm h = some (.exit 0, tm', h) ∧ Sh35 V sl n is l.length tm' := by
  match tm, ht with
  | a0 :: a1 :: a2 :: a3 :: a4 :: a5 :: a6 :: a7 :: a8 :: a9 :: a10 :: a11 :: a12 :: a13 :: a14 :: a15 :: a16 :: a17 :: a18 :: a19 :: a20 :: a21 :: a22 :: a23 :: a24 :: a25 :: a26 :: a27 :: a28 :: a29 :: a30 :: a31 :: a32 :: a33 :: a34 :: a35 :: a36 :: a37 :: a38 :: a39 :: a40 :: a41 :: a42 :: a43 :: a44 :: a45 :: a46 :: a47 :: [], ht =>
  obtain ⟨_, t0, t1, t5, t6, t7⟩ := ht
  simp only [List.getElem?_cons_zero, List.getElem?_cons_succ, Option.some.injEq] at t0 t1 t5 t6 t7
  replace t0 := t0.symm; replace t1 := t1.symm; replace t5 := t5.symm; replace t6 := t6.symm; replace t7 := t7.symm
  subst t0 t1 t5 t6 t7
  rcases in_cases hV with ⟨rfl, rfl⟩ | ⟨id, off, cap, ex, c, ro, rfl, hg, hid, hcl, hc0⟩
  all_goals
    refine ⟨?_, ?_, ?_⟩
    rotate_left
    · rw [show ∀ tm h, xcode X1 tab 35 none (.loop L35_0) tm h = thenX X1 tab 35 none (.loop L35_0) (xcode X1 tab 35 none L35_0 tm h) from fun _ _ => x_loop]
      delta L35_0
      simp (disch := first | omega | (simp only [nx_alloc, nx_set] <;> omega) | (apply Rd.grow; assumption; repeat (first | exact Grow.refl _ | assumption | exact Grow.alloc _ _ | refine Grow.allocR ?_ _ | refine Grow.setR ?_ _ ?_ ?_ | omega | (simp only [nx_alloc, nx_set] <;> omega) | (apply Grow.trans; rotate_left; assumption) | fail)) | fail) only [note_false, Int.reduceBEq, Int.reduceBNe, x_drawn, l_nil, l_op, l_guard, l_some, l_true, l_false, l_draw, readsA, x_true, x_false, x_seq, x_ops, x_cond, x_skip, x_ret, x_exit, x_block, x_then, x_thenE, x_thenR, x_blockN, x_blockR, x_blockE, s_nil, s_op, s_guard, s_some, s_true, s_false, s_put, s_put0, s_opsR, s_ret, s_norm, aop, ev, evs, List.map_cons, List.map_nil, List.cons_append, List.nil_append, List.append_nil, List.replicate, List.take_succ_cons, List.take_zero, List.take_nil, List.drop_succ_cons, List.drop_zero, List.drop_nil, Nat.zero_add, Nat.add_zero, Nat.reduceAdd, Nat.reduceMul, Nat.reduceLeDiff, Bool.false_eq_true, and_self, List.length_cons, List.length_nil, List.set_cons_zero, List.set_cons_succ, List.getD_cons_zero, List.getD_cons_succ, wantedA, List.getElem?_cons_zero, List.getElem?_cons_succ, q_t, q_f, Bool.not_true, Bool.not_false, b_add, b_sub, b_mul, b_eql, b_neq, b_lss, b_leq, b_gtr, b_geq, b_and, b_or, b_xor, b_quo, b_rem, b_shl, b_shr, unA, Option.map_some, Option.map_none, resA, tupA, Int.reduceLT, not_false_eq_true, not_true_eq_false, decide_true, decide_false, f_bool, c_bool, f_int, c_int, f_str, c_str, f_nilptr, c_nilptr, f_ptr, c_ptr, f_nilsl, c_nilsl, f_slice, c_slice, f_nilmap, c_nilmap, f_map, c_map, f_nilf, c_nilf, f_func, c_func, f_yieldf, c_yieldf, f_nilif, c_nilif, f_iface, c_iface, c_agg, List.all_cons, List.all_nil, Bool.and_true, Bool.true_and, if_true, if_false, ite_true, ite_false, ga_new, ga_old, gs_new, gs_old, Heap.next_alloc, Heap.next_set, loadA, storeA, splice, fillA, d_t, d_f, i_t, i_f, beq_t, beq_f, bne_t, bne_f, w_i64, w_u64, w_u32, w_i32, w_u8, Int.toNat_natCast, n_sub1, n_add1, Nat.sub_zero, Nat.mul_one, Nat.one_mul, Nat.zero_mul, List.append_assoc, Option.bind_some, chkLog, same_cells, List.replicate_zero, List.flatten_nil, true_and, and_true, b_eqB, b_neB, b_eqS, b_neS, Bool.true_beq, Bool.false_beq, kindsOk, k_0, k_1, k_2, plainEq, Bool.bne_true, Bool.bne_false, beq_self_eq_true, bne_self_eq_false, Int.tdiv_eq_ediv_of_nonneg, Int.tmod_eq_emod_of_nonneg, List.length_nil]
      rfl
    · exact ⟨rfl, rfl, rfl, rfl, rfl, rfl⟩
theorem x35 (l : List Int) (n : Int) {h : Heap} {V : AV} (hV : InAt h V l) (hl : l.length ≤ 1000000) : ∃ v h', xcall X1 tab (.fn 35) [V, .int .u32 n] h = some (v, h') ∧ Grow h h' ∧ Mine 1 h.next h' v ((putP l n).map inA) := by
  have hT : Sh35 V .nilsl n false 0 [V, .int .u32 n, undefA, undefA, .nilsl, .nilsl, .bool false, .int (.i64) 0, undefA, undefA, undefA, undefA, undefA, undefA, undefA, undefA, undefA, undefA, undefA, undefA, undefA, undefA, undefA, undefA, undefA, undefA, undefA, undefA, undefA, undefA, undefA, undefA, undefA, undefA, undefA, undefA, undefA, undefA, undefA, undefA, undefA, undefA, undefA, undefA, undefA, undefA, undefA, undefA] := ⟨rfl, rfl, rfl, rfl, rfl, rfl⟩
  obtain ⟨e, tm', h', e1, rfl, sl, ht, g1, m1⟩ := loop_ind (X := X1) (SP := tab) (self := 35) (rd := none) (L := L35_0) (n := l.length) (fun i tm h' => ∃ sl, Sh35 V sl n ((l.take i).foldl (pStep n) ([], false)).2 i tm ∧ Grow h h' ∧ Mine 1 h.next h' sl (((l.take i).foldl (pStep n) ([], false)).1.map inA))
    (fun e tm' h' => e = .exit 0 ∧ ∃ sl, Sh35 V sl n (l.foldl (pStep n) ([], false)).2 l.length tm' ∧ Grow h h' ∧ Mine 1 h.next h' sl ((l.foldl (pStep n) ([], false)).1.map inA))
    (fun i tm h1 hi ⟨sl, s1, g1, m1⟩ => by
      have hle := pfold_len n (l.take i) ([], false)
      simp only [List.length_nil, Nat.zero_add, List.length_take] at hle
      obtain ⟨tm', sl', h', e, s2, g2, m2⟩ := round35 hV g1 hl hi m1 (by omega) s1
      refine .inr ⟨tm', h', e, sl', ?_, g2, ?_⟩
      · rw [take_snoc hi, List.foldl_append]; exact s2
      · rw [take_snoc hi, List.foldl_append]; exact m2)
    (fun tm h1 ⟨sl, s1, g1, m1⟩ => by
      rw [List.take_length] at s1 m1
      obtain ⟨tm', e, s2⟩ := end35 (hV.grow g1) s1
      exact ⟨_, tm', h1, e, rfl, sl, s2, g1, m1⟩) 0 _ h (Nat.zero_le _) ⟨.nilsl, hT, Grow.refl _, Mine.nil _ _ _⟩
  have hle := pfold_len n l ([], false)
  simp only [List.length_nil, Nat.zero_add] at hle
  rw [putP_eq]
  match tm', ht with
  | a0 :: a1 :: a2 :: a3 :: a4 :: a5 :: a6 :: a7 :: a8 :: a9 :: a10 :: a11 :: a12 :: a13 :: a14 :: a15 :: a16 :: a17 :: a18 :: a19 :: a20 :: a21 :: a22 :: a23 :: a24 :: a25 :: a26 :: a27 :: a28 :: a29 :: a30 :: a31 :: a32 :: a33 :: a34 :: a35 :: a36 :: a37 :: a38 :: a39 :: a40 :: a41 :: a42 :: a43 :: a44 :: a45 :: a46 :: a47 :: [], ht =>
  obtain ⟨_, t0, t1, t5, t6, t7⟩ := ht
  simp only [List.getElem?_cons_zero, List.getElem?_cons_succ, Option.some.injEq] at t0 t1 t5 t6 t7
  replace t0 := t0.symm; replace t1 := t1.symm; replace t5 := t5.symm; replace t6 := t6.symm; replace t7 := t7.symm
  subst t0 t1 t5 t6 t7
  cases hf : (l.foldl (pStep n) ([], false)).2
  · rw [hf] at e1
    obtain ⟨sl2, h2, k2, m2, g2, f2, _, _⟩ := m1.push (bytes := 4) g1 (Nat.le_refl _) g1.1 (inA n) false rfl true (by simp; omega)
    delta inA at k2
    refine ⟨sl2, h2, ?_, g2, by simpa using m2⟩
    rw [x_fn rfl t35]
    delta b35
    simp (disch := first | omega | (simp only [nx_alloc, nx_set] <;> omega) | (apply Rd.grow; assumption; repeat (first | exact Grow.refl _ | assumption | exact Grow.alloc _ _ | refine Grow.allocR ?_ _ | refine Grow.setR ?_ _ ?_ ?_ | omega | (simp only [nx_alloc, nx_set] <;> omega) | (apply Grow.trans; rotate_left; assumption) | fail)) | fail) only [note_false, Int.reduceBEq, Int.reduceBNe, x_drawn, l_nil, l_op, l_guard, l_some, l_true, l_false, l_draw, readsA, x_true, x_false, x_seq, x_ops, x_cond, x_skip, x_ret, x_exit, x_block, x_then, x_thenE, x_thenR, x_blockN, x_blockR, x_blockE, s_nil, s_op, s_guard, s_some, s_true, s_false, s_put, s_put0, s_opsR, s_ret, s_norm, aop, ev, evs, List.map_cons, List.map_nil, List.cons_append, List.nil_append, List.append_nil, List.replicate, List.take_succ_cons, List.take_zero, List.take_nil, List.drop_succ_cons, List.drop_zero, List.drop_nil, Nat.zero_add, Nat.add_zero, Nat.reduceAdd, Nat.reduceMul, Nat.reduceLeDiff, Bool.false_eq_true, and_self, List.length_cons, List.length_nil, List.set_cons_zero, List.set_cons_succ, List.getD_cons_zero, List.getD_cons_succ, wantedA, List.getElem?_cons_zero, List.getElem?_cons_succ, q_t, q_f, Bool.not_true, Bool.not_false, b_add, b_sub, b_mul, b_eql, b_neq, b_lss, b_leq, b_gtr, b_geq, b_and, b_or, b_xor, b_quo, b_rem, b_shl, b_shr, unA, Option.map_some, Option.map_none, resA, tupA, Int.reduceLT, not_false_eq_true, not_true_eq_false, decide_true, decide_false, f_bool, c_bool, f_int, c_int, f_str, c_str, f_nilptr, c_nilptr, f_ptr, c_ptr, f_nilsl, c_nilsl, f_slice, c_slice, f_nilmap, c_nilmap, f_map, c_map, f_nilf, c_nilf, f_func, c_func, f_yieldf, c_yieldf, f_nilif, c_nilif, f_iface, c_iface, c_agg, List.all_cons, List.all_nil, Bool.and_true, Bool.true_and, if_true, if_false, ite_true, ite_false, ga_new, ga_old, gs_new, gs_old, Heap.next_alloc, Heap.next_set, loadA, storeA, splice, fillA, d_t, d_f, i_t, i_f, beq_t, beq_f, bne_t, bne_f, w_i64, w_u64, w_u32, w_i32, w_u8, Int.toNat_natCast, n_sub1, n_add1, Nat.sub_zero, Nat.mul_one, Nat.one_mul, Nat.zero_mul, List.append_assoc, Option.bind_some, chkLog, same_cells, List.replicate_zero, List.flatten_nil, true_and, and_true, b_eqB, b_neB, b_eqS, b_neS, Bool.true_beq, Bool.false_beq, kindsOk, k_0, k_1, k_2, plainEq, Bool.bne_true, Bool.bne_false, beq_self_eq_true, bne_self_eq_false, Int.tdiv_eq_ediv_of_nonneg, Int.tmod_eq_emod_of_nonneg, List.length_nil, e1, k2]
    try rfl
  · rw [hf] at e1
    refine ⟨sl, h', ?_, g1, by simpa using m1⟩
    rw [x_fn rfl t35]
    delta b35
    simp (disch := first | omega | (simp only [nx_alloc, nx_set] <;> omega) | (apply Rd.grow; assumption; repeat (first | exact Grow.refl _ | assumption | exact Grow.alloc _ _ | refine Grow.allocR ?_ _ | refine Grow.setR ?_ _ ?_ ?_ | omega | (simp only [nx_alloc, nx_set] <;> omega) | (apply Grow.trans; rotate_left; assumption) | fail)) | fail) only [note_false, Int.reduceBEq, Int.reduceBNe, x_drawn, l_nil, l_op, l_guard, l_some, l_true, l_false, l_draw, readsA, x_true, x_false, x_seq, x_ops, x_cond, x_skip, x_ret, x_exit, x_block, x_then, x_thenE, x_thenR, x_blockN, x_blockR, x_blockE, s_nil, s_op, s_guard, s_some, s_true, s_false, s_put, s_put0, s_opsR, s_ret, s_norm, aop, ev, evs, List.map_cons, List.map_nil, List.cons_append, List.nil_append, List.append_nil, List.replicate, List.take_succ_cons, List.take_zero, List.take_nil, List.drop_succ_cons, List.drop_zero, List.drop_nil, Nat.zero_add, Nat.add_zero, Nat.reduceAdd, Nat.reduceMul, Nat.reduceLeDiff, Bool.false_eq_true, and_self, List.length_cons, List.length_nil, List.set_cons_zero, List.set_cons_succ, List.getD_cons_zero, List.getD_cons_succ, wantedA, List.getElem?_cons_zero, List.getElem?_cons_succ, q_t, q_f, Bool.not_true, Bool.not_false, b_add, b_sub, b_mul, b_eql, b_neq, b_lss, b_leq, b_gtr, b_geq, b_and, b_or, b_xor, b_quo, b_rem, b_shl, b_shr, unA, Option.map_some, Option.map_none, resA, tupA, Int.reduceLT, not_false_eq_true, not_true_eq_false, decide_true, decide_false, f_bool, c_bool, f_int, c_int, f_str, c_str, f_nilptr, c_nilptr, f_ptr, c_ptr, f_nilsl, c_nilsl, f_slice, c_slice, f_nilmap, c_nilmap, f_map, c_map, f_nilf, c_nilf, f_func, c_func, f_yieldf, c_yieldf, f_nilif, c_nilif, f_iface, c_iface, c_agg, List.all_cons, List.all_nil, Bool.and_true, Bool.true_and, if_true, if_false, ite_true, ite_false, ga_new, ga_old, gs_new, gs_old, Heap.next_alloc, Heap.next_set, loadA, storeA, splice, fillA, d_t, d_f, i_t, i_f, beq_t, beq_f, bne_t, bne_f, w_i64, w_u64, w_u32, w_i32, w_u8, Int.toNat_natCast, n_sub1, n_add1, Nat.sub_zero, Nat.mul_one, Nat.one_mul, Nat.zero_mul, List.append_assoc, Option.bind_some, chkLog, same_cells, List.replicate_zero, List.flatten_nil, true_and, and_true, b_eqB, b_neB, b_eqS, b_neS, Bool.true_beq, Bool.false_beq, kindsOk, k_0, k_1, k_2, plainEq, Bool.bne_true, Bool.bne_false, beq_self_eq_true, bne_self_eq_false, Int.tdiv_eq_ediv_of_nonneg, Int.tmod_eq_emod_of_nonneg, List.length_nil, e1]
    try rfl
end Go.Proofs.Ytplbampjponnpaa.Ya

