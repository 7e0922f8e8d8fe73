/-
  Spans: gather, over what any producer yields.
-/
import Derived.Test.YtplbampjponnpaaYaSpanRest
import Derived.Test.YtplbampjponnpaaYaPoke
import Derived.Test.YtplbampjponnpaaYaIter2
namespace Go.Proofs.Ytplbampjponnpaa.Ya
open Go.Ya Go.Ya.Span
set_option linter.unusedVariables false
set_option linter.unusedSimpArgs false
set_option maxRecDepth 100000
set_option maxHeartbeats 16000000

def L26_0a : SC := (.ops [⟨some 4, .box (.c (.agg [.int (.u32) 0, .int (.u32) 0])), none⟩, ⟨none, .store 2 (.t 4) (.t 7), none⟩])
def L26_0 : SC := (.block 1 (.seq (.ops [⟨some 8, .load false 1 (.t 3), none⟩, ⟨some 9, .len (.sl) (.t 8), none⟩, ⟨some 10, .bin (.sub) (.other) (.t 9) (.c (.int (.i64) 1)), none⟩, ⟨some 5, .mov (.t 10), none⟩]) (.seq (.ops [⟨some 11, .mov (.t 5), none⟩, ⟨some 12, .bin (.geq) (.other) (.t 11) (.c (.int (.i64) 0)), none⟩, ⟨some 13, .mov (.t 12), none⟩, ⟨some 14, .load false 1 (.t 3), some (13, true)⟩, ⟨some 15, .mov (.t 5), some (13, true)⟩, ⟨some 16, .idxAddrSl 2 (.t 14) (.t 15), some (13, true)⟩, ⟨some 17, .fieldAddr 1 (.t 16), some (13, true)⟩, ⟨some 18, .load false 1 (.t 17), some (13, true)⟩, ⟨some 19, .fieldAddr 0 (.t 4), some (13, true)⟩, ⟨some 20, .load false 1 (.t 19), some (13, true)⟩, ⟨some 21, .bin (.eql) (.other) (.t 18) (.t 20), some (13, true)⟩, ⟨some 22, .pick (.t 13) (.t 21) (.c (.bool false)), none⟩]) (.cond (.t 22) (.ops [⟨some 23, .load false 1 (.t 3), none⟩, ⟨some 24, .mov (.t 5), none⟩, ⟨some 25, .fieldAddr 1 (.t 4), none⟩, ⟨some 26, .load false 1 (.t 25), none⟩, ⟨some 27, .idxAddrSl 2 (.t 23) (.t 24), none⟩, ⟨some 28, .fieldAddr 1 (.t 27), none⟩, ⟨none, .store 1 (.t 28) (.t 26), none⟩]) (.ops [⟨some 29, .load false 1 (.t 3), none⟩, ⟨some 30, .load true 2 (.t 4), none⟩, ⟨some 31, .buildSlice [.int (.u32) 0, .int (.u32) 0] 1 2 [(0, 2, .t 30)], none⟩, ⟨some 32, .append 2 8 (.t 29) (.t 31), none⟩, ⟨none, .store 1 (.t 3) (.t 32), none⟩])))))
def b26 : SC := .seq (.ops [⟨some 2, .mov (.c (.nilsl)), none⟩]) (.seq (.ops [⟨some 3, .box (.c (.nilsl)), none⟩]) (.seq (.seq (.ops [⟨some 6, .mov (.t 0), none⟩]) (.block 0 (.rangeFunc (.t 6) [7] L26_0a L26_0))) (.seq (.ops [⟨some 33, .load false 1 (.t 3), none⟩, ⟨some 2, .mov (.t 33), none⟩]) (.ret))))
theorem t26 : tab 26 = some ⟨34, [.tmp 2], b26⟩ := rfl
def Sh26 (q : Nat) (tm : List AV) : Prop := tm.length = 34 ∧ tm[3]? = some (.ptr q 0)

/-- gather's own: the box of the slice, and the slice's block. -/
def GD (q : Nat) (done : List (List AV)) (h : Heap) (B : Nat → Prop) : Prop :=
  ∃ (l : List Sp) (sl : AV), done = l.map yA ∧ h.get q = some (.cells [sl] false) ∧ Mine 2 (q + 1) h sl ((gatherP l).map spA) ∧ ∀ j, B j ↔ j = q ∨ slB sl j
theorem GD.keep {q : Nat} {done : List (List AV)} {h h' : Heap} {B : Nat → Prop} (d : GD q done h B) (hn : h.next ≤ h'.next) (hb : ∀ j, B j → h'.get j = h.get j) : GD q done h' B := by
  obtain ⟨l, sl, e1, e2, e3, e4⟩ := d
  exact ⟨l, sl, e1, (hb q ((e4 q).2 (.inl rfl))).trans e2, e3.keep hn fun b x m c e z hs => hb b ((e4 b).2 (.inr ⟨x, m, c, e, z, hs⟩)), e4⟩
theorem GD.low {q : Nat} {done : List (List AV)} {h : Heap} {B : Nat → Prop} (d : GD q done h B) : ∀ j, B j → j < h.next := by
  obtain ⟨l, sl, e1, e2, e3, e4⟩ := d
  intro j hj
  rcases (e4 j).1 hj with rfl | ⟨o, n, c, e, z, hs⟩
  · exact Heap.lt_of_get e2
  · exact (e3.lt hs).2
theorem yA_inj : ∀ {l m : List Sp}, l.map yA = m.map yA → l = m
  | [], [], _ => rfl
  | [], _ :: _, e => by cases e
  | _ :: _, [], e => by cases e
  | a :: l, b :: m, e => by
    simp only [List.map_cons, List.cons.injEq, yA, AV.agg.injEq, AV.int.injEq, true_and, and_true] at e
    rw [yA_inj e.2, Prod.ext e.1.1 e.1.2]
theorem gather_snoc (l : List Sp) (s : Sp) : gatherP (l ++ [s]) = gStep (gatherP l) s := by simp [gatherP]
theorem gStep_len (l : List Sp) (s : Sp) : (gStep l s).length ≤ l.length + 1 := by
  unfold gStep
  split
  · rename_i y hy
    split
    · rcases List.eq_nil_or_concat l with rfl | ⟨l', y', rfl⟩
      · simp at hy
      · simp
    · simp
  · simp
theorem fold_len : ∀ (l out : List Sp), (l.foldl gStep out).length ≤ out.length + l.length
  | [], out => Nat.le_refl _
  | s :: l, out => by
    have h1 := fold_len l (gStep out s)
    have h2 := gStep_len out s
    simp only [List.foldl_cons, List.length_cons]
    omega
theorem gather_len' (l : List Sp) : (gatherP l).length ≤ l.length := Nat.le_trans (fold_len l []) (by simp)
theorem gStep_t {out : List Sp} {s : Sp} (h0 : 0 < out.length) (ht : (out.getD (out.length - 1) (0, 0)).2 = s.1) : gStep out s = out.set (out.length - 1) ((out.getD (out.length - 1) (0, 0)).1, s.2) := by
  rcases List.eq_nil_or_concat out with rfl | ⟨l', y, rfl⟩
  · simp at h0
  · simp only [List.concat_eq_append, List.length_append, List.length_cons, List.length_nil, Nat.zero_add, Nat.add_sub_cancel] at ht ⊢
    rw [gStep_snoc]
    have e : (l' ++ [y]).getD l'.length (0, 0) = y := by simp [List.getD_eq_getElem?_getD]
    rw [e] at ht ⊢
    rw [if_pos ht]
    simp
theorem gStep_f {out : List Sp} {s : Sp} (h : ¬ (0 < out.length ∧ (out.getD (out.length - 1) (0, 0)).2 = s.1)) : gStep out s = out ++ [s] := by
  rcases List.eq_nil_or_concat out with rfl | ⟨l', y, rfl⟩
  · rfl
  · simp only [List.concat_eq_append, List.length_append, List.length_cons, List.length_nil, Nat.zero_add, Nat.add_sub_cancel] at h ⊢
    have e : (l' ++ [y]).getD l'.length (0, 0) = y := by simp [List.getD_eq_getElem?_getD]
    rw [e] at h
    rw [gStep_snoc, if_neg (fun e => h ⟨by omega, e⟩)]
    simp

theorem gbody {q l : Nat} {tm1 : List AV} {h : Heap} {B : Nat → Prop} {dn : List (List AV)} {s : Sp} (d : GD q dn h B) (hs : dn.length < 1000000) (p : Nat) (hp : h.get p = some (.cells [.int .u32 s.1, .int .u32 s.2] false)) (hB : ¬ B p)
    (ht1 : tm1.length = 34 ∧ tm1[3]? = some (.ptr q 0) ∧ tm1[4]? = some (.ptr p 0)) : ∃ tm2 h2 B2, xcode X1 tab 26 (some l) L26_0 tm1 h = some (.normal, tm2, h2) ∧ GD q (dn ++ [yA s]) h2 B2 ∧ Stp h h2 B B2 := by
  obtain ⟨l0, sl, e1, e2, e3, e4⟩ := d
  have hql := Heap.lt_of_get e2
  have hpl := Heap.lt_of_get hp
  have hpq : p ≠ q := fun e => hB ((e4 p).2 (.inl e))
  have hl0 : l0.length < 1000000 := by rw [e1, List.length_map] at hs; exact hs
  have hgl := gather_len' l0
  match tm1, ht1 with
  | a0 :: a1 :: a2 :: a3 :: a4 :: a5 :: a6 :: a7 :: a8 :: a9 :: a10 :: a11 :: a12 :: a13 :: a14 :: a15 :: a16 :: a17 :: a18 :: a19 :: a20 :: a21 :: a22 :: a23 :: a24 :: a25 :: a26 :: a27 :: a28 :: a29 :: a30 :: a31 :: a32 :: a33 :: [], ht1 =>
  obtain ⟨_, t3, t4⟩ := ht1
  simp only [List.getElem?_cons_zero, List.getElem?_cons_succ, Option.some.injEq] at t3 t4
  replace t3 := t3.symm; replace t4 := t4.symm
  subst t3 t4
  have hlen : ((gatherP l0).map spA).length = (gatherP l0).length := by simp
  have snoc : gStep (gatherP l0) s = gatherP l0 ++ [s] → ∃ sl' h2, appendA (h.alloc (.cells [.int .u32 s.1, .int .u32 s.2] false)) 2 8 sl (.slice h.next 0 1 1 true 2) = some (sl', h2) ∧ h2.get q = some (.cells [sl] false) ∧ q < h2.next ∧ sl'.flat = true ∧
      GD q (dn ++ [yA s]) (h2.set q (.cells [sl'] false)) (fun j => j = q ∨ slB sl' j) ∧ Stp h (h2.set q (.cells [sl'] false)) B (fun j => j = q ∨ slB sl' j) := by
    intro hg
    obtain ⟨sl', h2, k1, k2, k3, k4, k5, k6⟩ := e3.push2 (bytes := 8) (by omega) (spA s) false rfl true (by rw [hlen]; omega)
    have hqs : ¬ slB sl q := fun ⟨_, _, _, _, _, hs⟩ => by have := (e3.lt hs).1; omega
    refine ⟨sl', h2, k1, (k5 q hql hqs).trans e2, by omega, k3, ⟨l0 ++ [s], sl', by rw [e1, List.map_append]; rfl, by rw [get_set, if_pos rfl, if_pos (by omega)], ?_, fun j => Iff.rfl⟩, by simp; omega, fun j hj hn => ?_, fun j hj => ?_⟩
    · rw [gather_snoc, hg, List.map_append]
      refine k2.keep (by simp) fun b x m c e z hsl => ?_
      have := (k2.lt hsl).1
      rw [gs_old (by omega)]
    · rw [gs_old (fun e => hn ((e4 j).2 (.inl e)))]
      exact k5 j hj fun hs => hn ((e4 j).2 (.inr hs))
    · rcases hj with rfl | hj
      · exact .inl ((e4 _).2 (.inl rfl))
      · exact (k6 j hj).imp (fun hs => (e4 j).2 (.inr hs)) fun e => e
  have one : ∀ H : Heap, H = H := fun _ => rfl
  by_cases hpos : 0 < (gatherP l0).length
  · obtain ⟨b, cap, c, rfl, k1, k2, k3, k4, k5, k6⟩ := e3.poke (i := (gatherP l0).length - 1) (by rw [hlen]; omega)
    have hbq : b ≠ q := by omega
    have hbp : b ≠ p := fun e => hB ((e4 p).2 (.inr ⟨_, _, _, _, _, by rw [e]⟩))
    generalize hy : (gatherP l0).getD ((gatherP l0).length - 1) (0, 0) = y at *
    have hrow : ((gatherP l0).map spA).getD ((gatherP l0).length - 1) [] = spA y := by
      rw [← hy, List.getD_eq_getElem?_getD, List.getD_eq_getElem?_getD, List.getElem?_map, List.getElem?_eq_getElem (show (gatherP l0).length - 1 < (gatherP l0).length by omega)]; rfl
    have c1 : c[((gatherP l0).length - 1) * 2 + 1]? = some (.int .u32 y.2) := by
      rw [k5 _ 1 (by rw [hlen]; omega) (by omega), hrow]; rfl
    have hcl : ((gatherP l0).length - 1) * 2 + 1 + 1 ≤ c.length := by rw [hlen] at k4; omega
    rw [hlen] at *
    by_cases hyt : y.2 = s.1
    · have hg : gStep (gatherP l0) s = (gatherP l0).set ((gatherP l0).length - 1) (y.1, s.2) := by
        have := gStep_t hpos (s := s) (by rw [hy]; exact hyt)
        rwa [hy] at this
      have k7 := k6 1 (.int .u32 s.2) (by omega)
      rw [hrow] at k7
      refine ⟨?_, ?_, B, ?_, ⟨l0 ++ [s], _, by rw [e1, List.map_append]; rfl, ?_, ?_, e4⟩, ?_⟩
      rotate_left 2
      · delta L26_0
        simp (disch := first | omega | (simp only [nx_alloc, nx_set] <;> omega) | (apply Rd.grow; assumption; repeat (first | exact Grow.refl _ | assumption | exact Grow.alloc _ _ | refine Grow.allocR ?_ _ | refine Grow.setR ?_ _ ?_ ?_ | omega | (simp only [nx_alloc, nx_set] <;> omega) | (apply Grow.trans; rotate_left; assumption) | fail)) | fail) only [note_false, Int.reduceBEq, Int.reduceBNe, x_drawn, l_nil, l_op, l_guard, l_some, l_true, l_false, l_draw, readsA, x_true, x_false, x_seq, x_ops, x_cond, x_skip, x_ret, x_exit, x_block, x_then, x_thenE, x_thenR, x_blockN, x_blockR, x_blockE, s_nil, s_op, s_guard, s_some, s_true, s_false, s_put, s_put0, s_opsR, s_ret, s_norm, aop, ev, evs, List.map_cons, List.map_nil, List.cons_append, List.nil_append, List.append_nil, List.replicate, List.take_succ_cons, List.take_zero, List.take_nil, List.drop_succ_cons, List.drop_zero, List.drop_nil, Nat.zero_add, Nat.add_zero, Nat.reduceAdd, Nat.reduceMul, Nat.reduceLeDiff, Bool.false_eq_true, and_self, List.length_cons, List.length_nil, List.set_cons_zero, List.set_cons_succ, List.getD_cons_zero, List.getD_cons_succ, wantedA, List.getElem?_cons_zero, List.getElem?_cons_succ, q_t, q_f, Bool.not_true, Bool.not_false, b_add, b_sub, b_mul, b_eql, b_neq, b_lss, b_leq, b_gtr, b_geq, b_and, b_or, b_xor, b_quo, b_rem, b_shl, b_shr, unA, Option.map_some, Option.map_none, resA, tupA, Int.reduceLT, not_false_eq_true, not_true_eq_false, decide_true, decide_false, f_bool, c_bool, f_int, c_int, f_str, c_str, f_nilptr, c_nilptr, f_ptr, c_ptr, f_nilsl, c_nilsl, f_slice, c_slice, f_nilmap, c_nilmap, f_map, c_map, f_nilf, c_nilf, f_func, c_func, f_yieldf, c_yieldf, f_nilif, c_nilif, f_iface, c_iface, c_agg, List.all_cons, List.all_nil, Bool.and_true, Bool.true_and, if_true, if_false, ite_true, ite_false, ga_new, ga_old, gs_new, gs_old, Heap.next_alloc, Heap.next_set, loadA, storeA, splice, fillA, d_t, d_f, i_t, i_f, beq_t, beq_f, bne_t, bne_f, w_i64, w_u64, w_u32, w_i32, w_u8, Int.toNat_natCast, n_sub1, n_add1, Nat.sub_zero, Nat.mul_one, Nat.one_mul, Nat.zero_mul, List.append_assoc, Option.bind_some, chkLog, same_cells, List.replicate_zero, List.flatten_nil, true_and, and_true, kindsOk, k_0, k_1, k_2, plainEq, Bool.bne_true, Bool.bne_false, beq_self_eq_true, bne_self_eq_false, Int.tdiv_eq_ediv_of_nonneg, Int.tmod_eq_emod_of_nonneg, List.length_nil, e2, hp, k3, c1]
        rfl
      · rw [gs_old (by omega)]; exact e2
      · rw [gather_snoc, hg, List.map_set]
        simp only [splice, List.append_assoc, List.cons_append, List.nil_append, List.length_cons, List.length_nil, Nat.zero_add] at k7
        exact k7
      · refine ⟨by simp, fun j hj hn => ?_, fun j hj => .inl hj⟩
        rw [gs_old (fun e => hn ((e4 j).2 (.inr ⟨_, _, _, _, _, by rw [e]⟩)))]
    · obtain ⟨sl', h2, m1, m2, m3, m4, m5, m6⟩ := snoc (gStep_f (by rw [hy]; exact fun e => hyt e.2))
      refine ⟨?_, _, _, ?_, m5, m6⟩
      rotate_left
      · delta L26_0
        simp (disch := first | omega | (simp only [nx_alloc, nx_set] <;> omega) | (apply Rd.grow; assumption; repeat (first | exact Grow.refl _ | assumption | exact Grow.alloc _ _ | refine Grow.allocR ?_ _ | refine Grow.setR ?_ _ ?_ ?_ | omega | (simp only [nx_alloc, nx_set] <;> omega) | (apply Grow.trans; rotate_left; assumption) | fail)) | fail) only [note_false, Int.reduceBEq, Int.reduceBNe, x_drawn, l_nil, l_op, l_guard, l_some, l_true, l_false, l_draw, readsA, x_true, x_false, x_seq, x_ops, x_cond, x_skip, x_ret, x_exit, x_block, x_then, x_thenE, x_thenR, x_blockN, x_blockR, x_blockE, s_nil, s_op, s_guard, s_some, s_true, s_false, s_put, s_put0, s_opsR, s_ret, s_norm, aop, ev, evs, List.map_cons, List.map_nil, List.cons_append, List.nil_append, List.append_nil, List.replicate, List.take_succ_cons, List.take_zero, List.take_nil, List.drop_succ_cons, List.drop_zero, List.drop_nil, Nat.zero_add, Nat.add_zero, Nat.reduceAdd, Nat.reduceMul, Nat.reduceLeDiff, Bool.false_eq_true, and_self, List.length_cons, List.length_nil, List.set_cons_zero, List.set_cons_succ, List.getD_cons_zero, List.getD_cons_succ, wantedA, List.getElem?_cons_zero, List.getElem?_cons_succ, q_t, q_f, Bool.not_true, Bool.not_false, b_add, b_sub, b_mul, b_eql, b_neq, b_lss, b_leq, b_gtr, b_geq, b_and, b_or, b_xor, b_quo, b_rem, b_shl, b_shr, unA, Option.map_some, Option.map_none, resA, tupA, Int.reduceLT, not_false_eq_true, not_true_eq_false, decide_true, decide_false, f_bool, c_bool, f_int, c_int, f_str, c_str, f_nilptr, c_nilptr, f_ptr, c_ptr, f_nilsl, c_nilsl, f_slice, c_slice, f_nilmap, c_nilmap, f_map, c_map, f_nilf, c_nilf, f_func, c_func, f_yieldf, c_yieldf, f_nilif, c_nilif, f_iface, c_iface, c_agg, List.all_cons, List.all_nil, Bool.and_true, Bool.true_and, if_true, if_false, ite_true, ite_false, ga_new, ga_old, gs_new, gs_old, Heap.next_alloc, Heap.next_set, loadA, storeA, splice, fillA, d_t, d_f, i_t, i_f, beq_t, beq_f, bne_t, bne_f, w_i64, w_u64, w_u32, w_i32, w_u8, Int.toNat_natCast, n_sub1, n_add1, Nat.sub_zero, Nat.mul_one, Nat.one_mul, Nat.zero_mul, List.append_assoc, Option.bind_some, chkLog, same_cells, List.replicate_zero, List.flatten_nil, true_and, and_true, kindsOk, k_0, k_1, k_2, plainEq, Bool.bne_true, Bool.bne_false, beq_self_eq_true, bne_self_eq_false, Int.tdiv_eq_ediv_of_nonneg, Int.tmod_eq_emod_of_nonneg, List.length_nil, e2, hp, k3, c1, m1, m2, m4, cells_of m4]
        rfl
  · obtain ⟨sl', h2, m1, m2, m3, m4, m5, m6⟩ := snoc (gStep_f (fun e => hpos e.1))
    rcases e3.rd.2 with ⟨rfl, _⟩ | ⟨id, off, cap, ex, c, ro, rfl, _⟩
    all_goals try rw [hlen] at *
    all_goals
      refine ⟨?_, _, _, ?_, m5, m6⟩
      rotate_left
      · delta L26_0
        simp (disch := first | omega | (simp only [nx_alloc, nx_set] <;> omega) | (apply Rd.grow; assumption; repeat (first | exact Grow.refl _ | assumption | exact Grow.alloc _ _ | refine Grow.allocR ?_ _ | refine Grow.setR ?_ _ ?_ ?_ | omega | (simp only [nx_alloc, nx_set] <;> omega) | (apply Grow.trans; rotate_left; assumption) | fail)) | fail) only [note_false, Int.reduceBEq, Int.reduceBNe, x_drawn, l_nil, l_op, l_guard, l_some, l_true, l_false, l_draw, readsA, x_true, x_false, x_seq, x_ops, x_cond, x_skip, x_ret, x_exit, x_block, x_then, x_thenE, x_thenR, x_blockN, x_blockR, x_blockE, s_nil, s_op, s_guard, s_some, s_true, s_false, s_put, s_put0, s_opsR, s_ret, s_norm, aop, ev, evs, List.map_cons, List.map_nil, List.cons_append, List.nil_append, List.append_nil, List.replicate, List.take_succ_cons, List.take_zero, List.take_nil, List.drop_succ_cons, List.drop_zero, List.drop_nil, Nat.zero_add, Nat.add_zero, Nat.reduceAdd, Nat.reduceMul, Nat.reduceLeDiff, Bool.false_eq_true, and_self, List.length_cons, List.length_nil, List.set_cons_zero, List.set_cons_succ, List.getD_cons_zero, List.getD_cons_succ, wantedA, List.getElem?_cons_zero, List.getElem?_cons_succ, q_t, q_f, Bool.not_true, Bool.not_false, b_add, b_sub, b_mul, b_eql, b_neq, b_lss, b_leq, b_gtr, b_geq, b_and, b_or, b_xor, b_quo, b_rem, b_shl, b_shr, unA, Option.map_some, Option.map_none, resA, tupA, Int.reduceLT, not_false_eq_true, not_true_eq_false, decide_true, decide_false, f_bool, c_bool, f_int, c_int, f_str, c_str, f_nilptr, c_nilptr, f_ptr, c_ptr, f_nilsl, c_nilsl, f_slice, c_slice, f_nilmap, c_nilmap, f_map, c_map, f_nilf, c_nilf, f_func, c_func, f_yieldf, c_yieldf, f_nilif, c_nilif, f_iface, c_iface, c_agg, List.all_cons, List.all_nil, Bool.and_true, Bool.true_and, if_true, if_false, ite_true, ite_false, ga_new, ga_old, gs_new, gs_old, Heap.next_alloc, Heap.next_set, loadA, storeA, splice, fillA, d_t, d_f, i_t, i_f, beq_t, beq_f, bne_t, bne_f, w_i64, w_u64, w_u32, w_i32, w_u8, Int.toNat_natCast, n_sub1, n_add1, Nat.sub_zero, Nat.mul_one, Nat.one_mul, Nat.zero_mul, List.append_assoc, Option.bind_some, chkLog, same_cells, List.replicate_zero, List.flatten_nil, true_and, and_true, kindsOk, k_0, k_1, k_2, plainEq, Bool.bne_true, Bool.bne_false, beq_self_eq_true, bne_self_eq_false, Int.tdiv_eq_ediv_of_nonneg, Int.tmod_eq_emod_of_nonneg, List.length_nil, e2, hp, m1, m2, m4, cells_of m4]
        rfl

theorem gBody {g : FuncId} {first cap : List AV} {h : Heap} {xs : List Sp} (hx : xs.length ≤ 1000000) : Body2 X1 tab 26 [.func g first cap, undefA, .nilsl, .ptr h.next 0, undefA, undefA, .func g first cap, undefA, undefA, undefA, undefA, undefA, undefA, undefA, undefA, undefA, undefA, undefA, undefA, undefA, undefA, undefA, undefA, undefA, undefA, undefA, undefA, undefA, undefA, undefA, undefA, undefA, undefA, undefA] [7] L26_0a L26_0 (xs.map yA) (GD h.next) where
  keep := GD.keep
  low := GD.low
  run := by
    intro l dn x h1 B pe d hl hok hl1
    obtain ⟨r, hr⟩ := hok
    obtain ⟨s, rfl⟩ : ∃ s : Sp, x = yA s := by
      have hm : x ∈ xs.map yA := by rw [← hr]; simp
      obtain ⟨s, _, e⟩ := List.mem_map.1 hm
      exact ⟨s, e.symm⟩
    have hlen : dn.length < 1000000 := by
      have := congrArg List.length hr
      simp at this
      omega
    have hll := Heap.lt_of_get hl1
    have g1 : Grow h1 ((h1.alloc (.cells [.int .u32 0, .int .u32 0] false)).set h1.next (.cells [.int .u32 s.1, .int .u32 s.2] false)) := by repeat (first | exact Grow.refl _ | assumption | exact Grow.alloc _ _ | refine Grow.allocR ?_ _ | refine Grow.setR ?_ _ ?_ ?_ | omega | (simp only [nx_alloc, nx_set] <;> omega) | (apply Grow.trans; rotate_left; assumption) | fail)
    have d2 : GD h.next dn (((h1.alloc (.cells [.int .u32 0, .int .u32 0] false)).set h1.next (.cells [.int .u32 s.1, .int .u32 s.2] false)).set l (.loop 26 [.func g first cap, undefA, .nilsl, .ptr h.next 0, undefA, undefA, .func g first cap, undefA, undefA, undefA, undefA, undefA, undefA, undefA, undefA, undefA, undefA, undefA, undefA, undefA, undefA, undefA, undefA, undefA, undefA, undefA, undefA, undefA, undefA, undefA, undefA, undefA, undefA, undefA] [7] L26_0a L26_0 .busy pe)) B :=
      d.keep (by simp) fun j hj => by
        have := d.low j hj
        rw [gs_old (fun e => hl (by rw [← e]; exact hj)), g1.2 j this]
    have hnB : ¬ B h1.next := fun e => by have := d.low _ e; omega
    obtain ⟨tm2, h2, B2, e2, d3, st⟩ := gbody (l := l) (tm1 := [.func g first cap, undefA, .nilsl, .ptr h.next 0, .ptr h1.next 0, undefA, .func g first cap, .agg [.int .u32 s.1, .int .u32 s.2], undefA, undefA, undefA, undefA, undefA, undefA, undefA, undefA, undefA, undefA, undefA, undefA, undefA, undefA, undefA, undefA, undefA, undefA, undefA, undefA, undefA, undefA, undefA, undefA, undefA, undefA]) d2 hlen h1.next (by rw [gs_old (by omega), gs_new rfl (by simp)]) hnB ⟨rfl, rfl, rfl⟩
    refine ⟨_, _, _, tm2, h2, B2, rfl, ?_, g1, e2, d3, st⟩
    delta L26_0a yA
    simp (disch := first | omega | (simp only [nx_alloc, nx_set] <;> omega) | (apply Rd.grow; assumption; repeat (first | exact Grow.refl _ | assumption | exact Grow.alloc _ _ | refine Grow.allocR ?_ _ | refine Grow.setR ?_ _ ?_ ?_ | omega | (simp only [nx_alloc, nx_set] <;> omega) | (apply Grow.trans; rotate_left; assumption) | fail)) | fail) only [note_false, Int.reduceBEq, Int.reduceBNe, x_drawn, l_nil, l_op, l_guard, l_some, l_true, l_false, l_draw, readsA, x_true, x_false, x_seq, x_ops, x_cond, x_skip, x_ret, x_exit, x_block, x_then, x_thenE, x_thenR, x_blockN, x_blockR, x_blockE, s_nil, s_op, s_guard, s_some, s_true, s_false, s_put, s_put0, s_opsR, s_ret, s_norm, aop, ev, evs, List.map_cons, List.map_nil, List.cons_append, List.nil_append, List.append_nil, List.replicate, List.take_succ_cons, List.take_zero, List.take_nil, List.drop_succ_cons, List.drop_zero, List.drop_nil, Nat.zero_add, Nat.add_zero, Nat.reduceAdd, Nat.reduceMul, Nat.reduceLeDiff, Bool.false_eq_true, and_self, List.length_cons, List.length_nil, List.set_cons_zero, List.set_cons_succ, List.getD_cons_zero, List.getD_cons_succ, wantedA, List.getElem?_cons_zero, List.getElem?_cons_succ, q_t, q_f, Bool.not_true, Bool.not_false, b_add, b_sub, b_mul, b_eql, b_neq, b_lss, b_leq, b_gtr, b_geq, b_and, b_or, b_xor, b_quo, b_rem, b_shl, b_shr, unA, Option.map_some, Option.map_none, resA, tupA, Int.reduceLT, not_false_eq_true, not_true_eq_false, decide_true, decide_false, f_bool, c_bool, f_int, c_int, f_str, c_str, f_nilptr, c_nilptr, f_ptr, c_ptr, f_nilsl, c_nilsl, f_slice, c_slice, f_nilmap, c_nilmap, f_map, c_map, f_nilf, c_nilf, f_func, c_func, f_yieldf, c_yieldf, f_nilif, c_nilif, f_iface, c_iface, c_agg, List.all_cons, List.all_nil, Bool.and_true, Bool.true_and, if_true, if_false, ite_true, ite_false, ga_new, ga_old, gs_new, gs_old, Heap.next_alloc, Heap.next_set, loadA, storeA, splice, fillA, d_t, d_f, i_t, i_f, beq_t, beq_f, bne_t, bne_f, w_i64, w_u64, w_u32, w_i32, w_u8, Int.toNat_natCast, n_sub1, n_add1, Nat.sub_zero, Nat.mul_one, Nat.one_mul, Nat.zero_mul, List.append_assoc, Option.bind_some, chkLog, same_cells, List.replicate_zero, List.flatten_nil, true_and, and_true, kindsOk, k_0, k_1, k_2, plainEq, Bool.bne_true, Bool.bne_false, beq_self_eq_true, bne_self_eq_false, Int.tdiv_eq_ediv_of_nonneg, Int.tmod_eq_emod_of_nonneg, List.length_nil]
    try rfl
theorem x26 {g : FuncId} {first cap : List AV} {P : Heap → (Nat → Prop) → Prop} {xs : List Sp} (hx : xs.length ≤ 1000000) (p : Prod2 X1 tab g first cap P (xs.map yA)) {h : Heap} (hp : ∀ (h' : Heap) (B : Nat → Prop), Grow h h' → (∀ j, B j → h.next ≤ j) → P h' B) :
    ∃ v h', xcall X1 tab (.fn 26) [.func g first cap] h = some (v, h') ∧ Grow h h' ∧ Mine 2 h.next h' v ((gatherP xs).map spA) := by
  have d0 : GD h.next [] (h.alloc (.cells [.nilsl] false)) (fun j => j = h.next) := ⟨[], .nilsl, rfl, ga_new rfl, Mine.nil _ _ _, fun j => ⟨.inl, fun e => e.elim (fun e => e) fun ⟨_, _, _, _, _, e⟩ => by cases e⟩⟩
  obtain ⟨h', B', e1, ⟨l0, sl, q1, q2, q3, q4⟩, st⟩ := x_for2 (self := 26) (rd := none) (f := .t 6) (g := g) (first := first) (captured := cap) rfl rfl (gBody (g := g) (first := first) (cap := cap) (h := h) hx) p d0 (fun h' g => hp h' _ ((Grow.alloc h _).trans g) fun j hj => by rcases hj with rfl | rfl <;> simp)
  have hl0 : l0 = xs := by
    exact (yA_inj q1).symm
  subst hl0
  refine ⟨sl, h', ?_, ⟨by have := st.1; simp at this; omega, fun j hj => by rw [st.2.1 j (by simp; omega) (by omega), ga_old (by omega)]⟩, q3.le (by omega)⟩
  rw [x_fn rfl t26]
  delta b26
  simp (disch := first | omega | (simp only [nx_alloc, nx_set] <;> omega) | (apply Rd.grow; assumption; repeat (first | exact Grow.refl _ | assumption | exact Grow.alloc _ _ | refine Grow.allocR ?_ _ | refine Grow.setR ?_ _ ?_ ?_ | omega | (simp only [nx_alloc, nx_set] <;> omega) | (apply Grow.trans; rotate_left; assumption) | fail)) | fail) only [note_false, Int.reduceBEq, Int.reduceBNe, x_drawn, l_nil, l_op, l_guard, l_some, l_true, l_false, l_draw, readsA, x_true, x_false, x_seq, x_ops, x_cond, x_skip, x_ret, x_exit, x_block, x_then, x_thenE, x_thenR, x_blockN, x_blockR, x_blockE, s_nil, s_op, s_guard, s_some, s_true, s_false, s_put, s_put0, s_opsR, s_ret, s_norm, aop, ev, evs, List.map_cons, List.map_nil, List.cons_append, List.nil_append, List.append_nil, List.replicate, List.take_succ_cons, List.take_zero, List.take_nil, List.drop_succ_cons, List.drop_zero, List.drop_nil, Nat.zero_add, Nat.add_zero, Nat.reduceAdd, Nat.reduceMul, Nat.reduceLeDiff, Bool.false_eq_true, and_self, List.length_cons, List.length_nil, List.set_cons_zero, List.set_cons_succ, List.getD_cons_zero, List.getD_cons_succ, wantedA, List.getElem?_cons_zero, List.getElem?_cons_succ, q_t, q_f, Bool.not_true, Bool.not_false, b_add, b_sub, b_mul, b_eql, b_neq, b_lss, b_leq, b_gtr, b_geq, b_and, b_or, b_xor, b_quo, b_rem, b_shl, b_shr, unA, Option.map_some, Option.map_none, resA, tupA, Int.reduceLT, not_false_eq_true, not_true_eq_false, decide_true, decide_false, f_bool, c_bool, f_int, c_int, f_str, c_str, f_nilptr, c_nilptr, f_ptr, c_ptr, f_nilsl, c_nilsl, f_slice, c_slice, f_nilmap, c_nilmap, f_map, c_map, f_nilf, c_nilf, f_func, c_func, f_yieldf, c_yieldf, f_nilif, c_nilif, f_iface, c_iface, c_agg, List.all_cons, List.all_nil, Bool.and_true, Bool.true_and, if_true, if_false, ite_true, ite_false, ga_new, ga_old, gs_new, gs_old, Heap.next_alloc, Heap.next_set, loadA, storeA, splice, fillA, d_t, d_f, i_t, i_f, beq_t, beq_f, bne_t, bne_f, w_i64, w_u64, w_u32, w_i32, w_u8, Int.toNat_natCast, n_sub1, n_add1, Nat.sub_zero, Nat.mul_one, Nat.one_mul, Nat.zero_mul, List.append_assoc, Option.bind_some, chkLog, same_cells, List.replicate_zero, List.flatten_nil, true_and, and_true, kindsOk, k_0, k_1, k_2, plainEq, Bool.bne_true, Bool.bne_false, beq_self_eq_true, bne_self_eq_false, Int.tdiv_eq_ediv_of_nonneg, Int.tmod_eq_emod_of_nonneg, List.length_nil, e1, q2]
  try rfl
end Go.Proofs.Ytplbampjponnpaa.Ya

