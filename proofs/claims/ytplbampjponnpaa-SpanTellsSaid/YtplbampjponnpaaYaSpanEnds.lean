/-
  Spans: the document's ends.
-/
import Derived.Test.YtplbampjponnpaaYaSpanPut
import Derived.Test.YtplbampjponnpaaYaCat
namespace Go.Proofs.Ytplbampjponnpaa.Ya
open Go.Ya Go.Ya.Span
set_option linter.unusedVariables false
set_option linter.unusedSimpArgs false
set_option maxRecDepth 100000
set_option maxHeartbeats 16000000

theorem pfold_one (n : Int) : ∀ (l : List Int) (st : List Int × Bool), (l.foldl (pStep n) st).1.length + (if (l.foldl (pStep n) st).2 = true then 0 else 1) ≤ st.1.length + l.length + (if st.2 = true then 0 else 1)
  | [], st => Nat.le_refl _
  | x :: l, st => by
    have ih := pfold_one n l (pStep n st x)
    have h2 : (pStep n st x).1.length + (if (pStep n st x).2 = true then 0 else 1) ≤ st.1.length + 1 + (if st.2 = true then 0 else 1) := by
      obtain ⟨o, is⟩ := st
      unfold pStep
      cases is <;> by_cases hx : x ≥ n <;> by_cases he : x = n <;> simp [hx, he] <;> omega
    rw [List.foldl_cons, List.length_cons]; omega
theorem put_len (l : List Int) (n : Int) : (putP l n).length ≤ l.length + 1 := by
  have := pfold_one n l ([], false)
  rw [putP_eq, List.length_append]
  revert this
  cases (l.foldl (pStep n) ([], false)).2 <;> simp <;> omega
def eStep (out : List Int) (x : Sp) : List Int := putP (putP out x.1) x.2
theorem ends_eq (l : List Sp) (s : Sp) : endsP l s = (s :: l).foldl eStep [] := rfl
theorem efold_len : ∀ (l : List Sp) (out : List Int), (l.foldl eStep out).length ≤ out.length + 2 * l.length
  | [], out => by simp
  | x :: l, out => by
    have := efold_len l (eStep out x)
    have h1 := put_len out x.1
    have h2 := put_len (putP out x.1) x.2
    rw [List.foldl_cons, List.length_cons]
    unfold eStep at *
    omega
theorem sp_take {l : List Sp} {i : Nat} (hi : i < l.length) : l.take (i + 1) = l.take i ++ [l.getD i (0, 0)] := by
  rw [List.take_succ_eq_append_getElem hi, List.getD_eq_getElem?_getD, List.getElem?_eq_getElem hi]; rfl
def L34_0 : SC := (.seq (.seq (.ops [⟨some 12, .mov (.t 7), none⟩, ⟨some 13, .mov (.t 6), none⟩, ⟨some 14, .len (.sl) (.t 13), none⟩, ⟨some 15, .bin (.lss) (.other) (.t 12) (.t 14), none⟩]) (.cond (.t 15) (.skip) (.exit 0))) (.seq (.block 1 (.seq (.ops [⟨some 18, .mov (.t 5), none⟩, ⟨some 19, .mov (.t 6), none⟩, ⟨some 20, .mov (.t 7), none⟩, ⟨some 21, .idxAddrSl 2 (.t 19) (.t 20), none⟩, ⟨some 22, .fieldAddr 0 (.t 21), none⟩, ⟨some 23, .load false 1 (.t 22), none⟩, ⟨some 24, .call 35 [.t 18, .t 23], none⟩, ⟨some 5, .mov (.t 24), none⟩]) (.ops [⟨some 25, .mov (.t 5), none⟩, ⟨some 26, .mov (.t 6), none⟩, ⟨some 27, .mov (.t 7), none⟩, ⟨some 28, .idxAddrSl 2 (.t 26) (.t 27), none⟩, ⟨some 29, .fieldAddr 1 (.t 28), none⟩, ⟨some 30, .load false 1 (.t 29), none⟩, ⟨some 31, .call 35 [.t 25, .t 30], none⟩, ⟨some 5, .mov (.t 31), none⟩]))) (.ops [⟨some 16, .mov (.t 7), none⟩, ⟨some 17, .bin (.add) (.other) (.t 16) (.c (.int (.i64) 1)), none⟩, ⟨some 7, .mov (.t 17), none⟩])))
def b34 : SC := .seq (.ops [⟨some 3, .box (.t 1), none⟩, ⟨some 4, .mov (.c (.nilsl)), none⟩]) (.seq (.ops [⟨some 5, .mov (.c (.nilsl)), none⟩]) (.seq (.ops [⟨some 8, .load true 2 (.t 3), none⟩, ⟨some 9, .buildSlice [.int (.u32) 0, .int (.u32) 0] 1 2 [(0, 2, .t 8)], none⟩, ⟨some 10, .mov (.t 0), none⟩, ⟨some 11, .append 2 8 (.t 9) (.t 10), none⟩, ⟨some 6, .mov (.t 11), none⟩]) (.seq (.seq (.ops [⟨some 7, .mov (.c (.int (.i64) 0)), none⟩]) (.block 0 (.loop L34_0))) (.seq (.ops [⟨some 32, .mov (.t 5), none⟩, ⟨some 4, .mov (.t 32), none⟩]) (.ret)))))
theorem t34 : tab 34 = some ⟨33, [.tmp 4], b34⟩ := rfl
def Sh34 (A v : AV) (i : Nat) (tm : List AV) : Prop := tm.length = 33 ∧ tm[5]? = some (v) ∧ tm[6]? = some (A) ∧ tm[7]? = some (.int .i64 (i : Nat))

theorem round34 {h : Heap} {A v : AV} {l : List Sp} {E : List Int} {i : Nat} (hA : SpAt h A l) (hE : InAt h v E) (hl : l.length ≤ 100000) (hi : i < l.length) (hs : E.length ≤ 2 * i) {tm : List AV} (ht : Sh34 A v i tm) :
    ∃ tm' v' h', xcode X1 tab 34 none (.loop L34_0) tm h = xcode X1 tab 34 none (.loop L34_0) tm' h' ∧ Sh34 A v' (i + 1) tm' ∧ Grow h h' ∧ Mine 1 h.next h' v' ((eStep E (l.getD i (0, 0))).map inA) := by
  match tm, ht with
  | a0 :: a1 :: a2 :: a3 :: a4 :: a5 :: a6 :: a7 :: a8 :: a9 :: a10 :: a11 :: a12 :: a13 :: a14 :: a15 :: a16 :: a17 :: a18 :: a19 :: a20 :: a21 :: a22 :: a23 :: a24 :: a25 :: a26 :: a27 :: a28 :: a29 :: a30 :: a31 :: a32 :: [], ht =>
  obtain ⟨_, t5, t6, t7⟩ := ht
  simp only [List.getElem?_cons_zero, List.getElem?_cons_succ, Option.some.injEq] at t5 t6 t7
  replace t5 := t5.symm; replace t6 := t6.symm; replace t7 := t7.symm
  subst t5 t6 t7
  obtain ⟨v1, h1, e1, g1, m1⟩ := x35 E (l.getD i (0, 0)).1 hE (by omega)
  have hl1 := put_len E (l.getD i (0, 0)).1
  obtain ⟨v2, h2, e2, g2, m2⟩ := x35 (putP E (l.getD i (0, 0)).1) (l.getD i (0, 0)).2 m1.rd (by omega)
  rcases hA.cases with ⟨rfl, rfl⟩ | ⟨id, off, cap, ex, c, ro, rfl, hg, hid, hcl, htk, hc0, hc1⟩
  · exact absurd hi (by simp)
  have hg1 := g1.get hg
  refine ⟨?_, v2, h2, ?_, ?_, g1.trans g2, m2.le g1.1⟩
  rotate_left
  · rw [show ∀ tm h, xcode X1 tab 34 none (.loop L34_0) tm h = thenX X1 tab 34 none (.loop L34_0) (xcode X1 tab 34 none L34_0 tm h) from fun _ _ => x_loop]
    delta L34_0
    simp (disch := first | omega | (simp only [nx_alloc, nx_set] <;> omega) | (apply Rd.grow; assumption; repeat (first | exact Grow.refl _ | assumption | exact Grow.alloc _ _ | refine Grow.allocR ?_ _ | refine Grow.setR ?_ _ ?_ ?_ | omega | (simp only [nx_alloc, nx_set] <;> omega) | (apply Grow.trans; rotate_left; assumption) | fail)) | fail) only [note_false, Int.reduceBEq, Int.reduceBNe, x_drawn, l_nil, l_op, l_guard, l_some, l_true, l_false, l_draw, readsA, x_true, x_false, x_seq, x_ops, x_cond, x_skip, x_ret, x_exit, x_block, x_then, x_thenE, x_thenR, x_blockN, x_blockR, x_blockE, s_nil, s_op, s_guard, s_some, s_true, s_false, s_put, s_put0, s_opsR, s_ret, s_norm, aop, ev, evs, List.map_cons, List.map_nil, List.cons_append, List.nil_append, List.append_nil, List.replicate, List.take_succ_cons, List.take_zero, List.take_nil, List.drop_succ_cons, List.drop_zero, List.drop_nil, Nat.zero_add, Nat.add_zero, Nat.reduceAdd, Nat.reduceMul, Nat.reduceLeDiff, Bool.false_eq_true, and_self, List.length_cons, List.length_nil, List.set_cons_zero, List.set_cons_succ, List.getD_cons_zero, List.getD_cons_succ, wantedA, List.getElem?_cons_zero, List.getElem?_cons_succ, q_t, q_f, Bool.not_true, Bool.not_false, b_add, b_sub, b_mul, b_eql, b_neq, b_lss, b_leq, b_gtr, b_geq, b_and, b_or, b_xor, b_quo, b_rem, b_shl, b_shr, unA, Option.map_some, Option.map_none, resA, tupA, Int.reduceLT, not_false_eq_true, not_true_eq_false, decide_true, decide_false, f_bool, c_bool, f_int, c_int, f_str, c_str, f_nilptr, c_nilptr, f_ptr, c_ptr, f_nilsl, c_nilsl, f_slice, c_slice, f_nilmap, c_nilmap, f_map, c_map, f_nilf, c_nilf, f_func, c_func, f_yieldf, c_yieldf, f_nilif, c_nilif, f_iface, c_iface, c_agg, List.all_cons, List.all_nil, Bool.and_true, Bool.true_and, if_true, if_false, ite_true, ite_false, ga_new, ga_old, gs_new, gs_old, Heap.next_alloc, Heap.next_set, loadA, storeA, splice, fillA, d_t, d_f, i_t, i_f, beq_t, beq_f, bne_t, bne_f, w_i64, w_u64, w_u32, w_i32, w_u8, Int.toNat_natCast, n_sub1, n_add1, Nat.sub_zero, Nat.mul_one, Nat.one_mul, Nat.zero_mul, List.append_assoc, Option.bind_some, chkLog, same_cells, List.replicate_zero, List.flatten_nil, true_and, and_true, b_eqB, b_neB, b_eqS, b_neS, Bool.true_beq, Bool.false_beq, kindsOk, k_0, k_1, k_2, plainEq, Bool.bne_true, Bool.bne_false, beq_self_eq_true, bne_self_eq_false, Int.tdiv_eq_ediv_of_nonneg, Int.tmod_eq_emod_of_nonneg, List.length_nil, hg, hg1, hc0, hc1, e1, e2]
    rfl
  · exact ⟨rfl, rfl, rfl, rfl⟩
theorem end34 {h : Heap} {A v : AV} {l : List Sp} (hA : SpAt h A l) {tm : List AV} (ht : Sh34 A v l.length tm) : ∃ tm', xcode X1 tab 34 none (.loop L34_0) tm h = some (.exit 0, tm', h) ∧ Sh34 A v l.length tm' := by
  match tm, ht with
  | a0 :: a1 :: a2 :: a3 :: a4 :: a5 :: a6 :: a7 :: a8 :: a9 :: a10 :: a11 :: a12 :: a13 :: a14 :: a15 :: a16 :: a17 :: a18 :: a19 :: a20 :: a21 :: a22 :: a23 :: a24 :: a25 :: a26 :: a27 :: a28 :: a29 :: a30 :: a31 :: a32 :: [], ht =>
  obtain ⟨_, t5, t6, t7⟩ := ht
  simp only [List.getElem?_cons_zero, List.getElem?_cons_succ, Option.some.injEq] at t5 t6 t7
  replace t5 := t5.symm; replace t6 := t6.symm; replace t7 := t7.symm
  subst t5 t6 t7
  rcases hA.cases with ⟨rfl, rfl⟩ | ⟨id, off, cap, ex, c, ro, rfl, hg, hid, hcl, htk, hc0, hc1⟩
  all_goals
    refine ⟨?_, ?_, ?_⟩
    rotate_left
    · rw [show ∀ tm h, xcode X1 tab 34 none (.loop L34_0) tm h = thenX X1 tab 34 none (.loop L34_0) (xcode X1 tab 34 none L34_0 tm h) from fun _ _ => x_loop]
      delta L34_0
      simp (disch := first | omega | (simp only [nx_alloc, nx_set] <;> omega) | (apply Rd.grow; assumption; repeat (first | exact Grow.refl _ | assumption | exact Grow.alloc _ _ | refine Grow.allocR ?_ _ | refine Grow.setR ?_ _ ?_ ?_ | omega | (simp only [nx_alloc, nx_set] <;> omega) | (apply Grow.trans; rotate_left; assumption) | fail)) | fail) only [note_false, Int.reduceBEq, Int.reduceBNe, x_drawn, l_nil, l_op, l_guard, l_some, l_true, l_false, l_draw, readsA, x_true, x_false, x_seq, x_ops, x_cond, x_skip, x_ret, x_exit, x_block, x_then, x_thenE, x_thenR, x_blockN, x_blockR, x_blockE, s_nil, s_op, s_guard, s_some, s_true, s_false, s_put, s_put0, s_opsR, s_ret, s_norm, aop, ev, evs, List.map_cons, List.map_nil, List.cons_append, List.nil_append, List.append_nil, List.replicate, List.take_succ_cons, List.take_zero, List.take_nil, List.drop_succ_cons, List.drop_zero, List.drop_nil, Nat.zero_add, Nat.add_zero, Nat.reduceAdd, Nat.reduceMul, Nat.reduceLeDiff, Bool.false_eq_true, and_self, List.length_cons, List.length_nil, List.set_cons_zero, List.set_cons_succ, List.getD_cons_zero, List.getD_cons_succ, wantedA, List.getElem?_cons_zero, List.getElem?_cons_succ, q_t, q_f, Bool.not_true, Bool.not_false, b_add, b_sub, b_mul, b_eql, b_neq, b_lss, b_leq, b_gtr, b_geq, b_and, b_or, b_xor, b_quo, b_rem, b_shl, b_shr, unA, Option.map_some, Option.map_none, resA, tupA, Int.reduceLT, not_false_eq_true, not_true_eq_false, decide_true, decide_false, f_bool, c_bool, f_int, c_int, f_str, c_str, f_nilptr, c_nilptr, f_ptr, c_ptr, f_nilsl, c_nilsl, f_slice, c_slice, f_nilmap, c_nilmap, f_map, c_map, f_nilf, c_nilf, f_func, c_func, f_yieldf, c_yieldf, f_nilif, c_nilif, f_iface, c_iface, c_agg, List.all_cons, List.all_nil, Bool.and_true, Bool.true_and, if_true, if_false, ite_true, ite_false, ga_new, ga_old, gs_new, gs_old, Heap.next_alloc, Heap.next_set, loadA, storeA, splice, fillA, d_t, d_f, i_t, i_f, beq_t, beq_f, bne_t, bne_f, w_i64, w_u64, w_u32, w_i32, w_u8, Int.toNat_natCast, n_sub1, n_add1, Nat.sub_zero, Nat.mul_one, Nat.one_mul, Nat.zero_mul, List.append_assoc, Option.bind_some, chkLog, same_cells, List.replicate_zero, List.flatten_nil, true_and, and_true, b_eqB, b_neB, b_eqS, b_neS, Bool.true_beq, Bool.false_beq, kindsOk, k_0, k_1, k_2, plainEq, Bool.bne_true, Bool.bne_false, beq_self_eq_true, bne_self_eq_false, Int.tdiv_eq_ediv_of_nonneg, Int.tmod_eq_emod_of_nonneg, List.length_nil]
      rfl
    · exact ⟨rfl, rfl, rfl, rfl⟩
theorem x34 (l : List Sp) (s : Sp) {h : Heap} {V : AV} (hV : SpAt h V l) (hl : l.length ≤ 1000) : ∃ v h', xcall X1 tab (.fn 34) [V, .agg [.int .u32 s.1, .int .u32 s.2]] h = some (v, h') ∧ Grow h h' ∧ InAt h' v (endsP l s) := by
  have ga := Grow.alloc h (.cells [.int .u32 s.1, .int .u32 s.2] false)
  have gb := Grow.alloc (h.alloc (.cells [.int .u32 s.1, .int .u32 s.2] false)) (.cells [.int .u32 s.1, .int .u32 s.2] false)
  obtain ⟨A, H, e0, g0, f0, hA, _⟩ := cat_rd (bytes := 8) (l := [s]) (m := l) (enc := spA) (fun _ => rfl) (ga_new (h := h.alloc (.cells [.int .u32 s.1, .int .u32 s.2] false)) (o := .cells [.int .u32 s.1, .int .u32 s.2] false) rfl) (hV.grow (ga.trans gb)) (by simp; omega)
  simp only [List.length_cons, List.length_nil, Nat.zero_add, nx_alloc] at e0
  have hT : Sh34 A .nilsl 0 [V, .agg [.int .u32 s.1, .int .u32 s.2], undefA, .ptr h.next 0, .nilsl, .nilsl, A, .int (.i64) 0, .agg [.int .u32 s.1, .int .u32 s.2], .slice (h.next + 1) 0 1 1 true 2, V, A, undefA, undefA, undefA, undefA, undefA, undefA, undefA, undefA, undefA, undefA, undefA, undefA, undefA, undefA, undefA, undefA, undefA, undefA, undefA, undefA, undefA] := ⟨rfl, rfl, rfl, rfl⟩
  have hll : (s :: l).length ≤ 1001 := by simp; omega
  obtain ⟨e, tm', h', e1, rfl, v, ht, g1, m1⟩ := loop_ind (X := X1) (SP := tab) (self := 34) (rd := none) (L := L34_0) (n := (s :: l).length) (fun i tm h' => ∃ v, Sh34 A v i tm ∧ Grow H h' ∧ InAt h' v (((s :: l).take i).foldl eStep []))
    (fun e tm' h' => e = .exit 0 ∧ ∃ v, Sh34 A v (s :: l).length tm' ∧ Grow H h' ∧ InAt h' v (endsP l s))
    (fun i tm h1 hi ⟨v, s1, g1, m1⟩ => by
      have hle := efold_len ((s :: l).take i) []
      have htl : ((s :: l).take i).length = i := by rw [List.length_take]; omega
      rw [htl] at hle
      simp only [List.length_nil, Nat.zero_add] at hle
      obtain ⟨tm', v', h', e, s2, g2, m2⟩ := round34 (hA.grow g1) m1 (by have : ([s] ++ l).length = (s :: l).length := rfl; omega) hi hle s1
      refine .inr ⟨tm', h', e, v', s2, g1.trans g2, ?_⟩
      rw [sp_take hi, List.foldl_append]
      exact m2.rd)
    (fun tm h1 ⟨v, s1, g1, m1⟩ => by
      rw [List.take_length] at m1
      obtain ⟨tm', e, s2⟩ := end34 (hA.grow g1) s1
      exact ⟨_, tm', h1, e, rfl, v, s2, g1, m1⟩) 0 _ H (Nat.zero_le _) ⟨.nilsl, hT, Grow.refl _, ⟨fun r hr => (by cases hr), .inl ⟨rfl, rfl⟩⟩⟩
  match tm', ht with
  | a0 :: a1 :: a2 :: a3 :: a4 :: a5 :: a6 :: a7 :: a8 :: a9 :: a10 :: a11 :: a12 :: a13 :: a14 :: a15 :: a16 :: a17 :: a18 :: a19 :: a20 :: a21 :: a22 :: a23 :: a24 :: a25 :: a26 :: a27 :: a28 :: a29 :: a30 :: a31 :: a32 :: [], ht =>
  obtain ⟨_, t5, t6, t7⟩ := ht
  simp only [List.getElem?_cons_zero, List.getElem?_cons_succ, Option.some.injEq] at t5 t6 t7
  replace t5 := t5.symm; replace t6 := t6.symm; replace t7 := t7.symm
  subst t5 t6 t7
  refine ⟨v, h', ?_, ((ga.trans gb).trans g0).trans g1, m1⟩
  rw [x_fn rfl t34]
  delta b34
  simp (disch := first | omega | (simp only [nx_alloc, nx_set] <;> omega) | (apply Rd.grow; assumption; repeat (first | exact Grow.refl _ | assumption | exact Grow.alloc _ _ | refine Grow.allocR ?_ _ | refine Grow.setR ?_ _ ?_ ?_ | omega | (simp only [nx_alloc, nx_set] <;> omega) | (apply Grow.trans; rotate_left; assumption) | fail)) | fail) only [note_false, Int.reduceBEq, Int.reduceBNe, x_drawn, l_nil, l_op, l_guard, l_some, l_true, l_false, l_draw, readsA, x_true, x_false, x_seq, x_ops, x_cond, x_skip, x_ret, x_exit, x_block, x_then, x_thenE, x_thenR, x_blockN, x_blockR, x_blockE, s_nil, s_op, s_guard, s_some, s_true, s_false, s_put, s_put0, s_opsR, s_ret, s_norm, aop, ev, evs, List.map_cons, List.map_nil, List.cons_append, List.nil_append, List.append_nil, List.replicate, List.take_succ_cons, List.take_zero, List.take_nil, List.drop_succ_cons, List.drop_zero, List.drop_nil, Nat.zero_add, Nat.add_zero, Nat.reduceAdd, Nat.reduceMul, Nat.reduceLeDiff, Bool.false_eq_true, and_self, List.length_cons, List.length_nil, List.set_cons_zero, List.set_cons_succ, List.getD_cons_zero, List.getD_cons_succ, wantedA, List.getElem?_cons_zero, List.getElem?_cons_succ, q_t, q_f, Bool.not_true, Bool.not_false, b_add, b_sub, b_mul, b_eql, b_neq, b_lss, b_leq, b_gtr, b_geq, b_and, b_or, b_xor, b_quo, b_rem, b_shl, b_shr, unA, Option.map_some, Option.map_none, resA, tupA, Int.reduceLT, not_false_eq_true, not_true_eq_false, decide_true, decide_false, f_bool, c_bool, f_int, c_int, f_str, c_str, f_nilptr, c_nilptr, f_ptr, c_ptr, f_nilsl, c_nilsl, f_slice, c_slice, f_nilmap, c_nilmap, f_map, c_map, f_nilf, c_nilf, f_func, c_func, f_yieldf, c_yieldf, f_nilif, c_nilif, f_iface, c_iface, c_agg, List.all_cons, List.all_nil, Bool.and_true, Bool.true_and, if_true, if_false, ite_true, ite_false, ga_new, ga_old, gs_new, gs_old, Heap.next_alloc, Heap.next_set, loadA, storeA, splice, fillA, d_t, d_f, i_t, i_f, beq_t, beq_f, bne_t, bne_f, w_i64, w_u64, w_u32, w_i32, w_u8, Int.toNat_natCast, n_sub1, n_add1, Nat.sub_zero, Nat.mul_one, Nat.one_mul, Nat.zero_mul, List.append_assoc, Option.bind_some, chkLog, same_cells, List.replicate_zero, List.flatten_nil, true_and, and_true, b_eqB, b_neB, b_eqS, b_neS, Bool.true_beq, Bool.false_beq, kindsOk, k_0, k_1, k_2, plainEq, Bool.bne_true, Bool.bne_false, beq_self_eq_true, bne_self_eq_false, Int.tdiv_eq_ediv_of_nonneg, Int.tmod_eq_emod_of_nonneg, List.length_nil, e0, e1]
  try rfl
end Go.Proofs.Ytplbampjponnpaa.Ya

