/-
  Spans: what is left of spans without one, yielded.
-/
import Derived.Test.YtplbampjponnpaaYaSpanScan3
import Derived.Test.YtplbampjponnpaaYaIter2
namespace Go.Proofs.Ytplbampjponnpaa.Ya
open Go.Ya Go.Ya.Span
set_option linter.unusedVariables false
set_option linter.unusedSimpArgs false
set_option maxRecDepth 100000
set_option maxHeartbeats 16000000

theorem mn (a b : Int) : (if b < a then b else a) = min a b := by omega
theorem mx (a b : Int) : (if b > a then b else a) = max a b := by omega
/-- What is yielded of a span. -/
def yA (s : Sp) : List AV := [.agg [.int .u32 s.1, .int .u32 s.2]]
def okY (x : List AV) : Prop := ∃ s : Sp, x = yA s
/-- What rest reads. -/
def RestP (pl ps : Nat) (V : AV) (l : List Sp) (s : Sp) (h : Heap) (B : Nat → Prop) : Prop :=
  h.get pl = some (.cells [V] false) ∧ h.get ps = some (.cells [.int .u32 s.1, .int .u32 s.2] false) ∧ SpAt h V l ∧ ¬ B pl ∧ ¬ B ps ∧ (∀ id o n c e z, V = .slice id o n c e z → ¬ B id)
theorem RestP.stp {pl ps : Nat} {V : AV} {l : List Sp} {s : Sp} {h h' : Heap} {B B' : Nat → Prop} (p : RestP pl ps V l s h B) (st : Stp h h' B B') : RestP pl ps V l s h' B' := by
  obtain ⟨p1, p2, p3, p4, p5, p6⟩ := p
  have l1 := Heap.lt_of_get p1
  have l2 := Heap.lt_of_get p2
  have nB : ∀ j, j < h.next → ¬ B j → ¬ B' j := fun j hj hn hB' => (st.2.2 j hB').elim hn fun e => by omega
  refine ⟨(st.2.1 _ l1 p4).trans p1, (st.2.1 _ l2 p5).trans p2, ?_, nB _ l1 p4, nB _ l2 p5, fun id o n c e z hV => ?_⟩
  · refine Rd.keep p3 fun id o n c e z hV hl => st.2.1 id hl (p6 _ _ _ _ _ _ hV)
  · refine nB id ?_ (p6 _ _ _ _ _ _ hV)
    rcases p3.2 with ⟨e1, _⟩ | ⟨id', off, cap, ex, c', ro, e1, e2, _⟩
    · rw [e1] at hV; cases hV
    · rw [e1] at hV; cases hV; exact Heap.lt_of_get e2
/-- The taker, and what is read. -/
def RestI (C : List (List AV) → Heap → (Nat → Prop) → Prop) (pl ps : Nat) (V : AV) (l : List Sp) (s : Sp) (done : List (List AV)) (h : Heap) (B : Nat → Prop) : Prop := C done h B ∧ RestP pl ps V l s h B
def L33_1 : SC := (.seq (.ops [⟨some 40, .bin (.lss) (.other) (.t 39) (.c (.int (.i64) 2)), none⟩]) (.seq (.cond (.t 40) (.skip) (.exit 2)) (.seq (.block 3 (.seq (.ops [⟨some 41, .idxArr true 2 2 (.t 38) (.t 39), none⟩, ⟨some 9, .box (.c (.agg [.int (.u32) 0, .int (.u32) 0])), none⟩, ⟨none, .store 2 (.t 9) (.t 41), none⟩]) (.seq (.ops [⟨some 42, .load true 2 (.t 9), none⟩, ⟨some 43, .call 30 [.t 42], none⟩, ⟨some 44, .un (.not) (.t 43), none⟩, ⟨some 45, .mov (.t 44), none⟩, ⟨some 46, .mov (.t 0), some (45, true)⟩, ⟨some 47, .load true 2 (.t 9), some (45, true)⟩, ⟨some 48, .callV (.t 46) [.t 47], some (45, true)⟩, ⟨some 49, .un (.not) (.t 48), some (45, true)⟩, ⟨some 50, .pick (.t 45) (.t 49) (.c (.bool false)), none⟩]) (.cond (.t 50) (.ret) (.skip))))) (.ops [⟨some 51, .bin (.add) (.other) (.t 39) (.c (.int (.i64) 1)), none⟩, ⟨some 39, .mov (.t 51), none⟩]))))
def L33_0 : SC := (.seq (.ops [⟨some 13, .bin (.lss) (.other) (.t 12) (.t 11), none⟩]) (.seq (.cond (.t 13) (.skip) (.exit 0)) (.seq (.block 1 (.seq (.ops [⟨some 14, .idxAddrSl 2 (.t 10) (.t 12), none⟩, ⟨some 15, .load true 2 (.t 14), none⟩, ⟨some 5, .box (.c (.agg [.int (.u32) 0, .int (.u32) 0])), none⟩, ⟨none, .store 2 (.t 5) (.t 15), none⟩]) (.seq (.drawOps [⟨some 16, .fieldAddr 0 (.t 5), none⟩, ⟨some 17, .load false 1 (.t 16), none⟩, ⟨some 18, .fieldAddr 1 (.t 5), none⟩, ⟨some 19, .load false 1 (.t 18), none⟩, ⟨some 20, .fieldAddr 0 (.t 2), none⟩, ⟨some 21, .load false 1 (.t 20), none⟩, ⟨some 22, .min (.t 19) [.t 21], none⟩, ⟨some 23, .build [.int (.u32) 0, .int (.u32) 0] [(0, 1, .t 17), (1, 1, .t 22)], none⟩, ⟨some 24, .fieldAddr 0 (.t 5), none⟩, ⟨some 25, .load false 1 (.t 24), none⟩, ⟨some 26, .fieldAddr 1 (.t 2), none⟩, ⟨some 27, .load false 1 (.t 26), none⟩, ⟨some 28, .max (.t 25) [.t 27], none⟩, ⟨some 29, .fieldAddr 1 (.t 5), none⟩, ⟨some 30, .load false 1 (.t 29), none⟩, ⟨some 31, .build [.int (.u32) 0, .int (.u32) 0] [(0, 1, .t 28), (1, 1, .t 30)], none⟩, ⟨some 6, .box (.c (.agg [.int (.u32) 0, .int (.u32) 0])), none⟩, ⟨some 7, .box (.c (.agg [.int (.u32) 0, .int (.u32) 0])), none⟩, ⟨none, .store 2 (.t 6) (.t 23), none⟩, ⟨none, .store 2 (.t 7) (.t 31), none⟩] [(1, 16), (1, 17), (3, 16), (3, 17), (5, 16), (5, 17), (9, 16), (9, 17), (9, 18), (11, 16), (11, 17), (11, 18), (14, 16), (14, 17), (14, 18)]) (.seq (.seq (.ops [⟨some 32, .load true 2 (.t 2), none⟩, ⟨some 33, .call 30 [.t 32], none⟩]) (.cond (.t 33) (.ops [⟨some 34, .load true 2 (.t 5), none⟩, ⟨some 35, .build [.int (.u32) 0, .int (.u32) 0] [], none⟩, ⟨none, .store 2 (.t 6) (.t 34), none⟩, ⟨none, .store 2 (.t 7) (.t 35), none⟩]) (.skip))) (.seq (.ops [⟨some 36, .load true 2 (.t 6), none⟩, ⟨some 37, .load true 2 (.t 7), none⟩, ⟨some 38, .build [.int (.u32) 0, .int (.u32) 0, .int (.u32) 0, .int (.u32) 0] [(0, 2, .t 36), (2, 2, .t 37)], none⟩, ⟨some 39, .mov (.c (.int (.i64) 0)), none⟩]) (.block 2 (.loop L33_1))))))) (.ops [⟨some 52, .bin (.add) (.other) (.t 12) (.c (.int (.i64) 1)), none⟩, ⟨some 12, .mov (.t 52), none⟩]))))
def b33 : SC := .seq (.ops [⟨some 10, .load false 1 (.t 1), none⟩, ⟨some 11, .len (.sl) (.t 10), none⟩, ⟨some 12, .mov (.c (.int (.i64) 0)), none⟩]) (.block 0 (.loop L33_0))
theorem t33 : tab 33 = some ⟨53, [], b33⟩ := rfl
def Sh33 (L pl ps : Nat) (V : AV) (n i : Nat) (tm : List AV) : Prop := tm.length = 53 ∧ tm[0]? = some (.yieldf L) ∧ tm[1]? = some (.ptr pl 0) ∧ tm[2]? = some (.ptr ps 0) ∧ tm[10]? = some (V) ∧ tm[11]? = some (.int .i64 (n : Nat)) ∧ tm[12]? = some (.int .i64 (i : Nat))
def Sh33i (L pl ps : Nat) (V : AV) (n i : Nat) (a b : Sp) (k : Nat) (tm : List AV) : Prop := tm.length = 53 ∧ tm[0]? = some (.yieldf L) ∧ tm[1]? = some (.ptr pl 0) ∧ tm[2]? = some (.ptr ps 0) ∧ tm[10]? = some (V) ∧ tm[11]? = some (.int .i64 (n : Nat)) ∧ tm[12]? = some (.int .i64 (i : Nat)) ∧ tm[38]? = some (.agg [.int .u32 a.1, .int .u32 a.2, .int .u32 b.1, .int .u32 b.2]) ∧ tm[39]? = some (.int .i64 (k : Nat))
theorem inner0 {L pl ps n i : Nat} {V : AV} {l : List Sp} {s a b : Sp} {C : List (List AV) → Heap → (Nat → Prop) → Prop} {done : List (List AV)} {h : Heap} {B : Nat → Prop} {xs : List (List AV)} (cs : Cons2 X1 tab L xs C) (hi : RestI C pl ps V l s done h B) (hok : ¬ emptyP a = true → (done ++ [yA a]) <+: xs) {tm : List AV} (ht : Sh33i L pl ps V n i a b 0 tm) :
    ∃ tm' h' B', xcode X1 tab 33 none (.loop L33_1) tm h = xcode X1 tab 33 none (.loop L33_1) tm' h' ∧ Sh33i L pl ps V n i a b 1 tm' ∧ RestI C pl ps V l s (done ++ if emptyP a = true then [] else [yA a]) h' B' ∧ Stp h h' B B' := by
  match tm, ht with
  | a0 :: a1 :: a2 :: a3 :: a4 :: a5 :: a6 :: a7 :: a8 :: a9 :: a10 :: a11 :: a12 :: a13 :: a14 :: a15 :: a16 :: a17 :: a18 :: a19 :: a20 :: a21 :: a22 :: a23 :: a24 :: a25 :: a26 :: a27 :: a28 :: a29 :: a30 :: a31 :: a32 :: a33 :: a34 :: a35 :: a36 :: a37 :: a38 :: a39 :: a40 :: a41 :: a42 :: a43 :: a44 :: a45 :: a46 :: a47 :: a48 :: a49 :: a50 :: a51 :: a52 :: [], ht =>
  obtain ⟨_, t0, t1, t2, t10, t11, t12, t38, t39⟩ := ht
  simp only [List.getElem?_cons_zero, List.getElem?_cons_succ, Option.some.injEq] at t0 t1 t2 t10 t11 t12 t38 t39
  replace t0 := t0.symm; replace t1 := t1.symm; replace t2 := t2.symm; replace t10 := t10.symm; replace t11 := t11.symm; replace t12 := t12.symm; replace t38 := t38.symm; replace t39 := t39.symm
  subst t0 t1 t2 t10 t11 t12 t38 t39
  by_cases hy : a.1 ≥ a.2
  · have he : emptyP a = true := by simp [emptyP]; omega
    refine ⟨?_, ((h.alloc (.cells [.int .u32 0, .int .u32 0] false)).set h.next (.cells [.int .u32 a.1, .int .u32 a.2] false)).alloc (.cells [.int .u32 a.1, .int .u32 a.2] false), B, ?_, ?_, ?_, ?_⟩
    rotate_left
    · rw [show ∀ tm h, xcode X1 tab 33 none (.loop L33_1) tm h = thenX X1 tab 33 none (.loop L33_1) (xcode X1 tab 33 none L33_1 tm h) from fun _ _ => x_loop]
      delta L33_1
      simp (disch := first | omega | (simp only [nx_alloc, nx_set] <;> omega) | (apply Rd.grow; assumption; repeat (first | exact Grow.refl _ | assumption | exact Grow.alloc _ _ | refine Grow.allocR ?_ _ | refine Grow.setR ?_ _ ?_ ?_ | omega | (simp only [nx_alloc, nx_set] <;> omega) | (apply Grow.trans; rotate_left; assumption) | fail)) | fail) only [note_false, Int.reduceBEq, Int.reduceBNe, x_drawn, l_nil, l_op, l_guard, l_some, l_true, l_false, l_draw, readsA, x_true, x_false, x_seq, x_ops, x_cond, x_skip, x_ret, x_exit, x_block, x_then, x_thenE, x_thenR, x_blockN, x_blockR, x_blockE, s_nil, s_op, s_guard, s_some, s_true, s_false, s_put, s_put0, s_opsR, s_ret, s_norm, aop, ev, evs, List.map_cons, List.map_nil, List.cons_append, List.nil_append, List.append_nil, List.replicate, List.take_succ_cons, List.take_zero, List.take_nil, List.drop_succ_cons, List.drop_zero, List.drop_nil, Nat.zero_add, Nat.add_zero, Nat.reduceAdd, Nat.reduceMul, Nat.reduceLeDiff, Bool.false_eq_true, and_self, List.length_cons, List.length_nil, List.set_cons_zero, List.set_cons_succ, List.getD_cons_zero, List.getD_cons_succ, wantedA, List.getElem?_cons_zero, List.getElem?_cons_succ, q_t, q_f, Bool.not_true, Bool.not_false, b_add, b_sub, b_mul, b_eql, b_neq, b_lss, b_leq, b_gtr, b_geq, b_and, b_or, b_xor, b_quo, b_rem, b_shl, b_shr, unA, Option.map_some, Option.map_none, resA, tupA, Int.reduceLT, not_false_eq_true, not_true_eq_false, decide_true, decide_false, f_bool, c_bool, f_int, c_int, f_str, c_str, f_nilptr, c_nilptr, f_ptr, c_ptr, f_nilsl, c_nilsl, f_slice, c_slice, f_nilmap, c_nilmap, f_map, c_map, f_nilf, c_nilf, f_func, c_func, f_yieldf, c_yieldf, f_nilif, c_nilif, f_iface, c_iface, c_agg, List.all_cons, List.all_nil, Bool.and_true, Bool.true_and, if_true, if_false, ite_true, ite_false, ga_new, ga_old, gs_new, gs_old, Heap.next_alloc, Heap.next_set, loadA, storeA, splice, fillA, d_t, d_f, i_t, i_f, beq_t, beq_f, bne_t, bne_f, w_i64, w_u64, w_u32, w_i32, w_u8, Int.toNat_natCast, n_sub1, n_add1, Nat.sub_zero, Nat.mul_one, Nat.one_mul, Nat.zero_mul, List.append_assoc, Option.bind_some, chkLog, same_cells, List.replicate_zero, List.flatten_nil, true_and, and_true, kindsOk, k_0, k_1, k_2, plainEq, Bool.bne_true, Bool.bne_false, beq_self_eq_true, bne_self_eq_false, Int.tdiv_eq_ediv_of_nonneg, Int.tmod_eq_emod_of_nonneg, List.length_nil, x30p]
      rfl
    · exact ⟨rfl, rfl, rfl, rfl, rfl, rfl, rfl, rfl, rfl⟩
    · rw [if_pos he, List.append_nil]
      have g : Grow h (((h.alloc (.cells [.int .u32 0, .int .u32 0] false)).set h.next (.cells [.int .u32 a.1, .int .u32 a.2] false)).alloc (.cells [.int .u32 a.1, .int .u32 a.2] false)) := by repeat (first | exact Grow.refl _ | assumption | exact Grow.alloc _ _ | refine Grow.allocR ?_ _ | refine Grow.setR ?_ _ ?_ ?_ | omega | (simp only [nx_alloc, nx_set] <;> omega) | (apply Grow.trans; rotate_left; assumption) | fail)
      exact ⟨cs.keep hi.1 g.1 fun j hj => g.2 j (cs.low hi.1 j hj), hi.2.stp (Stp.of_grow g)⟩
    · exact Stp.of_grow (by repeat (first | exact Grow.refl _ | assumption | exact Grow.alloc _ _ | refine Grow.allocR ?_ _ | refine Grow.setR ?_ _ ?_ ?_ | omega | (simp only [nx_alloc, nx_set] <;> omega) | (apply Grow.trans; rotate_left; assumption) | fail))
  · have he : ¬ emptyP a = true := by simp [emptyP]; omega
    have g : Grow h (((h.alloc (.cells [.int .u32 0, .int .u32 0] false)).set h.next (.cells [.int .u32 a.1, .int .u32 a.2] false)).alloc (.cells [.int .u32 a.1, .int .u32 a.2] false)) := by repeat (first | exact Grow.refl _ | assumption | exact Grow.alloc _ _ | refine Grow.allocR ?_ _ | refine Grow.setR ?_ _ ?_ ?_ | omega | (simp only [nx_alloc, nx_set] <;> omega) | (apply Grow.trans; rotate_left; assumption) | fail)
    obtain ⟨h2, B2, e1, c2, st⟩ := cs.step (cs.keep hi.1 g.1 fun j hj => g.2 j (cs.low hi.1 j hj)) (hok he)
    delta yA at e1
    refine ⟨?_, h2, B2, ?_, ?_, ?_, ?_⟩
    rotate_left
    · rw [show ∀ tm h, xcode X1 tab 33 none (.loop L33_1) tm h = thenX X1 tab 33 none (.loop L33_1) (xcode X1 tab 33 none L33_1 tm h) from fun _ _ => x_loop]
      delta L33_1
      simp (disch := first | omega | (simp only [nx_alloc, nx_set] <;> omega) | (apply Rd.grow; assumption; repeat (first | exact Grow.refl _ | assumption | exact Grow.alloc _ _ | refine Grow.allocR ?_ _ | refine Grow.setR ?_ _ ?_ ?_ | omega | (simp only [nx_alloc, nx_set] <;> omega) | (apply Grow.trans; rotate_left; assumption) | fail)) | fail) only [note_false, Int.reduceBEq, Int.reduceBNe, x_drawn, l_nil, l_op, l_guard, l_some, l_true, l_false, l_draw, readsA, x_true, x_false, x_seq, x_ops, x_cond, x_skip, x_ret, x_exit, x_block, x_then, x_thenE, x_thenR, x_blockN, x_blockR, x_blockE, s_nil, s_op, s_guard, s_some, s_true, s_false, s_put, s_put0, s_opsR, s_ret, s_norm, aop, ev, evs, List.map_cons, List.map_nil, List.cons_append, List.nil_append, List.append_nil, List.replicate, List.take_succ_cons, List.take_zero, List.take_nil, List.drop_succ_cons, List.drop_zero, List.drop_nil, Nat.zero_add, Nat.add_zero, Nat.reduceAdd, Nat.reduceMul, Nat.reduceLeDiff, Bool.false_eq_true, and_self, List.length_cons, List.length_nil, List.set_cons_zero, List.set_cons_succ, List.getD_cons_zero, List.getD_cons_succ, wantedA, List.getElem?_cons_zero, List.getElem?_cons_succ, q_t, q_f, Bool.not_true, Bool.not_false, b_add, b_sub, b_mul, b_eql, b_neq, b_lss, b_leq, b_gtr, b_geq, b_and, b_or, b_xor, b_quo, b_rem, b_shl, b_shr, unA, Option.map_some, Option.map_none, resA, tupA, Int.reduceLT, not_false_eq_true, not_true_eq_false, decide_true, decide_false, f_bool, c_bool, f_int, c_int, f_str, c_str, f_nilptr, c_nilptr, f_ptr, c_ptr, f_nilsl, c_nilsl, f_slice, c_slice, f_nilmap, c_nilmap, f_map, c_map, f_nilf, c_nilf, f_func, c_func, f_yieldf, c_yieldf, f_nilif, c_nilif, f_iface, c_iface, c_agg, List.all_cons, List.all_nil, Bool.and_true, Bool.true_and, if_true, if_false, ite_true, ite_false, ga_new, ga_old, gs_new, gs_old, Heap.next_alloc, Heap.next_set, loadA, storeA, splice, fillA, d_t, d_f, i_t, i_f, beq_t, beq_f, bne_t, bne_f, w_i64, w_u64, w_u32, w_i32, w_u8, Int.toNat_natCast, n_sub1, n_add1, Nat.sub_zero, Nat.mul_one, Nat.one_mul, Nat.zero_mul, List.append_assoc, Option.bind_some, chkLog, same_cells, List.replicate_zero, List.flatten_nil, true_and, and_true, kindsOk, k_0, k_1, k_2, plainEq, Bool.bne_true, Bool.bne_false, beq_self_eq_true, bne_self_eq_false, Int.tdiv_eq_ediv_of_nonneg, Int.tmod_eq_emod_of_nonneg, List.length_nil, x30p, e1]
      rfl
    · exact ⟨rfl, rfl, rfl, rfl, rfl, rfl, rfl, rfl, rfl⟩
    · rw [if_neg he]
      exact ⟨c2, (hi.2.stp (Stp.of_grow g)).stp st⟩
    · exact (Stp.of_grow g).trans st
theorem inner1 {L pl ps n i : Nat} {V : AV} {l : List Sp} {s a b : Sp} {C : List (List AV) → Heap → (Nat → Prop) → Prop} {done : List (List AV)} {h : Heap} {B : Nat → Prop} {xs : List (List AV)} (cs : Cons2 X1 tab L xs C) (hi : RestI C pl ps V l s done h B) (hok : ¬ emptyP b = true → (done ++ [yA b]) <+: xs) {tm : List AV} (ht : Sh33i L pl ps V n i a b 1 tm) :
    ∃ tm' h' B', xcode X1 tab 33 none (.loop L33_1) tm h = xcode X1 tab 33 none (.loop L33_1) tm' h' ∧ Sh33i L pl ps V n i a b 2 tm' ∧ RestI C pl ps V l s (done ++ if emptyP b = true then [] else [yA b]) h' B' ∧ Stp h h' B B' := by
  match tm, ht with
  | a0 :: a1 :: a2 :: a3 :: a4 :: a5 :: a6 :: a7 :: a8 :: a9 :: a10 :: a11 :: a12 :: a13 :: a14 :: a15 :: a16 :: a17 :: a18 :: a19 :: a20 :: a21 :: a22 :: a23 :: a24 :: a25 :: a26 :: a27 :: a28 :: a29 :: a30 :: a31 :: a32 :: a33 :: a34 :: a35 :: a36 :: a37 :: a38 :: a39 :: a40 :: a41 :: a42 :: a43 :: a44 :: a45 :: a46 :: a47 :: a48 :: a49 :: a50 :: a51 :: a52 :: [], ht =>
  obtain ⟨_, t0, t1, t2, t10, t11, t12, t38, t39⟩ := ht
  simp only [List.getElem?_cons_zero, List.getElem?_cons_succ, Option.some.injEq] at t0 t1 t2 t10 t11 t12 t38 t39
  replace t0 := t0.symm; replace t1 := t1.symm; replace t2 := t2.symm; replace t10 := t10.symm; replace t11 := t11.symm; replace t12 := t12.symm; replace t38 := t38.symm; replace t39 := t39.symm
  subst t0 t1 t2 t10 t11 t12 t38 t39
  by_cases hy : b.1 ≥ b.2
  · have he : emptyP b = true := by simp [emptyP]; omega
    refine ⟨?_, ((h.alloc (.cells [.int .u32 0, .int .u32 0] false)).set h.next (.cells [.int .u32 b.1, .int .u32 b.2] false)).alloc (.cells [.int .u32 b.1, .int .u32 b.2] false), B, ?_, ?_, ?_, ?_⟩
    rotate_left
    · rw [show ∀ tm h, xcode X1 tab 33 none (.loop L33_1) tm h = thenX X1 tab 33 none (.loop L33_1) (xcode X1 tab 33 none L33_1 tm h) from fun _ _ => x_loop]
      delta L33_1
      simp (disch := first | omega | (simp only [nx_alloc, nx_set] <;> omega) | (apply Rd.grow; assumption; repeat (first | exact Grow.refl _ | assumption | exact Grow.alloc _ _ | refine Grow.allocR ?_ _ | refine Grow.setR ?_ _ ?_ ?_ | omega | (simp only [nx_alloc, nx_set] <;> omega) | (apply Grow.trans; rotate_left; assumption) | fail)) | fail) only [note_false, Int.reduceBEq, Int.reduceBNe, x_drawn, l_nil, l_op, l_guard, l_some, l_true, l_false, l_draw, readsA, x_true, x_false, x_seq, x_ops, x_cond, x_skip, x_ret, x_exit, x_block, x_then, x_thenE, x_thenR, x_blockN, x_blockR, x_blockE, s_nil, s_op, s_guard, s_some, s_true, s_false, s_put, s_put0, s_opsR, s_ret, s_norm, aop, ev, evs, List.map_cons, List.map_nil, List.cons_append, List.nil_append, List.append_nil, List.replicate, List.take_succ_cons, List.take_zero, List.take_nil, List.drop_succ_cons, List.drop_zero, List.drop_nil, Nat.zero_add, Nat.add_zero, Nat.reduceAdd, Nat.reduceMul, Nat.reduceLeDiff, Bool.false_eq_true, and_self, List.length_cons, List.length_nil, List.set_cons_zero, List.set_cons_succ, List.getD_cons_zero, List.getD_cons_succ, wantedA, List.getElem?_cons_zero, List.getElem?_cons_succ, q_t, q_f, Bool.not_true, Bool.not_false, b_add, b_sub, b_mul, b_eql, b_neq, b_lss, b_leq, b_gtr, b_geq, b_and, b_or, b_xor, b_quo, b_rem, b_shl, b_shr, unA, Option.map_some, Option.map_none, resA, tupA, Int.reduceLT, not_false_eq_true, not_true_eq_false, decide_true, decide_false, f_bool, c_bool, f_int, c_int, f_str, c_str, f_nilptr, c_nilptr, f_ptr, c_ptr, f_nilsl, c_nilsl, f_slice, c_slice, f_nilmap, c_nilmap, f_map, c_map, f_nilf, c_nilf, f_func, c_func, f_yieldf, c_yieldf, f_nilif, c_nilif, f_iface, c_iface, c_agg, List.all_cons, List.all_nil, Bool.and_true, Bool.true_and, if_true, if_false, ite_true, ite_false, ga_new, ga_old, gs_new, gs_old, Heap.next_alloc, Heap.next_set, loadA, storeA, splice, fillA, d_t, d_f, i_t, i_f, beq_t, beq_f, bne_t, bne_f, w_i64, w_u64, w_u32, w_i32, w_u8, Int.toNat_natCast, n_sub1, n_add1, Nat.sub_zero, Nat.mul_one, Nat.one_mul, Nat.zero_mul, List.append_assoc, Option.bind_some, chkLog, same_cells, List.replicate_zero, List.flatten_nil, true_and, and_true, kindsOk, k_0, k_1, k_2, plainEq, Bool.bne_true, Bool.bne_false, beq_self_eq_true, bne_self_eq_false, Int.tdiv_eq_ediv_of_nonneg, Int.tmod_eq_emod_of_nonneg, List.length_nil, x30p]
      rfl
    · exact ⟨rfl, rfl, rfl, rfl, rfl, rfl, rfl, rfl, rfl⟩
    · rw [if_pos he, List.append_nil]
      have g : Grow h (((h.alloc (.cells [.int .u32 0, .int .u32 0] false)).set h.next (.cells [.int .u32 b.1, .int .u32 b.2] false)).alloc (.cells [.int .u32 b.1, .int .u32 b.2] false)) := by repeat (first | exact Grow.refl _ | assumption | exact Grow.alloc _ _ | refine Grow.allocR ?_ _ | refine Grow.setR ?_ _ ?_ ?_ | omega | (simp only [nx_alloc, nx_set] <;> omega) | (apply Grow.trans; rotate_left; assumption) | fail)
      exact ⟨cs.keep hi.1 g.1 fun j hj => g.2 j (cs.low hi.1 j hj), hi.2.stp (Stp.of_grow g)⟩
    · exact Stp.of_grow (by repeat (first | exact Grow.refl _ | assumption | exact Grow.alloc _ _ | refine Grow.allocR ?_ _ | refine Grow.setR ?_ _ ?_ ?_ | omega | (simp only [nx_alloc, nx_set] <;> omega) | (apply Grow.trans; rotate_left; assumption) | fail))
  · have he : ¬ emptyP b = true := by simp [emptyP]; omega
    have g : Grow h (((h.alloc (.cells [.int .u32 0, .int .u32 0] false)).set h.next (.cells [.int .u32 b.1, .int .u32 b.2] false)).alloc (.cells [.int .u32 b.1, .int .u32 b.2] false)) := by repeat (first | exact Grow.refl _ | assumption | exact Grow.alloc _ _ | refine Grow.allocR ?_ _ | refine Grow.setR ?_ _ ?_ ?_ | omega | (simp only [nx_alloc, nx_set] <;> omega) | (apply Grow.trans; rotate_left; assumption) | fail)
    obtain ⟨h2, B2, e1, c2, st⟩ := cs.step (cs.keep hi.1 g.1 fun j hj => g.2 j (cs.low hi.1 j hj)) (hok he)
    delta yA at e1
    refine ⟨?_, h2, B2, ?_, ?_, ?_, ?_⟩
    rotate_left
    · rw [show ∀ tm h, xcode X1 tab 33 none (.loop L33_1) tm h = thenX X1 tab 33 none (.loop L33_1) (xcode X1 tab 33 none L33_1 tm h) from fun _ _ => x_loop]
      delta L33_1
      simp (disch := first | omega | (simp only [nx_alloc, nx_set] <;> omega) | (apply Rd.grow; assumption; repeat (first | exact Grow.refl _ | assumption | exact Grow.alloc _ _ | refine Grow.allocR ?_ _ | refine Grow.setR ?_ _ ?_ ?_ | omega | (simp only [nx_alloc, nx_set] <;> omega) | (apply Grow.trans; rotate_left; assumption) | fail)) | fail) only [note_false, Int.reduceBEq, Int.reduceBNe, x_drawn, l_nil, l_op, l_guard, l_some, l_true, l_false, l_draw, readsA, x_true, x_false, x_seq, x_ops, x_cond, x_skip, x_ret, x_exit, x_block, x_then, x_thenE, x_thenR, x_blockN, x_blockR, x_blockE, s_nil, s_op, s_guard, s_some, s_true, s_false, s_put, s_put0, s_opsR, s_ret, s_norm, aop, ev, evs, List.map_cons, List.map_nil, List.cons_append, List.nil_append, List.append_nil, List.replicate, List.take_succ_cons, List.take_zero, List.take_nil, List.drop_succ_cons, List.drop_zero, List.drop_nil, Nat.zero_add, Nat.add_zero, Nat.reduceAdd, Nat.reduceMul, Nat.reduceLeDiff, Bool.false_eq_true, and_self, List.length_cons, List.length_nil, List.set_cons_zero, List.set_cons_succ, List.getD_cons_zero, List.getD_cons_succ, wantedA, List.getElem?_cons_zero, List.getElem?_cons_succ, q_t, q_f, Bool.not_true, Bool.not_false, b_add, b_sub, b_mul, b_eql, b_neq, b_lss, b_leq, b_gtr, b_geq, b_and, b_or, b_xor, b_quo, b_rem, b_shl, b_shr, unA, Option.map_some, Option.map_none, resA, tupA, Int.reduceLT, not_false_eq_true, not_true_eq_false, decide_true, decide_false, f_bool, c_bool, f_int, c_int, f_str, c_str, f_nilptr, c_nilptr, f_ptr, c_ptr, f_nilsl, c_nilsl, f_slice, c_slice, f_nilmap, c_nilmap, f_map, c_map, f_nilf, c_nilf, f_func, c_func, f_yieldf, c_yieldf, f_nilif, c_nilif, f_iface, c_iface, c_agg, List.all_cons, List.all_nil, Bool.and_true, Bool.true_and, if_true, if_false, ite_true, ite_false, ga_new, ga_old, gs_new, gs_old, Heap.next_alloc, Heap.next_set, loadA, storeA, splice, fillA, d_t, d_f, i_t, i_f, beq_t, beq_f, bne_t, bne_f, w_i64, w_u64, w_u32, w_i32, w_u8, Int.toNat_natCast, n_sub1, n_add1, Nat.sub_zero, Nat.mul_one, Nat.one_mul, Nat.zero_mul, List.append_assoc, Option.bind_some, chkLog, same_cells, List.replicate_zero, List.flatten_nil, true_and, and_true, kindsOk, k_0, k_1, k_2, plainEq, Bool.bne_true, Bool.bne_false, beq_self_eq_true, bne_self_eq_false, Int.tdiv_eq_ediv_of_nonneg, Int.tmod_eq_emod_of_nonneg, List.length_nil, x30p, e1]
      rfl
    · exact ⟨rfl, rfl, rfl, rfl, rfl, rfl, rfl, rfl, rfl⟩
    · rw [if_neg he]
      exact ⟨c2, (hi.2.stp (Stp.of_grow g)).stp st⟩
    · exact (Stp.of_grow g).trans st
theorem inner {L pl ps n i : Nat} {V : AV} {l : List Sp} {s a b : Sp} {C : List (List AV) → Heap → (Nat → Prop) → Prop} {done : List (List AV)} {h : Heap} {B : Nat → Prop} {xs : List (List AV)} (cs : Cons2 X1 tab L xs C) (hi : RestI C pl ps V l s done h B) (hok : ¬ emptyP a = true → (done ++ [yA a]) <+: xs) (hok2 : ¬ emptyP b = true → ((done ++ if emptyP a = true then [] else [yA a]) ++ [yA b]) <+: xs) {tm : List AV} (ht : Sh33i L pl ps V n i a b 0 tm) :
    ∃ tm' h' B', xcode X1 tab 33 none (.loop L33_1) tm h = some (.exit 2, tm', h') ∧ Sh33i L pl ps V n i a b 2 tm' ∧ RestI C pl ps V l s (done ++ ((if emptyP a = true then [] else [yA a]) ++ if emptyP b = true then [] else [yA b])) h' B' ∧ Stp h h' B B' := by
  obtain ⟨tm1, h1, B1, e1, s1, i1, st1⟩ := inner0 cs hi hok ht
  obtain ⟨tm2, h2, B2, e2, ht, i2, st2⟩ := inner1 cs i1 hok2 s1
  rw [e1, e2]
  rw [List.append_assoc] at i2
  clear e1 e2
  match tm2, ht with
  | a0 :: a1 :: a2 :: a3 :: a4 :: a5 :: a6 :: a7 :: a8 :: a9 :: a10 :: a11 :: a12 :: a13 :: a14 :: a15 :: a16 :: a17 :: a18 :: a19 :: a20 :: a21 :: a22 :: a23 :: a24 :: a25 :: a26 :: a27 :: a28 :: a29 :: a30 :: a31 :: a32 :: a33 :: a34 :: a35 :: a36 :: a37 :: a38 :: a39 :: a40 :: a41 :: a42 :: a43 :: a44 :: a45 :: a46 :: a47 :: a48 :: a49 :: a50 :: a51 :: a52 :: [], ht =>
  obtain ⟨_, t0, t1, t2, t10, t11, t12, t38, t39⟩ := ht
  simp only [List.getElem?_cons_zero, List.getElem?_cons_succ, Option.some.injEq] at t0 t1 t2 t10 t11 t12 t38 t39
  replace t0 := t0.symm; replace t1 := t1.symm; replace t2 := t2.symm; replace t10 := t10.symm; replace t11 := t11.symm; replace t12 := t12.symm; replace t38 := t38.symm; replace t39 := t39.symm
  subst t0 t1 t2 t10 t11 t12 t38 t39
  refine ⟨?_, h2, B2, ?_, ?_, i2, st1.trans st2⟩
  rotate_left
  · rw [show ∀ tm h, xcode X1 tab 33 none (.loop L33_1) tm h = thenX X1 tab 33 none (.loop L33_1) (xcode X1 tab 33 none L33_1 tm h) from fun _ _ => x_loop]
    delta L33_1
    simp (disch := first | omega | (simp only [nx_alloc, nx_set] <;> omega) | (apply Rd.grow; assumption; repeat (first | exact Grow.refl _ | assumption | exact Grow.alloc _ _ | refine Grow.allocR ?_ _ | refine Grow.setR ?_ _ ?_ ?_ | omega | (simp only [nx_alloc, nx_set] <;> omega) | (apply Grow.trans; rotate_left; assumption) | fail)) | fail) only [note_false, Int.reduceBEq, Int.reduceBNe, x_drawn, l_nil, l_op, l_guard, l_some, l_true, l_false, l_draw, readsA, x_true, x_false, x_seq, x_ops, x_cond, x_skip, x_ret, x_exit, x_block, x_then, x_thenE, x_thenR, x_blockN, x_blockR, x_blockE, s_nil, s_op, s_guard, s_some, s_true, s_false, s_put, s_put0, s_opsR, s_ret, s_norm, aop, ev, evs, List.map_cons, List.map_nil, List.cons_append, List.nil_append, List.append_nil, List.replicate, List.take_succ_cons, List.take_zero, List.take_nil, List.drop_succ_cons, List.drop_zero, List.drop_nil, Nat.zero_add, Nat.add_zero, Nat.reduceAdd, Nat.reduceMul, Nat.reduceLeDiff, Bool.false_eq_true, and_self, List.length_cons, List.length_nil, List.set_cons_zero, List.set_cons_succ, List.getD_cons_zero, List.getD_cons_succ, wantedA, List.getElem?_cons_zero, List.getElem?_cons_succ, q_t, q_f, Bool.not_true, Bool.not_false, b_add, b_sub, b_mul, b_eql, b_neq, b_lss, b_leq, b_gtr, b_geq, b_and, b_or, b_xor, b_quo, b_rem, b_shl, b_shr, unA, Option.map_some, Option.map_none, resA, tupA, Int.reduceLT, not_false_eq_true, not_true_eq_false, decide_true, decide_false, f_bool, c_bool, f_int, c_int, f_str, c_str, f_nilptr, c_nilptr, f_ptr, c_ptr, f_nilsl, c_nilsl, f_slice, c_slice, f_nilmap, c_nilmap, f_map, c_map, f_nilf, c_nilf, f_func, c_func, f_yieldf, c_yieldf, f_nilif, c_nilif, f_iface, c_iface, c_agg, List.all_cons, List.all_nil, Bool.and_true, Bool.true_and, if_true, if_false, ite_true, ite_false, ga_new, ga_old, gs_new, gs_old, Heap.next_alloc, Heap.next_set, loadA, storeA, splice, fillA, d_t, d_f, i_t, i_f, beq_t, beq_f, bne_t, bne_f, w_i64, w_u64, w_u32, w_i32, w_u8, Int.toNat_natCast, n_sub1, n_add1, Nat.sub_zero, Nat.mul_one, Nat.one_mul, Nat.zero_mul, List.append_assoc, Option.bind_some, chkLog, same_cells, List.replicate_zero, List.flatten_nil, true_and, and_true, kindsOk, k_0, k_1, k_2, plainEq, Bool.bne_true, Bool.bne_false, beq_self_eq_true, bne_self_eq_false, Int.tdiv_eq_ediv_of_nonneg, Int.tmod_eq_emod_of_nonneg, List.length_nil]
    rfl
  · exact ⟨rfl, rfl, rfl, rfl, rfl, rfl, rfl, rfl, rfl⟩
theorem pre33 {L pl ps i : Nat} {V : AV} {l : List Sp} {s : Sp} {h : Heap} {B : Nat → Prop} (p : RestP pl ps V l s h B) (hl : l.length ≤ 1000000) (hi : i < l.length) {tm : List AV} (ht : Sh33 L pl ps V l.length i tm) :
    ∃ tm1 H a b, xcode X1 tab 33 none (.loop L33_0) tm h = thenX X1 tab 33 none (.loop L33_0) (thenX X1 tab 33 none (.ops [⟨some 52, .bin (.add) (.other) (.t 12) (.c (.int (.i64) 1)), none⟩, ⟨some 12, .mov (.t 52), none⟩]) (code_block 1 (code_block 2 (xcode X1 tab 33 none (.loop L33_1) tm1 H)))) ∧ Sh33i L pl ps V l.length i a b 0 tm1 ∧ Grow h H ∧ pieces (l.getD i (0, 0)) s = (if emptyP a = true then [] else [a]) ++ if emptyP b = true then [] else [b] := by
  obtain ⟨p1, p2, p3, p4, p5, p6⟩ := p
  have l1 := Heap.lt_of_get p1
  have l2 := Heap.lt_of_get p2
  match tm, ht with
  | a0 :: a1 :: a2 :: a3 :: a4 :: a5 :: a6 :: a7 :: a8 :: a9 :: a10 :: a11 :: a12 :: a13 :: a14 :: a15 :: a16 :: a17 :: a18 :: a19 :: a20 :: a21 :: a22 :: a23 :: a24 :: a25 :: a26 :: a27 :: a28 :: a29 :: a30 :: a31 :: a32 :: a33 :: a34 :: a35 :: a36 :: a37 :: a38 :: a39 :: a40 :: a41 :: a42 :: a43 :: a44 :: a45 :: a46 :: a47 :: a48 :: a49 :: a50 :: a51 :: a52 :: [], ht =>
  obtain ⟨_, t0, t1, t2, t10, t11, t12⟩ := ht
  simp only [List.getElem?_cons_zero, List.getElem?_cons_succ, Option.some.injEq] at t0 t1 t2 t10 t11 t12
  replace t0 := t0.symm; replace t1 := t1.symm; replace t2 := t2.symm; replace t10 := t10.symm; replace t11 := t11.symm; replace t12 := t12.symm
  subst t0 t1 t2 t10 t11 t12
  rcases p3.cases with ⟨rfl, rfl⟩ | ⟨id, off, cap, ex, c, ro, rfl, hg, hid, hcl, htk, hc0, hc1⟩
  · exact absurd hi (by simp)
  by_cases hs : s.1 ≥ s.2
  · have he : emptyP s = true := by simp [emptyP]; omega
    refine ⟨?_, ?_, (l.getD i (0, 0)), (0, 0), ?_, ?_, ?_, ?_⟩
    rotate_left 2
    · rw [show ∀ tm h, xcode X1 tab 33 none (.loop L33_0) tm h = thenX X1 tab 33 none (.loop L33_0) (xcode X1 tab 33 none L33_0 tm h) from fun _ _ => x_loop]
      delta L33_0
      simp (disch := first | omega | (simp only [nx_alloc, nx_set] <;> omega) | (apply Rd.grow; assumption; repeat (first | exact Grow.refl _ | assumption | exact Grow.alloc _ _ | refine Grow.allocR ?_ _ | refine Grow.setR ?_ _ ?_ ?_ | omega | (simp only [nx_alloc, nx_set] <;> omega) | (apply Grow.trans; rotate_left; assumption) | fail)) | fail) only [note_false, Int.reduceBEq, Int.reduceBNe, x_drawn, l_nil, l_op, l_guard, l_some, l_true, l_false, l_draw, readsA, x_true, x_false, x_seq, x_ops, x_cond, x_skip, x_ret, x_exit, x_block, x_then, x_thenE, x_thenR, x_blockN, x_blockR, x_blockE, s_nil, s_op, s_guard, s_some, s_true, s_false, s_put, s_put0, s_opsR, s_ret, s_norm, aop, ev, evs, List.map_cons, List.map_nil, List.cons_append, List.nil_append, List.append_nil, List.replicate, List.take_succ_cons, List.take_zero, List.take_nil, List.drop_succ_cons, List.drop_zero, List.drop_nil, Nat.zero_add, Nat.add_zero, Nat.reduceAdd, Nat.reduceMul, Nat.reduceLeDiff, Bool.false_eq_true, and_self, List.length_cons, List.length_nil, List.set_cons_zero, List.set_cons_succ, List.getD_cons_zero, List.getD_cons_succ, wantedA, List.getElem?_cons_zero, List.getElem?_cons_succ, q_t, q_f, Bool.not_true, Bool.not_false, b_add, b_sub, b_mul, b_eql, b_neq, b_lss, b_leq, b_gtr, b_geq, b_and, b_or, b_xor, b_quo, b_rem, b_shl, b_shr, unA, Option.map_some, Option.map_none, resA, tupA, Int.reduceLT, not_false_eq_true, not_true_eq_false, decide_true, decide_false, f_bool, c_bool, f_int, c_int, f_str, c_str, f_nilptr, c_nilptr, f_ptr, c_ptr, f_nilsl, c_nilsl, f_slice, c_slice, f_nilmap, c_nilmap, f_map, c_map, f_nilf, c_nilf, f_func, c_func, f_yieldf, c_yieldf, f_nilif, c_nilif, f_iface, c_iface, c_agg, List.all_cons, List.all_nil, Bool.and_true, Bool.true_and, if_true, if_false, ite_true, ite_false, ga_new, ga_old, gs_new, gs_old, Heap.next_alloc, Heap.next_set, loadA, storeA, splice, fillA, d_t, d_f, i_t, i_f, beq_t, beq_f, bne_t, bne_f, w_i64, w_u64, w_u32, w_i32, w_u8, Int.toNat_natCast, n_sub1, n_add1, Nat.sub_zero, Nat.mul_one, Nat.one_mul, Nat.zero_mul, List.append_assoc, Option.bind_some, chkLog, same_cells, List.replicate_zero, List.flatten_nil, true_and, and_true, kindsOk, k_0, k_1, k_2, plainEq, Bool.bne_true, Bool.bne_false, beq_self_eq_true, bne_self_eq_false, Int.tdiv_eq_ediv_of_nonneg, Int.tmod_eq_emod_of_nonneg, List.length_nil, hg, htk, hc0, hc1, p2, x30p, mn, mx, minA, maxA]
      rfl
    · exact ⟨rfl, rfl, rfl, rfl, rfl, rfl, rfl, rfl, rfl⟩
    · repeat (first | exact Grow.refl _ | assumption | exact Grow.alloc _ _ | refine Grow.allocR ?_ _ | refine Grow.setR ?_ _ ?_ ?_ | omega | (simp only [nx_alloc, nx_set] <;> omega) | (apply Grow.trans; rotate_left; assumption) | fail)
    · rw [pieces, if_pos he]; rfl
  · have he : ¬ emptyP s = true := by simp [emptyP]; omega
    refine ⟨?_, ?_, ((l.getD i (0, 0)).1, min (l.getD i (0, 0)).2 s.1), (max (l.getD i (0, 0)).1 s.2, (l.getD i (0, 0)).2), ?_, ?_, ?_, ?_⟩
    rotate_left 2
    · rw [show ∀ tm h, xcode X1 tab 33 none (.loop L33_0) tm h = thenX X1 tab 33 none (.loop L33_0) (xcode X1 tab 33 none L33_0 tm h) from fun _ _ => x_loop]
      delta L33_0
      simp (disch := first | omega | (simp only [nx_alloc, nx_set] <;> omega) | (apply Rd.grow; assumption; repeat (first | exact Grow.refl _ | assumption | exact Grow.alloc _ _ | refine Grow.allocR ?_ _ | refine Grow.setR ?_ _ ?_ ?_ | omega | (simp only [nx_alloc, nx_set] <;> omega) | (apply Grow.trans; rotate_left; assumption) | fail)) | fail) only [note_false, Int.reduceBEq, Int.reduceBNe, x_drawn, l_nil, l_op, l_guard, l_some, l_true, l_false, l_draw, readsA, x_true, x_false, x_seq, x_ops, x_cond, x_skip, x_ret, x_exit, x_block, x_then, x_thenE, x_thenR, x_blockN, x_blockR, x_blockE, s_nil, s_op, s_guard, s_some, s_true, s_false, s_put, s_put0, s_opsR, s_ret, s_norm, aop, ev, evs, List.map_cons, List.map_nil, List.cons_append, List.nil_append, List.append_nil, List.replicate, List.take_succ_cons, List.take_zero, List.take_nil, List.drop_succ_cons, List.drop_zero, List.drop_nil, Nat.zero_add, Nat.add_zero, Nat.reduceAdd, Nat.reduceMul, Nat.reduceLeDiff, Bool.false_eq_true, and_self, List.length_cons, List.length_nil, List.set_cons_zero, List.set_cons_succ, List.getD_cons_zero, List.getD_cons_succ, wantedA, List.getElem?_cons_zero, List.getElem?_cons_succ, q_t, q_f, Bool.not_true, Bool.not_false, b_add, b_sub, b_mul, b_eql, b_neq, b_lss, b_leq, b_gtr, b_geq, b_and, b_or, b_xor, b_quo, b_rem, b_shl, b_shr, unA, Option.map_some, Option.map_none, resA, tupA, Int.reduceLT, not_false_eq_true, not_true_eq_false, decide_true, decide_false, f_bool, c_bool, f_int, c_int, f_str, c_str, f_nilptr, c_nilptr, f_ptr, c_ptr, f_nilsl, c_nilsl, f_slice, c_slice, f_nilmap, c_nilmap, f_map, c_map, f_nilf, c_nilf, f_func, c_func, f_yieldf, c_yieldf, f_nilif, c_nilif, f_iface, c_iface, c_agg, List.all_cons, List.all_nil, Bool.and_true, Bool.true_and, if_true, if_false, ite_true, ite_false, ga_new, ga_old, gs_new, gs_old, Heap.next_alloc, Heap.next_set, loadA, storeA, splice, fillA, d_t, d_f, i_t, i_f, beq_t, beq_f, bne_t, bne_f, w_i64, w_u64, w_u32, w_i32, w_u8, Int.toNat_natCast, n_sub1, n_add1, Nat.sub_zero, Nat.mul_one, Nat.one_mul, Nat.zero_mul, List.append_assoc, Option.bind_some, chkLog, same_cells, List.replicate_zero, List.flatten_nil, true_and, and_true, kindsOk, k_0, k_1, k_2, plainEq, Bool.bne_true, Bool.bne_false, beq_self_eq_true, bne_self_eq_false, Int.tdiv_eq_ediv_of_nonneg, Int.tmod_eq_emod_of_nonneg, List.length_nil, hg, htk, hc0, hc1, p2, x30p, mn, mx, minA, maxA]
      rfl
    · exact ⟨rfl, rfl, rfl, rfl, rfl, rfl, rfl, rfl, rfl⟩
    · repeat (first | exact Grow.refl _ | assumption | exact Grow.alloc _ _ | refine Grow.allocR ?_ _ | refine Grow.setR ?_ _ ?_ ?_ | omega | (simp only [nx_alloc, nx_set] <;> omega) | (apply Grow.trans; rotate_left; assumption) | fail)
    · rw [pieces, if_neg he]
theorem outer33 {L pl ps i : Nat} {V : AV} {l : List Sp} {s : Sp} {C : List (List AV) → Heap → (Nat → Prop) → Prop} {done : List (List AV)} {h : Heap} {B : Nat → Prop} {xs : List (List AV)} (cs : Cons2 X1 tab L xs C) (hI : RestI C pl ps V l s done h B) (hl : l.length ≤ 1000000) (hi : i < l.length)
    (hok : (done ++ (pieces (l.getD i (0, 0)) s).map yA) <+: xs) {tm : List AV} (ht : Sh33 L pl ps V l.length i tm) :
    ∃ tm' h' B', xcode X1 tab 33 none (.loop L33_0) tm h = xcode X1 tab 33 none (.loop L33_0) tm' h' ∧ Sh33 L pl ps V l.length (i + 1) tm' ∧ RestI C pl ps V l s (done ++ (pieces (l.getD i (0, 0)) s).map yA) h' B' ∧ Stp h h' B B' := by
  obtain ⟨tm1, H, a, b, e1, s1, g1, q1⟩ := pre33 hI.2 hl hi ht
  rw [q1, List.map_append] at hok
  have hoka : ¬ emptyP a = true → (done ++ [yA a]) <+: xs := fun he => by
    refine List.IsPrefix.trans ?_ hok
    rw [if_neg he]
    simp
  have hokb : ¬ emptyP b = true → ((done ++ if emptyP a = true then [] else [yA a]) ++ [yA b]) <+: xs := fun he => by
    refine List.IsPrefix.trans ?_ hok
    rw [if_neg he]
    cases emptyP a <;> simp
  obtain ⟨tm2, h2, B2, e2, ht, i2, st2⟩ := inner cs ⟨cs.keep hI.1 g1.1 fun j hj => g1.2 j (cs.low hI.1 j hj), hI.2.stp (Stp.of_grow g1)⟩ hoka hokb s1
  rw [e1, e2]
  clear e1 e2
  have q2 : (pieces (l.getD i (0, 0)) s).map yA = (if emptyP a = true then [] else [yA a]) ++ if emptyP b = true then [] else [yA b] := by
    rw [q1, List.map_append]
    cases emptyP a <;> cases emptyP b <;> rfl
  rw [← q2] at i2
  match tm2, ht with
  | a0 :: a1 :: a2 :: a3 :: a4 :: a5 :: a6 :: a7 :: a8 :: a9 :: a10 :: a11 :: a12 :: a13 :: a14 :: a15 :: a16 :: a17 :: a18 :: a19 :: a20 :: a21 :: a22 :: a23 :: a24 :: a25 :: a26 :: a27 :: a28 :: a29 :: a30 :: a31 :: a32 :: a33 :: a34 :: a35 :: a36 :: a37 :: a38 :: a39 :: a40 :: a41 :: a42 :: a43 :: a44 :: a45 :: a46 :: a47 :: a48 :: a49 :: a50 :: a51 :: a52 :: [], ht =>
  obtain ⟨_, t0, t1, t2, t10, t11, t12, t38, t39⟩ := ht
  simp only [List.getElem?_cons_zero, List.getElem?_cons_succ, Option.some.injEq] at t0 t1 t2 t10 t11 t12 t38 t39
  replace t0 := t0.symm; replace t1 := t1.symm; replace t2 := t2.symm; replace t10 := t10.symm; replace t11 := t11.symm; replace t12 := t12.symm; replace t38 := t38.symm; replace t39 := t39.symm
  subst t0 t1 t2 t10 t11 t12 t38 t39
  refine ⟨?_, h2, B2, ?_, ?_, i2, (Stp.of_grow g1).trans st2⟩
  rotate_left
  · simp (disch := first | omega | (simp only [nx_alloc, nx_set] <;> omega) | (apply Rd.grow; assumption; repeat (first | exact Grow.refl _ | assumption | exact Grow.alloc _ _ | refine Grow.allocR ?_ _ | refine Grow.setR ?_ _ ?_ ?_ | omega | (simp only [nx_alloc, nx_set] <;> omega) | (apply Grow.trans; rotate_left; assumption) | fail)) | fail) only [note_false, Int.reduceBEq, Int.reduceBNe, x_drawn, l_nil, l_op, l_guard, l_some, l_true, l_false, l_draw, readsA, x_true, x_false, x_seq, x_ops, x_cond, x_skip, x_ret, x_exit, x_block, x_then, x_thenE, x_thenR, x_blockN, x_blockR, x_blockE, s_nil, s_op, s_guard, s_some, s_true, s_false, s_put, s_put0, s_opsR, s_ret, s_norm, aop, ev, evs, List.map_cons, List.map_nil, List.cons_append, List.nil_append, List.append_nil, List.replicate, List.take_succ_cons, List.take_zero, List.take_nil, List.drop_succ_cons, List.drop_zero, List.drop_nil, Nat.zero_add, Nat.add_zero, Nat.reduceAdd, Nat.reduceMul, Nat.reduceLeDiff, Bool.false_eq_true, and_self, List.length_cons, List.length_nil, List.set_cons_zero, List.set_cons_succ, List.getD_cons_zero, List.getD_cons_succ, wantedA, List.getElem?_cons_zero, List.getElem?_cons_succ, q_t, q_f, Bool.not_true, Bool.not_false, b_add, b_sub, b_mul, b_eql, b_neq, b_lss, b_leq, b_gtr, b_geq, b_and, b_or, b_xor, b_quo, b_rem, b_shl, b_shr, unA, Option.map_some, Option.map_none, resA, tupA, Int.reduceLT, not_false_eq_true, not_true_eq_false, decide_true, decide_false, f_bool, c_bool, f_int, c_int, f_str, c_str, f_nilptr, c_nilptr, f_ptr, c_ptr, f_nilsl, c_nilsl, f_slice, c_slice, f_nilmap, c_nilmap, f_map, c_map, f_nilf, c_nilf, f_func, c_func, f_yieldf, c_yieldf, f_nilif, c_nilif, f_iface, c_iface, c_agg, List.all_cons, List.all_nil, Bool.and_true, Bool.true_and, if_true, if_false, ite_true, ite_false, ga_new, ga_old, gs_new, gs_old, Heap.next_alloc, Heap.next_set, loadA, storeA, splice, fillA, d_t, d_f, i_t, i_f, beq_t, beq_f, bne_t, bne_f, w_i64, w_u64, w_u32, w_i32, w_u8, Int.toNat_natCast, n_sub1, n_add1, Nat.sub_zero, Nat.mul_one, Nat.one_mul, Nat.zero_mul, List.append_assoc, Option.bind_some, chkLog, same_cells, List.replicate_zero, List.flatten_nil, true_and, and_true, kindsOk, k_0, k_1, k_2, plainEq, Bool.bne_true, Bool.bne_false, beq_self_eq_true, bne_self_eq_false, Int.tdiv_eq_ediv_of_nonneg, Int.tmod_eq_emod_of_nonneg, List.length_nil]
    rfl
  · exact ⟨rfl, rfl, rfl, rfl, rfl, rfl, rfl⟩
theorem restP_take : ∀ {l : List Sp} {s : Sp} {i : Nat}, i < l.length → restP (l.take (i + 1)) s = restP (l.take i) s ++ pieces (l.getD i (0, 0)) s
  | x :: l, s, 0, _ => by simp [restP]
  | x :: l, s, i + 1, hi => by
    have := restP_take (l := l) (s := s) (i := i) (by simpa using hi)
    simp only [List.take_succ_cons, restP, List.map_cons, List.flatten_cons, List.getD_cons_succ, List.append_assoc] at this ⊢
    rw [this]
theorem restP_append (l m : List Sp) (s : Sp) : restP (l ++ m) s = restP l s ++ restP m s := by simp [restP]
theorem prod33 {pl ps : Nat} {V : AV} {l : List Sp} {s : Sp} (hl : l.length ≤ 1000000) : Prod2 X1 tab 33 [] [.ptr pl 0, .ptr ps 0] (RestP pl ps V l s) ((restP l s).map yA) := by
  intro L C h B cs hC hP
  have hP' := hP
  obtain ⟨p1, p2, p3, p4, p5, p6⟩ := hP'
  have hT : Sh33 L pl ps V l.length 0 [.yieldf L, .ptr pl 0, .ptr ps 0, undefA, undefA, undefA, undefA, undefA, undefA, undefA, V, .int .i64 (l.length : Nat), .int (.i64) 0, undefA, undefA, undefA, undefA, undefA, undefA, undefA, undefA, undefA, undefA, undefA, undefA, undefA, undefA, undefA, undefA, undefA, undefA, undefA, undefA, undefA, undefA, undefA, undefA, undefA, undefA, undefA, undefA, undefA, undefA, undefA, undefA, undefA, undefA, undefA, undefA, undefA, undefA, undefA, undefA] := ⟨rfl, rfl, rfl, rfl, rfl, rfl, rfl⟩
  obtain ⟨e, tm', h', e1, rfl, B', ht, i2, st⟩ := loop_ind (X := X1) (SP := tab) (self := 33) (rd := none) (L := L33_0) (n := l.length) (fun i tm h' => ∃ B', Sh33 L pl ps V l.length i tm ∧ RestI C pl ps V l s ((restP (l.take i) s).map yA) h' B' ∧ Stp h h' B B')
    (fun e tm' h' => e = .exit 0 ∧ ∃ B', Sh33 L pl ps V l.length l.length tm' ∧ RestI C pl ps V l s ((restP l s).map yA) h' B' ∧ Stp h h' B B')
    (fun i tm h1 hi ⟨B1, s1, i1, st1⟩ => by
      have hsub : ((restP (l.take i) s).map yA ++ (pieces (l.getD i (0, 0)) s).map yA) <+: (restP l s).map yA := by
        rw [← List.map_append, ← restP_take hi]
        refine List.IsPrefix.map _ ?_
        obtain ⟨r, hr⟩ := List.take_prefix (i + 1) l
        exact ⟨restP r s, by rw [← restP_append, hr]⟩
      obtain ⟨tm2, h2, B2, e2, s2, i2, st2⟩ := outer33 cs i1 hl hi hsub s1
      refine .inr ⟨tm2, h2, e2, B2, s2, ?_, st1.trans st2⟩
      rw [restP_take hi, List.map_append]
      exact i2)
    (fun tm h1 ⟨B1, ht, i1, st1⟩ => by
      rw [List.take_length] at i1
      match tm, ht with
      | a0 :: a1 :: a2 :: a3 :: a4 :: a5 :: a6 :: a7 :: a8 :: a9 :: a10 :: a11 :: a12 :: a13 :: a14 :: a15 :: a16 :: a17 :: a18 :: a19 :: a20 :: a21 :: a22 :: a23 :: a24 :: a25 :: a26 :: a27 :: a28 :: a29 :: a30 :: a31 :: a32 :: a33 :: a34 :: a35 :: a36 :: a37 :: a38 :: a39 :: a40 :: a41 :: a42 :: a43 :: a44 :: a45 :: a46 :: a47 :: a48 :: a49 :: a50 :: a51 :: a52 :: [], ht =>
      obtain ⟨_, t0, t1, t2, t10, t11, t12⟩ := ht
      simp only [List.getElem?_cons_zero, List.getElem?_cons_succ, Option.some.injEq] at t0 t1 t2 t10 t11 t12
      replace t0 := t0.symm; replace t1 := t1.symm; replace t2 := t2.symm; replace t10 := t10.symm; replace t11 := t11.symm; replace t12 := t12.symm
      subst t0 t1 t2 t10 t11 t12
      refine ⟨.exit 0, ?_, h1, ?_, rfl, B1, ?_, i1, st1⟩
      rotate_left
      · rw [show ∀ tm h, xcode X1 tab 33 none (.loop L33_0) tm h = thenX X1 tab 33 none (.loop L33_0) (xcode X1 tab 33 none L33_0 tm h) from fun _ _ => x_loop]
        delta L33_0
        simp (disch := first | omega | (simp only [nx_alloc, nx_set] <;> omega) | (apply Rd.grow; assumption; repeat (first | exact Grow.refl _ | assumption | exact Grow.alloc _ _ | refine Grow.allocR ?_ _ | refine Grow.setR ?_ _ ?_ ?_ | omega | (simp only [nx_alloc, nx_set] <;> omega) | (apply Grow.trans; rotate_left; assumption) | fail)) | fail) only [note_false, Int.reduceBEq, Int.reduceBNe, x_drawn, l_nil, l_op, l_guard, l_some, l_true, l_false, l_draw, readsA, x_true, x_false, x_seq, x_ops, x_cond, x_skip, x_ret, x_exit, x_block, x_then, x_thenE, x_thenR, x_blockN, x_blockR, x_blockE, s_nil, s_op, s_guard, s_some, s_true, s_false, s_put, s_put0, s_opsR, s_ret, s_norm, aop, ev, evs, List.map_cons, List.map_nil, List.cons_append, List.nil_append, List.append_nil, List.replicate, List.take_succ_cons, List.take_zero, List.take_nil, List.drop_succ_cons, List.drop_zero, List.drop_nil, Nat.zero_add, Nat.add_zero, Nat.reduceAdd, Nat.reduceMul, Nat.reduceLeDiff, Bool.false_eq_true, and_self, List.length_cons, List.length_nil, List.set_cons_zero, List.set_cons_succ, List.getD_cons_zero, List.getD_cons_succ, wantedA, List.getElem?_cons_zero, List.getElem?_cons_succ, q_t, q_f, Bool.not_true, Bool.not_false, b_add, b_sub, b_mul, b_eql, b_neq, b_lss, b_leq, b_gtr, b_geq, b_and, b_or, b_xor, b_quo, b_rem, b_shl, b_shr, unA, Option.map_some, Option.map_none, resA, tupA, Int.reduceLT, not_false_eq_true, not_true_eq_false, decide_true, decide_false, f_bool, c_bool, f_int, c_int, f_str, c_str, f_nilptr, c_nilptr, f_ptr, c_ptr, f_nilsl, c_nilsl, f_slice, c_slice, f_nilmap, c_nilmap, f_map, c_map, f_nilf, c_nilf, f_func, c_func, f_yieldf, c_yieldf, f_nilif, c_nilif, f_iface, c_iface, c_agg, List.all_cons, List.all_nil, Bool.and_true, Bool.true_and, if_true, if_false, ite_true, ite_false, ga_new, ga_old, gs_new, gs_old, Heap.next_alloc, Heap.next_set, loadA, storeA, splice, fillA, d_t, d_f, i_t, i_f, beq_t, beq_f, bne_t, bne_f, w_i64, w_u64, w_u32, w_i32, w_u8, Int.toNat_natCast, n_sub1, n_add1, Nat.sub_zero, Nat.mul_one, Nat.one_mul, Nat.zero_mul, List.append_assoc, Option.bind_some, chkLog, same_cells, List.replicate_zero, List.flatten_nil, true_and, and_true, kindsOk, k_0, k_1, k_2, plainEq, Bool.bne_true, Bool.bne_false, beq_self_eq_true, bne_self_eq_false, Int.tdiv_eq_ediv_of_nonneg, Int.tmod_eq_emod_of_nonneg, List.length_nil]
        rfl
      · exact ⟨rfl, rfl, rfl, rfl, rfl, rfl, rfl⟩) 0 _ h (Nat.zero_le _) ⟨B, hT, ⟨by simpa [restP] using hC, hP⟩, Stp.of_grow (Grow.refl _)⟩
  match tm', ht with
  | a0 :: a1 :: a2 :: a3 :: a4 :: a5 :: a6 :: a7 :: a8 :: a9 :: a10 :: a11 :: a12 :: a13 :: a14 :: a15 :: a16 :: a17 :: a18 :: a19 :: a20 :: a21 :: a22 :: a23 :: a24 :: a25 :: a26 :: a27 :: a28 :: a29 :: a30 :: a31 :: a32 :: a33 :: a34 :: a35 :: a36 :: a37 :: a38 :: a39 :: a40 :: a41 :: a42 :: a43 :: a44 :: a45 :: a46 :: a47 :: a48 :: a49 :: a50 :: a51 :: a52 :: [], ht =>
  obtain ⟨_, t0, t1, t2, t10, t11, t12⟩ := ht
  simp only [List.getElem?_cons_zero, List.getElem?_cons_succ, Option.some.injEq] at t0 t1 t2 t10 t11 t12
  replace t0 := t0.symm; replace t1 := t1.symm; replace t2 := t2.symm; replace t10 := t10.symm; replace t11 := t11.symm; replace t12 := t12.symm
  subst t0 t1 t2 t10 t11 t12
  refine ⟨?_, h', B', ?_, i2.1, st⟩
  rotate_left
  · rcases p3.cases with ⟨rfl, rfl⟩ | ⟨id, off, cap, ex, c, ro, rfl, _⟩
    all_goals try simp only [List.length_nil, Int.natCast_zero] at e1
    all_goals
      rw [x_fn rfl t33]
      delta b33
      simp (disch := first | omega | (simp only [nx_alloc, nx_set] <;> omega) | (apply Rd.grow; assumption; repeat (first | exact Grow.refl _ | assumption | exact Grow.alloc _ _ | refine Grow.allocR ?_ _ | refine Grow.setR ?_ _ ?_ ?_ | omega | (simp only [nx_alloc, nx_set] <;> omega) | (apply Grow.trans; rotate_left; assumption) | fail)) | fail) only [note_false, Int.reduceBEq, Int.reduceBNe, x_drawn, l_nil, l_op, l_guard, l_some, l_true, l_false, l_draw, readsA, x_true, x_false, x_seq, x_ops, x_cond, x_skip, x_ret, x_exit, x_block, x_then, x_thenE, x_thenR, x_blockN, x_blockR, x_blockE, s_nil, s_op, s_guard, s_some, s_true, s_false, s_put, s_put0, s_opsR, s_ret, s_norm, aop, ev, evs, List.map_cons, List.map_nil, List.cons_append, List.nil_append, List.append_nil, List.replicate, List.take_succ_cons, List.take_zero, List.take_nil, List.drop_succ_cons, List.drop_zero, List.drop_nil, Nat.zero_add, Nat.add_zero, Nat.reduceAdd, Nat.reduceMul, Nat.reduceLeDiff, Bool.false_eq_true, and_self, List.length_cons, List.length_nil, List.set_cons_zero, List.set_cons_succ, List.getD_cons_zero, List.getD_cons_succ, wantedA, List.getElem?_cons_zero, List.getElem?_cons_succ, q_t, q_f, Bool.not_true, Bool.not_false, b_add, b_sub, b_mul, b_eql, b_neq, b_lss, b_leq, b_gtr, b_geq, b_and, b_or, b_xor, b_quo, b_rem, b_shl, b_shr, unA, Option.map_some, Option.map_none, resA, tupA, Int.reduceLT, not_false_eq_true, not_true_eq_false, decide_true, decide_false, f_bool, c_bool, f_int, c_int, f_str, c_str, f_nilptr, c_nilptr, f_ptr, c_ptr, f_nilsl, c_nilsl, f_slice, c_slice, f_nilmap, c_nilmap, f_map, c_map, f_nilf, c_nilf, f_func, c_func, f_yieldf, c_yieldf, f_nilif, c_nilif, f_iface, c_iface, c_agg, List.all_cons, List.all_nil, Bool.and_true, Bool.true_and, if_true, if_false, ite_true, ite_false, ga_new, ga_old, gs_new, gs_old, Heap.next_alloc, Heap.next_set, loadA, storeA, splice, fillA, d_t, d_f, i_t, i_f, beq_t, beq_f, bne_t, bne_f, w_i64, w_u64, w_u32, w_i32, w_u8, Int.toNat_natCast, n_sub1, n_add1, Nat.sub_zero, Nat.mul_one, Nat.one_mul, Nat.zero_mul, List.append_assoc, Option.bind_some, chkLog, same_cells, List.replicate_zero, List.flatten_nil, true_and, and_true, kindsOk, k_0, k_1, k_2, plainEq, Bool.bne_true, Bool.bne_false, beq_self_eq_true, bne_self_eq_false, Int.tdiv_eq_ediv_of_nonneg, Int.tmod_eq_emod_of_nonneg, List.length_nil, p1, e1]
      try rfl
end Go.Proofs.Ytplbampjponnpaa.Ya

