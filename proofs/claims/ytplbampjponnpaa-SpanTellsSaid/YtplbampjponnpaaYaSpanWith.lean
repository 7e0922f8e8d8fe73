/-
  Spans: with, over what any producer yields.
-/
import Derived.Test.YtplbampjponnpaaYaSpanGather
namespace Go.Proofs.Ytplbampjponnpaa.Ya
open Go.Ya Go.Ya.Span
set_option linter.unusedVariables false
set_option linter.unusedSimpArgs false
set_option maxRecDepth 100000
set_option maxHeartbeats 16000000

def wStep (s : Sp) (st : List Sp × Bool) (x : Sp) : List Sp × Bool := if (!st.2 && decide (x.1 ≥ s.2)) = true then (st.1 ++ [s, x], true) else (st.1 ++ [x], st.2)
def wPre (s : Sp) (l : List Sp) : List Sp × Bool := l.foldl (wStep s) ([], emptyP s)
theorem w_snoc (s : Sp) (l : List Sp) (x : Sp) : wPre s (l ++ [x]) = wStep s (wPre s l) x := by simp [wPre]
theorem w_fold (s : Sp) : ∀ (l out : List Sp) (d : Bool), out ++ withG s d l = (l.foldl (wStep s) (out, d)).1 ++ (if (l.foldl (wStep s) (out, d)).2 = true then [] else [s])
  | [], out, d => by cases d <;> simp [withG]
  | x :: l, out, d => by
    rw [List.foldl_cons, withG, wStep]
    split
    · rw [← w_fold s l (out ++ [s, x]) true]; simp
    · rw [← w_fold s l (out ++ [x]) d]; simp
theorem with_eq (s : Sp) (l : List Sp) : withP l s = (wPre s l).1 ++ (if (wPre s l).2 = true then [] else [s]) := by
  have := w_fold s l [] (emptyP s)
  rwa [List.nil_append] at this
theorem wStep_pre (s : Sp) (st : List Sp × Bool) (x : Sp) : st.1 <+: (wStep s st x).1 := by unfold wStep; split <;> simp
theorem fold_pre (s : Sp) : ∀ (l : List Sp) (st : List Sp × Bool), st.1 <+: (l.foldl (wStep s) st).1
  | [], st => List.prefix_refl _
  | x :: l, st => (wStep_pre s st x).trans (fold_pre s l (wStep s st x))
theorem wPre_pre (s : Sp) (l m : List Sp) : (wPre s l).1 <+: (wPre s (l ++ m)).1 := by
  rw [wPre, wPre, List.foldl_append]; exact fold_pre s m _
theorem wPre_with (s : Sp) (l m : List Sp) : (wPre s l).1 <+: withP (l ++ m) s := by
  rw [with_eq]
  exact (wPre_pre s l m).trans (List.prefix_append _ _)

/-- The taker that with's loop is: what it has handed on, its own boxes. -/
def WD (C : List (List AV) → Heap → (Nat → Prop) → Prop) (L ps p3 p4 : Nat) (s : Sp) (dn : List (List AV)) (h : Heap) (B : Nat → Prop) : Prop :=
  ∃ (l : List Sp) (B0 : Nat → Prop), dn = l.map yA ∧ C ((wPre s l).1.map yA) h B0 ∧ h.get p3 = some (.cells [.yieldf L] false) ∧ h.get p4 = some (.cells [.bool (wPre s l).2] false) ∧ h.get ps = some (.cells [.int .u32 s.1, .int .u32 s.2] false) ∧
    ¬ B0 p3 ∧ ¬ B0 p4 ∧ ¬ B0 ps ∧ (∀ j, B j ↔ j = p4 ∨ j = p3 ∨ j = ps ∨ B0 j)
section
variable {XS : List (List AV)} {C : List (List AV) → Heap → (Nat → Prop) → Prop} {L ps p3 p4 : Nat} {s : Sp} {dn : List (List AV)} {h h' : Heap} {B : Nat → Prop}
theorem WD.keep (cs : Cons2 X1 tab L XS C) (d : WD C L ps p3 p4 s dn h B) (hn : h.next ≤ h'.next) (hb : ∀ j, B j → h'.get j = h.get j) : WD C L ps p3 p4 s dn h' B := by
  obtain ⟨l, B0, e1, e2, e3, e4, e5, e6, e7, e8, e9⟩ := d
  exact ⟨l, B0, e1, cs.keep e2 hn fun j hj => hb j ((e9 j).2 (.inr (.inr (.inr hj)))), (hb _ ((e9 _).2 (.inr (.inl rfl)))).trans e3, (hb _ ((e9 _).2 (.inl rfl))).trans e4, (hb _ ((e9 _).2 (.inr (.inr (.inl rfl))))).trans e5, e6, e7, e8, e9⟩
theorem WD.low (cs : Cons2 X1 tab L XS C) (d : WD C L ps p3 p4 s dn h B) : ∀ j, B j → j < h.next := by
  obtain ⟨l, B0, e1, e2, e3, e4, e5, e6, e7, e8, e9⟩ := d
  intro j hj
  rcases (e9 j).1 hj with rfl | rfl | rfl | hj
  · exact Heap.lt_of_get e4
  · exact Heap.lt_of_get e3
  · exact Heap.lt_of_get e5
  · exact cs.low e2 j hj
end
def L32_0a : SC := (.ops [⟨some 5, .box (.c (.agg [.int (.u32) 0, .int (.u32) 0])), none⟩, ⟨none, .store 2 (.t 5) (.t 9), none⟩])
def L32_0 : SC := (.block 1 (.seq (.seq (.ops [⟨some 10, .load false 1 (.t 4), none⟩, ⟨some 11, .un (.not) (.t 10), none⟩, ⟨some 12, .mov (.t 11), none⟩, ⟨some 13, .fieldAddr 0 (.t 5), some (12, true)⟩, ⟨some 14, .load false 1 (.t 13), some (12, true)⟩, ⟨some 15, .fieldAddr 1 (.t 1), some (12, true)⟩, ⟨some 16, .load false 1 (.t 15), some (12, true)⟩, ⟨some 17, .bin (.geq) (.other) (.t 14) (.t 16), some (12, true)⟩, ⟨some 18, .pick (.t 12) (.t 17) (.c (.bool false)), none⟩]) (.cond (.t 18) (.seq (.ops [⟨none, .store 1 (.t 4) (.c (.bool true)), none⟩]) (.seq (.ops [⟨some 19, .load false 1 (.t 3), none⟩, ⟨some 20, .load true 2 (.t 1), none⟩, ⟨some 21, .callV (.t 19) [.t 20], none⟩, ⟨some 22, .un (.not) (.t 21), none⟩]) (.cond (.t 22) (.ret) (.skip)))) (.skip))) (.seq (.ops [⟨some 23, .load false 1 (.t 3), none⟩, ⟨some 24, .load true 2 (.t 5), none⟩, ⟨some 25, .callV (.t 23) [.t 24], none⟩, ⟨some 26, .un (.not) (.t 25), none⟩]) (.cond (.t 26) (.ret) (.skip)))))
def b32 : SC := .seq (.ops [⟨some 3, .box (.t 0), none⟩]) (.seq (.ops [⟨some 6, .load true 2 (.t 1), none⟩, ⟨some 7, .call 30 [.t 6], none⟩, ⟨some 4, .box (.c (.bool false)), none⟩, ⟨none, .store 1 (.t 4) (.t 7), none⟩]) (.seq (.seq (.ops [⟨some 8, .load false 1 (.t 2), none⟩]) (.block 0 (.rangeFunc (.t 8) [9] L32_0a L32_0))) (.seq (.ops [⟨some 27, .load false 1 (.t 4), none⟩, ⟨some 28, .un (.not) (.t 27), none⟩]) (.cond (.t 28) (.ops [⟨some 29, .load false 1 (.t 3), none⟩, ⟨some 30, .load true 2 (.t 1), none⟩, ⟨some 31, .callV (.t 29) [.t 30], none⟩]) (.skip)))))
theorem t32 : tab 32 = some ⟨32, [], b32⟩ := rfl

theorem wbody {XS : List (List AV)} {C : List (List AV) → Heap → (Nat → Prop) → Prop} {L ps p3 p4 p lp : Nat} {s x : Sp} {dn : List (List AV)} {h : Heap} {B : Nat → Prop} {tm1 : List AV} (cs : Cons2 X1 tab L XS C) (d : WD C L ps p3 p4 s dn h B) (h34 : p3 ≠ p4) (h45 : ps ≠ p4) (h35 : ps ≠ p3)
    (hpre : ∀ l, dn = l.map yA → (wPre s (l ++ [x])).1.map yA <+: XS) (hp : h.get p = some (.cells [.int .u32 x.1, .int .u32 x.2] false)) (hB : ¬ B p)
    (ht1 : tm1.length = 32 ∧ tm1[1]? = some (.ptr ps 0) ∧ tm1[3]? = some (.ptr p3 0) ∧ tm1[4]? = some (.ptr p4 0) ∧ tm1[5]? = some (.ptr p 0)) : ∃ tm2 h2 B2, xcode X1 tab 32 (some lp) L32_0 tm1 h = some (.normal, tm2, h2) ∧ WD C L ps p3 p4 s (dn ++ [yA x]) h2 B2 ∧ Stp h h2 B B2 := by
  obtain ⟨l, B0, e1, e2, e3, e4, e5, e6, e7, e8, e9⟩ := d
  have n3 := Heap.lt_of_get e3
  have n4 := Heap.lt_of_get e4
  have n5 := Heap.lt_of_get e5
  have np := Heap.lt_of_get hp
  have q3 : p ≠ p3 := fun e => hB ((e9 p).2 (.inr (.inl e)))
  have q4 : p ≠ p4 := fun e => hB ((e9 p).2 (.inl e))
  have q0 : ¬ B0 p := fun e => hB ((e9 p).2 (.inr (.inr (.inr e))))
  have hpr := hpre l e1
  rw [w_snoc, wStep] at hpr
  have back : ∀ {j : Nat} {H : Heap} {B' : Nat → Prop}, Stp h H B0 B' → j < h.next → ¬ B0 j → ¬ B' j := fun st hj hn hb => (st.2.2 _ hb).elim hn fun e => by omega
  match tm1, ht1 with
  | a0 :: a1 :: a2 :: a3 :: a4 :: a5 :: a6 :: a7 :: a8 :: a9 :: a10 :: a11 :: a12 :: a13 :: a14 :: a15 :: a16 :: a17 :: a18 :: a19 :: a20 :: a21 :: a22 :: a23 :: a24 :: a25 :: a26 :: a27 :: a28 :: a29 :: a30 :: a31 :: [], ht1 =>
  obtain ⟨_, t1, t3, t4, t5⟩ := ht1
  simp only [List.getElem?_cons_zero, List.getElem?_cons_succ, Option.some.injEq] at t1 t3 t4 t5
  replace t1 := t1.symm; replace t3 := t3.symm; replace t4 := t4.symm; replace t5 := t5.symm
  subst t1 t3 t4 t5
  by_cases hc : (!(wPre s l).2 && decide (x.1 ≥ s.2)) = true
  · rw [if_pos hc] at hpr
    rw [Bool.and_eq_true, decide_eq_true_eq, Bool.not_eq_true'] at hc
    obtain ⟨hc1, hc2⟩ := hc
    rw [hc1] at e4
    -- s, then x
    have k1 : (((wPre s l).1.map yA) ++ [yA s]) <+: XS := List.IsPrefix.trans (by simp) hpr
    obtain ⟨H1, B1, r1, c1, st1⟩ := cs.step (cs.keep e2 (h' := h.set p4 (.cells [.bool true] false)) (by simp) fun j hj => by rw [gs_old (fun e => e7 (by rw [← e]; exact hj))]) k1
    have k2 : (((wPre s l).1.map yA ++ [yA s]) ++ [yA x]) <+: XS := List.IsPrefix.trans (by simp) hpr
    obtain ⟨H2, B2, r2, c2, st2⟩ := cs.step c1 k2
    have g1 : ∀ j, j < h.next → ¬ B0 j → H1.get j = (h.set p4 (.cells [.bool true] false)).get j := fun j hj hn => st1.2.1 j (by simpa using hj) hn
    have nb1 : ∀ j, j < h.next → ¬ B0 j → ¬ B1 j := fun j hj hn hb => (st1.2.2 j hb).elim hn fun e => by simp at e; omega
    have nx1 := st1.1
    simp only [Heap.next_set] at nx1
    have g2 : ∀ j, j < h.next → ¬ B0 j → H2.get j = (h.set p4 (.cells [.bool true] false)).get j := fun j hj hn => (st2.2.1 j (by omega) (nb1 j hj hn)).trans (g1 j hj hn)
    have nb2 : ∀ j, j < h.next → ¬ B0 j → ¬ B2 j := fun j hj hn hb => (st2.2.2 j hb).elim (nb1 j hj hn) fun e => by omega
    have nx2 := st2.1
    have a3 : H1.get p3 = some (.cells [.yieldf L] false) := by rw [g1 _ n3 e6, gs_old h34]; exact e3
    have ap : H1.get p = some (.cells [.int .u32 x.1, .int .u32 x.2] false) := by rw [g1 _ np q0, gs_old q4]; exact hp
    delta yA at r1 r2
    refine ⟨?_, H2, fun j => j = p4 ∨ j = p3 ∨ j = ps ∨ B2 j, ?_, ⟨l ++ [x], B2, by rw [e1, List.map_append]; rfl, ?_, ?_, ?_, ?_, nb2 _ n3 e6, nb2 _ n4 e7, nb2 _ n5 e8, fun j => Iff.rfl⟩, by omega, fun j hj hn => ?_, fun j hj => ?_⟩
    rotate_left
    · delta L32_0
      simp (disch := first | omega | (simp only [nx_alloc, nx_set] <;> omega) | (apply Rd.grow; assumption; repeat (first | exact Grow.refl _ | assumption | exact Grow.alloc _ _ | refine Grow.allocR ?_ _ | refine Grow.setR ?_ _ ?_ ?_ | omega | (simp only [nx_alloc, nx_set] <;> omega) | (apply Grow.trans; rotate_left; assumption) | fail)) | fail) only [note_false, Int.reduceBEq, Int.reduceBNe, x_drawn, l_nil, l_op, l_guard, l_some, l_true, l_false, l_draw, readsA, x_true, x_false, x_seq, x_ops, x_cond, x_skip, x_ret, x_exit, x_block, x_then, x_thenE, x_thenR, x_blockN, x_blockR, x_blockE, s_nil, s_op, s_guard, s_some, s_true, s_false, s_put, s_put0, s_opsR, s_ret, s_norm, aop, ev, evs, List.map_cons, List.map_nil, List.cons_append, List.nil_append, List.append_nil, List.replicate, List.take_succ_cons, List.take_zero, List.take_nil, List.drop_succ_cons, List.drop_zero, List.drop_nil, Nat.zero_add, Nat.add_zero, Nat.reduceAdd, Nat.reduceMul, Nat.reduceLeDiff, Bool.false_eq_true, and_self, List.length_cons, List.length_nil, List.set_cons_zero, List.set_cons_succ, List.getD_cons_zero, List.getD_cons_succ, wantedA, List.getElem?_cons_zero, List.getElem?_cons_succ, q_t, q_f, Bool.not_true, Bool.not_false, b_add, b_sub, b_mul, b_eql, b_neq, b_lss, b_leq, b_gtr, b_geq, b_and, b_or, b_xor, b_quo, b_rem, b_shl, b_shr, unA, Option.map_some, Option.map_none, resA, tupA, Int.reduceLT, not_false_eq_true, not_true_eq_false, decide_true, decide_false, f_bool, c_bool, f_int, c_int, f_str, c_str, f_nilptr, c_nilptr, f_ptr, c_ptr, f_nilsl, c_nilsl, f_slice, c_slice, f_nilmap, c_nilmap, f_map, c_map, f_nilf, c_nilf, f_func, c_func, f_yieldf, c_yieldf, f_nilif, c_nilif, f_iface, c_iface, c_agg, List.all_cons, List.all_nil, Bool.and_true, Bool.true_and, if_true, if_false, ite_true, ite_false, ga_new, ga_old, gs_new, gs_old, Heap.next_alloc, Heap.next_set, loadA, storeA, splice, fillA, d_t, d_f, i_t, i_f, beq_t, beq_f, bne_t, bne_f, w_i64, w_u64, w_u32, w_i32, w_u8, Int.toNat_natCast, n_sub1, n_add1, Nat.sub_zero, Nat.mul_one, Nat.one_mul, Nat.zero_mul, List.append_assoc, Option.bind_some, chkLog, same_cells, List.replicate_zero, List.flatten_nil, true_and, and_true, kindsOk, k_0, k_1, k_2, plainEq, Bool.bne_true, Bool.bne_false, beq_self_eq_true, bne_self_eq_false, Int.tdiv_eq_ediv_of_nonneg, Int.tmod_eq_emod_of_nonneg, List.length_nil, e3, e4, e5, hp, r1, r2, a3, ap]
      rfl
    · rw [w_snoc, wStep, if_pos (by simp [hc1, hc2])]
      simpa using c2
    · rw [g2 _ n3 e6, gs_old h34]; exact e3
    · rw [g2 _ n4 e7, gs_new rfl n4, w_snoc, wStep, if_pos (by simp [hc1, hc2])]
    · rw [g2 _ n5 e8, gs_old h45]; exact e5
    · have z4 : j ≠ p4 := fun e => hn ((e9 j).2 (.inl e))
      rw [g2 j hj (fun e => hn ((e9 j).2 (.inr (.inr (.inr e))))), gs_old z4]
    · rcases hj with e | e | e | e
      · exact .inl ((e9 j).2 (.inl e))
      · exact .inl ((e9 j).2 (.inr (.inl e)))
      · exact .inl ((e9 j).2 (.inr (.inr (.inl e))))
      · rcases st2.2.2 j e with e | e
        · rcases st1.2.2 j e with e | e
          · exact .inl ((e9 j).2 (.inr (.inr (.inr e))))
          · exact .inr (by simpa using e)
        · exact .inr (by omega)
  · rw [if_neg hc] at hpr
    have k2 : ((wPre s l).1.map yA ++ [yA x]) <+: XS := List.IsPrefix.trans (by simp) hpr
    obtain ⟨H2, B2, r2, c2, st2⟩ := cs.step e2 k2
    have g2 : ∀ j, j < h.next → ¬ B0 j → H2.get j = h.get j := fun j hj hn => st2.2.1 j hj hn
    have nb2 : ∀ j, j < h.next → ¬ B0 j → ¬ B2 j := fun j hj hn hb => (st2.2.2 j hb).elim hn fun e => by omega
    delta yA at r2
    have hrun : ∃ tm2, xcode X1 tab 32 (some lp) L32_0 (a0 :: .ptr ps 0 :: a2 :: .ptr p3 0 :: .ptr p4 0 :: .ptr p 0 :: a6 :: a7 :: a8 :: a9 :: a10 :: a11 :: a12 :: a13 :: a14 :: a15 :: a16 :: a17 :: a18 :: a19 :: a20 :: a21 :: a22 :: a23 :: a24 :: a25 :: a26 :: a27 :: a28 :: a29 :: a30 :: a31 :: []) h = some (.normal, tm2, H2) := by
      cases hf : (wPre s l).2
      · rw [hf] at e4 hc
        have hx : ¬ x.1 ≥ s.2 := fun e => hc (by simp [e])
        refine ⟨?_, ?_⟩
        rotate_left
        · delta L32_0
          simp (disch := first | omega | (simp only [nx_alloc, nx_set] <;> omega) | (apply Rd.grow; assumption; repeat (first | exact Grow.refl _ | assumption | exact Grow.alloc _ _ | refine Grow.allocR ?_ _ | refine Grow.setR ?_ _ ?_ ?_ | omega | (simp only [nx_alloc, nx_set] <;> omega) | (apply Grow.trans; rotate_left; assumption) | fail)) | fail) only [note_false, Int.reduceBEq, Int.reduceBNe, x_drawn, l_nil, l_op, l_guard, l_some, l_true, l_false, l_draw, readsA, x_true, x_false, x_seq, x_ops, x_cond, x_skip, x_ret, x_exit, x_block, x_then, x_thenE, x_thenR, x_blockN, x_blockR, x_blockE, s_nil, s_op, s_guard, s_some, s_true, s_false, s_put, s_put0, s_opsR, s_ret, s_norm, aop, ev, evs, List.map_cons, List.map_nil, List.cons_append, List.nil_append, List.append_nil, List.replicate, List.take_succ_cons, List.take_zero, List.take_nil, List.drop_succ_cons, List.drop_zero, List.drop_nil, Nat.zero_add, Nat.add_zero, Nat.reduceAdd, Nat.reduceMul, Nat.reduceLeDiff, Bool.false_eq_true, and_self, List.length_cons, List.length_nil, List.set_cons_zero, List.set_cons_succ, List.getD_cons_zero, List.getD_cons_succ, wantedA, List.getElem?_cons_zero, List.getElem?_cons_succ, q_t, q_f, Bool.not_true, Bool.not_false, b_add, b_sub, b_mul, b_eql, b_neq, b_lss, b_leq, b_gtr, b_geq, b_and, b_or, b_xor, b_quo, b_rem, b_shl, b_shr, unA, Option.map_some, Option.map_none, resA, tupA, Int.reduceLT, not_false_eq_true, not_true_eq_false, decide_true, decide_false, f_bool, c_bool, f_int, c_int, f_str, c_str, f_nilptr, c_nilptr, f_ptr, c_ptr, f_nilsl, c_nilsl, f_slice, c_slice, f_nilmap, c_nilmap, f_map, c_map, f_nilf, c_nilf, f_func, c_func, f_yieldf, c_yieldf, f_nilif, c_nilif, f_iface, c_iface, c_agg, List.all_cons, List.all_nil, Bool.and_true, Bool.true_and, if_true, if_false, ite_true, ite_false, ga_new, ga_old, gs_new, gs_old, Heap.next_alloc, Heap.next_set, loadA, storeA, splice, fillA, d_t, d_f, i_t, i_f, beq_t, beq_f, bne_t, bne_f, w_i64, w_u64, w_u32, w_i32, w_u8, Int.toNat_natCast, n_sub1, n_add1, Nat.sub_zero, Nat.mul_one, Nat.one_mul, Nat.zero_mul, List.append_assoc, Option.bind_some, chkLog, same_cells, List.replicate_zero, List.flatten_nil, true_and, and_true, kindsOk, k_0, k_1, k_2, plainEq, Bool.bne_true, Bool.bne_false, beq_self_eq_true, bne_self_eq_false, Int.tdiv_eq_ediv_of_nonneg, Int.tmod_eq_emod_of_nonneg, List.length_nil, e3, e4, e5, hp, r2]
          rfl
      · rw [hf] at e4
        refine ⟨?_, ?_⟩
        rotate_left
        · delta L32_0
          simp (disch := first | omega | (simp only [nx_alloc, nx_set] <;> omega) | (apply Rd.grow; assumption; repeat (first | exact Grow.refl _ | assumption | exact Grow.alloc _ _ | refine Grow.allocR ?_ _ | refine Grow.setR ?_ _ ?_ ?_ | omega | (simp only [nx_alloc, nx_set] <;> omega) | (apply Grow.trans; rotate_left; assumption) | fail)) | fail) only [note_false, Int.reduceBEq, Int.reduceBNe, x_drawn, l_nil, l_op, l_guard, l_some, l_true, l_false, l_draw, readsA, x_true, x_false, x_seq, x_ops, x_cond, x_skip, x_ret, x_exit, x_block, x_then, x_thenE, x_thenR, x_blockN, x_blockR, x_blockE, s_nil, s_op, s_guard, s_some, s_true, s_false, s_put, s_put0, s_opsR, s_ret, s_norm, aop, ev, evs, List.map_cons, List.map_nil, List.cons_append, List.nil_append, List.append_nil, List.replicate, List.take_succ_cons, List.take_zero, List.take_nil, List.drop_succ_cons, List.drop_zero, List.drop_nil, Nat.zero_add, Nat.add_zero, Nat.reduceAdd, Nat.reduceMul, Nat.reduceLeDiff, Bool.false_eq_true, and_self, List.length_cons, List.length_nil, List.set_cons_zero, List.set_cons_succ, List.getD_cons_zero, List.getD_cons_succ, wantedA, List.getElem?_cons_zero, List.getElem?_cons_succ, q_t, q_f, Bool.not_true, Bool.not_false, b_add, b_sub, b_mul, b_eql, b_neq, b_lss, b_leq, b_gtr, b_geq, b_and, b_or, b_xor, b_quo, b_rem, b_shl, b_shr, unA, Option.map_some, Option.map_none, resA, tupA, Int.reduceLT, not_false_eq_true, not_true_eq_false, decide_true, decide_false, f_bool, c_bool, f_int, c_int, f_str, c_str, f_nilptr, c_nilptr, f_ptr, c_ptr, f_nilsl, c_nilsl, f_slice, c_slice, f_nilmap, c_nilmap, f_map, c_map, f_nilf, c_nilf, f_func, c_func, f_yieldf, c_yieldf, f_nilif, c_nilif, f_iface, c_iface, c_agg, List.all_cons, List.all_nil, Bool.and_true, Bool.true_and, if_true, if_false, ite_true, ite_false, ga_new, ga_old, gs_new, gs_old, Heap.next_alloc, Heap.next_set, loadA, storeA, splice, fillA, d_t, d_f, i_t, i_f, beq_t, beq_f, bne_t, bne_f, w_i64, w_u64, w_u32, w_i32, w_u8, Int.toNat_natCast, n_sub1, n_add1, Nat.sub_zero, Nat.mul_one, Nat.one_mul, Nat.zero_mul, List.append_assoc, Option.bind_some, chkLog, same_cells, List.replicate_zero, List.flatten_nil, true_and, and_true, kindsOk, k_0, k_1, k_2, plainEq, Bool.bne_true, Bool.bne_false, beq_self_eq_true, bne_self_eq_false, Int.tdiv_eq_ediv_of_nonneg, Int.tmod_eq_emod_of_nonneg, List.length_nil, e3, e4, e5, hp, r2]
          rfl
    obtain ⟨tm2, hrun⟩ := hrun
    refine ⟨tm2, H2, fun j => j = p4 ∨ j = p3 ∨ j = ps ∨ B2 j, hrun, ⟨l ++ [x], B2, by rw [e1, List.map_append]; rfl, ?_, ?_, ?_, ?_, nb2 _ n3 e6, nb2 _ n4 e7, nb2 _ n5 e8, fun j => Iff.rfl⟩, st2.1, fun j hj hn => ?_, fun j hj => ?_⟩
    · rw [w_snoc, wStep, if_neg hc]
      simpa using c2
    · rw [g2 _ n3 e6]; exact e3
    · rw [g2 _ n4 e7, w_snoc, wStep, if_neg hc]; exact e4
    · rw [g2 _ n5 e8]; exact e5
    · exact g2 j hj (fun e => hn ((e9 j).2 (.inr (.inr (.inr e)))))
    · rcases hj with e | e | e | e
      · exact .inl ((e9 j).2 (.inl e))
      · exact .inl ((e9 j).2 (.inr (.inl e)))
      · exact .inl ((e9 j).2 (.inr (.inr (.inl e))))
      · exact (st2.2.2 j e).imp (fun e => (e9 j).2 (.inr (.inr (.inr e)))) fun e => e

theorem wBody {g : FuncId} {first cap : List AV} {C : List (List AV) → Heap → (Nat → Prop) → Prop} {L ps pf p3 p4 : Nat} {s : Sp} {zs : List Sp} (cs : Cons2 X1 tab L ((withP zs s).map yA) C) (h34 : p3 ≠ p4) (h45 : ps ≠ p4) (h35 : ps ≠ p3) :
    Body2 X1 tab 32 [.yieldf L, .ptr ps 0, .ptr pf 0, .ptr p3 0, .ptr p4 0, undefA, .agg [.int .u32 s.1, .int .u32 s.2], .bool (emptyP s), .func g first cap, undefA, undefA, undefA, undefA, undefA, undefA, undefA, undefA, undefA, undefA, undefA, undefA, undefA, undefA, undefA, undefA, undefA, undefA, undefA, undefA, undefA, undefA, undefA] [9] L32_0a L32_0 (zs.map yA) (WD C L ps p3 p4 s) where
  keep := WD.keep cs
  low := WD.low cs
  run := by
    intro l dn x0 h1 B pe d hl hok hl1
    obtain ⟨r, hr⟩ := hok
    obtain ⟨l0, hd⟩ : ∃ l0 : List Sp, dn = l0.map yA := by obtain ⟨l0, _, e, _⟩ := d; exact ⟨l0, e⟩
    obtain ⟨x, rfl⟩ : ∃ x : Sp, x0 = yA x := by
      have hm : x0 ∈ zs.map yA := by rw [← hr]; simp
      obtain ⟨x, _, e⟩ := List.mem_map.1 hm
      exact ⟨x, e.symm⟩
    have hz : ∃ m, zs = (l0 ++ [x]) ++ m := by
      obtain ⟨l1, l2, e1, e2, e3⟩ := List.map_eq_append_iff.1 hr.symm
      have : l1 = l0 ++ [x] := yA_inj (by rw [e2, hd, List.map_append]; rfl)
      exact ⟨l2, by rw [e1, this]⟩
    obtain ⟨m, hz⟩ := hz
    have hll := Heap.lt_of_get hl1
    have g1 : Grow h1 ((h1.alloc (.cells [.int .u32 0, .int .u32 0] false)).set h1.next (.cells [.int .u32 x.1, .int .u32 x.2] false)) := by repeat (first | exact Grow.refl _ | assumption | exact Grow.alloc _ _ | refine Grow.allocR ?_ _ | refine Grow.setR ?_ _ ?_ ?_ | omega | (simp only [nx_alloc, nx_set] <;> omega) | (apply Grow.trans; rotate_left; assumption) | fail)
    have d2 : WD C L ps p3 p4 s dn (((h1.alloc (.cells [.int .u32 0, .int .u32 0] false)).set h1.next (.cells [.int .u32 x.1, .int .u32 x.2] false)).set l (.loop 32 [.yieldf L, .ptr ps 0, .ptr pf 0, .ptr p3 0, .ptr p4 0, undefA, .agg [.int .u32 s.1, .int .u32 s.2], .bool (emptyP s), .func g first cap, undefA, undefA, undefA, undefA, undefA, undefA, undefA, undefA, undefA, undefA, undefA, undefA, undefA, undefA, undefA, undefA, undefA, undefA, undefA, undefA, undefA, undefA, undefA] [9] L32_0a L32_0 .busy pe)) B :=
      d.keep cs (by simp) fun j hj => by
        have := d.low cs j hj
        rw [gs_old (fun e => hl (by rw [← e]; exact hj)), g1.2 j this]
    have hnB : ¬ B h1.next := fun e => by have := d.low cs _ e; omega
    obtain ⟨tm2, h2, B2, e2, d3, st⟩ := wbody (lp := l) (p := h1.next) (tm1 := [.yieldf L, .ptr ps 0, .ptr pf 0, .ptr p3 0, .ptr p4 0, .ptr h1.next 0, .agg [.int .u32 s.1, .int .u32 s.2], .bool (emptyP s), .func g first cap, .agg [.int .u32 x.1, .int .u32 x.2], undefA, undefA, undefA, undefA, undefA, undefA, undefA, undefA, undefA, undefA, undefA, undefA, undefA, undefA, undefA, undefA, undefA, undefA, undefA, undefA, undefA, undefA]) cs d2 h34 h45 h35 (fun l hl => by
        have : l = l0 := yA_inj (hl ▸ hd)
        subst this
        rw [hz]
        exact List.IsPrefix.map _ (wPre_with s (l ++ [x]) m)) (by rw [gs_old (by omega), gs_new rfl (by simp)]) hnB ⟨rfl, rfl, rfl, rfl, rfl⟩
    refine ⟨_, _, _, tm2, h2, B2, rfl, ?_, g1, e2, d3, st⟩
    delta L32_0a yA
    simp (disch := first | omega | (simp only [nx_alloc, nx_set] <;> omega) | (apply Rd.grow; assumption; repeat (first | exact Grow.refl _ | assumption | exact Grow.alloc _ _ | refine Grow.allocR ?_ _ | refine Grow.setR ?_ _ ?_ ?_ | omega | (simp only [nx_alloc, nx_set] <;> omega) | (apply Grow.trans; rotate_left; assumption) | fail)) | fail) only [note_false, Int.reduceBEq, Int.reduceBNe, x_drawn, l_nil, l_op, l_guard, l_some, l_true, l_false, l_draw, readsA, x_true, x_false, x_seq, x_ops, x_cond, x_skip, x_ret, x_exit, x_block, x_then, x_thenE, x_thenR, x_blockN, x_blockR, x_blockE, s_nil, s_op, s_guard, s_some, s_true, s_false, s_put, s_put0, s_opsR, s_ret, s_norm, aop, ev, evs, List.map_cons, List.map_nil, List.cons_append, List.nil_append, List.append_nil, List.replicate, List.take_succ_cons, List.take_zero, List.take_nil, List.drop_succ_cons, List.drop_zero, List.drop_nil, Nat.zero_add, Nat.add_zero, Nat.reduceAdd, Nat.reduceMul, Nat.reduceLeDiff, Bool.false_eq_true, and_self, List.length_cons, List.length_nil, List.set_cons_zero, List.set_cons_succ, List.getD_cons_zero, List.getD_cons_succ, wantedA, List.getElem?_cons_zero, List.getElem?_cons_succ, q_t, q_f, Bool.not_true, Bool.not_false, b_add, b_sub, b_mul, b_eql, b_neq, b_lss, b_leq, b_gtr, b_geq, b_and, b_or, b_xor, b_quo, b_rem, b_shl, b_shr, unA, Option.map_some, Option.map_none, resA, tupA, Int.reduceLT, not_false_eq_true, not_true_eq_false, decide_true, decide_false, f_bool, c_bool, f_int, c_int, f_str, c_str, f_nilptr, c_nilptr, f_ptr, c_ptr, f_nilsl, c_nilsl, f_slice, c_slice, f_nilmap, c_nilmap, f_map, c_map, f_nilf, c_nilf, f_func, c_func, f_yieldf, c_yieldf, f_nilif, c_nilif, f_iface, c_iface, c_agg, List.all_cons, List.all_nil, Bool.and_true, Bool.true_and, if_true, if_false, ite_true, ite_false, ga_new, ga_old, gs_new, gs_old, Heap.next_alloc, Heap.next_set, loadA, storeA, splice, fillA, d_t, d_f, i_t, i_f, beq_t, beq_f, bne_t, bne_f, w_i64, w_u64, w_u32, w_i32, w_u8, Int.toNat_natCast, n_sub1, n_add1, Nat.sub_zero, Nat.mul_one, Nat.one_mul, Nat.zero_mul, List.append_assoc, Option.bind_some, chkLog, same_cells, List.replicate_zero, List.flatten_nil, true_and, and_true, kindsOk, k_0, k_1, k_2, plainEq, Bool.bne_true, Bool.bne_false, beq_self_eq_true, bne_self_eq_false, Int.tdiv_eq_ediv_of_nonneg, Int.tmod_eq_emod_of_nonneg, List.length_nil]
    try rfl

theorem prod32 {g : FuncId} {first cap : List AV} {P : Heap → (Nat → Prop) → Prop} {zs : List Sp} {s : Sp} {ps pf : Nat} (p : Prod2 X1 tab g first cap P (zs.map yA)) (hP : ∀ {h h' : Heap} {B B' : Nat → Prop}, P h B → Stp h h' B B' → P h' B') :
    Prod2 X1 tab 32 [] [.ptr ps 0, .ptr pf 0] (fun h B => h.get ps = some (.cells [.int .u32 s.1, .int .u32 s.2] false) ∧ h.get pf = some (.cells [.func g first cap] false) ∧ ¬ B ps ∧ ¬ B pf ∧ P h (fun j => j = ps ∨ B j)) ((withP zs s).map yA) := by
  intro L C h B cs hC hPP
  obtain ⟨p1, p2, p3, p4, p5⟩ := hPP
  have l1 := Heap.lt_of_get p1
  have l2 := Heap.lt_of_get p2
  have lB := cs.low hC
  have hG : Grow h ((((h.alloc (.cells [.yieldf L] false)).alloc (.cells [.int .u32 s.1, .int .u32 s.2] false)).alloc (.cells [.bool false] false)).set (h.next + 1 + 1) (.cells [.bool (emptyP s)] false)) := by repeat (first | exact Grow.refl _ | assumption | exact Grow.alloc _ _ | refine Grow.allocR ?_ _ | refine Grow.setR ?_ _ ?_ ?_ | omega | (simp only [nx_alloc, nx_set] <;> omega) | (apply Grow.trans; rotate_left; assumption) | fail)
  have d0 : WD C L ps h.next (h.next + 1 + 1) s [] ((((h.alloc (.cells [.yieldf L] false)).alloc (.cells [.int .u32 s.1, .int .u32 s.2] false)).alloc (.cells [.bool false] false)).set (h.next + 1 + 1) (.cells [.bool (emptyP s)] false)) (fun j => j = (h.next + 1 + 1) ∨ j = h.next ∨ j = ps ∨ B j) :=
    ⟨[], B, rfl, cs.keep hC hG.1 fun j hj => hG.2 j (lB j hj), by rw [gs_old (by omega), ga_old (by simp; omega), ga_old (by simp), ga_new rfl], gs_new rfl (by simp), hG.get p1, fun e => by have := lB _ e; omega, fun e => by have := lB _ e; omega, p3, fun j => Iff.rfl⟩
  obtain ⟨h', B', e1, ⟨l, B0, q1, q2, q3, q4, q5, q6, q7, q8, q9⟩, st⟩ := x_for2 (self := 32) (rd := none) (f := .t 8) (tm := [.yieldf L, .ptr ps 0, .ptr pf 0, .ptr h.next 0, .ptr (h.next + 1 + 1) 0, undefA, .agg [.int .u32 s.1, .int .u32 s.2], .bool (emptyP s), .func g first cap, undefA, undefA, undefA, undefA, undefA, undefA, undefA, undefA, undefA, undefA, undefA, undefA, undefA, undefA, undefA, undefA, undefA, undefA, undefA, undefA, undefA, undefA, undefA]) (g := g) (first := first) (captured := cap) rfl rfl (wBody (g := g) (first := first) (cap := cap) (pf := pf) cs (by omega) (by omega) (by omega)) p d0
    (fun h' gr => hP p5 ⟨Nat.le_trans hG.1 gr.1, fun j hj _ => (hG.trans gr).2 j hj, fun j hj => by
      rcases hj with rfl | rfl | rfl | rfl | hj
      · exact .inr hG.1
      · exact .inr (by omega)
      · exact .inr (Nat.le_refl _)
      · exact .inl (.inl rfl)
      · exact .inl (.inr hj)⟩)
  have hl : l = zs := (yA_inj q1).symm
  subst hl
  have hG' : Stp h h' B B0 := by
    refine ⟨Nat.le_trans hG.1 st.1, fun j hj hn => ?_, fun j hj => ?_⟩
    · by_cases hjs : j = ps
      · subst hjs; exact q5.trans p1.symm
      · rw [st.2.1 j (Nat.lt_of_lt_of_le hj hG.1) (by rintro (e | e | e | e) <;> first | omega | exact hn e), hG.2 j hj]
    · rcases st.2.2 j ((q9 j).2 (.inr (.inr (.inr hj)))) with e | e
      · rcases e with rfl | rfl | rfl | e
        · exact .inr (by omega)
        · exact .inr (Nat.le_refl _)
        · exact absurd hj q8
        · exact .inl e
      · exact .inr (Nat.le_trans hG.1 e)
  rw [with_eq] at cs ⊢
  cases hf : (wPre s l).2
  · rw [hf] at q4 cs
    obtain ⟨h2, B2, r2, c2, st2⟩ := cs.step (x := yA s) q2 (by simp)
    delta yA at r2
    refine ⟨.tuple [], h2, B2, ?_, by simpa using c2, hG'.trans st2⟩
    rw [x_fn rfl t32]
    delta b32
    simp (disch := first | omega | (simp only [nx_alloc, nx_set] <;> omega) | (apply Rd.grow; assumption; repeat (first | exact Grow.refl _ | assumption | exact Grow.alloc _ _ | refine Grow.allocR ?_ _ | refine Grow.setR ?_ _ ?_ ?_ | omega | (simp only [nx_alloc, nx_set] <;> omega) | (apply Grow.trans; rotate_left; assumption) | fail)) | fail) only [note_false, Int.reduceBEq, Int.reduceBNe, x_drawn, l_nil, l_op, l_guard, l_some, l_true, l_false, l_draw, readsA, x_true, x_false, x_seq, x_ops, x_cond, x_skip, x_ret, x_exit, x_block, x_then, x_thenE, x_thenR, x_blockN, x_blockR, x_blockE, s_nil, s_op, s_guard, s_some, s_true, s_false, s_put, s_put0, s_opsR, s_ret, s_norm, aop, ev, evs, List.map_cons, List.map_nil, List.cons_append, List.nil_append, List.append_nil, List.replicate, List.take_succ_cons, List.take_zero, List.take_nil, List.drop_succ_cons, List.drop_zero, List.drop_nil, Nat.zero_add, Nat.add_zero, Nat.reduceAdd, Nat.reduceMul, Nat.reduceLeDiff, Bool.false_eq_true, and_self, List.length_cons, List.length_nil, List.set_cons_zero, List.set_cons_succ, List.getD_cons_zero, List.getD_cons_succ, wantedA, List.getElem?_cons_zero, List.getElem?_cons_succ, q_t, q_f, Bool.not_true, Bool.not_false, b_add, b_sub, b_mul, b_eql, b_neq, b_lss, b_leq, b_gtr, b_geq, b_and, b_or, b_xor, b_quo, b_rem, b_shl, b_shr, unA, Option.map_some, Option.map_none, resA, tupA, Int.reduceLT, not_false_eq_true, not_true_eq_false, decide_true, decide_false, f_bool, c_bool, f_int, c_int, f_str, c_str, f_nilptr, c_nilptr, f_ptr, c_ptr, f_nilsl, c_nilsl, f_slice, c_slice, f_nilmap, c_nilmap, f_map, c_map, f_nilf, c_nilf, f_func, c_func, f_yieldf, c_yieldf, f_nilif, c_nilif, f_iface, c_iface, c_agg, List.all_cons, List.all_nil, Bool.and_true, Bool.true_and, if_true, if_false, ite_true, ite_false, ga_new, ga_old, gs_new, gs_old, Heap.next_alloc, Heap.next_set, loadA, storeA, splice, fillA, d_t, d_f, i_t, i_f, beq_t, beq_f, bne_t, bne_f, w_i64, w_u64, w_u32, w_i32, w_u8, Int.toNat_natCast, n_sub1, n_add1, Nat.sub_zero, Nat.mul_one, Nat.one_mul, Nat.zero_mul, List.append_assoc, Option.bind_some, chkLog, same_cells, List.replicate_zero, List.flatten_nil, true_and, and_true, kindsOk, k_0, k_1, k_2, plainEq, Bool.bne_true, Bool.bne_false, beq_self_eq_true, bne_self_eq_false, Int.tdiv_eq_ediv_of_nonneg, Int.tmod_eq_emod_of_nonneg, List.length_nil, p1, p2, x30, e1, q3, q4, q5, r2]
    try rfl
  · rw [hf] at q4
    refine ⟨.tuple [], h', B0, ?_, by simpa using q2, hG'⟩
    rw [x_fn rfl t32]
    delta b32
    simp (disch := first | omega | (simp only [nx_alloc, nx_set] <;> omega) | (apply Rd.grow; assumption; repeat (first | exact Grow.refl _ | assumption | exact Grow.alloc _ _ | refine Grow.allocR ?_ _ | refine Grow.setR ?_ _ ?_ ?_ | omega | (simp only [nx_alloc, nx_set] <;> omega) | (apply Grow.trans; rotate_left; assumption) | fail)) | fail) only [note_false, Int.reduceBEq, Int.reduceBNe, x_drawn, l_nil, l_op, l_guard, l_some, l_true, l_false, l_draw, readsA, x_true, x_false, x_seq, x_ops, x_cond, x_skip, x_ret, x_exit, x_block, x_then, x_thenE, x_thenR, x_blockN, x_blockR, x_blockE, s_nil, s_op, s_guard, s_some, s_true, s_false, s_put, s_put0, s_opsR, s_ret, s_norm, aop, ev, evs, List.map_cons, List.map_nil, List.cons_append, List.nil_append, List.append_nil, List.replicate, List.take_succ_cons, List.take_zero, List.take_nil, List.drop_succ_cons, List.drop_zero, List.drop_nil, Nat.zero_add, Nat.add_zero, Nat.reduceAdd, Nat.reduceMul, Nat.reduceLeDiff, Bool.false_eq_true, and_self, List.length_cons, List.length_nil, List.set_cons_zero, List.set_cons_succ, List.getD_cons_zero, List.getD_cons_succ, wantedA, List.getElem?_cons_zero, List.getElem?_cons_succ, q_t, q_f, Bool.not_true, Bool.not_false, b_add, b_sub, b_mul, b_eql, b_neq, b_lss, b_leq, b_gtr, b_geq, b_and, b_or, b_xor, b_quo, b_rem, b_shl, b_shr, unA, Option.map_some, Option.map_none, resA, tupA, Int.reduceLT, not_false_eq_true, not_true_eq_false, decide_true, decide_false, f_bool, c_bool, f_int, c_int, f_str, c_str, f_nilptr, c_nilptr, f_ptr, c_ptr, f_nilsl, c_nilsl, f_slice, c_slice, f_nilmap, c_nilmap, f_map, c_map, f_nilf, c_nilf, f_func, c_func, f_yieldf, c_yieldf, f_nilif, c_nilif, f_iface, c_iface, c_agg, List.all_cons, List.all_nil, Bool.and_true, Bool.true_and, if_true, if_false, ite_true, ite_false, ga_new, ga_old, gs_new, gs_old, Heap.next_alloc, Heap.next_set, loadA, storeA, splice, fillA, d_t, d_f, i_t, i_f, beq_t, beq_f, bne_t, bne_f, w_i64, w_u64, w_u32, w_i32, w_u8, Int.toNat_natCast, n_sub1, n_add1, Nat.sub_zero, Nat.mul_one, Nat.one_mul, Nat.zero_mul, List.append_assoc, Option.bind_some, chkLog, same_cells, List.replicate_zero, List.flatten_nil, true_and, and_true, kindsOk, k_0, k_1, k_2, plainEq, Bool.bne_true, Bool.bne_false, beq_self_eq_true, bne_self_eq_false, Int.tdiv_eq_ediv_of_nonneg, Int.tmod_eq_emod_of_nonneg, List.length_nil, p1, p2, x30, e1, q3, q4, q5]
    try rfl
end Go.Proofs.Ytplbampjponnpaa.Ya

