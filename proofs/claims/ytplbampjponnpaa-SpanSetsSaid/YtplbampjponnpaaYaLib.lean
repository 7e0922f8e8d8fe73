/-
  Functions that many seats have, walked once: each for any table that has it.
-/
import Derived.Test.YtplbampjponnpaaYaSim
namespace Go.Ya
set_option linter.unusedVariables false
set_option linter.unusedSimpArgs false

def ints (bs : List Int) : List AV := bs.map (.int .u8)
@[simp] theorem ints_len (bs : List Int) : (ints bs).length = bs.length := by simp [ints]

/-- A slice of bytes, and what it reads. -/
def BytesAt (h : Heap) (v : AV) (bs : List Int) : Prop :=
  (v = .nilsl ∧ bs = []) ∨ ∃ id off cap ex c ro, v = .slice id off bs.length cap ex 1 ∧ bs.length ≤ cap ∧ h.get id = some (.cells c ro) ∧ off + bs.length ≤ c.length ∧ (c.drop off).take bs.length = ints bs
theorem BytesAt.grow {h h' : Heap} {v : AV} {bs : List Int} (hb : BytesAt h v bs) (g : Grow h h') : BytesAt h' v bs := by
  rcases hb with hb | ⟨id, off, cap, ex, c, ro, e1, e2, e3, e4, e5⟩
  · exact .inl hb
  · exact .inr ⟨id, off, cap, ex, c, ro, e1, e2, g.get e3, e4, e5⟩
theorem BytesAt.first {h : Heap} {v : AV} {bs : List Int} (hb : BytesAt h v bs) : firstA h 1 bs.length v = some (ints bs) := by
  rcases hb with ⟨rfl, rfl⟩ | ⟨id, off, cap, ex, c, ro, rfl, e2, e3, e4, e5⟩
  · rfl
  · simp [firstA, e3, e4, e5]
theorem BytesAt.lenA {h : Heap} {v : AV} {bs : List Int} (hb : BytesAt h v bs) : lenA v = some bs.length := by
  rcases hb with ⟨rfl, rfl⟩ | ⟨id, off, cap, ex, c, ro, rfl, _⟩ <;> rfl

section
variable {X : Known} {SP : FuncId → Option SFunc}

/-- slices.Clone of bytes. -/
def cloneS : SFunc := ⟨8,
  [.tmp 2],
  .seq
            (.ops [⟨some 2, .mov (.c (.nilsl)), none⟩])
            (.seq
              (.seq
                (.ops [⟨some 3, .mov (.t 0), none⟩, ⟨some 4, .bin (.eql) (.sl) (.t 3) (.c (.nilsl)), none⟩])
                (.cond (.t 4) (.seq (.ops [⟨some 2, .mov (.c (.nilsl)), none⟩]) (.ret)) (.skip)))
              (.seq
                (.ops
                  [⟨some 5, .buildSlice [] 0 1 [], none⟩,
                   ⟨some 6, .mov (.t 0), none⟩,
                   ⟨some 7, .append 1 1 (.t 5) (.t 6), none⟩,
                   ⟨some 2, .mov (.t 7), none⟩])
                (.ret)))⟩

/-- What is new: nil, or a block of its own of just these bytes. -/
def NewBytes (h h' : Heap) (v : AV) (bs : List Int) : Prop :=
  (v = .nilsl ∧ bs = []) ∨ ∃ id cap ex, v = .slice id 0 bs.length cap ex 1 ∧ bs.length ≤ cap ∧ cap ≤ bs.length ∧ h.next ≤ id ∧ h'.get id = some (.cells (ints bs) false) ∧ (ex = true ∨ h'.byteAt id = true)
theorem NewBytes.at {h h' : Heap} {v : AV} {bs : List Int} (hn : NewBytes h h' v bs) : BytesAt h' v bs := by
  rcases hn with hn | ⟨id, cap, ex, rfl, h1, h2, h3, h4, _⟩
  · exact .inl hn
  · exact .inr ⟨id, 0, cap, ex, _, _, rfl, h1, h4, by simp, by simp [List.take_of_length_le]⟩

theorem clone_spec {f : FuncId} (hx : ∀ args h, X f args h = none) (hf : SP f = some cloneS) {h : Heap} {v : AV} {bs : List Int} (hb : BytesAt h v bs) (hl : bs.length ≤ 140737488355328) :
    ∃ v' h', xcall X SP (.fn f) [v] h = some (v', h') ∧ Grow h h' ∧ NewBytes h h' v' bs ∧ (v = .nilsl ↔ v' = .nilsl) := by
  rw [x_fn (hx _ _) hf]
  have hfirst := (hb.grow (Grow.alloc h (.cells [] false))).first
  have hlen := hb.lenA
  rcases hb with ⟨rfl, rfl⟩ | ⟨id, off, cap, ex, c, ro, rfl, e2, e3, e4, e5⟩
  · simp only [x_drawn, l_nil, l_op, l_guard, l_some, l_true, l_false, l_draw, readsA, x_true, x_false, x_seq, x_ops, x_cond, x_skip, x_ret, x_exit, x_block, x_then, x_thenE, x_thenR, x_blockN, x_blockR, x_blockE, s_nil, s_op, s_guard, s_some, s_true, s_false, s_put, s_put0, s_opsR, s_ret, s_norm, aop, ev, evs, List.map_cons, List.map_nil, List.cons_append, List.nil_append, List.append_nil, List.replicate, List.take_succ_cons, List.take_zero, List.take_nil, List.drop_succ_cons, List.drop_zero, List.drop_nil, Nat.zero_add, Nat.add_zero, Nat.reduceAdd, Nat.reduceMul, Nat.reduceLeDiff, Bool.false_eq_true, and_self, List.length_cons, List.length_nil, List.set_cons_zero, List.set_cons_succ, List.getD_cons_zero, List.getD_cons_succ, wantedA, List.getElem?_cons_zero, List.getElem?_cons_succ, q_t, q_f, Bool.not_true, Bool.not_false, b_add, b_sub, b_mul, b_eql, b_neq, b_lss, b_leq, b_gtr, b_geq, b_and, b_or, b_xor, b_quo, b_rem, b_shl, b_shr, unA, Option.map_some, Option.map_none, resA, tupA, Int.reduceLT, not_false_eq_true, not_true_eq_false, decide_true, decide_false, f_bool, c_bool, f_int, c_int, f_str, c_str, f_nilptr, c_nilptr, f_ptr, c_ptr, f_nilsl, c_nilsl, f_slice, c_slice, f_nilmap, c_nilmap, f_map, c_map, f_nilf, c_nilf, f_func, c_func, f_yieldf, c_yieldf, f_nilif, c_nilif, f_iface, c_iface, c_agg, List.all_cons, List.all_nil, Bool.and_true, Bool.true_and, if_true, if_false, ite_true, ite_false, show binA .eql .sl .nilsl .nilsl = some (.bool true) from rfl]
    exact ⟨_, _, rfl, .refl _, .inl ⟨rfl, rfl⟩, by simp⟩
  · simp only [x_drawn, l_nil, l_op, l_guard, l_some, l_true, l_false, l_draw, readsA, x_true, x_false, x_seq, x_ops, x_cond, x_skip, x_ret, x_exit, x_block, x_then, x_thenE, x_thenR, x_blockN, x_blockR, x_blockE, s_nil, s_op, s_guard, s_some, s_true, s_false, s_put, s_put0, s_opsR, s_ret, s_norm, aop, ev, evs, List.map_cons, List.map_nil, List.cons_append, List.nil_append, List.append_nil, List.replicate, List.take_succ_cons, List.take_zero, List.take_nil, List.drop_succ_cons, List.drop_zero, List.drop_nil, Nat.zero_add, Nat.add_zero, Nat.reduceAdd, Nat.reduceMul, Nat.reduceLeDiff, Bool.false_eq_true, and_self, List.length_cons, List.length_nil, List.set_cons_zero, List.set_cons_succ, List.getD_cons_zero, List.getD_cons_succ, wantedA, List.getElem?_cons_zero, List.getElem?_cons_succ, q_t, q_f, Bool.not_true, Bool.not_false, b_add, b_sub, b_mul, b_eql, b_neq, b_lss, b_leq, b_gtr, b_geq, b_and, b_or, b_xor, b_quo, b_rem, b_shl, b_shr, unA, Option.map_some, Option.map_none, resA, tupA, Int.reduceLT, not_false_eq_true, not_true_eq_false, decide_true, decide_false, f_bool, c_bool, f_int, c_int, f_str, c_str, f_nilptr, c_nilptr, f_ptr, c_ptr, f_nilsl, c_nilsl, f_slice, c_slice, f_nilmap, c_nilmap, f_map, c_map, f_nilf, c_nilf, f_func, c_func, f_yieldf, c_yieldf, f_nilif, c_nilif, f_iface, c_iface, c_agg, List.all_cons, List.all_nil, Bool.and_true, Bool.true_and, if_true, if_false, ite_true, ite_false, show binA .eql .sl (.slice id off bs.length cap ex 1) .nilsl = some (.bool false) from rfl, fillA]
    simp only [x_drawn, l_nil, l_op, l_guard, l_some, l_true, l_false, l_draw, readsA, x_true, x_false, x_seq, x_ops, x_cond, x_skip, x_ret, x_exit, x_block, x_then, x_thenE, x_thenR, x_blockN, x_blockR, x_blockE, s_nil, s_op, s_guard, s_some, s_true, s_false, s_put, s_put0, s_opsR, s_ret, s_norm, aop, ev, evs, List.map_cons, List.map_nil, List.cons_append, List.nil_append, List.append_nil, List.replicate, List.take_succ_cons, List.take_zero, List.take_nil, List.drop_succ_cons, List.drop_zero, List.drop_nil, Nat.zero_add, Nat.add_zero, Nat.reduceAdd, Nat.reduceMul, Nat.reduceLeDiff, Bool.false_eq_true, and_self, List.length_cons, List.length_nil, List.set_cons_zero, List.set_cons_succ, List.getD_cons_zero, List.getD_cons_succ, wantedA, List.getElem?_cons_zero, List.getElem?_cons_succ, q_t, q_f, Bool.not_true, Bool.not_false, b_add, b_sub, b_mul, b_eql, b_neq, b_lss, b_leq, b_gtr, b_geq, b_and, b_or, b_xor, b_quo, b_rem, b_shl, b_shr, unA, Option.map_some, Option.map_none, resA, tupA, Int.reduceLT, not_false_eq_true, not_true_eq_false, decide_true, decide_false, f_bool, c_bool, f_int, c_int, f_str, c_str, f_nilptr, c_nilptr, f_ptr, c_ptr, f_nilsl, c_nilsl, f_slice, c_slice, f_nilmap, c_nilmap, f_map, c_map, f_nilf, c_nilf, f_func, c_func, f_yieldf, c_yieldf, f_nilif, c_nilif, f_iface, c_iface, c_agg, List.all_cons, List.all_nil, Bool.and_true, Bool.true_and, if_true, if_false, ite_true, ite_false, appendA, hfirst, lenA, storeA, Heap.get_alloc, Heap.next_alloc, List.length_nil, Nat.zero_mul, Nat.add_zero, Nat.zero_add, Nat.mul_one, Nat.le_refl, ints_len, Nat.zero_le, splice, List.take_zero, List.take_nil, List.drop_nil, List.drop_zero, Bool.false_eq_true]
    by_cases hz : bs.length ≤ 0
    · have hbs : bs = [] := List.eq_nil_of_length_eq_zero (by omega)
      subst hbs
      simp only [x_drawn, l_nil, l_op, l_guard, l_some, l_true, l_false, l_draw, readsA, x_true, x_false, x_seq, x_ops, x_cond, x_skip, x_ret, x_exit, x_block, x_then, x_thenE, x_thenR, x_blockN, x_blockR, x_blockE, s_nil, s_op, s_guard, s_some, s_true, s_false, s_put, s_put0, s_opsR, s_ret, s_norm, aop, ev, evs, List.map_cons, List.map_nil, List.cons_append, List.nil_append, List.append_nil, List.replicate, List.take_succ_cons, List.take_zero, List.take_nil, List.drop_succ_cons, List.drop_zero, List.drop_nil, Nat.zero_add, Nat.add_zero, Nat.reduceAdd, Nat.reduceMul, Nat.reduceLeDiff, Bool.false_eq_true, and_self, List.length_cons, List.length_nil, List.set_cons_zero, List.set_cons_succ, List.getD_cons_zero, List.getD_cons_succ, wantedA, List.getElem?_cons_zero, List.getElem?_cons_succ, q_t, q_f, Bool.not_true, Bool.not_false, b_add, b_sub, b_mul, b_eql, b_neq, b_lss, b_leq, b_gtr, b_geq, b_and, b_or, b_xor, b_quo, b_rem, b_shl, b_shr, unA, Option.map_some, Option.map_none, resA, tupA, Int.reduceLT, not_false_eq_true, not_true_eq_false, decide_true, decide_false, f_bool, c_bool, f_int, c_int, f_str, c_str, f_nilptr, c_nilptr, f_ptr, c_ptr, f_nilsl, c_nilsl, f_slice, c_slice, f_nilmap, c_nilmap, f_map, c_map, f_nilf, c_nilf, f_func, c_func, f_yieldf, c_yieldf, f_nilif, c_nilif, f_iface, c_iface, c_agg, List.all_cons, List.all_nil, Bool.and_true, Bool.true_and, if_true, if_false, ite_true, ite_false, List.length_nil, Nat.le_refl, ints, List.map_nil]
      refine ⟨_, _, rfl, ?_, .inr ⟨h.next, 0, true, rfl, by simp, by simp, Nat.le_refl _, ?_, .inl rfl⟩, by simp⟩
      · exact Grow.set (Grow.alloc _ _) _ (Nat.le_refl _) (by simp)
      · rw [get_set, if_pos rfl, if_pos (by simp)]; rfl
    · have hl1 : (bs.length ≤ 140737488355328 ∧ bs.length ≤ 140737488355328) := ⟨hl, hl⟩
      simp (decide := true) only [x_drawn, l_nil, l_op, l_guard, l_some, l_true, l_false, l_draw, readsA, x_true, x_false, x_seq, x_ops, x_cond, x_skip, x_ret, x_exit, x_block, x_then, x_thenE, x_thenR, x_blockN, x_blockR, x_blockE, s_nil, s_op, s_guard, s_some, s_true, s_false, s_put, s_put0, s_opsR, s_ret, s_norm, aop, ev, evs, List.map_cons, List.map_nil, List.cons_append, List.nil_append, List.append_nil, List.replicate, List.take_succ_cons, List.take_zero, List.take_nil, List.drop_succ_cons, List.drop_zero, List.drop_nil, Nat.zero_add, Nat.add_zero, Nat.reduceAdd, Nat.reduceMul, Nat.reduceLeDiff, Bool.false_eq_true, and_self, List.length_cons, List.length_nil, List.set_cons_zero, List.set_cons_succ, List.getD_cons_zero, List.getD_cons_succ, wantedA, List.getElem?_cons_zero, List.getElem?_cons_succ, q_t, q_f, Bool.not_true, Bool.not_false, b_add, b_sub, b_mul, b_eql, b_neq, b_lss, b_leq, b_gtr, b_geq, b_and, b_or, b_xor, b_quo, b_rem, b_shl, b_shr, unA, Option.map_some, Option.map_none, resA, tupA, Int.reduceLT, not_false_eq_true, not_true_eq_false, decide_true, decide_false, f_bool, c_bool, f_int, c_int, f_str, c_str, f_nilptr, c_nilptr, f_ptr, c_ptr, f_nilsl, c_nilsl, f_slice, c_slice, f_nilmap, c_nilmap, f_map, c_map, f_nilf, c_nilf, f_func, c_func, f_yieldf, c_yieldf, f_nilif, c_nilif, f_iface, c_iface, c_agg, List.all_cons, List.all_nil, Bool.and_true, Bool.true_and, if_true, if_false, ite_true, ite_false, hz, hl1, and_self]
      refine ⟨_, _, rfl, ?_, .inr ⟨h.next + 1, bs.length, false, rfl, Nat.le_refl _, Nat.le_refl _, by omega, ?_, .inr ?_⟩, by simp⟩
      · exact ((Grow.alloc _ _).trans (Grow.alloc _ _)).trans (Grow.note _ _ _)
      · exact (Grow.note _ _ _).get (by rw [Heap.get_alloc, if_pos (by simp)])
      · exact byteAt_note _ _ (by simp)
end
end Go.Ya
