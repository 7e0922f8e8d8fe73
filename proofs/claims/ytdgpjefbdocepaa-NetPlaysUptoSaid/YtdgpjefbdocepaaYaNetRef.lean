/-
  Net: what the document's functions do, each walked once.
-/
import Derived.Test.YtdgpjefbdocepaaYaNetSpec
namespace Go.Proofs.Ytdgpjefbdocepaa.Ya
open Go.Ya
set_option linter.unusedVariables false
set_option linter.unusedSimpArgs false
set_option maxRecDepth 100000
set_option maxHeartbeats 4000000

instance (m : Msg) : Decidable (Bad m) := by unfold Bad; infer_instance

/-- A net with its own blocks F. -/
def ObF (tl : List AV) (h : Heap) (id : Nat) (l : List Msg) (F : Nat → Prop) : Prop :=
  F id ∧ (∀ j, F j → j < h.next) ∧ ((l = [] ∧ h.get id = some (.cells (.nilsl :: tl) false)) ∨ ∃ b Q, ObAt tl h id l b Q ∧ F b ∧ ∀ j, Q j → F j)
/-- What an act on a net leaves of all else. -/
def Step (h h' : Heap) (F F' : Nat → Prop) : Prop := h.next ≤ h'.next ∧ (∀ j, j < h.next → ¬ F j → h'.get j = h.get j) ∧ (∀ j, F' j → F j ∨ h.next ≤ j)

theorem Step.of_grow {h h' : Heap} {F : Nat → Prop} (g : Grow h h') : Step h h' F F := ⟨g.1, fun j hj _ => g.2 j hj, fun j hj => .inl hj⟩
theorem Step.trans {h h' h2 : Heap} {F F' F2 : Nat → Prop} (s : Step h h' F F') (t : Step h' h2 F' F2) : Step h h2 F F2 :=
  ⟨Nat.le_trans s.1 t.1, fun j hj hn => (t.2.1 j (Nat.lt_of_lt_of_le hj s.1) fun hf => (s.2.2 j hf).elim hn fun e => by omega).trans (s.2.1 j hj hn), fun j hj => by
    rcases t.2.2 j hj with e | e
    · exact s.2.2 j e
    · exact .inr (Nat.le_trans s.1 e)⟩

theorem ObF.at {tl : List AV} {h : Heap} {id : Nat} {l : List Msg} {F : Nat → Prop} (f : ObF tl h id l F) :
    ∃ b Q, ObAt tl h id l b Q ∧ (∀ j, j < h.next → ¬ F j → j ≠ id ∧ j ≠ b) ∧ (b < h.next → F b) ∧ ∀ j, Q j → F j := by
  obtain ⟨f1, f2, ⟨rfl, hg⟩ | ⟨b, Q, ho, hb, hq⟩⟩ := f
  · have := f2 _ f1
    exact ⟨h.next, fun _ => False, ⟨this, .inr rfl, by omega, fun e => e, fun e => e, fun _ e => e.elim, .nilsl, hg, .inl ⟨rfl, rfl⟩⟩, fun j hj hn => ⟨fun e => hn (e ▸ f1), by omega⟩, fun e => by omega, fun _ e => e.elim⟩
  · exact ⟨b, Q, ho, fun j hj hn => ⟨fun e => hn (e ▸ f1), fun e => hn (e ▸ hb)⟩, fun _ => hb, hq⟩
theorem ObF.of {tl : List AV} {h h' : Heap} {id b b' : Nat} {l' : List Msg} {F Q Q' : Nat → Prop} (f1 : F id) (hs : ∀ j, j < h.next → ¬ F j → j ≠ id ∧ j ≠ b) (hb : b < h.next → F b) (hq : ∀ j, Q j → F j)
    (ho : ObAt tl h' id l' b' Q') (fr : NFrame h h' id b Q b' Q') : ∃ F', ObF tl h' id l' F' ∧ Step h h' F F' ∧ ∀ j, F' j → j = id ∨ j = b' ∨ Q' j := by
  obtain ⟨r1, r2, r3, r4⟩ := fr
  have ho' := ho
  obtain ⟨o1, o2, o3, o4, o5, o6, sl, og, os⟩ := ho
  refine ⟨fun j => j = id ∨ (j = b' ∧ b' < h'.next) ∨ Q' j, ⟨.inl rfl, fun j hj => ?_, ?_⟩, ⟨r1, fun j hj hn => ?_, fun j hj => ?_⟩, fun j hj => ?_⟩
  · rcases hj with rfl | ⟨rfl, hj⟩ | hj
    · exact o1
    · exact hj
    · exact o6 j hj
  · by_cases hlt : b' < h'.next
    · exact .inr ⟨b', Q', ho', .inr (.inl ⟨rfl, hlt⟩), fun j hj => .inr (.inr hj)⟩
    · refine .inl ⟨o2.resolve_left hlt, ?_⟩
      rcases os with ⟨rfl, _⟩ | ⟨cap, rows, rest, e, hc, hgb, _⟩
      · exact og
      · exact absurd (Heap.lt_of_get hgb) hlt
  · obtain ⟨n1, n2⟩ := hs j hj hn
    exact r2 j hj n1 n2
  · rcases hj with rfl | ⟨rfl, hj⟩ | hj
    · exact .inl f1
    · rcases r3 with rfl | r3
      · by_cases hlt : j < h.next
        · exact .inl (hb hlt)
        · exact .inr (by omega)
      · exact .inr r3
    · rcases r4 j hj with e | e
      · exact .inl (hq j e)
      · exact .inr e
  · rcases hj with rfl | ⟨rfl, hj⟩ | hj
    · exact .inl rfl
    · exact .inr (.inl rfl)
    · exact .inr (.inr hj)
theorem ObF.keep {tl : List AV} {h h' : Heap} {id : Nat} {l : List Msg} {F : Nat → Prop} (f : ObF tl h id l F) (hx : h.next ≤ h'.next) (hs : ∀ j, F j → h'.get j = h.get j) : ObF tl h' id l F := by
  obtain ⟨f1, f2, f3⟩ := f
  refine ⟨f1, fun j hj => Nat.lt_of_lt_of_le (f2 j hj) hx, ?_⟩
  rcases f3 with ⟨rfl, hg⟩ | ⟨b, Q, ho, hb, hq⟩
  · exact .inl ⟨rfl, (hs _ f1).trans hg⟩
  · refine .inr ⟨b, Q, ho.keep hx fun j _ hj => hs j ?_, hb, hq⟩
    rcases hj with rfl | rfl | hj
    · exact f1
    · exact hb
    · exact hq j hj
theorem ObF.grow {tl : List AV} {h h' : Heap} {id : Nat} {l : List Msg} {F : Nat → Prop} (f : ObF tl h id l F) (g : Grow h h') : ObF tl h' id l F := f.keep g.1 fun j hj => g.2 j (f.2.1 j hj)
/-- Another net's act leaves it. -/
theorem ObF.other {tl : List AV} {h h' : Heap} {id : Nat} {l : List Msg} {F G G' : Nat → Prop} (f : ObF tl h id l F) (s : Step h h' G G') (hd : ∀ j, F j → ¬ G j) : ObF tl h' id l F := f.keep s.1 fun j hj => s.2.1 j (f.2.1 j hj) (hd j hj)

/-- Copy: a message of its own memory. -/
theorem copy26 {h : Heap} {cs : List AV} {m : Msg} (hm : MsgAt h cs m) (hl : m.bytes.length ≤ 140737488355328) :
    ∃ v h', xcall X1 tab (.fn 26) [.agg cs] h = some (.agg [.int .i64 m.client, .bool m.back, v], h') ∧ Grow h h' ∧ NewBytes h h' v m.bytes := by
  obtain ⟨v0, rfl, hb⟩ := hm
  rw [x_fn rfl (show tab 26 = some sf26 from rfl)]
  have hfl : AV.flat v0 = true := by rcases hb with ⟨rfl, _⟩ | ⟨_, _, _, _, _, _, rfl, _⟩ <;> rfl
  have hH : ∃ H, h.alloc (.cells [.int .i64 m.client, .bool m.back, v0] false) = H ∧ Grow h H ∧ H.next = h.next + 1 ∧ H.get h.next = some (.cells [.int .i64 m.client, .bool m.back, v0] false) :=
    ⟨_, rfl, .alloc _ _, by simp, by rw [Heap.get_alloc, if_pos rfl]⟩
  obtain ⟨H, hA, gA, hn, G⟩ := hH
  have hH2 : ∃ H2, H.alloc (.cells [.int .i64 0, .bool false, .nilsl] false) = H2 ∧ Grow H H2 ∧ H2.next = H.next + 1 ∧ H2.get H.next = some (.cells [.int .i64 0, .bool false, .nilsl] false) :=
    ⟨_, rfl, .alloc _ _, by simp, by rw [Heap.get_alloc, if_pos rfl]⟩
  obtain ⟨H2, hA2, gA2, hn2, G2⟩ := hH2
  obtain ⟨v', h', e, g, nb0⟩ := copy_spec (X := X1) (SP := tab) (f := 25) (fun _ _ => rfl) (show tab 25 = some copyS from rfl) (hb.grow (gA.trans gA2)) hl
  have nb := nb0.new
  have A0 := gA2.get G
  have A1 := g.get A0
  have A2 := g.get G2
  have hx1 := g.1
  have hfv : AV.flat v' = true := by rcases nb with ⟨rfl, _⟩ | ⟨_, _, _, rfl, _⟩ <;> rfl
  have hlt : h.next < h'.next := by omega
  have hlt2 : H.next < h'.next := by omega
  have hne : H.next ≠ h.next := by omega
  simp only [note_false, x_drawn, l_nil, l_op, l_guard, l_some, l_true, l_false, l_draw, readsA, x_true, x_false, x_seq, x_ops, x_cond, x_skip, x_ret, x_exit, x_block, x_then, x_thenE, x_thenR, x_blockN, x_blockR, x_blockE, s_nil, s_op, s_guard, s_some, s_true, s_false, s_put, s_put0, s_opsR, s_ret, s_norm, aop, ev, evs, List.map_cons, List.map_nil, List.cons_append, List.nil_append, List.append_nil, List.replicate, List.take_succ_cons, List.take_zero, List.take_nil, List.drop_succ_cons, List.drop_zero, List.drop_nil, Nat.zero_add, Nat.add_zero, Nat.reduceAdd, Nat.reduceMul, Nat.reduceLeDiff, Bool.false_eq_true, and_self, List.length_cons, List.length_nil, List.set_cons_zero, List.set_cons_succ, List.getD_cons_zero, List.getD_cons_succ, wantedA, List.getElem?_cons_zero, List.getElem?_cons_succ, q_t, q_f, Bool.not_true, Bool.not_false, b_add, b_sub, b_mul, b_eql, b_neq, b_lss, b_leq, b_gtr, b_geq, b_and, b_or, b_xor, b_quo, b_rem, b_shl, b_shr, unA, Option.map_some, Option.map_none, resA, tupA, Int.reduceLT, not_false_eq_true, not_true_eq_false, decide_true, decide_false, f_bool, c_bool, f_int, c_int, f_str, c_str, f_nilptr, c_nilptr, f_ptr, c_ptr, f_nilsl, c_nilsl, f_slice, c_slice, f_nilmap, c_nilmap, f_map, c_map, f_nilf, c_nilf, f_func, c_func, f_yieldf, c_yieldf, f_nilif, c_nilif, f_iface, c_iface, c_agg, List.all_cons, List.all_nil, Bool.and_true, Bool.true_and, if_true, if_false, ite_true, ite_false, hA, hA2, hfl, hfv, cells_of hfv, loadA, storeA, splice, A0, A1, A2, e, Nat.zero_add, Nat.reduceAdd, Bool.false_eq_true, Nat.reduceLeDiff, List.length_cons, List.length_nil, List.take_succ_cons, List.take_zero, List.drop_succ_cons, List.drop_zero, and_self, get_set, Heap.next_set, hne, hlt, hlt2]
  refine ⟨v', _, rfl, ?_, ?_⟩
  · exact Grow.set (Grow.set (gA.trans (gA2.trans g)) _ (Nat.le_refl _) (by omega)) _ (by omega) (by simp; omega)
  · rcases nb with nb | ⟨i, cap, ex, rfl, k1, k2, k3, k4, k5⟩
    · exact .inl nb
    · refine .inr ⟨i, cap, ex, rfl, k1, k2, by omega, ?_, k5.imp (fun e => e) fun e => ?_⟩
      · rw [get_set, if_neg (by omega), get_set, if_neg (by omega)]
        exact k4
      · rw [Heap.byteAt_of (h := h')]
        · exact e
        · rw [get_set, if_neg (by omega), get_set, if_neg (by omega)]

theorem rows3 {h : Heap} {Q : Nat → Prop} {rows : List (List AV)} {ms : List Msg} (hr : Rows2 h Q rows ms) : ∀ r ∈ rows, r.length = 3 := by
  induction hr with
  | nil => intro r h; cases h
  | cons hrow _ ih =>
    obtain ⟨v, rfl, _⟩ := hrow
    intro r hr
    rcases List.mem_cons.1 hr with rfl | hr
    · rfl
    · exact ih r hr

/-- ref's Send. -/
theorem send12 {h : Heap} {id : Nat} {l : List Msg} {F : Nat → Prop} (hf : ObF [] h id l F) {cs : List AV} {m : Msg} (hm : MsgAt h cs m) (hl64 : l.length ≤ 64) :
    ∃ h' F', xcall X1 tab (.fn 12) [.ptr id 0, .agg cs] h = some (.int .i64 (if Bad m then 2 else if l.length ≥ 64 then 10 else 0), h') ∧
      ObF [] h' id (if Bad m then l else if l.length ≥ 64 then l else l ++ [m]) F' ∧ Step h h' F F' := by
  obtain ⟨b, Q, ho, hs1, hs2, hs3⟩ := hf.at
  have ho' := ho
  obtain ⟨n1, n2, n3, n4, n5, n6, sl, hg, hs⟩ := ho
  obtain ⟨v0, rfl, hbt⟩ := hm
  have hfl : AV.flat v0 = true := by rcases hbt with ⟨rfl, _⟩ | ⟨_, _, _, _, _, _, rfl, _⟩ <;> rfl
  have hH : ∃ H, h.alloc (.cells [.int .i64 m.client, .bool m.back, v0] false) = H ∧ Grow h H ∧ H.next = h.next + 1 ∧ H.get h.next = some (.cells [.int .i64 m.client, .bool m.back, v0] false) :=
    ⟨_, rfl, .alloc _ _, by simp, by rw [Heap.get_alloc, if_pos rfl]⟩
  obtain ⟨H, hA, gA, hHn, G⟩ := hH
  have hg' := gA.get hg
  by_cases hbad : Bad m
  · rw [if_pos hbad, if_pos hbad]
    refine ⟨H, F, ?_, hf.grow gA, .of_grow gA⟩
    rw [x_fn rfl (show tab 12 = some sf12 from rfl)]
    by_cases h1 : m.client < 0
    · simp only [note_false, x_drawn, l_nil, l_op, l_guard, l_some, l_true, l_false, l_draw, readsA, x_true, x_false, x_seq, x_ops, x_cond, x_skip, x_ret, x_exit, x_block, x_then, x_thenE, x_thenR, x_blockN, x_blockR, x_blockE, s_nil, s_op, s_guard, s_some, s_true, s_false, s_put, s_put0, s_opsR, s_ret, s_norm, aop, ev, evs, List.map_cons, List.map_nil, List.cons_append, List.nil_append, List.append_nil, List.replicate, List.take_succ_cons, List.take_zero, List.take_nil, List.drop_succ_cons, List.drop_zero, List.drop_nil, Nat.zero_add, Nat.add_zero, Nat.reduceAdd, Nat.reduceMul, Nat.reduceLeDiff, Bool.false_eq_true, and_self, List.length_cons, List.length_nil, List.set_cons_zero, List.set_cons_succ, List.getD_cons_zero, List.getD_cons_succ, wantedA, List.getElem?_cons_zero, List.getElem?_cons_succ, q_t, q_f, Bool.not_true, Bool.not_false, b_add, b_sub, b_mul, b_eql, b_neq, b_lss, b_leq, b_gtr, b_geq, b_and, b_or, b_xor, b_quo, b_rem, b_shl, b_shr, unA, Option.map_some, Option.map_none, resA, tupA, Int.reduceLT, not_false_eq_true, not_true_eq_false, decide_true, decide_false, f_bool, c_bool, f_int, c_int, f_str, c_str, f_nilptr, c_nilptr, f_ptr, c_ptr, f_nilsl, c_nilsl, f_slice, c_slice, f_nilmap, c_nilmap, f_map, c_map, f_nilf, c_nilf, f_func, c_func, f_yieldf, c_yieldf, f_nilif, c_nilif, f_iface, c_iface, c_agg, List.all_cons, List.all_nil, Bool.and_true, Bool.true_and, if_true, if_false, ite_true, ite_false, hA, hfl, cells_of hfl, loadA, G, h1, Nat.zero_add, Bool.false_eq_true]
    · by_cases h2 : m.client ≥ 4
      · simp only [note_false, x_drawn, l_nil, l_op, l_guard, l_some, l_true, l_false, l_draw, readsA, x_true, x_false, x_seq, x_ops, x_cond, x_skip, x_ret, x_exit, x_block, x_then, x_thenE, x_thenR, x_blockN, x_blockR, x_blockE, s_nil, s_op, s_guard, s_some, s_true, s_false, s_put, s_put0, s_opsR, s_ret, s_norm, aop, ev, evs, List.map_cons, List.map_nil, List.cons_append, List.nil_append, List.append_nil, List.replicate, List.take_succ_cons, List.take_zero, List.take_nil, List.drop_succ_cons, List.drop_zero, List.drop_nil, Nat.zero_add, Nat.add_zero, Nat.reduceAdd, Nat.reduceMul, Nat.reduceLeDiff, Bool.false_eq_true, and_self, List.length_cons, List.length_nil, List.set_cons_zero, List.set_cons_succ, List.getD_cons_zero, List.getD_cons_succ, wantedA, List.getElem?_cons_zero, List.getElem?_cons_succ, q_t, q_f, Bool.not_true, Bool.not_false, b_add, b_sub, b_mul, b_eql, b_neq, b_lss, b_leq, b_gtr, b_geq, b_and, b_or, b_xor, b_quo, b_rem, b_shl, b_shr, unA, Option.map_some, Option.map_none, resA, tupA, Int.reduceLT, not_false_eq_true, not_true_eq_false, decide_true, decide_false, f_bool, c_bool, f_int, c_int, f_str, c_str, f_nilptr, c_nilptr, f_ptr, c_ptr, f_nilsl, c_nilsl, f_slice, c_slice, f_nilmap, c_nilmap, f_map, c_map, f_nilf, c_nilf, f_func, c_func, f_yieldf, c_yieldf, f_nilif, c_nilif, f_iface, c_iface, c_agg, List.all_cons, List.all_nil, Bool.and_true, Bool.true_and, if_true, if_false, ite_true, ite_false, hA, hfl, cells_of hfl, loadA, G, h1, h2, Nat.zero_add, Bool.false_eq_true]
      · have h3 : (m.bytes.length : Int) > 4096 := by rcases hbad with hb | hb | hb <;> first | exact hb | exact absurd hb ‹_›
        rcases hbt with ⟨rfl, hb0⟩ | ⟨_, _, _, _, _, _, rfl, _⟩
        · rw [hb0] at h3; simp at h3
        · simp only [note_false, x_drawn, l_nil, l_op, l_guard, l_some, l_true, l_false, l_draw, readsA, x_true, x_false, x_seq, x_ops, x_cond, x_skip, x_ret, x_exit, x_block, x_then, x_thenE, x_thenR, x_blockN, x_blockR, x_blockE, s_nil, s_op, s_guard, s_some, s_true, s_false, s_put, s_put0, s_opsR, s_ret, s_norm, aop, ev, evs, List.map_cons, List.map_nil, List.cons_append, List.nil_append, List.append_nil, List.replicate, List.take_succ_cons, List.take_zero, List.take_nil, List.drop_succ_cons, List.drop_zero, List.drop_nil, Nat.zero_add, Nat.add_zero, Nat.reduceAdd, Nat.reduceMul, Nat.reduceLeDiff, Bool.false_eq_true, and_self, List.length_cons, List.length_nil, List.set_cons_zero, List.set_cons_succ, List.getD_cons_zero, List.getD_cons_succ, wantedA, List.getElem?_cons_zero, List.getElem?_cons_succ, q_t, q_f, Bool.not_true, Bool.not_false, b_add, b_sub, b_mul, b_eql, b_neq, b_lss, b_leq, b_gtr, b_geq, b_and, b_or, b_xor, b_quo, b_rem, b_shl, b_shr, unA, Option.map_some, Option.map_none, resA, tupA, Int.reduceLT, not_false_eq_true, not_true_eq_false, decide_true, decide_false, f_bool, c_bool, f_int, c_int, f_str, c_str, f_nilptr, c_nilptr, f_ptr, c_ptr, f_nilsl, c_nilsl, f_slice, c_slice, f_nilmap, c_nilmap, f_map, c_map, f_nilf, c_nilf, f_func, c_func, f_yieldf, c_yieldf, f_nilif, c_nilif, f_iface, c_iface, c_agg, List.all_cons, List.all_nil, Bool.and_true, Bool.true_and, if_true, if_false, ite_true, ite_false, hA, loadA, G, h1, h2, h3, Nat.zero_add, Bool.false_eq_true]
  · rw [if_neg hbad, if_neg hbad]
    have h1 : ¬ m.client < 0 := fun e => hbad (.inl e)
    have h2 : ¬ m.client ≥ 4 := fun e => hbad (.inr (.inl e))
    have h3 : ¬ (m.bytes.length : Int) > 4096 := fun e => hbad (.inr (.inr e))
    have h30 : ¬ (0 : Int) > 4096 := by decide
    by_cases hl : l.length ≥ 64
    · rw [if_pos hl, if_pos hl]
      refine ⟨H, F, ?_, hf.grow gA, .of_grow gA⟩
      rw [x_fn rfl (show tab 12 = some sf12 from rfl)]
      have h4 : (l.length : Int) ≥ 64 := by omega
      rcases hs with ⟨rfl, rfl⟩ | ⟨cap, rows, rest, rfl, _⟩
      · simp at hl
      · rcases hbt with ⟨rfl, hb0⟩ | ⟨_, _, _, _, _, _, rfl, _⟩
        · simp only [note_false, x_drawn, l_nil, l_op, l_guard, l_some, l_true, l_false, l_draw, readsA, x_true, x_false, x_seq, x_ops, x_cond, x_skip, x_ret, x_exit, x_block, x_then, x_thenE, x_thenR, x_blockN, x_blockR, x_blockE, s_nil, s_op, s_guard, s_some, s_true, s_false, s_put, s_put0, s_opsR, s_ret, s_norm, aop, ev, evs, List.map_cons, List.map_nil, List.cons_append, List.nil_append, List.append_nil, List.replicate, List.take_succ_cons, List.take_zero, List.take_nil, List.drop_succ_cons, List.drop_zero, List.drop_nil, Nat.zero_add, Nat.add_zero, Nat.reduceAdd, Nat.reduceMul, Nat.reduceLeDiff, Bool.false_eq_true, and_self, List.length_cons, List.length_nil, List.set_cons_zero, List.set_cons_succ, List.getD_cons_zero, List.getD_cons_succ, wantedA, List.getElem?_cons_zero, List.getElem?_cons_succ, q_t, q_f, Bool.not_true, Bool.not_false, b_add, b_sub, b_mul, b_eql, b_neq, b_lss, b_leq, b_gtr, b_geq, b_and, b_or, b_xor, b_quo, b_rem, b_shl, b_shr, unA, Option.map_some, Option.map_none, resA, tupA, Int.reduceLT, not_false_eq_true, not_true_eq_false, decide_true, decide_false, f_bool, c_bool, f_int, c_int, f_str, c_str, f_nilptr, c_nilptr, f_ptr, c_ptr, f_nilsl, c_nilsl, f_slice, c_slice, f_nilmap, c_nilmap, f_map, c_map, f_nilf, c_nilf, f_func, c_func, f_yieldf, c_yieldf, f_nilif, c_nilif, f_iface, c_iface, c_agg, List.all_cons, List.all_nil, Bool.and_true, Bool.true_and, if_true, if_false, ite_true, ite_false, hA, loadA, G, hg', h1, h2, h3, h4, h30, Nat.zero_add, Bool.false_eq_true]
        · simp only [note_false, x_drawn, l_nil, l_op, l_guard, l_some, l_true, l_false, l_draw, readsA, x_true, x_false, x_seq, x_ops, x_cond, x_skip, x_ret, x_exit, x_block, x_then, x_thenE, x_thenR, x_blockN, x_blockR, x_blockE, s_nil, s_op, s_guard, s_some, s_true, s_false, s_put, s_put0, s_opsR, s_ret, s_norm, aop, ev, evs, List.map_cons, List.map_nil, List.cons_append, List.nil_append, List.append_nil, List.replicate, List.take_succ_cons, List.take_zero, List.take_nil, List.drop_succ_cons, List.drop_zero, List.drop_nil, Nat.zero_add, Nat.add_zero, Nat.reduceAdd, Nat.reduceMul, Nat.reduceLeDiff, Bool.false_eq_true, and_self, List.length_cons, List.length_nil, List.set_cons_zero, List.set_cons_succ, List.getD_cons_zero, List.getD_cons_succ, wantedA, List.getElem?_cons_zero, List.getElem?_cons_succ, q_t, q_f, Bool.not_true, Bool.not_false, b_add, b_sub, b_mul, b_eql, b_neq, b_lss, b_leq, b_gtr, b_geq, b_and, b_or, b_xor, b_quo, b_rem, b_shl, b_shr, unA, Option.map_some, Option.map_none, resA, tupA, Int.reduceLT, not_false_eq_true, not_true_eq_false, decide_true, decide_false, f_bool, c_bool, f_int, c_int, f_str, c_str, f_nilptr, c_nilptr, f_ptr, c_ptr, f_nilsl, c_nilsl, f_slice, c_slice, f_nilmap, c_nilmap, f_map, c_map, f_nilf, c_nilf, f_func, c_func, f_yieldf, c_yieldf, f_nilif, c_nilif, f_iface, c_iface, c_agg, List.all_cons, List.all_nil, Bool.and_true, Bool.true_and, if_true, if_false, ite_true, ite_false, hA, loadA, G, hg', h1, h2, h3, h4, h30, Nat.zero_add, Bool.false_eq_true]
    · rw [if_neg hl, if_neg hl]
      obtain ⟨v, H1, e1, g1, nb⟩ := copy26 (h := H) (m := m) ⟨v0, rfl, hbt.grow gA⟩ (by omega)
      have hg1 := g1.get hg'
      have hfv : AV.flat v = true := by rcases nb with ⟨rfl, _⟩ | ⟨_, _, _, rfl, _⟩ <;> rfl
      have hH2 : ∃ H2, H1.alloc (.cells [.int .i64 m.client, .bool m.back, v] false) = H2 ∧ Grow H1 H2 ∧ H2.next = H1.next + 1 ∧ H2.get H1.next = some (.cells [.int .i64 m.client, .bool m.back, v] false) :=
        ⟨_, rfl, .alloc _ _, by simp, by rw [Heap.get_alloc, if_pos rfl]⟩
      obtain ⟨H2, hA2, gA2, hH2n, G2⟩ := hH2
      have hg2 := gA2.get hg1
      have q0 := gA.1
      have q1 := g1.1
      have q2 := gA2.1
      have hfa : firstA H2 3 1 (.slice H1.next 0 1 1 true 3) = some [.int .i64 m.client, .bool m.back, v] := by simp [firstA, G2]
      let Q' : Nat → Prop := fun j => Q j ∨ (h.next ≤ j ∧ j < H1.next)
      have hob : ∀ h', (∀ j, h.next ≤ j → j < H1.next → h'.get j = H1.get j) → OwnBytes h' v m.bytes Q' := by
        intro h' hh
        rcases nb with nb | ⟨k, cap, ex, e, k1, k2, k3, k4, k5⟩
        · exact .inl nb
        · have := Heap.lt_of_get k4
          exact .inr ⟨k, cap, ex, e, k1, .inr ⟨by omega, this⟩, by rw [hh k (by omega) this]; exact k4⟩
      -- the slice, as rows
      have hsh : ∃ b0 rows, ShAt 3 H2 sl b0 rows ∧ rows.length = l.length ∧ Rows2 h Q rows l ∧ b0 ≠ id ∧ ¬ Q b0 ∧ ((b0 = b ∧ b < h.next) ∨ H2.next ≤ b0) := by
        rcases hs with ⟨hnil, hl0⟩ | ⟨cap, rows, rest, hsl, hc, hgb, hcl, hrows⟩
        · refine ⟨H2.next, [], ⟨fun r h => (by cases h), .inl ⟨hnil, rfl⟩⟩, by rw [hl0]; rfl, by rw [hl0]; exact .nil, by omega, fun e => ?_, .inr (Nat.le_refl _)⟩
          have := n6 _ e; omega
        · have hl := hrows.len.1
          exact ⟨b, rows, ⟨rows3 hrows, .inr ⟨cap, rest, by rw [hl]; exact hsl, by omega, gA2.get (g1.get (gA.get hgb)), hcl⟩⟩, hl, hrows, n3, n5, .inl ⟨rfl, Heap.lt_of_get hgb⟩⟩
      obtain ⟨b0, rows, hsh, hrl, hrows, nb1, nb2, nb3⟩ := hsh
      obtain ⟨sl', H3, b', hap, sh', fl', x1, x2, x3, x4⟩ := hsh.append (bytes := 40) (y := .slice H1.next 0 1 1 true 3) rfl hfa rfl (by omega)
      have hid3 : H3.get id = some (.cells [sl] false) := by rw [x2 id (by omega) (Ne.symm nb1)]; exact hg2
      have hst : storeA H3 id 0 [sl'] = some (H3.set id (.cells [sl'] false)) := by simp [storeA, hid3, splice]
      have hb'id : b' ≠ id := by
        rcases x3 with rfl | x3
        · exact nb1
        · omega
      have key : xcall X1 tab (.fn 12) [.ptr id 0, .agg [.int .i64 m.client, .bool m.back, v0]] h = some (.int .i64 0, H3.set id (.cells [sl'] false)) := by
        rw [x_fn rfl (show tab 12 = some sf12 from rfl)]
        have h5 : ¬ (l.length : Int) ≥ 64 := by omega
        have h50 : ¬ (0 : Int) ≥ 64 := by decide
        rcases hs with ⟨rfl, rfl⟩ | ⟨cap, rows, rest, rfl, _⟩ <;> rcases hbt with ⟨rfl, hb0⟩ | ⟨_, _, _, _, _, _, rfl, _⟩
        all_goals
          simp (decide := true) only [note_false, x_drawn, l_nil, l_op, l_guard, l_some, l_true, l_false, l_draw, readsA, x_true, x_false, x_seq, x_ops, x_cond, x_skip, x_ret, x_exit, x_block, x_then, x_thenE, x_thenR, x_blockN, x_blockR, x_blockE, s_nil, s_op, s_guard, s_some, s_true, s_false, s_put, s_put0, s_opsR, s_ret, s_norm, aop, ev, evs, List.map_cons, List.map_nil, List.cons_append, List.nil_append, List.append_nil, List.replicate, List.take_succ_cons, List.take_zero, List.take_nil, List.drop_succ_cons, List.drop_zero, List.drop_nil, Nat.zero_add, Nat.add_zero, Nat.reduceAdd, Nat.reduceMul, Nat.reduceLeDiff, Bool.false_eq_true, and_self, List.length_cons, List.length_nil, List.set_cons_zero, List.set_cons_succ, List.getD_cons_zero, List.getD_cons_succ, wantedA, List.getElem?_cons_zero, List.getElem?_cons_succ, q_t, q_f, Bool.not_true, Bool.not_false, b_add, b_sub, b_mul, b_eql, b_neq, b_lss, b_leq, b_gtr, b_geq, b_and, b_or, b_xor, b_quo, b_rem, b_shl, b_shr, unA, Option.map_some, Option.map_none, resA, tupA, Int.reduceLT, not_false_eq_true, not_true_eq_false, decide_true, decide_false, f_bool, c_bool, f_int, c_int, f_str, c_str, f_nilptr, c_nilptr, f_ptr, c_ptr, f_nilsl, c_nilsl, f_slice, c_slice, f_nilmap, c_nilmap, f_map, c_map, f_nilf, c_nilf, f_func, c_func, f_yieldf, c_yieldf, f_nilif, c_nilif, f_iface, c_iface, c_agg, List.all_cons, List.all_nil, Bool.and_true, Bool.true_and, if_true, if_false, ite_true, ite_false, hA, hA2, loadA, G, hg', hg1, hg2, h1, h2, h3, h30, h5, h50, e1, hfv, fl', cells_of fl', fillA, splice, hap, hst, chkLog, same_cells, hid3]
      obtain ⟨sl3, slr⟩ := sh'
      have hrows' : Rows2 (H3.set id (.cells [sl'] false)) Q' (rows ++ [[.int .i64 m.client, .bool m.back, v]]) (l ++ [m]) := by
        refine (hrows.mono (fun j hq => .inl hq) fun j hq => ?_).append (.cons ⟨v, rfl, hob _ fun j j1 j2 => ?_⟩ .nil)
        · have := n6 j hq
          have e1 : j ≠ id := fun e => n4 (e ▸ hq)
          have e2 : j ≠ b0 := fun e => nb2 (e ▸ hq)
          rw [get_set, if_neg e1, x2 j (by omega) e2, gA2.2 j (by omega), g1.2 j (by omega), gA.2 j this]
        · rw [get_set, if_neg (by omega), x2 j (by omega) (by omega)]
          exact gA2.2 j j2
      have hQ' : ∀ j, Q' j → j < H1.next ∧ j ≠ id ∧ j ≠ b0 := fun j hq => by
        rcases hq with hq | hq
        · have := n6 j hq
          exact ⟨by omega, fun e => n4 (e ▸ hq), fun e => nb2 (e ▸ hq)⟩
        · exact ⟨hq.2, by omega, by omega⟩
      have hb'Q : ¬ Q' b' := fun hq => by
        obtain ⟨q1, q2, q3⟩ := hQ' _ hq
        rcases x3 with x3 | x3
        · exact q3 x3
        · omega
      have hlen : (l ++ [m]).length = l.length + 1 := by simp
      have ho2 : ObAt [] (H3.set id (.cells [sl'] false)) id (l ++ [m]) b' Q' := by
        refine ⟨by simp; omega, .inl (by simpa using x4), hb'id, fun hq => (hQ' _ hq).2.1 rfl, hb'Q, fun j hq => by have := hQ' j hq; simp; omega, sl', by rw [get_set, if_pos rfl, if_pos (by omega)], ?_⟩
        rcases slr with ⟨_, e⟩ | ⟨cap, rest, e1, e2, e3, e4⟩
        · simp at e
        · have hrl2 : (rows ++ [[AV.int .i64 m.client, .bool m.back, v]]).length = (l ++ [m]).length := by simp [hrl]
          rw [hrl2] at e1 e2
          exact .inr ⟨cap, _, rest, e1, e2, by rw [get_set, if_neg hb'id]; exact e3, e4, hrows'⟩
      have fr : NFrame h (H3.set id (.cells [sl'] false)) id b Q b' Q' := by
        refine ⟨by simp; omega, fun j j1 j2 j3 => ?_, ?_, fun j hq => hq.imp (fun e => e) fun e => e.1⟩
        · rw [get_set, if_neg j2, x2 j (by omega) (by omega), gA2.2 j (by omega), g1.2 j (by omega), gA.2 j j1]
        · rcases x3 with x3 | x3
          · rcases nb3 with nb3 | nb3
            · exact .inl (x3.trans nb3.1)
            · exact .inr (by omega)
          · exact .inr (by omega)
      obtain ⟨F', r1, r2, _⟩ := ObF.of hf.1 hs1 hs2 hs3 ho2 fr
      exact ⟨_, F', key, r1, r2⟩
end Go.Proofs.Ytdgpjefbdocepaa.Ya
