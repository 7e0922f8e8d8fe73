/-
  Net: Send, Drop, Take of both, alike; Same; Spoil.
-/
import Derived.Test.YtdgpjefbdocepaaYaNetRef2
namespace Go.Proofs.Ytdgpjefbdocepaa.Ya
open Go.Ya
set_option linter.unusedVariables false
set_option linter.unusedSimpArgs false
set_option maxRecDepth 100000
set_option maxHeartbeats 4000000

/-- Bytes of their own block behind lo, that may be spoilt. -/
def SpB (h : Heap) (v : AV) (bs : List Int) (lo : Nat) (F : Nat → Prop) : Prop :=
  (v = .nilsl ∧ bs = []) ∨ ∃ i cap ex, v = .slice i 0 bs.length cap ex 1 ∧ bs.length ≤ cap ∧ cap ≤ bs.length ∧ lo ≤ i ∧ ¬ F i ∧ h.get i = some (.cells (ints bs) false) ∧ (ex = true ∨ h.byteAt i = true)
theorem SpB.at {h : Heap} {v : AV} {bs : List Int} {lo : Nat} {F : Nat → Prop} (hb : SpB h v bs lo F) : BytesAt h v bs := by
  rcases hb with hb | ⟨i, cap, ex, e1, e2, e3, e4, e5, e6, e7⟩
  · exact .inl hb
  · exact .inr ⟨i, 0, cap, ex, _, _, e1, e2, e6, by simp, by simp [List.take_of_length_le]⟩
theorem SpB.flat {h : Heap} {v : AV} {bs : List Int} {lo : Nat} {F : Nat → Prop} (hb : SpB h v bs lo F) : v.flat = true := by
  rcases hb with ⟨rfl, _⟩ | ⟨i, cap, ex, rfl, _⟩ <;> rfl
/-- Spoilt. -/
theorem spoil14 {h : Heap} {v : AV} {bs : List Int} {lo : Nat} {F : Nat → Prop} (hb : SpB h v bs lo F) (by_ : Int) :
    ∃ h', xcall X1 tab (.fn 14) [v, .int .u8 by_] h = some (undefA, h') ∧ h'.next = h.next ∧ (∀ j, j < lo ∨ F j → h'.get j = h.get j) ∧ ∀ j, (∀ c e, v ≠ .slice j 0 bs.length c e 1) → h'.get j = h.get j := by
  rcases hb with ⟨rfl, rfl⟩ | ⟨i, cap, ex, rfl, e2, e3, e4, e5, e6, e7⟩
  · refine ⟨h, ?_, rfl, fun _ _ => rfl, fun _ _ => rfl⟩
    rw [xcall_fn]
    rfl
  · obtain rfl : cap = bs.length := by omega
    have hk : X1 14 [.slice i 0 bs.length bs.length ex 1, .int .u8 by_] h = some (undefA, h.set i (.cells (ints (bs.map (spoiled by_))) false)) := by
      show spoilK 14 14 [.slice i 0 bs.length bs.length ex 1, .int .u8 by_] h = _
      have h1 : 0 + bs.length ≤ (ints bs).length ∧ (ex = true ∨ (h.byteAt i = true ∧ 0 + bs.length = (ints bs).length)) := ⟨by simp, e7.imp (fun e => e) fun e => ⟨e, by simp⟩⟩
      have h2 : ((ints bs).drop 0).take bs.length = ints bs := by simp [List.take_of_length_le]
      have h3 : (ints bs).drop (0 + bs.length) = [] := List.drop_eq_nil_of_le (by simp)
      simp only [spoilK, if_true, e6, h1, h2, byteCells_ints, h3, List.take_zero, List.nil_append, List.append_nil]
      simp
    refine ⟨_, by rw [xcall_fn, hk], by simp, fun j hj => ?_, fun j hj => ?_⟩
    · rw [get_set, if_neg]
      rintro rfl
      rcases hj with hj | hj
      · omega
      · exact e5 hj
    · rw [get_set, if_neg]
      rintro rfl
      exact hj _ _ rfl

/-- ref's Same. -/
theorem same18 {h : Heap} {cs ds : List AV} {m n : Msg} (hm : MsgAt h cs m) (hn : MsgAt h ds n) : ∃ h', xcall X1 tab (.fn 18) [.agg cs, .agg ds] h = some (.bool ((m.client == n.client) && ((m.back == n.back) && (m.bytes == n.bytes))), h') ∧ Grow h h' := by
  obtain ⟨v, rfl, hb⟩ := hm
  obtain ⟨u, rfl, hc⟩ := hn
  have hfv : AV.flat v = true := by rcases hb with ⟨rfl, _⟩ | ⟨_, _, _, _, _, _, rfl, _⟩ <;> rfl
  have hfu : AV.flat u = true := by rcases hc with ⟨rfl, _⟩ | ⟨_, _, _, _, _, _, rfl, _⟩ <;> rfl
  have hH : ∃ H, h.alloc (.cells [.int .i64 m.client, .bool m.back, v] false) = H ∧ Grow h H ∧ H.next = h.next + 1 ∧ H.get h.next = some (.cells [.int .i64 m.client, .bool m.back, v] false) :=
    ⟨_, rfl, .alloc _ _, by simp, by rw [Heap.get_alloc, if_pos rfl]⟩
  obtain ⟨H, hA, gA, hn1, G⟩ := hH
  have hH2 : ∃ H2, H.alloc (.cells [.int .i64 n.client, .bool n.back, u] false) = H2 ∧ Grow H H2 ∧ H2.next = H.next + 1 ∧ H2.get H.next = some (.cells [.int .i64 n.client, .bool n.back, u] false) :=
    ⟨_, rfl, .alloc _ _, by simp, by rw [Heap.get_alloc, if_pos rfl]⟩
  obtain ⟨H2, hA2, gA2, hn2, G2⟩ := hH2
  have G1 := gA2.get G
  have es := same_spec (X := X1) (SP := tab) (f := 24) (fun _ _ => rfl) (show tab 24 = some sameS from rfl) (hb.grow (gA.trans gA2)) (hc.grow (gA.trans gA2))
  refine ⟨H2, ?_, gA.trans gA2⟩
  rw [x_fn rfl (show tab 18 = some sf18 from rfl)]
  have hbk : binA .eql .bool (.bool m.back) (.bool n.back) = some (.bool (m.back == n.back)) := by cases m.back <;> cases n.back <;> rfl
  cases h1 : (m.client == n.client)
  · simp only [note_false, x_drawn, l_nil, l_op, l_guard, l_some, l_true, l_false, l_draw, readsA, x_true, x_false, x_seq, x_ops, x_cond, x_skip, x_ret, x_exit, x_block, x_then, x_thenE, x_thenR, x_blockN, x_blockR, x_blockE, s_nil, s_op, s_guard, s_some, s_true, s_false, s_put, s_put0, s_opsR, s_ret, s_norm, aop, ev, evs, List.map_cons, List.map_nil, List.cons_append, List.nil_append, List.append_nil, List.replicate, List.take_succ_cons, List.take_zero, List.take_nil, List.drop_succ_cons, List.drop_zero, List.drop_nil, Nat.zero_add, Nat.add_zero, Nat.reduceAdd, Nat.reduceMul, Nat.reduceLeDiff, Bool.false_eq_true, and_self, List.length_cons, List.length_nil, List.set_cons_zero, List.set_cons_succ, List.getD_cons_zero, List.getD_cons_succ, wantedA, List.getElem?_cons_zero, List.getElem?_cons_succ, q_t, q_f, Bool.not_true, Bool.not_false, b_add, b_sub, b_mul, b_eql, b_neq, b_lss, b_leq, b_gtr, b_geq, b_and, b_or, b_xor, b_quo, b_rem, b_shl, b_shr, unA, Option.map_some, Option.map_none, resA, tupA, Int.reduceLT, not_false_eq_true, not_true_eq_false, decide_true, decide_false, f_bool, c_bool, f_int, c_int, f_str, c_str, f_nilptr, c_nilptr, f_ptr, c_ptr, f_nilsl, c_nilsl, f_slice, c_slice, f_nilmap, c_nilmap, f_map, c_map, f_nilf, c_nilf, f_func, c_func, f_yieldf, c_yieldf, f_nilif, c_nilif, f_iface, c_iface, c_agg, List.all_cons, List.all_nil, Bool.and_true, Bool.true_and, if_true, if_false, ite_true, ite_false, hA, hA2, hfv, hfu, cells_of hfv, cells_of hfu, loadA, G1, G2, h1, Bool.false_and]
  · cases h2 : (m.back == n.back)
    · simp only [note_false, x_drawn, l_nil, l_op, l_guard, l_some, l_true, l_false, l_draw, readsA, x_true, x_false, x_seq, x_ops, x_cond, x_skip, x_ret, x_exit, x_block, x_then, x_thenE, x_thenR, x_blockN, x_blockR, x_blockE, s_nil, s_op, s_guard, s_some, s_true, s_false, s_put, s_put0, s_opsR, s_ret, s_norm, aop, ev, evs, List.map_cons, List.map_nil, List.cons_append, List.nil_append, List.append_nil, List.replicate, List.take_succ_cons, List.take_zero, List.take_nil, List.drop_succ_cons, List.drop_zero, List.drop_nil, Nat.zero_add, Nat.add_zero, Nat.reduceAdd, Nat.reduceMul, Nat.reduceLeDiff, Bool.false_eq_true, and_self, List.length_cons, List.length_nil, List.set_cons_zero, List.set_cons_succ, List.getD_cons_zero, List.getD_cons_succ, wantedA, List.getElem?_cons_zero, List.getElem?_cons_succ, q_t, q_f, Bool.not_true, Bool.not_false, b_add, b_sub, b_mul, b_eql, b_neq, b_lss, b_leq, b_gtr, b_geq, b_and, b_or, b_xor, b_quo, b_rem, b_shl, b_shr, unA, Option.map_some, Option.map_none, resA, tupA, Int.reduceLT, not_false_eq_true, not_true_eq_false, decide_true, decide_false, f_bool, c_bool, f_int, c_int, f_str, c_str, f_nilptr, c_nilptr, f_ptr, c_ptr, f_nilsl, c_nilsl, f_slice, c_slice, f_nilmap, c_nilmap, f_map, c_map, f_nilf, c_nilf, f_func, c_func, f_yieldf, c_yieldf, f_nilif, c_nilif, f_iface, c_iface, c_agg, List.all_cons, List.all_nil, Bool.and_true, Bool.true_and, if_true, if_false, ite_true, ite_false, hA, hA2, hfv, hfu, cells_of hfv, cells_of hfu, loadA, G1, G2, h1, hbk, h2, Bool.false_and, Bool.true_and]
    · simp only [note_false, x_drawn, l_nil, l_op, l_guard, l_some, l_true, l_false, l_draw, readsA, x_true, x_false, x_seq, x_ops, x_cond, x_skip, x_ret, x_exit, x_block, x_then, x_thenE, x_thenR, x_blockN, x_blockR, x_blockE, s_nil, s_op, s_guard, s_some, s_true, s_false, s_put, s_put0, s_opsR, s_ret, s_norm, aop, ev, evs, List.map_cons, List.map_nil, List.cons_append, List.nil_append, List.append_nil, List.replicate, List.take_succ_cons, List.take_zero, List.take_nil, List.drop_succ_cons, List.drop_zero, List.drop_nil, Nat.zero_add, Nat.add_zero, Nat.reduceAdd, Nat.reduceMul, Nat.reduceLeDiff, Bool.false_eq_true, and_self, List.length_cons, List.length_nil, List.set_cons_zero, List.set_cons_succ, List.getD_cons_zero, List.getD_cons_succ, wantedA, List.getElem?_cons_zero, List.getElem?_cons_succ, q_t, q_f, Bool.not_true, Bool.not_false, b_add, b_sub, b_mul, b_eql, b_neq, b_lss, b_leq, b_gtr, b_geq, b_and, b_or, b_xor, b_quo, b_rem, b_shl, b_shr, unA, Option.map_some, Option.map_none, resA, tupA, Int.reduceLT, not_false_eq_true, not_true_eq_false, decide_true, decide_false, f_bool, c_bool, f_int, c_int, f_str, c_str, f_nilptr, c_nilptr, f_ptr, c_ptr, f_nilsl, c_nilsl, f_slice, c_slice, f_nilmap, c_nilmap, f_map, c_map, f_nilf, c_nilf, f_func, c_func, f_yieldf, c_yieldf, f_nilif, c_nilif, f_iface, c_iface, c_agg, List.all_cons, List.all_nil, Bool.and_true, Bool.true_and, if_true, if_false, ite_true, ite_false, hA, hA2, hfv, hfu, cells_of hfv, cells_of hfu, loadA, G1, G2, h1, hbk, h2, es, Bool.false_and, Bool.true_and]

/-! ### both, alike -/
def sendE (l : List Msg) (m : Msg) : Int := if Bad m then 2 else if l.length ≥ 64 then 10 else 0
def sendL (l : List Msg) (m : Msg) : List Msg := if Bad m then l else if l.length ≥ 64 then l else l ++ [m]
def isThere (l : List Msg) (k : Int) : Prop := 0 ≤ k ∧ k < l.length
instance (l : List Msg) (k : Int) : Decidable (isThere l k) := by unfold isThere; infer_instance
def dropL (l : List Msg) (k : Int) : List Msg := if isThere l k then l.eraseIdx k.toNat else l
def takeM (l : List Msg) (k : Int) : Msg := if isThere l k then l.getD k.toNat ⟨0, false, []⟩ else ⟨0, false, []⟩
theorem split_at {l : List Msg} {k : Int} (h : isThere l k) : ∃ l1 m l2, l = l1 ++ m :: l2 ∧ (l1.length : Int) = k ∧ takeM l k = m ∧ dropL l k = l1 ++ l2 := by
  have hk : k.toNat < l.length := by have := h.1; have := h.2; omega
  have hl : (l.take k.toNat).length = k.toNat := by simp; omega
  refine ⟨l.take k.toNat, l[k.toNat], l.drop (k.toNat + 1), by rw [← List.drop_eq_getElem_cons hk, List.take_append_drop], by have := h.1; omega, ?_, ?_⟩
  · rw [takeM, if_pos h, List.getD_eq_getElem?_getD, List.getElem?_eq_getElem hk]; rfl
  · rw [dropL, if_pos h, List.eraseIdx_eq_take_drop_succ]

theorem send7F {h : Heap} {id : Nat} {l : List Msg} {F : Nat → Prop} (hf : ObF [.bool true] h id l F) {cs : List AV} {m : Msg} (hm : MsgAt h cs m) :
    ∃ h' F', xcall X1 tab (.fn 7) [.ptr id 0, .agg cs] h = some (.int .i64 (sendE l m), h') ∧ ObF [.bool true] h' id (sendL l m) F' ∧ Step h h' F F' := by
  obtain ⟨b, Q, ho, hs1, hs2, hs3⟩ := hf.at
  unfold sendE sendL
  by_cases hb : Bad m
  · obtain ⟨h', e, g⟩ := send7bad ho hm hb
    exact ⟨h', F, by rw [if_pos hb]; exact e, by rw [if_pos hb]; exact hf.grow g, .of_grow g⟩
  · by_cases hl : l.length ≥ 64
    · obtain ⟨h', e, g⟩ := send7full ho hm hb hl
      exact ⟨h', F, by rw [if_neg hb, if_pos hl]; exact e, by rw [if_neg hb, if_pos hl]; exact hf.grow g, .of_grow g⟩
    · obtain ⟨h', b', Q', e, ho2, fr⟩ := send7ok ho hm hb (by omega)
      obtain ⟨F', r1, r2, _⟩ := ObF.of hf.1 hs1 hs2 hs3 ho2 fr
      exact ⟨h', F', by rw [if_neg hb, if_neg hl]; exact e, by rw [if_neg hb, if_neg hl]; exact r1, r2⟩
theorem send12F {h : Heap} {id : Nat} {l : List Msg} {F : Nat → Prop} (hf : ObF [] h id l F) {cs : List AV} {m : Msg} (hm : MsgAt h cs m) (hl : l.length ≤ 64) :
    ∃ h' F', xcall X1 tab (.fn 12) [.ptr id 0, .agg cs] h = some (.int .i64 (sendE l m), h') ∧ ObF [] h' id (sendL l m) F' ∧ Step h h' F F' := send12 hf hm hl

theorem drop15F {h : Heap} {id : Nat} {l : List Msg} {F : Nat → Prop} (hf : ObF [.bool true] h id l F) (hl : l.length ≤ 64) (k : Int) :
    ∃ h' F', xcall X1 tab (.fn 15) [.ptr id 0, .int .i64 k] h = some (.bool (decide (isThere l k)), h') ∧ ObF [.bool true] h' id (dropL l k) F' ∧ Step h h' F F' := by
  obtain ⟨b, Q, ho, hs1, hs2, hs3⟩ := hf.at
  by_cases hk : isThere l k
  · obtain ⟨l1, m, l2, rfl, rfl, _, hd⟩ := split_at hk
    obtain ⟨h', e, ho2, fr, _⟩ := drop15 ho hl
    obtain ⟨F', r1, r2, _⟩ := ObF.of hf.1 hs1 hs2 hs3 ho2 fr
    exact ⟨h', F', by rw [decide_eq_true hk]; exact e, by rw [hd]; exact r1, r2⟩
  · refine ⟨h, F, ?_, by rw [dropL, if_neg hk]; exact hf, .of_grow (.refl h)⟩
    have ht := there23 ho k
    have hd : decide (0 ≤ k ∧ k < (l.length : Int)) = false := decide_eq_false hk
    rw [hd] at ht
    rw [decide_eq_false hk, x_fn rfl (show tab 15 = some sf15 from rfl)]
    simp only [note_false, x_drawn, l_nil, l_op, l_guard, l_some, l_true, l_false, l_draw, readsA, x_true, x_false, x_seq, x_ops, x_cond, x_skip, x_ret, x_exit, x_block, x_then, x_thenE, x_thenR, x_blockN, x_blockR, x_blockE, s_nil, s_op, s_guard, s_some, s_true, s_false, s_put, s_put0, s_opsR, s_ret, s_norm, aop, ev, evs, List.map_cons, List.map_nil, List.cons_append, List.nil_append, List.append_nil, List.replicate, List.take_succ_cons, List.take_zero, List.take_nil, List.drop_succ_cons, List.drop_zero, List.drop_nil, Nat.zero_add, Nat.add_zero, Nat.reduceAdd, Nat.reduceMul, Nat.reduceLeDiff, Bool.false_eq_true, and_self, List.length_cons, List.length_nil, List.set_cons_zero, List.set_cons_succ, List.getD_cons_zero, List.getD_cons_succ, wantedA, List.getElem?_cons_zero, List.getElem?_cons_succ, q_t, q_f, Bool.not_true, Bool.not_false, b_add, b_sub, b_mul, b_eql, b_neq, b_lss, b_leq, b_gtr, b_geq, b_and, b_or, b_xor, b_quo, b_rem, b_shl, b_shr, unA, Option.map_some, Option.map_none, resA, tupA, Int.reduceLT, not_false_eq_true, not_true_eq_false, decide_true, decide_false, f_bool, c_bool, f_int, c_int, f_str, c_str, f_nilptr, c_nilptr, f_ptr, c_ptr, f_nilsl, c_nilsl, f_slice, c_slice, f_nilmap, c_nilmap, f_map, c_map, f_nilf, c_nilf, f_func, c_func, f_yieldf, c_yieldf, f_nilif, c_nilif, f_iface, c_iface, c_agg, List.all_cons, List.all_nil, Bool.and_true, Bool.true_and, if_true, if_false, ite_true, ite_false, ht]
theorem drop16F {h : Heap} {id : Nat} {l : List Msg} {F : Nat → Prop} (hf : ObF [] h id l F) (hl : l.length ≤ 64) (k : Int) :
    ∃ h' F', xcall X1 tab (.fn 16) [.ptr id 0, .int .i64 k] h = some (.bool (decide (isThere l k)), h') ∧ ObF [] h' id (dropL l k) F' ∧ Step h h' F F' := by
  by_cases hk : isThere l k
  · have hk' := hk
    obtain ⟨k0, k1⟩ := hk
    obtain ⟨n, rfl⟩ : ∃ n : Nat, k = n := ⟨k.toNat, by omega⟩
    obtain ⟨h', F', e, r⟩ := drop16 hf (k := n) (by omega) (by omega)
    refine ⟨h', F', by rw [decide_eq_true hk']; exact e, ?_, r.2⟩
    rw [dropL, if_pos hk', Int.toNat_natCast]; exact r.1
  · exact ⟨h, F, by rw [decide_eq_false hk]; exact drop16no hf hk, by rw [dropL, if_neg hk]; exact hf, .of_grow (.refl h)⟩

theorem take8F {h : Heap} {id : Nat} {l : List Msg} {F : Nat → Prop} (hf : ObF [.bool true] h id l F) (hl : l.length ≤ 64) (hok : ∀ m ∈ l, ¬ Bad m) (k : Int) (keep : Bool) :
    ∃ v h' F', xcall X1 tab (.fn 8) [.ptr id 0, .int .i64 k, .bool keep] h = some (.tuple [.agg [.int .i64 (takeM l k).client, .bool (takeM l k).back, v], .bool (decide (isThere l k))], h') ∧
      ObF [.bool true] h' id (if keep then l else dropL l k) F' ∧ Step h h' F F' ∧ SpB h' v (takeM l k).bytes h.next F' := by
  obtain ⟨b, Q, ho, hs1, hs2, hs3⟩ := hf.at
  by_cases hk : isThere l k
  · obtain ⟨l1, m, l2, rfl, rfl, hm, hd⟩ := split_at hk
    have hmb : ¬ Bad m := hok m (by simp)
    obtain ⟨v, h', e, ho2, fr, nb⟩ := take8 ho hl (by
      have : ¬ (m.bytes.length : Int) > 4096 := fun e => hmb (.inr (.inr e))
      omega) keep
    obtain ⟨F', r1, r2, r3⟩ := ObF.of hf.1 hs1 hs2 hs3 ho2 fr
    refine ⟨v, h', F', by rw [decide_eq_true hk, hm]; exact e, by rw [hd]; exact r1, r2, ?_⟩
    rw [hm]
    obtain ⟨o1, o2, o3, o4, o5, o6, _⟩ := ho
    rcases nb with nb | ⟨i, cap, ex, e1, e2, e3, e4, e5, e6⟩
    · exact .inl nb
    · refine .inr ⟨i, cap, ex, e1, e2, e3, e4, fun hF => ?_, e5, e6⟩
      rcases r3 i hF with rfl | rfl | hq
      · omega
      · have := o2.resolve_right (by simp); omega
      · have := o6 i hq; omega
  · have ht := there23 (ho.grow (Grow.alloc h (.cells [.int .i64 0, .bool false, .nilsl] false))) k
    have hd : decide (0 ≤ k ∧ k < (l.length : Int)) = false := decide_eq_false hk
    rw [hd] at ht
    have hH : ∃ H, h.alloc (.cells [.int .i64 0, .bool false, .nilsl] false) = H ∧ Grow h H ∧ H.next = h.next + 1 ∧ H.get h.next = some (.cells [.int .i64 0, .bool false, .nilsl] false) :=
      ⟨_, rfl, .alloc _ _, by simp, by rw [Heap.get_alloc, if_pos rfl]⟩
    obtain ⟨H, hA, gA, hHn, G⟩ := hH
    rw [hA] at ht
    have hst : storeA H h.next 0 [.int .i64 0, .bool false, .nilsl] = some (H.set h.next (.cells [.int .i64 0, .bool false, .nilsl] false)) := by simp [storeA, G, splice]
    have hlt : h.next < H.next := by omega
    have L3 : loadA (H.set h.next (.cells [.int .i64 0, .bool false, .nilsl] false)) true 3 h.next 0 = some (.agg [.int .i64 0, .bool false, .nilsl]) := by simp [loadA, get_set, hlt]
    have g2 : Grow h (H.set h.next (.cells [.int .i64 0, .bool false, .nilsl] false)) := Grow.set gA _ (Nat.le_refl _) hlt
    have htm : takeM l k = ⟨0, false, []⟩ := if_neg hk
    refine ⟨.nilsl, H.set h.next (.cells [.int .i64 0, .bool false, .nilsl] false), F, ?_, ?_, .of_grow g2, .inl ⟨rfl, by rw [htm]⟩⟩
    · rw [decide_eq_false hk, htm, x_fn rfl (show tab 8 = some sf8 from rfl)]
      simp only [note_false, x_drawn, l_nil, l_op, l_guard, l_some, l_true, l_false, l_draw, readsA, x_true, x_false, x_seq, x_ops, x_cond, x_skip, x_ret, x_exit, x_block, x_then, x_thenE, x_thenR, x_blockN, x_blockR, x_blockE, s_nil, s_op, s_guard, s_some, s_true, s_false, s_put, s_put0, s_opsR, s_ret, s_norm, aop, ev, evs, List.map_cons, List.map_nil, List.cons_append, List.nil_append, List.append_nil, List.replicate, List.take_succ_cons, List.take_zero, List.take_nil, List.drop_succ_cons, List.drop_zero, List.drop_nil, Nat.zero_add, Nat.add_zero, Nat.reduceAdd, Nat.reduceMul, Nat.reduceLeDiff, Bool.false_eq_true, and_self, List.length_cons, List.length_nil, List.set_cons_zero, List.set_cons_succ, List.getD_cons_zero, List.getD_cons_succ, wantedA, List.getElem?_cons_zero, List.getElem?_cons_succ, q_t, q_f, Bool.not_true, Bool.not_false, b_add, b_sub, b_mul, b_eql, b_neq, b_lss, b_leq, b_gtr, b_geq, b_and, b_or, b_xor, b_quo, b_rem, b_shl, b_shr, unA, Option.map_some, Option.map_none, resA, tupA, Int.reduceLT, not_false_eq_true, not_true_eq_false, decide_true, decide_false, f_bool, c_bool, f_int, c_int, f_str, c_str, f_nilptr, c_nilptr, f_ptr, c_ptr, f_nilsl, c_nilsl, f_slice, c_slice, f_nilmap, c_nilmap, f_map, c_map, f_nilf, c_nilf, f_func, c_func, f_yieldf, c_yieldf, f_nilif, c_nilif, f_iface, c_iface, c_agg, List.all_cons, List.all_nil, Bool.and_true, Bool.true_and, if_true, if_false, ite_true, ite_false, hA, ht, hst, L3, fillA, resA]
    · have : (if keep = true then l else dropL l k) = l := by cases keep <;> simp [dropL, hk]
      rw [this]
      exact hf.grow g2
theorem take17F {h : Heap} {id : Nat} {l : List Msg} {F : Nat → Prop} (hf : ObF [] h id l F) (hl : l.length ≤ 64) (hok : ∀ m ∈ l, ¬ Bad m) (k : Int) (keep : Bool) :
    ∃ v h' F', xcall X1 tab (.fn 17) [.ptr id 0, .int .i64 k, .bool keep] h = some (.tuple [.agg [.int .i64 (takeM l k).client, .bool (takeM l k).back, v], .bool (decide (isThere l k))], h') ∧
      ObF [] h' id (if keep then l else dropL l k) F' ∧ Step h h' F F' ∧ BytesAt h' v (takeM l k).bytes ∧ v.flat = true ∧ (∀ i c e n, v = .slice i 0 n c e 1 → ¬ F' i) := by
  have hH : ∃ H, h.alloc (.cells [.int .i64 0, .bool false, .nilsl] false) = H ∧ Grow h H ∧ H.next = h.next + 1 ∧ H.get h.next = some (.cells [.int .i64 0, .bool false, .nilsl] false) :=
    ⟨_, rfl, .alloc _ _, by simp, by rw [Heap.get_alloc, if_pos rfl]⟩
  obtain ⟨H, hA, gA, hHn, G⟩ := hH
  have hfH := hf.grow gA
  obtain ⟨b, Q, ho, hs1, hs2, hs3⟩ := hfH.at
  obtain ⟨sl, b0, rows, hg, hs, hrl, hrows, nb1, nb2, nb3⟩ := ho.rows
  have L0 : loadA H false 1 id 0 = some sl := by rw [load_of hg]; rfl
  by_cases hk : isThere l k
  · have hk' := hk
    obtain ⟨k0, k1⟩ := hk
    obtain ⟨n, rfl⟩ : ∃ n : Nat, k = n := ⟨k.toNat, by omega⟩
    have hn : n < l.length := by omega
    obtain ⟨row, hrow, v0, hv0, hob⟩ := hrows.get (List.getElem?_eq_getElem hn)
    subst hv0
    have htm : takeM l n = l[n] := by rw [takeM, if_pos hk', Int.toNat_natCast, List.getD_eq_getElem?_getD, List.getElem?_eq_getElem hn]; rfl
    rw [htm]
    generalize hmm : l[n] = m at *
    obtain ⟨cap, rfl, ld, _, hilt⟩ := hs.load hrow
    have hmb : ¬ Bad m := hok m (by rw [← hmm]; exact List.getElem_mem hn)
    obtain ⟨v, H1, e1, q1, nb⟩ := copy26 (h := H) (m := m) ⟨v0, rfl, hob.at⟩ (by
      have : ¬ (m.bytes.length : Int) > 4096 := fun e => hmb (.inr (.inr e))
      omega)
    have hfv : AV.flat v = true := by rcases nb with ⟨rfl, _⟩ | ⟨_, _, _, rfl, _⟩ <;> rfl
    have hH2 : ∃ H2, (H1.alloc (.cells [.int .i64 0, .bool false, .nilsl] false)).set H1.next (.cells [.int .i64 m.client, .bool m.back, v] false) = H2 ∧ Grow H1 H2 ∧ H2.next = H1.next + 1 ∧ H2.get H1.next = some (.cells [.int .i64 m.client, .bool m.back, v] false) :=
      ⟨_, rfl, Grow.set (.alloc _ _) _ (Nat.le_refl _) (by simp), by simp, by rw [get_set, if_pos rfl, if_pos (by simp)]⟩
    obtain ⟨H2, hA2, gA2, hH2n, G2⟩ := hH2
    have hst : storeA (H1.alloc (.cells [.int .i64 0, .bool false, .nilsl] false)) H1.next 0 [.int .i64 m.client, .bool m.back, v] = some H2 := by
      rw [← hA2]; simp [storeA, Heap.get_alloc, splice]
    have q0 := gA.1
    have q2 := q1.1
    have q3 := gA2.1
    have hf2 := hfH.grow (q1.trans gA2)
    have G1 := gA2.get (q1.get G)
    have hdr : ∃ H3 F', (if keep then H3 = H2 else xcall X1 tab (.fn 16) [.ptr id 0, .int .i64 (n : Nat)] H2 = some (.bool true, H3)) ∧ ObF [] H3 id (if keep then l else dropL l n) F' ∧ Step H2 H3 F F' := by
      cases keep
      · obtain ⟨H3, F', e3, k1, k2⟩ := drop16F hf2 hl n
        rw [decide_eq_true hk'] at e3
        exact ⟨H3, F', by simpa using e3, by simpa using k1, k2⟩
      · exact ⟨H2, F, by simp, by simpa using hf2, .of_grow (.refl _)⟩
    obtain ⟨H3, F', e3, k1, k2⟩ := hdr
    have hFn : ∀ j, h.next ≤ j → ¬ F j := fun j hj hF => by have := hf.2.1 j hF; omega
    have G3 : H3.get H1.next = some (.cells [.int .i64 m.client, .bool m.back, v] false) := by rw [k2.2.1 _ (by omega) (hFn _ (by omega))]; exact G2
    have G4 : H3.get h.next = some (.cells [.int .i64 0, .bool false, .nilsl] false) := by rw [k2.2.1 _ (by omega) (hFn _ (Nat.le_refl _))]; exact G1
    have hst2 : storeA H3 h.next 0 [.int .i64 m.client, .bool m.back, v] = some (H3.set h.next (.cells [.int .i64 m.client, .bool m.back, v] false)) := by simp [storeA, G4, splice]
    have hx := k2.1
    have hlt : h.next < H3.next := by omega
    have hF'n : ∀ j, h.next ≤ j → j < H2.next → ¬ F' j := fun j hj hj2 hF => by
      rcases k2.2.2 j hF with e | e
      · exact hFn j hj e
      · omega
    have hstep : Step h (H3.set h.next (.cells [.int .i64 m.client, .bool m.back, v] false)) F F' := by
      refine ⟨by simp; omega, fun j j1 j2 => ?_, fun j hj => ?_⟩
      · rw [get_set, if_neg (by omega), k2.2.1 j (by omega) j2, gA2.2 j (by omega), q1.2 j (by omega), gA.2 j j1]
      · rcases k2.2.2 j hj with e | e
        · exact .inl e
        · exact .inr (by omega)
    refine ⟨v, H3.set h.next (.cells [.int .i64 m.client, .bool m.back, v] false), F', ?_, k1.keep (by simp) (fun j hj => by rw [get_set, if_neg (fun e => hF'n j (by omega) (by omega) hj)]), hstep, ?_, hfv, ?_⟩
    · rw [decide_eq_true hk', x_fn rfl (show tab 17 = some sf17 from rfl)]
      have L2 : loadA H3 true 3 H1.next 0 = some (.agg [.int .i64 m.client, .bool m.back, v]) := by simp [loadA, G3]
      have L3 : loadA (H3.set h.next (.cells [.int .i64 m.client, .bool m.back, v] false)) true 3 h.next 0 = some (.agg [.int .i64 m.client, .bool m.back, v]) := by simp [loadA, get_set, hlt]
      have h0 : ¬ ((n : Int) < 0) := by omega
      have h1 : ¬ ((n : Int) ≥ (rows.length : Int)) := by omega
      have hix : (0 : Int) ≤ (n : Int) ∧ (n : Int) < (rows.length : Int) := by omega
      have hin : 0 + (n : Int).toNat * 3 = n * 3 := by omega
      cases keep
      · simp only [Bool.false_eq_true, if_false] at e3
        simp only [note_false, x_drawn, l_nil, l_op, l_guard, l_some, l_true, l_false, l_draw, readsA, x_true, x_false, x_seq, x_ops, x_cond, x_skip, x_ret, x_exit, x_block, x_then, x_thenE, x_thenR, x_blockN, x_blockR, x_blockE, s_nil, s_op, s_guard, s_some, s_true, s_false, s_put, s_put0, s_opsR, s_ret, s_norm, aop, ev, evs, List.map_cons, List.map_nil, List.cons_append, List.nil_append, List.append_nil, List.replicate, List.take_succ_cons, List.take_zero, List.take_nil, List.drop_succ_cons, List.drop_zero, List.drop_nil, Nat.zero_add, Nat.add_zero, Nat.reduceAdd, Nat.reduceMul, Nat.reduceLeDiff, Bool.false_eq_true, and_self, List.length_cons, List.length_nil, List.set_cons_zero, List.set_cons_succ, List.getD_cons_zero, List.getD_cons_succ, wantedA, List.getElem?_cons_zero, List.getElem?_cons_succ, q_t, q_f, Bool.not_true, Bool.not_false, b_add, b_sub, b_mul, b_eql, b_neq, b_lss, b_leq, b_gtr, b_geq, b_and, b_or, b_xor, b_quo, b_rem, b_shl, b_shr, unA, Option.map_some, Option.map_none, resA, tupA, Int.reduceLT, not_false_eq_true, not_true_eq_false, decide_true, decide_false, f_bool, c_bool, f_int, c_int, f_str, c_str, f_nilptr, c_nilptr, f_ptr, c_ptr, f_nilsl, c_nilsl, f_slice, c_slice, f_nilmap, c_nilmap, f_map, c_map, f_nilf, c_nilf, f_func, c_func, f_yieldf, c_yieldf, f_nilif, c_nilif, f_iface, c_iface, c_agg, List.all_cons, List.all_nil, Bool.and_true, Bool.true_and, if_true, if_false, ite_true, ite_false, hA, L0, L2, L3, h0, h1, hix, hin, ld, e1, hst, hst2, hfv, cells_of hfv, e3, resA]
      · simp only [if_true] at e3
        subst e3
        simp only [note_false, x_drawn, l_nil, l_op, l_guard, l_some, l_true, l_false, l_draw, readsA, x_true, x_false, x_seq, x_ops, x_cond, x_skip, x_ret, x_exit, x_block, x_then, x_thenE, x_thenR, x_blockN, x_blockR, x_blockE, s_nil, s_op, s_guard, s_some, s_true, s_false, s_put, s_put0, s_opsR, s_ret, s_norm, aop, ev, evs, List.map_cons, List.map_nil, List.cons_append, List.nil_append, List.append_nil, List.replicate, List.take_succ_cons, List.take_zero, List.take_nil, List.drop_succ_cons, List.drop_zero, List.drop_nil, Nat.zero_add, Nat.add_zero, Nat.reduceAdd, Nat.reduceMul, Nat.reduceLeDiff, Bool.false_eq_true, and_self, List.length_cons, List.length_nil, List.set_cons_zero, List.set_cons_succ, List.getD_cons_zero, List.getD_cons_succ, wantedA, List.getElem?_cons_zero, List.getElem?_cons_succ, q_t, q_f, Bool.not_true, Bool.not_false, b_add, b_sub, b_mul, b_eql, b_neq, b_lss, b_leq, b_gtr, b_geq, b_and, b_or, b_xor, b_quo, b_rem, b_shl, b_shr, unA, Option.map_some, Option.map_none, resA, tupA, Int.reduceLT, not_false_eq_true, not_true_eq_false, decide_true, decide_false, f_bool, c_bool, f_int, c_int, f_str, c_str, f_nilptr, c_nilptr, f_ptr, c_ptr, f_nilsl, c_nilsl, f_slice, c_slice, f_nilmap, c_nilmap, f_map, c_map, f_nilf, c_nilf, f_func, c_func, f_yieldf, c_yieldf, f_nilif, c_nilif, f_iface, c_iface, c_agg, List.all_cons, List.all_nil, Bool.and_true, Bool.true_and, if_true, if_false, ite_true, ite_false, hA, L0, L2, L3, h0, h1, hix, hin, ld, e1, hst, hst2, hfv, cells_of hfv, resA]
    · rcases nb with nb | ⟨i, cap', ex, e, u1, u2, u3, u4, u5⟩
      · exact .inl nb
      · have := Heap.lt_of_get u4
        refine .inr ⟨i, 0, cap', ex, ints m.bytes, false, e, u1, ?_, by simp, by simp [List.take_of_length_le]⟩
        rw [get_set, if_neg (by omega), k2.2.1 i (by omega) (hFn i (by omega)), gA2.2 i this]
        exact u4
    · intro i c e n' hv
      rcases nb with nb | ⟨i', cap', ex, e', u1, u2, u3, u4, u5⟩
      · rw [nb.1] at hv; cases hv
      · rw [e'] at hv
        cases hv
        have := Heap.lt_of_get u4
        exact hF'n _ (by omega) (by omega)
  · have htm : takeM l k = ⟨0, false, []⟩ := if_neg hk
    have hst : storeA H h.next 0 [.int .i64 0, .bool false, .nilsl] = some (H.set h.next (.cells [.int .i64 0, .bool false, .nilsl] false)) := by simp [storeA, G, splice]
    have hlt : h.next < H.next := by omega
    have L3 : loadA (H.set h.next (.cells [.int .i64 0, .bool false, .nilsl] false)) true 3 h.next 0 = some (.agg [.int .i64 0, .bool false, .nilsl]) := by simp [loadA, get_set, hlt]
    have g2 : Grow h (H.set h.next (.cells [.int .i64 0, .bool false, .nilsl] false)) := Grow.set gA _ (Nat.le_refl _) hlt
    refine ⟨.nilsl, H.set h.next (.cells [.int .i64 0, .bool false, .nilsl] false), F, ?_, ?_, .of_grow g2, .inl ⟨rfl, by rw [htm]⟩, rfl, fun _ _ _ _ e => by cases e⟩
    · rw [decide_eq_false hk, htm, x_fn rfl (show tab 17 = some sf17 from rfl)]
      by_cases h1 : k < 0
      · simp only [note_false, x_drawn, l_nil, l_op, l_guard, l_some, l_true, l_false, l_draw, readsA, x_true, x_false, x_seq, x_ops, x_cond, x_skip, x_ret, x_exit, x_block, x_then, x_thenE, x_thenR, x_blockN, x_blockR, x_blockE, s_nil, s_op, s_guard, s_some, s_true, s_false, s_put, s_put0, s_opsR, s_ret, s_norm, aop, ev, evs, List.map_cons, List.map_nil, List.cons_append, List.nil_append, List.append_nil, List.replicate, List.take_succ_cons, List.take_zero, List.take_nil, List.drop_succ_cons, List.drop_zero, List.drop_nil, Nat.zero_add, Nat.add_zero, Nat.reduceAdd, Nat.reduceMul, Nat.reduceLeDiff, Bool.false_eq_true, and_self, List.length_cons, List.length_nil, List.set_cons_zero, List.set_cons_succ, List.getD_cons_zero, List.getD_cons_succ, wantedA, List.getElem?_cons_zero, List.getElem?_cons_succ, q_t, q_f, Bool.not_true, Bool.not_false, b_add, b_sub, b_mul, b_eql, b_neq, b_lss, b_leq, b_gtr, b_geq, b_and, b_or, b_xor, b_quo, b_rem, b_shl, b_shr, unA, Option.map_some, Option.map_none, resA, tupA, Int.reduceLT, not_false_eq_true, not_true_eq_false, decide_true, decide_false, f_bool, c_bool, f_int, c_int, f_str, c_str, f_nilptr, c_nilptr, f_ptr, c_ptr, f_nilsl, c_nilsl, f_slice, c_slice, f_nilmap, c_nilmap, f_map, c_map, f_nilf, c_nilf, f_func, c_func, f_yieldf, c_yieldf, f_nilif, c_nilif, f_iface, c_iface, c_agg, List.all_cons, List.all_nil, Bool.and_true, Bool.true_and, if_true, if_false, ite_true, ite_false, hA, h1, hst, L3, fillA, resA]
      · have h2 : k ≥ (rows.length : Int) := by
          rw [hrl]
          unfold isThere at hk
          omega
        rcases hs.2 with ⟨rfl, rfl⟩ | ⟨cap, rest, rfl, _⟩
        · have h2' : k ≥ 0 := by simpa using h2
          simp only [note_false, x_drawn, l_nil, l_op, l_guard, l_some, l_true, l_false, l_draw, readsA, x_true, x_false, x_seq, x_ops, x_cond, x_skip, x_ret, x_exit, x_block, x_then, x_thenE, x_thenR, x_blockN, x_blockR, x_blockE, s_nil, s_op, s_guard, s_some, s_true, s_false, s_put, s_put0, s_opsR, s_ret, s_norm, aop, ev, evs, List.map_cons, List.map_nil, List.cons_append, List.nil_append, List.append_nil, List.replicate, List.take_succ_cons, List.take_zero, List.take_nil, List.drop_succ_cons, List.drop_zero, List.drop_nil, Nat.zero_add, Nat.add_zero, Nat.reduceAdd, Nat.reduceMul, Nat.reduceLeDiff, Bool.false_eq_true, and_self, List.length_cons, List.length_nil, List.set_cons_zero, List.set_cons_succ, List.getD_cons_zero, List.getD_cons_succ, wantedA, List.getElem?_cons_zero, List.getElem?_cons_succ, q_t, q_f, Bool.not_true, Bool.not_false, b_add, b_sub, b_mul, b_eql, b_neq, b_lss, b_leq, b_gtr, b_geq, b_and, b_or, b_xor, b_quo, b_rem, b_shl, b_shr, unA, Option.map_some, Option.map_none, resA, tupA, Int.reduceLT, not_false_eq_true, not_true_eq_false, decide_true, decide_false, f_bool, c_bool, f_int, c_int, f_str, c_str, f_nilptr, c_nilptr, f_ptr, c_ptr, f_nilsl, c_nilsl, f_slice, c_slice, f_nilmap, c_nilmap, f_map, c_map, f_nilf, c_nilf, f_func, c_func, f_yieldf, c_yieldf, f_nilif, c_nilif, f_iface, c_iface, c_agg, List.all_cons, List.all_nil, Bool.and_true, Bool.true_and, if_true, if_false, ite_true, ite_false, hA, h1, L0, h2', hst, L3, fillA, resA]
        · simp only [note_false, x_drawn, l_nil, l_op, l_guard, l_some, l_true, l_false, l_draw, readsA, x_true, x_false, x_seq, x_ops, x_cond, x_skip, x_ret, x_exit, x_block, x_then, x_thenE, x_thenR, x_blockN, x_blockR, x_blockE, s_nil, s_op, s_guard, s_some, s_true, s_false, s_put, s_put0, s_opsR, s_ret, s_norm, aop, ev, evs, List.map_cons, List.map_nil, List.cons_append, List.nil_append, List.append_nil, List.replicate, List.take_succ_cons, List.take_zero, List.take_nil, List.drop_succ_cons, List.drop_zero, List.drop_nil, Nat.zero_add, Nat.add_zero, Nat.reduceAdd, Nat.reduceMul, Nat.reduceLeDiff, Bool.false_eq_true, and_self, List.length_cons, List.length_nil, List.set_cons_zero, List.set_cons_succ, List.getD_cons_zero, List.getD_cons_succ, wantedA, List.getElem?_cons_zero, List.getElem?_cons_succ, q_t, q_f, Bool.not_true, Bool.not_false, b_add, b_sub, b_mul, b_eql, b_neq, b_lss, b_leq, b_gtr, b_geq, b_and, b_or, b_xor, b_quo, b_rem, b_shl, b_shr, unA, Option.map_some, Option.map_none, resA, tupA, Int.reduceLT, not_false_eq_true, not_true_eq_false, decide_true, decide_false, f_bool, c_bool, f_int, c_int, f_str, c_str, f_nilptr, c_nilptr, f_ptr, c_ptr, f_nilsl, c_nilsl, f_slice, c_slice, f_nilmap, c_nilmap, f_map, c_map, f_nilf, c_nilf, f_func, c_func, f_yieldf, c_yieldf, f_nilif, c_nilif, f_iface, c_iface, c_agg, List.all_cons, List.all_nil, Bool.and_true, Bool.true_and, if_true, if_false, ite_true, ite_false, hA, h1, L0, h2, hst, L3, fillA, resA]
    · have : (if keep = true then l else dropL l k) = l := by cases keep <;> simp [dropL, hk]
      rw [this]
      exact hf.grow g2
end Go.Proofs.Ytdgpjefbdocepaa.Ya
