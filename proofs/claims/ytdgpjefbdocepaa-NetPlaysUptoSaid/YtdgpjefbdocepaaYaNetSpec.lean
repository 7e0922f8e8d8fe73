/-
  Net: what its functions do, each walked once.
-/
import Derived.Test.YtdgpjefbdocepaaYaTab
import Derived.Test.YtdgpjefbdocepaaRows
import Derived.Test.YtdgpjefbdocepaaYaRows
namespace Go.Proofs.Ytdgpjefbdocepaa.Ya
open Go.Ya
set_option linter.unusedVariables false
set_option linter.unusedSimpArgs false
set_option maxRecDepth 100000
set_option maxHeartbeats 4000000

def noX : Known := fun _ _ _ => none
theorem lives : (acallF noX tab 200 (.fn 10) [] emptyHeap).map (·.1) = some (.bool true) := by kernel_rfl
def X1 : Known := orK (knownBare [(10, [], .bool true)]) (orK (leftK 13) (spoilK 14))
theorem x1ok : XOk Try.prog X1 := (knownBare_ok (XOk.none _) conv mixed (by
  intro x hx
  simp only [List.mem_singleton] at hx
  subst hx
  exact ⟨rfl, rfl, 200, by rw [← acallF_eq]; exact lives⟩)).or ((leftK_ok conv mixed (f := 13) (fS := 24) rfl rfl).or (spoilK_ok conv mixed (f := 14) rfl))
theorem lives10 (h : Heap) : xcall X1 tab (.fn 10) [] h = some (.bool true, h) := ofRun (n := 1) (by kernel_rfl)

/-- A message: client, back, bytes. -/
structure Msg where
  client : Int
  back : Bool
  bytes : List Int

/-- The three cells of a message. -/
def MsgAt (h : Heap) (cs : List AV) (m : Msg) : Prop := ∃ v, cs = [.int .i64 m.client, .bool m.back, v] ∧ BytesAt h v m.bytes

/-- none: of a net that was made. -/
theorem none21 {h : Heap} {id : Nat} {sl : AV} (hg : h.get id = some (.cells [sl, .bool true] false)) : xcall X1 tab (.fn 21) [.ptr id 0] h = some (.bool false, h) := by
  rw [x_fn rfl (show tab 21 = some sf21 from rfl)]
  simp only [note_false, x_drawn, l_nil, l_op, l_guard, l_some, l_true, l_false, l_draw, readsA, x_true, x_false, x_seq, x_ops, x_cond, x_skip, x_ret, x_exit, x_block, x_then, x_thenE, x_thenR, x_blockN, x_blockR, x_blockE, s_nil, s_op, s_guard, s_some, s_true, s_false, s_put, s_put0, s_opsR, s_ret, s_norm, aop, ev, evs, List.map_cons, List.map_nil, List.cons_append, List.nil_append, List.append_nil, List.replicate, List.take_succ_cons, List.take_zero, List.take_nil, List.drop_succ_cons, List.drop_zero, List.drop_nil, Nat.zero_add, Nat.add_zero, Nat.reduceAdd, Nat.reduceMul, Nat.reduceLeDiff, Bool.false_eq_true, and_self, List.length_cons, List.length_nil, List.set_cons_zero, List.set_cons_succ, List.getD_cons_zero, List.getD_cons_succ, wantedA, List.getElem?_cons_zero, List.getElem?_cons_succ, q_t, q_f, Bool.not_true, Bool.not_false, b_add, b_sub, b_mul, b_eql, b_neq, b_lss, b_leq, b_gtr, b_geq, b_and, b_or, b_xor, b_quo, b_rem, b_shl, b_shr, unA, Option.map_some, Option.map_none, resA, tupA, Int.reduceLT, not_false_eq_true, not_true_eq_false, decide_true, decide_false, f_bool, c_bool, f_int, c_int, f_str, c_str, f_nilptr, c_nilptr, f_ptr, c_ptr, f_nilsl, c_nilsl, f_slice, c_slice, f_nilmap, c_nilmap, f_map, c_map, f_nilf, c_nilf, f_func, c_func, f_yieldf, c_yieldf, f_nilif, c_nilif, f_iface, c_iface, c_agg, List.all_cons, List.all_nil, Bool.and_true, Bool.true_and, if_true, if_false, ite_true, ite_false, show binA .eql .ptr (.ptr id 0) .nilptr = some (.bool false) from rfl, loadA, hg, Bool.false_eq_true, Nat.zero_add]

/-- copied: a message of its own memory. -/
theorem copied22 {h : Heap} {cs : List AV} {m : Msg} (hm : MsgAt h cs m) (hl : m.bytes.length ≤ 140737488355328) :
    ∃ v h', xcall X1 tab (.fn 22) [.agg cs] h = some (.agg [.int .i64 m.client, .bool m.back, v], h') ∧ Grow h h' ∧ NewBytes h h' v m.bytes := by
  obtain ⟨v0, rfl, hb⟩ := hm
  rw [x_fn rfl (show tab 22 = some sf22 from rfl)]
  have hfl : AV.flat v0 = true := by rcases hb with ⟨rfl, _⟩ | ⟨_, _, _, _, _, _, rfl, _⟩ <;> rfl
  have hH : ∃ H, h.alloc (.cells [.int .i64 m.client, .bool m.back, v0] false) = H ∧ Grow h H ∧ H.next = h.next + 1 ∧ H.get h.next = some (.cells [.int .i64 m.client, .bool m.back, v0] false) :=
    ⟨_, rfl, .alloc _ _, by simp, by rw [Heap.get_alloc, if_pos rfl]⟩
  obtain ⟨H, hA, gA, hn, G⟩ := hH
  have hH2 : ∃ H2, H.alloc (.cells [.int .i64 0, .bool false, .nilsl] false) = H2 ∧ Grow H H2 ∧ H2.next = H.next + 1 ∧ H2.get H.next = some (.cells [.int .i64 0, .bool false, .nilsl] false) :=
    ⟨_, rfl, .alloc _ _, by simp, by rw [Heap.get_alloc, if_pos rfl]⟩
  obtain ⟨H2, hA2, gA2, hn2, G2⟩ := hH2
  obtain ⟨v', h', e, g, nb, _⟩ := clone_spec (X := X1) (SP := tab) (f := 28) (fun _ _ => rfl) (show tab 28 = some cloneS from rfl) (hb.grow (gA.trans gA2)) hl
  have A0 := gA2.get G
  have A1 := g.get A0
  have A2 := g.get G2
  have hx1 := g.1
  have hfv : AV.flat v' = true := by rcases nb with ⟨rfl, _⟩ | ⟨_, _, _, rfl, _⟩ <;> rfl
  have hlt : h.next < h'.next := by omega
  have hlt2 : H.next < h'.next := by omega
  have hne : H.next ≠ h.next := by omega
  simp only [note_false, x_drawn, l_nil, l_op, l_guard, l_some, l_true, l_false, l_draw, readsA, x_true, x_false, x_seq, x_ops, x_cond, x_skip, x_ret, x_exit, x_block, x_then, x_thenE, x_thenR, x_blockN, x_blockR, x_blockE, s_nil, s_op, s_guard, s_some, s_true, s_false, s_put, s_put0, s_opsR, s_ret, s_norm, aop, ev, evs, List.map_cons, List.map_nil, List.cons_append, List.nil_append, List.append_nil, List.replicate, List.take_succ_cons, List.take_zero, List.take_nil, List.drop_succ_cons, List.drop_zero, List.drop_nil, Nat.zero_add, Nat.add_zero, Nat.reduceAdd, Nat.reduceMul, Nat.reduceLeDiff, Bool.false_eq_true, and_self, List.length_cons, List.length_nil, List.set_cons_zero, List.set_cons_succ, List.getD_cons_zero, List.getD_cons_succ, wantedA, List.getElem?_cons_zero, List.getElem?_cons_succ, q_t, q_f, Bool.not_true, Bool.not_false, b_add, b_sub, b_mul, b_eql, b_neq, b_lss, b_leq, b_gtr, b_geq, b_and, b_or, b_xor, b_quo, b_rem, b_shl, b_shr, unA, Option.map_some, Option.map_none, resA, tupA, Int.reduceLT, not_false_eq_true, not_true_eq_false, decide_true, decide_false, f_bool, c_bool, f_int, c_int, f_str, c_str, f_nilptr, c_nilptr, f_ptr, c_ptr, f_nilsl, c_nilsl, f_slice, c_slice, f_nilmap, c_nilmap, f_map, c_map, f_nilf, c_nilf, f_func, c_func, f_yieldf, c_yieldf, f_nilif, c_nilif, f_iface, c_iface, c_agg, List.all_cons, List.all_nil, Bool.and_true, Bool.true_and, if_true, if_false, ite_true, ite_false, hA, hA2, hfl, hfv, cells_of hfv, loadA, storeA, splice, A0, A1, A2, e, Nat.zero_add, Nat.reduceAdd, Bool.false_eq_true, Nat.reduceLeDiff, List.length_cons, List.length_nil, List.take_succ_cons, List.take_zero, List.drop_succ_cons, List.drop_zero, and_self, get_set, Heap.next_set, hne, hlt, hlt2]
  refine ⟨v', _, rfl, ?_, ?_⟩
  · exact Grow.set (Grow.set (gA.trans (gA2.trans g)) _ (Nat.le_refl _) (by omega)) _ (by omega) (by simp; omega)
  · rcases nb with nb | ⟨i, cap, ex, rfl, k1, k2, k3, k4, k5⟩
    · exact .inl nb
    · refine .inr ⟨i, cap, ex, rfl, k1, k2, by omega, ?_, k5.imp (fun e => e) fun e => ?_⟩
      · rw [get_set, if_neg (by omega), get_set, if_neg (by omega)]
        exact k4
      · rw [Heap.byteAt_of (h := h')]
        · exact e
        · rw [get_set, if_neg (by omega), get_set, if_neg (by omega)]

/-- Bytes of their own block. -/
def OwnBytes (h : Heap) (v : AV) (bs : List Int) (P : Nat → Prop) : Prop :=
  (v = .nilsl ∧ bs = []) ∨ ∃ k cap ex, v = .slice k 0 bs.length cap ex 1 ∧ bs.length ≤ cap ∧ P k ∧ h.get k = some (.cells (ints bs) false)
/-- A row of three cells. -/
def RowAt (h : Heap) (row : List AV) (m : Msg) (P : Nat → Prop) : Prop := ∃ v, row = [.int .i64 m.client, .bool m.back, v] ∧ OwnBytes h v m.bytes P
inductive Rows2 (h : Heap) (P : Nat → Prop) : List (List AV) → List Msg → Prop
  | nil : Rows2 h P [] []
  | cons {row : List AV} {m : Msg} {rows : List (List AV)} {ms : List Msg} : RowAt h row m P → Rows2 h P rows ms → Rows2 h P (row :: rows) (m :: ms)

/-- A net: its object, its slice, its rows; Q: the blocks of the bytes. -/
def ObAt (tl : List AV) (h : Heap) (id : Nat) (l : List Msg) (b : Nat) (Q : Nat → Prop) : Prop :=
  id < h.next ∧ (b < h.next ∨ l = []) ∧ b ≠ id ∧ ¬ Q id ∧ ¬ Q b ∧ (∀ j, Q j → j < h.next) ∧ ∃ sl, h.get id = some (.cells (sl :: tl) false) ∧
    ((sl = .nilsl ∧ l = []) ∨ ∃ cap rows rest, sl = .slice b 0 l.length cap false 3 ∧ l.length ≤ cap ∧ h.get b = some (.cells (rows.flatten ++ rest) false) ∧ (rows.flatten ++ rest).length = cap * 3 ∧ Rows2 h Q rows l)
abbrev NetAt := ObAt [.bool true]

theorem OwnBytes.mono {h h' : Heap} {v : AV} {bs : List Int} {P Q : Nat → Prop} (ho : OwnBytes h v bs P) (hpq : ∀ j, P j → Q j) (hg : ∀ j, P j → h'.get j = h.get j) : OwnBytes h' v bs Q := by
  rcases ho with ho | ⟨k, cap, ex, e1, e2, e3, e4⟩
  · exact .inl ho
  · exact .inr ⟨k, cap, ex, e1, e2, hpq _ e3, (hg _ e3).trans e4⟩
theorem Rows2.mono {h h' : Heap} {P Q : Nat → Prop} (hpq : ∀ j, P j → Q j) (hg : ∀ j, P j → h'.get j = h.get j) {rows : List (List AV)} {ms : List Msg} (hr : Rows2 h P rows ms) : Rows2 h' Q rows ms := by
  induction hr with
  | nil => exact .nil
  | cons hrow _ ih =>
    obtain ⟨v, e, ho⟩ := hrow
    exact .cons ⟨v, e, ho.mono hpq hg⟩ ih
theorem Rows2.len {h : Heap} {P : Nat → Prop} {rows : List (List AV)} {ms : List Msg} (hr : Rows2 h P rows ms) : rows.length = ms.length ∧ rows.flatten.length = ms.length * 3 := by
  induction hr with
  | nil => exact ⟨rfl, rfl⟩
  | cons hrow _ ih =>
    obtain ⟨v, rfl, _⟩ := hrow
    refine ⟨by simp [ih.1], ?_⟩
    simp [ih.2]; omega
theorem Rows2.append {h : Heap} {P : Nat → Prop} {rows rows' : List (List AV)} {ms ms' : List Msg} (hr : Rows2 h P rows ms) (hr' : Rows2 h P rows' ms') : Rows2 h P (rows ++ rows') (ms ++ ms') := by
  induction hr with
  | nil => exact hr'
  | cons hrow _ ih => exact .cons hrow ih
theorem Rows2.take {h : Heap} {P : Nat → Prop} {rows : List (List AV)} {ms : List Msg} (hr : Rows2 h P rows ms) : ∀ n, Rows2 h P (rows.take n) (ms.take n) := by
  induction hr with
  | nil => intro n; simpa using Rows2.nil
  | cons hrow _ ih => intro n; cases n with
    | zero => exact .nil
    | succ n => exact .cons hrow (ih n)
theorem Rows2.drop {h : Heap} {P : Nat → Prop} {rows : List (List AV)} {ms : List Msg} (hr : Rows2 h P rows ms) : ∀ n, Rows2 h P (rows.drop n) (ms.drop n) := by
  induction hr with
  | nil => intro n; simpa using Rows2.nil
  | cons hrow h2 ih => intro n; cases n with
    | zero => exact .cons hrow h2
    | succ n => exact ih n
theorem Rows2.get {h : Heap} {P : Nat → Prop} {rows : List (List AV)} {ms : List Msg} (hr : Rows2 h P rows ms) : ∀ {i : Nat} {m : Msg}, ms[i]? = some m → ∃ row, rows[i]? = some row ∧ RowAt h row m P := by
  induction hr with
  | nil => intro i m e; simp at e
  | cons hrow _ ih => intro i m e; cases i with
    | zero => simp at e; subst e; exact ⟨_, rfl, hrow⟩
    | succ i => simpa using ih (by simpa using e)

/-- there: does one fly there? -/
theorem there23 {h : Heap} {id b : Nat} {l : List Msg} {Q : Nat → Prop} (hn : NetAt h id l b Q) (k : Int) : xcall X1 tab (.fn 23) [.ptr id 0, .int .i64 k] h = some (.bool (decide (0 ≤ k ∧ k < l.length)), h) := by
  obtain ⟨_, _, _, _, _, _, sl, hg, hs⟩ := hn
  rw [x_fn rfl (show tab 23 = some sf23 from rfl)]
  have hl : aop (xcall X1 tab) [.ptr id 0] h (.len .sl (.c sl)) = some (.int .i64 l.length, h) := by
    rcases hs with ⟨rfl, rfl⟩ | ⟨cap, rows, rest, rfl, _⟩ <;> rfl
  by_cases h1 : k ≥ 0
  · by_cases h2 : k < l.length
    · rcases hs with ⟨rfl, rfl⟩ | ⟨cap, rows, rest, rfl, _⟩
      · simp at h2; omega
      · simp only [note_false, x_drawn, l_nil, l_op, l_guard, l_some, l_true, l_false, l_draw, readsA, x_true, x_false, x_seq, x_ops, x_cond, x_skip, x_ret, x_exit, x_block, x_then, x_thenE, x_thenR, x_blockN, x_blockR, x_blockE, s_nil, s_op, s_guard, s_some, s_true, s_false, s_put, s_put0, s_opsR, s_ret, s_norm, aop, ev, evs, List.map_cons, List.map_nil, List.cons_append, List.nil_append, List.append_nil, List.replicate, List.take_succ_cons, List.take_zero, List.take_nil, List.drop_succ_cons, List.drop_zero, List.drop_nil, Nat.zero_add, Nat.add_zero, Nat.reduceAdd, Nat.reduceMul, Nat.reduceLeDiff, Bool.false_eq_true, and_self, List.length_cons, List.length_nil, List.set_cons_zero, List.set_cons_succ, List.getD_cons_zero, List.getD_cons_succ, wantedA, List.getElem?_cons_zero, List.getElem?_cons_succ, q_t, q_f, Bool.not_true, Bool.not_false, b_add, b_sub, b_mul, b_eql, b_neq, b_lss, b_leq, b_gtr, b_geq, b_and, b_or, b_xor, b_quo, b_rem, b_shl, b_shr, unA, Option.map_some, Option.map_none, resA, tupA, Int.reduceLT, not_false_eq_true, not_true_eq_false, decide_true, decide_false, f_bool, c_bool, f_int, c_int, f_str, c_str, f_nilptr, c_nilptr, f_ptr, c_ptr, f_nilsl, c_nilsl, f_slice, c_slice, f_nilmap, c_nilmap, f_map, c_map, f_nilf, c_nilf, f_func, c_func, f_yieldf, c_yieldf, f_nilif, c_nilif, f_iface, c_iface, c_agg, List.all_cons, List.all_nil, Bool.and_true, Bool.true_and, if_true, if_false, ite_true, ite_false, none21 hg, loadA, hg, h1, h2, Nat.zero_add, Bool.false_eq_true]
        try simp [h1, h2]
    · rcases hs with ⟨rfl, rfl⟩ | ⟨cap, rows, rest, rfl, _⟩
      · have h2' : ¬ k < 0 := by omega
        simp only [note_false, x_drawn, l_nil, l_op, l_guard, l_some, l_true, l_false, l_draw, readsA, x_true, x_false, x_seq, x_ops, x_cond, x_skip, x_ret, x_exit, x_block, x_then, x_thenE, x_thenR, x_blockN, x_blockR, x_blockE, s_nil, s_op, s_guard, s_some, s_true, s_false, s_put, s_put0, s_opsR, s_ret, s_norm, aop, ev, evs, List.map_cons, List.map_nil, List.cons_append, List.nil_append, List.append_nil, List.replicate, List.take_succ_cons, List.take_zero, List.take_nil, List.drop_succ_cons, List.drop_zero, List.drop_nil, Nat.zero_add, Nat.add_zero, Nat.reduceAdd, Nat.reduceMul, Nat.reduceLeDiff, Bool.false_eq_true, and_self, List.length_cons, List.length_nil, List.set_cons_zero, List.set_cons_succ, List.getD_cons_zero, List.getD_cons_succ, wantedA, List.getElem?_cons_zero, List.getElem?_cons_succ, q_t, q_f, Bool.not_true, Bool.not_false, b_add, b_sub, b_mul, b_eql, b_neq, b_lss, b_leq, b_gtr, b_geq, b_and, b_or, b_xor, b_quo, b_rem, b_shl, b_shr, unA, Option.map_some, Option.map_none, resA, tupA, Int.reduceLT, not_false_eq_true, not_true_eq_false, decide_true, decide_false, f_bool, c_bool, f_int, c_int, f_str, c_str, f_nilptr, c_nilptr, f_ptr, c_ptr, f_nilsl, c_nilsl, f_slice, c_slice, f_nilmap, c_nilmap, f_map, c_map, f_nilf, c_nilf, f_func, c_func, f_yieldf, c_yieldf, f_nilif, c_nilif, f_iface, c_iface, c_agg, List.all_cons, List.all_nil, Bool.and_true, Bool.true_and, if_true, if_false, ite_true, ite_false, none21 hg, loadA, hg, h1, h2', Nat.zero_add, Bool.false_eq_true]
        try simp [h2']
      · simp only [note_false, x_drawn, l_nil, l_op, l_guard, l_some, l_true, l_false, l_draw, readsA, x_true, x_false, x_seq, x_ops, x_cond, x_skip, x_ret, x_exit, x_block, x_then, x_thenE, x_thenR, x_blockN, x_blockR, x_blockE, s_nil, s_op, s_guard, s_some, s_true, s_false, s_put, s_put0, s_opsR, s_ret, s_norm, aop, ev, evs, List.map_cons, List.map_nil, List.cons_append, List.nil_append, List.append_nil, List.replicate, List.take_succ_cons, List.take_zero, List.take_nil, List.drop_succ_cons, List.drop_zero, List.drop_nil, Nat.zero_add, Nat.add_zero, Nat.reduceAdd, Nat.reduceMul, Nat.reduceLeDiff, Bool.false_eq_true, and_self, List.length_cons, List.length_nil, List.set_cons_zero, List.set_cons_succ, List.getD_cons_zero, List.getD_cons_succ, wantedA, List.getElem?_cons_zero, List.getElem?_cons_succ, q_t, q_f, Bool.not_true, Bool.not_false, b_add, b_sub, b_mul, b_eql, b_neq, b_lss, b_leq, b_gtr, b_geq, b_and, b_or, b_xor, b_quo, b_rem, b_shl, b_shr, unA, Option.map_some, Option.map_none, resA, tupA, Int.reduceLT, not_false_eq_true, not_true_eq_false, decide_true, decide_false, f_bool, c_bool, f_int, c_int, f_str, c_str, f_nilptr, c_nilptr, f_ptr, c_ptr, f_nilsl, c_nilsl, f_slice, c_slice, f_nilmap, c_nilmap, f_map, c_map, f_nilf, c_nilf, f_func, c_func, f_yieldf, c_yieldf, f_nilif, c_nilif, f_iface, c_iface, c_agg, List.all_cons, List.all_nil, Bool.and_true, Bool.true_and, if_true, if_false, ite_true, ite_false, none21 hg, loadA, hg, h1, h2, Nat.zero_add, Bool.false_eq_true]
        try simp [h2]
  · simp only [note_false, x_drawn, l_nil, l_op, l_guard, l_some, l_true, l_false, l_draw, readsA, x_true, x_false, x_seq, x_ops, x_cond, x_skip, x_ret, x_exit, x_block, x_then, x_thenE, x_thenR, x_blockN, x_blockR, x_blockE, s_nil, s_op, s_guard, s_some, s_true, s_false, s_put, s_put0, s_opsR, s_ret, s_norm, aop, ev, evs, List.map_cons, List.map_nil, List.cons_append, List.nil_append, List.append_nil, List.replicate, List.take_succ_cons, List.take_zero, List.take_nil, List.drop_succ_cons, List.drop_zero, List.drop_nil, Nat.zero_add, Nat.add_zero, Nat.reduceAdd, Nat.reduceMul, Nat.reduceLeDiff, Bool.false_eq_true, and_self, List.length_cons, List.length_nil, List.set_cons_zero, List.set_cons_succ, List.getD_cons_zero, List.getD_cons_succ, wantedA, List.getElem?_cons_zero, List.getElem?_cons_succ, q_t, q_f, Bool.not_true, Bool.not_false, b_add, b_sub, b_mul, b_eql, b_neq, b_lss, b_leq, b_gtr, b_geq, b_and, b_or, b_xor, b_quo, b_rem, b_shl, b_shr, unA, Option.map_some, Option.map_none, resA, tupA, Int.reduceLT, not_false_eq_true, not_true_eq_false, decide_true, decide_false, f_bool, c_bool, f_int, c_int, f_str, c_str, f_nilptr, c_nilptr, f_ptr, c_ptr, f_nilsl, c_nilsl, f_slice, c_slice, f_nilmap, c_nilmap, f_map, c_map, f_nilf, c_nilf, f_func, c_func, f_yieldf, c_yieldf, f_nilif, c_nilif, f_iface, c_iface, c_agg, List.all_cons, List.all_nil, Bool.and_true, Bool.true_and, if_true, if_false, ite_true, ite_false, none21 hg, loadA, hg, h1, Nat.zero_add, Bool.false_eq_true]
    simp
theorem len9 {h : Heap} {id b : Nat} {l : List Msg} {Q : Nat → Prop} (hn : NetAt h id l b Q) : xcall X1 tab (.fn 9) [.ptr id 0] h = some (.int .i64 l.length, h) := by
  obtain ⟨_, _, _, _, _, _, sl, hg, hs⟩ := hn
  rw [x_fn rfl (show tab 9 = some sf9 from rfl)]
  rcases hs with ⟨rfl, rfl⟩ | ⟨cap, rows, rest, rfl, _⟩
  all_goals
    simp only [note_false, x_drawn, l_nil, l_op, l_guard, l_some, l_true, l_false, l_draw, readsA, x_true, x_false, x_seq, x_ops, x_cond, x_skip, x_ret, x_exit, x_block, x_then, x_thenE, x_thenR, x_blockN, x_blockR, x_blockE, s_nil, s_op, s_guard, s_some, s_true, s_false, s_put, s_put0, s_opsR, s_ret, s_norm, aop, ev, evs, List.map_cons, List.map_nil, List.cons_append, List.nil_append, List.append_nil, List.replicate, List.take_succ_cons, List.take_zero, List.take_nil, List.drop_succ_cons, List.drop_zero, List.drop_nil, Nat.zero_add, Nat.add_zero, Nat.reduceAdd, Nat.reduceMul, Nat.reduceLeDiff, Bool.false_eq_true, and_self, List.length_cons, List.length_nil, List.set_cons_zero, List.set_cons_succ, List.getD_cons_zero, List.getD_cons_succ, wantedA, List.getElem?_cons_zero, List.getElem?_cons_succ, q_t, q_f, Bool.not_true, Bool.not_false, b_add, b_sub, b_mul, b_eql, b_neq, b_lss, b_leq, b_gtr, b_geq, b_and, b_or, b_xor, b_quo, b_rem, b_shl, b_shr, unA, Option.map_some, Option.map_none, resA, tupA, Int.reduceLT, not_false_eq_true, not_true_eq_false, decide_true, decide_false, f_bool, c_bool, f_int, c_int, f_str, c_str, f_nilptr, c_nilptr, f_ptr, c_ptr, f_nilsl, c_nilsl, f_slice, c_slice, f_nilmap, c_nilmap, f_map, c_map, f_nilf, c_nilf, f_func, c_func, f_yieldf, c_yieldf, f_nilif, c_nilif, f_iface, c_iface, c_agg, List.all_cons, List.all_nil, Bool.and_true, Bool.true_and, if_true, if_false, ite_true, ite_false, none21 hg, loadA, hg, Nat.zero_add, Bool.false_eq_true]
  all_goals rfl

/-- Not one that may fly. -/
def Bad (m : Msg) : Prop := m.client < 0 ∨ m.client ≥ 4 ∨ (m.bytes.length : Int) > 4096
/-- What a call of a net leaves of all else. -/
def NFrame (h h' : Heap) (id b : Nat) (Q : Nat → Prop) (b' : Nat) (Q' : Nat → Prop) : Prop :=
  h.next ≤ h'.next ∧ (∀ j, j < h.next → j ≠ id → j ≠ b → h'.get j = h.get j) ∧ (b' = b ∨ h.next ≤ b') ∧ (∀ j, Q' j → Q j ∨ h.next ≤ j)

theorem send7bad {h : Heap} {id b : Nat} {l : List Msg} {Q : Nat → Prop} (hn : NetAt h id l b Q) {cs : List AV} {m : Msg} (hm : MsgAt h cs m) (hb : Bad m) :
    ∃ h', xcall X1 tab (.fn 7) [.ptr id 0, .agg cs] h = some (.int .i64 2, h') ∧ Grow h h' := by
  obtain ⟨_, _, _, _, _, _, sl, hg, hs⟩ := hn
  obtain ⟨v0, rfl, hbt⟩ := hm
  have hfl : AV.flat v0 = true := by rcases hbt with ⟨rfl, _⟩ | ⟨_, _, _, _, _, _, rfl, _⟩ <;> rfl
  have hH : ∃ H, h.alloc (.cells [.int .i64 m.client, .bool m.back, v0] false) = H ∧ Grow h H ∧ H.get h.next = some (.cells [.int .i64 m.client, .bool m.back, v0] false) :=
    ⟨_, rfl, .alloc _ _, by rw [Heap.get_alloc, if_pos rfl]⟩
  obtain ⟨H, hA, gA, G⟩ := hH
  have hg' := gA.get hg
  rw [x_fn rfl (show tab 7 = some sf7 from rfl)]
  refine ⟨H, ?_, gA⟩
  by_cases h1 : m.client < 0
  · simp only [note_false, x_drawn, l_nil, l_op, l_guard, l_some, l_true, l_false, l_draw, readsA, x_true, x_false, x_seq, x_ops, x_cond, x_skip, x_ret, x_exit, x_block, x_then, x_thenE, x_thenR, x_blockN, x_blockR, x_blockE, s_nil, s_op, s_guard, s_some, s_true, s_false, s_put, s_put0, s_opsR, s_ret, s_norm, aop, ev, evs, List.map_cons, List.map_nil, List.cons_append, List.nil_append, List.append_nil, List.replicate, List.take_succ_cons, List.take_zero, List.take_nil, List.drop_succ_cons, List.drop_zero, List.drop_nil, Nat.zero_add, Nat.add_zero, Nat.reduceAdd, Nat.reduceMul, Nat.reduceLeDiff, Bool.false_eq_true, and_self, List.length_cons, List.length_nil, List.set_cons_zero, List.set_cons_succ, List.getD_cons_zero, List.getD_cons_succ, wantedA, List.getElem?_cons_zero, List.getElem?_cons_succ, q_t, q_f, Bool.not_true, Bool.not_false, b_add, b_sub, b_mul, b_eql, b_neq, b_lss, b_leq, b_gtr, b_geq, b_and, b_or, b_xor, b_quo, b_rem, b_shl, b_shr, unA, Option.map_some, Option.map_none, resA, tupA, Int.reduceLT, not_false_eq_true, not_true_eq_false, decide_true, decide_false, f_bool, c_bool, f_int, c_int, f_str, c_str, f_nilptr, c_nilptr, f_ptr, c_ptr, f_nilsl, c_nilsl, f_slice, c_slice, f_nilmap, c_nilmap, f_map, c_map, f_nilf, c_nilf, f_func, c_func, f_yieldf, c_yieldf, f_nilif, c_nilif, f_iface, c_iface, c_agg, List.all_cons, List.all_nil, Bool.and_true, Bool.true_and, if_true, if_false, ite_true, ite_false, hA, hfl, cells_of hfl, none21 hg', loadA, G, h1, Nat.zero_add, Bool.false_eq_true]
  · by_cases h2 : m.client ≥ 4
    · simp only [note_false, x_drawn, l_nil, l_op, l_guard, l_some, l_true, l_false, l_draw, readsA, x_true, x_false, x_seq, x_ops, x_cond, x_skip, x_ret, x_exit, x_block, x_then, x_thenE, x_thenR, x_blockN, x_blockR, x_blockE, s_nil, s_op, s_guard, s_some, s_true, s_false, s_put, s_put0, s_opsR, s_ret, s_norm, aop, ev, evs, List.map_cons, List.map_nil, List.cons_append, List.nil_append, List.append_nil, List.replicate, List.take_succ_cons, List.take_zero, List.take_nil, List.drop_succ_cons, List.drop_zero, List.drop_nil, Nat.zero_add, Nat.add_zero, Nat.reduceAdd, Nat.reduceMul, Nat.reduceLeDiff, Bool.false_eq_true, and_self, List.length_cons, List.length_nil, List.set_cons_zero, List.set_cons_succ, List.getD_cons_zero, List.getD_cons_succ, wantedA, List.getElem?_cons_zero, List.getElem?_cons_succ, q_t, q_f, Bool.not_true, Bool.not_false, b_add, b_sub, b_mul, b_eql, b_neq, b_lss, b_leq, b_gtr, b_geq, b_and, b_or, b_xor, b_quo, b_rem, b_shl, b_shr, unA, Option.map_some, Option.map_none, resA, tupA, Int.reduceLT, not_false_eq_true, not_true_eq_false, decide_true, decide_false, f_bool, c_bool, f_int, c_int, f_str, c_str, f_nilptr, c_nilptr, f_ptr, c_ptr, f_nilsl, c_nilsl, f_slice, c_slice, f_nilmap, c_nilmap, f_map, c_map, f_nilf, c_nilf, f_func, c_func, f_yieldf, c_yieldf, f_nilif, c_nilif, f_iface, c_iface, c_agg, List.all_cons, List.all_nil, Bool.and_true, Bool.true_and, if_true, if_false, ite_true, ite_false, hA, hfl, cells_of hfl, none21 hg', loadA, G, h1, h2, Nat.zero_add, Bool.false_eq_true]
    · have h3 : (m.bytes.length : Int) > 4096 := by rcases hb with hb | hb | hb <;> first | exact hb | exact absurd hb ‹_›
      rcases hbt with ⟨rfl, hb0⟩ | ⟨_, _, _, _, _, _, rfl, _⟩
      · rw [hb0] at h3; simp at h3
      · simp only [note_false, x_drawn, l_nil, l_op, l_guard, l_some, l_true, l_false, l_draw, readsA, x_true, x_false, x_seq, x_ops, x_cond, x_skip, x_ret, x_exit, x_block, x_then, x_thenE, x_thenR, x_blockN, x_blockR, x_blockE, s_nil, s_op, s_guard, s_some, s_true, s_false, s_put, s_put0, s_opsR, s_ret, s_norm, aop, ev, evs, List.map_cons, List.map_nil, List.cons_append, List.nil_append, List.append_nil, List.replicate, List.take_succ_cons, List.take_zero, List.take_nil, List.drop_succ_cons, List.drop_zero, List.drop_nil, Nat.zero_add, Nat.add_zero, Nat.reduceAdd, Nat.reduceMul, Nat.reduceLeDiff, Bool.false_eq_true, and_self, List.length_cons, List.length_nil, List.set_cons_zero, List.set_cons_succ, List.getD_cons_zero, List.getD_cons_succ, wantedA, List.getElem?_cons_zero, List.getElem?_cons_succ, q_t, q_f, Bool.not_true, Bool.not_false, b_add, b_sub, b_mul, b_eql, b_neq, b_lss, b_leq, b_gtr, b_geq, b_and, b_or, b_xor, b_quo, b_rem, b_shl, b_shr, unA, Option.map_some, Option.map_none, resA, tupA, Int.reduceLT, not_false_eq_true, not_true_eq_false, decide_true, decide_false, f_bool, c_bool, f_int, c_int, f_str, c_str, f_nilptr, c_nilptr, f_ptr, c_ptr, f_nilsl, c_nilsl, f_slice, c_slice, f_nilmap, c_nilmap, f_map, c_map, f_nilf, c_nilf, f_func, c_func, f_yieldf, c_yieldf, f_nilif, c_nilif, f_iface, c_iface, c_agg, List.all_cons, List.all_nil, Bool.and_true, Bool.true_and, if_true, if_false, ite_true, ite_false, hA, none21 hg', loadA, G, h1, h2, h3, Nat.zero_add, Bool.false_eq_true]

theorem send7full {h : Heap} {id b : Nat} {l : List Msg} {Q : Nat → Prop} (hn : NetAt h id l b Q) {cs : List AV} {m : Msg} (hm : MsgAt h cs m) (hb : ¬ Bad m) (hl : l.length ≥ 64) :
    ∃ h', xcall X1 tab (.fn 7) [.ptr id 0, .agg cs] h = some (.int .i64 10, h') ∧ Grow h h' := by
  obtain ⟨_, _, _, _, _, _, sl, hg, hs⟩ := hn
  obtain ⟨v0, rfl, hbt⟩ := hm
  have hfl : AV.flat v0 = true := by rcases hbt with ⟨rfl, _⟩ | ⟨_, _, _, _, _, _, rfl, _⟩ <;> rfl
  have hH : ∃ H, h.alloc (.cells [.int .i64 m.client, .bool m.back, v0] false) = H ∧ Grow h H ∧ H.get h.next = some (.cells [.int .i64 m.client, .bool m.back, v0] false) :=
    ⟨_, rfl, .alloc _ _, by rw [Heap.get_alloc, if_pos rfl]⟩
  obtain ⟨H, hA, gA, G⟩ := hH
  have hg' := gA.get hg
  rw [x_fn rfl (show tab 7 = some sf7 from rfl)]
  refine ⟨H, ?_, gA⟩
  have h1 : ¬ m.client < 0 := fun e => hb (.inl e)
  have h2 : ¬ m.client ≥ 4 := fun e => hb (.inr (.inl e))
  have h3 : ¬ (m.bytes.length : Int) > 4096 := fun e => hb (.inr (.inr e))
  have h4 : (l.length : Int) ≥ 64 := by omega
  have h5 : ¬ (0 : Int) > 4096 := by decide
  rcases hs with ⟨rfl, rfl⟩ | ⟨cap, rows, rest, rfl, _⟩
  · simp at hl
  · rcases hbt with ⟨rfl, hb0⟩ | ⟨_, _, _, _, _, _, rfl, _⟩
    · simp only [note_false, x_drawn, l_nil, l_op, l_guard, l_some, l_true, l_false, l_draw, readsA, x_true, x_false, x_seq, x_ops, x_cond, x_skip, x_ret, x_exit, x_block, x_then, x_thenE, x_thenR, x_blockN, x_blockR, x_blockE, s_nil, s_op, s_guard, s_some, s_true, s_false, s_put, s_put0, s_opsR, s_ret, s_norm, aop, ev, evs, List.map_cons, List.map_nil, List.cons_append, List.nil_append, List.append_nil, List.replicate, List.take_succ_cons, List.take_zero, List.take_nil, List.drop_succ_cons, List.drop_zero, List.drop_nil, Nat.zero_add, Nat.add_zero, Nat.reduceAdd, Nat.reduceMul, Nat.reduceLeDiff, Bool.false_eq_true, and_self, List.length_cons, List.length_nil, List.set_cons_zero, List.set_cons_succ, List.getD_cons_zero, List.getD_cons_succ, wantedA, List.getElem?_cons_zero, List.getElem?_cons_succ, q_t, q_f, Bool.not_true, Bool.not_false, b_add, b_sub, b_mul, b_eql, b_neq, b_lss, b_leq, b_gtr, b_geq, b_and, b_or, b_xor, b_quo, b_rem, b_shl, b_shr, unA, Option.map_some, Option.map_none, resA, tupA, Int.reduceLT, not_false_eq_true, not_true_eq_false, decide_true, decide_false, f_bool, c_bool, f_int, c_int, f_str, c_str, f_nilptr, c_nilptr, f_ptr, c_ptr, f_nilsl, c_nilsl, f_slice, c_slice, f_nilmap, c_nilmap, f_map, c_map, f_nilf, c_nilf, f_func, c_func, f_yieldf, c_yieldf, f_nilif, c_nilif, f_iface, c_iface, c_agg, List.all_cons, List.all_nil, Bool.and_true, Bool.true_and, if_true, if_false, ite_true, ite_false, hA, none21 hg', loadA, G, hg', h1, h2, h3, h4, h5, Nat.zero_add, Bool.false_eq_true]
    · simp only [note_false, x_drawn, l_nil, l_op, l_guard, l_some, l_true, l_false, l_draw, readsA, x_true, x_false, x_seq, x_ops, x_cond, x_skip, x_ret, x_exit, x_block, x_then, x_thenE, x_thenR, x_blockN, x_blockR, x_blockE, s_nil, s_op, s_guard, s_some, s_true, s_false, s_put, s_put0, s_opsR, s_ret, s_norm, aop, ev, evs, List.map_cons, List.map_nil, List.cons_append, List.nil_append, List.append_nil, List.replicate, List.take_succ_cons, List.take_zero, List.take_nil, List.drop_succ_cons, List.drop_zero, List.drop_nil, Nat.zero_add, Nat.add_zero, Nat.reduceAdd, Nat.reduceMul, Nat.reduceLeDiff, Bool.false_eq_true, and_self, List.length_cons, List.length_nil, List.set_cons_zero, List.set_cons_succ, List.getD_cons_zero, List.getD_cons_succ, wantedA, List.getElem?_cons_zero, List.getElem?_cons_succ, q_t, q_f, Bool.not_true, Bool.not_false, b_add, b_sub, b_mul, b_eql, b_neq, b_lss, b_leq, b_gtr, b_geq, b_and, b_or, b_xor, b_quo, b_rem, b_shl, b_shr, unA, Option.map_some, Option.map_none, resA, tupA, Int.reduceLT, not_false_eq_true, not_true_eq_false, decide_true, decide_false, f_bool, c_bool, f_int, c_int, f_str, c_str, f_nilptr, c_nilptr, f_ptr, c_ptr, f_nilsl, c_nilsl, f_slice, c_slice, f_nilmap, c_nilmap, f_map, c_map, f_nilf, c_nilf, f_func, c_func, f_yieldf, c_yieldf, f_nilif, c_nilif, f_iface, c_iface, c_agg, List.all_cons, List.all_nil, Bool.and_true, Bool.true_and, if_true, if_false, ite_true, ite_false, hA, none21 hg', loadA, G, hg', h1, h2, h3, h4, h5, Nat.zero_add, Bool.false_eq_true]

theorem send7ok {h : Heap} {id b : Nat} {l : List Msg} {Q : Nat → Prop} (hn : NetAt h id l b Q) {cs : List AV} {m : Msg} (hm : MsgAt h cs m) (hb : ¬ Bad m) (hl : l.length < 64) :
    ∃ h' b' Q', xcall X1 tab (.fn 7) [.ptr id 0, .agg cs] h = some (.int .i64 0, h') ∧ NetAt h' id (l ++ [m]) b' Q' ∧ NFrame h h' id b Q b' Q' := by
  obtain ⟨n1, n2, n3, n4, n5, n6, sl, hg, hs⟩ := hn
  obtain ⟨v0, rfl, hbt⟩ := hm
  have hfl : AV.flat v0 = true := by rcases hbt with ⟨rfl, _⟩ | ⟨_, _, _, _, _, _, rfl, _⟩ <;> rfl
  have hH : ∃ H, h.alloc (.cells [.int .i64 m.client, .bool m.back, v0] false) = H ∧ Grow h H ∧ H.next = h.next + 1 ∧ H.get h.next = some (.cells [.int .i64 m.client, .bool m.back, v0] false) :=
    ⟨_, rfl, .alloc _ _, by simp, by rw [Heap.get_alloc, if_pos rfl]⟩
  obtain ⟨H, hA, gA, hHn, G⟩ := hH
  have hg' := gA.get hg
  have h1 : ¬ m.client < 0 := fun e => hb (.inl e)
  have h2 : ¬ m.client ≥ 4 := fun e => hb (.inr (.inl e))
  have h3 : ¬ (m.bytes.length : Int) > 4096 := fun e => hb (.inr (.inr e))
  obtain ⟨v, H1, e1, g1, nb⟩ := copied22 (h := H) (m := m) ⟨v0, rfl, hbt.grow gA⟩ (by omega)
  have hg1 := g1.get hg'
  have hfv : AV.flat v = true := by rcases nb with ⟨rfl, _⟩ | ⟨_, _, _, rfl, _⟩ <;> rfl
  have hH2 : ∃ H2, H1.alloc (.cells [.int .i64 m.client, .bool m.back, v] false) = H2 ∧ Grow H1 H2 ∧ H2.next = H1.next + 1 ∧ H2.get H1.next = some (.cells [.int .i64 m.client, .bool m.back, v] false) :=
    ⟨_, rfl, .alloc _ _, by simp, by rw [Heap.get_alloc, if_pos rfl]⟩
  obtain ⟨H2, hA2, gA2, hH2n, G2⟩ := hH2
  have hg2 := gA2.get hg1
  have q0 := gA.1
  have q1 := g1.1
  have q2 := gA2.1
  -- what is new of the bytes
  let Q' : Nat → Prop := fun j => Q j ∨ (h.next ≤ j ∧ j < H1.next)
  have hob : ∀ h', (∀ j, h.next ≤ j → j < H1.next → h'.get j = H1.get j) → OwnBytes h' v m.bytes Q' := by
    intro h' hh
    rcases nb with nb | ⟨k, cap, ex, e, k1, k2, k3, k4, k5⟩
    · exact .inl nb
    · have := Heap.lt_of_get k4
      exact .inr ⟨k, cap, ex, e, k1, .inr ⟨by omega, this⟩, by rw [hh k (by omega) this]; exact k4⟩
  have hfa : firstA H2 3 1 (.slice H1.next 0 1 1 true 3) = some [.int .i64 m.client, .bool m.back, v] := by simp [firstA, G2]
  rw [x_fn rfl (show tab 7 = some sf7 from rfl)]
  rcases hs with ⟨rfl, rfl⟩ | ⟨cap, rows, rest, rfl, hc, hgb, hcl, hrows⟩
  · -- the first one
    have h5 : ¬ (0 : Int) ≥ 64 := by decide
    have hnid : id ≠ H2.next := by omega
    have hlt : id < H2.next + 1 := by omega
    refine ⟨(H2.alloc (.cells [.int .i64 m.client, .bool m.back, v] false)).set id (.cells [.slice H2.next 0 1 1 false 3, .bool true] false), H2.next, Q', ?_, ?_, ?_⟩
    · rcases hbt with ⟨rfl, hb0⟩ | ⟨_, _, _, _, _, _, rfl, _⟩
      all_goals
        simp (decide := true) only [note_false, x_drawn, l_nil, l_op, l_guard, l_some, l_true, l_false, l_draw, readsA, x_true, x_false, x_seq, x_ops, x_cond, x_skip, x_ret, x_exit, x_block, x_then, x_thenE, x_thenR, x_blockN, x_blockR, x_blockE, s_nil, s_op, s_guard, s_some, s_true, s_false, s_put, s_put0, s_opsR, s_ret, s_norm, aop, ev, evs, List.map_cons, List.map_nil, List.cons_append, List.nil_append, List.append_nil, List.replicate, List.take_succ_cons, List.take_zero, List.take_nil, List.drop_succ_cons, List.drop_zero, List.drop_nil, Nat.zero_add, Nat.add_zero, Nat.reduceAdd, Nat.reduceMul, Nat.reduceLeDiff, Bool.false_eq_true, and_self, List.length_cons, List.length_nil, List.set_cons_zero, List.set_cons_succ, List.getD_cons_zero, List.getD_cons_succ, wantedA, List.getElem?_cons_zero, List.getElem?_cons_succ, q_t, q_f, Bool.not_true, Bool.not_false, b_add, b_sub, b_mul, b_eql, b_neq, b_lss, b_leq, b_gtr, b_geq, b_and, b_or, b_xor, b_quo, b_rem, b_shl, b_shr, unA, Option.map_some, Option.map_none, resA, tupA, Int.reduceLT, not_false_eq_true, not_true_eq_false, decide_true, decide_false, f_bool, c_bool, f_int, c_int, f_str, c_str, f_nilptr, c_nilptr, f_ptr, c_ptr, f_nilsl, c_nilsl, f_slice, c_slice, f_nilmap, c_nilmap, f_map, c_map, f_nilf, c_nilf, f_func, c_func, f_yieldf, c_yieldf, f_nilif, c_nilif, f_iface, c_iface, c_agg, List.all_cons, List.all_nil, Bool.and_true, Bool.true_and, if_true, if_false, ite_true, ite_false, hA, hA2, none21 hg', loadA, G, hg', hg1, hg2, h1, h2, h3, h5, e1, hfv, fillA, splice, storeA, appendA, lenA, hfa, Heap.get_alloc, hnid, Nat.zero_add, Nat.add_zero, Nat.reduceAdd, Nat.reduceMul, Nat.reduceLeDiff, Bool.false_eq_true, List.take_zero, List.drop_succ_cons, List.drop_zero, List.drop_nil, and_self, chkLog, same_cells]
    · refine ⟨by simp; omega, .inl (by simp), by omega, ?_, ?_, ?_, .slice H2.next 0 1 1 false 3, ?_, .inr ⟨1, [[.int .i64 m.client, .bool m.back, v]], [], rfl, Nat.le_refl _, ?_, rfl, ?_⟩⟩
      · rintro (hq | hq)
        · exact n4 hq
        · omega
      · rintro (hq | hq)
        · have := n6 _ hq; omega
        · omega
      · rintro j (hq | hq)
        · have := n6 _ hq; simp; omega
        · simp; omega
      · rw [get_set, if_pos rfl, if_pos (by simp; omega)]
      · rw [get_set, if_neg (by omega), Heap.get_alloc, if_pos rfl]; rfl
      · refine .cons ⟨v, rfl, hob _ fun j j1 j2 => ?_⟩ .nil
        rw [get_set, if_neg (by omega), Heap.get_alloc, if_neg (by omega)]
        exact gA2.2 j j2
    · refine ⟨by simp; omega, fun j j1 j2 j3 => ?_, .inr (by omega), fun j hq => hq.imp (fun x => x) fun x => x.1⟩
      rw [get_set, if_neg j2, Heap.get_alloc, if_neg (by omega), gA2.2 j (by omega), g1.2 j (by omega), gA.2 j j1]
  · have n2 : b < h.next := Heap.lt_of_get hgb
    have h5 : ¬ (l.length : Int) ≥ 64 := by omega
    have hgb2 : H2.get b = some (.cells (rows.flatten ++ rest) false) := gA2.get (g1.get (gA.get hgb))
    obtain ⟨r1, r2⟩ := hrows.len
    have key : ∀ sl' H3, appendA H2 3 40 (.slice b 0 l.length cap false 3) (.slice H1.next 0 1 1 true 3) = some (sl', H3) → AV.flat sl' = true → H3.get id = some (.cells [.slice b 0 l.length cap false 3, .bool true] false) →
        retR [.tmp 4] (xcode X1 tab 7 none sf7.body ([.ptr id 0, .agg [.int .i64 m.client, .bool m.back, v0]] ++ List.replicate (sf7.ntmps - [AV.ptr id 0, .agg [.int .i64 m.client, .bool m.back, v0]].length) undefA) h) =
          some (.int .i64 0, H3.set id (.cells [sl', .bool true] false)) := by
      intro sl' H3 hap hfs hg3
      have hst : storeA H3 id 0 [sl'] = some (H3.set id (.cells [sl', .bool true] false)) := by simp [storeA, hg3, splice]
      have hfi : splice [AV.int .i64 0, .bool false, .nilsl] 0 [.int .i64 m.client, .bool m.back, v] = [.int .i64 m.client, .bool m.back, v] := by simp [splice]
      unfold sf7
      rcases hbt with ⟨rfl, hb0⟩ | ⟨_, _, _, _, _, _, rfl, _⟩
      all_goals
        simp (decide := true) only [note_false, x_drawn, l_nil, l_op, l_guard, l_some, l_true, l_false, l_draw, readsA, x_true, x_false, x_seq, x_ops, x_cond, x_skip, x_ret, x_exit, x_block, x_then, x_thenE, x_thenR, x_blockN, x_blockR, x_blockE, s_nil, s_op, s_guard, s_some, s_true, s_false, s_put, s_put0, s_opsR, s_ret, s_norm, aop, ev, evs, List.map_cons, List.map_nil, List.cons_append, List.nil_append, List.append_nil, List.replicate, List.take_succ_cons, List.take_zero, List.take_nil, List.drop_succ_cons, List.drop_zero, List.drop_nil, Nat.zero_add, Nat.add_zero, Nat.reduceAdd, Nat.reduceMul, Nat.reduceLeDiff, Bool.false_eq_true, and_self, List.length_cons, List.length_nil, List.set_cons_zero, List.set_cons_succ, List.getD_cons_zero, List.getD_cons_succ, wantedA, List.getElem?_cons_zero, List.getElem?_cons_succ, q_t, q_f, Bool.not_true, Bool.not_false, b_add, b_sub, b_mul, b_eql, b_neq, b_lss, b_leq, b_gtr, b_geq, b_and, b_or, b_xor, b_quo, b_rem, b_shl, b_shr, unA, Option.map_some, Option.map_none, resA, tupA, Int.reduceLT, not_false_eq_true, not_true_eq_false, decide_true, decide_false, f_bool, c_bool, f_int, c_int, f_str, c_str, f_nilptr, c_nilptr, f_ptr, c_ptr, f_nilsl, c_nilsl, f_slice, c_slice, f_nilmap, c_nilmap, f_map, c_map, f_nilf, c_nilf, f_func, c_func, f_yieldf, c_yieldf, f_nilif, c_nilif, f_iface, c_iface, c_agg, List.all_cons, List.all_nil, Bool.and_true, Bool.true_and, if_true, if_false, ite_true, ite_false, hA, hA2, none21 hg', loadA, G, hg', hg1, hg2, h1, h2, h3, h5, e1, hfv, hfs, cells_of hfs, fillA, hfi, hap, hst, chkLog, same_cells]
    by_cases hcap : l.length + 1 ≤ cap
    · -- there is room
      have hap : appendA H2 3 40 (.slice b 0 l.length cap false 3) (.slice H1.next 0 1 1 true 3) = some (.slice b 0 (l.length + 1) cap false 3, H2.set b (.cells (splice (rows.flatten ++ rest) (l.length * 3) [.int .i64 m.client, .bool m.back, v]) false)) := by
        have hst := store_of (vs := [.int .i64 m.client, .bool m.back, v]) (off := l.length * 3) hgb2 (by rw [hcl]; simp; omega)
        simp [appendA, lenA, hfa, hcap, hst]
      have hsp : splice (rows.flatten ++ rest) (l.length * 3) [.int .i64 m.client, .bool m.back, v] = (rows ++ [[.int .i64 m.client, .bool m.back, v]]).flatten ++ rest.drop 3 := by
        unfold splice
        rw [← r2, List.take_left, List.drop_append]
        simp
      rw [hsp] at hap
      refine ⟨_, b, Q', key _ _ hap rfl ?_, ?_, ?_⟩
      · rw [get_set, if_neg (by omega)]; exact hg2
      · refine ⟨by simp; omega, .inl (by simp; omega), n3, ?_, ?_, ?_, .slice b 0 (l.length + 1) cap false 3, ?_, .inr ⟨cap, rows ++ [[.int .i64 m.client, .bool m.back, v]], rest.drop 3, by simp, by simp; omega, ?_, ?_, ?_⟩⟩
        · rintro (hq | hq)
          · exact n4 hq
          · omega
        · rintro (hq | hq)
          · exact n5 hq
          · omega
        · rintro j (hq | hq)
          · have := n6 _ hq; simp; omega
          · simp; omega
        · rw [get_set, if_pos rfl, if_pos (by simp; omega)]
        · rw [get_set, if_neg n3, get_set, if_pos rfl, if_pos (by omega)]
        · have e3 := hcl
          rw [List.length_append, r2] at e3
          rw [List.length_append, List.flatten_append, List.length_append, r2, List.length_drop]
          show l.length * 3 + 3 + (rest.length - 3) = cap * 3
          omega
        · refine (hrows.mono (fun j hq => .inl hq) fun j hq => ?_).append (.cons ⟨v, rfl, hob _ fun j j1 j2 => ?_⟩ .nil)
          · have := n6 j hq
            have e1 : j ≠ id := fun e => n4 (e ▸ hq)
            have e2 : j ≠ b := fun e => n5 (e ▸ hq)
            rw [get_set, if_neg e1, get_set, if_neg e2, gA2.2 j (by omega), g1.2 j (by omega), gA.2 j this]
          · rw [get_set, if_neg (by omega), get_set, if_neg (by omega)]
            exact gA2.2 j j2
      · refine ⟨by simp; omega, fun j j1 j2 j3 => ?_, .inl rfl, fun j hq => hq.imp (fun x => x) fun x => x.1⟩
        rw [get_set, if_neg j2, get_set, if_neg j3, gA2.2 j (by omega), g1.2 j (by omega), gA.2 j j1]
    · -- a new block
      have hap : appendA H2 3 40 (.slice b 0 l.length cap false 3) (.slice H1.next 0 1 1 true 3) = some (.slice H2.next 0 (l.length + 1) (l.length + 1) false 3, (H2.alloc (.cells ((rows ++ [[.int .i64 m.client, .bool m.back, v]]).flatten ++ []) false)).set b .dead) := by
        have hle : l.length * 3 ≤ (rows.flatten ++ rest).length := by rw [hcl]; omega
        have htk : (rows.flatten ++ rest).take (l.length * 3) = rows.flatten := by rw [← r2, List.take_left]
        have hb1 : (l.length + 1) * 40 ≤ 140737488355328 ∧ l.length + 1 ≤ 140737488355328 := by omega
        simp only [appendA, lenA, hfa, hcap, hgb2, hle, htk, hb1, if_true, if_false, and_self, Nat.zero_add, List.drop_zero, Bool.false_eq_true]
        simp [note_false]
      refine ⟨_, H2.next, Q', key _ _ hap rfl ?_, ?_, ?_⟩
      · rw [get_set, if_neg (by omega), Heap.get_alloc, if_neg (by omega)]; exact hg2
      · refine ⟨by simp; omega, .inl (by simp), by omega, ?_, ?_, ?_, .slice H2.next 0 (l.length + 1) (l.length + 1) false 3, ?_, .inr ⟨l.length + 1, rows ++ [[.int .i64 m.client, .bool m.back, v]], [], by simp, by simp, ?_, ?_, ?_⟩⟩
        · rintro (hq | hq)
          · exact n4 hq
          · omega
        · rintro (hq | hq)
          · have := n6 _ hq; omega
          · omega
        · rintro j (hq | hq)
          · have := n6 _ hq; simp; omega
          · simp; omega
        · rw [get_set, if_pos rfl, if_pos (by simp; omega)]
        · rw [get_set, if_neg (by omega), get_set, if_neg (by omega), Heap.get_alloc, if_pos rfl]
        · rw [List.append_nil, List.flatten_append, List.length_append, r2]
          show l.length * 3 + 3 = (l.length + 1) * 3
          omega
        · refine (hrows.mono (fun j hq => .inl hq) fun j hq => ?_).append (.cons ⟨v, rfl, hob _ fun j j1 j2 => ?_⟩ .nil)
          · have := n6 j hq
            have e1 : j ≠ id := fun e => n4 (e ▸ hq)
            have e2 : j ≠ b := fun e => n5 (e ▸ hq)
            rw [get_set, if_neg e1, get_set, if_neg e2, Heap.get_alloc, if_neg (by omega), gA2.2 j (by omega), g1.2 j (by omega), gA.2 j this]
          · rw [get_set, if_neg (by omega), get_set, if_neg (by omega), Heap.get_alloc, if_neg (by omega)]
            exact gA2.2 j j2
      · refine ⟨by simp; omega, fun j j1 j2 j3 => ?_, .inr (by omega), fun j hq => hq.imp (fun x => x) fun x => x.1⟩
        rw [get_set, if_neg j2, get_set, if_neg j3, Heap.get_alloc, if_neg (by omega), gA2.2 j (by omega), g1.2 j (by omega), gA.2 j j1]

/-- slices.Delete of one message: i ahead of it, d behind it. -/
theorem delete27 {h : Heap} {b cap i d : Nat} {c : List AV} (hg : h.get b = some (.cells c false)) (hn : i + d + 1 ≤ cap) (hc : c.length = cap * 3) :
    ∃ h', xcall X1 tab (.fn 27) [.slice b 0 (i + d + 1) cap false 3, .int .i64 i, .int .i64 (i + 1 : Nat)] h = some (.slice b 0 (i + d) cap false 3, h') ∧
      h'.next = h.next ∧ (∀ j, j ≠ b → h'.get j = h.get j) ∧
      h'.get b = some (.cells (c.take (i * 3) ++ (c.drop ((i + 1) * 3)).take (d * 3) ++ [.int .i64 0, .bool false, .nilsl] ++ c.drop ((i + d + 1) * 3)) false) := by
  have hlt := Heap.lt_of_get hg
  -- the three slices
  have s1 : sliceA 3 (.slice b 0 (i + d + 1) cap false 3) (some (.int .i64 i)) (some (.int .i64 (i + 1 : Nat))) (some (.int .i64 (i + d + 1 : Nat))) = some (.slice b (0 + i * 3) (i + 1 - i) (i + d + 1 - i) true 3) := by
    simp only [sliceA, bd_lhm hn (show i + 1 ≤ i + d + 1 by omega) (Nat.le_succ i), if_true]
    rfl
  have s2 : sliceA 3 (.slice b 0 (i + d + 1) cap false 3) none (some (.int .i64 i)) none = some (.slice b 0 i cap false 3) := by
    simp only [sliceA, bd_h (show i ≤ cap by omega), if_true]
    simp
  have s3 : sliceA 3 (.slice b 0 (i + d + 1) cap false 3) (some (.int .i64 (i + 1 : Nat))) none none = some (.slice b ((i + 1) * 3) d (cap - (i + 1)) false 3) := by
    simp only [sliceA, bd_l (show i + 1 ≤ i + d + 1 by omega), if_true]
    simp
  have s4 : sliceA 3 (.slice b 0 (i + d) cap false 3) (some (.int .i64 (i + d : Nat))) (some (.int .i64 (i + d + 1 : Nat))) none = some (.slice b ((i + d) * 3) 1 (cap - (i + d)) false 3) := by
    simp only [sliceA, bd_lh hn (Nat.le_succ (i + d)), if_true]
    simp
  -- the append
  have hf : firstA h 3 d (.slice b ((i + 1) * 3) d (cap - (i + 1)) false 3) = some ((c.drop ((i + 1) * 3)).take (d * 3)) := by
    have : (i + 1) * 3 + d * 3 ≤ c.length := by omega
    simp [firstA, hg, this]
  have hnl : ((c.drop ((i + 1) * 3)).take (d * 3)).length = d * 3 := by simp; omega
  have hap : appendA h 3 40 (.slice b 0 i cap false 3) (.slice b ((i + 1) * 3) d (cap - (i + 1)) false 3) = some (.slice b 0 (i + d) cap false 3, h.set b (.cells (splice c (i * 3) ((c.drop ((i + 1) * 3)).take (d * 3))) false)) := by
    have hst := store_of (vs := (c.drop ((i + 1) * 3)).take (d * 3)) (off := i * 3) hg (by omega)
    have : i + d ≤ cap := by omega
    simp only [appendA, lenA, hf, this, if_true, Nat.zero_add, hst]
  have hg1 : (h.set b (.cells (splice c (i * 3) ((c.drop ((i + 1) * 3)).take (d * 3))) false)).get b = some (.cells (splice c (i * 3) ((c.drop ((i + 1) * 3)).take (d * 3))) false) := by
    rw [get_set, if_pos rfl, if_pos hlt]
  have hl1 : (splice c (i * 3) ((c.drop ((i + 1) * 3)).take (d * 3))).length = c.length := splice_len _ _ _ (by omega)
  have hst2 := store_of (vs := [.int .i64 0, .bool false, .nilsl]) (off := (i + d) * 3) hg1 (by rw [hl1]; simp; omega)
  have hcl : clearA (h.set b (.cells (splice c (i * 3) ((c.drop ((i + 1) * 3)).take (d * 3))) false)) [.int .i64 0, .bool false, .nilsl] 3 (.slice b ((i + d) * 3) 1 (cap - (i + d)) false 3) = some (undefA, (h.set b (.cells (splice c (i * 3) ((c.drop ((i + 1) * 3)).take (d * 3))) false)).set b (.cells (splice (splice c (i * 3) ((c.drop ((i + 1) * 3)).take (d * 3))) ((i + d) * 3) [.int .i64 0, .bool false, .nilsl]) false)) := by
    have : (List.replicate 1 [AV.int .i64 0, .bool false, .nilsl]).flatten = [.int .i64 0, .bool false, .nilsl] := rfl
    simp only [clearA, this, hst2, if_true, Nat.one_ne_zero, if_false]
  have hne : ((i : Int) == ((i + 1 : Nat) : Int)) = false := by simp; omega
  refine ⟨(h.set b (.cells (splice c (i * 3) ((c.drop ((i + 1) * 3)).take (d * 3))) false)).set b (.cells (splice (splice c (i * 3) ((c.drop ((i + 1) * 3)).take (d * 3))) ((i + d) * 3) [.int .i64 0, .bool false, .nilsl]) false), ?_, rfl, fun j hj => ?_, ?_⟩
  · rw [x_fn rfl (show tab 27 = some sf27 from rfl)]
    simp only [note_false, x_drawn, l_nil, l_op, l_guard, l_some, l_true, l_false, l_draw, readsA, x_true, x_false, x_seq, x_ops, x_cond, x_skip, x_ret, x_exit, x_block, x_then, x_thenE, x_thenR, x_blockN, x_blockR, x_blockE, s_nil, s_op, s_guard, s_some, s_true, s_false, s_put, s_put0, s_opsR, s_ret, s_norm, aop, ev, evs, List.map_cons, List.map_nil, List.cons_append, List.nil_append, List.append_nil, List.replicate, List.take_succ_cons, List.take_zero, List.take_nil, List.drop_succ_cons, List.drop_zero, List.drop_nil, Nat.zero_add, Nat.add_zero, Nat.reduceAdd, Nat.reduceMul, Nat.reduceLeDiff, Bool.false_eq_true, and_self, List.length_cons, List.length_nil, List.set_cons_zero, List.set_cons_succ, List.getD_cons_zero, List.getD_cons_succ, wantedA, List.getElem?_cons_zero, List.getElem?_cons_succ, q_t, q_f, Bool.not_true, Bool.not_false, b_add, b_sub, b_mul, b_eql, b_neq, b_lss, b_leq, b_gtr, b_geq, b_and, b_or, b_xor, b_quo, b_rem, b_shl, b_shr, unA, Option.map_some, Option.map_none, resA, tupA, Int.reduceLT, not_false_eq_true, not_true_eq_false, decide_true, decide_false, f_bool, c_bool, f_int, c_int, f_str, c_str, f_nilptr, c_nilptr, f_ptr, c_ptr, f_nilsl, c_nilsl, f_slice, c_slice, f_nilmap, c_nilmap, f_map, c_map, f_nilf, c_nilf, f_func, c_func, f_yieldf, c_yieldf, f_nilif, c_nilif, f_iface, c_iface, c_agg, List.all_cons, List.all_nil, Bool.and_true, Bool.true_and, if_true, if_false, ite_true, ite_false, s1, s2, s3, s4, hap, hcl, hne, Option.map_some, Option.map_none]
  · rw [get_set, if_neg hj, get_set, if_neg hj]
  · rw [get_set, if_pos rfl, if_pos (by simpa using hlt)]
    congr 2
    have e1 : splice c (i * 3) ((c.drop ((i + 1) * 3)).take (d * 3)) = (c.take (i * 3) ++ (c.drop ((i + 1) * 3)).take (d * 3)) ++ c.drop ((i + d) * 3) := by
      unfold splice
      rw [hnl]
      congr 2
      omega
    have hl2 : (c.take (i * 3) ++ (c.drop ((i + 1) * 3)).take (d * 3)).length = (i + d) * 3 := by
      rw [List.length_append, hnl, List.length_take]; omega
    rw [e1]
    generalize c.take (i * 3) ++ (c.drop ((i + 1) * 3)).take (d * 3) = A at hl2 ⊢
    unfold splice
    have t1 : (A ++ c.drop ((i + d) * 3)).take ((i + d) * 3) = A := by rw [← hl2, List.take_left]
    have t2 : (A ++ c.drop ((i + d) * 3)).drop ((i + d) * 3 + [AV.int .i64 0, .bool false, .nilsl].length) = c.drop ((i + d + 1) * 3) := by
      rw [List.drop_append, List.drop_eq_nil_of_le (by rw [hl2]; simp), List.nil_append, List.drop_drop, hl2]
      congr 1
      simp
      omega
    rw [t1, t2]

theorem Rows2.split {h : Heap} {P : Nat → Prop} : ∀ {l1 : List Msg} {m : Msg} {l2 : List Msg} {rows : List (List AV)}, Rows2 h P rows (l1 ++ m :: l2) → ∃ r1 row r2, rows = r1 ++ row :: r2 ∧ Rows2 h P r1 l1 ∧ RowAt h row m P ∧ Rows2 h P r2 l2
  | [], m, l2, _, .cons hrow hr => ⟨[], _, _, rfl, .nil, hrow, hr⟩
  | x :: l1, m, l2, _, .cons hrow hr => by
    obtain ⟨r1, row, r2, rfl, g1, g2, g3⟩ := Rows2.split hr
    exact ⟨_ :: r1, row, r2, rfl, .cons hrow g1, g2, g3⟩

/-- Drop, of one that is there. -/
theorem drop15 {h : Heap} {id b : Nat} {l1 l2 : List Msg} {m : Msg} {Q : Nat → Prop} (hn : NetAt h id (l1 ++ m :: l2) b Q) (hl : (l1 ++ m :: l2).length ≤ 64) :
    ∃ h', xcall X1 tab (.fn 15) [.ptr id 0, .int .i64 l1.length] h = some (.bool true, h') ∧ NetAt h' id (l1 ++ l2) b Q ∧ NFrame h h' id b Q b Q ∧ h'.next = h.next := by
  have ht := there23 hn l1.length
  have hd : decide ((0 : Int) ≤ (l1.length : Int) ∧ (l1.length : Int) < ((l1 ++ m :: l2).length : Nat)) = true := by
    rw [decide_eq_true_eq, List.length_append, List.length_cons]; omega
  rw [hd] at ht
  obtain ⟨n1, n2, n3, n4, n5, n6, sl, hg, hs⟩ := hn
  rcases hs with ⟨_, he⟩ | ⟨cap, rows, rest, rfl, hc, hgb, hcl, hrows⟩
  · simp at he
  · have n2 : b < h.next := Heap.lt_of_get hgb
    obtain ⟨r1, row, r2, rfl, g1, g2, g3⟩ := hrows.split
    have hll : (l1 ++ m :: l2).length = l1.length + l2.length + 1 := by rw [List.length_append, List.length_cons]; omega
    rw [hll] at hg hc
    obtain ⟨h1, e1, q1, q2, q3⟩ := delete27 (i := l1.length) (d := l2.length) hgb hc hcl
    have hw : IntKind.i64.wrap ((l1.length : Int) + 1) = ((l1.length + 1 : Nat) : Int) := by
      rw [IntWalk.i64_in _ (by omega)]; simp
    have hg1 : h1.get id = some (.cells [.slice b 0 (l1.length + l2.length + 1) cap false 3, .bool true] false) := by rw [q2 id (Ne.symm n3)]; exact hg
    have hst : storeA h1 id 0 [.slice b 0 (l1.length + l2.length) cap false 3] = some (h1.set id (.cells [.slice b 0 (l1.length + l2.length) cap false 3, .bool true] false)) := by simp [storeA, hg1, splice]
    refine ⟨h1.set id (.cells [.slice b 0 (l1.length + l2.length) cap false 3, .bool true] false), ?_, ?_, ⟨by simp; omega, fun j j1 j2 j3 => ?_, .inl rfl, fun j hq => .inl hq⟩, by simpa using q1⟩
    · rw [x_fn rfl (show tab 15 = some sf15 from rfl)]
      simp only [note_false, x_drawn, l_nil, l_op, l_guard, l_some, l_true, l_false, l_draw, readsA, x_true, x_false, x_seq, x_ops, x_cond, x_skip, x_ret, x_exit, x_block, x_then, x_thenE, x_thenR, x_blockN, x_blockR, x_blockE, s_nil, s_op, s_guard, s_some, s_true, s_false, s_put, s_put0, s_opsR, s_ret, s_norm, aop, ev, evs, List.map_cons, List.map_nil, List.cons_append, List.nil_append, List.append_nil, List.replicate, List.take_succ_cons, List.take_zero, List.take_nil, List.drop_succ_cons, List.drop_zero, List.drop_nil, Nat.zero_add, Nat.add_zero, Nat.reduceAdd, Nat.reduceMul, Nat.reduceLeDiff, Bool.false_eq_true, and_self, List.length_cons, List.length_nil, List.set_cons_zero, List.set_cons_succ, List.getD_cons_zero, List.getD_cons_succ, wantedA, List.getElem?_cons_zero, List.getElem?_cons_succ, q_t, q_f, Bool.not_true, Bool.not_false, b_add, b_sub, b_mul, b_eql, b_neq, b_lss, b_leq, b_gtr, b_geq, b_and, b_or, b_xor, b_quo, b_rem, b_shl, b_shr, unA, Option.map_some, Option.map_none, resA, tupA, Int.reduceLT, not_false_eq_true, not_true_eq_false, decide_true, decide_false, f_bool, c_bool, f_int, c_int, f_str, c_str, f_nilptr, c_nilptr, f_ptr, c_ptr, f_nilsl, c_nilsl, f_slice, c_slice, f_nilmap, c_nilmap, f_map, c_map, f_nilf, c_nilf, f_func, c_func, f_yieldf, c_yieldf, f_nilif, c_nilif, f_iface, c_iface, c_agg, List.all_cons, List.all_nil, Bool.and_true, Bool.true_and, if_true, if_false, ite_true, ite_false, ht, loadA, hg, hw, e1, hst]
    · obtain ⟨a1, a2⟩ := g1.len
      obtain ⟨b1, b2⟩ := g3.len
      obtain ⟨v, hrow, hob⟩ := g2
      have hrl : row.length = 3 := by rw [hrow]; rfl
      have hcells : ((r1 ++ row :: r2).flatten ++ rest).take (l1.length * 3) ++ (((r1 ++ row :: r2).flatten ++ rest).drop ((l1.length + 1) * 3)).take (l2.length * 3) ++ [.int .i64 0, .bool false, .nilsl] ++ ((r1 ++ row :: r2).flatten ++ rest).drop ((l1.length + l2.length + 1) * 3) = (r1 ++ r2).flatten ++ ([.int .i64 0, .bool false, .nilsl] ++ rest) := by
        have u1 : ((r1 ++ row :: r2).flatten ++ rest) = r1.flatten ++ (row ++ (r2.flatten ++ rest)) := by simp
        have u2 : (r1.flatten ++ (row ++ (r2.flatten ++ rest))).take (l1.length * 3) = r1.flatten := by rw [← a2, List.take_left]
        have u3 : (r1.flatten ++ (row ++ (r2.flatten ++ rest))).drop ((l1.length + 1) * 3) = r2.flatten ++ rest := by
          rw [← List.append_assoc]
          have : (r1.flatten ++ row).length = (l1.length + 1) * 3 := by rw [List.length_append, a2, hrl]; omega
          rw [← this, List.drop_left]
        have u4 : (r1.flatten ++ (row ++ (r2.flatten ++ rest))).drop ((l1.length + l2.length + 1) * 3) = rest := by
          have : (r1.flatten ++ (row ++ r2.flatten)).length = (l1.length + l2.length + 1) * 3 := by rw [List.length_append, List.length_append, a2, b2, hrl]; omega
          rw [← List.append_assoc row, ← List.append_assoc, ← this, List.drop_left]
        rw [u1, u2, u3, u4, ← b2, List.take_left]
        simp
      rw [hcells] at q3
      refine ⟨by simp; omega, .inl (by simp; omega), n3, n4, n5, fun j hq => by simp; have := n6 j hq; omega, _, by rw [get_set, if_pos rfl, if_pos (by omega)], .inr ⟨cap, r1 ++ r2, [.int .i64 0, .bool false, .nilsl] ++ rest, by simp, by simp; omega, ?_, ?_, ?_⟩⟩
      · rw [get_set, if_neg n3]; exact q3
      · have := hcl
        rw [List.length_append, List.flatten_append, List.flatten_cons, List.length_append, List.length_append, hrl] at this
        rw [List.length_append, List.flatten_append, List.length_append, List.length_append]
        show _ + (3 + _) = _
        omega
      · refine (g1.append g3).mono (fun j hq => hq) fun j hq => ?_
        have e1 : j ≠ id := fun e => n4 (e ▸ hq)
        have e2 : j ≠ b := fun e => n5 (e ▸ hq)
        rw [get_set, if_neg e1, q2 j e2]
    · rw [get_set, if_neg j2, q2 j j3]

/-- A net where all its blocks are as they were. -/
theorem ObAt.keep {tl : List AV} {h h' : Heap} {id b : Nat} {l : List Msg} {Q : Nat → Prop} (hn : ObAt tl h id l b Q) (hx : h.next ≤ h'.next) (hs : ∀ j, j < h.next → j = id ∨ j = b ∨ Q j → h'.get j = h.get j) : ObAt tl h' id l b Q := by
  obtain ⟨n1, n2, n3, n4, n5, n6, sl, hg, hsl⟩ := hn
  refine ⟨by omega, n2.imp (fun e => by omega) (fun e => e), n3, n4, n5, fun j hq => by have := n6 j hq; omega, sl, (hs id n1 (.inl rfl)).trans hg, ?_⟩
  rcases hsl with hsl | ⟨cap, rows, rest, e, hc, hgb, hcl, hrows⟩
  · exact .inl hsl
  · exact .inr ⟨cap, rows, rest, e, hc, (hs b (Heap.lt_of_get hgb) (.inr (.inl rfl))).trans hgb, hcl, hrows.mono (fun j hq => hq) fun j hq => hs j (n6 j hq) (.inr (.inr hq))⟩
theorem ObAt.grow {tl : List AV} {h h' : Heap} {id b : Nat} {l : List Msg} {Q : Nat → Prop} (hn : ObAt tl h id l b Q) (g : Grow h h') : ObAt tl h' id l b Q := by
  exact hn.keep g.1 fun j hj _ => g.2 j hj
theorem OwnBytes.at {h : Heap} {v : AV} {bs : List Int} {P : Nat → Prop} (ho : OwnBytes h v bs P) : BytesAt h v bs := by
  rcases ho with ho | ⟨k, cap, ex, e, e2, _, e4⟩
  · exact .inl ho
  · exact .inr ⟨k, 0, cap, ex, _, _, e, e2, e4, by simp, by simp [List.take_of_length_le]⟩

/-- Take, of one that is there. -/
theorem take8 {h : Heap} {id b : Nat} {l1 l2 : List Msg} {m : Msg} {Q : Nat → Prop} (hn : NetAt h id (l1 ++ m :: l2) b Q) (hl : (l1 ++ m :: l2).length ≤ 64) (hb : m.bytes.length ≤ 140737488355328) (keep : Bool) :
    ∃ v h', xcall X1 tab (.fn 8) [.ptr id 0, .int .i64 l1.length, .bool keep] h = some (.tuple [.agg [.int .i64 m.client, .bool m.back, v], .bool true], h') ∧
      NetAt h' id (if keep then l1 ++ m :: l2 else l1 ++ l2) b Q ∧ NFrame h h' id b Q b Q ∧ NewBytes h h' v m.bytes := by
  have hH : ∃ H, h.alloc (.cells [.int .i64 0, .bool false, .nilsl] false) = H ∧ Grow h H ∧ H.next = h.next + 1 ∧ H.get h.next = some (.cells [.int .i64 0, .bool false, .nilsl] false) :=
    ⟨_, rfl, .alloc _ _, by simp, by rw [Heap.get_alloc, if_pos rfl]⟩
  obtain ⟨H, hA, gA, hHn, G⟩ := hH
  have hnH := hn.grow gA
  have ht := there23 hnH l1.length
  have hd : decide ((0 : Int) ≤ (l1.length : Int) ∧ (l1.length : Int) < ((l1 ++ m :: l2).length : Nat)) = true := by
    rw [decide_eq_true_eq, List.length_append, List.length_cons]; omega
  rw [hd] at ht
  have hn0 := hn
  have hnH0 := hnH
  obtain ⟨n1, n2, n3, n4, n5, n6, _⟩ := hn
  replace n2 := n2.resolve_right (by simp)
  obtain ⟨_, _, _, _, _, _, sl, hg, hs⟩ := hnH
  rcases hs with ⟨_, he⟩ | ⟨cap, rows, rest, rfl, hc, hgb, hcl, hrows⟩
  · simp at he
  · obtain ⟨r1, row, r2, rfl, g1, g2, g3⟩ := hrows.split
    obtain ⟨a1, a2⟩ := g1.len
    obtain ⟨v0, hrow, hob⟩ := g2
    have hix : (0 : Int) ≤ (l1.length : Int) ∧ (l1.length : Int) < ((l1 ++ m :: l2).length : Nat) := of_decide_eq_true hd
    have hld : loadA H true 3 b (l1.length * 3) = some (.agg row) := by
      have hle : l1.length * 3 + 3 ≤ ((r1 ++ row :: r2).flatten ++ rest).length := by
        rw [List.flatten_append, List.flatten_cons, List.length_append, List.length_append, List.length_append, a2, hrow]; simp; omega
      have u1 : ((r1 ++ row :: r2).flatten ++ rest) = r1.flatten ++ (row ++ (r2.flatten ++ rest)) := by simp
      have u2 : ((r1.flatten ++ (row ++ (r2.flatten ++ rest))).drop (l1.length * 3)).take 3 = row := by
        rw [← a2, List.drop_left]
        have : row.length = 3 := by rw [hrow]; rfl
        rw [← this, List.take_left]
      simp only [loadA, hgb, hle, if_true]
      rw [u1, u2]
    obtain ⟨v, H1, e1, q1, nb⟩ := copied22 (h := H) (cs := row) (m := m) ⟨v0, hrow, hob.at⟩ hb
    have hfv : AV.flat v = true := by rcases nb with ⟨rfl, _⟩ | ⟨_, _, _, rfl, _⟩ <;> rfl
    have hH2 : ∃ H2, (H1.alloc (.cells [.int .i64 0, .bool false, .nilsl] false)).set H1.next (.cells [.int .i64 m.client, .bool m.back, v] false) = H2 ∧ Grow H1 H2 ∧ H2.next = H1.next + 1 ∧ H2.get H1.next = some (.cells [.int .i64 m.client, .bool m.back, v] false) :=
      ⟨_, rfl, Grow.set (.alloc _ _) _ (Nat.le_refl _) (by simp), by simp, by rw [get_set, if_pos rfl, if_pos (by simp)]⟩
    obtain ⟨H2, hA2, gA2, hH2n, G2⟩ := hH2
    have hst : storeA (H1.alloc (.cells [.int .i64 0, .bool false, .nilsl] false)) H1.next 0 [.int .i64 m.client, .bool m.back, v] = some H2 := by
      rw [← hA2]; simp [storeA, Heap.get_alloc, splice]
    have q0 := gA.1
    have q2 := q1.1
    have q3 := gA2.1
    have hn2 : NetAt H2 id (l1 ++ m :: l2) b Q := hnH0.grow (q1.trans gA2)
    have G1 := gA2.get (q1.get G)
    -- behind the drop, or none
    have hdr : ∃ H3, (if keep then H3 = H2 else xcall X1 tab (.fn 15) [.ptr id 0, .int .i64 l1.length] H2 = some (.bool true, H3)) ∧ NetAt H3 id (if keep then l1 ++ m :: l2 else l1 ++ l2) b Q ∧ NFrame H2 H3 id b Q b Q ∧ H3.next = H2.next := by
      cases keep
      · obtain ⟨H3, e3, k1, k2, k3⟩ := drop15 hn2 hl
        exact ⟨H3, by simpa using e3, by simpa using k1, k2, k3⟩
      · exact ⟨H2, by simp, by simpa using hn2, ⟨Nat.le_refl _, fun _ _ _ _ => rfl, .inl rfl, fun j hq => .inl hq⟩, rfl⟩
    obtain ⟨H3, e3, k1, k2, k3⟩ := hdr
    have G3 : H3.get H1.next = some (.cells [.int .i64 m.client, .bool m.back, v] false) := by rw [k2.2.1 _ (by omega) (by omega) (by omega)]; exact G2
    have G4 : H3.get h.next = some (.cells [.int .i64 0, .bool false, .nilsl] false) := by rw [k2.2.1 _ (by omega) (by omega) (by omega)]; exact G1
    have hst2 : storeA H3 h.next 0 [.int .i64 m.client, .bool m.back, v] = some (H3.set h.next (.cells [.int .i64 m.client, .bool m.back, v] false)) := by simp [storeA, G4, splice]
    have hlt : h.next < H3.next := by omega
    refine ⟨v, H3.set h.next (.cells [.int .i64 m.client, .bool m.back, v] false), ?_, k1.keep (by simp) (fun j _ hj => ?_), ⟨by simp; omega, fun j j1 j2 j3 => ?_, .inl rfl, fun j hq => .inl hq⟩, ?_⟩
    · rw [x_fn rfl (show tab 8 = some sf8 from rfl)]
      have L1 : loadA H false 1 id 0 = some (.slice b 0 (l1 ++ m :: l2).length cap false 3) := by simp [loadA, hg]
      have L2 : loadA H3 true 3 H1.next 0 = some (.agg [.int .i64 m.client, .bool m.back, v]) := by simp [loadA, G3]
      have L3 : loadA (H3.set h.next (.cells [.int .i64 m.client, .bool m.back, v] false)) true 3 h.next 0 = some (.agg [.int .i64 m.client, .bool m.back, v]) := by simp [loadA, get_set, hlt]
      have hin : (l1.length : Int).toNat = l1.length := by simp
      cases keep
      · simp only [Bool.false_eq_true, if_false] at e3
        simp only [note_false, x_drawn, l_nil, l_op, l_guard, l_some, l_true, l_false, l_draw, readsA, x_true, x_false, x_seq, x_ops, x_cond, x_skip, x_ret, x_exit, x_block, x_then, x_thenE, x_thenR, x_blockN, x_blockR, x_blockE, s_nil, s_op, s_guard, s_some, s_true, s_false, s_put, s_put0, s_opsR, s_ret, s_norm, aop, ev, evs, List.map_cons, List.map_nil, List.cons_append, List.nil_append, List.append_nil, List.replicate, List.take_succ_cons, List.take_zero, List.take_nil, List.drop_succ_cons, List.drop_zero, List.drop_nil, Nat.zero_add, Nat.add_zero, Nat.reduceAdd, Nat.reduceMul, Nat.reduceLeDiff, Bool.false_eq_true, and_self, List.length_cons, List.length_nil, List.set_cons_zero, List.set_cons_succ, List.getD_cons_zero, List.getD_cons_succ, wantedA, List.getElem?_cons_zero, List.getElem?_cons_succ, q_t, q_f, Bool.not_true, Bool.not_false, b_add, b_sub, b_mul, b_eql, b_neq, b_lss, b_leq, b_gtr, b_geq, b_and, b_or, b_xor, b_quo, b_rem, b_shl, b_shr, unA, Option.map_some, Option.map_none, resA, tupA, Int.reduceLT, not_false_eq_true, not_true_eq_false, decide_true, decide_false, f_bool, c_bool, f_int, c_int, f_str, c_str, f_nilptr, c_nilptr, f_ptr, c_ptr, f_nilsl, c_nilsl, f_slice, c_slice, f_nilmap, c_nilmap, f_map, c_map, f_nilf, c_nilf, f_func, c_func, f_yieldf, c_yieldf, f_nilif, c_nilif, f_iface, c_iface, c_agg, List.all_cons, List.all_nil, Bool.and_true, Bool.true_and, if_true, if_false, ite_true, ite_false, hA, ht, L1, L2, L3, hix, hin, hld, e1, hst, hst2, hfv, e3]
      · simp only [if_true] at e3
        subst e3
        simp only [note_false, x_drawn, l_nil, l_op, l_guard, l_some, l_true, l_false, l_draw, readsA, x_true, x_false, x_seq, x_ops, x_cond, x_skip, x_ret, x_exit, x_block, x_then, x_thenE, x_thenR, x_blockN, x_blockR, x_blockE, s_nil, s_op, s_guard, s_some, s_true, s_false, s_put, s_put0, s_opsR, s_ret, s_norm, aop, ev, evs, List.map_cons, List.map_nil, List.cons_append, List.nil_append, List.append_nil, List.replicate, List.take_succ_cons, List.take_zero, List.take_nil, List.drop_succ_cons, List.drop_zero, List.drop_nil, Nat.zero_add, Nat.add_zero, Nat.reduceAdd, Nat.reduceMul, Nat.reduceLeDiff, Bool.false_eq_true, and_self, List.length_cons, List.length_nil, List.set_cons_zero, List.set_cons_succ, List.getD_cons_zero, List.getD_cons_succ, wantedA, List.getElem?_cons_zero, List.getElem?_cons_succ, q_t, q_f, Bool.not_true, Bool.not_false, b_add, b_sub, b_mul, b_eql, b_neq, b_lss, b_leq, b_gtr, b_geq, b_and, b_or, b_xor, b_quo, b_rem, b_shl, b_shr, unA, Option.map_some, Option.map_none, resA, tupA, Int.reduceLT, not_false_eq_true, not_true_eq_false, decide_true, decide_false, f_bool, c_bool, f_int, c_int, f_str, c_str, f_nilptr, c_nilptr, f_ptr, c_ptr, f_nilsl, c_nilsl, f_slice, c_slice, f_nilmap, c_nilmap, f_map, c_map, f_nilf, c_nilf, f_func, c_func, f_yieldf, c_yieldf, f_nilif, c_nilif, f_iface, c_iface, c_agg, List.all_cons, List.all_nil, Bool.and_true, Bool.true_and, if_true, if_false, ite_true, ite_false, hA, ht, L1, L2, L3, hix, hin, hld, e1, hst, hst2, hfv]
    · rw [get_set, if_neg]
      rcases hj with rfl | rfl | hj
      · omega
      · omega
      · have := n6 j hj; omega
    · rw [get_set, if_neg (by omega), k2.2.1 j (by omega) j2 j3, gA2.2 j (by omega), q1.2 j (by omega), gA.2 j j1]
    · rcases nb with nb | ⟨k, cap', ex, e, u1, u2, u3, u4, u5⟩
      · exact .inl nb
      · have := Heap.lt_of_get u4
        refine .inr ⟨k, cap', ex, e, u1, u2, by omega, ?_, u5.imp (fun e => e) fun e => ?_⟩
        · rw [get_set, if_neg (by omega), k2.2.1 k (by omega) (by omega) (by omega), gA2.2 k this]
          exact u4
        · have hk := Heap.byteAt_lt e
          rw [Heap.byteAt_of (h := H1)]
          · exact e
          · rw [get_set, if_neg (by omega), k2.2.1 (k + 1) (by omega) (by omega) (by omega), gA2.2 (k + 1) hk]
end Go.Proofs.Ytdgpjefbdocepaa.Ya
