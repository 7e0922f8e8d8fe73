/-
  xdr's Writer, and the document's, as many seats have them: each walked once, for any table that has them.
-/
import Derived.Test.YtplbampjponnpaaYaNum
namespace Go.Ya
set_option linter.unusedVariables false
set_option linter.unusedSimpArgs false
set_option maxRecDepth 100000
set_option maxHeartbeats 4000000

def layS : SFunc := ⟨15, [], .seq (.ops [⟨some 4, .mov (.t 0), none⟩, ⟨some 5, .bin (.neq) (.ptr) (.t 4) (.c (.nilptr)), none⟩]) (.cond (.t 5) (.ops [⟨some 6, .mov (.t 0), none⟩, ⟨some 7, .mov (.t 0), none⟩, ⟨some 8, .nilChk (.t 7), none⟩, ⟨some 9, .fieldAddr 0 (.t 8), none⟩, ⟨some 10, .load false 1 (.t 9), none⟩, ⟨some 11, .mov (.t 1), none⟩, ⟨some 12, .append 1 1 (.t 10) (.t 11), none⟩, ⟨some 13, .nilChk (.t 6), none⟩, ⟨some 14, .fieldAddr 0 (.t 13), none⟩, ⟨none, .store 1 (.t 14) (.t 12), none⟩]) (.skip))⟩
def wnumS (put lay : FuncId) : SFunc := ⟨17, [], .seq (.ops [⟨some 9, .mov (.t 1), none⟩, ⟨some 10, .mov (.t 2), none⟩, ⟨some 11, .call put [.t 9, .t 10], none⟩, ⟨some 8, .mov (.t 11), none⟩, ⟨some 12, .extract (.t 8) 0, none⟩, ⟨some 13, .extract (.t 8) 1, none⟩, ⟨some 6, .mov (.t 12), none⟩, ⟨some 7, .mov (.t 13), none⟩]) (.ops [⟨some 14, .mov (.t 0), none⟩, ⟨some 15, .mov (.t 6), none⟩, ⟨some 16, .call lay [.t 14, .t 15], none⟩])⟩
def wNumberS (wnum : FuncId) : SFunc := ⟨8, [], .ops [⟨some 4, .mov (.t 0), none⟩, ⟨some 5, .mov (.t 1), none⟩, ⟨some 6, .convInt (.u64) (.t 5), none⟩, ⟨some 7, .call wnum [.t 4, .t 6, .c (.int (.i64) 4)], none⟩]⟩
def wGreatS (wnum : FuncId) : SFunc := ⟨7, [], .ops [⟨some 4, .mov (.t 0), none⟩, ⟨some 5, .mov (.t 1), none⟩, ⟨some 6, .call wnum [.t 4, .t 5, .c (.int (.i64) 8)], none⟩]⟩
def wTruthS (wNumber : FuncId) : SFunc := ⟨9, [], .seq (.seq (.ops [⟨some 4, .mov (.t 1), none⟩]) (.cond (.t 4) (.seq (.ops [⟨some 5, .mov (.t 0), none⟩, ⟨some 6, .call wNumber [.t 5, .c (.int (.u32) 1)], none⟩]) (.ret)) (.skip))) (.ops [⟨some 7, .mov (.t 0), none⟩, ⟨some 8, .call wNumber [.t 7, .c (.int (.u32) 0)], none⟩])⟩
def wBytesS (wNumber lay pad : FuncId) : SFunc := ⟨18, [], .seq (.ops [⟨some 4, .mov (.t 0), none⟩, ⟨some 5, .mov (.t 1), none⟩, ⟨some 6, .len (.sl) (.t 5), none⟩, ⟨some 7, .convInt (.u32) (.t 6), none⟩, ⟨some 8, .call wNumber [.t 4, .t 7], none⟩]) (.seq (.ops [⟨some 9, .mov (.t 0), none⟩, ⟨some 10, .mov (.t 1), none⟩, ⟨some 11, .call lay [.t 9, .t 10], none⟩]) (.ops [⟨some 12, .mov (.t 0), none⟩, ⟨some 13, .mov (.t 1), none⟩, ⟨some 14, .len (.sl) (.t 13), none⟩, ⟨some 15, .call pad [.t 14], none⟩, ⟨some 16, .mkSlice [.int (.u8) 0] 1 1 (.t 15) (.t 15), none⟩, ⟨some 17, .call lay [.t 12, .t 16], none⟩]))⟩
def bareS (clone : FuncId) : SFunc := ⟨10, [.tmp 2], .seq (.ops [⟨some 2, .mov (.c (.nilsl)), none⟩]) (.seq (.seq (.ops [⟨some 3, .mov (.t 0), none⟩, ⟨some 4, .bin (.eql) (.ptr) (.t 3) (.c (.nilptr)), none⟩]) (.cond (.t 4) (.seq (.ops [⟨some 2, .mov (.c (.nilsl)), none⟩]) (.ret)) (.skip))) (.seq (.ops [⟨some 5, .mov (.t 0), none⟩, ⟨some 6, .nilChk (.t 5), none⟩, ⟨some 7, .fieldAddr 0 (.t 6), none⟩, ⟨some 8, .load false 1 (.t 7), none⟩, ⟨some 9, .call clone [.t 8], none⟩, ⟨some 2, .mov (.t 9), none⟩]) (.ret)))⟩
def rNumberS (rput : FuncId) : SFunc := ⟨12, [.tmp 2], .seq (.ops [⟨some 2, .mov (.c (.nilsl)), none⟩]) (.seq (.ops [⟨some 6, .mov (.t 0), none⟩, ⟨some 7, .convInt (.u64) (.t 6), none⟩, ⟨some 8, .call rput [.t 7, .c (.int (.i64) 4)], none⟩, ⟨some 5, .mov (.t 8), none⟩, ⟨some 9, .extract (.t 5) 0, none⟩, ⟨some 10, .extract (.t 5) 1, none⟩, ⟨some 3, .mov (.t 9), none⟩, ⟨some 4, .mov (.t 10), none⟩]) (.seq (.ops [⟨some 11, .mov (.t 3), none⟩, ⟨some 2, .mov (.t 11), none⟩]) (.ret)))⟩
def rGreatS (rput : FuncId) : SFunc := ⟨11, [.tmp 2], .seq (.ops [⟨some 2, .mov (.c (.nilsl)), none⟩]) (.seq (.ops [⟨some 6, .mov (.t 0), none⟩, ⟨some 7, .call rput [.t 6, .c (.int (.i64) 8)], none⟩, ⟨some 5, .mov (.t 7), none⟩, ⟨some 8, .extract (.t 5) 0, none⟩, ⟨some 9, .extract (.t 5) 1, none⟩, ⟨some 3, .mov (.t 8), none⟩, ⟨some 4, .mov (.t 9), none⟩]) (.seq (.ops [⟨some 10, .mov (.t 3), none⟩, ⟨some 2, .mov (.t 10), none⟩]) (.ret)))⟩
def rTruthS (rNumber : FuncId) : SFunc := ⟨6, [.tmp 2], .seq (.ops [⟨some 2, .mov (.c (.nilsl)), none⟩]) (.seq (.seq (.ops [⟨some 3, .mov (.t 0), none⟩]) (.cond (.t 3) (.seq (.ops [⟨some 4, .call rNumber [.c (.int (.u32) 1)], none⟩, ⟨some 2, .mov (.t 4), none⟩]) (.ret)) (.skip))) (.seq (.ops [⟨some 5, .call rNumber [.c (.int (.u32) 0)], none⟩, ⟨some 2, .mov (.t 5), none⟩]) (.ret)))⟩
def rBytesS (rNumber rpad : FuncId) : SFunc := ⟨23, [.tmp 2], .seq (.ops [⟨some 2, .mov (.c (.nilsl)), none⟩]) (.seq (.ops [⟨some 5, .mov (.t 0), none⟩, ⟨some 6, .len (.sl) (.t 5), none⟩, ⟨some 7, .convInt (.u32) (.t 6), none⟩, ⟨some 8, .call rNumber [.t 7], none⟩, ⟨some 3, .mov (.t 8), none⟩]) (.seq (.ops [⟨some 9, .mov (.t 3), none⟩, ⟨some 10, .mov (.t 0), none⟩, ⟨some 11, .append 1 1 (.t 9) (.t 10), none⟩, ⟨some 3, .mov (.t 11), none⟩]) (.seq (.seq (.ops [⟨some 4, .mov (.c (.int (.i64) 0)), none⟩]) (.block 0 (.loop (.seq (.seq (.ops [⟨some 12, .mov (.t 4), none⟩, ⟨some 13, .mov (.t 0), none⟩, ⟨some 14, .len (.sl) (.t 13), none⟩, ⟨some 15, .call rpad [.t 14], none⟩, ⟨some 16, .bin (.lss) (.other) (.t 12) (.t 15), none⟩]) (.cond (.t 16) (.skip) (.exit 0))) (.seq (.block 1 (.ops [⟨some 19, .mov (.t 3), none⟩, ⟨some 20, .buildSlice [.int (.u8) 0] 1 1 [(0, 1, .c (.int (.u8) 0))], none⟩, ⟨some 21, .append 1 1 (.t 19) (.t 20), none⟩, ⟨some 3, .mov (.t 21), none⟩])) (.ops [⟨some 17, .mov (.t 4), none⟩, ⟨some 18, .bin (.add) (.other) (.t 17) (.c (.int (.i64) 1)), none⟩, ⟨some 4, .mov (.t 18), none⟩])))))) (.seq (.ops [⟨some 22, .mov (.t 3), none⟩, ⟨some 2, .mov (.t 22), none⟩]) (.ret)))))⟩

/-- A table that has xdr's Writer. -/
structure XdrW (X : Known) (SP : FuncId → Option SFunc) extends NumW X SP where
  lay : FuncId
  wnum : FuncId
  wNumber : FuncId
  wGreat : FuncId
  wTruth : FuncId
  wBytes : FuncId
  bare : FuncId
  clone : FuncId
  rNumber : FuncId
  rGreat : FuncId
  rTruth : FuncId
  rBytes : FuncId
  kx2 : ∀ f args h, f = lay ∨ f = wnum ∨ f = wNumber ∨ f = wGreat ∨ f = wTruth ∨ f = wBytes ∨ f = bare ∨ f = clone ∨ f = rNumber ∨ f = rGreat ∨ f = rTruth ∨ f = rBytes → X f args h = none
  s8 : SP lay = some layS
  s9 : SP wnum = some (wnumS put lay)
  s10 : SP wNumber = some (wNumberS wnum)
  s11 : SP wGreat = some (wGreatS wnum)
  s12 : SP wTruth = some (wTruthS wNumber)
  s13 : SP wBytes = some (wBytesS wNumber lay pad)
  s14 : SP bare = some (bareS clone)
  s15 : SP clone = some cloneS
  s16 : SP rNumber = some (rNumberS rput)
  s17 : SP rGreat = some (rGreatS rput)
  s18 : SP rTruth = some (rTruthS rNumber)
  s19 : SP rBytes = some (rBytesS rNumber rpad)

/-- What an act on an object of blocks F leaves of all else. -/
def Stp (h h' : Heap) (F F' : Nat → Prop) : Prop := h.next ≤ h'.next ∧ (∀ j, j < h.next → ¬ F j → h'.get j = h.get j) ∧ (∀ j, F' j → F j ∨ h.next ≤ j)
theorem Stp.of_grow {h h' : Heap} {F : Nat → Prop} (g : Grow h h') : Stp h h' F F := ⟨g.1, fun j hj _ => g.2 j hj, fun j hj => .inl hj⟩
theorem Stp.trans {h h' h2 : Heap} {F F' F2 : Nat → Prop} (s : Stp h h' F F') (t : Stp h' h2 F' F2) : Stp h h2 F F2 :=
  ⟨Nat.le_trans s.1 t.1, fun j hj hn => (t.2.1 j (Nat.lt_of_lt_of_le hj s.1) fun hf => (s.2.2 j hf).elim hn fun e => by omega).trans (s.2.1 j hj hn), fun j hj => by
    rcases t.2.2 j hj with e | e
    · exact s.2.2 j e
    · exact .inr (Nat.le_trans s.1 e)⟩
theorem BytesAt.stp {h h' : Heap} {F F' : Nat → Prop} {v : AV} {bs : List Int} (hb : BytesAt h v bs) (s : Stp h h' F F') (hF : ∀ id o l c e z, v = .slice id o l c e z → ¬ F id) : BytesAt h' v bs := by
  rcases hb with e | ⟨id, off, cap, ex, c, ro, e1, e2, e3, e4, e5⟩
  · exact .inl e
  · exact .inr ⟨id, off, cap, ex, c, ro, e1, e2, (s.2.1 id (Heap.lt_of_get e3) (hF _ _ _ _ _ _ e1)).trans e3, e4, e5⟩

/-- A writer of what was laid, its own blocks F. -/
def WAt (h : Heap) (w : Nat) (bs : List Int) (F : Nat → Prop) : Prop :=
  F w ∧ (∀ j, F j → j < h.next) ∧ ∃ sl b, h.get w = some (.cells [sl] false) ∧ BufAt h sl b bs ∧ b ≠ w ∧ (sl ≠ .nilsl → F b)
theorem WAt.keep {h h' : Heap} {w : Nat} {bs : List Int} {F : Nat → Prop} (f : WAt h w bs F) (hx : h.next ≤ h'.next) (hs : ∀ j, F j → h'.get j = h.get j) : WAt h' w bs F := by
  obtain ⟨f1, f2, sl, b, f3, f4, f5, f6⟩ := f
  refine ⟨f1, fun j hj => Nat.lt_of_lt_of_le (f2 j hj) hx, sl, b, (hs w f1).trans f3, ?_, f5, f6⟩
  by_cases hn : sl = .nilsl
  · rcases f4 with e | ⟨cap, rest, e, _⟩
    · exact .inl e
    · rw [hn] at e; cases e
  · exact f4.keep fun o e => (hs b (f6 hn)).trans e
theorem WAt.grow {h h' : Heap} {w : Nat} {bs : List Int} {F : Nat → Prop} (f : WAt h w bs F) (g : Grow h h') : WAt h' w bs F := f.keep g.1 fun j hj => g.2 j (f.2.1 j hj)

section
variable {X : Known} {SP : FuncId → Option SFunc} (W : XdrW X SP)

theorem XdrW.lay_spec {h : Heap} {w : Nat} {bs ys : List Int} {F : Nat → Prop} (f : WAt h w bs F) {y : AV} (hy : BytesAt h y ys) (hl : bs.length + ys.length ≤ 140737488355328) :
    ∃ h' F', xcall X SP (.fn W.lay) [.ptr w 0, y] h = some (undefA, h') ∧ WAt h' w (bs ++ ys) F' ∧ Stp h h' F F' := by
  obtain ⟨f1, f2, sl, b, f3, f4, f5, f6⟩ := f
  obtain ⟨sl', h', b', hap, hb', x1, x2, x3, x4⟩ := f4.append hy hl
  have hw := f2 w f1
  have hfl := hb'.flat
  have L0 : loadA h false 1 w 0 = some sl := by rw [load_of f3]; rfl
  have hw3 : h'.get w = some (.cells [sl] false) := by
    rw [x2 w hw (.inr (Ne.symm f5))]; exact f3
  have hst : storeA h' w 0 [sl'] = some (h'.set w (.cells [sl'] false)) := by simp [storeA, hw3, splice]
  have hb'w : sl' ≠ .nilsl → b' ≠ w := fun hne => by
    rcases x3 hne with ⟨_, e⟩ | e
    · rw [e]; exact f5
    · omega
  refine ⟨h'.set w (.cells [sl'] false), fun j => j = w ∨ (sl' ≠ .nilsl ∧ j = b'), ?_, ⟨.inl rfl, fun j hj => ?_, ?_⟩, ⟨by simpa using x1, fun j j1 j2 => ?_, fun j hj => ?_⟩⟩
  · rw [x_fn (W.kx2 _ _ _ (by simp)) W.s8]
    simp (decide := true) only [note_false, Int.reduceBEq, Int.reduceBNe, x_drawn, l_nil, l_op, l_guard, l_some, l_true, l_false, l_draw, readsA, x_true, x_false, x_seq, x_ops, x_cond, x_skip, x_ret, x_exit, x_block, x_then, x_thenE, x_thenR, x_blockN, x_blockR, x_blockE, s_nil, s_op, s_guard, s_some, s_true, s_false, s_put, s_put0, s_opsR, s_ret, s_norm, aop, ev, evs, List.map_cons, List.map_nil, List.cons_append, List.nil_append, List.append_nil, List.replicate, List.take_succ_cons, List.take_zero, List.take_nil, List.drop_succ_cons, List.drop_zero, List.drop_nil, Nat.zero_add, Nat.add_zero, Nat.reduceAdd, Nat.reduceMul, Nat.reduceLeDiff, Bool.false_eq_true, and_self, List.length_cons, List.length_nil, List.set_cons_zero, List.set_cons_succ, List.getD_cons_zero, List.getD_cons_succ, wantedA, List.getElem?_cons_zero, List.getElem?_cons_succ, q_t, q_f, Bool.not_true, Bool.not_false, b_add, b_sub, b_mul, b_eql, b_neq, b_lss, b_leq, b_gtr, b_geq, b_and, b_or, b_xor, b_quo, b_rem, b_shl, b_shr, unA, Option.map_some, Option.map_none, resA, tupA, Int.reduceLT, not_false_eq_true, not_true_eq_false, decide_true, decide_false, f_bool, c_bool, f_int, c_int, f_str, c_str, f_nilptr, c_nilptr, f_ptr, c_ptr, f_nilsl, c_nilsl, f_slice, c_slice, f_nilmap, c_nilmap, f_map, c_map, f_nilf, c_nilf, f_func, c_func, f_yieldf, c_yieldf, f_nilif, c_nilif, f_iface, c_iface, c_agg, List.all_cons, List.all_nil, Bool.and_true, Bool.true_and, if_true, if_false, ite_true, ite_false, show binA .neq .ptr (.ptr w 0) .nilptr = some (.bool true) from rfl, L0, hap, hst, hfl, cells_of hfl, resA]
  · rcases hj with rfl | ⟨hne, rfl⟩
    · simp; omega
    · simpa using x4 hne
  · by_cases hne : sl' = .nilsl
    · refine ⟨sl', w + 1, by rw [get_set, if_pos rfl, if_pos (by omega)], ?_, by omega, fun e => absurd hne e⟩
      rcases hb' with e | ⟨cap, rest, e, _⟩
      · exact .inl e
      · rw [hne] at e; cases e
    · refine ⟨sl', b', by rw [get_set, if_pos rfl, if_pos (by omega)], hb'.keep fun o e => by rw [get_set, if_neg (hb'w hne)]; exact e, hb'w hne, fun _ => .inr ⟨hne, rfl⟩⟩
  · rw [get_set, if_neg (show j ≠ w from fun e => j2 (e ▸ f1))]
    refine x2 j j1 ?_
    by_cases hn : sl = .nilsl
    · exact .inl hn
    · exact .inr fun e => j2 (e ▸ f6 hn)
  · rcases hj with rfl | ⟨hne, rfl⟩
    · exact .inl f1
    · rcases x3 hne with ⟨q1, rfl⟩ | q
      · exact .inl (f6 q1)
      · exact .inr q
theorem XdrW.wnum4 {h : Heap} {w : Nat} {bs : List Int} {F : Nat → Prop} (f : WAt h w bs F) {n : Int} (h0 : 0 ≤ n) (h1 : n < 4294967296) (hl : bs.length ≤ 70368744177664) :
    ∃ h' F', xcall X SP (.fn W.wnum) [.ptr w 0, .int .u64 n, .int .i64 4] h = some (undefA, h') ∧ WAt h' w (bs ++ beL n 4) F' ∧ Stp h h' F F' := by
  obtain ⟨id, H, e, g, k1, k2⟩ := W.toNumW.put4 h0 h1 h
  have hy : BytesAt H (.slice id 0 4 4 true 1) (beL n 4) := .inr ⟨id, 0, 4, true, _, _, rfl, by simp [beL_len], k2, by simp [beL_len], by simp [beL_len, List.take_of_length_le]⟩
  obtain ⟨h', F', e2, r1, r2⟩ := W.lay_spec (f.grow g) hy (by rw [beL_len]; omega)
  refine ⟨h', F', ?_, r1, (Stp.of_grow g).trans r2⟩
  rw [x_fn (W.kx2 _ _ _ (by simp)) W.s9]
  simp (decide := true) only [note_false, Int.reduceBEq, Int.reduceBNe, x_drawn, l_nil, l_op, l_guard, l_some, l_true, l_false, l_draw, readsA, x_true, x_false, x_seq, x_ops, x_cond, x_skip, x_ret, x_exit, x_block, x_then, x_thenE, x_thenR, x_blockN, x_blockR, x_blockE, s_nil, s_op, s_guard, s_some, s_true, s_false, s_put, s_put0, s_opsR, s_ret, s_norm, aop, ev, evs, List.map_cons, List.map_nil, List.cons_append, List.nil_append, List.append_nil, List.replicate, List.take_succ_cons, List.take_zero, List.take_nil, List.drop_succ_cons, List.drop_zero, List.drop_nil, Nat.zero_add, Nat.add_zero, Nat.reduceAdd, Nat.reduceMul, Nat.reduceLeDiff, Bool.false_eq_true, and_self, List.length_cons, List.length_nil, List.set_cons_zero, List.set_cons_succ, List.getD_cons_zero, List.getD_cons_succ, wantedA, List.getElem?_cons_zero, List.getElem?_cons_succ, q_t, q_f, Bool.not_true, Bool.not_false, b_add, b_sub, b_mul, b_eql, b_neq, b_lss, b_leq, b_gtr, b_geq, b_and, b_or, b_xor, b_quo, b_rem, b_shl, b_shr, unA, Option.map_some, Option.map_none, resA, tupA, Int.reduceLT, not_false_eq_true, not_true_eq_false, decide_true, decide_false, f_bool, c_bool, f_int, c_int, f_str, c_str, f_nilptr, c_nilptr, f_ptr, c_ptr, f_nilsl, c_nilsl, f_slice, c_slice, f_nilmap, c_nilmap, f_map, c_map, f_nilf, c_nilf, f_func, c_func, f_yieldf, c_yieldf, f_nilif, c_nilif, f_iface, c_iface, c_agg, List.all_cons, List.all_nil, Bool.and_true, Bool.true_and, if_true, if_false, ite_true, ite_false, e, e2, resA]
theorem XdrW.wnum8 {h : Heap} {w : Nat} {bs : List Int} {F : Nat → Prop} (f : WAt h w bs F) {n : Int} (h0 : 0 ≤ n) (hl : bs.length ≤ 70368744177664) :
    ∃ h' F', xcall X SP (.fn W.wnum) [.ptr w 0, .int .u64 n, .int .i64 8] h = some (undefA, h') ∧ WAt h' w (bs ++ beL n 8) F' ∧ Stp h h' F F' := by
  obtain ⟨id, H, e, g, k1, k2⟩ := W.toNumW.put8 h0 h
  have hy : BytesAt H (.slice id 0 8 8 true 1) (beL n 8) := .inr ⟨id, 0, 8, true, _, _, rfl, by simp [beL_len], k2, by simp [beL_len], by simp [beL_len, List.take_of_length_le]⟩
  obtain ⟨h', F', e2, r1, r2⟩ := W.lay_spec (f.grow g) hy (by rw [beL_len]; omega)
  refine ⟨h', F', ?_, r1, (Stp.of_grow g).trans r2⟩
  rw [x_fn (W.kx2 _ _ _ (by simp)) W.s9]
  simp (decide := true) only [note_false, Int.reduceBEq, Int.reduceBNe, x_drawn, l_nil, l_op, l_guard, l_some, l_true, l_false, l_draw, readsA, x_true, x_false, x_seq, x_ops, x_cond, x_skip, x_ret, x_exit, x_block, x_then, x_thenE, x_thenR, x_blockN, x_blockR, x_blockE, s_nil, s_op, s_guard, s_some, s_true, s_false, s_put, s_put0, s_opsR, s_ret, s_norm, aop, ev, evs, List.map_cons, List.map_nil, List.cons_append, List.nil_append, List.append_nil, List.replicate, List.take_succ_cons, List.take_zero, List.take_nil, List.drop_succ_cons, List.drop_zero, List.drop_nil, Nat.zero_add, Nat.add_zero, Nat.reduceAdd, Nat.reduceMul, Nat.reduceLeDiff, Bool.false_eq_true, and_self, List.length_cons, List.length_nil, List.set_cons_zero, List.set_cons_succ, List.getD_cons_zero, List.getD_cons_succ, wantedA, List.getElem?_cons_zero, List.getElem?_cons_succ, q_t, q_f, Bool.not_true, Bool.not_false, b_add, b_sub, b_mul, b_eql, b_neq, b_lss, b_leq, b_gtr, b_geq, b_and, b_or, b_xor, b_quo, b_rem, b_shl, b_shr, unA, Option.map_some, Option.map_none, resA, tupA, Int.reduceLT, not_false_eq_true, not_true_eq_false, decide_true, decide_false, f_bool, c_bool, f_int, c_int, f_str, c_str, f_nilptr, c_nilptr, f_ptr, c_ptr, f_nilsl, c_nilsl, f_slice, c_slice, f_nilmap, c_nilmap, f_map, c_map, f_nilf, c_nilf, f_func, c_func, f_yieldf, c_yieldf, f_nilif, c_nilif, f_iface, c_iface, c_agg, List.all_cons, List.all_nil, Bool.and_true, Bool.true_and, if_true, if_false, ite_true, ite_false, e, e2, resA]
theorem XdrW.wNumber_spec {h : Heap} {w : Nat} {bs : List Int} {F : Nat → Prop} (f : WAt h w bs F) {n : Int} (h0 : 0 ≤ n) (h1 : n < 4294967296) (hl : bs.length ≤ 70368744177664) :
    ∃ h' F', xcall X SP (.fn W.wNumber) [.ptr w 0, .int .u32 n] h = some (undefA, h') ∧ WAt h' w (bs ++ beL n 4) F' ∧ Stp h h' F F' := by
  obtain ⟨h', F', e, r⟩ := W.wnum4 f h0 h1 hl
  refine ⟨h', F', ?_, r⟩
  rw [x_fn (W.kx2 _ _ _ (by simp)) W.s10]
  have hw : IntKind.u64.wrap n = n := IntWalk.u64_in _ (by omega)
  simp (decide := true) only [note_false, Int.reduceBEq, Int.reduceBNe, x_drawn, l_nil, l_op, l_guard, l_some, l_true, l_false, l_draw, readsA, x_true, x_false, x_seq, x_ops, x_cond, x_skip, x_ret, x_exit, x_block, x_then, x_thenE, x_thenR, x_blockN, x_blockR, x_blockE, s_nil, s_op, s_guard, s_some, s_true, s_false, s_put, s_put0, s_opsR, s_ret, s_norm, aop, ev, evs, List.map_cons, List.map_nil, List.cons_append, List.nil_append, List.append_nil, List.replicate, List.take_succ_cons, List.take_zero, List.take_nil, List.drop_succ_cons, List.drop_zero, List.drop_nil, Nat.zero_add, Nat.add_zero, Nat.reduceAdd, Nat.reduceMul, Nat.reduceLeDiff, Bool.false_eq_true, and_self, List.length_cons, List.length_nil, List.set_cons_zero, List.set_cons_succ, List.getD_cons_zero, List.getD_cons_succ, wantedA, List.getElem?_cons_zero, List.getElem?_cons_succ, q_t, q_f, Bool.not_true, Bool.not_false, b_add, b_sub, b_mul, b_eql, b_neq, b_lss, b_leq, b_gtr, b_geq, b_and, b_or, b_xor, b_quo, b_rem, b_shl, b_shr, unA, Option.map_some, Option.map_none, resA, tupA, Int.reduceLT, not_false_eq_true, not_true_eq_false, decide_true, decide_false, f_bool, c_bool, f_int, c_int, f_str, c_str, f_nilptr, c_nilptr, f_ptr, c_ptr, f_nilsl, c_nilsl, f_slice, c_slice, f_nilmap, c_nilmap, f_map, c_map, f_nilf, c_nilf, f_func, c_func, f_yieldf, c_yieldf, f_nilif, c_nilif, f_iface, c_iface, c_agg, List.all_cons, List.all_nil, Bool.and_true, Bool.true_and, if_true, if_false, ite_true, ite_false, hw, e, resA]
theorem XdrW.wGreat_spec {h : Heap} {w : Nat} {bs : List Int} {F : Nat → Prop} (f : WAt h w bs F) {n : Int} (h0 : 0 ≤ n) (hl : bs.length ≤ 70368744177664) :
    ∃ h' F', xcall X SP (.fn W.wGreat) [.ptr w 0, .int .u64 n] h = some (undefA, h') ∧ WAt h' w (bs ++ beL n 8) F' ∧ Stp h h' F F' := by
  obtain ⟨h', F', e, r⟩ := W.wnum8 f h0 hl
  refine ⟨h', F', ?_, r⟩
  rw [x_fn (W.kx2 _ _ _ (by simp)) W.s11]
  simp (decide := true) only [note_false, Int.reduceBEq, Int.reduceBNe, x_drawn, l_nil, l_op, l_guard, l_some, l_true, l_false, l_draw, readsA, x_true, x_false, x_seq, x_ops, x_cond, x_skip, x_ret, x_exit, x_block, x_then, x_thenE, x_thenR, x_blockN, x_blockR, x_blockE, s_nil, s_op, s_guard, s_some, s_true, s_false, s_put, s_put0, s_opsR, s_ret, s_norm, aop, ev, evs, List.map_cons, List.map_nil, List.cons_append, List.nil_append, List.append_nil, List.replicate, List.take_succ_cons, List.take_zero, List.take_nil, List.drop_succ_cons, List.drop_zero, List.drop_nil, Nat.zero_add, Nat.add_zero, Nat.reduceAdd, Nat.reduceMul, Nat.reduceLeDiff, Bool.false_eq_true, and_self, List.length_cons, List.length_nil, List.set_cons_zero, List.set_cons_succ, List.getD_cons_zero, List.getD_cons_succ, wantedA, List.getElem?_cons_zero, List.getElem?_cons_succ, q_t, q_f, Bool.not_true, Bool.not_false, b_add, b_sub, b_mul, b_eql, b_neq, b_lss, b_leq, b_gtr, b_geq, b_and, b_or, b_xor, b_quo, b_rem, b_shl, b_shr, unA, Option.map_some, Option.map_none, resA, tupA, Int.reduceLT, not_false_eq_true, not_true_eq_false, decide_true, decide_false, f_bool, c_bool, f_int, c_int, f_str, c_str, f_nilptr, c_nilptr, f_ptr, c_ptr, f_nilsl, c_nilsl, f_slice, c_slice, f_nilmap, c_nilmap, f_map, c_map, f_nilf, c_nilf, f_func, c_func, f_yieldf, c_yieldf, f_nilif, c_nilif, f_iface, c_iface, c_agg, List.all_cons, List.all_nil, Bool.and_true, Bool.true_and, if_true, if_false, ite_true, ite_false, e, resA]
theorem XdrW.wTruth_spec {h : Heap} {w : Nat} {bs : List Int} {F : Nat → Prop} (f : WAt h w bs F) (is : Bool) (hl : bs.length ≤ 70368744177664) :
    ∃ h' F', xcall X SP (.fn W.wTruth) [.ptr w 0, .bool is] h = some (undefA, h') ∧ WAt h' w (bs ++ beL (if is then 1 else 0) 4) F' ∧ Stp h h' F F' := by
  cases is
  · obtain ⟨h', F', e, r⟩ := W.wNumber_spec f (n := 0) (by decide) (by decide) hl
    refine ⟨h', F', ?_, by simpa using r⟩
    rw [x_fn (W.kx2 _ _ _ (by simp)) W.s12]
    simp (decide := true) only [note_false, Int.reduceBEq, Int.reduceBNe, x_drawn, l_nil, l_op, l_guard, l_some, l_true, l_false, l_draw, readsA, x_true, x_false, x_seq, x_ops, x_cond, x_skip, x_ret, x_exit, x_block, x_then, x_thenE, x_thenR, x_blockN, x_blockR, x_blockE, s_nil, s_op, s_guard, s_some, s_true, s_false, s_put, s_put0, s_opsR, s_ret, s_norm, aop, ev, evs, List.map_cons, List.map_nil, List.cons_append, List.nil_append, List.append_nil, List.replicate, List.take_succ_cons, List.take_zero, List.take_nil, List.drop_succ_cons, List.drop_zero, List.drop_nil, Nat.zero_add, Nat.add_zero, Nat.reduceAdd, Nat.reduceMul, Nat.reduceLeDiff, Bool.false_eq_true, and_self, List.length_cons, List.length_nil, List.set_cons_zero, List.set_cons_succ, List.getD_cons_zero, List.getD_cons_succ, wantedA, List.getElem?_cons_zero, List.getElem?_cons_succ, q_t, q_f, Bool.not_true, Bool.not_false, b_add, b_sub, b_mul, b_eql, b_neq, b_lss, b_leq, b_gtr, b_geq, b_and, b_or, b_xor, b_quo, b_rem, b_shl, b_shr, unA, Option.map_some, Option.map_none, resA, tupA, Int.reduceLT, not_false_eq_true, not_true_eq_false, decide_true, decide_false, f_bool, c_bool, f_int, c_int, f_str, c_str, f_nilptr, c_nilptr, f_ptr, c_ptr, f_nilsl, c_nilsl, f_slice, c_slice, f_nilmap, c_nilmap, f_map, c_map, f_nilf, c_nilf, f_func, c_func, f_yieldf, c_yieldf, f_nilif, c_nilif, f_iface, c_iface, c_agg, List.all_cons, List.all_nil, Bool.and_true, Bool.true_and, if_true, if_false, ite_true, ite_false, e, resA]
  · obtain ⟨h', F', e, r⟩ := W.wNumber_spec f (n := 1) (by decide) (by decide) hl
    refine ⟨h', F', ?_, by simpa using r⟩
    rw [x_fn (W.kx2 _ _ _ (by simp)) W.s12]
    simp (decide := true) only [note_false, Int.reduceBEq, Int.reduceBNe, x_drawn, l_nil, l_op, l_guard, l_some, l_true, l_false, l_draw, readsA, x_true, x_false, x_seq, x_ops, x_cond, x_skip, x_ret, x_exit, x_block, x_then, x_thenE, x_thenR, x_blockN, x_blockR, x_blockE, s_nil, s_op, s_guard, s_some, s_true, s_false, s_put, s_put0, s_opsR, s_ret, s_norm, aop, ev, evs, List.map_cons, List.map_nil, List.cons_append, List.nil_append, List.append_nil, List.replicate, List.take_succ_cons, List.take_zero, List.take_nil, List.drop_succ_cons, List.drop_zero, List.drop_nil, Nat.zero_add, Nat.add_zero, Nat.reduceAdd, Nat.reduceMul, Nat.reduceLeDiff, Bool.false_eq_true, and_self, List.length_cons, List.length_nil, List.set_cons_zero, List.set_cons_succ, List.getD_cons_zero, List.getD_cons_succ, wantedA, List.getElem?_cons_zero, List.getElem?_cons_succ, q_t, q_f, Bool.not_true, Bool.not_false, b_add, b_sub, b_mul, b_eql, b_neq, b_lss, b_leq, b_gtr, b_geq, b_and, b_or, b_xor, b_quo, b_rem, b_shl, b_shr, unA, Option.map_some, Option.map_none, resA, tupA, Int.reduceLT, not_false_eq_true, not_true_eq_false, decide_true, decide_false, f_bool, c_bool, f_int, c_int, f_str, c_str, f_nilptr, c_nilptr, f_ptr, c_ptr, f_nilsl, c_nilsl, f_slice, c_slice, f_nilmap, c_nilmap, f_map, c_map, f_nilf, c_nilf, f_func, c_func, f_yieldf, c_yieldf, f_nilif, c_nilif, f_iface, c_iface, c_agg, List.all_cons, List.all_nil, Bool.and_true, Bool.true_and, if_true, if_false, ite_true, ite_false, e, resA]
/-- The bytes that bytes are laid as. -/
def encB (xs : List Int) : List Int := beL xs.length 4 ++ xs ++ List.replicate (padZ xs.length).toNat 0
theorem padZ_le (n : Int) : 0 ≤ padZ n ∧ padZ n ≤ 3 := by unfold padZ; omega
theorem XdrW.wBytes_spec {h : Heap} {w : Nat} {bs xs : List Int} {F : Nat → Prop} (f : WAt h w bs F) {x : AV} (hx : BytesAt h x xs) (hxF : ∀ id o l c e z, x = .slice id o l c e z → ¬ F id) (hl : bs.length ≤ 35184372088832) (hxl : xs.length < 4294967296) :
    ∃ h' F', xcall X SP (.fn W.wBytes) [.ptr w 0, x] h = some (undefA, h') ∧ WAt h' w (bs ++ encB xs) F' ∧ Stp h h' F F' := by
  obtain ⟨H1, F1, e1, f1, s1⟩ := W.wNumber_spec f (n := xs.length) (by omega) (by omega) (by omega)
  have hx1 : BytesAt H1 x xs := hx.stp s1 hxF
  obtain ⟨H2, F2, e2, f2, s2⟩ := W.lay_spec f1 hx1 (by simp [beL_len]; omega)
  have hp := padZ_le xs.length
  generalize hpz : padZ (xs.length : Int) = p at hp
  have e3 := W.toNumW.pad_spec (n := xs.length) (by omega) (by omega) H2
  rw [hpz] at e3
  have hz : (List.replicate p.toNat [AV.int .u8 0]).flatten = ints (List.replicate p.toNat 0) := by
    simp [ints]
  have hH : ∃ H3, H2.alloc (.cells (List.replicate p.toNat [AV.int .u8 0]).flatten false) = H3 ∧ Grow H2 H3 ∧ H3.get H2.next = some (.cells (ints (List.replicate p.toNat 0)) false) :=
    ⟨_, rfl, .alloc _ _, by rw [Heap.get_alloc, if_pos rfl, hz]⟩
  obtain ⟨H3, hA, gA, G⟩ := hH
  have hy : BytesAt H3 (.slice H2.next 0 p.toNat p.toNat true 1) (List.replicate p.toNat 0) := .inr ⟨H2.next, 0, p.toNat, true, _, _, by simp, by simp, G, by simp, by simp [List.take_of_length_le]⟩
  obtain ⟨H4, F4, e4, f4, s4⟩ := W.lay_spec (f2.grow gA) hy (by simp [beL_len]; omega)
  refine ⟨H4, F4, ?_, ?_, s1.trans (s2.trans ((Stp.of_grow gA).trans s4))⟩
  · have hp1 := hp.1
    have hp2 : p ≤ 140737488355328 := by omega
    have hp3 : 1 * p ≤ 140737488355328 := by omega
    have hw : IntKind.u32.wrap (xs.length : Int) = xs.length := IntWalk.u32_in _ (by omega)
    rw [x_fn (W.kx2 _ _ _ (by simp)) W.s13]
    rcases hx with ⟨rfl, rfl⟩ | ⟨id, off, cap, ex, c, ro, rfl, _⟩
    · simp only [List.length_nil, Int.ofNat_zero] at e1 e3 hw
      simp (decide := true) only [note_false, Int.reduceBEq, Int.reduceBNe, x_drawn, l_nil, l_op, l_guard, l_some, l_true, l_false, l_draw, readsA, x_true, x_false, x_seq, x_ops, x_cond, x_skip, x_ret, x_exit, x_block, x_then, x_thenE, x_thenR, x_blockN, x_blockR, x_blockE, s_nil, s_op, s_guard, s_some, s_true, s_false, s_put, s_put0, s_opsR, s_ret, s_norm, aop, ev, evs, List.map_cons, List.map_nil, List.cons_append, List.nil_append, List.append_nil, List.replicate, List.take_succ_cons, List.take_zero, List.take_nil, List.drop_succ_cons, List.drop_zero, List.drop_nil, Nat.zero_add, Nat.add_zero, Nat.reduceAdd, Nat.reduceMul, Nat.reduceLeDiff, Bool.false_eq_true, and_self, List.length_cons, List.length_nil, List.set_cons_zero, List.set_cons_succ, List.getD_cons_zero, List.getD_cons_succ, wantedA, List.getElem?_cons_zero, List.getElem?_cons_succ, q_t, q_f, Bool.not_true, Bool.not_false, b_add, b_sub, b_mul, b_eql, b_neq, b_lss, b_leq, b_gtr, b_geq, b_and, b_or, b_xor, b_quo, b_rem, b_shl, b_shr, unA, Option.map_some, Option.map_none, resA, tupA, Int.reduceLT, not_false_eq_true, not_true_eq_false, decide_true, decide_false, f_bool, c_bool, f_int, c_int, f_str, c_str, f_nilptr, c_nilptr, f_ptr, c_ptr, f_nilsl, c_nilsl, f_slice, c_slice, f_nilmap, c_nilmap, f_map, c_map, f_nilf, c_nilf, f_func, c_func, f_yieldf, c_yieldf, f_nilif, c_nilif, f_iface, c_iface, c_agg, List.all_cons, List.all_nil, Bool.and_true, Bool.true_and, if_true, if_false, ite_true, ite_false, hw, e1, e2, e3, hp1, hp2, hp3, Int.le_refl, Int.one_mul, hA, e4, resA, Int.ofNat_one]
    · simp (decide := true) only [note_false, Int.reduceBEq, Int.reduceBNe, x_drawn, l_nil, l_op, l_guard, l_some, l_true, l_false, l_draw, readsA, x_true, x_false, x_seq, x_ops, x_cond, x_skip, x_ret, x_exit, x_block, x_then, x_thenE, x_thenR, x_blockN, x_blockR, x_blockE, s_nil, s_op, s_guard, s_some, s_true, s_false, s_put, s_put0, s_opsR, s_ret, s_norm, aop, ev, evs, List.map_cons, List.map_nil, List.cons_append, List.nil_append, List.append_nil, List.replicate, List.take_succ_cons, List.take_zero, List.take_nil, List.drop_succ_cons, List.drop_zero, List.drop_nil, Nat.zero_add, Nat.add_zero, Nat.reduceAdd, Nat.reduceMul, Nat.reduceLeDiff, Bool.false_eq_true, and_self, List.length_cons, List.length_nil, List.set_cons_zero, List.set_cons_succ, List.getD_cons_zero, List.getD_cons_succ, wantedA, List.getElem?_cons_zero, List.getElem?_cons_succ, q_t, q_f, Bool.not_true, Bool.not_false, b_add, b_sub, b_mul, b_eql, b_neq, b_lss, b_leq, b_gtr, b_geq, b_and, b_or, b_xor, b_quo, b_rem, b_shl, b_shr, unA, Option.map_some, Option.map_none, resA, tupA, Int.reduceLT, not_false_eq_true, not_true_eq_false, decide_true, decide_false, f_bool, c_bool, f_int, c_int, f_str, c_str, f_nilptr, c_nilptr, f_ptr, c_ptr, f_nilsl, c_nilsl, f_slice, c_slice, f_nilmap, c_nilmap, f_map, c_map, f_nilf, c_nilf, f_func, c_func, f_yieldf, c_yieldf, f_nilif, c_nilif, f_iface, c_iface, c_agg, List.all_cons, List.all_nil, Bool.and_true, Bool.true_and, if_true, if_false, ite_true, ite_false, hw, e1, e2, e3, hp1, hp2, hp3, Int.le_refl, Int.one_mul, hA, e4, resA, Int.ofNat_one]
  · unfold encB
    rw [hpz]
    simpa using f4
theorem XdrW.bare_spec {h : Heap} {w : Nat} {bs : List Int} {F : Nat → Prop} (f : WAt h w bs F) (hl : bs.length ≤ 140737488355328) :
    ∃ v h', xcall X SP (.fn W.bare) [.ptr w 0] h = some (v, h') ∧ Grow h h' ∧ NewBytes h h' v bs := by
  obtain ⟨f1, f2, sl, b, f3, f4, f5, f6⟩ := f
  obtain ⟨v, h', e, g, nb, _⟩ := clone_spec (X := X) (SP := SP) (f := W.clone) (fun _ _ => W.kx2 _ _ _ (by simp)) W.s15 f4.at hl
  have L0 : loadA h false 1 w 0 = some sl := by rw [load_of f3]; rfl
  refine ⟨v, h', ?_, g, nb⟩
  rw [x_fn (W.kx2 _ _ _ (by simp)) W.s14]
  simp (decide := true) only [note_false, Int.reduceBEq, Int.reduceBNe, x_drawn, l_nil, l_op, l_guard, l_some, l_true, l_false, l_draw, readsA, x_true, x_false, x_seq, x_ops, x_cond, x_skip, x_ret, x_exit, x_block, x_then, x_thenE, x_thenR, x_blockN, x_blockR, x_blockE, s_nil, s_op, s_guard, s_some, s_true, s_false, s_put, s_put0, s_opsR, s_ret, s_norm, aop, ev, evs, List.map_cons, List.map_nil, List.cons_append, List.nil_append, List.append_nil, List.replicate, List.take_succ_cons, List.take_zero, List.take_nil, List.drop_succ_cons, List.drop_zero, List.drop_nil, Nat.zero_add, Nat.add_zero, Nat.reduceAdd, Nat.reduceMul, Nat.reduceLeDiff, Bool.false_eq_true, and_self, List.length_cons, List.length_nil, List.set_cons_zero, List.set_cons_succ, List.getD_cons_zero, List.getD_cons_succ, wantedA, List.getElem?_cons_zero, List.getElem?_cons_succ, q_t, q_f, Bool.not_true, Bool.not_false, b_add, b_sub, b_mul, b_eql, b_neq, b_lss, b_leq, b_gtr, b_geq, b_and, b_or, b_xor, b_quo, b_rem, b_shl, b_shr, unA, Option.map_some, Option.map_none, resA, tupA, Int.reduceLT, not_false_eq_true, not_true_eq_false, decide_true, decide_false, f_bool, c_bool, f_int, c_int, f_str, c_str, f_nilptr, c_nilptr, f_ptr, c_ptr, f_nilsl, c_nilsl, f_slice, c_slice, f_nilmap, c_nilmap, f_map, c_map, f_nilf, c_nilf, f_func, c_func, f_yieldf, c_yieldf, f_nilif, c_nilif, f_iface, c_iface, c_agg, List.all_cons, List.all_nil, Bool.and_true, Bool.true_and, if_true, if_false, ite_true, ite_false, show binA .eql .ptr (.ptr w 0) .nilptr = some (.bool false) from rfl, L0, e]

theorem XdrW.rNumber_spec {n : Int} (h0 : 0 ≤ n) (h1 : n < 4294967296) (h : Heap) : ∃ v b h', xcall X SP (.fn W.rNumber) [.int .u32 n] h = some (v, h') ∧ Grow h h' ∧ BufAt h' v b (beL n 4) ∧ h.next ≤ b := by
  obtain ⟨v, b, h', e, r⟩ := W.toNumW.rput4 h0 h1 h
  refine ⟨v, b, h', ?_, r⟩
  rw [x_fn (W.kx2 _ _ _ (by simp)) W.s16]
  have hw : IntKind.u64.wrap n = n := IntWalk.u64_in _ (by omega)
  simp (decide := true) only [note_false, Int.reduceBEq, Int.reduceBNe, x_drawn, l_nil, l_op, l_guard, l_some, l_true, l_false, l_draw, readsA, x_true, x_false, x_seq, x_ops, x_cond, x_skip, x_ret, x_exit, x_block, x_then, x_thenE, x_thenR, x_blockN, x_blockR, x_blockE, s_nil, s_op, s_guard, s_some, s_true, s_false, s_put, s_put0, s_opsR, s_ret, s_norm, aop, ev, evs, List.map_cons, List.map_nil, List.cons_append, List.nil_append, List.append_nil, List.replicate, List.take_succ_cons, List.take_zero, List.take_nil, List.drop_succ_cons, List.drop_zero, List.drop_nil, Nat.zero_add, Nat.add_zero, Nat.reduceAdd, Nat.reduceMul, Nat.reduceLeDiff, Bool.false_eq_true, and_self, List.length_cons, List.length_nil, List.set_cons_zero, List.set_cons_succ, List.getD_cons_zero, List.getD_cons_succ, wantedA, List.getElem?_cons_zero, List.getElem?_cons_succ, q_t, q_f, Bool.not_true, Bool.not_false, b_add, b_sub, b_mul, b_eql, b_neq, b_lss, b_leq, b_gtr, b_geq, b_and, b_or, b_xor, b_quo, b_rem, b_shl, b_shr, unA, Option.map_some, Option.map_none, resA, tupA, Int.reduceLT, not_false_eq_true, not_true_eq_false, decide_true, decide_false, f_bool, c_bool, f_int, c_int, f_str, c_str, f_nilptr, c_nilptr, f_ptr, c_ptr, f_nilsl, c_nilsl, f_slice, c_slice, f_nilmap, c_nilmap, f_map, c_map, f_nilf, c_nilf, f_func, c_func, f_yieldf, c_yieldf, f_nilif, c_nilif, f_iface, c_iface, c_agg, List.all_cons, List.all_nil, Bool.and_true, Bool.true_and, if_true, if_false, ite_true, ite_false, hw, e]
theorem XdrW.rGreat_spec {n : Int} (h0 : 0 ≤ n) (h : Heap) : ∃ v b h', xcall X SP (.fn W.rGreat) [.int .u64 n] h = some (v, h') ∧ Grow h h' ∧ BufAt h' v b (beL n 8) ∧ h.next ≤ b := by
  obtain ⟨v, b, h', e, r⟩ := W.toNumW.rput8 h0 h
  refine ⟨v, b, h', ?_, r⟩
  rw [x_fn (W.kx2 _ _ _ (by simp)) W.s17]
  simp (decide := true) only [note_false, Int.reduceBEq, Int.reduceBNe, x_drawn, l_nil, l_op, l_guard, l_some, l_true, l_false, l_draw, readsA, x_true, x_false, x_seq, x_ops, x_cond, x_skip, x_ret, x_exit, x_block, x_then, x_thenE, x_thenR, x_blockN, x_blockR, x_blockE, s_nil, s_op, s_guard, s_some, s_true, s_false, s_put, s_put0, s_opsR, s_ret, s_norm, aop, ev, evs, List.map_cons, List.map_nil, List.cons_append, List.nil_append, List.append_nil, List.replicate, List.take_succ_cons, List.take_zero, List.take_nil, List.drop_succ_cons, List.drop_zero, List.drop_nil, Nat.zero_add, Nat.add_zero, Nat.reduceAdd, Nat.reduceMul, Nat.reduceLeDiff, Bool.false_eq_true, and_self, List.length_cons, List.length_nil, List.set_cons_zero, List.set_cons_succ, List.getD_cons_zero, List.getD_cons_succ, wantedA, List.getElem?_cons_zero, List.getElem?_cons_succ, q_t, q_f, Bool.not_true, Bool.not_false, b_add, b_sub, b_mul, b_eql, b_neq, b_lss, b_leq, b_gtr, b_geq, b_and, b_or, b_xor, b_quo, b_rem, b_shl, b_shr, unA, Option.map_some, Option.map_none, resA, tupA, Int.reduceLT, not_false_eq_true, not_true_eq_false, decide_true, decide_false, f_bool, c_bool, f_int, c_int, f_str, c_str, f_nilptr, c_nilptr, f_ptr, c_ptr, f_nilsl, c_nilsl, f_slice, c_slice, f_nilmap, c_nilmap, f_map, c_map, f_nilf, c_nilf, f_func, c_func, f_yieldf, c_yieldf, f_nilif, c_nilif, f_iface, c_iface, c_agg, List.all_cons, List.all_nil, Bool.and_true, Bool.true_and, if_true, if_false, ite_true, ite_false, e]
theorem XdrW.rTruth_spec (is : Bool) (h : Heap) : ∃ v b h', xcall X SP (.fn W.rTruth) [.bool is] h = some (v, h') ∧ Grow h h' ∧ BufAt h' v b (beL (if is then 1 else 0) 4) ∧ h.next ≤ b := by
  cases is
  · obtain ⟨v, b, h', e, r⟩ := W.rNumber_spec (n := 0) (by decide) (by decide) h
    refine ⟨v, b, h', ?_, by simpa using r⟩
    rw [x_fn (W.kx2 _ _ _ (by simp)) W.s18]
    simp (decide := true) only [note_false, Int.reduceBEq, Int.reduceBNe, x_drawn, l_nil, l_op, l_guard, l_some, l_true, l_false, l_draw, readsA, x_true, x_false, x_seq, x_ops, x_cond, x_skip, x_ret, x_exit, x_block, x_then, x_thenE, x_thenR, x_blockN, x_blockR, x_blockE, s_nil, s_op, s_guard, s_some, s_true, s_false, s_put, s_put0, s_opsR, s_ret, s_norm, aop, ev, evs, List.map_cons, List.map_nil, List.cons_append, List.nil_append, List.append_nil, List.replicate, List.take_succ_cons, List.take_zero, List.take_nil, List.drop_succ_cons, List.drop_zero, List.drop_nil, Nat.zero_add, Nat.add_zero, Nat.reduceAdd, Nat.reduceMul, Nat.reduceLeDiff, Bool.false_eq_true, and_self, List.length_cons, List.length_nil, List.set_cons_zero, List.set_cons_succ, List.getD_cons_zero, List.getD_cons_succ, wantedA, List.getElem?_cons_zero, List.getElem?_cons_succ, q_t, q_f, Bool.not_true, Bool.not_false, b_add, b_sub, b_mul, b_eql, b_neq, b_lss, b_leq, b_gtr, b_geq, b_and, b_or, b_xor, b_quo, b_rem, b_shl, b_shr, unA, Option.map_some, Option.map_none, resA, tupA, Int.reduceLT, not_false_eq_true, not_true_eq_false, decide_true, decide_false, f_bool, c_bool, f_int, c_int, f_str, c_str, f_nilptr, c_nilptr, f_ptr, c_ptr, f_nilsl, c_nilsl, f_slice, c_slice, f_nilmap, c_nilmap, f_map, c_map, f_nilf, c_nilf, f_func, c_func, f_yieldf, c_yieldf, f_nilif, c_nilif, f_iface, c_iface, c_agg, List.all_cons, List.all_nil, Bool.and_true, Bool.true_and, if_true, if_false, ite_true, ite_false, e]
  · obtain ⟨v, b, h', e, r⟩ := W.rNumber_spec (n := 1) (by decide) (by decide) h
    refine ⟨v, b, h', ?_, by simpa using r⟩
    rw [x_fn (W.kx2 _ _ _ (by simp)) W.s18]
    simp (decide := true) only [note_false, Int.reduceBEq, Int.reduceBNe, x_drawn, l_nil, l_op, l_guard, l_some, l_true, l_false, l_draw, readsA, x_true, x_false, x_seq, x_ops, x_cond, x_skip, x_ret, x_exit, x_block, x_then, x_thenE, x_thenR, x_blockN, x_blockR, x_blockE, s_nil, s_op, s_guard, s_some, s_true, s_false, s_put, s_put0, s_opsR, s_ret, s_norm, aop, ev, evs, List.map_cons, List.map_nil, List.cons_append, List.nil_append, List.append_nil, List.replicate, List.take_succ_cons, List.take_zero, List.take_nil, List.drop_succ_cons, List.drop_zero, List.drop_nil, Nat.zero_add, Nat.add_zero, Nat.reduceAdd, Nat.reduceMul, Nat.reduceLeDiff, Bool.false_eq_true, and_self, List.length_cons, List.length_nil, List.set_cons_zero, List.set_cons_succ, List.getD_cons_zero, List.getD_cons_succ, wantedA, List.getElem?_cons_zero, List.getElem?_cons_succ, q_t, q_f, Bool.not_true, Bool.not_false, b_add, b_sub, b_mul, b_eql, b_neq, b_lss, b_leq, b_gtr, b_geq, b_and, b_or, b_xor, b_quo, b_rem, b_shl, b_shr, unA, Option.map_some, Option.map_none, resA, tupA, Int.reduceLT, not_false_eq_true, not_true_eq_false, decide_true, decide_false, f_bool, c_bool, f_int, c_int, f_str, c_str, f_nilptr, c_nilptr, f_ptr, c_ptr, f_nilsl, c_nilsl, f_slice, c_slice, f_nilmap, c_nilmap, f_map, c_map, f_nilf, c_nilf, f_func, c_func, f_yieldf, c_yieldf, f_nilif, c_nilif, f_iface, c_iface, c_agg, List.all_cons, List.all_nil, Bool.and_true, Bool.true_and, if_true, if_false, ite_true, ite_false, e]

def rbytesB (rpad : FuncId) : SC := (.seq (.seq (.ops [⟨some 12, .mov (.t 4), none⟩, ⟨some 13, .mov (.t 0), none⟩, ⟨some 14, .len (.sl) (.t 13), none⟩, ⟨some 15, .call rpad [.t 14], none⟩, ⟨some 16, .bin (.lss) (.other) (.t 12) (.t 15), none⟩]) (.cond (.t 16) (.skip) (.exit 0))) (.seq (.block 1 (.ops [⟨some 19, .mov (.t 3), none⟩, ⟨some 20, .buildSlice [.int (.u8) 0] 1 1 [(0, 1, .c (.int (.u8) 0))], none⟩, ⟨some 21, .append 1 1 (.t 19) (.t 20), none⟩, ⟨some 3, .mov (.t 21), none⟩])) (.ops [⟨some 17, .mov (.t 4), none⟩, ⟨some 18, .bin (.add) (.other) (.t 17) (.c (.int (.i64) 1)), none⟩, ⟨some 4, .mov (.t 18), none⟩])))
def rbytesT : SC := (.seq (.ops [⟨some 22, .mov (.t 3), none⟩, ⟨some 2, .mov (.t 22), none⟩]) (.ret))
def RbT (x out : AV) (i : Nat) (tm : List AV) : Prop := tm.length = 23 ∧ tm[0]? = some x ∧ tm[3]? = some out ∧ tm[4]? = some (.int .i64 (i : Nat))
theorem XdrW.rb_round {f : FuncId} {x out : AV} {xs bs : List Int} {b i : Nat} {tm : List AV} (ht : RbT x out i tm) {h : Heap} (hx : BytesAt h x xs) (hxl : xs.length < 4294967296) (hi : (i : Int) < padZ xs.length) (ho : BufAt h out b bs) (hl : bs.length ≤ 35184372088832) :
    ∃ tm' h' out' b', xcode X SP f none (.loop (rbytesB W.rpad)) tm h = xcode X SP f none (.loop (rbytesB W.rpad)) tm' h' ∧ RbT x out' (i + 1) tm' ∧ BufAt h' out' b' (bs ++ [0]) ∧ h.next ≤ h'.next ∧ (∀ j, j < h.next → (out = .nilsl ∨ j ≠ b) → h'.get j = h.get j) ∧ (out' ≠ .nilsl → (out ≠ .nilsl ∧ b' = b) ∨ h.next ≤ b') := by
  match tm, ht with
  | a0 :: a1 :: a2 :: a3 :: a4 :: a5 :: a6 :: a7 :: a8 :: a9 :: a10 :: a11 :: a12 :: a13 :: a14 :: a15 :: a16 :: a17 :: a18 :: a19 :: a20 :: a21 :: a22 :: [], ht =>
  obtain ⟨_, t0, t3, t4⟩ := ht
  simp only [List.getElem?_cons_zero, List.getElem?_cons_succ, Option.some.injEq] at t0 t3 t4
  replace t0 := t0.symm; replace t3 := t3.symm; replace t4 := t4.symm
  subst t0 t3 t4
  have hp := padZ_le xs.length
  have e3 := W.toNumW.rpad_spec (n := xs.length) (by omega) (by omega) h
  have hH : ∃ H, h.alloc (.cells [.int .u8 0] false) = H ∧ Grow h H ∧ H.get h.next = some (.cells [.int .u8 0] false) := ⟨_, rfl, .alloc _ _, by rw [Heap.get_alloc, if_pos rfl]⟩
  obtain ⟨H, hA, gA, G⟩ := hH
  have hy : BytesAt H (.slice h.next 0 1 1 true 1) [0] := .inr ⟨h.next, 0, 1, true, _, _, rfl, Nat.le_refl _, G, by simp, rfl⟩
  have hbH : BufAt H out b bs := ho.keep fun o e => gA.get e
  obtain ⟨out', h', b', e, hb', x1, x2, x3, x4⟩ := hbH.append hy (by simp; omega)
  have hfo := hb'.flat
  have q := gA.1
  have hw : IntKind.i64.wrap ((i : Int) + 1) = ((i + 1 : Nat) : Int) := by rw [IntWalk.i64_in _ (by omega)]; simp
  rcases hx with ⟨rfl, rfl⟩ | ⟨ix, ox, cx, ex, cc, rox, rfl, _⟩
  · exfalso; simp [padZ] at hi; omega
  · refine ⟨?tm, h', out', b', ?run, ?sh, hb', by omega, fun j j1 j2 => by rw [x2 j (by omega) j2, gA.2 j j1], fun hne => (x3 hne).imp (fun e => e) fun e => by omega⟩
    case run =>
      rw [show ∀ tm h, xcode X SP f none (.loop (rbytesB W.rpad)) tm h = thenX X SP f none (.loop (rbytesB W.rpad)) (xcode X SP f none (rbytesB W.rpad) tm h) from fun _ _ => x_loop]
      delta rbytesB
      simp (decide := true) only [note_false, Int.reduceBEq, Int.reduceBNe, x_drawn, l_nil, l_op, l_guard, l_some, l_true, l_false, l_draw, readsA, x_true, x_false, x_seq, x_ops, x_cond, x_skip, x_ret, x_exit, x_block, x_then, x_thenE, x_thenR, x_blockN, x_blockR, x_blockE, s_nil, s_op, s_guard, s_some, s_true, s_false, s_put, s_put0, s_opsR, s_ret, s_norm, aop, ev, evs, List.map_cons, List.map_nil, List.cons_append, List.nil_append, List.append_nil, List.replicate, List.take_succ_cons, List.take_zero, List.take_nil, List.drop_succ_cons, List.drop_zero, List.drop_nil, Nat.zero_add, Nat.add_zero, Nat.reduceAdd, Nat.reduceMul, Nat.reduceLeDiff, Bool.false_eq_true, and_self, List.length_cons, List.length_nil, List.set_cons_zero, List.set_cons_succ, List.getD_cons_zero, List.getD_cons_succ, wantedA, List.getElem?_cons_zero, List.getElem?_cons_succ, q_t, q_f, Bool.not_true, Bool.not_false, b_add, b_sub, b_mul, b_eql, b_neq, b_lss, b_leq, b_gtr, b_geq, b_and, b_or, b_xor, b_quo, b_rem, b_shl, b_shr, unA, Option.map_some, Option.map_none, resA, tupA, Int.reduceLT, not_false_eq_true, not_true_eq_false, decide_true, decide_false, f_bool, c_bool, f_int, c_int, f_str, c_str, f_nilptr, c_nilptr, f_ptr, c_ptr, f_nilsl, c_nilsl, f_slice, c_slice, f_nilmap, c_nilmap, f_map, c_map, f_nilf, c_nilf, f_func, c_func, f_yieldf, c_yieldf, f_nilif, c_nilif, f_iface, c_iface, c_agg, List.all_cons, List.all_nil, Bool.and_true, Bool.true_and, if_true, if_false, ite_true, ite_false, e3, hi, fillA, splice, hA, e, hw, hfo]
      rfl
    case sh => exact ⟨rfl, rfl, rfl, rfl⟩
theorem XdrW.rb_out {f : FuncId} {x out : AV} {xs : List Int} {i : Nat} {tm : List AV} (ht : RbT x out i tm) {h : Heap} (hx : BytesAt h x xs) (hxl : xs.length < 4294967296) (hi : ¬ (i : Int) < padZ xs.length) :
    ∃ tm', xcode X SP f none (.loop (rbytesB W.rpad)) tm h = some (.exit 0, tm', h) ∧ RbT x out i tm' := by
  have e3 := W.toNumW.rpad_spec (n := xs.length) (by omega) (by omega) h
  rcases hx with ⟨rfl, rfl⟩ | ⟨ix, ox, cx, ex, cc, rox, rfl, _⟩
  · simp only [List.length_nil, Int.ofNat_zero] at e3 hi
    match tm, ht with
    | a0 :: a1 :: a2 :: a3 :: a4 :: a5 :: a6 :: a7 :: a8 :: a9 :: a10 :: a11 :: a12 :: a13 :: a14 :: a15 :: a16 :: a17 :: a18 :: a19 :: a20 :: a21 :: a22 :: [], ht =>
    obtain ⟨_, t0, t3, t4⟩ := ht
    simp only [List.getElem?_cons_zero, List.getElem?_cons_succ, Option.some.injEq] at t0 t3 t4
    replace t0 := t0.symm; replace t3 := t3.symm; replace t4 := t4.symm
    subst t0 t3 t4
    refine ⟨?tmA, ?runA, ?shA⟩
    case runA =>
      rw [show ∀ tm h, xcode X SP f none (.loop (rbytesB W.rpad)) tm h = thenX X SP f none (.loop (rbytesB W.rpad)) (xcode X SP f none (rbytesB W.rpad) tm h) from fun _ _ => x_loop]
      delta rbytesB
      simp (decide := true) only [note_false, Int.reduceBEq, Int.reduceBNe, x_drawn, l_nil, l_op, l_guard, l_some, l_true, l_false, l_draw, readsA, x_true, x_false, x_seq, x_ops, x_cond, x_skip, x_ret, x_exit, x_block, x_then, x_thenE, x_thenR, x_blockN, x_blockR, x_blockE, s_nil, s_op, s_guard, s_some, s_true, s_false, s_put, s_put0, s_opsR, s_ret, s_norm, aop, ev, evs, List.map_cons, List.map_nil, List.cons_append, List.nil_append, List.append_nil, List.replicate, List.take_succ_cons, List.take_zero, List.take_nil, List.drop_succ_cons, List.drop_zero, List.drop_nil, Nat.zero_add, Nat.add_zero, Nat.reduceAdd, Nat.reduceMul, Nat.reduceLeDiff, Bool.false_eq_true, and_self, List.length_cons, List.length_nil, List.set_cons_zero, List.set_cons_succ, List.getD_cons_zero, List.getD_cons_succ, wantedA, List.getElem?_cons_zero, List.getElem?_cons_succ, q_t, q_f, Bool.not_true, Bool.not_false, b_add, b_sub, b_mul, b_eql, b_neq, b_lss, b_leq, b_gtr, b_geq, b_and, b_or, b_xor, b_quo, b_rem, b_shl, b_shr, unA, Option.map_some, Option.map_none, resA, tupA, Int.reduceLT, not_false_eq_true, not_true_eq_false, decide_true, decide_false, f_bool, c_bool, f_int, c_int, f_str, c_str, f_nilptr, c_nilptr, f_ptr, c_ptr, f_nilsl, c_nilsl, f_slice, c_slice, f_nilmap, c_nilmap, f_map, c_map, f_nilf, c_nilf, f_func, c_func, f_yieldf, c_yieldf, f_nilif, c_nilif, f_iface, c_iface, c_agg, List.all_cons, List.all_nil, Bool.and_true, Bool.true_and, if_true, if_false, ite_true, ite_false, e3, Int.ofNat_zero, hi]
      rfl
    case shA => exact ⟨rfl, rfl, rfl, rfl⟩
  · match tm, ht with
    | a0 :: a1 :: a2 :: a3 :: a4 :: a5 :: a6 :: a7 :: a8 :: a9 :: a10 :: a11 :: a12 :: a13 :: a14 :: a15 :: a16 :: a17 :: a18 :: a19 :: a20 :: a21 :: a22 :: [], ht =>
    obtain ⟨_, t0, t3, t4⟩ := ht
    simp only [List.getElem?_cons_zero, List.getElem?_cons_succ, Option.some.injEq] at t0 t3 t4
    replace t0 := t0.symm; replace t3 := t3.symm; replace t4 := t4.symm
    subst t0 t3 t4
    refine ⟨?tmB, ?runB, ?shB⟩
    case runB =>
      rw [show ∀ tm h, xcode X SP f none (.loop (rbytesB W.rpad)) tm h = thenX X SP f none (.loop (rbytesB W.rpad)) (xcode X SP f none (rbytesB W.rpad) tm h) from fun _ _ => x_loop]
      delta rbytesB
      simp (decide := true) only [note_false, Int.reduceBEq, Int.reduceBNe, x_drawn, l_nil, l_op, l_guard, l_some, l_true, l_false, l_draw, readsA, x_true, x_false, x_seq, x_ops, x_cond, x_skip, x_ret, x_exit, x_block, x_then, x_thenE, x_thenR, x_blockN, x_blockR, x_blockE, s_nil, s_op, s_guard, s_some, s_true, s_false, s_put, s_put0, s_opsR, s_ret, s_norm, aop, ev, evs, List.map_cons, List.map_nil, List.cons_append, List.nil_append, List.append_nil, List.replicate, List.take_succ_cons, List.take_zero, List.take_nil, List.drop_succ_cons, List.drop_zero, List.drop_nil, Nat.zero_add, Nat.add_zero, Nat.reduceAdd, Nat.reduceMul, Nat.reduceLeDiff, Bool.false_eq_true, and_self, List.length_cons, List.length_nil, List.set_cons_zero, List.set_cons_succ, List.getD_cons_zero, List.getD_cons_succ, wantedA, List.getElem?_cons_zero, List.getElem?_cons_succ, q_t, q_f, Bool.not_true, Bool.not_false, b_add, b_sub, b_mul, b_eql, b_neq, b_lss, b_leq, b_gtr, b_geq, b_and, b_or, b_xor, b_quo, b_rem, b_shl, b_shr, unA, Option.map_some, Option.map_none, resA, tupA, Int.reduceLT, not_false_eq_true, not_true_eq_false, decide_true, decide_false, f_bool, c_bool, f_int, c_int, f_str, c_str, f_nilptr, c_nilptr, f_ptr, c_ptr, f_nilsl, c_nilsl, f_slice, c_slice, f_nilmap, c_nilmap, f_map, c_map, f_nilf, c_nilf, f_func, c_func, f_yieldf, c_yieldf, f_nilif, c_nilif, f_iface, c_iface, c_agg, List.all_cons, List.all_nil, Bool.and_true, Bool.true_and, if_true, if_false, ite_true, ite_false, e3, Int.ofNat_zero, hi]
      rfl
    case shB => exact ⟨rfl, rfl, rfl, rfl⟩
theorem XdrW.rb_loop {f : FuncId} {x : AV} {xs : List Int} {h0 : Heap} (hx : BytesAt h0 x xs) (hxl : xs.length < 4294967296) : ∀ (d i : Nat) (out : AV) (b : Nat) (bs : List Int) (tm : List AV) (h : Heap), (i : Int) + d = padZ xs.length → RbT x out i tm → BufAt h out b bs → bs.length + d ≤ 35184372088832 → h0.next ≤ h.next → (∀ j, j < h0.next → h.get j = h0.get j) → (out ≠ .nilsl → h0.next ≤ b) →
    ∃ tm' h' out' b', xcode X SP f none (.loop (rbytesB W.rpad)) tm h = some (.exit 0, tm', h') ∧ tm'.length = 23 ∧ tm'[3]? = some out' ∧ BufAt h' out' b' (bs ++ List.replicate d 0) ∧ Grow h0 h' ∧ (out' ≠ .nilsl → h0.next ≤ b')
  | 0, i, out, b, bs, tm, h, hd, ht, ho, _, hx1, hs, hb => by
    have hxh := hx.grow ⟨hx1, hs⟩
    obtain ⟨tm', e, ht'⟩ := W.rb_out (f := f) ht hxh hxl (by omega)
    exact ⟨tm', h, out, b, e, ht'.1, ht'.2.2.1, by simpa using ho, ⟨hx1, hs⟩, hb⟩
  | d + 1, i, out, b, bs, tm, h, hd, ht, ho, hl, hx1, hs, hb => by
    have hxh := hx.grow ⟨hx1, hs⟩
    obtain ⟨tm', h', out', b', e, ht', ho', x1, x2, x3⟩ := W.rb_round (f := f) ht hxh hxl (by omega) ho (by omega)
    obtain ⟨tm2, h2, out2, b2, e2, r0, r1, r2, r3, r4⟩ := XdrW.rb_loop hx hxl d (i + 1) out' b' (bs ++ [0]) tm' h' (by omega) ht' ho' (by simp; omega) (by omega) (fun j hj => by
      rw [x2 j (by omega) (by
        by_cases hnil : out = .nilsl
        · exact .inl hnil
        · have := hb hnil; exact .inr (by omega))]; exact hs j hj) (fun hne => by
        rcases x3 hne with ⟨q1, q2⟩ | q
        · have := hb q1; omega
        · omega)
    exact ⟨tm2, h2, out2, b2, e.trans e2, r0, r1, by simpa [List.replicate_succ] using r2, r3, r4⟩
theorem XdrW.rBytes_spec {h : Heap} {x : AV} {xs : List Int} (hx : BytesAt h x xs) (hxl : xs.length < 4294967296) : ∃ v b h', xcall X SP (.fn W.rBytes) [x] h = some (v, h') ∧ Grow h h' ∧ BufAt h' v b (encB xs) ∧ (v ≠ .nilsl → h.next ≤ b) := by
  obtain ⟨o1, b1, H1, e1, g1, k1, k2⟩ := W.rNumber_spec (n := xs.length) (by omega) (by omega) h
  obtain ⟨out, H2, b2, hap, hb2, x1, x2, x3, x4⟩ := k1.append (hx.grow g1) (by simp [beL_len]; omega)
  have hp := padZ_le xs.length
  obtain ⟨p, hpp⟩ : ∃ p : Nat, padZ (xs.length : Int) = p := ⟨(padZ xs.length).toNat, by omega⟩
  have hfo := hb2.flat
  have hsame : ∀ j, j < h.next → H2.get j = h.get j := fun j hj => by
    rw [x2 j (Nat.lt_of_lt_of_le hj g1.1) (.inr (by omega)), g1.2 j hj]
  have q1 := g1.1
  obtain ⟨tm1, H3, o3, b3, e3, r0, r1, r2, r3, r4⟩ := W.rb_loop (f := W.rBytes) (h0 := h) hx hxl p 0 out b2 _ [x, undefA, .nilsl, out, .int .i64 0, x, .int .i64 (xs.length : Nat), .int .u32 (xs.length : Nat), o1, o1, x, out, undefA, undefA, undefA, undefA, undefA, undefA, undefA, undefA, undefA, undefA, undefA] H2 (by omega) ⟨rfl, rfl, rfl, rfl⟩ hb2 (by simp [beL_len]; omega) (by omega) hsame (fun hne => by
    rcases x3 hne with ⟨_, q⟩ | q
    · omega
    · omega)
  have hg3 : tm1.getD 3 undefA = o3 := by rw [List.getD_eq_getElem?_getD, r1]; rfl
  have htail : ∃ tm2, xcode X SP W.rBytes none rbytesT tm1 H3 = some (.ret, tm2, H3) ∧ tm2.getD 2 undefA = o3 := by
    refine ⟨(tm1.set 22 o3).set 2 o3, ?_, ?_⟩
    · delta rbytesT
      have : (tm1.set 22 o3).getD 22 undefA = o3 := by rw [List.getD_eq_getElem?_getD, List.getElem?_set_self (by omega)]; rfl
      simp only [note_false, Int.reduceBEq, Int.reduceBNe, x_drawn, l_nil, l_op, l_guard, l_some, l_true, l_false, l_draw, readsA, x_true, x_false, x_seq, x_ops, x_cond, x_skip, x_ret, x_exit, x_block, x_then, x_thenE, x_thenR, x_blockN, x_blockR, x_blockE, s_nil, s_op, s_guard, s_some, s_true, s_false, s_put, s_put0, s_opsR, s_ret, s_norm, aop, ev, evs, List.map_cons, List.map_nil, List.cons_append, List.nil_append, List.append_nil, List.replicate, List.take_succ_cons, List.take_zero, List.take_nil, List.drop_succ_cons, List.drop_zero, List.drop_nil, Nat.zero_add, Nat.add_zero, Nat.reduceAdd, Nat.reduceMul, Nat.reduceLeDiff, Bool.false_eq_true, and_self, List.length_cons, List.length_nil, List.set_cons_zero, List.set_cons_succ, List.getD_cons_zero, List.getD_cons_succ, wantedA, List.getElem?_cons_zero, List.getElem?_cons_succ, q_t, q_f, Bool.not_true, Bool.not_false, b_add, b_sub, b_mul, b_eql, b_neq, b_lss, b_leq, b_gtr, b_geq, b_and, b_or, b_xor, b_quo, b_rem, b_shl, b_shr, unA, Option.map_some, Option.map_none, resA, tupA, Int.reduceLT, not_false_eq_true, not_true_eq_false, decide_true, decide_false, f_bool, c_bool, f_int, c_int, f_str, c_str, f_nilptr, c_nilptr, f_ptr, c_ptr, f_nilsl, c_nilsl, f_slice, c_slice, f_nilmap, c_nilmap, f_map, c_map, f_nilf, c_nilf, f_func, c_func, f_yieldf, c_yieldf, f_nilif, c_nilif, f_iface, c_iface, c_agg, List.all_cons, List.all_nil, Bool.and_true, Bool.true_and, if_true, if_false, ite_true, ite_false, hg3, this]
    · rw [List.getD_eq_getElem?_getD, List.getElem?_set_self (by simp; omega)]; rfl
  obtain ⟨tm2, e4, e5⟩ := htail
  refine ⟨o3, b3, H3, ?_, r3, ?_, r4⟩
  · rw [x_fn (W.kx2 _ _ _ (by simp)) (show SP W.rBytes = some ⟨23, [.tmp 2], .seq (.ops [⟨some 2, .mov (.c (.nilsl)), none⟩]) (.seq (.ops [⟨some 5, .mov (.t 0), none⟩, ⟨some 6, .len (.sl) (.t 5), none⟩, ⟨some 7, .convInt (.u32) (.t 6), none⟩, ⟨some 8, .call W.rNumber [.t 7], none⟩, ⟨some 3, .mov (.t 8), none⟩]) (.seq (.ops [⟨some 9, .mov (.t 3), none⟩, ⟨some 10, .mov (.t 0), none⟩, ⟨some 11, .append 1 1 (.t 9) (.t 10), none⟩, ⟨some 3, .mov (.t 11), none⟩]) (.seq (.seq (.ops [⟨some 4, .mov (.c (.int (.i64) 0)), none⟩]) (.block 0 (.loop (rbytesB W.rpad)))) rbytesT)))⟩ from W.s19)]
    have hw : IntKind.u32.wrap (xs.length : Int) = xs.length := IntWalk.u32_in _ (by omega)
    rcases hx with ⟨rfl, rfl⟩ | ⟨ix, ox, cx, ex, cc, rox, rfl, _⟩
    · simp only [List.length_nil, Int.ofNat_zero] at e1 e3 hw
      simp (decide := true) only [note_false, Int.reduceBEq, Int.reduceBNe, x_drawn, l_nil, l_op, l_guard, l_some, l_true, l_false, l_draw, readsA, x_true, x_false, x_seq, x_ops, x_cond, x_skip, x_ret, x_exit, x_block, x_then, x_thenE, x_thenR, x_blockN, x_blockR, x_blockE, s_nil, s_op, s_guard, s_some, s_true, s_false, s_put, s_put0, s_opsR, s_ret, s_norm, aop, ev, evs, List.map_cons, List.map_nil, List.cons_append, List.nil_append, List.append_nil, List.replicate, List.take_succ_cons, List.take_zero, List.take_nil, List.drop_succ_cons, List.drop_zero, List.drop_nil, Nat.zero_add, Nat.add_zero, Nat.reduceAdd, Nat.reduceMul, Nat.reduceLeDiff, Bool.false_eq_true, and_self, List.length_cons, List.length_nil, List.set_cons_zero, List.set_cons_succ, List.getD_cons_zero, List.getD_cons_succ, wantedA, List.getElem?_cons_zero, List.getElem?_cons_succ, q_t, q_f, Bool.not_true, Bool.not_false, b_add, b_sub, b_mul, b_eql, b_neq, b_lss, b_leq, b_gtr, b_geq, b_and, b_or, b_xor, b_quo, b_rem, b_shl, b_shr, unA, Option.map_some, Option.map_none, resA, tupA, Int.reduceLT, not_false_eq_true, not_true_eq_false, decide_true, decide_false, f_bool, c_bool, f_int, c_int, f_str, c_str, f_nilptr, c_nilptr, f_ptr, c_ptr, f_nilsl, c_nilsl, f_slice, c_slice, f_nilmap, c_nilmap, f_map, c_map, f_nilf, c_nilf, f_func, c_func, f_yieldf, c_yieldf, f_nilif, c_nilif, f_iface, c_iface, c_agg, List.all_cons, List.all_nil, Bool.and_true, Bool.true_and, if_true, if_false, ite_true, ite_false, hw, e1, hap, e3, e4, e5, hfo]
    · simp (decide := true) only [note_false, Int.reduceBEq, Int.reduceBNe, x_drawn, l_nil, l_op, l_guard, l_some, l_true, l_false, l_draw, readsA, x_true, x_false, x_seq, x_ops, x_cond, x_skip, x_ret, x_exit, x_block, x_then, x_thenE, x_thenR, x_blockN, x_blockR, x_blockE, s_nil, s_op, s_guard, s_some, s_true, s_false, s_put, s_put0, s_opsR, s_ret, s_norm, aop, ev, evs, List.map_cons, List.map_nil, List.cons_append, List.nil_append, List.append_nil, List.replicate, List.take_succ_cons, List.take_zero, List.take_nil, List.drop_succ_cons, List.drop_zero, List.drop_nil, Nat.zero_add, Nat.add_zero, Nat.reduceAdd, Nat.reduceMul, Nat.reduceLeDiff, Bool.false_eq_true, and_self, List.length_cons, List.length_nil, List.set_cons_zero, List.set_cons_succ, List.getD_cons_zero, List.getD_cons_succ, wantedA, List.getElem?_cons_zero, List.getElem?_cons_succ, q_t, q_f, Bool.not_true, Bool.not_false, b_add, b_sub, b_mul, b_eql, b_neq, b_lss, b_leq, b_gtr, b_geq, b_and, b_or, b_xor, b_quo, b_rem, b_shl, b_shr, unA, Option.map_some, Option.map_none, resA, tupA, Int.reduceLT, not_false_eq_true, not_true_eq_false, decide_true, decide_false, f_bool, c_bool, f_int, c_int, f_str, c_str, f_nilptr, c_nilptr, f_ptr, c_ptr, f_nilsl, c_nilsl, f_slice, c_slice, f_nilmap, c_nilmap, f_map, c_map, f_nilf, c_nilf, f_func, c_func, f_yieldf, c_yieldf, f_nilif, c_nilif, f_iface, c_iface, c_agg, List.all_cons, List.all_nil, Bool.and_true, Bool.true_and, if_true, if_false, ite_true, ite_false, hw, e1, hap, e3, e4, e5, hfo]
  · unfold encB
    rw [hpp]
    simpa using r2
end
end Go.Ya
