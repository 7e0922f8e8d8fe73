/-
  Net: ref's Drop, Take, Same.
-/
import Derived.Test.YtdgpjefbdocepaaYaNetRef
namespace Go.Proofs.Ytdgpjefbdocepaa.Ya
open Go.Ya
set_option linter.unusedVariables false
set_option linter.unusedSimpArgs false
set_option maxRecDepth 100000
set_option maxHeartbeats 4000000

theorem ObAt.rows {tl : List AV} {h : Heap} {id b : Nat} {l : List Msg} {Q : Nat → Prop} (ho : ObAt tl h id l b Q) :
    ∃ sl b0 rows, h.get id = some (.cells (sl :: tl) false) ∧ ShAt 3 h sl b0 rows ∧ rows.length = l.length ∧ Rows2 h Q rows l ∧ b0 ≠ id ∧ ¬ Q b0 ∧ ((b0 = b ∧ b < h.next) ∨ h.next ≤ b0) := by
  obtain ⟨n1, n2, n3, n4, n5, n6, sl, hg, hs⟩ := ho
  rcases hs with ⟨hnil, hl0⟩ | ⟨cap, rows, rest, hsl, hc, hgb, hcl, hrows⟩
  · refine ⟨sl, h.next, [], hg, ⟨fun r h => (by cases h), .inl ⟨hnil, rfl⟩⟩, by rw [hl0]; rfl, by rw [hl0]; exact .nil, by omega, fun e => ?_, .inr (Nat.le_refl _)⟩
    have := n6 _ e; omega
  · have hl := hrows.len.1
    exact ⟨sl, b, rows, hg, ⟨rows3 hrows, .inr ⟨cap, rest, by rw [hl]; exact hsl, by omega, hgb, hcl⟩⟩, hl, hrows, n3, n5, .inl ⟨rfl, Heap.lt_of_get hgb⟩⟩

def body16 : SC := match sf16.body with
  | .seq _ (.seq _ (.seq _ (.seq (.seq _ (.block _ (.loop l))) _))) => l
  | _ => .skip
def Sh16 (id : Nat) (k : Int) (out : AV) (i : Nat) (tm : List AV) : Prop := tm.length = 44 ∧ tm[0]? = some (.ptr id 0) ∧ tm[1]? = some (.int .i64 k) ∧ tm[5]? = some out ∧ tm[6]? = some (.int .i64 (i : Nat))

/-- A round that takes a row over. -/
theorem round16a {h : Heap} {id b bo i n cap : Nat} {k : Int} {out : AV} {rows orows : List (List AV)} {m : Msg} {v : AV} {tm : List AV} (ht : Sh16 id k out i tm) (hg : h.get id = some (.cells [.slice b 0 n cap false 3] false)) (hn : n = rows.length)
    (hs : ShAt 3 h (.slice b 0 n cap false 3) b rows) (hi : rows[i]? = some [.int .i64 m.client, .bool m.back, v]) (hfv : v.flat = true) (hk : ((i : Int) != k) = true) (ho : ShAt 3 h out bo orows) (hol : orows.length ≤ 1000) (hn64 : n ≤ 1000) :
    ∃ tm' h' out' bo', xcode X1 tab 16 none (.loop body16) tm h = xcode X1 tab 16 none (.loop body16) tm' h' ∧ Sh16 id k out' (i + 1) tm' ∧ ShAt 3 h' out' bo' (orows ++ [[.int .i64 m.client, .bool m.back, v]]) ∧ h.next ≤ h'.next ∧
      (∀ j, j < h.next → j ≠ bo → h'.get j = h.get j) ∧ (bo' = bo ∨ h.next ≤ bo') ∧ bo' < h'.next := by
  match tm, ht with
  | a0 :: a1 :: a2 :: a3 :: a4 :: a5 :: a6 :: a7 :: a8 :: a9 :: a10 :: a11 :: a12 :: a13 :: a14 :: a15 :: a16 :: a17 :: a18 :: a19 :: a20 :: a21 :: a22 :: a23 :: a24 :: a25 :: a26 :: a27 :: a28 :: a29 :: a30 :: a31 :: a32 :: a33 :: a34 :: a35 :: a36 :: a37 :: a38 :: a39 :: a40 :: a41 :: a42 :: a43 :: [], ht =>
  obtain ⟨_, t0, t1, t5, t6⟩ := ht
  simp only [List.getElem?_cons_zero, List.getElem?_cons_succ, Option.some.injEq] at t0 t1 t5 t6
  subst t0 t1 t5 t6
  obtain ⟨cap', hsl, ld, _, hilt⟩ := hs.load hi
  have hH : ∃ H, h.alloc (.cells [.int .i64 m.client, .bool m.back, v] false) = H ∧ Grow h H ∧ H.get h.next = some (.cells [.int .i64 m.client, .bool m.back, v] false) :=
    ⟨_, rfl, .alloc _ _, by rw [Heap.get_alloc, if_pos rfl]⟩
  obtain ⟨H, hA, gA, G⟩ := hH
  have hfa : firstA H 3 1 (.slice h.next 0 1 1 true 3) = some [.int .i64 m.client, .bool m.back, v] := by simp [firstA, G]
  obtain ⟨out', h', bo', hap, sh', fl', x1, x2, x3, x4⟩ := (ho.keep (h' := H) fun o e => gA.get e).append (bytes := 40) (y := .slice h.next 0 1 1 true 3) rfl hfa rfl (by omega)
  have q0 := gA.1
  have hw : IntKind.i64.wrap ((i : Int) + 1) = ((i + 1 : Nat) : Int) := by
    rw [IntWalk.i64_in _ (by omega)]; simp
  have hlt : (i : Int) < (n : Int) := by omega
  have h0 : (0 : Int) ≤ (i : Int) ∧ (i : Int) < (n : Int) := by omega
  have n0 : 0 + (i : Int).toNat * 3 = i * 3 := by omega
  refine ⟨?tm, h', out', bo', ?run, ?sh, sh', by omega, fun j j1 j2 => by rw [x2 j (by omega) j2, gA.2 j j1], x3.imp (fun e => e) (fun e => by omega), x4⟩
  case run =>
    rw [show ∀ tm h, xcode X1 tab 16 none (.loop body16) tm h = thenX X1 tab 16 none (.loop body16) (xcode X1 tab 16 none body16 tm h) from fun _ _ => x_loop]
    delta body16 sf16
    have L0 : loadA h false 1 id 0 = some (.slice b 0 n cap false 3) := by rw [load_of hg]; rfl
    simp (decide := true) only [note_false, x_drawn, l_nil, l_op, l_guard, l_some, l_true, l_false, l_draw, readsA, x_true, x_false, x_seq, x_ops, x_cond, x_skip, x_ret, x_exit, x_block, x_then, x_thenE, x_thenR, x_blockN, x_blockR, x_blockE, s_nil, s_op, s_guard, s_some, s_true, s_false, s_put, s_put0, s_opsR, s_ret, s_norm, aop, ev, evs, List.map_cons, List.map_nil, List.cons_append, List.nil_append, List.append_nil, List.replicate, List.take_succ_cons, List.take_zero, List.take_nil, List.drop_succ_cons, List.drop_zero, List.drop_nil, Nat.zero_add, Nat.add_zero, Nat.reduceAdd, Nat.reduceMul, Nat.reduceLeDiff, Bool.false_eq_true, and_self, List.length_cons, List.length_nil, List.set_cons_zero, List.set_cons_succ, List.getD_cons_zero, List.getD_cons_succ, wantedA, List.getElem?_cons_zero, List.getElem?_cons_succ, q_t, q_f, Bool.not_true, Bool.not_false, b_add, b_sub, b_mul, b_eql, b_neq, b_lss, b_leq, b_gtr, b_geq, b_and, b_or, b_xor, b_quo, b_rem, b_shl, b_shr, unA, Option.map_some, Option.map_none, resA, tupA, Int.reduceLT, not_false_eq_true, not_true_eq_false, decide_true, decide_false, f_bool, c_bool, f_int, c_int, f_str, c_str, f_nilptr, c_nilptr, f_ptr, c_ptr, f_nilsl, c_nilsl, f_slice, c_slice, f_nilmap, c_nilmap, f_map, c_map, f_nilf, c_nilf, f_func, c_func, f_yieldf, c_yieldf, f_nilif, c_nilif, f_iface, c_iface, c_agg, List.all_cons, List.all_nil, Bool.and_true, Bool.true_and, if_true, if_false, ite_true, ite_false, hk, hlt, hw, h0, n0, L0, ld, hA, hap, fillA, splice, hfv, fl', cells_of fl']
    rfl
  case sh => exact ⟨rfl, rfl, rfl, rfl, rfl⟩
theorem round16b {h : Heap} {id b i n cap : Nat} {k : Int} {out : AV} {tm : List AV} (ht : Sh16 id k out i tm) (hg : h.get id = some (.cells [.slice b 0 n cap false 3] false)) (hi : i < n) (hk : ((i : Int) != k) = false) (hn64 : n ≤ 1000) :
    ∃ tm', xcode X1 tab 16 none (.loop body16) tm h = xcode X1 tab 16 none (.loop body16) tm' h ∧ Sh16 id k out (i + 1) tm' := by
  match tm, ht with
  | a0 :: a1 :: a2 :: a3 :: a4 :: a5 :: a6 :: a7 :: a8 :: a9 :: a10 :: a11 :: a12 :: a13 :: a14 :: a15 :: a16 :: a17 :: a18 :: a19 :: a20 :: a21 :: a22 :: a23 :: a24 :: a25 :: a26 :: a27 :: a28 :: a29 :: a30 :: a31 :: a32 :: a33 :: a34 :: a35 :: a36 :: a37 :: a38 :: a39 :: a40 :: a41 :: a42 :: a43 :: [], ht =>
  obtain ⟨_, t0, t1, t5, t6⟩ := ht
  simp only [List.getElem?_cons_zero, List.getElem?_cons_succ, Option.some.injEq] at t0 t1 t5 t6
  subst t0 t1 t5 t6
  have hw : IntKind.i64.wrap ((i : Int) + 1) = ((i + 1 : Nat) : Int) := by
    rw [IntWalk.i64_in _ (by omega)]; simp
  have hlt : (i : Int) < (n : Int) := by omega
  refine ⟨?tm, ?run, ?sh⟩
  case run =>
    rw [show ∀ tm h, xcode X1 tab 16 none (.loop body16) tm h = thenX X1 tab 16 none (.loop body16) (xcode X1 tab 16 none body16 tm h) from fun _ _ => x_loop]
    delta body16 sf16
    have L0 : loadA h false 1 id 0 = some (.slice b 0 n cap false 3) := by rw [load_of hg]; rfl
    simp (decide := true) only [note_false, x_drawn, l_nil, l_op, l_guard, l_some, l_true, l_false, l_draw, readsA, x_true, x_false, x_seq, x_ops, x_cond, x_skip, x_ret, x_exit, x_block, x_then, x_thenE, x_thenR, x_blockN, x_blockR, x_blockE, s_nil, s_op, s_guard, s_some, s_true, s_false, s_put, s_put0, s_opsR, s_ret, s_norm, aop, ev, evs, List.map_cons, List.map_nil, List.cons_append, List.nil_append, List.append_nil, List.replicate, List.take_succ_cons, List.take_zero, List.take_nil, List.drop_succ_cons, List.drop_zero, List.drop_nil, Nat.zero_add, Nat.add_zero, Nat.reduceAdd, Nat.reduceMul, Nat.reduceLeDiff, Bool.false_eq_true, and_self, List.length_cons, List.length_nil, List.set_cons_zero, List.set_cons_succ, List.getD_cons_zero, List.getD_cons_succ, wantedA, List.getElem?_cons_zero, List.getElem?_cons_succ, q_t, q_f, Bool.not_true, Bool.not_false, b_add, b_sub, b_mul, b_eql, b_neq, b_lss, b_leq, b_gtr, b_geq, b_and, b_or, b_xor, b_quo, b_rem, b_shl, b_shr, unA, Option.map_some, Option.map_none, resA, tupA, Int.reduceLT, not_false_eq_true, not_true_eq_false, decide_true, decide_false, f_bool, c_bool, f_int, c_int, f_str, c_str, f_nilptr, c_nilptr, f_ptr, c_ptr, f_nilsl, c_nilsl, f_slice, c_slice, f_nilmap, c_nilmap, f_map, c_map, f_nilf, c_nilf, f_func, c_func, f_yieldf, c_yieldf, f_nilif, c_nilif, f_iface, c_iface, c_agg, List.all_cons, List.all_nil, Bool.and_true, Bool.true_and, if_true, if_false, ite_true, ite_false, hk, hlt, hw, L0]
    rfl
  case sh => exact ⟨rfl, rfl, rfl, rfl, rfl⟩
theorem out16 {h : Heap} {id b n cap : Nat} {k : Int} {out : AV} {tm : List AV} (ht : Sh16 id k out n tm) (hg : h.get id = some (.cells [.slice b 0 n cap false 3] false)) :
    ∃ tm', xcode X1 tab 16 none (.loop body16) tm h = some (.exit 0, tm', h) ∧ Sh16 id k out n tm' := by
  match tm, ht with
  | a0 :: a1 :: a2 :: a3 :: a4 :: a5 :: a6 :: a7 :: a8 :: a9 :: a10 :: a11 :: a12 :: a13 :: a14 :: a15 :: a16 :: a17 :: a18 :: a19 :: a20 :: a21 :: a22 :: a23 :: a24 :: a25 :: a26 :: a27 :: a28 :: a29 :: a30 :: a31 :: a32 :: a33 :: a34 :: a35 :: a36 :: a37 :: a38 :: a39 :: a40 :: a41 :: a42 :: a43 :: [], ht =>
  obtain ⟨_, t0, t1, t5, t6⟩ := ht
  simp only [List.getElem?_cons_zero, List.getElem?_cons_succ, Option.some.injEq] at t0 t1 t5 t6
  subst t0 t1 t5 t6
  refine ⟨?tm, ?run, ?sh⟩
  case run =>
    rw [show ∀ tm h, xcode X1 tab 16 none (.loop body16) tm h = thenX X1 tab 16 none (.loop body16) (xcode X1 tab 16 none body16 tm h) from fun _ _ => x_loop]
    delta body16 sf16
    have L0 : loadA h false 1 id 0 = some (.slice b 0 n cap false 3) := by rw [load_of hg]; rfl
    simp (decide := true) only [note_false, x_drawn, l_nil, l_op, l_guard, l_some, l_true, l_false, l_draw, readsA, x_true, x_false, x_seq, x_ops, x_cond, x_skip, x_ret, x_exit, x_block, x_then, x_thenE, x_thenR, x_blockN, x_blockR, x_blockE, s_nil, s_op, s_guard, s_some, s_true, s_false, s_put, s_put0, s_opsR, s_ret, s_norm, aop, ev, evs, List.map_cons, List.map_nil, List.cons_append, List.nil_append, List.append_nil, List.replicate, List.take_succ_cons, List.take_zero, List.take_nil, List.drop_succ_cons, List.drop_zero, List.drop_nil, Nat.zero_add, Nat.add_zero, Nat.reduceAdd, Nat.reduceMul, Nat.reduceLeDiff, Bool.false_eq_true, and_self, List.length_cons, List.length_nil, List.set_cons_zero, List.set_cons_succ, List.getD_cons_zero, List.getD_cons_succ, wantedA, List.getElem?_cons_zero, List.getElem?_cons_succ, q_t, q_f, Bool.not_true, Bool.not_false, b_add, b_sub, b_mul, b_eql, b_neq, b_lss, b_leq, b_gtr, b_geq, b_and, b_or, b_xor, b_quo, b_rem, b_shl, b_shr, unA, Option.map_some, Option.map_none, resA, tupA, Int.reduceLT, not_false_eq_true, not_true_eq_false, decide_true, decide_false, f_bool, c_bool, f_int, c_int, f_str, c_str, f_nilptr, c_nilptr, f_ptr, c_ptr, f_nilsl, c_nilsl, f_slice, c_slice, f_nilmap, c_nilmap, f_map, c_map, f_nilf, c_nilf, f_func, c_func, f_yieldf, c_yieldf, f_nilif, c_nilif, f_iface, c_iface, c_agg, List.all_cons, List.all_nil, Bool.and_true, Bool.true_and, if_true, if_false, ite_true, ite_false, L0, Int.lt_irrefl]
    rfl
  case sh => exact ⟨rfl, rfl, rfl, rfl, rfl⟩

/-- The loop: out is what was, but for k. -/
theorem loop16 {h0 : Heap} {id b n cap k : Nat} {Q : Nat → Prop} {rows : List (List AV)} {l : List Msg} (hid : id < h0.next) (hb : b < h0.next) (hg : h0.get id = some (.cells [.slice b 0 n cap false 3] false)) (hn : n = rows.length)
    (hs : ShAt 3 h0 (.slice b 0 n cap false 3) b rows) (hr : Rows2 h0 Q rows l) (hn64 : n ≤ 1000) : ∀ (d i : Nat) (h : Heap) (out : AV) (bo : Nat) (tm : List AV), i + d = n → Sh16 id k out i tm → ShAt 3 h out bo ((rows.take i).eraseIdx k) → h0.next ≤ h.next →
      (∀ j, j < h0.next → h.get j = h0.get j) → h0.next ≤ bo →
    ∃ tm' h' out' bo', xcode X1 tab 16 none (.loop body16) tm h = some (.exit 0, tm', h') ∧ Sh16 id k out' n tm' ∧ ShAt 3 h' out' bo' (rows.eraseIdx k) ∧ h0.next ≤ h'.next ∧ (∀ j, j < h0.next → h'.get j = h0.get j) ∧ h0.next ≤ bo' := by
  intro d
  induction d with
  | zero =>
    intro i h out bo tm hd ht ho hx hsame hbo
    obtain rfl : i = n := by omega
    obtain ⟨tm', e, ht'⟩ := out16 ht ((hsame id hid).trans hg)
    refine ⟨tm', h, out, bo, e, ht', ?_, hx, hsame, hbo⟩
    rw [List.take_of_length_le (by omega)] at ho
    exact ho
  | succ d ih =>
    intro i h out bo tm hd ht ho hx hsame hbo
    have hil : i < rows.length := by omega
    have hll := hr.len.1
    have hil2 : i < l.length := by omega
    obtain ⟨row, hrow, v, hv, hob⟩ := hr.get (List.getElem?_eq_getElem hil2)
    subst hv
    have htake : rows.take (i + 1) = rows.take i ++ [[AV.int .i64 l[i].client, .bool l[i].back, v]] := by
      rw [List.take_add_one, hrow]; rfl
    have hg' := (hsame id hid).trans hg
    have hs' : ShAt 3 h (.slice b 0 n cap false 3) b rows := hs.keep fun o e => (hsame b hb).trans e
    by_cases hk : i = k
    · subst hk
      obtain ⟨tm', e, ht'⟩ := round16b ht hg' (by omega) (by simp) hn64
      obtain ⟨tm2, h2, out2, bo2, e2, r⟩ := ih (i + 1) h out bo tm' (by omega) ht' (by
        rw [htake, List.eraseIdx_append_of_length_le (by simp; omega)]
        have : i - (rows.take i).length = 0 := by simp; omega
        rw [this]
        rw [List.eraseIdx_of_length_le (by simp; omega)] at ho
        simpa using ho) hx hsame hbo
      exact ⟨tm2, h2, out2, bo2, e.trans e2, r⟩
    · have hfv : v.flat = true := by rcases hob with ⟨rfl, _⟩ | ⟨_, _, _, rfl, _⟩ <;> rfl
      obtain ⟨tm', h', out', bo', e, ht', sh', x1, x2, x3, x4⟩ := round16a ht hg' hn hs' hrow hfv (by simp; omega) ho (by
        have := List.length_eraseIdx_le (rows.take i) k
        simp at this; omega) hn64
      have hcat : (rows.take i).eraseIdx k ++ [[AV.int .i64 l[i].client, .bool l[i].back, v]] = (rows.take (i + 1)).eraseIdx k := by
        rw [htake]
        by_cases hki : k < (rows.take i).length
        · rw [List.eraseIdx_append_of_lt_length hki]
        · have hkk : (rows.take i).length ≤ k := by omega
          rw [List.eraseIdx_append_of_length_le hkk, List.eraseIdx_of_length_le hkk, List.eraseIdx_of_length_le (by simp at hkk ⊢; omega)]
      rw [hcat] at sh'
      obtain ⟨tm2, h2, out2, bo2, e2, r⟩ := ih (i + 1) h' out' bo' tm' (by omega) ht' sh' (by omega) (fun j hj => by rw [x2 j (by omega) (by omega)]; exact hsame j hj) (by omega)
      exact ⟨tm2, h2, out2, bo2, e.trans e2, r⟩

theorem Rows2.erase {h : Heap} {P : Nat → Prop} {rows : List (List AV)} {ms : List Msg} (hr : Rows2 h P rows ms) (k : Nat) : Rows2 h P (rows.eraseIdx k) (ms.eraseIdx k) := by
  rw [List.eraseIdx_eq_take_drop_succ, List.eraseIdx_eq_take_drop_succ]
  exact (hr.take k).append (hr.drop (k + 1))
def tail16 : SC := match sf16.body with
  | .seq _ (.seq _ (.seq _ (.seq _ t))) => t
  | _ => .skip

theorem tail16_spec {h : Heap} {id n : Nat} {k : Int} {out old : AV} {tm : List AV} (ht : Sh16 id k out n tm) (hg : h.get id = some (.cells [old] false)) (hfo : out.flat = true) :
    ∃ tm', xcode X1 tab 16 none tail16 tm h = some (.ret, tm', h.set id (.cells [out] false)) ∧ tm'.getD 4 undefA = .bool true := by
  have hst : storeA h id 0 [out] = some (h.set id (.cells [out] false)) := by simp [storeA, hg, splice]
  match tm, ht with
  | a0 :: a1 :: a2 :: a3 :: a4 :: a5 :: a6 :: a7 :: a8 :: a9 :: a10 :: a11 :: a12 :: a13 :: a14 :: a15 :: a16 :: a17 :: a18 :: a19 :: a20 :: a21 :: a22 :: a23 :: a24 :: a25 :: a26 :: a27 :: a28 :: a29 :: a30 :: a31 :: a32 :: a33 :: a34 :: a35 :: a36 :: a37 :: a38 :: a39 :: a40 :: a41 :: a42 :: a43 :: [], ht =>
  obtain ⟨_, t0, t1, t5, t6⟩ := ht
  simp only [List.getElem?_cons_zero, List.getElem?_cons_succ, Option.some.injEq] at t0 t1 t5 t6
  subst t0 t1 t5 t6
  refine ⟨?tm, ?run, ?sh⟩
  case run =>
    delta tail16 sf16
    simp (decide := true) only [note_false, x_drawn, l_nil, l_op, l_guard, l_some, l_true, l_false, l_draw, readsA, x_true, x_false, x_seq, x_ops, x_cond, x_skip, x_ret, x_exit, x_block, x_then, x_thenE, x_thenR, x_blockN, x_blockR, x_blockE, s_nil, s_op, s_guard, s_some, s_true, s_false, s_put, s_put0, s_opsR, s_ret, s_norm, aop, ev, evs, List.map_cons, List.map_nil, List.cons_append, List.nil_append, List.append_nil, List.replicate, List.take_succ_cons, List.take_zero, List.take_nil, List.drop_succ_cons, List.drop_zero, List.drop_nil, Nat.zero_add, Nat.add_zero, Nat.reduceAdd, Nat.reduceMul, Nat.reduceLeDiff, Bool.false_eq_true, and_self, List.length_cons, List.length_nil, List.set_cons_zero, List.set_cons_succ, List.getD_cons_zero, List.getD_cons_succ, wantedA, List.getElem?_cons_zero, List.getElem?_cons_succ, q_t, q_f, Bool.not_true, Bool.not_false, b_add, b_sub, b_mul, b_eql, b_neq, b_lss, b_leq, b_gtr, b_geq, b_and, b_or, b_xor, b_quo, b_rem, b_shl, b_shr, unA, Option.map_some, Option.map_none, resA, tupA, Int.reduceLT, not_false_eq_true, not_true_eq_false, decide_true, decide_false, f_bool, c_bool, f_int, c_int, f_str, c_str, f_nilptr, c_nilptr, f_ptr, c_ptr, f_nilsl, c_nilsl, f_slice, c_slice, f_nilmap, c_nilmap, f_map, c_map, f_nilf, c_nilf, f_func, c_func, f_yieldf, c_yieldf, f_nilif, c_nilif, f_iface, c_iface, c_agg, List.all_cons, List.all_nil, Bool.and_true, Bool.true_and, if_true, if_false, ite_true, ite_false, hst, cells_of hfo, hfo]
    rfl
  case sh => rfl

theorem drop16no {h : Heap} {id : Nat} {l : List Msg} {F : Nat → Prop} (hf : ObF [] h id l F) {k : Int} (hk : ¬ (0 ≤ k ∧ k < l.length)) : xcall X1 tab (.fn 16) [.ptr id 0, .int .i64 k] h = some (.bool false, h) := by
  obtain ⟨b, Q, ho, _⟩ := hf.at
  obtain ⟨sl, b0, rows, hg, hs, hl, _⟩ := ho.rows
  have L0 : loadA h false 1 id 0 = some sl := by rw [load_of hg]; rfl
  rw [x_fn rfl (show tab 16 = some sf16 from rfl)]
  by_cases h1 : k < 0
  · simp only [note_false, x_drawn, l_nil, l_op, l_guard, l_some, l_true, l_false, l_draw, readsA, x_true, x_false, x_seq, x_ops, x_cond, x_skip, x_ret, x_exit, x_block, x_then, x_thenE, x_thenR, x_blockN, x_blockR, x_blockE, s_nil, s_op, s_guard, s_some, s_true, s_false, s_put, s_put0, s_opsR, s_ret, s_norm, aop, ev, evs, List.map_cons, List.map_nil, List.cons_append, List.nil_append, List.append_nil, List.replicate, List.take_succ_cons, List.take_zero, List.take_nil, List.drop_succ_cons, List.drop_zero, List.drop_nil, Nat.zero_add, Nat.add_zero, Nat.reduceAdd, Nat.reduceMul, Nat.reduceLeDiff, Bool.false_eq_true, and_self, List.length_cons, List.length_nil, List.set_cons_zero, List.set_cons_succ, List.getD_cons_zero, List.getD_cons_succ, wantedA, List.getElem?_cons_zero, List.getElem?_cons_succ, q_t, q_f, Bool.not_true, Bool.not_false, b_add, b_sub, b_mul, b_eql, b_neq, b_lss, b_leq, b_gtr, b_geq, b_and, b_or, b_xor, b_quo, b_rem, b_shl, b_shr, unA, Option.map_some, Option.map_none, resA, tupA, Int.reduceLT, not_false_eq_true, not_true_eq_false, decide_true, decide_false, f_bool, c_bool, f_int, c_int, f_str, c_str, f_nilptr, c_nilptr, f_ptr, c_ptr, f_nilsl, c_nilsl, f_slice, c_slice, f_nilmap, c_nilmap, f_map, c_map, f_nilf, c_nilf, f_func, c_func, f_yieldf, c_yieldf, f_nilif, c_nilif, f_iface, c_iface, c_agg, List.all_cons, List.all_nil, Bool.and_true, Bool.true_and, if_true, if_false, ite_true, ite_false, h1]
  · have h2 : k ≥ (l.length : Int) := by omega
    rw [← hl] at h2
    rcases hs.2 with ⟨rfl, rfl⟩ | ⟨cap, rest, rfl, _⟩
    · simp only [List.length_nil, Int.ofNat_zero] at h2
      have h2' : k ≥ 0 := by simpa using h2
      simp only [note_false, x_drawn, l_nil, l_op, l_guard, l_some, l_true, l_false, l_draw, readsA, x_true, x_false, x_seq, x_ops, x_cond, x_skip, x_ret, x_exit, x_block, x_then, x_thenE, x_thenR, x_blockN, x_blockR, x_blockE, s_nil, s_op, s_guard, s_some, s_true, s_false, s_put, s_put0, s_opsR, s_ret, s_norm, aop, ev, evs, List.map_cons, List.map_nil, List.cons_append, List.nil_append, List.append_nil, List.replicate, List.take_succ_cons, List.take_zero, List.take_nil, List.drop_succ_cons, List.drop_zero, List.drop_nil, Nat.zero_add, Nat.add_zero, Nat.reduceAdd, Nat.reduceMul, Nat.reduceLeDiff, Bool.false_eq_true, and_self, List.length_cons, List.length_nil, List.set_cons_zero, List.set_cons_succ, List.getD_cons_zero, List.getD_cons_succ, wantedA, List.getElem?_cons_zero, List.getElem?_cons_succ, q_t, q_f, Bool.not_true, Bool.not_false, b_add, b_sub, b_mul, b_eql, b_neq, b_lss, b_leq, b_gtr, b_geq, b_and, b_or, b_xor, b_quo, b_rem, b_shl, b_shr, unA, Option.map_some, Option.map_none, resA, tupA, Int.reduceLT, not_false_eq_true, not_true_eq_false, decide_true, decide_false, f_bool, c_bool, f_int, c_int, f_str, c_str, f_nilptr, c_nilptr, f_ptr, c_ptr, f_nilsl, c_nilsl, f_slice, c_slice, f_nilmap, c_nilmap, f_map, c_map, f_nilf, c_nilf, f_func, c_func, f_yieldf, c_yieldf, f_nilif, c_nilif, f_iface, c_iface, c_agg, List.all_cons, List.all_nil, Bool.and_true, Bool.true_and, if_true, if_false, ite_true, ite_false, h1, L0, h2']
    · simp only [note_false, x_drawn, l_nil, l_op, l_guard, l_some, l_true, l_false, l_draw, readsA, x_true, x_false, x_seq, x_ops, x_cond, x_skip, x_ret, x_exit, x_block, x_then, x_thenE, x_thenR, x_blockN, x_blockR, x_blockE, s_nil, s_op, s_guard, s_some, s_true, s_false, s_put, s_put0, s_opsR, s_ret, s_norm, aop, ev, evs, List.map_cons, List.map_nil, List.cons_append, List.nil_append, List.append_nil, List.replicate, List.take_succ_cons, List.take_zero, List.take_nil, List.drop_succ_cons, List.drop_zero, List.drop_nil, Nat.zero_add, Nat.add_zero, Nat.reduceAdd, Nat.reduceMul, Nat.reduceLeDiff, Bool.false_eq_true, and_self, List.length_cons, List.length_nil, List.set_cons_zero, List.set_cons_succ, List.getD_cons_zero, List.getD_cons_succ, wantedA, List.getElem?_cons_zero, List.getElem?_cons_succ, q_t, q_f, Bool.not_true, Bool.not_false, b_add, b_sub, b_mul, b_eql, b_neq, b_lss, b_leq, b_gtr, b_geq, b_and, b_or, b_xor, b_quo, b_rem, b_shl, b_shr, unA, Option.map_some, Option.map_none, resA, tupA, Int.reduceLT, not_false_eq_true, not_true_eq_false, decide_true, decide_false, f_bool, c_bool, f_int, c_int, f_str, c_str, f_nilptr, c_nilptr, f_ptr, c_ptr, f_nilsl, c_nilsl, f_slice, c_slice, f_nilmap, c_nilmap, f_map, c_map, f_nilf, c_nilf, f_func, c_func, f_yieldf, c_yieldf, f_nilif, c_nilif, f_iface, c_iface, c_agg, List.all_cons, List.all_nil, Bool.and_true, Bool.true_and, if_true, if_false, ite_true, ite_false, h1, L0, h2]
theorem body16_eq : sf16.body = .seq (.ops [⟨some 4, .mov (.c (.bool false)), none⟩]) (.seq (.seq
                (.ops
                  [⟨some 7, .mov (.t 1), none⟩,
                   ⟨some 8, .bin (.lss) (.other) (.t 7) (.c (.int (.i64) 0)), none⟩,
                   ⟨some 9, .mov (.t 8), none⟩,
                   ⟨some 10, .mov (.t 1), some (9, false)⟩,
                   ⟨some 11, .mov (.t 0), some (9, false)⟩,
                   ⟨some 12, .nilChk (.t 11), some (9, false)⟩,
                   ⟨some 13, .fieldAddr 0 (.t 12), some (9, false)⟩,
                   ⟨some 14, .load false 1 (.t 13), some (9, false)⟩,
                   ⟨some 15, .len (.sl) (.t 14), some (9, false)⟩,
                   ⟨some 16, .bin (.geq) (.other) (.t 10) (.t 15), some (9, false)⟩,
                   ⟨some 17, .pick (.t 9) (.c (.bool true)) (.t 16), none⟩])
                (.cond (.t 17) (.seq (.ops [⟨some 4, .mov (.c (.bool false)), none⟩]) (.ret)) (.skip)))
              (.seq
                (.ops [⟨some 5, .mov (.c (.nilsl)), none⟩])
                (.seq (.seq (.ops [⟨some 6, .mov (.c (.int (.i64) 0)), none⟩]) (.block 0 (.loop body16))) tail16))) := rfl
theorem drop16 {h : Heap} {id k : Nat} {l : List Msg} {F : Nat → Prop} (hf : ObF [] h id l F) (hk : k < l.length) (hl : l.length ≤ 1000) :
    ∃ h' F', xcall X1 tab (.fn 16) [.ptr id 0, .int .i64 (k : Nat)] h = some (.bool true, h') ∧ ObF [] h' id (l.eraseIdx k) F' ∧ Step h h' F F' := by
  obtain ⟨b, Q, ho, hs1, hs2, hs3⟩ := hf.at
  have ho' := ho
  obtain ⟨sl, b0, rows, hg, hs, hrl, hrows, nb1, nb2, nb3⟩ := ho.rows
  obtain ⟨n1, _, n3, n4, n5, n6, _⟩ := ho'
  have hs' := hs
  rcases hs.2 with ⟨_, rfl⟩ | ⟨cap, rest, rfl, e2, e3, e4⟩
  · simp at hrl; omega
  · generalize hn : rows.length = n at *
    have hT : Sh16 id (k : Nat) .nilsl 0 [.ptr id 0, .int .i64 (k : Nat), undefA, undefA, .bool false, .nilsl, .int .i64 0, .int .i64 (k : Nat), .bool false, .bool false, .int .i64 (k : Nat), .ptr id 0, .ptr id 0, .ptr id 0, .slice b0 0 n cap false 3, .int .i64 (n : Nat), .bool false, .bool false, undefA, undefA, undefA, undefA, undefA, undefA, undefA, undefA, undefA, undefA, undefA, undefA, undefA, undefA, undefA, undefA, undefA, undefA, undefA, undefA, undefA, undefA, undefA, undefA, undefA, undefA] := ⟨rfl, rfl, rfl, rfl, rfl⟩
    have hb0 : b0 < h.next := Heap.lt_of_get e3
    obtain ⟨tm1, h1, out, bo, e1, s1, sh1, x1, x2, x3⟩ := loop16 (k := k) n1 hb0 hg hn.symm hs' hrows (by omega) n 0 h .nilsl h.next _ (by omega) hT ⟨fun r h => (by cases h), .inl ⟨rfl, rfl⟩⟩ (Nat.le_refl _) (fun _ _ => rfl) (Nat.le_refl _)
    have hg1 : h1.get id = some (.cells [.slice b0 0 n cap false 3] false) := (x2 id n1).trans hg
    obtain ⟨tm2, e5, e6⟩ := tail16_spec s1 hg1 sh1.flat
    have hlt := Heap.lt_of_get hg1
    have hbo : bo ≠ id := by omega
    have hk0 : ¬ ((k : Int) < 0) := by omega
    have hkn : ¬ ((k : Int) ≥ (n : Int)) := by omega
    have L0 : loadA h false 1 id 0 = some (.slice b0 0 n cap false 3) := by rw [load_of hg]; rfl
    have key : xcall X1 tab (.fn 16) [.ptr id 0, .int .i64 (k : Nat)] h = some (.bool true, h1.set id (.cells [out] false)) := by
      rw [x_fn rfl (show tab 16 = some ⟨44, [.tmp 4], sf16.body⟩ from rfl), body16_eq]
      simp (decide := true) only [note_false, x_drawn, l_nil, l_op, l_guard, l_some, l_true, l_false, l_draw, readsA, x_true, x_false, x_seq, x_ops, x_cond, x_skip, x_ret, x_exit, x_block, x_then, x_thenE, x_thenR, x_blockN, x_blockR, x_blockE, s_nil, s_op, s_guard, s_some, s_true, s_false, s_put, s_put0, s_opsR, s_ret, s_norm, aop, ev, evs, List.map_cons, List.map_nil, List.cons_append, List.nil_append, List.append_nil, List.replicate, List.take_succ_cons, List.take_zero, List.take_nil, List.drop_succ_cons, List.drop_zero, List.drop_nil, Nat.zero_add, Nat.add_zero, Nat.reduceAdd, Nat.reduceMul, Nat.reduceLeDiff, Bool.false_eq_true, and_self, List.length_cons, List.length_nil, List.set_cons_zero, List.set_cons_succ, List.getD_cons_zero, List.getD_cons_succ, wantedA, List.getElem?_cons_zero, List.getElem?_cons_succ, q_t, q_f, Bool.not_true, Bool.not_false, b_add, b_sub, b_mul, b_eql, b_neq, b_lss, b_leq, b_gtr, b_geq, b_and, b_or, b_xor, b_quo, b_rem, b_shl, b_shr, unA, Option.map_some, Option.map_none, resA, tupA, Int.reduceLT, not_false_eq_true, not_true_eq_false, decide_true, decide_false, f_bool, c_bool, f_int, c_int, f_str, c_str, f_nilptr, c_nilptr, f_ptr, c_ptr, f_nilsl, c_nilsl, f_slice, c_slice, f_nilmap, c_nilmap, f_map, c_map, f_nilf, c_nilf, f_func, c_func, f_yieldf, c_yieldf, f_nilif, c_nilif, f_iface, c_iface, c_agg, List.all_cons, List.all_nil, Bool.and_true, Bool.true_and, if_true, if_false, ite_true, ite_false, hk0, hkn, L0, e1, e5, e6]
    have hrl2 : (rows.eraseIdx k).length = (l.eraseIdx k).length := (hrows.erase k).len.1
    have ho2 : ObAt [] (h1.set id (.cells [out] false)) id (l.eraseIdx k) bo Q := by
      refine ⟨by simpa using hlt, ?_, hbo, n4, fun hq => by have := n6 _ hq; omega, fun j hq => by have := n6 j hq; simp; omega, out, by rw [get_set, if_pos rfl, if_pos hlt], ?_⟩
      · rcases sh1.2 with ⟨_, e⟩ | ⟨cap2, rest2, _, _, k3, _⟩
        · refine .inr ?_
          rw [e] at hrl2
          exact List.eq_nil_of_length_eq_zero hrl2.symm
        · exact .inl (by simpa using Heap.lt_of_get k3)
      · rcases sh1.2 with ⟨k1, e⟩ | ⟨cap2, rest2, k1, k2, k3, k4⟩
        · refine .inl ⟨k1, ?_⟩
          rw [e] at hrl2
          exact List.eq_nil_of_length_eq_zero hrl2.symm
        · rw [hrl2] at k1 k2
          refine .inr ⟨cap2, _, rest2, k1, k2, by rw [get_set, if_neg hbo]; exact k3, k4, (hrows.erase k).mono (fun j hq => hq) fun j hq => ?_⟩
          have := n6 j hq
          rw [get_set, if_neg (show j ≠ id from fun e => n4 (e ▸ hq)), x2 j this]
    have fr : NFrame h (h1.set id (.cells [out] false)) id b Q bo Q :=
      ⟨by simpa using x1, fun j j1 j2 j3 => by rw [get_set, if_neg j2, x2 j j1], .inr x3, fun j hq => .inl hq⟩
    obtain ⟨F', r1, r2, _⟩ := ObF.of hf.1 hs1 hs2 hs3 ho2 fr
    exact ⟨_, F', key, r1, r2⟩

end Go.Proofs.Ytdgpjefbdocepaa.Ya
