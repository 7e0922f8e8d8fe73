/-
  Net: Flying, and the law's flies.
-/
import Derived.Test.YtdgpjefbdocepaaYaNetRef3
namespace Go.Proofs.Ytdgpjefbdocepaa.Ya
open Go.Ya
set_option linter.unusedVariables false
set_option linter.unusedSimpArgs false
set_option maxRecDepth 100000
set_option maxHeartbeats 4000000

/-- Bytes of their own block between two places, but not at bo, that may be spoilt. -/
def FB (h : Heap) (v : AV) (bs : List Int) (lo hi bo : Nat) : Prop :=
  (v = .nilsl ∧ bs = []) ∨ ∃ i cap ex, v = .slice i 0 bs.length cap ex 1 ∧ bs.length ≤ cap ∧ cap ≤ bs.length ∧ lo ≤ i ∧ i < hi ∧ i ≠ bo ∧ h.get i = some (.cells (ints bs) false) ∧ (ex = true ∨ (h.byteAt i = true ∧ i + 1 < hi ∧ i + 1 ≠ bo))
theorem FB.keep {h h' : Heap} {v : AV} {bs : List Int} {lo hi bo : Nat} (hb : FB h v bs lo hi bo) (hs : ∀ j, lo ≤ j → j < hi → j ≠ bo → h'.get j = h.get j) : FB h' v bs lo hi bo := by
  rcases hb with hb | ⟨i, cap, ex, e1, e2, e3, e4, e5, e0, e6, e7⟩
  · exact .inl hb
  · exact .inr ⟨i, cap, ex, e1, e2, e3, e4, e5, e0, (hs i e4 e5 e0).trans e6, e7.imp (fun e => e) fun ⟨q1, q2, q3⟩ => ⟨by rw [Heap.byteAt_of (hs (i + 1) (by omega) q2 q3)]; exact q1, q2, q3⟩⟩
theorem FB.rebo {h : Heap} {v : AV} {bs : List Int} {lo hi bo bo' : Nat} (hb : FB h v bs lo hi bo) (hs : hi ≤ bo' ∨ bo' < lo) : FB h v bs lo hi bo' := by
  rcases hb with hb | ⟨i, cap, ex, e1, e2, e3, e4, e5, e0, e6, e7⟩
  · exact .inl hb
  · exact .inr ⟨i, cap, ex, e1, e2, e3, e4, e5, by omega, e6, e7.imp (fun e => e) fun ⟨q1, q2, q3⟩ => ⟨q1, q2, by omega⟩⟩
theorem FB.sp {h : Heap} {v : AV} {bs : List Int} {lo hi bo : Nat} {F : Nat → Prop} (hb : FB h v bs lo hi bo) (hF : ∀ j, lo ≤ j → j < hi → j ≠ bo → ¬ F j) : SpB h v bs lo F := by
  rcases hb with hb | ⟨i, cap, ex, e1, e2, e3, e4, e5, e0, e6, e7⟩
  · exact .inl hb
  · exact .inr ⟨i, cap, ex, e1, e2, e3, e4, hF i e4 e5 e0, e6, e7.imp (fun e => e) fun e => e.1⟩
theorem FB.block {h : Heap} {v : AV} {bs : List Int} {lo hi bo : Nat} (hb : FB h v bs lo hi bo) {j : Nat} (hj : hi ≤ j ∨ j < lo ∨ j = bo) : ∀ c e, v ≠ .slice j 0 bs.length c e 1 := by
  rintro c e rfl
  rcases hb with ⟨hb, _⟩ | ⟨i, cap, ex, e1, e2, e3, e4, e5, e0, e6, e7⟩
  · cases hb
  · cases e1; omega
theorem newBytes_fb {h h' : Heap} {v : AV} {bs : List Int} (hn : NewBytes h h' v bs) (bo : Nat) (hbo : h'.next ≤ bo ∨ bo < h.next) : FB h' v bs h.next h'.next bo := by
  rcases hn with hn | ⟨i, cap, ex, e1, e2, e3, e4, e5, e6⟩
  · exact .inl hn
  · have := Heap.lt_of_get e5
    refine .inr ⟨i, cap, ex, e1, e2, e3, e4, this, by omega, e5, e6.imp (fun e => e) fun e => ?_⟩
    have := Heap.byteAt_lt e
    exact ⟨e, this, by omega⟩

inductive FRows (h : Heap) (bo : Nat) : Nat → Nat → List (List AV) → List Msg → Prop
  | nil {lo hi : Nat} : lo ≤ hi → FRows h bo lo hi [] []
  | cons {lo mid hi : Nat} {v : AV} {m : Msg} {rows : List (List AV)} {ms : List Msg} : lo ≤ mid → FB h v m.bytes lo mid bo → FRows h bo mid hi rows ms → FRows h bo lo hi ([.int .i64 m.client, .bool m.back, v] :: rows) (m :: ms)
theorem FRows.le {h : Heap} {bo lo hi : Nat} {rows : List (List AV)} {ms : List Msg} (hr : FRows h bo lo hi rows ms) : lo ≤ hi := by
  induction hr with
  | nil h => exact h
  | cons h _ _ ih => omega
theorem FRows.keep {h h' : Heap} {bo lo hi : Nat} {rows : List (List AV)} {ms : List Msg} (hr : FRows h bo lo hi rows ms) (hs : ∀ j, lo ≤ j → j < hi → j ≠ bo → h'.get j = h.get j) : FRows h' bo lo hi rows ms := by
  induction hr with
  | nil h => exact .nil h
  | cons h1 h2 h3 ih =>
    have := h3.le
    exact .cons h1 (h2.keep fun j j1 j2 => hs j j1 (by omega)) (ih fun j j1 j2 => hs j (by omega) j2)
theorem FRows.rebo {h : Heap} {bo bo' lo hi : Nat} {rows : List (List AV)} {ms : List Msg} (hr : FRows h bo lo hi rows ms) (hs : hi ≤ bo') : FRows h bo' lo hi rows ms := by
  induction hr with
  | nil h => exact .nil h
  | cons h1 h2 h3 ih =>
    have := h3.le
    exact .cons h1 (h2.rebo (.inl (by omega))) (ih hs)
theorem FRows.snoc {h : Heap} {bo lo hi hi2 : Nat} {rows : List (List AV)} {ms : List Msg} {v : AV} {m : Msg} (hr : FRows h bo lo hi rows ms) (hle : hi ≤ hi2) (hb : FB h v m.bytes hi hi2 bo) : FRows h bo lo hi2 (rows ++ [[.int .i64 m.client, .bool m.back, v]]) (ms ++ [m]) := by
  induction hr with
  | nil h =>
    refine .cons (by omega) ?_ (.nil (Nat.le_refl _))
    rcases hb with hb | ⟨i, cap, ex, e1, e2, e3, e4, e5, e0, e6, e7⟩
    · exact .inl hb
    · exact .inr ⟨i, cap, ex, e1, e2, e3, by omega, e5, e0, e6, e7⟩
  | cons h1 h2 h3 ih => exact .cons h1 h2 (ih hle hb)
theorem FRows.widen {h : Heap} {bo lo hi hi2 : Nat} {rows : List (List AV)} {ms : List Msg} (hr : FRows h bo lo hi rows ms) (hle : hi ≤ hi2) : FRows h bo lo hi2 rows ms := by
  induction hr with
  | nil h => exact .nil (by omega)
  | cons h1 h2 h3 ih => exact .cons h1 h2 (ih hle)
theorem FRows.len {h : Heap} {bo lo hi : Nat} {rows : List (List AV)} {ms : List Msg} (hr : FRows h bo lo hi rows ms) : rows.length = ms.length := by
  induction hr with
  | nil h => rfl
  | cons h1 h2 h3 ih => simp [ih]

def body20 : SC := match sf20.body with
  | .seq _ (.seq _ (.seq _ (.seq (.seq _ (.block _ (.loop l))) _))) => l
  | _ => .skip
def Sh20 (sl out : AV) (n i : Nat) (tm : List AV) : Prop := tm.length = 24 ∧ tm[3]? = some out ∧ tm[11]? = some sl ∧ tm[12]? = some (.int .i64 (n : Nat)) ∧ tm[13]? = some (.int .i64 (i : Nat))
theorem round20 {h : Heap} {b bo i n cap : Nat} {out : AV} {rows orows : List (List AV)} {m : Msg} {v : AV} {tm : List AV} (ht : Sh20 (.slice b 0 n cap false 3) out n i tm) (hn : n = rows.length)
    (hs : ShAt 3 h (.slice b 0 n cap false 3) b rows) (hi : rows[i]? = some [.int .i64 m.client, .bool m.back, v]) (hbt : BytesAt h v m.bytes) (hml : m.bytes.length ≤ 140737488355328) (ho : ShAt 3 h out bo orows) (hol : orows.length ≤ 1000) (hn64 : n ≤ 1000) :
    ∃ (tm' : List AV) (h1 h' : Heap) (out' : AV) (bo' : Nat) (v' : AV), xcode X1 tab 20 none (.loop body20) tm h = xcode X1 tab 20 none (.loop body20) tm' h' ∧ Sh20 (.slice b 0 n cap false 3) out' n (i + 1) tm' ∧ ShAt 3 h' out' bo' (orows ++ [[.int .i64 m.client, .bool m.back, v']]) ∧ h.next ≤ h1.next ∧ h1.next ≤ h'.next ∧
      (∀ j, j < h.next → j ≠ bo → h'.get j = h.get j) ∧ (bo' = bo ∧ bo < h.next ∨ h1.next ≤ bo') ∧ FB h' v' m.bytes h.next h1.next bo' := by
  match tm, ht with
  | a0 :: a1 :: a2 :: a3 :: a4 :: a5 :: a6 :: a7 :: a8 :: a9 :: a10 :: a11 :: a12 :: a13 :: a14 :: a15 :: a16 :: a17 :: a18 :: a19 :: a20 :: a21 :: a22 :: a23 :: [], ht =>
  obtain ⟨_, t3, t11, t12, t13⟩ := ht
  simp only [List.getElem?_cons_zero, List.getElem?_cons_succ, Option.some.injEq] at t3 t11 t12 t13
  replace t3 := t3.symm; replace t11 := t11.symm; replace t12 := t12.symm; replace t13 := t13.symm
  subst t3 t11 t12 t13
  obtain ⟨cap', hsl, ld, _, hilt⟩ := hs.load hi
  have hfv : v.flat = true := by rcases hbt with ⟨rfl, _⟩ | ⟨_, _, _, _, _, _, rfl, _⟩ <;> rfl
  have hH : ∃ H, (h.alloc (.cells [.int .i64 0, .bool false, .nilsl] false)).set h.next (.cells [.int .i64 m.client, .bool m.back, v] false) = H ∧ Grow h H ∧ H.next = h.next + 1 ∧ H.get h.next = some (.cells [.int .i64 m.client, .bool m.back, v] false) :=
    ⟨_, rfl, Grow.set (.alloc _ _) _ (Nat.le_refl _) (by simp), by simp, by rw [get_set, if_pos rfl, if_pos (by simp)]⟩
  obtain ⟨H, hA, gA, hHn, G⟩ := hH
  have hst : storeA (h.alloc (.cells [.int .i64 0, .bool false, .nilsl] false)) h.next 0 [.int .i64 m.client, .bool m.back, v] = some H := by
    rw [← hA]; simp [storeA, Heap.get_alloc, splice]
  have LH : loadA H true 3 h.next 0 = some (.agg [.int .i64 m.client, .bool m.back, v]) := by simp [loadA, G]
  obtain ⟨v', H1, e1, g1, nb⟩ := copied22 (h := H) (m := m) ⟨v, rfl, hbt.grow gA⟩ hml
  have hfv' : AV.flat v' = true := by rcases nb with ⟨rfl, _⟩ | ⟨_, _, _, rfl, _⟩ <;> rfl
  have hH2 : ∃ H2, H1.alloc (.cells [.int .i64 m.client, .bool m.back, v'] false) = H2 ∧ Grow H1 H2 ∧ H2.next = H1.next + 1 ∧ H2.get H1.next = some (.cells [.int .i64 m.client, .bool m.back, v'] false) :=
    ⟨_, rfl, .alloc _ _, by simp, by rw [Heap.get_alloc, if_pos rfl]⟩
  obtain ⟨H2, hA2, gA2, hH2n, G2⟩ := hH2
  have hfa : firstA H2 3 1 (.slice H1.next 0 1 1 true 3) = some [.int .i64 m.client, .bool m.back, v'] := by simp [firstA, G2]
  have q0 := gA.1
  have q1 := g1.1
  have q2 := gA2.1
  -- where out is nil its block is nowhere
  have hbo : ∃ bo1, ShAt 3 h out bo1 orows ∧ (bo1 = bo ∧ bo < h.next ∨ H2.next ≤ bo1) := by
    rcases ho.2 with ⟨k1, k2⟩ | ⟨c2, r2, k1, k2, k3, k4⟩
    · exact ⟨H2.next, ⟨ho.1, .inl ⟨k1, k2⟩⟩, .inr (Nat.le_refl _)⟩
    · exact ⟨bo, ho, .inl ⟨rfl, Heap.lt_of_get k3⟩⟩
  obtain ⟨bo1, ho1, hbo1⟩ := hbo
  obtain ⟨out', h', bo', hap, sh', fl', x1, x2, x3, x4⟩ := (ho1.keep (h' := H2) fun o e => gA2.get (g1.get (gA.get e))).append (bytes := 40) (y := .slice H1.next 0 1 1 true 3) rfl hfa rfl (by omega)
  have hw : IntKind.i64.wrap ((i : Int) + 1) = ((i + 1 : Nat) : Int) := by
    rw [IntWalk.i64_in _ (by omega)]; simp
  have hlt : (i : Int) < (n : Int) := by omega
  have h0 : (0 : Int) ≤ (i : Int) ∧ (i : Int) < (n : Int) := by omega
  have n0 : 0 + (i : Int).toNat * 3 = i * 3 := by omega
  refine ⟨?tm, H1, h', out', bo', v', ?run, ?sh, sh', by omega, by omega, fun j j1 j2 => by rw [x2 j (by omega) (by omega), gA2.2 j (by omega), g1.2 j (by omega), gA.2 j j1], ?_, ?_⟩
  case run =>
    rw [show ∀ tm h, xcode X1 tab 20 none (.loop body20) tm h = thenX X1 tab 20 none (.loop body20) (xcode X1 tab 20 none body20 tm h) from fun _ _ => x_loop]
    delta body20 sf20
    simp (decide := true) only [note_false, x_drawn, l_nil, l_op, l_guard, l_some, l_true, l_false, l_draw, readsA, x_true, x_false, x_seq, x_ops, x_cond, x_skip, x_ret, x_exit, x_block, x_then, x_thenE, x_thenR, x_blockN, x_blockR, x_blockE, s_nil, s_op, s_guard, s_some, s_true, s_false, s_put, s_put0, s_opsR, s_ret, s_norm, aop, ev, evs, List.map_cons, List.map_nil, List.cons_append, List.nil_append, List.append_nil, List.replicate, List.take_succ_cons, List.take_zero, List.take_nil, List.drop_succ_cons, List.drop_zero, List.drop_nil, Nat.zero_add, Nat.add_zero, Nat.reduceAdd, Nat.reduceMul, Nat.reduceLeDiff, Bool.false_eq_true, and_self, List.length_cons, List.length_nil, List.set_cons_zero, List.set_cons_succ, List.getD_cons_zero, List.getD_cons_succ, wantedA, List.getElem?_cons_zero, List.getElem?_cons_succ, q_t, q_f, Bool.not_true, Bool.not_false, b_add, b_sub, b_mul, b_eql, b_neq, b_lss, b_leq, b_gtr, b_geq, b_and, b_or, b_xor, b_quo, b_rem, b_shl, b_shr, unA, Option.map_some, Option.map_none, resA, tupA, Int.reduceLT, not_false_eq_true, not_true_eq_false, decide_true, decide_false, f_bool, c_bool, f_int, c_int, f_str, c_str, f_nilptr, c_nilptr, f_ptr, c_ptr, f_nilsl, c_nilsl, f_slice, c_slice, f_nilmap, c_nilmap, f_map, c_map, f_nilf, c_nilf, f_func, c_func, f_yieldf, c_yieldf, f_nilif, c_nilif, f_iface, c_iface, c_agg, List.all_cons, List.all_nil, Bool.and_true, Bool.true_and, if_true, if_false, ite_true, ite_false, hlt, hw, h0, n0, ld, hst, LH, e1, hA2, hap, fillA, splice, hfv, hfv', cells_of hfv, cells_of hfv', fl', cells_of fl']
    rfl
  case sh => exact ⟨rfl, rfl, rfl, rfl, rfl⟩
  · rcases x3 with x3 | x3
    · rcases hbo1 with hbo1 | hbo1
      · exact .inl ⟨x3.trans hbo1.1, hbo1.2⟩
      · exact .inr (by omega)
    · exact .inr (by omega)
  · have hbo2 : H1.next ≤ bo' ∨ bo' < H.next := by omega
    have fb := newBytes_fb nb bo' hbo2
    have fb' := fb.keep (h' := h') fun j j1 j2 _ => by rw [x2 j (by omega) (by omega), gA2.2 j j2]
    rcases fb' with hb | ⟨i, cap, ex, e1, e2, e3, e4, e5, e0, e6, e7⟩
    · exact .inl hb
    · exact .inr ⟨i, cap, ex, e1, e2, e3, by omega, e5, e0, e6, e7⟩
theorem out20 {h : Heap} {n : Nat} {sl out : AV} {tm : List AV} (ht : Sh20 sl out n n tm) :
    ∃ tm', xcode X1 tab 20 none (.loop body20) tm h = some (.exit 0, tm', h) ∧ Sh20 sl out n n tm' := by
  match tm, ht with
  | a0 :: a1 :: a2 :: a3 :: a4 :: a5 :: a6 :: a7 :: a8 :: a9 :: a10 :: a11 :: a12 :: a13 :: a14 :: a15 :: a16 :: a17 :: a18 :: a19 :: a20 :: a21 :: a22 :: a23 :: [], ht =>
  obtain ⟨_, t3, t11, t12, t13⟩ := ht
  simp only [List.getElem?_cons_zero, List.getElem?_cons_succ, Option.some.injEq] at t3 t11 t12 t13
  replace t3 := t3.symm; replace t11 := t11.symm; replace t12 := t12.symm; replace t13 := t13.symm
  subst t3 t11 t12 t13
  refine ⟨?tm, ?run, ?sh⟩
  case run =>
    rw [show ∀ tm h, xcode X1 tab 20 none (.loop body20) tm h = thenX X1 tab 20 none (.loop body20) (xcode X1 tab 20 none body20 tm h) from fun _ _ => x_loop]
    delta body20 sf20
    simp (decide := true) only [note_false, x_drawn, l_nil, l_op, l_guard, l_some, l_true, l_false, l_draw, readsA, x_true, x_false, x_seq, x_ops, x_cond, x_skip, x_ret, x_exit, x_block, x_then, x_thenE, x_thenR, x_blockN, x_blockR, x_blockE, s_nil, s_op, s_guard, s_some, s_true, s_false, s_put, s_put0, s_opsR, s_ret, s_norm, aop, ev, evs, List.map_cons, List.map_nil, List.cons_append, List.nil_append, List.append_nil, List.replicate, List.take_succ_cons, List.take_zero, List.take_nil, List.drop_succ_cons, List.drop_zero, List.drop_nil, Nat.zero_add, Nat.add_zero, Nat.reduceAdd, Nat.reduceMul, Nat.reduceLeDiff, Bool.false_eq_true, and_self, List.length_cons, List.length_nil, List.set_cons_zero, List.set_cons_succ, List.getD_cons_zero, List.getD_cons_succ, wantedA, List.getElem?_cons_zero, List.getElem?_cons_succ, q_t, q_f, Bool.not_true, Bool.not_false, b_add, b_sub, b_mul, b_eql, b_neq, b_lss, b_leq, b_gtr, b_geq, b_and, b_or, b_xor, b_quo, b_rem, b_shl, b_shr, unA, Option.map_some, Option.map_none, resA, tupA, Int.reduceLT, not_false_eq_true, not_true_eq_false, decide_true, decide_false, f_bool, c_bool, f_int, c_int, f_str, c_str, f_nilptr, c_nilptr, f_ptr, c_ptr, f_nilsl, c_nilsl, f_slice, c_slice, f_nilmap, c_nilmap, f_map, c_map, f_nilf, c_nilf, f_func, c_func, f_yieldf, c_yieldf, f_nilif, c_nilif, f_iface, c_iface, c_agg, List.all_cons, List.all_nil, Bool.and_true, Bool.true_and, if_true, if_false, ite_true, ite_false, Int.lt_irrefl]
    rfl
  case sh => exact ⟨rfl, rfl, rfl, rfl, rfl⟩
theorem loop20 {h0 : Heap} {b n cap : Nat} {Q : Nat → Prop} {rows : List (List AV)} {l : List Msg} (hb : b < h0.next) (hn : n = rows.length) (hs : ShAt 3 h0 (.slice b 0 n cap false 3) b rows) (hr : Rows2 h0 Q rows l) (hQ : ∀ j, Q j → j < h0.next) (hok : ∀ m ∈ l, ¬ Bad m) (hn64 : n ≤ 1000) :
    ∀ (d i : Nat) (h : Heap) (out : AV) (bo : Nat) (orows : List (List AV)) (tm : List AV), i + d = n → Sh20 (.slice b 0 n cap false 3) out n i tm → ShAt 3 h out bo orows → FRows h bo h0.next h.next orows (l.take i) → h0.next ≤ h.next →
      (∀ j, j < h0.next → h.get j = h0.get j) → h0.next ≤ bo →
    ∃ tm' h' out' bo' orows', xcode X1 tab 20 none (.loop body20) tm h = some (.exit 0, tm', h') ∧ Sh20 (.slice b 0 n cap false 3) out' n n tm' ∧ ShAt 3 h' out' bo' orows' ∧ FRows h' bo' h0.next h'.next orows' l ∧ h0.next ≤ h'.next ∧ (∀ j, j < h0.next → h'.get j = h0.get j) ∧ h0.next ≤ bo' := by
  have hll := hr.len.1
  intro d
  induction d with
  | zero =>
    intro i h out bo orows tm hd ht ho hf hx hsame hbo
    obtain rfl : i = n := by omega
    obtain ⟨tm', e, ht'⟩ := out20 (h := h) ht
    refine ⟨tm', h, out, bo, orows, e, ht', ho, ?_, hx, hsame, hbo⟩
    rw [List.take_of_length_le (by omega)] at hf
    exact hf
  | succ d ih =>
    intro i h out bo orows tm hd ht ho hf hx hsame hbo
    have hil2 : i < l.length := by omega
    obtain ⟨row, hrow, v, hv, hob⟩ := hr.get (List.getElem?_eq_getElem hil2)
    subst hv
    have hmb : ¬ Bad l[i] := hok _ (List.getElem_mem hil2)
    have hlen : l[i].bytes.length ≤ 140737488355328 := by
      have : ¬ (l[i].bytes.length : Int) > 4096 := fun e => hmb (.inr (.inr e))
      omega
    have hs' : ShAt 3 h (.slice b 0 n cap false 3) b rows := hs.keep fun o e => (hsame b hb).trans e
    have hbt : BytesAt h v l[i].bytes := (hob.mono (fun _ e => e) fun j hj => hsame j (hQ j hj)).at
    have hol := hf.len
    obtain ⟨tm', h1, h', out', bo', v', e, ht', sh', x1, x2, x3, x4, x5⟩ := round20 ht hn hs' hrow hbt hlen ho (by simp at hol; omega) hn64
    have hf' : FRows h' bo' h0.next h.next orows (l.take i) := by
      have k1 := hf.keep (h' := h') fun j j1 j2 j3 => x3 j j2 j3
      rcases x4 with ⟨rfl, _⟩ | x4
      · exact k1
      · exact k1.rebo (by omega)
    have hf2 := (hf'.snoc x1 x5).widen x2
    have htake : l.take i ++ [l[i]] = l.take (i + 1) := by rw [List.take_add_one, List.getElem?_eq_getElem hil2]; rfl
    rw [htake] at hf2
    obtain ⟨tm2, h2, out2, bo2, or2, e2, r⟩ := ih (i + 1) h' out' bo' _ tm' (by omega) ht' sh' hf2 (by omega) (fun j hj => by rw [x3 j (by omega) (by omega)]; exact hsame j hj) (by omega)
    exact ⟨tm2, h2, out2, bo2, or2, e.trans e2, r⟩

theorem body20_eq : sf20.body = .seq (.ops [⟨some 2, .mov (.c (.nilsl)), none⟩]) (.seq (.seq (.ops [⟨some 6, .mov (.t 0), none⟩, ⟨some 7, .call 21 [.t 6], none⟩]) (.cond (.t 7) (.seq (.ops [⟨some 2, .mov (.c (.nilsl)), none⟩]) (.ret)) (.skip)))
              (.seq (.ops [⟨some 3, .mov (.c (.nilsl)), none⟩])
                (.seq
                  (.seq
                    (.ops
                      [⟨some 8, .mov (.t 0), none⟩,
                       ⟨some 9, .nilChk (.t 8), none⟩,
                       ⟨some 10, .fieldAddr 0 (.t 9), none⟩,
                       ⟨some 11, .load false 1 (.t 10), none⟩,
                       ⟨some 12, .len (.sl) (.t 11), none⟩,
                       ⟨some 13, .mov (.c (.int (.i64) 0)), none⟩])
                    (.block 0 (.loop body20)))
                  (.seq (.ops [⟨some 23, .mov (.t 3), none⟩, ⟨some 2, .mov (.t 23), none⟩]) (.ret))))) := rfl

theorem tail20_spec {h : Heap} {sl out : AV} {n : Nat} {tm : List AV} (ht : Sh20 sl out n n tm) :
    ∃ tm', xcode X1 tab 20 none (.seq (.ops [⟨some 23, .mov (.t 3), none⟩, ⟨some 2, .mov (.t 23), none⟩]) (.ret)) tm h = some (.ret, tm', h) ∧ tm'.getD 2 undefA = out := by
  match tm, ht with
  | a0 :: a1 :: a2 :: a3 :: a4 :: a5 :: a6 :: a7 :: a8 :: a9 :: a10 :: a11 :: a12 :: a13 :: a14 :: a15 :: a16 :: a17 :: a18 :: a19 :: a20 :: a21 :: a22 :: a23 :: [], ht =>
  obtain ⟨_, t3, t11, t12, t13⟩ := ht
  simp only [List.getElem?_cons_zero, List.getElem?_cons_succ, Option.some.injEq] at t3 t11 t12 t13
  replace t3 := t3.symm; replace t11 := t11.symm; replace t12 := t12.symm; replace t13 := t13.symm
  subst t3 t11 t12 t13
  refine ⟨?tm, ?run, ?sh⟩
  case run =>
    simp (decide := true) only [note_false, x_drawn, l_nil, l_op, l_guard, l_some, l_true, l_false, l_draw, readsA, x_true, x_false, x_seq, x_ops, x_cond, x_skip, x_ret, x_exit, x_block, x_then, x_thenE, x_thenR, x_blockN, x_blockR, x_blockE, s_nil, s_op, s_guard, s_some, s_true, s_false, s_put, s_put0, s_opsR, s_ret, s_norm, aop, ev, evs, List.map_cons, List.map_nil, List.cons_append, List.nil_append, List.append_nil, List.replicate, List.take_succ_cons, List.take_zero, List.take_nil, List.drop_succ_cons, List.drop_zero, List.drop_nil, Nat.zero_add, Nat.add_zero, Nat.reduceAdd, Nat.reduceMul, Nat.reduceLeDiff, Bool.false_eq_true, and_self, List.length_cons, List.length_nil, List.set_cons_zero, List.set_cons_succ, List.getD_cons_zero, List.getD_cons_succ, wantedA, List.getElem?_cons_zero, List.getElem?_cons_succ, q_t, q_f, Bool.not_true, Bool.not_false, b_add, b_sub, b_mul, b_eql, b_neq, b_lss, b_leq, b_gtr, b_geq, b_and, b_or, b_xor, b_quo, b_rem, b_shl, b_shr, unA, Option.map_some, Option.map_none, resA, tupA, Int.reduceLT, not_false_eq_true, not_true_eq_false, decide_true, decide_false, f_bool, c_bool, f_int, c_int, f_str, c_str, f_nilptr, c_nilptr, f_ptr, c_ptr, f_nilsl, c_nilsl, f_slice, c_slice, f_nilmap, c_nilmap, f_map, c_map, f_nilf, c_nilf, f_func, c_func, f_yieldf, c_yieldf, f_nilif, c_nilif, f_iface, c_iface, c_agg, List.all_cons, List.all_nil, Bool.and_true, Bool.true_and, if_true, if_false, ite_true, ite_false]
    rfl
  case sh => rfl
/-- Flying: all that flies, in memory of its own. -/
theorem flying20 {h : Heap} {id : Nat} {l : List Msg} {F : Nat → Prop} (hf : ObF [.bool true] h id l F) (hl : l.length ≤ 64) (hok : ∀ m ∈ l, ¬ Bad m) :
    ∃ out h' bo rows, xcall X1 tab (.fn 20) [.ptr id 0] h = some (out, h') ∧ Grow h h' ∧ ShAt 3 h' out bo rows ∧ FRows h' bo h.next h'.next rows l ∧ h.next ≤ bo := by
  obtain ⟨b, Q, ho, hs1, hs2, hs3⟩ := hf.at
  obtain ⟨sl, b0, rows, hg, hs, hrl, hrows, nb1, nb2, nb3⟩ := ho.rows
  obtain ⟨_, _, _, _, _, n6, _⟩ := ho
  have L0 : loadA h false 1 id 0 = some sl := by rw [load_of hg]; rfl
  have hs' := hs
  rcases hs.2 with ⟨rfl, rfl⟩ | ⟨cap, rest, rfl, e2, e3, e4⟩
  · have hl0 : l = [] := List.eq_nil_of_length_eq_zero hrl.symm
    subst hl0
    refine ⟨.nilsl, h, h.next, [], ?_, .refl h, ⟨hs.1, .inl ⟨rfl, rfl⟩⟩, .nil (Nat.le_refl _), Nat.le_refl _⟩
    rw [x_fn rfl (show tab 20 = some ⟨24, [.tmp 2], sf20.body⟩ from rfl), body20_eq]
    simp (decide := true) only [note_false, x_drawn, l_nil, l_op, l_guard, l_some, l_true, l_false, l_draw, readsA, x_true, x_false, x_seq, x_ops, x_cond, x_skip, x_ret, x_exit, x_block, x_then, x_thenE, x_thenR, x_blockN, x_blockR, x_blockE, s_nil, s_op, s_guard, s_some, s_true, s_false, s_put, s_put0, s_opsR, s_ret, s_norm, aop, ev, evs, List.map_cons, List.map_nil, List.cons_append, List.nil_append, List.append_nil, List.replicate, List.take_succ_cons, List.take_zero, List.take_nil, List.drop_succ_cons, List.drop_zero, List.drop_nil, Nat.zero_add, Nat.add_zero, Nat.reduceAdd, Nat.reduceMul, Nat.reduceLeDiff, Bool.false_eq_true, and_self, List.length_cons, List.length_nil, List.set_cons_zero, List.set_cons_succ, List.getD_cons_zero, List.getD_cons_succ, wantedA, List.getElem?_cons_zero, List.getElem?_cons_succ, q_t, q_f, Bool.not_true, Bool.not_false, b_add, b_sub, b_mul, b_eql, b_neq, b_lss, b_leq, b_gtr, b_geq, b_and, b_or, b_xor, b_quo, b_rem, b_shl, b_shr, unA, Option.map_some, Option.map_none, resA, tupA, Int.reduceLT, not_false_eq_true, not_true_eq_false, decide_true, decide_false, f_bool, c_bool, f_int, c_int, f_str, c_str, f_nilptr, c_nilptr, f_ptr, c_ptr, f_nilsl, c_nilsl, f_slice, c_slice, f_nilmap, c_nilmap, f_map, c_map, f_nilf, c_nilf, f_func, c_func, f_yieldf, c_yieldf, f_nilif, c_nilif, f_iface, c_iface, c_agg, List.all_cons, List.all_nil, Bool.and_true, Bool.true_and, if_true, if_false, ite_true, ite_false, none21 hg, L0]
    rw [show ∀ tm h, xcode X1 tab 20 none (.loop body20) tm h = thenX X1 tab 20 none (.loop body20) (xcode X1 tab 20 none body20 tm h) from fun _ _ => x_loop]
    delta body20 sf20
    simp (decide := true) only [note_false, x_drawn, l_nil, l_op, l_guard, l_some, l_true, l_false, l_draw, readsA, x_true, x_false, x_seq, x_ops, x_cond, x_skip, x_ret, x_exit, x_block, x_then, x_thenE, x_thenR, x_blockN, x_blockR, x_blockE, s_nil, s_op, s_guard, s_some, s_true, s_false, s_put, s_put0, s_opsR, s_ret, s_norm, aop, ev, evs, List.map_cons, List.map_nil, List.cons_append, List.nil_append, List.append_nil, List.replicate, List.take_succ_cons, List.take_zero, List.take_nil, List.drop_succ_cons, List.drop_zero, List.drop_nil, Nat.zero_add, Nat.add_zero, Nat.reduceAdd, Nat.reduceMul, Nat.reduceLeDiff, Bool.false_eq_true, and_self, List.length_cons, List.length_nil, List.set_cons_zero, List.set_cons_succ, List.getD_cons_zero, List.getD_cons_succ, wantedA, List.getElem?_cons_zero, List.getElem?_cons_succ, q_t, q_f, Bool.not_true, Bool.not_false, b_add, b_sub, b_mul, b_eql, b_neq, b_lss, b_leq, b_gtr, b_geq, b_and, b_or, b_xor, b_quo, b_rem, b_shl, b_shr, unA, Option.map_some, Option.map_none, resA, tupA, Int.reduceLT, not_false_eq_true, not_true_eq_false, decide_true, decide_false, f_bool, c_bool, f_int, c_int, f_str, c_str, f_nilptr, c_nilptr, f_ptr, c_ptr, f_nilsl, c_nilsl, f_slice, c_slice, f_nilmap, c_nilmap, f_map, c_map, f_nilf, c_nilf, f_func, c_func, f_yieldf, c_yieldf, f_nilif, c_nilif, f_iface, c_iface, c_agg, List.all_cons, List.all_nil, Bool.and_true, Bool.true_and, if_true, if_false, ite_true, ite_false]
  · generalize hn : rows.length = n at *
    have hb0 : b0 < h.next := Heap.lt_of_get e3
    have hT : Sh20 (.slice b0 0 n cap false 3) .nilsl n 0 [.ptr id 0, undefA, .nilsl, .nilsl, undefA, undefA, .ptr id 0, .bool false, .ptr id 0, .ptr id 0, .ptr id 0, .slice b0 0 n cap false 3, .int .i64 (n : Nat), .int .i64 0, undefA, undefA, undefA, undefA, undefA, undefA, undefA, undefA, undefA, undefA] := ⟨rfl, rfl, rfl, rfl, rfl⟩
    obtain ⟨tm1, h1, out, bo, orows, e1, s1, sh1, fr1, x1, x2, x3⟩ := loop20 hb0 hn.symm hs' hrows n6 hok (by omega) n 0 h .nilsl h.next [] _ (by omega) hT ⟨fun r h => (by cases h), .inl ⟨rfl, rfl⟩⟩ (.nil (Nat.le_refl _)) (Nat.le_refl _) (fun _ _ => rfl) (Nat.le_refl _)
    obtain ⟨tm2, e5, e6⟩ := tail20_spec (h := h1) s1
    refine ⟨out, h1, bo, orows, ?_, ⟨x1, x2⟩, sh1, fr1, x3⟩
    rw [x_fn rfl (show tab 20 = some ⟨24, [.tmp 2], sf20.body⟩ from rfl), body20_eq]
    have e5' := e5
    generalize htl : (SC.seq (.ops [⟨some 23, .mov (.t 3), none⟩, ⟨some 2, .mov (.t 23), none⟩]) (.ret)) = tl at e5' ⊢
    simp (decide := true) only [note_false, x_drawn, l_nil, l_op, l_guard, l_some, l_true, l_false, l_draw, readsA, x_true, x_false, x_seq, x_ops, x_cond, x_skip, x_ret, x_exit, x_block, x_then, x_thenE, x_thenR, x_blockN, x_blockR, x_blockE, s_nil, s_op, s_guard, s_some, s_true, s_false, s_put, s_put0, s_opsR, s_ret, s_norm, aop, ev, evs, List.map_cons, List.map_nil, List.cons_append, List.nil_append, List.append_nil, List.replicate, List.take_succ_cons, List.take_zero, List.take_nil, List.drop_succ_cons, List.drop_zero, List.drop_nil, Nat.zero_add, Nat.add_zero, Nat.reduceAdd, Nat.reduceMul, Nat.reduceLeDiff, Bool.false_eq_true, and_self, List.length_cons, List.length_nil, List.set_cons_zero, List.set_cons_succ, List.getD_cons_zero, List.getD_cons_succ, wantedA, List.getElem?_cons_zero, List.getElem?_cons_succ, q_t, q_f, Bool.not_true, Bool.not_false, b_add, b_sub, b_mul, b_eql, b_neq, b_lss, b_leq, b_gtr, b_geq, b_and, b_or, b_xor, b_quo, b_rem, b_shl, b_shr, unA, Option.map_some, Option.map_none, resA, tupA, Int.reduceLT, not_false_eq_true, not_true_eq_false, decide_true, decide_false, f_bool, c_bool, f_int, c_int, f_str, c_str, f_nilptr, c_nilptr, f_ptr, c_ptr, f_nilsl, c_nilsl, f_slice, c_slice, f_nilmap, c_nilmap, f_map, c_map, f_nilf, c_nilf, f_func, c_func, f_yieldf, c_yieldf, f_nilif, c_nilif, f_iface, c_iface, c_agg, List.all_cons, List.all_nil, Bool.and_true, Bool.true_and, if_true, if_false, ite_true, ite_false, none21 hg, L0, e1, e5', e6]

end Go.Proofs.Ytdgpjefbdocepaa.Ya
