/-
  Net: the law's flies.
-/
import Derived.Test.YtdgpjefbdocepaaYaNetFly
namespace Go.Proofs.Ytdgpjefbdocepaa.Ya
open Go.Ya
set_option linter.unusedVariables false
set_option linter.unusedSimpArgs false
set_option maxRecDepth 100000
set_option maxHeartbeats 4000000

def body19 : SC := (.seq (.seq (.ops [⟨some 27, .mov (.t 6), none⟩, ⟨some 28, .mov (.t 5), none⟩, ⟨some 29, .len (.sl) (.t 28), none⟩, ⟨some 30, .bin (.lss) (.other) (.t 27) (.t 29), none⟩]) (.cond (.t 30) (.skip) (.exit 0))) (.seq (.block 1 (.seq (.seq (.ops [⟨some 33, .mov (.t 5), none⟩, ⟨some 34, .mov (.t 6), none⟩, ⟨some 35, .idxAddrSl 3 (.t 33) (.t 34), none⟩, ⟨some 36, .load true 3 (.t 35), none⟩, ⟨some 37, .mov (.t 1), none⟩, ⟨some 38, .nilChk (.t 37), none⟩, ⟨some 39, .fieldAddr 0 (.t 38), none⟩, ⟨some 40, .load false 1 (.t 39), none⟩, ⟨some 41, .mov (.t 6), none⟩, ⟨some 42, .idxAddrSl 3 (.t 40) (.t 41), none⟩, ⟨some 43, .load true 3 (.t 42), none⟩, ⟨some 44, .call 18 [.t 36, .t 43], none⟩, ⟨some 45, .un (.not) (.t 44), none⟩]) (.cond (.t 45) (.seq (.ops [⟨some 4, .mov (.c (.bool false)), none⟩]) (.ret)) (.skip))) (.ops [⟨some 46, .mov (.t 5), none⟩, ⟨some 47, .mov (.t 6), none⟩, ⟨some 48, .idxAddrSl 3 (.t 46) (.t 47), none⟩, ⟨some 49, .fieldAddr 2 (.t 48), none⟩, ⟨some 50, .load false 1 (.t 49), none⟩, ⟨some 51, .call 14 [.t 50, .c (.int (.u8) 3)], none⟩]))) (.ops [⟨some 31, .mov (.t 6), none⟩, ⟨some 32, .bin (.add) (.other) (.t 31) (.c (.int (.i64) 1)), none⟩, ⟨some 6, .mov (.t 32), none⟩])))
def tail19 : SC := (.seq (.ops [⟨some 4, .mov (.c (.bool true)), none⟩]) (.ret))
theorem body19_eq : sf19.body = .seq (.ops [⟨some 4, .mov (.c (.bool false)), none⟩]) (.seq (.ops [⟨some 7, .mov (.t 0), none⟩, ⟨some 8, .call 20 [.t 7], none⟩, ⟨some 5, .mov (.t 8), none⟩]) (.seq (.seq (.drawOps [⟨some 9, .mov (.t 5), none⟩, ⟨some 10, .len (.sl) (.t 9), none⟩, ⟨some 11, .mov (.t 1), none⟩, ⟨some 12, .nilChk (.t 11), none⟩, ⟨some 13, .fieldAddr 0 (.t 12), none⟩, ⟨some 14, .load false 1 (.t 13), none⟩, ⟨some 15, .len (.sl) (.t 14), none⟩, ⟨some 16, .bin (.neq) (.other) (.t 10) (.t 15), none⟩, ⟨some 17, .mov (.t 16), none⟩, ⟨some 18, .mov (.t 0), some (17, false)⟩, ⟨some 19, .call 9 [.t 18], some (17, false)⟩, ⟨some 20, .mov (.t 1), some (17, false)⟩, ⟨some 21, .nilChk (.t 20), some (17, false)⟩, ⟨some 22, .fieldAddr 0 (.t 21), some (17, false)⟩, ⟨some 23, .load false 1 (.t 22), some (17, false)⟩, ⟨some 24, .len (.sl) (.t 23), some (17, false)⟩, ⟨some 25, .bin (.neq) (.other) (.t 19) (.t 24), some (17, false)⟩, ⟨some 26, .pick (.t 17) (.c (.bool true)) (.t 25), none⟩] [(14, 10)]) (.cond (.t 26) (.seq (.ops [⟨some 4, .mov (.c (.bool false)), none⟩]) (.ret)) (.skip))) (.seq (.seq (.ops [⟨some 6, .mov (.c (.int (.i64) 0)), none⟩]) (.block 0 (.loop body19))) tail19))) := rfl
def Sh19 (r : Nat) (out : AV) (i : Nat) (tm : List AV) : Prop := tm.length = 52 ∧ tm[1]? = some (.ptr r 0) ∧ tm[5]? = some out ∧ tm[6]? = some (.int .i64 (i : Nat))
theorem round19 {h : Heap} {r bo br i n capo capr lo mid : Nat} {rows rrows : List (List AV)} {m : Msg} {v v' : AV} {tm : List AV} (ht : Sh19 r (.slice bo 0 n capo false 3) i tm) (hn : n = rows.length) (hn2 : n = rrows.length)
    (hs : ShAt 3 h (.slice bo 0 n capo false 3) bo rows) (hi : rows[i]? = some [.int .i64 m.client, .bool m.back, v]) (hg : h.get r = some (.cells [.slice br 0 n capr false 3] false))
    (hs2 : ShAt 3 h (.slice br 0 n capr false 3) br rrows) (hi2 : rrows[i]? = some [.int .i64 m.client, .bool m.back, v']) (hbt : BytesAt h v' m.bytes) (hfb : FB h v m.bytes lo mid bo) (hmid : mid ≤ h.next) (hn64 : n ≤ 1000) :
    ∃ tm' h', xcode X1 tab 19 none (.loop body19) tm h = xcode X1 tab 19 none (.loop body19) tm' h' ∧ Sh19 r (.slice bo 0 n capo false 3) (i + 1) tm' ∧ h.next ≤ h'.next ∧ ∀ j, j < h.next → (j < lo ∨ mid ≤ j ∨ j = bo) → h'.get j = h.get j := by
  match tm, ht with
  | a0 :: a1 :: a2 :: a3 :: a4 :: a5 :: a6 :: a7 :: a8 :: a9 :: a10 :: a11 :: a12 :: a13 :: a14 :: a15 :: a16 :: a17 :: a18 :: a19 :: a20 :: a21 :: a22 :: a23 :: a24 :: a25 :: a26 :: a27 :: a28 :: a29 :: a30 :: a31 :: a32 :: a33 :: a34 :: a35 :: a36 :: a37 :: a38 :: a39 :: a40 :: a41 :: a42 :: a43 :: a44 :: a45 :: a46 :: a47 :: a48 :: a49 :: a50 :: a51 :: [], ht =>
  obtain ⟨_, t1, t5, t6⟩ := ht
  simp only [List.getElem?_cons_zero, List.getElem?_cons_succ, Option.some.injEq] at t1 t5 t6
  replace t1 := t1.symm; replace t5 := t5.symm; replace t6 := t6.symm
  subst t1 t5 t6
  obtain ⟨cap', hsl, ld, ld1, hilt⟩ := hs.load hi
  obtain ⟨cap2', hsl2, ld2, _, hilt2⟩ := hs2.load hi2
  have hbv : BytesAt h v m.bytes := (hfb.sp (F := fun _ => False) fun _ _ _ _ e => e).at
  obtain ⟨h1, e1, g1⟩ := same18 (m := m) (n := m) ⟨v, rfl, hbv⟩ ⟨v', rfl, hbt⟩
  simp only [beq_self_eq_true, Bool.and_self] at e1
  have fb1 : FB h1 v m.bytes lo mid bo := hfb.keep fun j j1 j2 _ => g1.2 j (by omega)
  obtain ⟨h2, e2, k1, k2, _⟩ := spoil14 (fb1.sp (F := fun j => mid ≤ j ∨ j = bo) fun j j1 j2 j3 e => by omega) 3
  have hs1 : ShAt 3 h1 (.slice bo 0 n capo false 3) bo rows := hs.keep fun o e => g1.get e
  obtain ⟨_, _, _, ld3, _⟩ := hs1.load hi
  have ld4 := ld3 2 v rfl
  have q0 := g1.1
  have hw : IntKind.i64.wrap ((i : Int) + 1) = ((i + 1 : Nat) : Int) := by
    rw [IntWalk.i64_in _ (by omega)]; simp
  have hlt : (i : Int) < (n : Int) := by omega
  have h0 : (0 : Int) ≤ (i : Int) ∧ (i : Int) < (n : Int) := by omega
  have n0 : 0 + (i : Int).toNat * 3 = i * 3 := by omega
  have L0 : loadA h false 1 r 0 = some (.slice br 0 n capr false 3) := by rw [load_of hg]; rfl
  refine ⟨?tm, h2, ?run, ?sh, by omega, fun j j1 j2 => by rw [k2 j (by omega), g1.2 j j1]⟩
  case run =>
    rw [show ∀ tm h, xcode X1 tab 19 none (.loop body19) tm h = thenX X1 tab 19 none (.loop body19) (xcode X1 tab 19 none body19 tm h) from fun _ _ => x_loop]
    delta body19
    simp (decide := true) only [note_false, x_drawn, l_nil, l_op, l_guard, l_some, l_true, l_false, l_draw, readsA, x_true, x_false, x_seq, x_ops, x_cond, x_skip, x_ret, x_exit, x_block, x_then, x_thenE, x_thenR, x_blockN, x_blockR, x_blockE, s_nil, s_op, s_guard, s_some, s_true, s_false, s_put, s_put0, s_opsR, s_ret, s_norm, aop, ev, evs, List.map_cons, List.map_nil, List.cons_append, List.nil_append, List.append_nil, List.replicate, List.take_succ_cons, List.take_zero, List.take_nil, List.drop_succ_cons, List.drop_zero, List.drop_nil, Nat.zero_add, Nat.add_zero, Nat.reduceAdd, Nat.reduceMul, Nat.reduceLeDiff, Bool.false_eq_true, and_self, List.length_cons, List.length_nil, List.set_cons_zero, List.set_cons_succ, List.getD_cons_zero, List.getD_cons_succ, wantedA, List.getElem?_cons_zero, List.getElem?_cons_succ, q_t, q_f, Bool.not_true, Bool.not_false, b_add, b_sub, b_mul, b_eql, b_neq, b_lss, b_leq, b_gtr, b_geq, b_and, b_or, b_xor, b_quo, b_rem, b_shl, b_shr, unA, Option.map_some, Option.map_none, resA, tupA, Int.reduceLT, not_false_eq_true, not_true_eq_false, decide_true, decide_false, f_bool, c_bool, f_int, c_int, f_str, c_str, f_nilptr, c_nilptr, f_ptr, c_ptr, f_nilsl, c_nilsl, f_slice, c_slice, f_nilmap, c_nilmap, f_map, c_map, f_nilf, c_nilf, f_func, c_func, f_yieldf, c_yieldf, f_nilif, c_nilif, f_iface, c_iface, c_agg, List.all_cons, List.all_nil, Bool.and_true, Bool.true_and, if_true, if_false, ite_true, ite_false, hlt, hw, h0, n0, ld, ld2, ld4, L0, e1, e2]
    rfl
  case sh => exact ⟨rfl, rfl, rfl, rfl⟩
theorem out19 {h : Heap} {r bo : Nat} {out : AV} {rows : List (List AV)} {tm : List AV} (ht : Sh19 r out rows.length tm) (hs : ShAt 3 h out bo rows) :
    ∃ tm', xcode X1 tab 19 none (.loop body19) tm h = some (.exit 0, tm', h) ∧ tm'.length = 52 := by
  rcases hs.2 with ⟨rfl, rfl⟩ | ⟨cap, rest, rfl, _⟩
  · match tm, ht with
    | a0 :: a1 :: a2 :: a3 :: a4 :: a5 :: a6 :: a7 :: a8 :: a9 :: a10 :: a11 :: a12 :: a13 :: a14 :: a15 :: a16 :: a17 :: a18 :: a19 :: a20 :: a21 :: a22 :: a23 :: a24 :: a25 :: a26 :: a27 :: a28 :: a29 :: a30 :: a31 :: a32 :: a33 :: a34 :: a35 :: a36 :: a37 :: a38 :: a39 :: a40 :: a41 :: a42 :: a43 :: a44 :: a45 :: a46 :: a47 :: a48 :: a49 :: a50 :: a51 :: [], ht =>
    obtain ⟨_, t1, t5, t6⟩ := ht
    simp only [List.getElem?_cons_zero, List.getElem?_cons_succ, Option.some.injEq] at t1 t5 t6
    replace t1 := t1.symm; replace t5 := t5.symm; replace t6 := t6.symm
    subst t1 t5 t6
    refine ⟨?tmA, ?runA, ?shA⟩
    case runA =>
      rw [show ∀ tm h, xcode X1 tab 19 none (.loop body19) tm h = thenX X1 tab 19 none (.loop body19) (xcode X1 tab 19 none body19 tm h) from fun _ _ => x_loop]
      delta body19
      simp (decide := true) only [note_false, x_drawn, l_nil, l_op, l_guard, l_some, l_true, l_false, l_draw, readsA, x_true, x_false, x_seq, x_ops, x_cond, x_skip, x_ret, x_exit, x_block, x_then, x_thenE, x_thenR, x_blockN, x_blockR, x_blockE, s_nil, s_op, s_guard, s_some, s_true, s_false, s_put, s_put0, s_opsR, s_ret, s_norm, aop, ev, evs, List.map_cons, List.map_nil, List.cons_append, List.nil_append, List.append_nil, List.replicate, List.take_succ_cons, List.take_zero, List.take_nil, List.drop_succ_cons, List.drop_zero, List.drop_nil, Nat.zero_add, Nat.add_zero, Nat.reduceAdd, Nat.reduceMul, Nat.reduceLeDiff, Bool.false_eq_true, and_self, List.length_cons, List.length_nil, List.set_cons_zero, List.set_cons_succ, List.getD_cons_zero, List.getD_cons_succ, wantedA, List.getElem?_cons_zero, List.getElem?_cons_succ, q_t, q_f, Bool.not_true, Bool.not_false, b_add, b_sub, b_mul, b_eql, b_neq, b_lss, b_leq, b_gtr, b_geq, b_and, b_or, b_xor, b_quo, b_rem, b_shl, b_shr, unA, Option.map_some, Option.map_none, resA, tupA, Int.reduceLT, not_false_eq_true, not_true_eq_false, decide_true, decide_false, f_bool, c_bool, f_int, c_int, f_str, c_str, f_nilptr, c_nilptr, f_ptr, c_ptr, f_nilsl, c_nilsl, f_slice, c_slice, f_nilmap, c_nilmap, f_map, c_map, f_nilf, c_nilf, f_func, c_func, f_yieldf, c_yieldf, f_nilif, c_nilif, f_iface, c_iface, c_agg, List.all_cons, List.all_nil, Bool.and_true, Bool.true_and, if_true, if_false, ite_true, ite_false, Int.lt_irrefl]
      rfl
    case shA => rfl
  · match tm, ht with
    | a0 :: a1 :: a2 :: a3 :: a4 :: a5 :: a6 :: a7 :: a8 :: a9 :: a10 :: a11 :: a12 :: a13 :: a14 :: a15 :: a16 :: a17 :: a18 :: a19 :: a20 :: a21 :: a22 :: a23 :: a24 :: a25 :: a26 :: a27 :: a28 :: a29 :: a30 :: a31 :: a32 :: a33 :: a34 :: a35 :: a36 :: a37 :: a38 :: a39 :: a40 :: a41 :: a42 :: a43 :: a44 :: a45 :: a46 :: a47 :: a48 :: a49 :: a50 :: a51 :: [], ht =>
    obtain ⟨_, t1, t5, t6⟩ := ht
    simp only [List.getElem?_cons_zero, List.getElem?_cons_succ, Option.some.injEq] at t1 t5 t6
    replace t1 := t1.symm; replace t5 := t5.symm; replace t6 := t6.symm
    subst t1 t5 t6
    refine ⟨?tmB, ?runB, ?shB⟩
    case runB =>
      rw [show ∀ tm h, xcode X1 tab 19 none (.loop body19) tm h = thenX X1 tab 19 none (.loop body19) (xcode X1 tab 19 none body19 tm h) from fun _ _ => x_loop]
      delta body19
      simp (decide := true) only [note_false, x_drawn, l_nil, l_op, l_guard, l_some, l_true, l_false, l_draw, readsA, x_true, x_false, x_seq, x_ops, x_cond, x_skip, x_ret, x_exit, x_block, x_then, x_thenE, x_thenR, x_blockN, x_blockR, x_blockE, s_nil, s_op, s_guard, s_some, s_true, s_false, s_put, s_put0, s_opsR, s_ret, s_norm, aop, ev, evs, List.map_cons, List.map_nil, List.cons_append, List.nil_append, List.append_nil, List.replicate, List.take_succ_cons, List.take_zero, List.take_nil, List.drop_succ_cons, List.drop_zero, List.drop_nil, Nat.zero_add, Nat.add_zero, Nat.reduceAdd, Nat.reduceMul, Nat.reduceLeDiff, Bool.false_eq_true, and_self, List.length_cons, List.length_nil, List.set_cons_zero, List.set_cons_succ, List.getD_cons_zero, List.getD_cons_succ, wantedA, List.getElem?_cons_zero, List.getElem?_cons_succ, q_t, q_f, Bool.not_true, Bool.not_false, b_add, b_sub, b_mul, b_eql, b_neq, b_lss, b_leq, b_gtr, b_geq, b_and, b_or, b_xor, b_quo, b_rem, b_shl, b_shr, unA, Option.map_some, Option.map_none, resA, tupA, Int.reduceLT, not_false_eq_true, not_true_eq_false, decide_true, decide_false, f_bool, c_bool, f_int, c_int, f_str, c_str, f_nilptr, c_nilptr, f_ptr, c_ptr, f_nilsl, c_nilsl, f_slice, c_slice, f_nilmap, c_nilmap, f_map, c_map, f_nilf, c_nilf, f_func, c_func, f_yieldf, c_yieldf, f_nilif, c_nilif, f_iface, c_iface, c_agg, List.all_cons, List.all_nil, Bool.and_true, Bool.true_and, if_true, if_false, ite_true, ite_false, Int.lt_irrefl]
      rfl
    case shB => rfl
theorem loop19 {r bo br n capo capr hi lo0 : Nat} {Q : Nat → Prop} {rows rrows : List (List AV)} {l : List Msg} (hn : n = rows.length) (hn2 : n = rrows.length) (hn64 : n ≤ 1000) (hr0 : r < lo0) (hbr : br < lo0) (hQ : ∀ j, Q j → j < lo0) :
    ∀ (todo : List (List AV)) (ltodo : List Msg) (i : Nat) (lo : Nat) (h : Heap) (tm : List AV), rows.drop i = todo → l.drop i = ltodo → i + todo.length = n → lo0 ≤ lo → hi ≤ h.next → Sh19 r (.slice bo 0 n capo false 3) i tm →
      ShAt 3 h (.slice bo 0 n capo false 3) bo rows → h.get r = some (.cells [.slice br 0 n capr false 3] false) → ShAt 3 h (.slice br 0 n capr false 3) br rrows → Rows2 h Q rrows l → FRows h bo lo hi todo ltodo →
    ∃ tm' h', xcode X1 tab 19 none (.loop body19) tm h = some (.exit 0, tm', h') ∧ tm'.length = 52 ∧ h.next ≤ h'.next ∧ ∀ j, j < lo0 → h'.get j = h.get j := by
  intro todo
  induction todo with
  | nil =>
    intro ltodo i lo h tm hd hd2 hl hlo hhi ht hs hg hs2 hr2 hf
    simp only [List.length_nil, Nat.add_zero] at hl
    have ht2 : Sh19 r (.slice bo 0 n capo false 3) rows.length tm := by rw [← hn, ← hl]; rw [← hl] at ht; exact ht
    obtain ⟨tm', e, e2⟩ := out19 (h := h) (bo := bo) ht2 hs
    exact ⟨tm', h, e, e2, Nat.le_refl _, fun _ _ => rfl⟩
  | cons row todo ih =>
    intro ltodo i lo h tm hd hd2 hl hlo hhi ht hs hg hs2 hr2 hf
    cases hf with
    | @cons _ mid _ v m _ ms hle hfb hrest =>
      simp only [List.length_cons] at hl
      have hri : rows[i]? = some [.int .i64 m.client, .bool m.back, v] := by
        have := congrArg (fun x => x[0]?) hd
        simpa using this
      have hli : l[i]? = some m := by
        have := congrArg (fun x => x[0]?) hd2
        simpa using this
      obtain ⟨row2, hrow2, v', hv', hob⟩ := hr2.get hli
      subst hv'
      have hml := hrest.le
      obtain ⟨tm', h', e, ht', x1, x2⟩ := round19 ht hn hn2 hs hri hg hs2 hrow2 hob.at hfb (by omega) hn64
      have hbo := Heap.lt_of_get hg
      have hsb : bo < h.next ∨ rows = [] := by
        rcases hs.2 with ⟨e, _⟩ | ⟨_, _, _, _, k, _⟩
        · cases e
        · exact .inl (Heap.lt_of_get k)
      have hbo' : bo < h.next := hsb.resolve_right (fun e => by rw [e] at hri; simp at hri)
      have hbrr : br < h.next := by
        rcases hs2.2 with ⟨e, _⟩ | ⟨_, _, _, _, k, _⟩
        · cases e
        · exact Heap.lt_of_get k
      obtain ⟨tm2, h2, e2, e3, e4, e5⟩ := ih ms (i + 1) mid h' tm' (by
          have := congrArg List.tail hd; simpa using this) (by
          have := congrArg List.tail hd2; simpa using this) (by omega) (by omega) (by omega) ht' (hs.keep fun o ho => (x2 bo hbo' (.inr (.inr rfl))).trans ho) ((x2 r hbo (.inl (by omega))).trans hg)
        (hs2.keep fun o ho => (x2 br hbrr (.inl (by omega))).trans ho) (hr2.mono (fun j hq => hq) fun j hq => by
          have := hQ j hq
          by_cases hj : j < h.next
          · exact x2 j hj (.inl (by omega))
          · omega) (hrest.keep fun j j1 j2 _ => x2 j (by omega) (.inr (.inl j1)))
      refine ⟨tm2, h2, e.trans e2, e3, by omega, fun j hj => ?_⟩
      by_cases hj2 : j < h.next
      · rw [e5 j hj, x2 j hj2 (.inl (by omega))]
      · omega
theorem tail19_spec {h : Heap} {tm : List AV} (hl : tm.length = 52) : ∃ tm', xcode X1 tab 19 none tail19 tm h = some (.ret, tm', h) ∧ tm'.getD 4 undefA = .bool true := by
  refine ⟨tm.set 4 (.bool true), ?_, ?_⟩
  · delta tail19
    simp only [note_false, x_drawn, l_nil, l_op, l_guard, l_some, l_true, l_false, l_draw, readsA, x_true, x_false, x_seq, x_ops, x_cond, x_skip, x_ret, x_exit, x_block, x_then, x_thenE, x_thenR, x_blockN, x_blockR, x_blockE, s_nil, s_op, s_guard, s_some, s_true, s_false, s_put, s_put0, s_opsR, s_ret, s_norm, aop, ev, evs, List.map_cons, List.map_nil, List.cons_append, List.nil_append, List.append_nil, List.replicate, List.take_succ_cons, List.take_zero, List.take_nil, List.drop_succ_cons, List.drop_zero, List.drop_nil, Nat.zero_add, Nat.add_zero, Nat.reduceAdd, Nat.reduceMul, Nat.reduceLeDiff, Bool.false_eq_true, and_self, List.length_cons, List.length_nil, List.set_cons_zero, List.set_cons_succ, List.getD_cons_zero, List.getD_cons_succ, wantedA, List.getElem?_cons_zero, List.getElem?_cons_succ, q_t, q_f, Bool.not_true, Bool.not_false, b_add, b_sub, b_mul, b_eql, b_neq, b_lss, b_leq, b_gtr, b_geq, b_and, b_or, b_xor, b_quo, b_rem, b_shl, b_shr, unA, Option.map_some, Option.map_none, resA, tupA, Int.reduceLT, not_false_eq_true, not_true_eq_false, decide_true, decide_false, f_bool, c_bool, f_int, c_int, f_str, c_str, f_nilptr, c_nilptr, f_ptr, c_ptr, f_nilsl, c_nilsl, f_slice, c_slice, f_nilmap, c_nilmap, f_map, c_map, f_nilf, c_nilf, f_func, c_func, f_yieldf, c_yieldf, f_nilif, c_nilif, f_iface, c_iface, c_agg, List.all_cons, List.all_nil, Bool.and_true, Bool.true_and, if_true, if_false, ite_true, ite_false]
  · rw [List.getD_eq_getElem?_getD, List.getElem?_set_self (by omega)]; rfl

/-- flies: what flies is the same; nothing old is touched. -/
theorem flies19 {h : Heap} {n r : Nat} {l : List Msg} {F R : Nat → Prop} (hf : ObF [.bool true] h n l F) (hr : ObF [] h r l R) (hl : l.length ≤ 64) (hok : ∀ m ∈ l, ¬ Bad m) :
    ∃ h', xcall X1 tab (.fn 19) [.ptr n 0, .ptr r 0] h = some (.bool true, h') ∧ Grow h h' := by
  obtain ⟨out, h1, bo, rows, e1, g1, hs, hfr, hbo⟩ := flying20 hf hl hok
  obtain ⟨b, Q, ho, _⟩ := hr.at
  have ho1 := ho.grow g1
  obtain ⟨b', Q', hon, _⟩ := (hf.grow g1).at
  have l9 := len9 hon
  obtain ⟨sl, b0, rrows, hg, hs2, hrl, hrows, nb1, nb2, nb3⟩ := ho.rows
  have hg1 := g1.get hg
  have hfl := hfr.len
  have L0 : loadA h1 false 1 r 0 = some sl := by rw [load_of hg1]; rfl
  obtain ⟨o1, _, _, _, _, o6, _⟩ := ho
  have hne : ((l.length : Int) != (l.length : Int)) = false := by simp
  have hne0 : ((0 : Int) != 0) = false := rfl
  -- an empty one
  by_cases hl0 : l = []
  · subst hl0
    have hr0 : rows = [] := List.eq_nil_of_length_eq_zero (by rw [hfl]; rfl)
    have hrr0 : rrows = [] := List.eq_nil_of_length_eq_zero (by rw [hrl]; rfl)
    subst hr0 hrr0
    have key : ∀ tm, Sh19 r out 0 tm → ∃ tm', xcode X1 tab 19 none (.loop body19) tm h1 = some (.exit 0, tm', h1) ∧ tm'.length = 52 := fun tm ht => out19 (rows := []) ht hs
    rcases hs.2 with ⟨rfl, _⟩ | ⟨cap, rest, rfl, _, _, _⟩ <;> rcases hs2.2 with ⟨rfl, _⟩ | ⟨cap2, rest2, rfl, _, _, _⟩
    · obtain ⟨tm1, e5, e6⟩ := key [.ptr n 0, .ptr r 0, undefA, undefA, .bool false, .nilsl, .int .i64 0, .ptr n 0, .nilsl, .nilsl, .int .i64 0, .ptr r 0, .ptr r 0, .ptr r 0, .nilsl, .int .i64 0, .bool false, .bool false, .ptr n 0, .int .i64 0, .ptr r 0, .ptr r 0, .ptr r 0, .nilsl, .int .i64 0, .bool false, .bool false, undefA, undefA, undefA, undefA, undefA, undefA, undefA, undefA, undefA, undefA, undefA, undefA, undefA, undefA, undefA, undefA, undefA, undefA, undefA, undefA, undefA, undefA, undefA, undefA, undefA] ⟨rfl, rfl, rfl, rfl⟩
      obtain ⟨tm2, e7, e8⟩ := tail19_spec (h := h1) e6
      refine ⟨h1, ?_, g1⟩
      rw [x_fn rfl (show tab 19 = some ⟨52, [.tmp 4], sf19.body⟩ from rfl), body19_eq]
      simp only [List.length_nil, Int.ofNat_zero] at l9 e5
      simp (decide := true) only [note_false, x_drawn, l_nil, l_op, l_guard, l_some, l_true, l_false, l_draw, readsA, x_true, x_false, x_seq, x_ops, x_cond, x_skip, x_ret, x_exit, x_block, x_then, x_thenE, x_thenR, x_blockN, x_blockR, x_blockE, s_nil, s_op, s_guard, s_some, s_true, s_false, s_put, s_put0, s_opsR, s_ret, s_norm, aop, ev, evs, List.map_cons, List.map_nil, List.cons_append, List.nil_append, List.append_nil, List.replicate, List.take_succ_cons, List.take_zero, List.take_nil, List.drop_succ_cons, List.drop_zero, List.drop_nil, Nat.zero_add, Nat.add_zero, Nat.reduceAdd, Nat.reduceMul, Nat.reduceLeDiff, Bool.false_eq_true, and_self, List.length_cons, List.length_nil, List.set_cons_zero, List.set_cons_succ, List.getD_cons_zero, List.getD_cons_succ, wantedA, List.getElem?_cons_zero, List.getElem?_cons_succ, q_t, q_f, Bool.not_true, Bool.not_false, b_add, b_sub, b_mul, b_eql, b_neq, b_lss, b_leq, b_gtr, b_geq, b_and, b_or, b_xor, b_quo, b_rem, b_shl, b_shr, unA, Option.map_some, Option.map_none, resA, tupA, Int.reduceLT, not_false_eq_true, not_true_eq_false, decide_true, decide_false, f_bool, c_bool, f_int, c_int, f_str, c_str, f_nilptr, c_nilptr, f_ptr, c_ptr, f_nilsl, c_nilsl, f_slice, c_slice, f_nilmap, c_nilmap, f_map, c_map, f_nilf, c_nilf, f_func, c_func, f_yieldf, c_yieldf, f_nilif, c_nilif, f_iface, c_iface, c_agg, List.all_cons, List.all_nil, Bool.and_true, Bool.true_and, if_true, if_false, ite_true, ite_false, e1, L0, l9, hne0, Int.ofNat_zero, chkLog, same_cells, hg1, e5, e7, e8]
    · obtain ⟨tm1, e5, e6⟩ := key [.ptr n 0, .ptr r 0, undefA, undefA, .bool false, .nilsl, .int .i64 0, .ptr n 0, .nilsl, .nilsl, .int .i64 0, .ptr r 0, .ptr r 0, .ptr r 0, .slice b0 0 ([] : List (List AV)).length cap2 false 3, .int .i64 0, .bool false, .bool false, .ptr n 0, .int .i64 0, .ptr r 0, .ptr r 0, .ptr r 0, .slice b0 0 ([] : List (List AV)).length cap2 false 3, .int .i64 0, .bool false, .bool false, undefA, undefA, undefA, undefA, undefA, undefA, undefA, undefA, undefA, undefA, undefA, undefA, undefA, undefA, undefA, undefA, undefA, undefA, undefA, undefA, undefA, undefA, undefA, undefA, undefA] ⟨rfl, rfl, rfl, rfl⟩
      obtain ⟨tm2, e7, e8⟩ := tail19_spec (h := h1) e6
      refine ⟨h1, ?_, g1⟩
      rw [x_fn rfl (show tab 19 = some ⟨52, [.tmp 4], sf19.body⟩ from rfl), body19_eq]
      simp only [List.length_nil, Int.ofNat_zero] at l9 e5
      simp (decide := true) only [note_false, x_drawn, l_nil, l_op, l_guard, l_some, l_true, l_false, l_draw, readsA, x_true, x_false, x_seq, x_ops, x_cond, x_skip, x_ret, x_exit, x_block, x_then, x_thenE, x_thenR, x_blockN, x_blockR, x_blockE, s_nil, s_op, s_guard, s_some, s_true, s_false, s_put, s_put0, s_opsR, s_ret, s_norm, aop, ev, evs, List.map_cons, List.map_nil, List.cons_append, List.nil_append, List.append_nil, List.replicate, List.take_succ_cons, List.take_zero, List.take_nil, List.drop_succ_cons, List.drop_zero, List.drop_nil, Nat.zero_add, Nat.add_zero, Nat.reduceAdd, Nat.reduceMul, Nat.reduceLeDiff, Bool.false_eq_true, and_self, List.length_cons, List.length_nil, List.set_cons_zero, List.set_cons_succ, List.getD_cons_zero, List.getD_cons_succ, wantedA, List.getElem?_cons_zero, List.getElem?_cons_succ, q_t, q_f, Bool.not_true, Bool.not_false, b_add, b_sub, b_mul, b_eql, b_neq, b_lss, b_leq, b_gtr, b_geq, b_and, b_or, b_xor, b_quo, b_rem, b_shl, b_shr, unA, Option.map_some, Option.map_none, resA, tupA, Int.reduceLT, not_false_eq_true, not_true_eq_false, decide_true, decide_false, f_bool, c_bool, f_int, c_int, f_str, c_str, f_nilptr, c_nilptr, f_ptr, c_ptr, f_nilsl, c_nilsl, f_slice, c_slice, f_nilmap, c_nilmap, f_map, c_map, f_nilf, c_nilf, f_func, c_func, f_yieldf, c_yieldf, f_nilif, c_nilif, f_iface, c_iface, c_agg, List.all_cons, List.all_nil, Bool.and_true, Bool.true_and, if_true, if_false, ite_true, ite_false, e1, L0, l9, hne0, Int.ofNat_zero, chkLog, same_cells, hg1, e5, e7, e8]
    · obtain ⟨tm1, e5, e6⟩ := key [.ptr n 0, .ptr r 0, undefA, undefA, .bool false, .slice bo 0 ([] : List (List AV)).length cap false 3, .int .i64 0, .ptr n 0, .slice bo 0 ([] : List (List AV)).length cap false 3, .slice bo 0 ([] : List (List AV)).length cap false 3, .int .i64 0, .ptr r 0, .ptr r 0, .ptr r 0, .nilsl, .int .i64 0, .bool false, .bool false, .ptr n 0, .int .i64 0, .ptr r 0, .ptr r 0, .ptr r 0, .nilsl, .int .i64 0, .bool false, .bool false, undefA, undefA, undefA, undefA, undefA, undefA, undefA, undefA, undefA, undefA, undefA, undefA, undefA, undefA, undefA, undefA, undefA, undefA, undefA, undefA, undefA, undefA, undefA, undefA, undefA] ⟨rfl, rfl, rfl, rfl⟩
      obtain ⟨tm2, e7, e8⟩ := tail19_spec (h := h1) e6
      refine ⟨h1, ?_, g1⟩
      rw [x_fn rfl (show tab 19 = some ⟨52, [.tmp 4], sf19.body⟩ from rfl), body19_eq]
      simp only [List.length_nil, Int.ofNat_zero] at l9 e5
      simp (decide := true) only [note_false, x_drawn, l_nil, l_op, l_guard, l_some, l_true, l_false, l_draw, readsA, x_true, x_false, x_seq, x_ops, x_cond, x_skip, x_ret, x_exit, x_block, x_then, x_thenE, x_thenR, x_blockN, x_blockR, x_blockE, s_nil, s_op, s_guard, s_some, s_true, s_false, s_put, s_put0, s_opsR, s_ret, s_norm, aop, ev, evs, List.map_cons, List.map_nil, List.cons_append, List.nil_append, List.append_nil, List.replicate, List.take_succ_cons, List.take_zero, List.take_nil, List.drop_succ_cons, List.drop_zero, List.drop_nil, Nat.zero_add, Nat.add_zero, Nat.reduceAdd, Nat.reduceMul, Nat.reduceLeDiff, Bool.false_eq_true, and_self, List.length_cons, List.length_nil, List.set_cons_zero, List.set_cons_succ, List.getD_cons_zero, List.getD_cons_succ, wantedA, List.getElem?_cons_zero, List.getElem?_cons_succ, q_t, q_f, Bool.not_true, Bool.not_false, b_add, b_sub, b_mul, b_eql, b_neq, b_lss, b_leq, b_gtr, b_geq, b_and, b_or, b_xor, b_quo, b_rem, b_shl, b_shr, unA, Option.map_some, Option.map_none, resA, tupA, Int.reduceLT, not_false_eq_true, not_true_eq_false, decide_true, decide_false, f_bool, c_bool, f_int, c_int, f_str, c_str, f_nilptr, c_nilptr, f_ptr, c_ptr, f_nilsl, c_nilsl, f_slice, c_slice, f_nilmap, c_nilmap, f_map, c_map, f_nilf, c_nilf, f_func, c_func, f_yieldf, c_yieldf, f_nilif, c_nilif, f_iface, c_iface, c_agg, List.all_cons, List.all_nil, Bool.and_true, Bool.true_and, if_true, if_false, ite_true, ite_false, e1, L0, l9, hne0, Int.ofNat_zero, chkLog, same_cells, hg1, e5, e7, e8]
    · obtain ⟨tm1, e5, e6⟩ := key [.ptr n 0, .ptr r 0, undefA, undefA, .bool false, .slice bo 0 ([] : List (List AV)).length cap false 3, .int .i64 0, .ptr n 0, .slice bo 0 ([] : List (List AV)).length cap false 3, .slice bo 0 ([] : List (List AV)).length cap false 3, .int .i64 0, .ptr r 0, .ptr r 0, .ptr r 0, .slice b0 0 ([] : List (List AV)).length cap2 false 3, .int .i64 0, .bool false, .bool false, .ptr n 0, .int .i64 0, .ptr r 0, .ptr r 0, .ptr r 0, .slice b0 0 ([] : List (List AV)).length cap2 false 3, .int .i64 0, .bool false, .bool false, undefA, undefA, undefA, undefA, undefA, undefA, undefA, undefA, undefA, undefA, undefA, undefA, undefA, undefA, undefA, undefA, undefA, undefA, undefA, undefA, undefA, undefA, undefA, undefA, undefA] ⟨rfl, rfl, rfl, rfl⟩
      obtain ⟨tm2, e7, e8⟩ := tail19_spec (h := h1) e6
      refine ⟨h1, ?_, g1⟩
      rw [x_fn rfl (show tab 19 = some ⟨52, [.tmp 4], sf19.body⟩ from rfl), body19_eq]
      simp only [List.length_nil, Int.ofNat_zero] at l9 e5
      simp (decide := true) only [note_false, x_drawn, l_nil, l_op, l_guard, l_some, l_true, l_false, l_draw, readsA, x_true, x_false, x_seq, x_ops, x_cond, x_skip, x_ret, x_exit, x_block, x_then, x_thenE, x_thenR, x_blockN, x_blockR, x_blockE, s_nil, s_op, s_guard, s_some, s_true, s_false, s_put, s_put0, s_opsR, s_ret, s_norm, aop, ev, evs, List.map_cons, List.map_nil, List.cons_append, List.nil_append, List.append_nil, List.replicate, List.take_succ_cons, List.take_zero, List.take_nil, List.drop_succ_cons, List.drop_zero, List.drop_nil, Nat.zero_add, Nat.add_zero, Nat.reduceAdd, Nat.reduceMul, Nat.reduceLeDiff, Bool.false_eq_true, and_self, List.length_cons, List.length_nil, List.set_cons_zero, List.set_cons_succ, List.getD_cons_zero, List.getD_cons_succ, wantedA, List.getElem?_cons_zero, List.getElem?_cons_succ, q_t, q_f, Bool.not_true, Bool.not_false, b_add, b_sub, b_mul, b_eql, b_neq, b_lss, b_leq, b_gtr, b_geq, b_and, b_or, b_xor, b_quo, b_rem, b_shl, b_shr, unA, Option.map_some, Option.map_none, resA, tupA, Int.reduceLT, not_false_eq_true, not_true_eq_false, decide_true, decide_false, f_bool, c_bool, f_int, c_int, f_str, c_str, f_nilptr, c_nilptr, f_ptr, c_ptr, f_nilsl, c_nilsl, f_slice, c_slice, f_nilmap, c_nilmap, f_map, c_map, f_nilf, c_nilf, f_func, c_func, f_yieldf, c_yieldf, f_nilif, c_nilif, f_iface, c_iface, c_agg, List.all_cons, List.all_nil, Bool.and_true, Bool.true_and, if_true, if_false, ite_true, ite_false, e1, L0, l9, hne0, Int.ofNat_zero, chkLog, same_cells, hg1, e5, e7, e8]
  · have hpos : 0 < l.length := by cases l with | nil => exact absurd rfl hl0 | cons => simp
    rcases hs.2 with ⟨_, e⟩ | ⟨cap, rest, rfl, k2, k3, k4⟩
    · rw [e] at hfl; simp at hfl; omega
    · rcases hs2.2 with ⟨_, e⟩ | ⟨cap2, rest2, rfl, p2, p3, p4⟩
      · rw [e] at hrl; simp at hrl; omega
      · rw [hfl] at hs k2 e1
        rw [hrl] at hs2 hg hg1 L0 p2
        rw [← hfl] at hs
        rw [hfl] at hs
        generalize hN : l.length = N at *
        have hbo1 : b0 < h.next := Heap.lt_of_get p3
        have ht : Sh19 r (.slice bo 0 N cap false 3) 0 [.ptr n 0, .ptr r 0, undefA, undefA, .bool false, .slice bo 0 N cap false 3, .int .i64 0, .ptr n 0, .slice bo 0 N cap false 3, .slice bo 0 N cap false 3, .int .i64 (N : Nat), .ptr r 0, .ptr r 0, .ptr r 0, .slice b0 0 N cap2 false 3, .int .i64 (N : Nat), .bool false, .bool false, .ptr n 0, .int .i64 (N : Nat), .ptr r 0, .ptr r 0, .ptr r 0, .slice b0 0 N cap2 false 3, .int .i64 (N : Nat), .bool false, .bool false, undefA, undefA, undefA, undefA, undefA, undefA, undefA, undefA, undefA, undefA, undefA, undefA, undefA, undefA, undefA, undefA, undefA, undefA, undefA, undefA, undefA, undefA, undefA, undefA, undefA] := ⟨rfl, rfl, rfl, rfl⟩
        obtain ⟨tm1, h2, e5, e6, x1, x2⟩ := loop19 (l := l) (hi := h1.next) (lo0 := h.next) (Q := Q) hfl.symm hrl.symm (by omega) o1 hbo1 o6 rows l 0 h.next h1 _ rfl rfl (by omega) (Nat.le_refl _) (Nat.le_refl _) ht hs hg1 (hs2.keep fun o e => g1.get e) (hrows.mono (fun j hq => hq) fun j hq => g1.2 j (o6 j hq)) hfr
        obtain ⟨tm2, e7, e8⟩ := tail19_spec (h := h2) e6
        have q1 := g1.1
        refine ⟨h2, ?_, ⟨by omega, fun j hj => by rw [x2 j hj, g1.2 j hj]⟩⟩
        rw [x_fn rfl (show tab 19 = some ⟨52, [.tmp 4], sf19.body⟩ from rfl), body19_eq]
        simp (decide := true) only [note_false, x_drawn, l_nil, l_op, l_guard, l_some, l_true, l_false, l_draw, readsA, x_true, x_false, x_seq, x_ops, x_cond, x_skip, x_ret, x_exit, x_block, x_then, x_thenE, x_thenR, x_blockN, x_blockR, x_blockE, s_nil, s_op, s_guard, s_some, s_true, s_false, s_put, s_put0, s_opsR, s_ret, s_norm, aop, ev, evs, List.map_cons, List.map_nil, List.cons_append, List.nil_append, List.append_nil, List.replicate, List.take_succ_cons, List.take_zero, List.take_nil, List.drop_succ_cons, List.drop_zero, List.drop_nil, Nat.zero_add, Nat.add_zero, Nat.reduceAdd, Nat.reduceMul, Nat.reduceLeDiff, Bool.false_eq_true, and_self, List.length_cons, List.length_nil, List.set_cons_zero, List.set_cons_succ, List.getD_cons_zero, List.getD_cons_succ, wantedA, List.getElem?_cons_zero, List.getElem?_cons_succ, q_t, q_f, Bool.not_true, Bool.not_false, b_add, b_sub, b_mul, b_eql, b_neq, b_lss, b_leq, b_gtr, b_geq, b_and, b_or, b_xor, b_quo, b_rem, b_shl, b_shr, unA, Option.map_some, Option.map_none, resA, tupA, Int.reduceLT, not_false_eq_true, not_true_eq_false, decide_true, decide_false, f_bool, c_bool, f_int, c_int, f_str, c_str, f_nilptr, c_nilptr, f_ptr, c_ptr, f_nilsl, c_nilsl, f_slice, c_slice, f_nilmap, c_nilmap, f_map, c_map, f_nilf, c_nilf, f_func, c_func, f_yieldf, c_yieldf, f_nilif, c_nilif, f_iface, c_iface, c_agg, List.all_cons, List.all_nil, Bool.and_true, Bool.true_and, if_true, if_false, ite_true, ite_false, e1, L0, l9, hne, chkLog, same_cells, hg1, e5, e7, e8]
end Go.Proofs.Ytdgpjefbdocepaa.Ya
