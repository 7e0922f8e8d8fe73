/-
  Spans: the document's set.
-/
import Derived.Test.YtplbampjponnpaaYaSpanEnds
import Derived.Test.YtplbampjponnpaaYaSpanGather
namespace Go.Proofs.Ytplbampjponnpaa.Ya
open Go.Ya Go.Ya.Span
set_option linter.unusedVariables false
set_option linter.unusedSimpArgs false
set_option maxRecDepth 100000
set_option maxHeartbeats 40000000

theorem runs_take (c : Int → Bool) : ∀ {E : List Int} {i : Nat}, i + 1 < E.length → runs c (E.take (i + 2)) = runs c (E.take (i + 1)) ++ (if c (E.getD i 0) = true then [(E.getD i 0, E.getD (i + 1) 0)] else [])
  | [], i, h => by simp at h
  | [a], i, h => by simp at h
  | a :: b :: E, 0, _ => by simp [runs]
  | a :: b :: E, i + 1, h => by
    have ih := runs_take c (E := b :: E) (i := i) (by simpa using h)
    simp only [List.take_succ_cons, runs, List.getD_cons_succ, List.append_assoc] at ih ⊢
    rw [ih]
theorem runs_len (c : Int → Bool) : ∀ (E : List Int), (runs c E).length ≤ E.length
  | [] => by simp [runs]
  | [a] => by simp [runs]
  | a :: b :: E => by
    have ih := runs_len c (b :: E)
    rw [runs, List.length_append, List.length_cons]
    split <;> simp only [List.length_cons, List.length_nil] at * <;> omega
def L29_0 : SC := (.seq (.seq (.ops [⟨some 16, .mov (.t 9), none⟩, ⟨some 17, .bin (.add) (.other) (.t 16) (.c (.int (.i64) 1)), none⟩, ⟨some 18, .mov (.t 7), none⟩, ⟨some 19, .len (.sl) (.t 18), none⟩, ⟨some 20, .bin (.lss) (.other) (.t 17) (.t 19), none⟩]) (.cond (.t 20) (.skip) (.exit 0))) (.seq (.block 1 (.seq (.ops [⟨some 23, .mov (.t 7), none⟩, ⟨some 24, .mov (.t 9), none⟩, ⟨some 25, .idxAddrSl 1 (.t 23) (.t 24), none⟩, ⟨some 26, .load false 1 (.t 25), none⟩, ⟨some 10, .mov (.t 26), none⟩]) (.seq (.ops [⟨some 27, .mov (.t 10), none⟩, ⟨some 28, .fieldAddr 0 (.t 4), none⟩, ⟨some 29, .load false 1 (.t 28), none⟩, ⟨some 30, .bin (.geq) (.other) (.t 27) (.t 29), none⟩, ⟨some 31, .mov (.t 30), none⟩, ⟨some 32, .mov (.t 10), some (31, true)⟩, ⟨some 33, .fieldAddr 1 (.t 4), some (31, true)⟩, ⟨some 34, .load false 1 (.t 33), some (31, true)⟩, ⟨some 35, .bin (.lss) (.other) (.t 32) (.t 34), some (31, true)⟩, ⟨some 36, .pick (.t 31) (.t 35) (.c (.bool false)), none⟩, ⟨some 11, .mov (.t 36), none⟩]) (.seq (.seq (.ops [⟨some 37, .mov (.t 2), none⟩, ⟨some 38, .mov (.t 37), none⟩, ⟨some 39, .mov (.t 11), some (38, true)⟩, ⟨some 40, .un (.not) (.t 39), some (38, true)⟩, ⟨some 41, .pick (.t 38) (.t 40) (.c (.bool false)), none⟩, ⟨some 42, .mov (.t 41), none⟩, ⟨some 43, .mov (.t 0), some (42, true)⟩, ⟨some 44, .mov (.t 10), some (42, true)⟩, ⟨some 45, .call 31 [.t 43, .t 44], some (42, true)⟩, ⟨some 46, .un (.not) (.t 45), some (42, true)⟩, ⟨some 47, .pick (.t 42) (.t 46) (.c (.bool false)), none⟩, ⟨some 48, .mov (.t 47), none⟩, ⟨some 49, .mov (.t 2), some (48, false)⟩, ⟨some 50, .un (.not) (.t 49), some (48, false)⟩, ⟨some 51, .mov (.t 50), some (48, false)⟩, ⟨some 52, .mov (.t 11), some (51, true)⟩, ⟨some 53, .mov (.t 52), some (51, true)⟩, ⟨some 54, .mov (.t 0), some (53, false)⟩, ⟨some 55, .mov (.t 10), some (53, false)⟩, ⟨some 56, .call 31 [.t 54, .t 55], some (53, false)⟩, ⟨some 57, .un (.not) (.t 56), some (53, false)⟩, ⟨some 58, .pick (.t 53) (.c (.bool true)) (.t 57), some (51, true)⟩, ⟨some 59, .pick (.t 51) (.t 58) (.c (.bool false)), some (48, false)⟩, ⟨some 60, .pick (.t 48) (.c (.bool true)) (.t 59), none⟩]) (.cond (.t 60) (.exit 1) (.skip))) (.seq (.ops [⟨some 61, .mov (.t 8), none⟩, ⟨some 62, .len (.sl) (.t 61), none⟩, ⟨some 12, .mov (.t 62), none⟩]) (.seq (.ops [⟨some 63, .mov (.t 12), none⟩, ⟨some 64, .bin (.gtr) (.other) (.t 63) (.c (.int (.i64) 0)), none⟩, ⟨some 65, .mov (.t 64), none⟩, ⟨some 66, .mov (.t 8), some (65, true)⟩, ⟨some 67, .mov (.t 12), some (65, true)⟩, ⟨some 68, .bin (.sub) (.other) (.t 67) (.c (.int (.i64) 1)), some (65, true)⟩, ⟨some 69, .idxAddrSl 2 (.t 66) (.t 68), some (65, true)⟩, ⟨some 70, .fieldAddr 1 (.t 69), some (65, true)⟩, ⟨some 71, .load false 1 (.t 70), some (65, true)⟩, ⟨some 72, .mov (.t 10), some (65, true)⟩, ⟨some 73, .bin (.eql) (.other) (.t 71) (.t 72), some (65, true)⟩, ⟨some 74, .pick (.t 65) (.t 73) (.c (.bool false)), none⟩]) (.cond (.t 74) (.ops [⟨some 75, .mov (.t 8), none⟩, ⟨some 76, .mov (.t 12), none⟩, ⟨some 77, .bin (.sub) (.other) (.t 76) (.c (.int (.i64) 1)), none⟩, ⟨some 78, .mov (.t 7), none⟩, ⟨some 79, .mov (.t 9), none⟩, ⟨some 80, .bin (.add) (.other) (.t 79) (.c (.int (.i64) 1)), none⟩, ⟨some 81, .idxAddrSl 1 (.t 78) (.t 80), none⟩, ⟨some 82, .load false 1 (.t 81), none⟩, ⟨some 83, .idxAddrSl 2 (.t 75) (.t 77), none⟩, ⟨some 84, .fieldAddr 1 (.t 83), none⟩, ⟨none, .store 1 (.t 84) (.t 82), none⟩]) (.ops [⟨some 85, .mov (.t 8), none⟩, ⟨some 86, .mov (.t 10), none⟩, ⟨some 87, .mov (.t 7), none⟩, ⟨some 88, .mov (.t 9), none⟩, ⟨some 89, .bin (.add) (.other) (.t 88) (.c (.int (.i64) 1)), none⟩, ⟨some 90, .idxAddrSl 1 (.t 87) (.t 89), none⟩, ⟨some 91, .load false 1 (.t 90), none⟩, ⟨some 92, .build [.int (.u32) 0, .int (.u32) 0] [(0, 1, .t 86), (1, 1, .t 91)], none⟩, ⟨some 93, .buildSlice [.int (.u32) 0, .int (.u32) 0] 1 2 [(0, 2, .t 92)], none⟩, ⟨some 94, .append 2 8 (.t 85) (.t 93), none⟩, ⟨some 8, .mov (.t 94), none⟩])))))))) (.ops [⟨some 21, .mov (.t 9), none⟩, ⟨some 22, .bin (.add) (.other) (.t 21) (.c (.int (.i64) 1)), none⟩, ⟨some 9, .mov (.t 22), none⟩])))
def b29 : SC := .seq (.ops [⟨some 4, .box (.t 1), none⟩, ⟨some 6, .mov (.c (.nilsl)), none⟩]) (.seq (.ops [⟨some 13, .mov (.t 0), none⟩, ⟨some 14, .load true 2 (.t 4), none⟩, ⟨some 15, .call 34 [.t 13, .t 14], none⟩, ⟨some 7, .mov (.t 15), none⟩]) (.seq (.ops [⟨some 8, .mov (.c (.nilsl)), none⟩]) (.seq (.seq (.ops [⟨some 9, .mov (.c (.int (.i64) 0)), none⟩]) (.block 0 (.loop L29_0))) (.seq (.ops [⟨some 95, .mov (.t 8), none⟩, ⟨some 6, .mov (.t 95), none⟩]) (.ret)))))
theorem t29 : tab 29 = some ⟨96, [.tmp 6], b29⟩ := rfl
def Sh29 (V Ev sl : AV) (w : Bool) (p i : Nat) (tm : List AV) : Prop := tm.length = 96 ∧ tm[0]? = some (V) ∧ tm[2]? = some (.bool w) ∧ tm[4]? = some (.ptr p 0) ∧ tm[7]? = some (Ev) ∧ tm[8]? = some (sl) ∧ tm[9]? = some (.int .i64 (i : Nat))
theorem Sh29_open {V Ev sl : AV} {w : Bool} {p i : Nat} {tm : List AV} (ht : Sh29 V Ev sl w p i tm) : ∃ a : Nat → AV, tm = [V, a 1, .bool w, a 3, .ptr p 0, a 5, a 6, Ev, sl, .int .i64 (i : Nat), a 10, a 11, a 12, a 13, a 14, a 15, a 16, a 17, a 18, a 19, a 20, a 21, a 22, a 23, a 24, a 25, a 26, a 27, a 28, a 29, a 30, a 31, a 32, a 33, a 34, a 35, a 36, a 37, a 38, a 39, a 40, a 41, a 42, a 43, a 44, a 45, a 46, a 47, a 48, a 49, a 50, a 51, a 52, a 53, a 54, a 55, a 56, a 57, a 58, a 59, a 60, a 61, a 62, a 63, a 64, a 65, a 66, a 67, a 68, a 69, a 70, a 71, a 72, a 73, a 74, a 75, a 76, a 77, a 78, a 79, a 80, a 81, a 82, a 83, a 84, a 85, a 86, a 87, a 88, a 89, a 90, a 91, a 92, a 93, a 94, a 95] := by
  obtain ⟨hl, t0, t2, t4, t7, t8, t9⟩ := ht
  have e0 : tm.getD 0 undefA = V := by rw [List.getD_eq_getElem?_getD, t0]; rfl
  have e2 : tm.getD 2 undefA = .bool w := by rw [List.getD_eq_getElem?_getD, t2]; rfl
  have e4 : tm.getD 4 undefA = .ptr p 0 := by rw [List.getD_eq_getElem?_getD, t4]; rfl
  have e7 : tm.getD 7 undefA = Ev := by rw [List.getD_eq_getElem?_getD, t7]; rfl
  have e8 : tm.getD 8 undefA = sl := by rw [List.getD_eq_getElem?_getD, t8]; rfl
  have e9 : tm.getD 9 undefA = .int .i64 (i : Nat) := by rw [List.getD_eq_getElem?_getD, t9]; rfl
  refine ⟨fun i => tm.getD i undefA, (lit_of hl).trans ?_⟩
  show [tm.getD 0 undefA, tm.getD 1 undefA, tm.getD 2 undefA, tm.getD 3 undefA, tm.getD 4 undefA, tm.getD 5 undefA, tm.getD 6 undefA, tm.getD 7 undefA, tm.getD 8 undefA, tm.getD 9 undefA, tm.getD 10 undefA, tm.getD 11 undefA, tm.getD 12 undefA, tm.getD 13 undefA, tm.getD 14 undefA, tm.getD 15 undefA, tm.getD 16 undefA, tm.getD 17 undefA, tm.getD 18 undefA, tm.getD 19 undefA, tm.getD 20 undefA, tm.getD 21 undefA, tm.getD 22 undefA, tm.getD 23 undefA, tm.getD 24 undefA, tm.getD 25 undefA, tm.getD 26 undefA, tm.getD 27 undefA, tm.getD 28 undefA, tm.getD 29 undefA, tm.getD 30 undefA, tm.getD 31 undefA, tm.getD 32 undefA, tm.getD 33 undefA, tm.getD 34 undefA, tm.getD 35 undefA, tm.getD 36 undefA, tm.getD 37 undefA, tm.getD 38 undefA, tm.getD 39 undefA, tm.getD 40 undefA, tm.getD 41 undefA, tm.getD 42 undefA, tm.getD 43 undefA, tm.getD 44 undefA, tm.getD 45 undefA, tm.getD 46 undefA, tm.getD 47 undefA, tm.getD 48 undefA, tm.getD 49 undefA, tm.getD 50 undefA, tm.getD 51 undefA, tm.getD 52 undefA, tm.getD 53 undefA, tm.getD 54 undefA, tm.getD 55 undefA, tm.getD 56 undefA, tm.getD 57 undefA, tm.getD 58 undefA, tm.getD 59 undefA, tm.getD 60 undefA, tm.getD 61 undefA, tm.getD 62 undefA, tm.getD 63 undefA, tm.getD 64 undefA, tm.getD 65 undefA, tm.getD 66 undefA, tm.getD 67 undefA, tm.getD 68 undefA, tm.getD 69 undefA, tm.getD 70 undefA, tm.getD 71 undefA, tm.getD 72 undefA, tm.getD 73 undefA, tm.getD 74 undefA, tm.getD 75 undefA, tm.getD 76 undefA, tm.getD 77 undefA, tm.getD 78 undefA, tm.getD 79 undefA, tm.getD 80 undefA, tm.getD 81 undefA, tm.getD 82 undefA, tm.getD 83 undefA, tm.getD 84 undefA, tm.getD 85 undefA, tm.getD 86 undefA, tm.getD 87 undefA, tm.getD 88 undefA, tm.getD 89 undefA, tm.getD 90 undefA, tm.getD 91 undefA, tm.getD 92 undefA, tm.getD 93 undefA, tm.getD 94 undefA, tm.getD 95 undefA] = [V, tm.getD 1 undefA, .bool w, tm.getD 3 undefA, .ptr p 0, tm.getD 5 undefA, tm.getD 6 undefA, Ev, sl, .int .i64 (i : Nat), tm.getD 10 undefA, tm.getD 11 undefA, tm.getD 12 undefA, tm.getD 13 undefA, tm.getD 14 undefA, tm.getD 15 undefA, tm.getD 16 undefA, tm.getD 17 undefA, tm.getD 18 undefA, tm.getD 19 undefA, tm.getD 20 undefA, tm.getD 21 undefA, tm.getD 22 undefA, tm.getD 23 undefA, tm.getD 24 undefA, tm.getD 25 undefA, tm.getD 26 undefA, tm.getD 27 undefA, tm.getD 28 undefA, tm.getD 29 undefA, tm.getD 30 undefA, tm.getD 31 undefA, tm.getD 32 undefA, tm.getD 33 undefA, tm.getD 34 undefA, tm.getD 35 undefA, tm.getD 36 undefA, tm.getD 37 undefA, tm.getD 38 undefA, tm.getD 39 undefA, tm.getD 40 undefA, tm.getD 41 undefA, tm.getD 42 undefA, tm.getD 43 undefA, tm.getD 44 undefA, tm.getD 45 undefA, tm.getD 46 undefA, tm.getD 47 undefA, tm.getD 48 undefA, tm.getD 49 undefA, tm.getD 50 undefA, tm.getD 51 undefA, tm.getD 52 undefA, tm.getD 53 undefA, tm.getD 54 undefA, tm.getD 55 undefA, tm.getD 56 undefA, tm.getD 57 undefA, tm.getD 58 undefA, tm.getD 59 undefA, tm.getD 60 undefA, tm.getD 61 undefA, tm.getD 62 undefA, tm.getD 63 undefA, tm.getD 64 undefA, tm.getD 65 undefA, tm.getD 66 undefA, tm.getD 67 undefA, tm.getD 68 undefA, tm.getD 69 undefA, tm.getD 70 undefA, tm.getD 71 undefA, tm.getD 72 undefA, tm.getD 73 undefA, tm.getD 74 undefA, tm.getD 75 undefA, tm.getD 76 undefA, tm.getD 77 undefA, tm.getD 78 undefA, tm.getD 79 undefA, tm.getD 80 undefA, tm.getD 81 undefA, tm.getD 82 undefA, tm.getD 83 undefA, tm.getD 84 undefA, tm.getD 85 undefA, tm.getD 86 undefA, tm.getD 87 undefA, tm.getD 88 undefA, tm.getD 89 undefA, tm.getD 90 undefA, tm.getD 91 undefA, tm.getD 92 undefA, tm.getD 93 undefA, tm.getD 94 undefA, tm.getD 95 undefA]
  rw [e0, e2, e4, e7, e8, e9]

theorem skip29 {g h : Heap} {V Ev sl : AV} {l outl : List Sp} {E : List Int} {s : Sp} {w : Bool} {p i : Nat} (hp : g.get p = some (.cells [.int .u32 s.1, .int .u32 s.2] false)) (gr : Grow g h) (hV : SpAt g V l) (hE : InAt g Ev E) (hl : l.length ≤ 1000000) (hEl : E.length ≤ 1000000) (om : Mine 2 g.next h sl (outl.map spA)) (ho : outl.length ≤ i) (hi : i + 1 < E.length) (hc : condP l s w (E.getD i 0) = false) {tm : List AV} (ht : Sh29 V Ev sl w p i tm) :
    ∃ tm', xcode X1 tab 29 none (.loop L29_0) tm h = xcode X1 tab 29 none (.loop L29_0) tm' h ∧ Sh29 V Ev sl w p (i + 1) tm' := by
  obtain ⟨a, rfl⟩ := Sh29_open ht
  clear ht
  have hp2 := gr.get hp
  have hpl := Heap.lt_of_get hp2
  have e31 := x31 l (at_ := E.getD i 0) (hV.grow gr) hl
  rcases in_cases (hE.grow gr) with ⟨rfl, rfl⟩ | ⟨id, off, cap, ex, c, ro, rfl, hg, hid, hcl, hc0⟩
  · exact absurd hi (by simp)
  have hidg : id < g.next := by
    rcases in_cases hE with ⟨e, _⟩ | ⟨_, _, _, _, _, _, e, _, q, _⟩
    · cases e
    · cases e; exact q
  have hx0 := hc0 i (by omega)
  have hy0 := hc0 (i + 1) hi
  generalize E.getD i 0 = x at *
  generalize E.getD (i + 1) 0 = y at *
  have hS : inS s x = (decide (x ≥ s.1) && decide (x < s.2)) := rfl
  cases w <;> cases hin : inP l x <;> by_cases h1 : x ≥ s.1 <;> by_cases h2 : x < s.2
  all_goals try (exfalso; simp [condP, hS, hin, h1, h2] at hc; done)
  all_goals
    rw [hin] at e31
    refine ⟨?_, ?_, ?_⟩
    rotate_left
    · rw [show ∀ tm h, xcode X1 tab 29 none (.loop L29_0) tm h = thenX X1 tab 29 none (.loop L29_0) (xcode X1 tab 29 none L29_0 tm h) from fun _ _ => x_loop]
      delta L29_0
      simp (disch := first | omega | (simp only [nx_alloc, nx_set] <;> omega) | (apply Rd.grow; assumption; repeat (first | exact Grow.refl _ | assumption | exact Grow.alloc _ _ | refine Grow.allocR ?_ _ | refine Grow.setR ?_ _ ?_ ?_ | omega | (simp only [nx_alloc, nx_set] <;> omega) | (apply Grow.trans; rotate_left; assumption) | fail)) | fail) only [note_false, Int.reduceBEq, Int.reduceBNe, x_drawn, l_nil, l_op, l_guard, l_some, l_true, l_false, l_draw, readsA, x_true, x_false, x_seq, x_ops, x_cond, x_skip, x_ret, x_exit, x_block, x_then, x_thenE, x_thenR, x_blockN, x_blockR, x_blockE, s_nil, s_op, s_guard, s_some, s_true, s_false, s_put, s_put0, s_opsR, s_ret, s_norm, aop, ev, evs, List.map_cons, List.map_nil, List.cons_append, List.nil_append, List.append_nil, List.replicate, List.take_succ_cons, List.take_zero, List.take_nil, List.drop_succ_cons, List.drop_zero, List.drop_nil, Nat.zero_add, Nat.add_zero, Nat.reduceAdd, Nat.reduceMul, Nat.reduceLeDiff, Bool.false_eq_true, and_self, List.length_cons, List.length_nil, List.set_cons_zero, List.set_cons_succ, List.getD_cons_zero, List.getD_cons_succ, wantedA, List.getElem?_cons_zero, List.getElem?_cons_succ, q_t, q_f, Bool.not_true, Bool.not_false, b_add, b_sub, b_mul, b_eql, b_neq, b_lss, b_leq, b_gtr, b_geq, b_and, b_or, b_xor, b_quo, b_rem, b_shl, b_shr, unA, Option.map_some, Option.map_none, resA, tupA, Int.reduceLT, not_false_eq_true, not_true_eq_false, decide_true, decide_false, f_bool, c_bool, f_int, c_int, f_str, c_str, f_nilptr, c_nilptr, f_ptr, c_ptr, f_nilsl, c_nilsl, f_slice, c_slice, f_nilmap, c_nilmap, f_map, c_map, f_nilf, c_nilf, f_func, c_func, f_yieldf, c_yieldf, f_nilif, c_nilif, f_iface, c_iface, c_agg, List.all_cons, List.all_nil, Bool.and_true, Bool.true_and, if_true, if_false, ite_true, ite_false, ga_new, ga_old, gs_new, gs_old, Heap.next_alloc, Heap.next_set, loadA, storeA, splice, fillA, d_t, d_f, i_t, i_f, beq_t, beq_f, bne_t, bne_f, w_i64, w_u64, w_u32, w_i32, w_u8, Int.toNat_natCast, n_sub1, n_add1, Nat.sub_zero, Nat.mul_one, Nat.one_mul, Nat.zero_mul, List.append_assoc, Option.bind_some, chkLog, same_cells, List.replicate_zero, List.flatten_nil, true_and, and_true, b_eqB, b_neB, b_eqS, b_neS, Bool.true_beq, Bool.false_beq, kindsOk, k_0, k_1, k_2, plainEq, Bool.bne_true, Bool.bne_false, beq_self_eq_true, bne_self_eq_false, Int.tdiv_eq_ediv_of_nonneg, Int.tmod_eq_emod_of_nonneg, List.length_nil, hg, hx0, hy0, hp2, e31, Bool.true_or, Bool.false_or, Bool.and_false, Bool.false_and, x_blockO, show (1 : Nat) ≠ 2 by omega]
      rfl
    · exact ⟨rfl, rfl, rfl, rfl, rfl, rfl, rfl⟩

theorem take29 {g h : Heap} {V Ev sl : AV} {l outl : List Sp} {E : List Int} {s : Sp} {w : Bool} {p i : Nat} (hp : g.get p = some (.cells [.int .u32 s.1, .int .u32 s.2] false)) (gr : Grow g h) (hV : SpAt g V l) (hE : InAt g Ev E) (hl : l.length ≤ 1000000) (hEl : E.length ≤ 1000000) (om : Mine 2 g.next h sl (outl.map spA)) (ho : outl.length ≤ i) (hi : i + 1 < E.length) (hc : condP l s w (E.getD i 0) = true) {tm : List AV} (ht : Sh29 V Ev sl w p i tm) :
    ∃ tm' sl' h', xcode X1 tab 29 none (.loop L29_0) tm h = xcode X1 tab 29 none (.loop L29_0) tm' h' ∧ Sh29 V Ev sl' w p (i + 1) tm' ∧ Grow g h' ∧ Mine 2 g.next h' sl' ((gStep outl (E.getD i 0, E.getD (i + 1) 0)).map spA) := by
  obtain ⟨a, rfl⟩ := Sh29_open ht
  clear ht
  have hp2 := gr.get hp
  have hpl := Heap.lt_of_get hp2
  have e31 := x31 l (at_ := E.getD i 0) (hV.grow gr) hl
  rcases in_cases (hE.grow gr) with ⟨rfl, rfl⟩ | ⟨id, off, cap, ex, c, ro, rfl, hg, hid, hcl, hc0⟩
  · exact absurd hi (by simp)
  have hidg : id < g.next := by
    rcases in_cases hE with ⟨e, _⟩ | ⟨_, _, _, _, _, _, e, _, q, _⟩
    · cases e
    · cases e; exact q
  have hx0 := hc0 i (by omega)
  have hy0 := hc0 (i + 1) hi
  generalize E.getD i 0 = x at *
  generalize E.getD (i + 1) 0 = y at *
  have hS : inS s x = (decide (x ≥ s.1) && decide (x < s.2)) := rfl
  have hlen : (outl.map spA).length = outl.length := by simp
  have snoc : gStep outl (x, y) = outl ++ [(x, y)] → ∃ sl' h', appendA (h.alloc (.cells [.int .u32 x, .int .u32 y] false)) 2 8 sl (.slice h.next 0 1 1 true 2) = some (sl', h') ∧ Grow g h' ∧ Mine 2 g.next h' sl' ((gStep outl (x, y)).map spA) := by
    intro e
    obtain ⟨sl', h', k1, k2, k3, _, _, _⟩ := om.push (bytes := 8) gr (Nat.le_refl _) gr.1 (spA (x, y)) false rfl true (by rw [hlen]; omega)
    exact ⟨sl', h', k1, k3, by rw [e, List.map_append]; exact k2⟩
  by_cases hpos : 0 < outl.length
  · obtain ⟨b, cap2, c2, rfl, k1, k2, k3, k4, k5, k6⟩ := om.poke (i := outl.length - 1) (by rw [hlen]; omega)
    have hbi : b ≠ id := by omega
    have hbp : b ≠ p := by have := Heap.lt_of_get hp; omega
    generalize hz : outl.getD (outl.length - 1) (0, 0) = z at *
    have hrow : (outl.map spA).getD (outl.length - 1) [] = spA z := by
      rw [← hz, List.getD_eq_getElem?_getD, List.getD_eq_getElem?_getD, List.getElem?_map, List.getElem?_eq_getElem (show outl.length - 1 < outl.length by omega)]; rfl
    have c1 : c2[(outl.length - 1) * 2 + 1]? = some (.int .u32 z.2) := by
      rw [k5 _ 1 (by rw [hlen]; omega) (by omega), hrow]; rfl
    have hcl2 : (outl.length - 1) * 2 + 1 + 1 ≤ c2.length := by rw [hlen] at k4; omega
    rw [hlen] at *
    by_cases hzt : z.2 = x
    · have hgs : gStep outl (x, y) = outl.set (outl.length - 1) (z.1, y) := by
        have := gStep_t hpos (s := (x, y)) (by rw [hz]; exact hzt)
        rwa [hz] at this
      have k7 := k6 1 (.int .u32 y) (by omega)
      rw [hrow] at k7
      simp only [splice, List.append_assoc, List.cons_append, List.nil_append, List.length_cons, List.length_nil, Nat.zero_add] at k7
      have hrun : ∃ tm', xcode X1 tab 29 none (.loop L29_0) ([V, a 1, .bool w, a 3, .ptr p 0, a 5, a 6, .slice id off E.length cap ex 1, .slice b 0 outl.length cap2 false 2, .int .i64 (i : Nat), a 10, a 11, a 12, a 13, a 14, a 15, a 16, a 17, a 18, a 19, a 20, a 21, a 22, a 23, a 24, a 25, a 26, a 27, a 28, a 29, a 30, a 31, a 32, a 33, a 34, a 35, a 36, a 37, a 38, a 39, a 40, a 41, a 42, a 43, a 44, a 45, a 46, a 47, a 48, a 49, a 50, a 51, a 52, a 53, a 54, a 55, a 56, a 57, a 58, a 59, a 60, a 61, a 62, a 63, a 64, a 65, a 66, a 67, a 68, a 69, a 70, a 71, a 72, a 73, a 74, a 75, a 76, a 77, a 78, a 79, a 80, a 81, a 82, a 83, a 84, a 85, a 86, a 87, a 88, a 89, a 90, a 91, a 92, a 93, a 94, a 95]) h = xcode X1 tab 29 none (.loop L29_0) tm' (h.set b (.cells (List.take ((outl.length - 1) * 2 + 1) c2 ++ AV.int .u32 y :: List.drop ((outl.length - 1) * 2 + 1 + 1) c2) false)) ∧ Sh29 V (.slice id off E.length cap ex 1) (.slice b 0 outl.length cap2 false 2) w p (i + 1) tm' := by
        cases w <;> cases hin : inP l x <;> by_cases h1 : x ≥ s.1 <;> by_cases h2 : x < s.2
        all_goals try (exfalso; simp [condP, hS, hin, h1, h2] at hc; done)
        all_goals
          rw [hin] at e31
          refine ⟨?_, ?_, ?_⟩
          rotate_left
          · rw [show ∀ tm h, xcode X1 tab 29 none (.loop L29_0) tm h = thenX X1 tab 29 none (.loop L29_0) (xcode X1 tab 29 none L29_0 tm h) from fun _ _ => x_loop]
            delta L29_0
            simp (disch := first | omega | (simp only [nx_alloc, nx_set] <;> omega) | (apply Rd.grow; assumption; repeat (first | exact Grow.refl _ | assumption | exact Grow.alloc _ _ | refine Grow.allocR ?_ _ | refine Grow.setR ?_ _ ?_ ?_ | omega | (simp only [nx_alloc, nx_set] <;> omega) | (apply Grow.trans; rotate_left; assumption) | fail)) | fail) only [note_false, Int.reduceBEq, Int.reduceBNe, x_drawn, l_nil, l_op, l_guard, l_some, l_true, l_false, l_draw, readsA, x_true, x_false, x_seq, x_ops, x_cond, x_skip, x_ret, x_exit, x_block, x_then, x_thenE, x_thenR, x_blockN, x_blockR, x_blockE, s_nil, s_op, s_guard, s_some, s_true, s_false, s_put, s_put0, s_opsR, s_ret, s_norm, aop, ev, evs, List.map_cons, List.map_nil, List.cons_append, List.nil_append, List.append_nil, List.replicate, List.take_succ_cons, List.take_zero, List.take_nil, List.drop_succ_cons, List.drop_zero, List.drop_nil, Nat.zero_add, Nat.add_zero, Nat.reduceAdd, Nat.reduceMul, Nat.reduceLeDiff, Bool.false_eq_true, and_self, List.length_cons, List.length_nil, List.set_cons_zero, List.set_cons_succ, List.getD_cons_zero, List.getD_cons_succ, wantedA, List.getElem?_cons_zero, List.getElem?_cons_succ, q_t, q_f, Bool.not_true, Bool.not_false, b_add, b_sub, b_mul, b_eql, b_neq, b_lss, b_leq, b_gtr, b_geq, b_and, b_or, b_xor, b_quo, b_rem, b_shl, b_shr, unA, Option.map_some, Option.map_none, resA, tupA, Int.reduceLT, not_false_eq_true, not_true_eq_false, decide_true, decide_false, f_bool, c_bool, f_int, c_int, f_str, c_str, f_nilptr, c_nilptr, f_ptr, c_ptr, f_nilsl, c_nilsl, f_slice, c_slice, f_nilmap, c_nilmap, f_map, c_map, f_nilf, c_nilf, f_func, c_func, f_yieldf, c_yieldf, f_nilif, c_nilif, f_iface, c_iface, c_agg, List.all_cons, List.all_nil, Bool.and_true, Bool.true_and, if_true, if_false, ite_true, ite_false, ga_new, ga_old, gs_new, gs_old, Heap.next_alloc, Heap.next_set, loadA, storeA, splice, fillA, d_t, d_f, i_t, i_f, beq_t, beq_f, bne_t, bne_f, w_i64, w_u64, w_u32, w_i32, w_u8, Int.toNat_natCast, n_sub1, n_add1, Nat.sub_zero, Nat.mul_one, Nat.one_mul, Nat.zero_mul, List.append_assoc, Option.bind_some, chkLog, same_cells, List.replicate_zero, List.flatten_nil, true_and, and_true, b_eqB, b_neB, b_eqS, b_neS, Bool.true_beq, Bool.false_beq, kindsOk, k_0, k_1, k_2, plainEq, Bool.bne_true, Bool.bne_false, beq_self_eq_true, bne_self_eq_false, Int.tdiv_eq_ediv_of_nonneg, Int.tmod_eq_emod_of_nonneg, List.length_nil, hg, hx0, hy0, hp2, e31, Bool.true_or, Bool.false_or, Bool.and_false, Bool.false_and, k3, c1]
            rfl
          · exact ⟨rfl, rfl, rfl, rfl, rfl, rfl, rfl⟩
      obtain ⟨tm', r1, r2⟩ := hrun
      refine ⟨tm', _, _, r1, r2, ⟨by simpa using gr.1, fun j hj => ?_⟩, ?_⟩
      · rw [gs_old (by omega)]; exact gr.2 j hj
      · rw [hgs, List.map_set]
        exact k7
    · obtain ⟨sl', h', m1, m2, m3⟩ := snoc (gStep_f (by rw [hz]; exact fun e => hzt e.2))
      have hrun : ∃ tm', xcode X1 tab 29 none (.loop L29_0) ([V, a 1, .bool w, a 3, .ptr p 0, a 5, a 6, .slice id off E.length cap ex 1, .slice b 0 outl.length cap2 false 2, .int .i64 (i : Nat), a 10, a 11, a 12, a 13, a 14, a 15, a 16, a 17, a 18, a 19, a 20, a 21, a 22, a 23, a 24, a 25, a 26, a 27, a 28, a 29, a 30, a 31, a 32, a 33, a 34, a 35, a 36, a 37, a 38, a 39, a 40, a 41, a 42, a 43, a 44, a 45, a 46, a 47, a 48, a 49, a 50, a 51, a 52, a 53, a 54, a 55, a 56, a 57, a 58, a 59, a 60, a 61, a 62, a 63, a 64, a 65, a 66, a 67, a 68, a 69, a 70, a 71, a 72, a 73, a 74, a 75, a 76, a 77, a 78, a 79, a 80, a 81, a 82, a 83, a 84, a 85, a 86, a 87, a 88, a 89, a 90, a 91, a 92, a 93, a 94, a 95]) h = xcode X1 tab 29 none (.loop L29_0) tm' h' ∧ Sh29 V (.slice id off E.length cap ex 1) sl' w p (i + 1) tm' := by
        cases w <;> cases hin : inP l x <;> by_cases h1 : x ≥ s.1 <;> by_cases h2 : x < s.2
        all_goals try (exfalso; simp [condP, hS, hin, h1, h2] at hc; done)
        all_goals
          rw [hin] at e31
          refine ⟨?_, ?_, ?_⟩
          rotate_left
          · rw [show ∀ tm h, xcode X1 tab 29 none (.loop L29_0) tm h = thenX X1 tab 29 none (.loop L29_0) (xcode X1 tab 29 none L29_0 tm h) from fun _ _ => x_loop]
            delta L29_0
            simp (disch := first | omega | (simp only [nx_alloc, nx_set] <;> omega) | (apply Rd.grow; assumption; repeat (first | exact Grow.refl _ | assumption | exact Grow.alloc _ _ | refine Grow.allocR ?_ _ | refine Grow.setR ?_ _ ?_ ?_ | omega | (simp only [nx_alloc, nx_set] <;> omega) | (apply Grow.trans; rotate_left; assumption) | fail)) | fail) only [note_false, Int.reduceBEq, Int.reduceBNe, x_drawn, l_nil, l_op, l_guard, l_some, l_true, l_false, l_draw, readsA, x_true, x_false, x_seq, x_ops, x_cond, x_skip, x_ret, x_exit, x_block, x_then, x_thenE, x_thenR, x_blockN, x_blockR, x_blockE, s_nil, s_op, s_guard, s_some, s_true, s_false, s_put, s_put0, s_opsR, s_ret, s_norm, aop, ev, evs, List.map_cons, List.map_nil, List.cons_append, List.nil_append, List.append_nil, List.replicate, List.take_succ_cons, List.take_zero, List.take_nil, List.drop_succ_cons, List.drop_zero, List.drop_nil, Nat.zero_add, Nat.add_zero, Nat.reduceAdd, Nat.reduceMul, Nat.reduceLeDiff, Bool.false_eq_true, and_self, List.length_cons, List.length_nil, List.set_cons_zero, List.set_cons_succ, List.getD_cons_zero, List.getD_cons_succ, wantedA, List.getElem?_cons_zero, List.getElem?_cons_succ, q_t, q_f, Bool.not_true, Bool.not_false, b_add, b_sub, b_mul, b_eql, b_neq, b_lss, b_leq, b_gtr, b_geq, b_and, b_or, b_xor, b_quo, b_rem, b_shl, b_shr, unA, Option.map_some, Option.map_none, resA, tupA, Int.reduceLT, not_false_eq_true, not_true_eq_false, decide_true, decide_false, f_bool, c_bool, f_int, c_int, f_str, c_str, f_nilptr, c_nilptr, f_ptr, c_ptr, f_nilsl, c_nilsl, f_slice, c_slice, f_nilmap, c_nilmap, f_map, c_map, f_nilf, c_nilf, f_func, c_func, f_yieldf, c_yieldf, f_nilif, c_nilif, f_iface, c_iface, c_agg, List.all_cons, List.all_nil, Bool.and_true, Bool.true_and, if_true, if_false, ite_true, ite_false, ga_new, ga_old, gs_new, gs_old, Heap.next_alloc, Heap.next_set, loadA, storeA, splice, fillA, d_t, d_f, i_t, i_f, beq_t, beq_f, bne_t, bne_f, w_i64, w_u64, w_u32, w_i32, w_u8, Int.toNat_natCast, n_sub1, n_add1, Nat.sub_zero, Nat.mul_one, Nat.one_mul, Nat.zero_mul, List.append_assoc, Option.bind_some, chkLog, same_cells, List.replicate_zero, List.flatten_nil, true_and, and_true, b_eqB, b_neB, b_eqS, b_neS, Bool.true_beq, Bool.false_beq, kindsOk, k_0, k_1, k_2, plainEq, Bool.bne_true, Bool.bne_false, beq_self_eq_true, bne_self_eq_false, Int.tdiv_eq_ediv_of_nonneg, Int.tmod_eq_emod_of_nonneg, List.length_nil, hg, hx0, hy0, hp2, e31, Bool.true_or, Bool.false_or, Bool.and_false, Bool.false_and, k3, c1, m1]
            rfl
          · exact ⟨rfl, rfl, rfl, rfl, rfl, rfl, rfl⟩
      obtain ⟨tm', r1, r2⟩ := hrun
      exact ⟨tm', sl', h', r1, r2, m2, m3⟩
  · obtain ⟨sl', h', m1, m2, m3⟩ := snoc (gStep_f (fun e => hpos e.1))
    have hrun : ∃ tm', xcode X1 tab 29 none (.loop L29_0) ([V, a 1, .bool w, a 3, .ptr p 0, a 5, a 6, .slice id off E.length cap ex 1, sl, .int .i64 (i : Nat), a 10, a 11, a 12, a 13, a 14, a 15, a 16, a 17, a 18, a 19, a 20, a 21, a 22, a 23, a 24, a 25, a 26, a 27, a 28, a 29, a 30, a 31, a 32, a 33, a 34, a 35, a 36, a 37, a 38, a 39, a 40, a 41, a 42, a 43, a 44, a 45, a 46, a 47, a 48, a 49, a 50, a 51, a 52, a 53, a 54, a 55, a 56, a 57, a 58, a 59, a 60, a 61, a 62, a 63, a 64, a 65, a 66, a 67, a 68, a 69, a 70, a 71, a 72, a 73, a 74, a 75, a 76, a 77, a 78, a 79, a 80, a 81, a 82, a 83, a 84, a 85, a 86, a 87, a 88, a 89, a 90, a 91, a 92, a 93, a 94, a 95]) h = xcode X1 tab 29 none (.loop L29_0) tm' h' ∧ Sh29 V (.slice id off E.length cap ex 1) sl' w p (i + 1) tm' := by
      rcases om.rd.2 with ⟨rfl, _⟩ | ⟨_, _, _, _, _, _, rfl, _⟩
      all_goals try rw [hlen] at *
      all_goals cases w <;> cases hin : inP l x <;> by_cases h1 : x ≥ s.1 <;> by_cases h2 : x < s.2
      all_goals try (exfalso; simp [condP, hS, hin, h1, h2] at hc; done)
      all_goals
        rw [hin] at e31
        refine ⟨?_, ?_, ?_⟩
        rotate_left
        · rw [show ∀ tm h, xcode X1 tab 29 none (.loop L29_0) tm h = thenX X1 tab 29 none (.loop L29_0) (xcode X1 tab 29 none L29_0 tm h) from fun _ _ => x_loop]
          delta L29_0
          simp (disch := first | omega | (simp only [nx_alloc, nx_set] <;> omega) | (apply Rd.grow; assumption; repeat (first | exact Grow.refl _ | assumption | exact Grow.alloc _ _ | refine Grow.allocR ?_ _ | refine Grow.setR ?_ _ ?_ ?_ | omega | (simp only [nx_alloc, nx_set] <;> omega) | (apply Grow.trans; rotate_left; assumption) | fail)) | fail) only [note_false, Int.reduceBEq, Int.reduceBNe, x_drawn, l_nil, l_op, l_guard, l_some, l_true, l_false, l_draw, readsA, x_true, x_false, x_seq, x_ops, x_cond, x_skip, x_ret, x_exit, x_block, x_then, x_thenE, x_thenR, x_blockN, x_blockR, x_blockE, s_nil, s_op, s_guard, s_some, s_true, s_false, s_put, s_put0, s_opsR, s_ret, s_norm, aop, ev, evs, List.map_cons, List.map_nil, List.cons_append, List.nil_append, List.append_nil, List.replicate, List.take_succ_cons, List.take_zero, List.take_nil, List.drop_succ_cons, List.drop_zero, List.drop_nil, Nat.zero_add, Nat.add_zero, Nat.reduceAdd, Nat.reduceMul, Nat.reduceLeDiff, Bool.false_eq_true, and_self, List.length_cons, List.length_nil, List.set_cons_zero, List.set_cons_succ, List.getD_cons_zero, List.getD_cons_succ, wantedA, List.getElem?_cons_zero, List.getElem?_cons_succ, q_t, q_f, Bool.not_true, Bool.not_false, b_add, b_sub, b_mul, b_eql, b_neq, b_lss, b_leq, b_gtr, b_geq, b_and, b_or, b_xor, b_quo, b_rem, b_shl, b_shr, unA, Option.map_some, Option.map_none, resA, tupA, Int.reduceLT, not_false_eq_true, not_true_eq_false, decide_true, decide_false, f_bool, c_bool, f_int, c_int, f_str, c_str, f_nilptr, c_nilptr, f_ptr, c_ptr, f_nilsl, c_nilsl, f_slice, c_slice, f_nilmap, c_nilmap, f_map, c_map, f_nilf, c_nilf, f_func, c_func, f_yieldf, c_yieldf, f_nilif, c_nilif, f_iface, c_iface, c_agg, List.all_cons, List.all_nil, Bool.and_true, Bool.true_and, if_true, if_false, ite_true, ite_false, ga_new, ga_old, gs_new, gs_old, Heap.next_alloc, Heap.next_set, loadA, storeA, splice, fillA, d_t, d_f, i_t, i_f, beq_t, beq_f, bne_t, bne_f, w_i64, w_u64, w_u32, w_i32, w_u8, Int.toNat_natCast, n_sub1, n_add1, Nat.sub_zero, Nat.mul_one, Nat.one_mul, Nat.zero_mul, List.append_assoc, Option.bind_some, chkLog, same_cells, List.replicate_zero, List.flatten_nil, true_and, and_true, b_eqB, b_neB, b_eqS, b_neS, Bool.true_beq, Bool.false_beq, kindsOk, k_0, k_1, k_2, plainEq, Bool.bne_true, Bool.bne_false, beq_self_eq_true, bne_self_eq_false, Int.tdiv_eq_ediv_of_nonneg, Int.tmod_eq_emod_of_nonneg, List.length_nil, hg, hx0, hy0, hp2, e31, Bool.true_or, Bool.false_or, Bool.and_false, Bool.false_and, m1]
          rfl
        · exact ⟨rfl, rfl, rfl, rfl, rfl, rfl, rfl⟩
    obtain ⟨tm', r1, r2⟩ := hrun
    exact ⟨tm', sl', h', r1, r2, m2, m3⟩
end Go.Proofs.Ytplbampjponnpaa.Ya

