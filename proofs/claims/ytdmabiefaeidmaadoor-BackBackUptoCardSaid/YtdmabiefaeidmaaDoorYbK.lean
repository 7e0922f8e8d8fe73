/-
  The abstract machine: YaCap, YaRoom, YaWide.
-/
import Derived.Test.YtdmabiefaeidmaaDoorYbI
namespace Go.Ya
set_option linter.unusedVariables false
set_option linter.unusedSimpArgs false
def sameS : SFunc := ⟨10,
  [.tmp 4],
  .seq
            (.ops [⟨some 4, .mov (.c (.bool false)), none⟩])
            (.seq
              (.ops
                [⟨some 5, .mov (.t 0), none⟩,
                 ⟨some 6, .bytesToStr (.t 5), none⟩,
                 ⟨some 7, .mov (.t 1), none⟩,
                 ⟨some 8, .bytesToStr (.t 7), none⟩,
                 ⟨some 9, .bin (.eql) (.str) (.t 6) (.t 8), none⟩,
                 ⟨some 4, .mov (.t 9), none⟩])
              (.ret))⟩
def copyS : SFunc := ⟨7,
  [.tmp 2],
  .seq
            (.ops [⟨some 2, .mov (.c (.nilsl)), none⟩])
            (.seq
              (.ops [⟨some 3, .mov (.c (.nilsl)), none⟩])
              (.seq
                (.ops
                  [⟨some 4, .mov (.t 3), none⟩,
                   ⟨some 5, .mov (.t 0), none⟩,
                   ⟨some 6, .append 1 1 (.t 4) (.t 5), none⟩,
                   ⟨some 2, .mov (.t 6), none⟩])
                (.ret)))⟩
def leftS (fS : FuncId) : SFunc := ⟨50,
  [.tmp 4],
  .seq
            (.ops [⟨some 4, .mov (.c (.bool false)), none⟩])
            (.seq
              (.seq
                (.ops
                  [⟨some 6, .mov (.t 0), none⟩,
                   ⟨some 7, .mov (.t 1), none⟩,
                   ⟨some 8, .call fS [.t 6, .t 7], none⟩,
                   ⟨some 9, .un (.not) (.t 8), none⟩,
                   ⟨some 10, .mov (.t 9), none⟩,
                   ⟨some 11, .mov (.t 0), some (10, false)⟩,
                   ⟨some 12, .cap (.t 11), some (10, false)⟩,
                   ⟨some 13, .mov (.t 0), some (10, false)⟩,
                   ⟨some 14, .len (.sl) (.t 13), some (10, false)⟩,
                   ⟨some 15, .bin (.add) (.other) (.t 14) (.c (.int (.i64) 3)), some (10, false)⟩,
                   ⟨some 16, .bin (.lss) (.other) (.t 12) (.t 15), some (10, false)⟩,
                   ⟨some 17, .pick (.t 10) (.c (.bool true)) (.t 16), none⟩])
                (.cond (.t 17) (.seq (.ops [⟨some 4, .mov (.c (.bool false)), none⟩]) (.ret)) (.skip)))
              (.seq
                (.ops
                  [⟨some 18, .mov (.t 0), none⟩,
                   ⟨some 19, .mov (.t 0), none⟩,
                   ⟨some 20, .len (.sl) (.t 19), none⟩,
                   ⟨some 21, .bin (.add) (.other) (.t 20) (.c (.int (.i64) 3)), none⟩,
                   ⟨some 22, .mov (.t 0), none⟩,
                   ⟨some 23, .len (.sl) (.t 22), none⟩,
                   ⟨some 24, .bin (.add) (.other) (.t 23) (.c (.int (.i64) 3)), none⟩,
                   ⟨some 25, .slice 1 (.t 18) none (some (.t 21)) (some (.t 24)), none⟩,
                   ⟨some 5, .mov (.t 25), none⟩])
                (.seq
                  (.ops
                    [⟨some 26, .mov (.t 5), none⟩,
                     ⟨some 27, .mov (.t 0), none⟩,
                     ⟨some 28, .len (.sl) (.t 27), none⟩,
                     ⟨some 29, .idxAddrSl 1 (.t 26) (.t 28), none⟩,
                     ⟨some 30, .load false 1 (.t 29), none⟩,
                     ⟨some 31, .bin (.eql) (.other) (.t 30) (.c (.int (.u8) 9)), none⟩,
                     ⟨some 32, .mov (.t 31), none⟩,
                     ⟨some 33, .mov (.t 5), some (32, true)⟩,
                     ⟨some 34, .mov (.t 0), some (32, true)⟩,
                     ⟨some 35, .len (.sl) (.t 34), some (32, true)⟩,
                     ⟨some 36, .bin (.add) (.other) (.t 35) (.c (.int (.i64) 1)), some (32, true)⟩,
                     ⟨some 37, .idxAddrSl 1 (.t 33) (.t 36), some (32, true)⟩,
                     ⟨some 38, .load false 1 (.t 37), some (32, true)⟩,
                     ⟨some 39, .bin (.eql) (.other) (.t 38) (.c (.int (.u8) 9)), some (32, true)⟩,
                     ⟨some 40, .pick (.t 32) (.t 39) (.c (.bool false)), none⟩,
                     ⟨some 41, .mov (.t 40), none⟩,
                     ⟨some 42, .mov (.t 5), some (41, true)⟩,
                     ⟨some 43, .mov (.t 0), some (41, true)⟩,
                     ⟨some 44, .len (.sl) (.t 43), some (41, true)⟩,
                     ⟨some 45, .bin (.add) (.other) (.t 44) (.c (.int (.i64) 2)), some (41, true)⟩,
                     ⟨some 46, .idxAddrSl 1 (.t 42) (.t 45), some (41, true)⟩,
                     ⟨some 47, .load false 1 (.t 46), some (41, true)⟩,
                     ⟨some 48, .bin (.eql) (.other) (.t 47) (.c (.int (.u8) 9)), some (41, true)⟩,
                     ⟨some 49, .pick (.t 41) (.t 48) (.c (.bool false)), none⟩,
                     ⟨some 4, .mov (.t 49), none⟩])
                  (.ret))))⟩
def spoilS : SFunc := ⟨27,
  [],
  .seq
            (.ops
              [⟨some 6, .mov (.t 0), none⟩,
               ⟨some 7, .mov (.t 0), none⟩,
               ⟨some 8, .cap (.t 7), none⟩,
               ⟨some 9, .mov (.t 0), none⟩,
               ⟨some 10, .cap (.t 9), none⟩,
               ⟨some 11, .slice 1 (.t 6) none (some (.t 8)) (some (.t 10)), none⟩,
               ⟨some 4, .mov (.t 11), none⟩])
            (.seq
              (.ops [⟨some 5, .mov (.c (.int (.i64) 0)), none⟩])
              (.block
                0
                (.loop
                  (.seq
                    (.seq
                      (.ops
                        [⟨some 12, .mov (.t 5), none⟩,
                         ⟨some 13, .mov (.t 4), none⟩,
                         ⟨some 14, .len (.sl) (.t 13), none⟩,
                         ⟨some 15, .bin (.lss) (.other) (.t 12) (.t 14), none⟩])
                      (.cond (.t 15) (.skip) (.exit 0)))
                    (.seq
                      (.block
                        1
                        (.ops
                          [⟨some 18, .mov (.t 4), none⟩,
                           ⟨some 19, .mov (.t 5), none⟩,
                           ⟨some 20, .mov (.t 4), none⟩,
                           ⟨some 21, .mov (.t 5), none⟩,
                           ⟨some 22, .idxAddrSl 1 (.t 20) (.t 21), none⟩,
                           ⟨some 23, .load false 1 (.t 22), none⟩,
                           ⟨some 24, .mov (.t 1), none⟩,
                           ⟨some 25, .bin (.xor) (.other) (.t 23) (.t 24), none⟩,
                           ⟨some 26, .idxAddrSl 1 (.t 18) (.t 19), none⟩,
                           ⟨none, .store 1 (.t 26) (.t 25), none⟩]))
                      (.ops
                        [⟨some 16, .mov (.t 5), none⟩,
                         ⟨some 17, .bin (.add) (.other) (.t 16) (.c (.int (.i64) 1)), none⟩,
                         ⟨some 5, .mov (.t 17), none⟩]))))))⟩
theorem byteCells_ints (l : List Int) : byteCells (ints l) = some l := by
  induction l with
  | nil => rfl
  | cons a l ih => show (byteCells (ints l)).map (a :: ·) = _; rw [ih]; rfl
section
variable {X : Known} {SP : FuncId → Option SFunc}
theorem same_spec {f : FuncId} (hx : ∀ args h, X f args h = none) (hf : SP f = some sameS) {h : Heap} {a b : AV} {x y : List Int} (ha : BytesAt h a x) (hb : BytesAt h b y) :
    xcall X SP (.fn f) [a, b] h = some (.bool (x == y), h) := by
  rw [x_fn (hx _ _) hf]
  have fa := ha.first
  have fb := hb.first
  rcases ha with ⟨rfl, rfl⟩ | ⟨_, _, _, _, _, _, rfl, _⟩ <;> rcases hb with ⟨rfl, rfl⟩ | ⟨_, _, _, _, _, _, rfl, _⟩ <;> simp only [note_false, Int.reduceBEq, Int.reduceBNe, x_drawn, l_nil, l_op, l_guard, l_some, l_true, l_false, l_draw, readsA, x_true, x_false, x_seq, x_ops, x_cond, x_skip, x_ret, x_exit, x_block, x_then, x_thenE, x_thenR, x_blockN, x_blockR, x_blockE, s_nil, s_op, s_guard, s_some, s_true, s_false, s_put, s_put0, s_opsR, s_ret, s_norm, aop, ev, evs, List.map_cons, List.map_nil, List.cons_append, List.nil_append, List.append_nil, List.replicate, List.take_succ_cons, List.take_zero, List.take_nil, List.drop_succ_cons, List.drop_zero, List.drop_nil, Nat.zero_add, Nat.add_zero, Nat.reduceAdd, Nat.reduceMul, Nat.reduceLeDiff, Bool.false_eq_true, and_self, List.length_cons, List.length_nil, List.set_cons_zero, List.set_cons_succ, List.getD_cons_zero, List.getD_cons_succ, wantedA, List.getElem?_cons_zero, List.getElem?_cons_succ, q_t, q_f, Bool.not_true, Bool.not_false, b_add, b_sub, b_mul, b_eql, b_neq, b_lss, b_leq, b_gtr, b_geq, b_and, b_or, b_xor, b_quo, b_rem, b_shl, b_shr, unA, Option.map_some, Option.map_none, resA, tupA, Int.reduceLT, not_false_eq_true, not_true_eq_false, decide_true, decide_false, f_bool, c_bool, f_int, c_int, f_str, c_str, f_nilptr, c_nilptr, f_ptr, c_ptr, f_nilsl, c_nilsl, f_slice, c_slice, f_nilmap, c_nilmap, f_map, c_map, f_nilf, c_nilf, f_func, c_func, f_yieldf, c_yieldf, f_nilif, c_nilif, f_iface, c_iface, c_agg, List.all_cons, List.all_nil, Bool.and_true, Bool.true_and, if_true, if_false, ite_true, ite_false, fa, fb, byteCells_ints, binA, binStr]
def FreshBytes (h h' : Heap) (v : AV) (bs : List Int) : Prop :=
  (v = .nilsl ∧ bs = []) ∨ bs ≠ [] ∧ ∃ id, v = .slice id 0 bs.length bs.length false 1 ∧ h.next ≤ id ∧ h'.get id = some (.cells (ints bs) false) ∧ h'.byteAt id = true
theorem FreshBytes.new {h h' : Heap} {v : AV} {bs : List Int} (hn : FreshBytes h h' v bs) : NewBytes h h' v bs := by
  rcases hn with hn | ⟨_, id, rfl, h1, h2, h3⟩
  · exact .inl hn
  · exact .inr ⟨id, bs.length, false, rfl, Nat.le_refl _, Nat.le_refl _, h1, h2, .inr h3⟩
theorem copy_spec {f : FuncId} (hx : ∀ args h, X f args h = none) (hf : SP f = some copyS) {h : Heap} {a : AV} {x : List Int} (ha : BytesAt h a x) (hl : x.length ≤ 140737488355328) :
    ∃ v h', xcall X SP (.fn f) [a] h = some (v, h') ∧ Grow h h' ∧ FreshBytes h h' v x := by
  rw [x_fn (hx _ _) hf]
  have fa := ha.first
  have la := ha.lenA
  have hap : ∃ v h', appendA h 1 1 .nilsl a = some (v, h') ∧ Grow h h' ∧ FreshBytes h h' v x := by
    simp only [appendA, la, fa]
    by_cases hz : x.length = 0
    · exact ⟨_, _, by rw [if_pos hz], .refl _, .inl ⟨rfl, List.eq_nil_of_length_eq_zero hz⟩⟩
    · refine ⟨.slice h.next 0 x.length x.length false 1, (h.alloc (.cells (ints x) false)).note true h.next, by rw [if_neg hz, if_pos ⟨by omega, hl⟩]; simp, (Grow.alloc _ _).trans (Grow.note _ _ _), .inr ⟨fun e => hz (by rw [e]; rfl), h.next, rfl, Nat.le_refl _, (Grow.note _ _ _).get (by rw [Heap.get_alloc, if_pos rfl]), byteAt_note _ _ (by simp)⟩⟩
  obtain ⟨v, h', e, g, n⟩ := hap
  refine ⟨v, h', ?_, g, n⟩
  simp only [note_false, Int.reduceBEq, Int.reduceBNe, x_drawn, l_nil, l_op, l_guard, l_some, l_true, l_false, l_draw, readsA, x_true, x_false, x_seq, x_ops, x_cond, x_skip, x_ret, x_exit, x_block, x_then, x_thenE, x_thenR, x_blockN, x_blockR, x_blockE, s_nil, s_op, s_guard, s_some, s_true, s_false, s_put, s_put0, s_opsR, s_ret, s_norm, aop, ev, evs, List.map_cons, List.map_nil, List.cons_append, List.nil_append, List.append_nil, List.replicate, List.take_succ_cons, List.take_zero, List.take_nil, List.drop_succ_cons, List.drop_zero, List.drop_nil, Nat.zero_add, Nat.add_zero, Nat.reduceAdd, Nat.reduceMul, Nat.reduceLeDiff, Bool.false_eq_true, and_self, List.length_cons, List.length_nil, List.set_cons_zero, List.set_cons_succ, List.getD_cons_zero, List.getD_cons_succ, wantedA, List.getElem?_cons_zero, List.getElem?_cons_succ, q_t, q_f, Bool.not_true, Bool.not_false, b_add, b_sub, b_mul, b_eql, b_neq, b_lss, b_leq, b_gtr, b_geq, b_and, b_or, b_xor, b_quo, b_rem, b_shl, b_shr, unA, Option.map_some, Option.map_none, resA, tupA, Int.reduceLT, not_false_eq_true, not_true_eq_false, decide_true, decide_false, f_bool, c_bool, f_int, c_int, f_str, c_str, f_nilptr, c_nilptr, f_ptr, c_ptr, f_nilsl, c_nilsl, f_slice, c_slice, f_nilmap, c_nilmap, f_map, c_map, f_nilf, c_nilf, f_func, c_func, f_yieldf, c_yieldf, f_nilif, c_nilif, f_iface, c_iface, c_agg, List.all_cons, List.all_nil, Bool.and_true, Bool.true_and, if_true, if_false, ite_true, ite_false, e]
theorem left_spec {f fS : FuncId} (hx : ∀ args h, X f args h = none) (hx2 : ∀ args h, X fS args h = none) (hf : SP f = some (leftS fS)) (hfS : SP fS = some sameS) {h : Heap} {id off cap : Nat} {c : List AV} {ro : Bool} {b : AV} {x y : List Int} {p q r : Int}
    (hg : h.get id = some (.cells c ro)) (hle : off + x.length ≤ c.length) (ht : (c.drop off).take x.length = ints x) (hcap : x.length + 3 ≤ cap) (hcap2 : cap ≤ 9223372036854775807)
    (hp : c[off + x.length]? = some (.int .u8 p)) (hq : c[off + (x.length + 1)]? = some (.int .u8 q)) (hr : c[off + (x.length + 2)]? = some (.int .u8 r)) (hb : BytesAt h b y) :
    xcall X SP (.fn f) [.slice id off x.length cap true 1, b] h = some (.bool ((x == y) && ((p == 9) && ((q == 9) && (r == 9)))), h) := by
  rw [x_fn (hx _ _) hf]
  have hv : BytesAt h (.slice id off x.length cap true 1) x := .inr ⟨id, off, cap, true, c, ro, rfl, by omega, hg, hle, ht⟩
  have es := same_spec (X := X) (SP := SP) hx2 hfS hv hb
  have w1 : IntKind.i64.wrap ((x.length : Int) + 1) = ((x.length + 1 : Nat) : Int) := by rw [IntWalk.i64_in _ (by omega)]; simp
  have w2 : IntKind.i64.wrap ((x.length : Int) + 2) = ((x.length + 2 : Nat) : Int) := by rw [IntWalk.i64_in _ (by omega)]; simp
  have w3 : IntKind.i64.wrap ((x.length : Int) + 3) = ((x.length + 3 : Nat) : Int) := by rw [IntWalk.i64_in _ (by omega)]; simp
  have hc : ¬ ((cap : Int) < ((x.length + 3 : Nat) : Int)) := by omega
  have hsl : sliceA 1 (.slice id off x.length cap true 1) none (some (.int .i64 ((x.length + 3 : Nat) : Int))) (some (.int .i64 ((x.length + 3 : Nat) : Int))) = some (.slice id off (x.length + 3) (x.length + 3) true 1) := by
    have hb0 := bd_hm (k' := .i64) (k'' := .i64) (len := x.length) hcap (Nat.le_refl (x.length + 3))
    simp only [sliceA, hb0, if_true, Nat.zero_mul, Nat.add_zero, Nat.sub_zero, Bool.true_or]
  have l0 : loadA h false 1 id (off + x.length) = some (.int .u8 p) := by rw [load_of hg]; exact hp
  have l1 : loadA h false 1 id (off + (x.length + 1)) = some (.int .u8 q) := by rw [load_of hg]; exact hq
  have l2 : loadA h false 1 id (off + (x.length + 2)) = some (.int .u8 r) := by rw [load_of hg]; exact hr
  have i0 : (0 : Int) ≤ (x.length : Int) ∧ (x.length : Int) < ((x.length + 3 : Nat) : Int) := by omega
  have i1 : (0 : Int) ≤ ((x.length + 1 : Nat) : Int) ∧ ((x.length + 1 : Nat) : Int) < ((x.length + 3 : Nat) : Int) := by omega
  have i2 : (0 : Int) ≤ ((x.length + 2 : Nat) : Int) ∧ ((x.length + 2 : Nat) : Int) < ((x.length + 3 : Nat) : Int) := by omega
  have n0 : (x.length : Int).toNat * 1 = x.length := by omega
  have n1 : ((x.length + 1 : Nat) : Int).toNat * 1 = x.length + 1 := by omega
  have n2 : ((x.length + 2 : Nat) : Int).toNat * 1 = x.length + 2 := by omega
  cases hxy : (x == y)
  · rw [hxy] at es
    simp only [note_false, Int.reduceBEq, Int.reduceBNe, x_drawn, l_nil, l_op, l_guard, l_some, l_true, l_false, l_draw, readsA, x_true, x_false, x_seq, x_ops, x_cond, x_skip, x_ret, x_exit, x_block, x_then, x_thenE, x_thenR, x_blockN, x_blockR, x_blockE, s_nil, s_op, s_guard, s_some, s_true, s_false, s_put, s_put0, s_opsR, s_ret, s_norm, aop, ev, evs, List.map_cons, List.map_nil, List.cons_append, List.nil_append, List.append_nil, List.replicate, List.take_succ_cons, List.take_zero, List.take_nil, List.drop_succ_cons, List.drop_zero, List.drop_nil, Nat.zero_add, Nat.add_zero, Nat.reduceAdd, Nat.reduceMul, Nat.reduceLeDiff, Bool.false_eq_true, and_self, List.length_cons, List.length_nil, List.set_cons_zero, List.set_cons_succ, List.getD_cons_zero, List.getD_cons_succ, wantedA, List.getElem?_cons_zero, List.getElem?_cons_succ, q_t, q_f, Bool.not_true, Bool.not_false, b_add, b_sub, b_mul, b_eql, b_neq, b_lss, b_leq, b_gtr, b_geq, b_and, b_or, b_xor, b_quo, b_rem, b_shl, b_shr, unA, Option.map_some, Option.map_none, resA, tupA, Int.reduceLT, not_false_eq_true, not_true_eq_false, decide_true, decide_false, f_bool, c_bool, f_int, c_int, f_str, c_str, f_nilptr, c_nilptr, f_ptr, c_ptr, f_nilsl, c_nilsl, f_slice, c_slice, f_nilmap, c_nilmap, f_map, c_map, f_nilf, c_nilf, f_func, c_func, f_yieldf, c_yieldf, f_nilif, c_nilif, f_iface, c_iface, c_agg, List.all_cons, List.all_nil, Bool.and_true, Bool.true_and, if_true, if_false, ite_true, ite_false, es, Bool.false_and]
  · rw [hxy] at es
    cases hpp : (p == 9)
    · simp only [note_false, Int.reduceBEq, Int.reduceBNe, x_drawn, l_nil, l_op, l_guard, l_some, l_true, l_false, l_draw, readsA, x_true, x_false, x_seq, x_ops, x_cond, x_skip, x_ret, x_exit, x_block, x_then, x_thenE, x_thenR, x_blockN, x_blockR, x_blockE, s_nil, s_op, s_guard, s_some, s_true, s_false, s_put, s_put0, s_opsR, s_ret, s_norm, aop, ev, evs, List.map_cons, List.map_nil, List.cons_append, List.nil_append, List.append_nil, List.replicate, List.take_succ_cons, List.take_zero, List.take_nil, List.drop_succ_cons, List.drop_zero, List.drop_nil, Nat.zero_add, Nat.add_zero, Nat.reduceAdd, Nat.reduceMul, Nat.reduceLeDiff, Bool.false_eq_true, and_self, List.length_cons, List.length_nil, List.set_cons_zero, List.set_cons_succ, List.getD_cons_zero, List.getD_cons_succ, wantedA, List.getElem?_cons_zero, List.getElem?_cons_succ, q_t, q_f, Bool.not_true, Bool.not_false, b_add, b_sub, b_mul, b_eql, b_neq, b_lss, b_leq, b_gtr, b_geq, b_and, b_or, b_xor, b_quo, b_rem, b_shl, b_shr, unA, Option.map_some, Option.map_none, resA, tupA, Int.reduceLT, not_false_eq_true, not_true_eq_false, decide_true, decide_false, f_bool, c_bool, f_int, c_int, f_str, c_str, f_nilptr, c_nilptr, f_ptr, c_ptr, f_nilsl, c_nilsl, f_slice, c_slice, f_nilmap, c_nilmap, f_map, c_map, f_nilf, c_nilf, f_func, c_func, f_yieldf, c_yieldf, f_nilif, c_nilif, f_iface, c_iface, c_agg, List.all_cons, List.all_nil, Bool.and_true, Bool.true_and, if_true, if_false, ite_true, ite_false, es, w1, w2, w3, hc, hsl, l0, l1, l2, i0, i1, i2, n0, n1, n2, hpp, Bool.true_and, Bool.false_and]
    · cases hqq : (q == 9)
      · simp only [note_false, Int.reduceBEq, Int.reduceBNe, x_drawn, l_nil, l_op, l_guard, l_some, l_true, l_false, l_draw, readsA, x_true, x_false, x_seq, x_ops, x_cond, x_skip, x_ret, x_exit, x_block, x_then, x_thenE, x_thenR, x_blockN, x_blockR, x_blockE, s_nil, s_op, s_guard, s_some, s_true, s_false, s_put, s_put0, s_opsR, s_ret, s_norm, aop, ev, evs, List.map_cons, List.map_nil, List.cons_append, List.nil_append, List.append_nil, List.replicate, List.take_succ_cons, List.take_zero, List.take_nil, List.drop_succ_cons, List.drop_zero, List.drop_nil, Nat.zero_add, Nat.add_zero, Nat.reduceAdd, Nat.reduceMul, Nat.reduceLeDiff, Bool.false_eq_true, and_self, List.length_cons, List.length_nil, List.set_cons_zero, List.set_cons_succ, List.getD_cons_zero, List.getD_cons_succ, wantedA, List.getElem?_cons_zero, List.getElem?_cons_succ, q_t, q_f, Bool.not_true, Bool.not_false, b_add, b_sub, b_mul, b_eql, b_neq, b_lss, b_leq, b_gtr, b_geq, b_and, b_or, b_xor, b_quo, b_rem, b_shl, b_shr, unA, Option.map_some, Option.map_none, resA, tupA, Int.reduceLT, not_false_eq_true, not_true_eq_false, decide_true, decide_false, f_bool, c_bool, f_int, c_int, f_str, c_str, f_nilptr, c_nilptr, f_ptr, c_ptr, f_nilsl, c_nilsl, f_slice, c_slice, f_nilmap, c_nilmap, f_map, c_map, f_nilf, c_nilf, f_func, c_func, f_yieldf, c_yieldf, f_nilif, c_nilif, f_iface, c_iface, c_agg, List.all_cons, List.all_nil, Bool.and_true, Bool.true_and, if_true, if_false, ite_true, ite_false, es, w1, w2, w3, hc, hsl, l0, l1, l2, i0, i1, i2, n0, n1, n2, hpp, hqq, Bool.true_and, Bool.false_and]
      · simp only [note_false, Int.reduceBEq, Int.reduceBNe, x_drawn, l_nil, l_op, l_guard, l_some, l_true, l_false, l_draw, readsA, x_true, x_false, x_seq, x_ops, x_cond, x_skip, x_ret, x_exit, x_block, x_then, x_thenE, x_thenR, x_blockN, x_blockR, x_blockE, s_nil, s_op, s_guard, s_some, s_true, s_false, s_put, s_put0, s_opsR, s_ret, s_norm, aop, ev, evs, List.map_cons, List.map_nil, List.cons_append, List.nil_append, List.append_nil, List.replicate, List.take_succ_cons, List.take_zero, List.take_nil, List.drop_succ_cons, List.drop_zero, List.drop_nil, Nat.zero_add, Nat.add_zero, Nat.reduceAdd, Nat.reduceMul, Nat.reduceLeDiff, Bool.false_eq_true, and_self, List.length_cons, List.length_nil, List.set_cons_zero, List.set_cons_succ, List.getD_cons_zero, List.getD_cons_succ, wantedA, List.getElem?_cons_zero, List.getElem?_cons_succ, q_t, q_f, Bool.not_true, Bool.not_false, b_add, b_sub, b_mul, b_eql, b_neq, b_lss, b_leq, b_gtr, b_geq, b_and, b_or, b_xor, b_quo, b_rem, b_shl, b_shr, unA, Option.map_some, Option.map_none, resA, tupA, Int.reduceLT, not_false_eq_true, not_true_eq_false, decide_true, decide_false, f_bool, c_bool, f_int, c_int, f_str, c_str, f_nilptr, c_nilptr, f_ptr, c_ptr, f_nilsl, c_nilsl, f_slice, c_slice, f_nilmap, c_nilmap, f_map, c_map, f_nilf, c_nilf, f_func, c_func, f_yieldf, c_yieldf, f_nilif, c_nilif, f_iface, c_iface, c_agg, List.all_cons, List.all_nil, Bool.and_true, Bool.true_and, if_true, if_false, ite_true, ite_false, es, w1, w2, w3, hc, hsl, l0, l1, l2, i0, i1, i2, n0, n1, n2, hpp, hqq, Bool.true_and, Bool.false_and]
def spoiled (by_ n : Int) : Int := IntKind.u8.wrap ((BitVec.ofInt IntKind.u8.bits n ^^^ BitVec.ofInt IntKind.u8.bits by_).toNat)
def spoilB : SC := match spoilS.body with
  | .seq _ (.seq _ (.block _ (.loop l))) => l
  | _ => .skip
def SpoilT (by_ : Int) (w : AV) (i : Nat) (tm : List AV) : Prop := tm.length = 27 ∧ tm[1]? = some (.int .u8 by_) ∧ tm[4]? = some w ∧ tm[5]? = some (.int .i64 (i : Nat))
theorem spoil_round {f : FuncId} {by_ : Int} {id off cap : Nat} (hcap2 : cap ≤ 9223372036854775807) {i : Nat} (hi : i < cap) {tm : List AV} (ht : SpoilT by_ (.slice id off cap cap true 1) i tm) {g : Heap} {c : List AV} {n : Int} (hg : g.get id = some (.cells c false)) (hn : c[off + i]? = some (.int .u8 n)) :
    ∃ tm', xcode X SP f none (.loop spoilB) tm g = xcode X SP f none (.loop spoilB) tm' (g.set id (.cells (splice c (off + i) [.int .u8 (spoiled by_ n)]) false)) ∧ SpoilT by_ (.slice id off cap cap true 1) (i + 1) tm' := by
  match tm, ht with
  | a0 :: a1 :: a2 :: a3 :: a4 :: a5 :: a6 :: a7 :: a8 :: a9 :: a10 :: a11 :: a12 :: a13 :: a14 :: a15 :: a16 :: a17 :: a18 :: a19 :: a20 :: a21 :: a22 :: a23 :: a24 :: a25 :: a26 :: [], ht =>
  obtain ⟨_, t1, t4, t5⟩ := ht
  simp only [List.getElem?_cons_zero, List.getElem?_cons_succ, Option.some.injEq] at t1 t4 t5
  subst t1 t4 t5
  have hlt : off + i < c.length := by
    rcases Nat.lt_or_ge (off + i) c.length with h | h
    · exact h
    · rw [List.getElem?_eq_none h] at hn; cases hn
  have hw : IntKind.i64.wrap ((i : Int) + 1) = ((i + 1 : Nat) : Int) := by rw [IntWalk.i64_in _ (by omega)]; simp
  have hi' : (i : Int) < (cap : Int) := by omega
  have h0 : (0 : Int) ≤ (i : Int) ∧ (i : Int) < (cap : Int) := by omega
  have n0 : (i : Int).toNat * 1 = i := by simp
  have ld : loadA g false 1 id (off + i) = some (.int .u8 n) := by rw [load_of hg]; exact hn
  have st : storeA g id (off + i) [.int .u8 (IntKind.u8.wrap ((BitVec.ofInt IntKind.u8.bits n ^^^ BitVec.ofInt IntKind.u8.bits by_).toNat))] = some (g.set id (.cells (splice c (off + i) [.int .u8 (spoiled by_ n)]) false)) :=
    store_of hg (by simp; omega)
  refine ⟨?tm, ?run, ?sh⟩
  case run =>
    rw [show ∀ tm h, xcode X SP f none (.loop spoilB) tm h = thenX X SP f none (.loop spoilB) (xcode X SP f none spoilB tm h) from fun _ _ => x_loop]
    delta spoilB spoilS
    simp only [note_false, Int.reduceBEq, Int.reduceBNe, x_drawn, l_nil, l_op, l_guard, l_some, l_true, l_false, l_draw, readsA, x_true, x_false, x_seq, x_ops, x_cond, x_skip, x_ret, x_exit, x_block, x_then, x_thenE, x_thenR, x_blockN, x_blockR, x_blockE, s_nil, s_op, s_guard, s_some, s_true, s_false, s_put, s_put0, s_opsR, s_ret, s_norm, aop, ev, evs, List.map_cons, List.map_nil, List.cons_append, List.nil_append, List.append_nil, List.replicate, List.take_succ_cons, List.take_zero, List.take_nil, List.drop_succ_cons, List.drop_zero, List.drop_nil, Nat.zero_add, Nat.add_zero, Nat.reduceAdd, Nat.reduceMul, Nat.reduceLeDiff, Bool.false_eq_true, and_self, List.length_cons, List.length_nil, List.set_cons_zero, List.set_cons_succ, List.getD_cons_zero, List.getD_cons_succ, wantedA, List.getElem?_cons_zero, List.getElem?_cons_succ, q_t, q_f, Bool.not_true, Bool.not_false, b_add, b_sub, b_mul, b_eql, b_neq, b_lss, b_leq, b_gtr, b_geq, b_and, b_or, b_xor, b_quo, b_rem, b_shl, b_shr, unA, Option.map_some, Option.map_none, resA, tupA, Int.reduceLT, not_false_eq_true, not_true_eq_false, decide_true, decide_false, f_bool, c_bool, f_int, c_int, f_str, c_str, f_nilptr, c_nilptr, f_ptr, c_ptr, f_nilsl, c_nilsl, f_slice, c_slice, f_nilmap, c_nilmap, f_map, c_map, f_nilf, c_nilf, f_func, c_func, f_yieldf, c_yieldf, f_nilif, c_nilif, f_iface, c_iface, c_agg, List.all_cons, List.all_nil, Bool.and_true, Bool.true_and, if_true, if_false, ite_true, ite_false, hw, hi', h0, n0, ld, st]
    rfl
  case sh => exact ⟨rfl, rfl, rfl, rfl⟩
theorem spoil_out {f : FuncId} {by_ : Int} {id off cap : Nat} {tm : List AV} (ht : SpoilT by_ (.slice id off cap cap true 1) cap tm) (g : Heap) :
    ∃ tm', xcode X SP f none (.loop spoilB) tm g = some (.exit 0, tm', g) := by
  match tm, ht with
  | a0 :: a1 :: a2 :: a3 :: a4 :: a5 :: a6 :: a7 :: a8 :: a9 :: a10 :: a11 :: a12 :: a13 :: a14 :: a15 :: a16 :: a17 :: a18 :: a19 :: a20 :: a21 :: a22 :: a23 :: a24 :: a25 :: a26 :: [], ht =>
  obtain ⟨_, t1, t4, t5⟩ := ht
  simp only [List.getElem?_cons_zero, List.getElem?_cons_succ, Option.some.injEq] at t1 t4 t5
  subst t1 t4 t5
  refine ⟨?tm, ?run⟩
  case run =>
    rw [show ∀ tm h, xcode X SP f none (.loop spoilB) tm h = thenX X SP f none (.loop spoilB) (xcode X SP f none spoilB tm h) from fun _ _ => x_loop]
    delta spoilB spoilS
    simp only [note_false, Int.reduceBEq, Int.reduceBNe, x_drawn, l_nil, l_op, l_guard, l_some, l_true, l_false, l_draw, readsA, x_true, x_false, x_seq, x_ops, x_cond, x_skip, x_ret, x_exit, x_block, x_then, x_thenE, x_thenR, x_blockN, x_blockR, x_blockE, s_nil, s_op, s_guard, s_some, s_true, s_false, s_put, s_put0, s_opsR, s_ret, s_norm, aop, ev, evs, List.map_cons, List.map_nil, List.cons_append, List.nil_append, List.append_nil, List.replicate, List.take_succ_cons, List.take_zero, List.take_nil, List.drop_succ_cons, List.drop_zero, List.drop_nil, Nat.zero_add, Nat.add_zero, Nat.reduceAdd, Nat.reduceMul, Nat.reduceLeDiff, Bool.false_eq_true, and_self, List.length_cons, List.length_nil, List.set_cons_zero, List.set_cons_succ, List.getD_cons_zero, List.getD_cons_succ, wantedA, List.getElem?_cons_zero, List.getElem?_cons_succ, q_t, q_f, Bool.not_true, Bool.not_false, b_add, b_sub, b_mul, b_eql, b_neq, b_lss, b_leq, b_gtr, b_geq, b_and, b_or, b_xor, b_quo, b_rem, b_shl, b_shr, unA, Option.map_some, Option.map_none, resA, tupA, Int.reduceLT, not_false_eq_true, not_true_eq_false, decide_true, decide_false, f_bool, c_bool, f_int, c_int, f_str, c_str, f_nilptr, c_nilptr, f_ptr, c_ptr, f_nilsl, c_nilsl, f_slice, c_slice, f_nilmap, c_nilmap, f_map, c_map, f_nilf, c_nilf, f_func, c_func, f_yieldf, c_yieldf, f_nilif, c_nilif, f_iface, c_iface, c_agg, List.all_cons, List.all_nil, Bool.and_true, Bool.true_and, if_true, if_false, ite_true, ite_false, Int.lt_irrefl]
    rfl
theorem spoil_loop {f : FuncId} {by_ : Int} {id off cap : Nat} (hcap2 : cap ≤ 9223372036854775807) (A B : List AV) (hA : A.length = off) : ∀ (L2 L1 : List Int) (tm : List AV) (g : Heap), L1.length + L2.length = cap → SpoilT by_ (.slice id off cap cap true 1) L1.length tm →
    g.get id = some (.cells (A ++ (ints (L1.map (spoiled by_)) ++ (ints L2 ++ B))) false) →
    ∃ tm' g', xcode X SP f none (.loop spoilB) tm g = some (.exit 0, tm', g') ∧ g'.next = g.next ∧ g'.get id = some (.cells (A ++ (ints ((L1 ++ L2).map (spoiled by_)) ++ B)) false) ∧ ∀ j, j ≠ id → g'.get j = g.get j
  | [], L1, tm, g, hl, ht, hg => by
    simp only [List.length_nil, Nat.add_zero] at hl
    rw [hl] at ht
    obtain ⟨tm', e⟩ := spoil_out (X := X) (SP := SP) (f := f) ht g
    exact ⟨tm', g, e, rfl, by simpa [ints] using hg, fun _ _ => rfl⟩
  | n :: L2, L1, tm, g, hl, ht, hg => by
    simp only [List.length_cons] at hl
    have hid := Heap.lt_of_get hg
    obtain ⟨tm', e, ht'⟩ := spoil_round (X := X) (SP := SP) (f := f) hcap2 (i := L1.length) (by omega) ht hg (n := n) (by
      rw [List.getElem?_append_right (by omega), List.getElem?_append_right (by simp; omega)]
      simp [ints, hA])
    have hsp : splice (A ++ (ints (L1.map (spoiled by_)) ++ (ints (n :: L2) ++ B))) (off + L1.length) [.int .u8 (spoiled by_ n)] = A ++ (ints ((L1 ++ [n]).map (spoiled by_)) ++ (ints L2 ++ B)) := by
      unfold splice
      have h1 : (A ++ ints (L1.map (spoiled by_))).length = off + L1.length := by simp [hA]
      have h2 : A ++ (ints (L1.map (spoiled by_)) ++ (ints (n :: L2) ++ B)) = (A ++ ints (L1.map (spoiled by_))) ++ (.int .u8 n :: (ints L2 ++ B)) := by simp [ints]
      rw [h2, ← h1, List.take_left, List.drop_append, List.drop_eq_nil_of_le (by simp)]
      simp [ints]
    rw [hsp] at e
    obtain ⟨tm2, g2, e2, k1, k2, k3⟩ := spoil_loop hcap2 A B hA L2 (L1 ++ [n]) tm' _ (by simp; omega) (by simpa using ht') (by rw [get_set, if_pos rfl, if_pos hid])
    refine ⟨tm2, g2, e.trans e2, by simpa using k1, by simpa using k2, fun j hj => ?_⟩
    rw [k3 j hj, get_set, if_neg hj]
theorem spoil_spec {f : FuncId} (hx : ∀ args h, X f args h = none) (hf : SP f = some spoilS) {h : Heap} {id off len cap : Nat} (by_ : Int) (hcap2 : cap ≤ 9223372036854775807) (A B : List AV) (L : List Int) (hA : A.length = off) (hL : L.length = cap)
    (hg : h.get id = some (.cells (A ++ (ints L ++ B)) false)) :
    ∃ h', xcall X SP (.fn f) [.slice id off len cap true 1, .int .u8 by_] h = some (undefA, h') ∧ h'.next = h.next ∧ h'.get id = some (.cells (A ++ (ints (L.map (spoiled by_)) ++ B)) false) ∧ ∀ j, j ≠ id → h'.get j = h.get j := by
  have hsl : sliceA 1 (.slice id off len cap true 1) none (some (.int .i64 (cap : Int))) (some (.int .i64 (cap : Int))) = some (.slice id off cap cap true 1) := by
    simp [sliceA, bd_hm (k' := .i64) (k'' := .i64) (len := len) (Nat.le_refl cap) (Nat.le_refl cap)]
  obtain ⟨tm', h', e, k1, k2, k3⟩ := spoil_loop (X := X) (SP := SP) (f := f) (by_ := by_) (id := id) (off := off) (cap := cap) hcap2 A B hA L [] [.slice id off len cap true 1, .int .u8 by_, undefA, undefA, .slice id off cap cap true 1, .int .i64 0, .slice id off len cap true 1, .slice id off len cap true 1, .int .i64 cap, .slice id off len cap true 1, .int .i64 cap, .slice id off cap cap true 1, undefA, undefA, undefA, undefA, undefA, undefA, undefA, undefA, undefA, undefA, undefA, undefA, undefA, undefA, undefA] h (by simpa using hL) ⟨rfl, rfl, rfl, rfl⟩ (by simpa [ints] using hg)
  refine ⟨h', ?_, k1, by simpa using k2, k3⟩
  rw [x_fn (hx _ _) (show SP f = some ⟨27, [], .seq (.ops [⟨some 6, .mov (.t 0), none⟩, ⟨some 7, .mov (.t 0), none⟩, ⟨some 8, .cap (.t 7), none⟩, ⟨some 9, .mov (.t 0), none⟩, ⟨some 10, .cap (.t 9), none⟩, ⟨some 11, .slice 1 (.t 6) none (some (.t 8)) (some (.t 10)), none⟩, ⟨some 4, .mov (.t 11), none⟩]) (.seq (.ops [⟨some 5, .mov (.c (.int (.i64) 0)), none⟩]) (.block 0 (.loop spoilB)))⟩ from hf)]
  simp only [note_false, Int.reduceBEq, Int.reduceBNe, x_drawn, l_nil, l_op, l_guard, l_some, l_true, l_false, l_draw, readsA, x_true, x_false, x_seq, x_ops, x_cond, x_skip, x_ret, x_exit, x_block, x_then, x_thenE, x_thenR, x_blockN, x_blockR, x_blockE, s_nil, s_op, s_guard, s_some, s_true, s_false, s_put, s_put0, s_opsR, s_ret, s_norm, aop, ev, evs, List.map_cons, List.map_nil, List.cons_append, List.nil_append, List.append_nil, List.replicate, List.take_succ_cons, List.take_zero, List.take_nil, List.drop_succ_cons, List.drop_zero, List.drop_nil, Nat.zero_add, Nat.add_zero, Nat.reduceAdd, Nat.reduceMul, Nat.reduceLeDiff, Bool.false_eq_true, and_self, List.length_cons, List.length_nil, List.set_cons_zero, List.set_cons_succ, List.getD_cons_zero, List.getD_cons_succ, wantedA, List.getElem?_cons_zero, List.getElem?_cons_succ, q_t, q_f, Bool.not_true, Bool.not_false, b_add, b_sub, b_mul, b_eql, b_neq, b_lss, b_leq, b_gtr, b_geq, b_and, b_or, b_xor, b_quo, b_rem, b_shl, b_shr, unA, Option.map_some, Option.map_none, resA, tupA, Int.reduceLT, not_false_eq_true, not_true_eq_false, decide_true, decide_false, f_bool, c_bool, f_int, c_int, f_str, c_str, f_nilptr, c_nilptr, f_ptr, c_ptr, f_nilsl, c_nilsl, f_slice, c_slice, f_nilmap, c_nilmap, f_map, c_map, f_nilf, c_nilf, f_func, c_func, f_yieldf, c_yieldf, f_nilif, c_nilif, f_iface, c_iface, c_agg, List.all_cons, List.all_nil, Bool.and_true, Bool.true_and, if_true, if_false, ite_true, ite_false, hsl, e, resA]
theorem spoil_nil {f : FuncId} (hx : ∀ args h, X f args h = none) (hf : SP f = some spoilS) (h : Heap) (by_ : Int) : xcall X SP (.fn f) [.nilsl, .int .u8 by_] h = some (undefA, h) := by
  rw [x_fn (hx _ _) (show SP f = some ⟨27, [], .seq (.ops [⟨some 6, .mov (.t 0), none⟩, ⟨some 7, .mov (.t 0), none⟩, ⟨some 8, .cap (.t 7), none⟩, ⟨some 9, .mov (.t 0), none⟩, ⟨some 10, .cap (.t 9), none⟩, ⟨some 11, .slice 1 (.t 6) none (some (.t 8)) (some (.t 10)), none⟩, ⟨some 4, .mov (.t 11), none⟩]) (.seq (.ops [⟨some 5, .mov (.c (.int (.i64) 0)), none⟩]) (.block 0 (.loop spoilB)))⟩ from hf)]
  have hsl : sliceA 1 .nilsl none (some (.int .i64 0)) (some (.int .i64 0)) = some .nilsl := rfl
  simp only [note_false, Int.reduceBEq, Int.reduceBNe, x_drawn, l_nil, l_op, l_guard, l_some, l_true, l_false, l_draw, readsA, x_true, x_false, x_seq, x_ops, x_cond, x_skip, x_ret, x_exit, x_block, x_then, x_thenE, x_thenR, x_blockN, x_blockR, x_blockE, s_nil, s_op, s_guard, s_some, s_true, s_false, s_put, s_put0, s_opsR, s_ret, s_norm, aop, ev, evs, List.map_cons, List.map_nil, List.cons_append, List.nil_append, List.append_nil, List.replicate, List.take_succ_cons, List.take_zero, List.take_nil, List.drop_succ_cons, List.drop_zero, List.drop_nil, Nat.zero_add, Nat.add_zero, Nat.reduceAdd, Nat.reduceMul, Nat.reduceLeDiff, Bool.false_eq_true, and_self, List.length_cons, List.length_nil, List.set_cons_zero, List.set_cons_succ, List.getD_cons_zero, List.getD_cons_succ, wantedA, List.getElem?_cons_zero, List.getElem?_cons_succ, q_t, q_f, Bool.not_true, Bool.not_false, b_add, b_sub, b_mul, b_eql, b_neq, b_lss, b_leq, b_gtr, b_geq, b_and, b_or, b_xor, b_quo, b_rem, b_shl, b_shr, unA, Option.map_some, Option.map_none, resA, tupA, Int.reduceLT, not_false_eq_true, not_true_eq_false, decide_true, decide_false, f_bool, c_bool, f_int, c_int, f_str, c_str, f_nilptr, c_nilptr, f_ptr, c_ptr, f_nilsl, c_nilsl, f_slice, c_slice, f_nilmap, c_nilmap, f_map, c_map, f_nilf, c_nilf, f_func, c_func, f_yieldf, c_yieldf, f_nilif, c_nilif, f_iface, c_iface, c_agg, List.all_cons, List.all_nil, Bool.and_true, Bool.true_and, if_true, if_false, ite_true, ite_false, hsl]
  rw [show ∀ tm h, xcode X SP f none (.loop spoilB) tm h = thenX X SP f none (.loop spoilB) (xcode X SP f none spoilB tm h) from fun _ _ => x_loop]
  delta spoilB spoilS
  simp (decide := true) only [note_false, Int.reduceBEq, Int.reduceBNe, x_drawn, l_nil, l_op, l_guard, l_some, l_true, l_false, l_draw, readsA, x_true, x_false, x_seq, x_ops, x_cond, x_skip, x_ret, x_exit, x_block, x_then, x_thenE, x_thenR, x_blockN, x_blockR, x_blockE, s_nil, s_op, s_guard, s_some, s_true, s_false, s_put, s_put0, s_opsR, s_ret, s_norm, aop, ev, evs, List.map_cons, List.map_nil, List.cons_append, List.nil_append, List.append_nil, List.replicate, List.take_succ_cons, List.take_zero, List.take_nil, List.drop_succ_cons, List.drop_zero, List.drop_nil, Nat.zero_add, Nat.add_zero, Nat.reduceAdd, Nat.reduceMul, Nat.reduceLeDiff, Bool.false_eq_true, and_self, List.length_cons, List.length_nil, List.set_cons_zero, List.set_cons_succ, List.getD_cons_zero, List.getD_cons_succ, wantedA, List.getElem?_cons_zero, List.getElem?_cons_succ, q_t, q_f, Bool.not_true, Bool.not_false, b_add, b_sub, b_mul, b_eql, b_neq, b_lss, b_leq, b_gtr, b_geq, b_and, b_or, b_xor, b_quo, b_rem, b_shl, b_shr, unA, Option.map_some, Option.map_none, resA, tupA, Int.reduceLT, not_false_eq_true, not_true_eq_false, decide_true, decide_false, f_bool, c_bool, f_int, c_int, f_str, c_str, f_nilptr, c_nilptr, f_ptr, c_ptr, f_nilsl, c_nilsl, f_slice, c_slice, f_nilmap, c_nilmap, f_map, c_map, f_nilf, c_nilf, f_func, c_func, f_yieldf, c_yieldf, f_nilif, c_nilif, f_iface, c_iface, c_agg, List.all_cons, List.all_nil, Bool.and_true, Bool.true_and, if_true, if_false, ite_true, ite_false, resA]
end
end Go.Ya
namespace Go.Ya
set_option linter.unusedVariables false
set_option linter.unusedSimpArgs false
theorem byteCells_eq : ∀ {l : List AV} {bs : List Int}, byteCells l = some bs → l = ints bs
  | [], bs, e => by simp [byteCells] at e; subst e; rfl
  | a :: l, bs, e => by
    unfold byteCells at e
    split at e
    · rename_i h; cases h
    · rename_i n r h
      cases h
      simp only [Option.map_eq_some_iff] at e
      obtain ⟨bs', e1, rfl⟩ := e
      rw [byteCells_eq e1]; rfl
    · cases e
def bytesA (h : Heap) (v : AV) : Option (List Int) := match v with
  | .nilsl => some []
  | .slice id off len cap ex esz => match firstA h 1 len (.slice id off len cap ex esz) with
    | some l => byteCells l
    | none => none
  | _ => none
theorem BytesAt.bytesA {h : Heap} {v : AV} {bs : List Int} (hb : BytesAt h v bs) : bytesA h v = some bs := by
  have hf := hb.first
  rcases hb with ⟨rfl, rfl⟩ | ⟨id, off, cap, ex, c, ro, rfl, e2, e3, e4, e5⟩
  · rfl
  · simp only [Go.Ya.bytesA, hf, byteCells_ints]
theorem bytesA_slice {h : Heap} {id off len cap esz : Nat} {ex : Bool} {bs : List Int} (e : bytesA h (.slice id off len cap ex esz) = some bs) : esz = 1 ∧ bs.length = len ∧ ∃ c ro, h.get id = some (.cells c ro) ∧ off + len ≤ c.length ∧ (c.drop off).take len = ints bs := by
  simp only [bytesA] at e
  split at e
  · rename_i l hl
    unfold firstA at hl
    simp only at hl
    split at hl
    · rename_i he
      split at hl
      · rename_i c ro hg
        split at hl
        · rename_i hle
          cases hl
          have := byteCells_eq e
          rw [Nat.mul_one] at this hle
          have hlen := congrArg List.length this
          simp at hlen
          exact ⟨he.symm, by omega, c, ro, hg, hle, this⟩
        · cases hl
      · cases hl
    · cases hl
  · cases e
def noK : Known := fun _ _ _ => none
def leftK (f : FuncId) : Known := fun g args h => if g = f then
    match args with
    | [.slice id off len cap false 1, b] =>
      if len + 3 ≤ cap then
        match bytesA h (.slice id off len cap false 1), bytesA h b, bytesA h (.slice id (off + len) 3 3 false 1) with
        | some x, some y, some [p, q, r] => some (.bool ((x == y) && ((p == 9) && ((q == 9) && (r == 9)))), h)
        | _, _, _ => none
      else none
    | _ => none
  else none
theorem leftK_ok {P : Program} {SP : FuncId → Option SFunc} (hSP : Conv P SP) (hmix : P.follows .mixedOrders = true) {f fS : FuncId} (hf : SP f = some (leftS fS)) (hfS : SP fS = some sameS) : XOk P (leftK f) := by
  intro g args h v h' e μ w args' s hvs
  unfold leftK at e
  split at e
  · rename_i hg
    subst hg
    split at e
    · rename_i id off len cap b
      split at e
      · rename_i hcap
        split at e
        · rename_i x y p q r e1 e2 e3
          cases e
          obtain ⟨_, l1, c, ro, gc, le1, t1⟩ := bytesA_slice e1
          obtain ⟨_, _, c', ro', gc', le3, t3⟩ := bytesA_slice e3
          rw [gc] at gc'; cases gc'
          subst l1
          generalize hA : args'.toList = al at hvs
          cases hvs with
          | cons _ v0 _ vs0 hv0 hvs1 =>
            cases hvs1 with
            | cons _ b0 _ vs1 hb0 hnil =>
              cases hnil
              cases hv0 with
              | slice _ _ _ _ _ _ a cap' g1 g2 g3 g4 g5 g6 =>
                have hb : BytesAt h b y := by
                  cases b with
                  | nilsl => simp [bytesA] at e2; exact .inl ⟨rfl, e2⟩
                  | slice i o l cp ex esz =>
                    obtain ⟨rfl, rfl, cc, rr, q1, q2, q3⟩ := bytesA_slice e2
                    cases hb0
                    exact .inr ⟨i, o, cp, ex, cc, rr, rfl, by assumption, q1, q2, q3⟩
                  | _ => simp [bytesA] at e2
                have h3 : ∀ i, i < 3 → c[off + (x.length + i)]? = (ints [p, q, r])[i]? := fun i hi => by
                  rw [← t3, List.getElem?_take, if_pos hi, List.getElem?_drop]; congr 1; omega
                have run := left_spec (X := noK) (SP := SP) (fun _ _ => rfl) (fun _ _ => rfl) hf hfS (cap := cap') gc le1 t1 (by omega) g5 (h3 0 (by omega)) (h3 1 (by omega)) (h3 2 (by omega)) hb
                obtain ⟨n, hn⟩ := xcall_iff.1 run
                refine (acall_calls (XOk.none P) hSP hmix n).1 g _ h _ h hn μ w args' s ?_
                rw [hA]
                exact .cons _ _ _ _ (.slice id off x.length cap' true 1 a cap' (by omega) (Nat.le_refl _) (fun _ => rfl) g4 g5 g6) (.cons _ _ _ _ hb0 .nil)
        · cases e
      · cases e
    · cases e
  · cases e
def spoilK (f : FuncId) : Known := fun g args h => if g = f then
    match args with
    | [.nilsl, .int .u8 _] => some (undefA, h)
    | [.slice id off len cap ex 1, .int .u8 by_] =>
      match h.get id with
      | some (.cells c false) =>
        if off + cap ≤ c.length ∧ (ex = true ∨ (h.byteAt id = true ∧ off + cap = c.length)) then
          match byteCells ((c.drop off).take cap) with
          | some l => some (undefA, h.set id (.cells (c.take off ++ (ints (l.map (spoiled by_)) ++ c.drop (off + cap))) false))
          | none => none
        else none
      | _ => none
    | _ => none
  else none
section
variable {P : Program}
theorem readBytes (arr : Array Value) (s : Nat) : ∀ k, (∀ j, s ≤ j → j < s + k → ∃ n, arr[j]? = some (.int .u8 n) ∧ wfInt .u8 n = true) → ∃ l : List Int, l.length = k ∧ ∀ i n, l[i]? = some n → arr[s + i]? = some (.int .u8 n) ∧ wfInt .u8 n = true
  | 0, _ => ⟨[], rfl, fun i n e => by simp at e⟩
  | k + 1, h => by
    obtain ⟨l, h1, h2⟩ := readBytes arr s k fun j j1 j2 => h j j1 (by omega)
    obtain ⟨n, e1, e2⟩ := h (s + k) (by omega) (by omega)
    refine ⟨l ++ [n], by simp [h1], fun i m e => ?_⟩
    by_cases hi : i < l.length
    · rw [List.getElem?_append_left hi] at e; exact h2 i m e
    · rw [List.getElem?_append_right (by omega)] at e
      have : i - l.length = 0 := by
        rcases Nat.eq_zero_or_pos (i - l.length) with h | h
        · exact h
        · rw [List.getElem?_eq_none (by simp; omega)] at e; cases e
      rw [this] at e
      simp at e
      subst e
      rw [show s + i = s + k by omega]
      exact ⟨e1, e2⟩
theorem Own.congr {μ : Mu} {g g' : Nat → Option AObj} (h : ∀ j, (g j).map AObj.owned = (g' j).map AObj.owned) {b : Nat} (ho : Own μ g b) : Own μ g' b := by
  obtain ⟨id, base, lim, o, e1, e2, e3⟩ := ho
  have := h id
  rw [e2] at this
  cases hg : g' id with
  | none => rw [hg] at this; cases this
  | some o' =>
    rw [hg] at this
    simp only [Option.map_some, Option.some.injEq] at this
    exact ⟨id, base, lim, o', e1, hg, by rw [← this]; exact e3⟩
theorem St.refine {μ : Mu} {h : Heap} {w : World} (s : St P μ h w) {id b base lim : Nat} {c : List AV} (hm : μ id = some (b, base, lim)) (hg : h.get id = some (.cells c false)) (hb : h.byteAt id = true) :
    ∃ l : List Int, base + (c.length + l.length) = lim ∧ St P μ (h.set id (.cells (c ++ ints l) false)) w := by
  obtain ⟨arr, t, fr, q1, q2, q3, q4, q5⟩ := s.r.obj id b base lim _ hm hg
  obtain ⟨arr2, t2, fr2, p1, p2⟩ := s.mkd id hb b base lim c false hm hg
  rw [q1] at p1; cases p1
  have hid := Heap.lt_of_get hg
  obtain ⟨l, l1, l2⟩ := readBytes arr (base + c.length) (lim - (base + c.length)) fun j j1 j2 => p2 j j1 (by omega)
  have hw := s.r.write (w' := w) hm hg rfl (o' := .cells (c ++ ints l) false) rfl rfl rfl rfl rfl (fun _ _ => rfl)
    ⟨arr, t, fr, q1, q2, by simp; omega, fun j a ha => by
      by_cases hj : j < c.length
      · rw [List.getElem?_append_left hj] at ha; exact q4 j a ha
      · rw [List.getElem?_append_right (by omega)] at ha
        simp only [ints, List.getElem?_map, Option.map_eq_some_iff] at ha
        obtain ⟨n, e1, rfl⟩ := ha
        obtain ⟨e2, e3⟩ := l2 _ _ e1
        exact ⟨_, by rw [show base + j = base + c.length + (j - c.length) by omega]; exact e2, .int _ _ e3, rfl⟩, q5⟩
  refine ⟨l, by omega, ⟨hw.1, s.bd, fun j e b1 base1 lim1 c' ro' m g => ?_, s.tb.fr hw.2⟩⟩
  have e' := Heap.byteAt_set hid rfl e
  rw [Heap.get_set _ _ _ _ hid] at g
  by_cases hj : j = id
  · subst hj
    rw [if_pos rfl] at g
    cases g
    rw [hm] at m
    cases m
    exact ⟨arr, t, fr, q1, fun j j1 j2 => by simp at j1; omega⟩
  · rw [if_neg hj] at g
    exact s.mkd j e' b1 base1 lim1 c' ro' m g
theorem St.coarsen {μ : Mu} {h h2 : Heap} {w : World} (s : St P μ h w) {id b base lim : Nat} {c : List AV} {l : List Int} (hm : μ id = some (b, base, lim)) (hg : h.get id = some (.cells (c ++ ints l) false)) (hlim : base + (c.length + l.length) = lim)
    (hn : h2.next = h.next) (h2g : ∀ j, h2.get j = if j = id then some (.cells c false) else h.get j) : St P μ h2 w := by
  obtain ⟨arr, t, fr, q1, q2, q3, q4, q5⟩ := s.r.obj id b base lim _ hm hg
  have hid := Heap.lt_of_get hg
  have hr : R P μ h2.get w := by
    refine ⟨fun j b1 base1 lim1 o m g => ?_, fun i j b1 base1 lim1 b2 base2 lim2 o1 o2 hne m1 m2 g1 g2 ho1 ho2 => ?_⟩
    · rw [h2g] at g
      by_cases hj : j = id
      · subst hj
        rw [if_pos rfl] at g; cases g
        rw [hm] at m; cases m
        exact ⟨arr, t, fr, q1, q2, by simp at q3; omega, fun k a ha => q4 k a (by
          have : k < c.length := by
            rcases Nat.lt_or_ge k c.length with h | h
            · exact h
            · rw [List.getElem?_eq_none h] at ha; cases ha
          rw [List.getElem?_append_left this]; exact ha), q5⟩
      · rw [if_neg hj] at g; exact s.r.obj j b1 base1 lim1 o m g
    · rw [h2g] at g1 g2
      have live : ∀ x : AObj, x.owned = true → x.live = true := fun x hx => by cases x <;> first | rfl | simp [AObj.owned] at hx
      by_cases c1 : i = id
      · subst c1
        have c2 : j ≠ i := Ne.symm hne
        rw [if_neg c2] at g2
        exact s.r.inj i j _ _ _ _ _ _ _ o2 hne m1 m2 hg g2 rfl ho2
      · rw [if_neg c1] at g1
        by_cases c2 : j = id
        · subst c2
          exact s.r.inj i j _ _ _ _ _ _ o1 _ hne m1 m2 g1 hg ho1 rfl
        · rw [if_neg c2] at g2
          exact s.r.inj i j _ _ _ _ _ _ o1 o2 hne m1 m2 g1 g2 ho1 ho2
  refine ⟨hr, fun j hj => s.bd j (by omega), fun j e b1 base1 lim1 c' ro' m g => ?_, s.tb.own fun b hb => Own.congr (fun j => by
    rw [h2g]
    by_cases hj : j = id
    · subst hj; rw [if_pos rfl, hg]; rfl
    · rw [if_neg hj]) hb⟩
  have e' : h.byteAt j = true := by
    obtain ⟨o, m1, m2⟩ := Heap.byteAt_mark e
    rw [← e]; refine (Heap.byteAt_of ?_).symm
    rw [h2g] at m1 ⊢
    by_cases hj : j + 1 = id
    · rw [if_pos hj] at m1; cases m1; cases m2
    · rw [if_neg hj]
  rw [h2g] at g
  by_cases hj : j = id
  · subst hj
    rw [if_pos rfl] at g; cases g
    rw [hm] at m; cases m
    refine ⟨arr, t, fr, q1, fun k k1 k2 => ?_⟩
    have hk : k - (base + c.length) < l.length := by omega
    obtain ⟨v, e1, e2, _⟩ := q4 (k - base) (.int .u8 (l[k - (base + c.length)]'hk)) (by
      rw [List.getElem?_append_right (by omega)]
      simp only [ints, List.getElem?_map]
      rw [show k - base - c.length = k - (base + c.length) by omega, List.getElem?_eq_getElem hk]; rfl)
    cases e2 with
    | int _ _ hwf =>
      have hkk : base + (k - base) = k := by omega
      rw [hkk] at e1
      exact ⟨_, e1, hwf⟩
  · rw [if_neg hj] at g
    exact s.mkd j e' b1 base1 lim1 c' ro' m g
theorem Fr.refit {μ μ' : Mu} {h h1 h2 h' : Heap} {w w' : World} (f : Fr μ h1 w μ' h2 w') (n1 : h1.next = h.next) (n2 : h2.next = h'.next) (o1 : ∀ j, (h1.get j).map AObj.owned = (h.get j).map AObj.owned) (o2 : ∀ j, (h2.get j).map AObj.owned = (h'.get j).map AObj.owned) : Fr μ h w μ' h' w' where
  le := f.le
  size := f.size
  os := f.os
  tape := f.tape
  output := f.output
  same := fun b hb hn => f.same b hb fun ho => hn (ho.congr o1)
  own := fun b ho => by
    rcases f.own b (ho.congr fun j => (o2 j).symm) with h | h
    · exact .inl (h.congr o1)
    · exact .inr h
  nx := by have := f.nx; omega
  dom := fun id hid hn => f.dom id (by omega) hn
theorem spoilK_ok {SP : FuncId → Option SFunc} (hSP : Conv P SP) (hmix : P.follows .mixedOrders = true) {f : FuncId} (hf : SP f = some spoilS) : XOk P (spoilK f) := by
  intro g args h v h' e μ w args' s hvs
  unfold spoilK at e
  split at e
  · rename_i hg
    subst hg
    split at e
    · rename_i by_
      cases e
      obtain ⟨n, hn⟩ := xcall_iff.1 (spoil_nil (X := noK) (SP := SP) (fun _ _ => rfl) hf h by_)
      exact (acall_calls (XOk.none P) hSP hmix n).1 g _ h _ h hn μ w args' s hvs
    · rename_i id off len cap ex by_
      split at e
      · rename_i c hgc
        split at e
        · rename_i hcond
          obtain ⟨hle, hex⟩ := hcond
          split at e
          · rename_i l hl
            cases e
            have hid := Heap.lt_of_get hgc
            have hlc := byteCells_eq hl
            have hll : l.length = cap := by
              have := congrArg List.length hlc; simp at this; omega
            have hsplit : c = c.take off ++ (ints l ++ c.drop (off + cap)) := by
              rw [← hlc, ← List.drop_drop, List.take_append_drop, List.take_append_drop]
            have hAl : (c.take off).length = off := by simp; omega
            generalize hAA : c.take off = A at *
            generalize hBB : c.drop (off + cap) = B at *
            subst hsplit
            generalize hA : args'.toList = al at hvs
            cases hvs with
            | cons _ v0 _ vs0 hv0 hvs1 =>
              cases hvs1 with
              | cons _ b0 _ vs1 hb0 hnil =>
                cases hnil
                cases hv0 with
                | slice _ _ _ _ _ _ a cap' g1 g2 g3 g4 g5 g6 =>
                  have hget : ∀ j, (h.set id (.cells (A ++ (ints (l.map (spoiled by_)) ++ B)) false)).get j = if j = id then some (.cells (A ++ (ints (l.map (spoiled by_)) ++ B)) false) else h.get j := fun j => Heap.get_set _ _ _ _ hid
                  by_cases hexact : cap' = cap
                  · -- the room is just what is known
                    subst hexact
                    obtain ⟨H, e1, k1, k2, k3⟩ := spoil_spec (X := noK) (SP := SP) (fun _ _ => rfl) hf (len := len) by_ g5 A B l hAl hll hgc
                    obtain ⟨n, hn⟩ := xcall_iff.1 e1
                    obtain ⟨r1, r2⟩ := (acall_calls (XOk.none P) hSP hmix n).1 g _ h _ H hn μ w args' s (by
                      rw [hA]
                      exact .cons _ _ _ _ (.slice id off len cap' true 1 a cap' g1 (Nat.le_refl _) (fun _ => rfl) g4 g5 g6) (.cons _ _ _ _ hb0 .nil))
                    refine ⟨r1, r2.mono fun e w' ⟨μ', v', he, hv', s', fr'⟩ => ?_⟩
                    have hsame : (h.set id (.cells (A ++ (ints (l.map (spoiled by_)) ++ B)) false)).get = H.get := funext fun j => by
                      rw [hget]
                      by_cases hj : j = id
                      · subst hj; rw [if_pos rfl, k2]
                      · rw [if_neg hj, k3 j hj]
                    have hs := s'.same hsame (by simp [k1])
                    exact ⟨μ', v', he, hv', hs.1, fr'.trans hs.2⟩
                  · -- there is more room
                    have hex' : h.byteAt id = true ∧ off + cap = (A ++ (ints l ++ B)).length := by
                      rcases hex with hex | hex
                      · exact absurd (g3 hex) hexact
                      · exact hex
                    obtain ⟨hby, hend⟩ := hex'
                    have hB : B = [] := by
                      apply List.eq_nil_of_length_eq_zero
                      simp at hend; omega
                    subst hB
                    rcases g6 with h0 | ⟨b, base, lim, m1, ha, m3⟩
                    · omega
                    · obtain ⟨l2, q1, q2⟩ := s.refine m1 hgc hby
                      have hlen : (A ++ (ints l ++ [])).length = off + cap := hend.symm
                      rw [hlen] at q1
                      -- the bytes that are spoilt, and those behind them
                      have hd : ∃ l3 l4, l2 = l3 ++ l4 ∧ l3.length = cap' - cap := ⟨l2.take (cap' - cap), l2.drop (cap' - cap), (List.take_append_drop _ _).symm, by simp; omega⟩
                      obtain ⟨l3, l4, rfl, hl3⟩ := hd
                      have hgp : (h.set id (.cells ((A ++ (ints l ++ [])) ++ ints (l3 ++ l4)) false)).get id = some (.cells (A ++ (ints (l ++ l3) ++ ints l4)) false) := by
                        rw [Heap.get_set _ _ _ _ hid, if_pos rfl]; simp [ints]
                      obtain ⟨H, e1, k1, k2, k3⟩ := spoil_spec (X := noK) (SP := SP) (fun _ _ => rfl) hf (len := len) (cap := cap') by_ g5 A (ints l4) (l ++ l3) hAl (by simp; omega) hgp
                      obtain ⟨n, hn⟩ := xcall_iff.1 e1
                      obtain ⟨r1, r2⟩ := (acall_calls (XOk.none P) hSP hmix n).1 g _ _ _ H hn μ w args' q2 (by
                        rw [hA]
                        exact .cons _ _ _ _ (.slice id off len cap' true 1 a cap' (by omega) (Nat.le_refl _) (fun _ => rfl) g4 g5 (.inr ⟨b, base, lim, m1, ha, m3⟩)) (.cons _ _ _ _ hb0 .nil))
                      refine ⟨r1, r2.mono fun e w' ⟨μ', v', he, hv', s', fr'⟩ => ?_⟩
                      have hk2 : H.get id = some (.cells ((A ++ (ints (l.map (spoiled by_)) ++ [])) ++ ints (l3.map (spoiled by_) ++ l4)) false) := by
                        rw [k2]; simp [ints]
                      have hbase : ∀ j, j ≠ id → H.get j = h.get j := fun j hj => by rw [k3 j hj, Heap.get_set _ _ _ _ hid, if_neg hj]
                      have hcl : (A ++ (ints (l.map (spoiled by_)) ++ [])).length = off + cap := by simp; omega
                      have sc := s'.coarsen (h2 := h.set id (.cells (A ++ (ints (l.map (spoiled by_)) ++ [])) false)) (fr'.le _ _ m1) hk2 (by rw [hcl]; simp at q1 ⊢; omega) (by simp [k1]) (fun j => by
                        rw [Heap.get_set _ _ _ _ hid]
                        by_cases hj : j = id
                        · rw [if_pos hj, if_pos hj]
                        · rw [if_neg hj, if_neg hj, hbase j hj])
                      refine ⟨μ', v', he, hv', sc, fr'.refit (by simp) (by simp [k1]) (fun j => ?_) fun j => ?_⟩
                      · rw [Heap.get_set _ _ _ _ hid]
                        by_cases hj : j = id
                        · subst hj; rw [if_pos rfl, hgc]; rfl
                        · rw [if_neg hj]
                      · rw [Heap.get_set _ _ _ _ hid]
                        by_cases hj : j = id
                        · subst hj; rw [if_pos rfl, hk2]; rfl
                        · rw [if_neg hj, hbase j hj]
          · cases e
        · cases e
      · cases e
    · cases e
  · cases e
end
end Go.Ya
namespace Go.Ya
set_option linter.unusedVariables false
set_option linter.unusedSimpArgs false
def WideAt (h : Heap) (w : Nat) (bs : List Int) : Prop := h.get w = some (.cells (ints (bs ++ [9, 9, 9])) false) ∧ h.byteAt w = true
theorem WideAt.at {h : Heap} {w : Nat} {bs : List Int} (hw : WideAt h w bs) : BytesAt h (.slice w 0 bs.length (bs.length + 3) false 1) bs :=
  .inr ⟨w, 0, _, false, _, _, rfl, by omega, hw.1, by simp, by simp [ints]⟩
theorem WideAt.keep {h h' : Heap} {w : Nat} {bs : List Int} (hw : WideAt h w bs) (h1 : h'.get w = h.get w) (h2 : h'.get (w + 1) = h.get (w + 1)) : WideAt h' w bs :=
  ⟨h1.trans hw.1, by rw [Heap.byteAt_of h2]; exact hw.2⟩
theorem WideAt.grow {h h' : Heap} {w : Nat} {bs : List Int} (hw : WideAt h w bs) (g : Grow h h') : WideAt h' w bs := ⟨g.get hw.1, g.byteAt hw.2⟩
section
variable {X : Known} {SP : FuncId → Option SFunc}
end
end Go.Ya
