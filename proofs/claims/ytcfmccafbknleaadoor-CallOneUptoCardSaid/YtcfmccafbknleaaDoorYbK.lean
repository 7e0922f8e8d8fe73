/-
  The abstract machine: YaCap, YaRoom, YaWide.
-/
import Derived.Test.YtcfmccafbknleaaDoorYbI
namespace Go.Ya
set_option linter.unusedVariables false
set_option linter.unusedSimpArgs false
def sameS : SFunc := ⟨10,
  [.tmp 4],
  .seq
            (.ops [⟨some 4, .mov (.c (.bool false)), none⟩])
            (.seq
              (.ops
                [⟨some 5, .mov (.t 0), none⟩,
                 ⟨some 6, .bytesToStr (.t 5), none⟩,
                 ⟨some 7, .mov (.t 1), none⟩,
                 ⟨some 8, .bytesToStr (.t 7), none⟩,
                 ⟨some 9, .bin (.eql) (.str) (.t 6) (.t 8), none⟩,
                 ⟨some 4, .mov (.t 9), none⟩])
              (.ret))⟩
def leftS (fS : FuncId) : SFunc := ⟨50,
  [.tmp 4],
  .seq
            (.ops [⟨some 4, .mov (.c (.bool false)), none⟩])
            (.seq
              (.seq
                (.ops
                  [⟨some 6, .mov (.t 0), none⟩,
                   ⟨some 7, .mov (.t 1), none⟩,
                   ⟨some 8, .call fS [.t 6, .t 7], none⟩,
                   ⟨some 9, .un (.not) (.t 8), none⟩,
                   ⟨some 10, .mov (.t 9), none⟩,
                   ⟨some 11, .mov (.t 0), some (10, false)⟩,
                   ⟨some 12, .cap (.t 11), some (10, false)⟩,
                   ⟨some 13, .mov (.t 0), some (10, false)⟩,
                   ⟨some 14, .len (.sl) (.t 13), some (10, false)⟩,
                   ⟨some 15, .bin (.add) (.other) (.t 14) (.c (.int (.i64) 3)), some (10, false)⟩,
                   ⟨some 16, .bin (.lss) (.other) (.t 12) (.t 15), some (10, false)⟩,
                   ⟨some 17, .pick (.t 10) (.c (.bool true)) (.t 16), none⟩])
                (.cond (.t 17) (.seq (.ops [⟨some 4, .mov (.c (.bool false)), none⟩]) (.ret)) (.skip)))
              (.seq
                (.ops
                  [⟨some 18, .mov (.t 0), none⟩,
                   ⟨some 19, .mov (.t 0), none⟩,
                   ⟨some 20, .len (.sl) (.t 19), none⟩,
                   ⟨some 21, .bin (.add) (.other) (.t 20) (.c (.int (.i64) 3)), none⟩,
                   ⟨some 22, .mov (.t 0), none⟩,
                   ⟨some 23, .len (.sl) (.t 22), none⟩,
                   ⟨some 24, .bin (.add) (.other) (.t 23) (.c (.int (.i64) 3)), none⟩,
                   ⟨some 25, .slice 1 (.t 18) none (some (.t 21)) (some (.t 24)), none⟩,
                   ⟨some 5, .mov (.t 25), none⟩])
                (.seq
                  (.ops
                    [⟨some 26, .mov (.t 5), none⟩,
                     ⟨some 27, .mov (.t 0), none⟩,
                     ⟨some 28, .len (.sl) (.t 27), none⟩,
                     ⟨some 29, .idxAddrSl 1 (.t 26) (.t 28), none⟩,
                     ⟨some 30, .load false 1 (.t 29), none⟩,
                     ⟨some 31, .bin (.eql) (.other) (.t 30) (.c (.int (.u8) 9)), none⟩,
                     ⟨some 32, .mov (.t 31), none⟩,
                     ⟨some 33, .mov (.t 5), some (32, true)⟩,
                     ⟨some 34, .mov (.t 0), some (32, true)⟩,
                     ⟨some 35, .len (.sl) (.t 34), some (32, true)⟩,
                     ⟨some 36, .bin (.add) (.other) (.t 35) (.c (.int (.i64) 1)), some (32, true)⟩,
                     ⟨some 37, .idxAddrSl 1 (.t 33) (.t 36), some (32, true)⟩,
                     ⟨some 38, .load false 1 (.t 37), some (32, true)⟩,
                     ⟨some 39, .bin (.eql) (.other) (.t 38) (.c (.int (.u8) 9)), some (32, true)⟩,
                     ⟨some 40, .pick (.t 32) (.t 39) (.c (.bool false)), none⟩,
                     ⟨some 41, .mov (.t 40), none⟩,
                     ⟨some 42, .mov (.t 5), some (41, true)⟩,
                     ⟨some 43, .mov (.t 0), some (41, true)⟩,
                     ⟨some 44, .len (.sl) (.t 43), some (41, true)⟩,
                     ⟨some 45, .bin (.add) (.other) (.t 44) (.c (.int (.i64) 2)), some (41, true)⟩,
                     ⟨some 46, .idxAddrSl 1 (.t 42) (.t 45), some (41, true)⟩,
                     ⟨some 47, .load false 1 (.t 46), some (41, true)⟩,
                     ⟨some 48, .bin (.eql) (.other) (.t 47) (.c (.int (.u8) 9)), some (41, true)⟩,
                     ⟨some 49, .pick (.t 41) (.t 48) (.c (.bool false)), none⟩,
                     ⟨some 4, .mov (.t 49), none⟩])
                  (.ret))))⟩
theorem byteCells_ints (l : List Int) : byteCells (ints l) = some l := by
  induction l with
  | nil => rfl
  | cons a l ih => show (byteCells (ints l)).map (a :: ·) = _; rw [ih]; rfl
section
variable {X : Known} {SP : FuncId → Option SFunc}
theorem same_spec {f : FuncId} (hx : ∀ args h, X f args h = none) (hf : SP f = some sameS) {h : Heap} {a b : AV} {x y : List Int} (ha : BytesAt h a x) (hb : BytesAt h b y) :
    xcall X SP (.fn f) [a, b] h = some (.bool (x == y), h) := by
  rw [x_fn (hx _ _) hf]
  have fa := ha.first
  have fb := hb.first
  rcases ha with ⟨rfl, rfl⟩ | ⟨_, _, _, _, _, _, rfl, _⟩ <;> rcases hb with ⟨rfl, rfl⟩ | ⟨_, _, _, _, _, _, rfl, _⟩ <;> simp only [note_false, Int.reduceBEq, Int.reduceBNe, x_drawn, l_nil, l_op, l_guard, l_some, l_true, l_false, l_draw, readsA, x_true, x_false, x_seq, x_ops, x_cond, x_skip, x_ret, x_exit, x_block, x_then, x_thenE, x_thenR, x_blockN, x_blockR, x_blockE, s_nil, s_op, s_guard, s_some, s_true, s_false, s_put, s_put0, s_opsR, s_ret, s_norm, aop, ev, evs, List.map_cons, List.map_nil, List.cons_append, List.nil_append, List.append_nil, List.replicate, List.take_succ_cons, List.take_zero, List.take_nil, List.drop_succ_cons, List.drop_zero, List.drop_nil, Nat.zero_add, Nat.add_zero, Nat.reduceAdd, Nat.reduceMul, Nat.reduceLeDiff, Bool.false_eq_true, and_self, List.length_cons, List.length_nil, List.set_cons_zero, List.set_cons_succ, List.getD_cons_zero, List.getD_cons_succ, wantedA, List.getElem?_cons_zero, List.getElem?_cons_succ, q_t, q_f, Bool.not_true, Bool.not_false, b_add, b_sub, b_mul, b_eql, b_neq, b_lss, b_leq, b_gtr, b_geq, b_and, b_or, b_xor, b_quo, b_rem, b_shl, b_shr, unA, Option.map_some, Option.map_none, resA, tupA, Int.reduceLT, not_false_eq_true, not_true_eq_false, decide_true, decide_false, f_bool, c_bool, f_int, c_int, f_str, c_str, f_nilptr, c_nilptr, f_ptr, c_ptr, f_nilsl, c_nilsl, f_slice, c_slice, f_nilmap, c_nilmap, f_map, c_map, f_nilf, c_nilf, f_func, c_func, f_yieldf, c_yieldf, f_nilif, c_nilif, f_iface, c_iface, c_agg, List.all_cons, List.all_nil, Bool.and_true, Bool.true_and, if_true, if_false, ite_true, ite_false, fa, fb, byteCells_ints, binA, binStr]
def FreshBytes (h h' : Heap) (v : AV) (bs : List Int) : Prop :=
  (v = .nilsl ∧ bs = []) ∨ bs ≠ [] ∧ ∃ id, v = .slice id 0 bs.length bs.length false 1 ∧ h.next ≤ id ∧ h'.get id = some (.cells (ints bs) false) ∧ h'.byteAt id = true
theorem FreshBytes.new {h h' : Heap} {v : AV} {bs : List Int} (hn : FreshBytes h h' v bs) : NewBytes h h' v bs := by
  rcases hn with hn | ⟨_, id, rfl, h1, h2, h3⟩
  · exact .inl hn
  · exact .inr ⟨id, bs.length, false, rfl, Nat.le_refl _, Nat.le_refl _, h1, h2, .inr h3⟩
theorem left_spec {f fS : FuncId} (hx : ∀ args h, X f args h = none) (hx2 : ∀ args h, X fS args h = none) (hf : SP f = some (leftS fS)) (hfS : SP fS = some sameS) {h : Heap} {id off cap : Nat} {c : List AV} {ro : Bool} {b : AV} {x y : List Int} {p q r : Int}
    (hg : h.get id = some (.cells c ro)) (hle : off + x.length ≤ c.length) (ht : (c.drop off).take x.length = ints x) (hcap : x.length + 3 ≤ cap) (hcap2 : cap ≤ 9223372036854775807)
    (hp : c[off + x.length]? = some (.int .u8 p)) (hq : c[off + (x.length + 1)]? = some (.int .u8 q)) (hr : c[off + (x.length + 2)]? = some (.int .u8 r)) (hb : BytesAt h b y) :
    xcall X SP (.fn f) [.slice id off x.length cap true 1, b] h = some (.bool ((x == y) && ((p == 9) && ((q == 9) && (r == 9)))), h) := by
  rw [x_fn (hx _ _) hf]
  have hv : BytesAt h (.slice id off x.length cap true 1) x := .inr ⟨id, off, cap, true, c, ro, rfl, by omega, hg, hle, ht⟩
  have es := same_spec (X := X) (SP := SP) hx2 hfS hv hb
  have w1 : IntKind.i64.wrap ((x.length : Int) + 1) = ((x.length + 1 : Nat) : Int) := by rw [IntWalk.i64_in _ (by omega)]; simp
  have w2 : IntKind.i64.wrap ((x.length : Int) + 2) = ((x.length + 2 : Nat) : Int) := by rw [IntWalk.i64_in _ (by omega)]; simp
  have w3 : IntKind.i64.wrap ((x.length : Int) + 3) = ((x.length + 3 : Nat) : Int) := by rw [IntWalk.i64_in _ (by omega)]; simp
  have hc : ¬ ((cap : Int) < ((x.length + 3 : Nat) : Int)) := by omega
  have hsl : sliceA 1 (.slice id off x.length cap true 1) none (some (.int .i64 ((x.length + 3 : Nat) : Int))) (some (.int .i64 ((x.length + 3 : Nat) : Int))) = some (.slice id off (x.length + 3) (x.length + 3) true 1) := by
    have hb0 := bd_hm (k' := .i64) (k'' := .i64) (len := x.length) hcap (Nat.le_refl (x.length + 3))
    simp only [sliceA, hb0, if_true, Nat.zero_mul, Nat.add_zero, Nat.sub_zero, Bool.true_or]
  have l0 : loadA h false 1 id (off + x.length) = some (.int .u8 p) := by rw [load_of hg]; exact hp
  have l1 : loadA h false 1 id (off + (x.length + 1)) = some (.int .u8 q) := by rw [load_of hg]; exact hq
  have l2 : loadA h false 1 id (off + (x.length + 2)) = some (.int .u8 r) := by rw [load_of hg]; exact hr
  have i0 : (0 : Int) ≤ (x.length : Int) ∧ (x.length : Int) < ((x.length + 3 : Nat) : Int) := by omega
  have i1 : (0 : Int) ≤ ((x.length + 1 : Nat) : Int) ∧ ((x.length + 1 : Nat) : Int) < ((x.length + 3 : Nat) : Int) := by omega
  have i2 : (0 : Int) ≤ ((x.length + 2 : Nat) : Int) ∧ ((x.length + 2 : Nat) : Int) < ((x.length + 3 : Nat) : Int) := by omega
  have n0 : (x.length : Int).toNat * 1 = x.length := by omega
  have n1 : ((x.length + 1 : Nat) : Int).toNat * 1 = x.length + 1 := by omega
  have n2 : ((x.length + 2 : Nat) : Int).toNat * 1 = x.length + 2 := by omega
  cases hxy : (x == y)
  · rw [hxy] at es
    simp only [note_false, Int.reduceBEq, Int.reduceBNe, x_drawn, l_nil, l_op, l_guard, l_some, l_true, l_false, l_draw, readsA, x_true, x_false, x_seq, x_ops, x_cond, x_skip, x_ret, x_exit, x_block, x_then, x_thenE, x_thenR, x_blockN, x_blockR, x_blockE, s_nil, s_op, s_guard, s_some, s_true, s_false, s_put, s_put0, s_opsR, s_ret, s_norm, aop, ev, evs, List.map_cons, List.map_nil, List.cons_append, List.nil_append, List.append_nil, List.replicate, List.take_succ_cons, List.take_zero, List.take_nil, List.drop_succ_cons, List.drop_zero, List.drop_nil, Nat.zero_add, Nat.add_zero, Nat.reduceAdd, Nat.reduceMul, Nat.reduceLeDiff, Bool.false_eq_true, and_self, List.length_cons, List.length_nil, List.set_cons_zero, List.set_cons_succ, List.getD_cons_zero, List.getD_cons_succ, wantedA, List.getElem?_cons_zero, List.getElem?_cons_succ, q_t, q_f, Bool.not_true, Bool.not_false, b_add, b_sub, b_mul, b_eql, b_neq, b_lss, b_leq, b_gtr, b_geq, b_and, b_or, b_xor, b_quo, b_rem, b_shl, b_shr, unA, Option.map_some, Option.map_none, resA, tupA, Int.reduceLT, not_false_eq_true, not_true_eq_false, decide_true, decide_false, f_bool, c_bool, f_int, c_int, f_str, c_str, f_nilptr, c_nilptr, f_ptr, c_ptr, f_nilsl, c_nilsl, f_slice, c_slice, f_nilmap, c_nilmap, f_map, c_map, f_nilf, c_nilf, f_func, c_func, f_yieldf, c_yieldf, f_nilif, c_nilif, f_iface, c_iface, c_agg, List.all_cons, List.all_nil, Bool.and_true, Bool.true_and, if_true, if_false, ite_true, ite_false, es, Bool.false_and]
  · rw [hxy] at es
    cases hpp : (p == 9)
    · simp only [note_false, Int.reduceBEq, Int.reduceBNe, x_drawn, l_nil, l_op, l_guard, l_some, l_true, l_false, l_draw, readsA, x_true, x_false, x_seq, x_ops, x_cond, x_skip, x_ret, x_exit, x_block, x_then, x_thenE, x_thenR, x_blockN, x_blockR, x_blockE, s_nil, s_op, s_guard, s_some, s_true, s_false, s_put, s_put0, s_opsR, s_ret, s_norm, aop, ev, evs, List.map_cons, List.map_nil, List.cons_append, List.nil_append, List.append_nil, List.replicate, List.take_succ_cons, List.take_zero, List.take_nil, List.drop_succ_cons, List.drop_zero, List.drop_nil, Nat.zero_add, Nat.add_zero, Nat.reduceAdd, Nat.reduceMul, Nat.reduceLeDiff, Bool.false_eq_true, and_self, List.length_cons, List.length_nil, List.set_cons_zero, List.set_cons_succ, List.getD_cons_zero, List.getD_cons_succ, wantedA, List.getElem?_cons_zero, List.getElem?_cons_succ, q_t, q_f, Bool.not_true, Bool.not_false, b_add, b_sub, b_mul, b_eql, b_neq, b_lss, b_leq, b_gtr, b_geq, b_and, b_or, b_xor, b_quo, b_rem, b_shl, b_shr, unA, Option.map_some, Option.map_none, resA, tupA, Int.reduceLT, not_false_eq_true, not_true_eq_false, decide_true, decide_false, f_bool, c_bool, f_int, c_int, f_str, c_str, f_nilptr, c_nilptr, f_ptr, c_ptr, f_nilsl, c_nilsl, f_slice, c_slice, f_nilmap, c_nilmap, f_map, c_map, f_nilf, c_nilf, f_func, c_func, f_yieldf, c_yieldf, f_nilif, c_nilif, f_iface, c_iface, c_agg, List.all_cons, List.all_nil, Bool.and_true, Bool.true_and, if_true, if_false, ite_true, ite_false, es, w1, w2, w3, hc, hsl, l0, l1, l2, i0, i1, i2, n0, n1, n2, hpp, Bool.true_and, Bool.false_and]
    · cases hqq : (q == 9)
      · simp only [note_false, Int.reduceBEq, Int.reduceBNe, x_drawn, l_nil, l_op, l_guard, l_some, l_true, l_false, l_draw, readsA, x_true, x_false, x_seq, x_ops, x_cond, x_skip, x_ret, x_exit, x_block, x_then, x_thenE, x_thenR, x_blockN, x_blockR, x_blockE, s_nil, s_op, s_guard, s_some, s_true, s_false, s_put, s_put0, s_opsR, s_ret, s_norm, aop, ev, evs, List.map_cons, List.map_nil, List.cons_append, List.nil_append, List.append_nil, List.replicate, List.take_succ_cons, List.take_zero, List.take_nil, List.drop_succ_cons, List.drop_zero, List.drop_nil, Nat.zero_add, Nat.add_zero, Nat.reduceAdd, Nat.reduceMul, Nat.reduceLeDiff, Bool.false_eq_true, and_self, List.length_cons, List.length_nil, List.set_cons_zero, List.set_cons_succ, List.getD_cons_zero, List.getD_cons_succ, wantedA, List.getElem?_cons_zero, List.getElem?_cons_succ, q_t, q_f, Bool.not_true, Bool.not_false, b_add, b_sub, b_mul, b_eql, b_neq, b_lss, b_leq, b_gtr, b_geq, b_and, b_or, b_xor, b_quo, b_rem, b_shl, b_shr, unA, Option.map_some, Option.map_none, resA, tupA, Int.reduceLT, not_false_eq_true, not_true_eq_false, decide_true, decide_false, f_bool, c_bool, f_int, c_int, f_str, c_str, f_nilptr, c_nilptr, f_ptr, c_ptr, f_nilsl, c_nilsl, f_slice, c_slice, f_nilmap, c_nilmap, f_map, c_map, f_nilf, c_nilf, f_func, c_func, f_yieldf, c_yieldf, f_nilif, c_nilif, f_iface, c_iface, c_agg, List.all_cons, List.all_nil, Bool.and_true, Bool.true_and, if_true, if_false, ite_true, ite_false, es, w1, w2, w3, hc, hsl, l0, l1, l2, i0, i1, i2, n0, n1, n2, hpp, hqq, Bool.true_and, Bool.false_and]
      · simp only [note_false, Int.reduceBEq, Int.reduceBNe, x_drawn, l_nil, l_op, l_guard, l_some, l_true, l_false, l_draw, readsA, x_true, x_false, x_seq, x_ops, x_cond, x_skip, x_ret, x_exit, x_block, x_then, x_thenE, x_thenR, x_blockN, x_blockR, x_blockE, s_nil, s_op, s_guard, s_some, s_true, s_false, s_put, s_put0, s_opsR, s_ret, s_norm, aop, ev, evs, List.map_cons, List.map_nil, List.cons_append, List.nil_append, List.append_nil, List.replicate, List.take_succ_cons, List.take_zero, List.take_nil, List.drop_succ_cons, List.drop_zero, List.drop_nil, Nat.zero_add, Nat.add_zero, Nat.reduceAdd, Nat.reduceMul, Nat.reduceLeDiff, Bool.false_eq_true, and_self, List.length_cons, List.length_nil, List.set_cons_zero, List.set_cons_succ, List.getD_cons_zero, List.getD_cons_succ, wantedA, List.getElem?_cons_zero, List.getElem?_cons_succ, q_t, q_f, Bool.not_true, Bool.not_false, b_add, b_sub, b_mul, b_eql, b_neq, b_lss, b_leq, b_gtr, b_geq, b_and, b_or, b_xor, b_quo, b_rem, b_shl, b_shr, unA, Option.map_some, Option.map_none, resA, tupA, Int.reduceLT, not_false_eq_true, not_true_eq_false, decide_true, decide_false, f_bool, c_bool, f_int, c_int, f_str, c_str, f_nilptr, c_nilptr, f_ptr, c_ptr, f_nilsl, c_nilsl, f_slice, c_slice, f_nilmap, c_nilmap, f_map, c_map, f_nilf, c_nilf, f_func, c_func, f_yieldf, c_yieldf, f_nilif, c_nilif, f_iface, c_iface, c_agg, List.all_cons, List.all_nil, Bool.and_true, Bool.true_and, if_true, if_false, ite_true, ite_false, es, w1, w2, w3, hc, hsl, l0, l1, l2, i0, i1, i2, n0, n1, n2, hpp, hqq, Bool.true_and, Bool.false_and]
end
end Go.Ya
namespace Go.Ya
set_option linter.unusedVariables false
set_option linter.unusedSimpArgs false
theorem byteCells_eq : ∀ {l : List AV} {bs : List Int}, byteCells l = some bs → l = ints bs
  | [], bs, e => by simp [byteCells] at e; subst e; rfl
  | a :: l, bs, e => by
    unfold byteCells at e
    split at e
    · rename_i h; cases h
    · rename_i n r h
      cases h
      simp only [Option.map_eq_some_iff] at e
      obtain ⟨bs', e1, rfl⟩ := e
      rw [byteCells_eq e1]; rfl
    · cases e
def bytesA (h : Heap) (v : AV) : Option (List Int) := match v with
  | .nilsl => some []
  | .slice id off len cap ex esz => match firstA h 1 len (.slice id off len cap ex esz) with
    | some l => byteCells l
    | none => none
  | _ => none
theorem BytesAt.bytesA {h : Heap} {v : AV} {bs : List Int} (hb : BytesAt h v bs) : bytesA h v = some bs := by
  have hf := hb.first
  rcases hb with ⟨rfl, rfl⟩ | ⟨id, off, cap, ex, c, ro, rfl, e2, e3, e4, e5⟩
  · rfl
  · simp only [Go.Ya.bytesA, hf, byteCells_ints]
theorem bytesA_slice {h : Heap} {id off len cap esz : Nat} {ex : Bool} {bs : List Int} (e : bytesA h (.slice id off len cap ex esz) = some bs) : esz = 1 ∧ bs.length = len ∧ ∃ c ro, h.get id = some (.cells c ro) ∧ off + len ≤ c.length ∧ (c.drop off).take len = ints bs := by
  simp only [bytesA] at e
  split at e
  · rename_i l hl
    unfold firstA at hl
    simp only at hl
    split at hl
    · rename_i he
      split at hl
      · rename_i c ro hg
        split at hl
        · rename_i hle
          cases hl
          have := byteCells_eq e
          rw [Nat.mul_one] at this hle
          have hlen := congrArg List.length this
          simp at hlen
          exact ⟨he.symm, by omega, c, ro, hg, hle, this⟩
        · cases hl
      · cases hl
    · cases hl
  · cases e
def noK : Known := fun _ _ _ => none
def leftK (f : FuncId) : Known := fun g args h => if g = f then
    match args with
    | [.slice id off len cap false 1, b] =>
      if len + 3 ≤ cap then
        match bytesA h (.slice id off len cap false 1), bytesA h b, bytesA h (.slice id (off + len) 3 3 false 1) with
        | some x, some y, some [p, q, r] => some (.bool ((x == y) && ((p == 9) && ((q == 9) && (r == 9)))), h)
        | _, _, _ => none
      else none
    | _ => none
  else none
theorem leftK_ok {P : Program} {SP : FuncId → Option SFunc} (hSP : Conv P SP) (hmix : P.follows .mixedOrders = true) {f fS : FuncId} (hf : SP f = some (leftS fS)) (hfS : SP fS = some sameS) : XOk P (leftK f) := by
  intro g args h v h' e μ w args' s hvs
  unfold leftK at e
  split at e
  · rename_i hg
    subst hg
    split at e
    · rename_i id off len cap b
      split at e
      · rename_i hcap
        split at e
        · rename_i x y p q r e1 e2 e3
          cases e
          obtain ⟨_, l1, c, ro, gc, le1, t1⟩ := bytesA_slice e1
          obtain ⟨_, _, c', ro', gc', le3, t3⟩ := bytesA_slice e3
          rw [gc] at gc'; cases gc'
          subst l1
          generalize hA : args'.toList = al at hvs
          cases hvs with
          | cons _ v0 _ vs0 hv0 hvs1 =>
            cases hvs1 with
            | cons _ b0 _ vs1 hb0 hnil =>
              cases hnil
              cases hv0 with
              | slice _ _ _ _ _ _ a cap' g1 g2 g3 g4 g5 g6 =>
                have hb : BytesAt h b y := by
                  cases b with
                  | nilsl => simp [bytesA] at e2; exact .inl ⟨rfl, e2⟩
                  | slice i o l cp ex esz =>
                    obtain ⟨rfl, rfl, cc, rr, q1, q2, q3⟩ := bytesA_slice e2
                    cases hb0
                    exact .inr ⟨i, o, cp, ex, cc, rr, rfl, by assumption, q1, q2, q3⟩
                  | _ => simp [bytesA] at e2
                have h3 : ∀ i, i < 3 → c[off + (x.length + i)]? = (ints [p, q, r])[i]? := fun i hi => by
                  rw [← t3, List.getElem?_take, if_pos hi, List.getElem?_drop]; congr 1; omega
                have run := left_spec (X := noK) (SP := SP) (fun _ _ => rfl) (fun _ _ => rfl) hf hfS (cap := cap') gc le1 t1 (by omega) g5 (h3 0 (by omega)) (h3 1 (by omega)) (h3 2 (by omega)) hb
                obtain ⟨n, hn⟩ := xcall_iff.1 run
                refine (acall_calls (XOk.none P) hSP hmix n).1 g _ h _ h hn μ w args' s ?_
                rw [hA]
                exact .cons _ _ _ _ (.slice id off x.length cap' true 1 a cap' (by omega) (Nat.le_refl _) (fun _ => rfl) g4 g5 g6) (.cons _ _ _ _ hb0 .nil)
        · cases e
      · cases e
    · cases e
  · cases e
section
variable {P : Program}
theorem readBytes (arr : Array Value) (s : Nat) : ∀ k, (∀ j, s ≤ j → j < s + k → ∃ n, arr[j]? = some (.int .u8 n) ∧ wfInt .u8 n = true) → ∃ l : List Int, l.length = k ∧ ∀ i n, l[i]? = some n → arr[s + i]? = some (.int .u8 n) ∧ wfInt .u8 n = true
  | 0, _ => ⟨[], rfl, fun i n e => by simp at e⟩
  | k + 1, h => by
    obtain ⟨l, h1, h2⟩ := readBytes arr s k fun j j1 j2 => h j j1 (by omega)
    obtain ⟨n, e1, e2⟩ := h (s + k) (by omega) (by omega)
    refine ⟨l ++ [n], by simp [h1], fun i m e => ?_⟩
    by_cases hi : i < l.length
    · rw [List.getElem?_append_left hi] at e; exact h2 i m e
    · rw [List.getElem?_append_right (by omega)] at e
      have : i - l.length = 0 := by
        rcases Nat.eq_zero_or_pos (i - l.length) with h | h
        · exact h
        · rw [List.getElem?_eq_none (by simp; omega)] at e; cases e
      rw [this] at e
      simp at e
      subst e
      rw [show s + i = s + k by omega]
      exact ⟨e1, e2⟩
theorem Own.congr {μ : Mu} {g g' : Nat → Option AObj} (h : ∀ j, (g j).map AObj.owned = (g' j).map AObj.owned) {b : Nat} (ho : Own μ g b) : Own μ g' b := by
  obtain ⟨id, base, lim, o, e1, e2, e3⟩ := ho
  have := h id
  rw [e2] at this
  cases hg : g' id with
  | none => rw [hg] at this; cases this
  | some o' =>
    rw [hg] at this
    simp only [Option.map_some, Option.some.injEq] at this
    exact ⟨id, base, lim, o', e1, hg, by rw [← this]; exact e3⟩
theorem St.refine {μ : Mu} {h : Heap} {w : World} (s : St P μ h w) {id b base lim : Nat} {c : List AV} (hm : μ id = some (b, base, lim)) (hg : h.get id = some (.cells c false)) (hb : h.byteAt id = true) :
    ∃ l : List Int, base + (c.length + l.length) = lim ∧ St P μ (h.set id (.cells (c ++ ints l) false)) w := by
  obtain ⟨arr, t, fr, q1, q2, q3, q4, q5⟩ := s.r.obj id b base lim _ hm hg
  obtain ⟨arr2, t2, fr2, p1, p2⟩ := s.mkd id hb b base lim c false hm hg
  rw [q1] at p1; cases p1
  have hid := Heap.lt_of_get hg
  obtain ⟨l, l1, l2⟩ := readBytes arr (base + c.length) (lim - (base + c.length)) fun j j1 j2 => p2 j j1 (by omega)
  have hw := s.r.write (w' := w) hm hg rfl (o' := .cells (c ++ ints l) false) rfl rfl rfl rfl rfl (fun _ _ => rfl)
    ⟨arr, t, fr, q1, q2, by simp; omega, fun j a ha => by
      by_cases hj : j < c.length
      · rw [List.getElem?_append_left hj] at ha; exact q4 j a ha
      · rw [List.getElem?_append_right (by omega)] at ha
        simp only [ints, List.getElem?_map, Option.map_eq_some_iff] at ha
        obtain ⟨n, e1, rfl⟩ := ha
        obtain ⟨e2, e3⟩ := l2 _ _ e1
        exact ⟨_, by rw [show base + j = base + c.length + (j - c.length) by omega]; exact e2, .int _ _ e3, rfl⟩, q5⟩
  refine ⟨l, by omega, ⟨hw.1, s.bd, fun j e b1 base1 lim1 c' ro' m g => ?_, s.tb.fr hw.2⟩⟩
  have e' := Heap.byteAt_set hid rfl e
  rw [Heap.get_set _ _ _ _ hid] at g
  by_cases hj : j = id
  · subst hj
    rw [if_pos rfl] at g
    cases g
    rw [hm] at m
    cases m
    exact ⟨arr, t, fr, q1, fun j j1 j2 => by simp at j1; omega⟩
  · rw [if_neg hj] at g
    exact s.mkd j e' b1 base1 lim1 c' ro' m g
end
end Go.Ya
namespace Go.Ya
set_option linter.unusedVariables false
set_option linter.unusedSimpArgs false
def WideAt (h : Heap) (w : Nat) (bs : List Int) : Prop := h.get w = some (.cells (ints (bs ++ [9, 9, 9])) false) ∧ h.byteAt w = true
theorem WideAt.at {h : Heap} {w : Nat} {bs : List Int} (hw : WideAt h w bs) : BytesAt h (.slice w 0 bs.length (bs.length + 3) false 1) bs :=
  .inr ⟨w, 0, _, false, _, _, rfl, by omega, hw.1, by simp, by simp [ints]⟩
theorem WideAt.keep {h h' : Heap} {w : Nat} {bs : List Int} (hw : WideAt h w bs) (h1 : h'.get w = h.get w) (h2 : h'.get (w + 1) = h.get (w + 1)) : WideAt h' w bs :=
  ⟨h1.trans hw.1, by rw [Heap.byteAt_of h2]; exact hw.2⟩
theorem WideAt.grow {h h' : Heap} {w : Nat} {bs : List Int} (hw : WideAt h w bs) (g : Grow h h') : WideAt h' w bs := ⟨g.get hw.1, g.byteAt hw.2⟩
section
variable {X : Known} {SP : FuncId → Option SFunc}
end
end Go.Ya
