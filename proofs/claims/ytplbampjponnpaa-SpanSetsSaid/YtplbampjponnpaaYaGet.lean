/-
  num's Get and Zero: each walked once, for any table that has them.
-/
import Derived.Test.YtplbampjponnpaaYaXdrW
namespace Go.Ya
set_option linter.unusedVariables false
set_option linter.unusedSimpArgs false
set_option maxRecDepth 100000
set_option maxHeartbeats 4000000

def bkS (bk1 : FuncId) : SFunc := ⟨4, [.tmp 2], .seq (.ops [⟨some 1, .box (.t 0), none⟩, ⟨some 2, .mov (.c (.nilf)), none⟩]) (.seq (.ops [⟨some 3, .mkFunc bk1 [] [.t 1], none⟩, ⟨some 2, .mov (.t 3), none⟩]) (.ret))⟩
def bk1B : SC := (.seq (.seq (.ops [⟨some 7, .mov (.t 3), none⟩, ⟨some 8, .bin (.geq) (.other) (.t 7) (.c (.int (.i64) 0)), none⟩]) (.cond (.t 8) (.skip) (.exit 0))) (.seq (.block 1 (.seq (.ops [⟨some 11, .mov (.t 0), none⟩, ⟨some 12, .mov (.t 3), none⟩, ⟨some 13, .load false 1 (.t 1), none⟩, ⟨some 14, .mov (.t 3), none⟩, ⟨some 15, .idxAddrSl 1 (.t 13) (.t 14), none⟩, ⟨some 16, .load false 1 (.t 15), none⟩, ⟨some 17, .callV (.t 11) [.t 12, .t 16], none⟩, ⟨some 18, .un (.not) (.t 17), none⟩]) (.cond (.t 18) (.ret) (.skip)))) (.ops [⟨some 9, .mov (.t 3), none⟩, ⟨some 10, .bin (.sub) (.other) (.t 9) (.c (.int (.i64) 1)), none⟩, ⟨some 3, .mov (.t 10), none⟩])))
def bk1S : SFunc := ⟨19, [], .seq (.ops [⟨some 4, .load false 1 (.t 1), none⟩, ⟨some 5, .len (.sl) (.t 4), none⟩, ⟨some 6, .bin (.sub) (.other) (.t 5) (.c (.int (.i64) 1)), none⟩, ⟨some 3, .mov (.t 6), none⟩]) (.block 0 (.loop bk1B))⟩
def getA : SC := (.seq (.ops [⟨some 8, .mov (.t 34), none⟩]) (.ops [⟨some 9, .mov (.t 35), none⟩]))
def getB : SC := (.block 1 (.ops [⟨some 36, .load false 1 (.t 6), none⟩, ⟨some 37, .mov (.t 9), none⟩, ⟨some 38, .convInt (.u64) (.t 37), none⟩, ⟨some 39, .load false 1 (.t 5), none⟩, ⟨some 40, .bin (.sub) (.other) (.t 39) (.c (.int (.i64) 1)), none⟩, ⟨some 41, .mov (.t 8), none⟩, ⟨some 42, .bin (.sub) (.other) (.t 40) (.t 41), none⟩, ⟨some 43, .bin (.mul) (.other) (.c (.int (.i64) 8)) (.t 42), none⟩, ⟨some 44, .bin (.shl) (.other) (.t 38) (.t 43), none⟩, ⟨some 45, .bin (.or) (.other) (.t 36) (.t 44), none⟩, ⟨none, .store 1 (.t 6) (.t 45), none⟩]))
def getS (sized bk : FuncId) : SFunc := ⟨47, [.cell 6 false 1, .tmp 7], .seq (.ops [⟨some 5, .box (.t 2), none⟩, ⟨some 6, .box (.c (.int (.u64) 0)), none⟩, ⟨some 7, .mov (.c (.int (.i64) 0)), none⟩]) (.seq (.seq (.ops [⟨some 10, .load false 1 (.t 5), none⟩, ⟨some 11, .call sized [.t 10], none⟩, ⟨some 12, .un (.not) (.t 11), none⟩, ⟨some 13, .mov (.t 12), none⟩, ⟨some 14, .mov (.t 1), some (13, false)⟩, ⟨some 15, .bin (.lss) (.other) (.t 14) (.c (.int (.i64) 0)), some (13, false)⟩, ⟨some 16, .pick (.t 13) (.c (.bool true)) (.t 15), none⟩, ⟨some 17, .mov (.t 16), none⟩, ⟨some 18, .mov (.t 1), some (17, false)⟩, ⟨some 19, .mov (.t 0), some (17, false)⟩, ⟨some 20, .len (.sl) (.t 19), some (17, false)⟩, ⟨some 21, .bin (.gtr) (.other) (.t 18) (.t 20), some (17, false)⟩, ⟨some 22, .pick (.t 17) (.c (.bool true)) (.t 21), none⟩]) (.cond (.t 22) (.seq (.ops [⟨none, .store 1 (.t 6) (.c (.int (.u64) 0)), none⟩, ⟨some 7, .mov (.c (.int (.i64) 2)), none⟩]) (.ret)) (.skip))) (.seq (.seq (.ops [⟨some 23, .mov (.t 0), none⟩, ⟨some 24, .mov (.t 1), none⟩, ⟨some 25, .slice 1 (.t 23) (some (.t 24)) none none, none⟩, ⟨some 0, .mov (.t 25), none⟩]) (.seq (.ops [⟨some 26, .mov (.t 0), none⟩, ⟨some 27, .len (.sl) (.t 26), none⟩, ⟨some 28, .load false 1 (.t 5), none⟩, ⟨some 29, .bin (.lss) (.other) (.t 27) (.t 28), none⟩]) (.cond (.t 29) (.seq (.ops [⟨none, .store 1 (.t 6) (.c (.int (.u64) 0)), none⟩, ⟨some 7, .mov (.c (.int (.i64) 4)), none⟩]) (.ret)) (.skip)))) (.seq (.seq (.ops [⟨some 30, .mov (.t 0), none⟩, ⟨some 31, .load false 1 (.t 5), none⟩, ⟨some 32, .slice 1 (.t 30) none (some (.t 31)) none, none⟩, ⟨some 33, .call bk [.t 32], none⟩]) (.block 0 (.rangeFunc (.t 33) [34, 35] getA getB))) (.seq (.ops [⟨some 46, .load false 1 (.t 6), none⟩, ⟨none, .store 1 (.t 6) (.t 46), none⟩, ⟨some 7, .mov (.c (.int (.i64) 0)), none⟩]) (.ret)))))⟩

/-- A table that has num's Get. -/
structure GetW (X : Known) (SP : FuncId → Option SFunc) extends NumW X SP where
  bk : FuncId
  bk1 : FuncId
  get : FuncId
  kx3 : ∀ f args h, f = bk ∨ f = bk1 ∨ f = get → X f args h = none
  s20 : SP bk = some (bkS bk1)
  s21 : SP bk1 = some bk1S
  s22 : SP get = some (getS sized bk)

/-- The number of bytes, the highest first. -/
def valBE : List Int → Int := fun l => l.foldl (fun n c => n * 256 + c) 0

section
variable {X : Known} {SP : FuncId → Option SFunc}
theorem x_range {self : FuncId} {rd : Option Nat} {f : Opd} {params : List Nat} {assign bd : SC} {tm : List AV} {h h' : Heap} {g : FuncId} {first captured : List AV} {v : AV} {self' : Nat} {tm' : List AV} {ps' : List Nat} {as' bd' : SC} {st : LoopState} {pend : AExit}
    (hev : ev tm f = .func g first captured) (hrd : rdOk h rd = true) (hc : xcall X SP (.fn g) (first ++ [.yieldf h.next] ++ captured) (h.alloc (.loop self tm params assign bd .ready .normal)) = some (v, h'))
    (hg : h'.get h.next = some (.loop self' tm' ps' as' bd' st pend)) (hst : st ≠ .busy) : xcode X SP self rd (.rangeFunc f params assign bd) tm h = some (pend, tm, h'.set h.next (.loop self' tm' ps' as' bd' .exhausted pend)) := by
  rw [xcode_step]
  show code_range (xcall X SP) self rd f params assign bd tm h = _
  unfold code_range
  rw [hev, hrd]
  simp only [hc, hg, hst, if_false]

/-- One round of Get's loop: a byte is laid into the number. -/
theorem get_yield {f : FuncId} {h : Heap} {l b5 b6 : Nat} {tm : List AV} {acc c size i : Int} (ht : tm.length = 47 ∧ tm[5]? = some (.ptr b5 0) ∧ tm[6]? = some (.ptr b6 0)) (hl : h.get l = some (.loop f tm [34, 35] getA getB .ready .normal))
    (h5 : h.get b5 = some (.cells [.int .i64 size] false)) (h6 : h.get b6 = some (.cells [.int .u64 acc] false)) (hne : b6 ≠ l) (hne5 : b5 ≠ l) (hi : 0 ≤ i ∧ i < size ∧ size ≤ 8) (hc : 0 ≤ c ∧ c ≤ 255) (n : Int)
    (hn : IntKind.u64.wrap ((BitVec.ofInt IntKind.u64.bits acc ||| BitVec.ofInt IntKind.u64.bits (IntKind.u64.wrap (c * 2 ^ (Nat.min (8 * (size - 1 - i)).toNat IntKind.u64.bits)))).toNat : Int) = n) :
    ∃ h', xcall X SP (.yield l) [.int .i64 i, .int .u8 c] h = some (.bool true, h') ∧ h'.next = h.next ∧ h'.get l = some (.loop f tm [34, 35] getA getB .ready .normal) ∧ h'.get b6 = some (.cells [.int .u64 n] false) ∧ ∀ j, j ≠ l → j ≠ b6 → h'.get j = h.get j := by
  have hll := Heap.lt_of_get hl
  have hl6 := Heap.lt_of_get h6
  generalize htm : tm = tm0 at *
  match tm0, ht with
  | a0 :: a1 :: a2 :: a3 :: a4 :: a5 :: a6 :: a7 :: a8 :: a9 :: a10 :: a11 :: a12 :: a13 :: a14 :: a15 :: a16 :: a17 :: a18 :: a19 :: a20 :: a21 :: a22 :: a23 :: a24 :: a25 :: a26 :: a27 :: a28 :: a29 :: a30 :: a31 :: a32 :: a33 :: a34 :: a35 :: a36 :: a37 :: a38 :: a39 :: a40 :: a41 :: a42 :: a43 :: a44 :: a45 :: a46 :: [], ht =>
  obtain ⟨_, t5, t6⟩ := ht
  simp only [List.getElem?_cons_zero, List.getElem?_cons_succ, Option.some.injEq] at t5 t6
  replace t5 := t5.symm; replace t6 := t6.symm
  subst t5 t6
  have e5 : (h.set l (.loop f tm [34, 35] getA getB .busy .normal)).get b5 = some (.cells [.int .i64 size] false) := by rw [get_set, if_neg hne5]; exact h5
  have e6 : (h.set l (.loop f tm [34, 35] getA getB .busy .normal)).get b6 = some (.cells [.int .u64 acc] false) := by rw [get_set, if_neg hne]; exact h6
  rw [← htm] at hl ⊢
  have hA : ∃ HB, h.set l (.loop f tm [34, 35] getA getB .busy .normal) = HB ∧ HB.next = h.next ∧ HB.get b5 = some (.cells [.int .i64 size] false) ∧ HB.get b6 = some (.cells [.int .u64 acc] false) ∧ HB.get l = some (.loop f tm [34, 35] getA getB .busy .normal) ∧ ∀ j, j ≠ l → HB.get j = h.get j :=
    ⟨_, rfl, by simp, e5, e6, by rw [get_set, if_pos rfl, if_pos hll], fun j hj => by rw [get_set, if_neg hj]⟩
  obtain ⟨HB, hHB, nB, g5, g6, gl, gs⟩ := hA
  have L5 : loadA HB false 1 b5 0 = some (.int .i64 size) := by rw [load_of g5]; rfl
  have L6 : loadA HB false 1 b6 0 = some (.int .u64 acc) := by rw [load_of g6]; rfl
  have w1 : IntKind.u64.wrap c = c := IntWalk.u64_in _ (by omega)
  have w2 : IntKind.i64.wrap (size - 1) = size - 1 := IntWalk.i64_in _ (by omega)
  have w3 : IntKind.i64.wrap (size - 1 - i) = size - 1 - i := IntWalk.i64_in _ (by omega)
  have w4 : IntKind.i64.wrap (8 * (size - 1 - i)) = 8 * (size - 1 - i) := IntWalk.i64_in _ (by omega)
  have hneg : ¬ (8 * (size - 1 - i)) < 0 := by omega
  have hst : storeA HB b6 0 [.int .u64 n] = some (HB.set b6 (.cells [.int .u64 n] false)) := by simp [storeA, g6, splice]
  have hbody : ∃ tm', xcode X SP f (some l) getB [a0, a1, a2, a3, a4, .ptr b5 0, .ptr b6 0, a7, .int .i64 i, .int .u8 c, a10, a11, a12, a13, a14, a15, a16, a17, a18, a19, a20, a21, a22, a23, a24, a25, a26, a27, a28, a29, a30, a31, a32, a33, .int .i64 i, .int .u8 c, a36, a37, a38, a39, a40, a41, a42, a43, a44, a45, a46] HB = some (.normal, tm', HB.set b6 (.cells [.int .u64 n] false)) := by
    refine ⟨?tmB, ?runB⟩
    case runB =>
      delta getB
      simp (decide := true) only [note_false, Int.reduceBEq, Int.reduceBNe, x_drawn, l_nil, l_op, l_guard, l_some, l_true, l_false, l_draw, readsA, x_true, x_false, x_seq, x_ops, x_cond, x_skip, x_ret, x_exit, x_block, x_then, x_thenE, x_thenR, x_blockN, x_blockR, x_blockE, s_nil, s_op, s_guard, s_some, s_true, s_false, s_put, s_put0, s_opsR, s_ret, s_norm, aop, ev, evs, List.map_cons, List.map_nil, List.cons_append, List.nil_append, List.append_nil, List.replicate, List.take_succ_cons, List.take_zero, List.take_nil, List.drop_succ_cons, List.drop_zero, List.drop_nil, Nat.zero_add, Nat.add_zero, Nat.reduceAdd, Nat.reduceMul, Nat.reduceLeDiff, Bool.false_eq_true, and_self, List.length_cons, List.length_nil, List.set_cons_zero, List.set_cons_succ, List.getD_cons_zero, List.getD_cons_succ, wantedA, List.getElem?_cons_zero, List.getElem?_cons_succ, q_t, q_f, Bool.not_true, Bool.not_false, b_add, b_sub, b_mul, b_eql, b_neq, b_lss, b_leq, b_gtr, b_geq, b_and, b_or, b_xor, b_quo, b_rem, b_shl, b_shr, unA, Option.map_some, Option.map_none, resA, tupA, Int.reduceLT, not_false_eq_true, not_true_eq_false, decide_true, decide_false, f_bool, c_bool, f_int, c_int, f_str, c_str, f_nilptr, c_nilptr, f_ptr, c_ptr, f_nilsl, c_nilsl, f_slice, c_slice, f_nilmap, c_nilmap, f_map, c_map, f_nilf, c_nilf, f_func, c_func, f_yieldf, c_yieldf, f_nilif, c_nilif, f_iface, c_iface, c_agg, List.all_cons, List.all_nil, Bool.and_true, Bool.true_and, if_true, if_false, ite_true, ite_false, L5, L6, w1, w2, w3, w4, b_shl hneg, hn, hst]
      rfl
  obtain ⟨tmB, eB⟩ := hbody
  have hl6B : b6 < HB.next := by omega
  refine ⟨(HB.set b6 (.cells [.int .u64 n] false)).set l (.loop f tm [34, 35] getA getB .ready .normal), ?_, by simp [nB], by rw [get_set, if_pos rfl, if_pos (by simp; omega)], by rw [get_set, if_neg hne, get_set, if_pos rfl, if_pos hl6B], fun j j1 j2 => by rw [get_set, if_neg j1, get_set, if_neg j2, gs j j1]⟩
  have gl2 : (HB.set b6 (.cells [.int .u64 n] false)).get l = some (.loop f tm [34, 35] getA getB .busy .normal) := by rw [get_set, if_neg (Ne.symm hne)]; exact gl
  have hasg : xcode X SP f (some l) getA [a0, a1, a2, a3, a4, .ptr b5 0, .ptr b6 0, a7, a8, a9, a10, a11, a12, a13, a14, a15, a16, a17, a18, a19, a20, a21, a22, a23, a24, a25, a26, a27, a28, a29, a30, a31, a32, a33, .int .i64 i, .int .u8 c, a36, a37, a38, a39, a40, a41, a42, a43, a44, a45, a46] h = some (.normal, [a0, a1, a2, a3, a4, .ptr b5 0, .ptr b6 0, a7, .int .i64 i, .int .u8 c, a10, a11, a12, a13, a14, a15, a16, a17, a18, a19, a20, a21, a22, a23, a24, a25, a26, a27, a28, a29, a30, a31, a32, a33, .int .i64 i, .int .u8 c, a36, a37, a38, a39, a40, a41, a42, a43, a44, a45, a46], h) := by
    delta getA
    simp (decide := true) only [note_false, Int.reduceBEq, Int.reduceBNe, x_drawn, l_nil, l_op, l_guard, l_some, l_true, l_false, l_draw, readsA, x_true, x_false, x_seq, x_ops, x_cond, x_skip, x_ret, x_exit, x_block, x_then, x_thenE, x_thenR, x_blockN, x_blockR, x_blockE, s_nil, s_op, s_guard, s_some, s_true, s_false, s_put, s_put0, s_opsR, s_ret, s_norm, aop, ev, evs, List.map_cons, List.map_nil, List.cons_append, List.nil_append, List.append_nil, List.replicate, List.take_succ_cons, List.take_zero, List.take_nil, List.drop_succ_cons, List.drop_zero, List.drop_nil, Nat.zero_add, Nat.add_zero, Nat.reduceAdd, Nat.reduceMul, Nat.reduceLeDiff, Bool.false_eq_true, and_self, List.length_cons, List.length_nil, List.set_cons_zero, List.set_cons_succ, List.getD_cons_zero, List.getD_cons_succ, wantedA, List.getElem?_cons_zero, List.getElem?_cons_succ, q_t, q_f, Bool.not_true, Bool.not_false, b_add, b_sub, b_mul, b_eql, b_neq, b_lss, b_leq, b_gtr, b_geq, b_and, b_or, b_xor, b_quo, b_rem, b_shl, b_shr, unA, Option.map_some, Option.map_none, resA, tupA, Int.reduceLT, not_false_eq_true, not_true_eq_false, decide_true, decide_false, f_bool, c_bool, f_int, c_int, f_str, c_str, f_nilptr, c_nilptr, f_ptr, c_ptr, f_nilsl, c_nilsl, f_slice, c_slice, f_nilmap, c_nilmap, f_map, c_map, f_nilf, c_nilf, f_func, c_func, f_yieldf, c_yieldf, f_nilif, c_nilif, f_iface, c_iface, c_agg, List.all_cons, List.all_nil, Bool.and_true, Bool.true_and, if_true, if_false, ite_true, ite_false]
  rw [xcall_yield]
  have hzip : zipSet tm [34, 35] [.int .i64 i, .int .u8 c] = some [a0, a1, a2, a3, a4, .ptr b5 0, .ptr b6 0, a7, a8, a9, a10, a11, a12, a13, a14, a15, a16, a17, a18, a19, a20, a21, a22, a23, a24, a25, a26, a27, a28, a29, a30, a31, a32, a33, .int .i64 i, .int .u8 c, a36, a37, a38, a39, a40, a41, a42, a43, a44, a45, a46] := by rw [htm]; rfl
  simp only [yieldF, hl, hzip, hasg, hHB, eB, gl2, if_true]

theorem valBE_acc : ∀ (l : List Int) (a : Int), l.foldl (fun n c => n * 256 + c) a = a * 256 ^ l.length + valBE l
  | [], a => by simp [valBE]
  | c :: l, a => by
    simp only [List.foldl_cons, List.length_cons, valBE]
    rw [valBE_acc l, valBE_acc l (0 * 256 + c)]
    simp only [Int.pow_succ]
    have : valBE l = l.foldl (fun n c => n * 256 + c) 0 := rfl
    grind
theorem valBE_cons (c : Int) (l : List Int) : valBE (c :: l) = c * 256 ^ l.length + valBE l := by
  show l.foldl (fun n c => n * 256 + c) (0 * 256 + c) = _
  rw [valBE_acc]; simp
/-- Bytes. -/
def Bytes (l : List Int) : Prop := ∀ c ∈ l, 0 ≤ c ∧ c ≤ 255
theorem valBE_lt : ∀ (l : List Int), Bytes l → 0 ≤ valBE l ∧ valBE l < 256 ^ l.length
  | [], _ => by simp [valBE]
  | c :: l, h => by
    obtain ⟨h1, h2⟩ := valBE_lt l fun x hx => h x (List.mem_cons_of_mem _ hx)
    have hc := h c (List.mem_cons_self)
    rw [valBE_cons, List.length_cons, Int.pow_succ]
    generalize (256 : Int) ^ l.length = p at *
    constructor
    · have : 0 ≤ c * p := Int.mul_nonneg hc.1 (by omega)
      omega
    · have : c * p ≤ 255 * p := Int.mul_le_mul_of_nonneg_right hc.2 (by omega)
      omega
theorem or_step {acc c : Int} {m : Nat} (hm : m ≤ 7) (ha : 0 ≤ acc ∧ acc < 256 ^ m) (hc : 0 ≤ c ∧ c ≤ 255) :
    IntKind.u64.wrap ((BitVec.ofInt IntKind.u64.bits acc ||| BitVec.ofInt IntKind.u64.bits (IntKind.u64.wrap (c * 2 ^ (8 * m)))).toNat : Int) = c * 256 ^ m + acc := by
  obtain ⟨A, rfl⟩ : ∃ A : Nat, acc = A := ⟨acc.toNat, by omega⟩
  obtain ⟨C, rfl⟩ : ∃ C : Nat, c = C := ⟨c.toNat, by omega⟩
  have hP : (2 : Nat) ^ (8 * m) = 256 ^ m := by rw [Nat.pow_mul]
  have hPi : ((2 : Int) ^ (8 * m)) = ((256 ^ m : Nat) : Int) := by rw [← hP]; simp
  have hPj : ((256 : Int) ^ m) = ((256 ^ m : Nat) : Int) := by simp
  have hle : (256 : Nat) ^ m ≤ 256 ^ 7 := Nat.pow_le_pow_right (by decide) hm
  have hA : A < 256 ^ m := by have := ha.2; rw [hPj] at this; omega
  rw [hPi, hPj]
  have hor : (A ||| C * 256 ^ m) = C * 256 ^ m + A := by
    have := Nat.shiftLeft_add_eq_or_of_lt (b := A) (i := 8 * m) (by rw [hP]; exact hA) C
    rw [Nat.shiftLeft_eq, hP] at this
    rw [Nat.or_comm, ← this]
  generalize 256 ^ m = P at *
  have h7 : (256 : Nat) ^ 7 = 72057594037927936 := by decide
  have hCP : C * P ≤ 255 * P := Nat.mul_le_mul_right _ (by omega)
  have hw : IntKind.u64.wrap ((C : Int) * (P : Int)) = ((C * P : Nat) : Int) := by
    have hmul : ((C : Int) * (P : Int)) = ((C * P : Nat) : Int) := by simp
    rw [hmul]; exact IntWalk.u64_in _ (by omega)
  rw [hw]
  have hof : ∀ n : Nat, n < 18446744073709551616 → (BitVec.ofInt IntKind.u64.bits (n : Int)).toNat = n := fun n hn => by
    show (BitVec.ofInt 64 (n : Int)).toNat = n
    rw [BitVec.toNat_ofInt]
    show ((n : Int) % (2 ^ 64 : Nat)).toNat = n
    have : ((2 ^ 64 : Nat) : Int) = 18446744073709551616 := by decide
    rw [this]; omega
  rw [BitVec.toNat_or, hof A (by omega), hof (C * P) (by omega), hor]
  rw [IntWalk.u64_in _ (by omega)]
  simp

/-- Get's memory: the loop's record, the size, the number so far. -/
def GAt (f : FuncId) (h : Heap) (l b5 b6 : Nat) (tm : List AV) (size acc : Int) : Prop :=
  (tm.length = 47 ∧ tm[5]? = some (.ptr b5 0) ∧ tm[6]? = some (.ptr b6 0)) ∧ h.get l = some (.loop f tm [34, 35] getA getB .ready .normal) ∧ h.get b5 = some (.cells [.int .i64 size] false) ∧ h.get b6 = some (.cells [.int .u64 acc] false) ∧ b6 ≠ l ∧ b5 ≠ l ∧ b5 ≠ b6
def BkT (l b1 : Nat) (i : Int) (tm : List AV) : Prop := tm.length = 19 ∧ tm[0]? = some (.yieldf l) ∧ tm[1]? = some (.ptr b1 0) ∧ tm[3]? = some (.int .i64 i)
theorem bk_round {f g : FuncId} {h : Heap} {l b1 b5 b6 id off cap i k : Nat} {ex ro : Bool} {tmG tm : List AV} {bs : List Int} {c : List AV} (hk : k ≤ 8) (hbl : bs.length = k) (hby : Bytes bs) (hi : i < k) (hG : GAt f h l b5 b6 tmG k (valBE (bs.drop (i + 1))))
    (ht : BkT l b1 (i : Nat) tm) (h1 : h.get b1 = some (.cells [.slice id off k cap ex 1] false)) (hid : h.get id = some (.cells c ro)) (hle : off + k ≤ c.length) (hct : (c.drop off).take k = ints bs) :
    ∃ tm' h', xcode X SP g none (.loop bk1B) tm h = xcode X SP g none (.loop bk1B) tm' h' ∧ BkT l b1 ((i : Int) - 1) tm' ∧ GAt f h' l b5 b6 tmG k (valBE (bs.drop i)) ∧ h'.next = h.next ∧ ∀ j, j ≠ l → j ≠ b6 → h'.get j = h.get j := by
  have hbi : i < bs.length := by omega
  have hbb := hby _ (List.getElem_mem hbi)
  have hdrop : bs.drop i = bs[i] :: bs.drop (i + 1) := List.drop_eq_getElem_cons hbi
  have hlen : (bs.drop (i + 1)).length = k - 1 - i := by simp; omega
  have hlt := valBE_lt (bs.drop (i + 1)) fun x hx => hby x (List.mem_of_mem_drop hx)
  rw [hlen] at hlt
  have hval : valBE (bs.drop i) = bs[i] * 256 ^ (k - 1 - i) + valBE (bs.drop (i + 1)) := by rw [hdrop, valBE_cons, hlen]
  have hmin : Nat.min (8 * ((k : Int) - 1 - i)).toNat IntKind.u64.bits = 8 * (k - 1 - i) := by
    have h1 : (8 * ((k : Int) - 1 - i)).toNat = 8 * (k - 1 - i) := by omega
    rw [h1]
    show Nat.min _ 64 = _
    exact Nat.min_eq_left (by omega)
  obtain ⟨g1, g2, g3, g4, g5, g6, g7⟩ := hG
  obtain ⟨h', e, k1, k2, k3, k4⟩ := get_yield (X := X) (SP := SP) (c := bs[i]) (i := (i : Nat)) (size := (k : Nat)) g1 g2 g3 g4 g5 g6 ⟨by omega, by omega, by omega⟩ hbb (valBE (bs.drop i)) (by rw [hmin, or_step (by omega) hlt hbb, hval])
  have hc0 : c[off + i]? = some (.int .u8 bs[i]) := by
    have : ((c.drop off).take k)[i]? = (ints bs)[i]? := by rw [hct]
    rw [List.getElem?_take, if_pos hi, List.getElem?_drop] at this
    rw [this]
    simp [ints, hbi]
  match tm, ht with
  | a0 :: a1 :: a2 :: a3 :: a4 :: a5 :: a6 :: a7 :: a8 :: a9 :: a10 :: a11 :: a12 :: a13 :: a14 :: a15 :: a16 :: a17 :: a18 :: [], ht =>
  obtain ⟨_, t0, t1, t3⟩ := ht
  simp only [List.getElem?_cons_zero, List.getElem?_cons_succ, Option.some.injEq] at t0 t1 t3
  replace t0 := t0.symm; replace t1 := t1.symm; replace t3 := t3.symm
  subst t0 t1 t3
  have L1 : loadA h false 1 b1 0 = some (.slice id off k cap ex 1) := by rw [load_of h1]; rfl
  have Lc : loadA h false 1 id (off + i) = some (.int .u8 bs[i]) := by rw [load_of hid]; exact hc0
  have hge : (i : Int) ≥ 0 := by omega
  have hix : (0 : Int) ≤ (i : Int) ∧ (i : Int) < (k : Int) := by omega
  have hin : off + (i : Int).toNat * 1 = off + i := by omega
  have hwi : IntKind.i64.wrap ((i : Int) - 1) = (i : Int) - 1 := IntWalk.i64_in _ (by omega)
  refine ⟨?tm, h', ?run, ?sh, ⟨g1, k2, by rw [k4 b5 g6 g7]; exact g3, k3, g5, g6, g7⟩, k1, k4⟩
  case run =>
    rw [show ∀ tm h, xcode X SP g none (.loop bk1B) tm h = thenX X SP g none (.loop bk1B) (xcode X SP g none bk1B tm h) from fun _ _ => x_loop]
    delta bk1B
    have hin2 : (i : Int).toNat * 1 = i := by omega
    simp (decide := true) only [note_false, Int.reduceBEq, Int.reduceBNe, x_drawn, l_nil, l_op, l_guard, l_some, l_true, l_false, l_draw, readsA, x_true, x_false, x_seq, x_ops, x_cond, x_skip, x_ret, x_exit, x_block, x_then, x_thenE, x_thenR, x_blockN, x_blockR, x_blockE, s_nil, s_op, s_guard, s_some, s_true, s_false, s_put, s_put0, s_opsR, s_ret, s_norm, aop, ev, evs, List.map_cons, List.map_nil, List.cons_append, List.nil_append, List.append_nil, List.replicate, List.take_succ_cons, List.take_zero, List.take_nil, List.drop_succ_cons, List.drop_zero, List.drop_nil, Nat.zero_add, Nat.add_zero, Nat.reduceAdd, Nat.reduceMul, Nat.reduceLeDiff, Bool.false_eq_true, and_self, List.length_cons, List.length_nil, List.set_cons_zero, List.set_cons_succ, List.getD_cons_zero, List.getD_cons_succ, wantedA, List.getElem?_cons_zero, List.getElem?_cons_succ, q_t, q_f, Bool.not_true, Bool.not_false, b_add, b_sub, b_mul, b_eql, b_neq, b_lss, b_leq, b_gtr, b_geq, b_and, b_or, b_xor, b_quo, b_rem, b_shl, b_shr, unA, Option.map_some, Option.map_none, resA, tupA, Int.reduceLT, not_false_eq_true, not_true_eq_false, decide_true, decide_false, f_bool, c_bool, f_int, c_int, f_str, c_str, f_nilptr, c_nilptr, f_ptr, c_ptr, f_nilsl, c_nilsl, f_slice, c_slice, f_nilmap, c_nilmap, f_map, c_map, f_nilf, c_nilf, f_func, c_func, f_yieldf, c_yieldf, f_nilif, c_nilif, f_iface, c_iface, c_agg, List.all_cons, List.all_nil, Bool.and_true, Bool.true_and, if_true, if_false, ite_true, ite_false, hge, L1, hix, hin2, Lc, e, hwi]
    rfl
  case sh => exact ⟨rfl, rfl, rfl, rfl⟩
theorem bk_out {g : FuncId} {h : Heap} {l b1 : Nat} {tm : List AV} (ht : BkT l b1 (-1) tm) : ∃ tm', xcode X SP g none (.loop bk1B) tm h = some (.exit 0, tm', h) := by
  match tm, ht with
  | a0 :: a1 :: a2 :: a3 :: a4 :: a5 :: a6 :: a7 :: a8 :: a9 :: a10 :: a11 :: a12 :: a13 :: a14 :: a15 :: a16 :: a17 :: a18 :: [], ht =>
  obtain ⟨_, t0, t1, t3⟩ := ht
  simp only [List.getElem?_cons_zero, List.getElem?_cons_succ, Option.some.injEq] at t0 t1 t3
  replace t0 := t0.symm; replace t1 := t1.symm; replace t3 := t3.symm
  subst t0 t1 t3
  refine ⟨?tm, ?run⟩
  case run =>
    rw [show ∀ tm h, xcode X SP g none (.loop bk1B) tm h = thenX X SP g none (.loop bk1B) (xcode X SP g none bk1B tm h) from fun _ _ => x_loop]
    delta bk1B
    simp (decide := true) only [note_false, Int.reduceBEq, Int.reduceBNe, x_drawn, l_nil, l_op, l_guard, l_some, l_true, l_false, l_draw, readsA, x_true, x_false, x_seq, x_ops, x_cond, x_skip, x_ret, x_exit, x_block, x_then, x_thenE, x_thenR, x_blockN, x_blockR, x_blockE, s_nil, s_op, s_guard, s_some, s_true, s_false, s_put, s_put0, s_opsR, s_ret, s_norm, aop, ev, evs, List.map_cons, List.map_nil, List.cons_append, List.nil_append, List.append_nil, List.replicate, List.take_succ_cons, List.take_zero, List.take_nil, List.drop_succ_cons, List.drop_zero, List.drop_nil, Nat.zero_add, Nat.add_zero, Nat.reduceAdd, Nat.reduceMul, Nat.reduceLeDiff, Bool.false_eq_true, and_self, List.length_cons, List.length_nil, List.set_cons_zero, List.set_cons_succ, List.getD_cons_zero, List.getD_cons_succ, wantedA, List.getElem?_cons_zero, List.getElem?_cons_succ, q_t, q_f, Bool.not_true, Bool.not_false, b_add, b_sub, b_mul, b_eql, b_neq, b_lss, b_leq, b_gtr, b_geq, b_and, b_or, b_xor, b_quo, b_rem, b_shl, b_shr, unA, Option.map_some, Option.map_none, resA, tupA, Int.reduceLT, not_false_eq_true, not_true_eq_false, decide_true, decide_false, f_bool, c_bool, f_int, c_int, f_str, c_str, f_nilptr, c_nilptr, f_ptr, c_ptr, f_nilsl, c_nilsl, f_slice, c_slice, f_nilmap, c_nilmap, f_map, c_map, f_nilf, c_nilf, f_func, c_func, f_yieldf, c_yieldf, f_nilif, c_nilif, f_iface, c_iface, c_agg, List.all_cons, List.all_nil, Bool.and_true, Bool.true_and, if_true, if_false, ite_true, ite_false, show ¬ ((-1 : Int) ≥ 0) from by decide]
    rfl
theorem bk_loop {f g : FuncId} {l b1 b5 b6 id off cap k : Nat} {ex ro : Bool} {tmG : List AV} {bs : List Int} {c : List AV} (hk : k ≤ 8) (hbl : bs.length = k) (hby : Bytes bs) (n1 : b1 ≠ l) (n2 : b1 ≠ b6) (n3 : id ≠ l) (n4 : id ≠ b6) (hle : off + k ≤ c.length) (hct : (c.drop off).take k = ints bs) :
    ∀ (j : Nat) (h : Heap) (tm : List AV), j ≤ k → GAt f h l b5 b6 tmG k (valBE (bs.drop j)) → BkT l b1 ((j : Int) - 1) tm → h.get b1 = some (.cells [.slice id off k cap ex 1] false) → h.get id = some (.cells c ro) →
    ∃ tm' h', xcode X SP g none (.loop bk1B) tm h = some (.exit 0, tm', h') ∧ GAt f h' l b5 b6 tmG k (valBE bs) ∧ h'.next = h.next ∧ ∀ j, j ≠ l → j ≠ b6 → h'.get j = h.get j
  | 0, h, tm, hj, hG, ht, h1, hid => by
    obtain ⟨tm', e⟩ := bk_out (X := X) (SP := SP) (g := g) (h := h) (by simpa using ht)
    exact ⟨tm', h, e, by simpa using hG, rfl, fun _ _ _ => rfl⟩
  | j + 1, h, tm, hj, hG, ht, h1, hid => by
    have hjj : (((j + 1 : Nat) : Int) - 1) = (j : Nat) := by omega
    rw [hjj] at ht
    obtain ⟨tm', h', e, ht', hG', x1, x2⟩ := bk_round (X := X) (SP := SP) (g := g) hk hbl hby (by omega) hG ht h1 hid hle hct
    obtain ⟨tm2, h2, e2, r1, r2, r3⟩ := bk_loop hk hbl hby n1 n2 n3 n4 hle hct j h' tm' (by omega) hG' ht' (by rw [x2 b1 n1 n2]; exact h1) (by rw [x2 id n3 n4]; exact hid)
    exact ⟨tm2, h2, e.trans e2, r1, by omega, fun q q1 q2 => by rw [r3 q q1 q2, x2 q q1 q2]⟩

variable (W : GetW X SP)
theorem GetW.bk_spec (v : AV) (hfv : v.flat = true) (h : Heap) : xcall X SP (.fn W.bk) [v] h = some (.func W.bk1 [] [.ptr h.next 0], h.alloc (.cells [v] false)) := by
  rw [x_fn (W.kx3 _ _ _ (by simp)) W.s20]
  simp (decide := true) only [note_false, Int.reduceBEq, Int.reduceBNe, x_drawn, l_nil, l_op, l_guard, l_some, l_true, l_false, l_draw, readsA, x_true, x_false, x_seq, x_ops, x_cond, x_skip, x_ret, x_exit, x_block, x_then, x_thenE, x_thenR, x_blockN, x_blockR, x_blockE, s_nil, s_op, s_guard, s_some, s_true, s_false, s_put, s_put0, s_opsR, s_ret, s_norm, aop, ev, evs, List.map_cons, List.map_nil, List.cons_append, List.nil_append, List.append_nil, List.replicate, List.take_succ_cons, List.take_zero, List.take_nil, List.drop_succ_cons, List.drop_zero, List.drop_nil, Nat.zero_add, Nat.add_zero, Nat.reduceAdd, Nat.reduceMul, Nat.reduceLeDiff, Bool.false_eq_true, and_self, List.length_cons, List.length_nil, List.set_cons_zero, List.set_cons_succ, List.getD_cons_zero, List.getD_cons_succ, wantedA, List.getElem?_cons_zero, List.getElem?_cons_succ, q_t, q_f, Bool.not_true, Bool.not_false, b_add, b_sub, b_mul, b_eql, b_neq, b_lss, b_leq, b_gtr, b_geq, b_and, b_or, b_xor, b_quo, b_rem, b_shl, b_shr, unA, Option.map_some, Option.map_none, resA, tupA, Int.reduceLT, not_false_eq_true, not_true_eq_false, decide_true, decide_false, f_bool, c_bool, f_int, c_int, f_str, c_str, f_nilptr, c_nilptr, f_ptr, c_ptr, f_nilsl, c_nilsl, f_slice, c_slice, f_nilmap, c_nilmap, f_map, c_map, f_nilf, c_nilf, f_func, c_func, f_yieldf, c_yieldf, f_nilif, c_nilif, f_iface, c_iface, c_agg, List.all_cons, List.all_nil, Bool.and_true, Bool.true_and, if_true, if_false, ite_true, ite_false, hfv, cells_of hfv]
theorem GetW.short4 {v : AV} {bs : List Int} {h : Heap} (hb : BytesAt h v bs) (hl : bs.length < 4) : ∃ h', xcall X SP (.fn W.get) [v, .int .i64 0, .int .i64 4] h = some (.tuple [.int .u64 0, .int .i64 4], h') ∧ Grow h h' := by
  have hH : ∃ H, h.alloc (.cells [.int .i64 4] false) = H ∧ Grow h H ∧ H.next = h.next + 1 ∧ H.get h.next = some (.cells [.int .i64 4] false) := ⟨_, rfl, .alloc _ _, by simp, by rw [Heap.get_alloc, if_pos rfl]⟩
  obtain ⟨H, hA, gA, hn, G⟩ := hH
  have hH2 : ∃ H2, H.alloc (.cells [.int .u64 0] false) = H2 ∧ Grow H H2 ∧ H2.next = h.next + 2 ∧ H2.get (h.next + 1) = some (.cells [.int .u64 0] false) := ⟨_, rfl, .alloc _ _, by simp [hn], by rw [Heap.get_alloc, if_pos hn.symm]⟩
  obtain ⟨H2, hA2, gA2, hn2, G2⟩ := hH2
  have L5 : loadA H2 false 1 h.next 0 = some (.int .i64 4) := by rw [load_of (gA2.get G)]; rfl
  have hst : storeA H2 (h.next + 1) 0 [.int .u64 0] = some (H2.set (h.next + 1) (.cells [.int .u64 0] false)) := by simp [storeA, G2, splice]
  have L6 : loadA (H2.set (h.next + 1) (.cells [.int .u64 0] false)) false 1 (h.next + 1) 0 = some (.int .u64 0) := by rw [load_of (by rw [get_set, if_pos rfl, if_pos (by omega)])]; rfl
  refine ⟨H2.set (h.next + 1) (.cells [.int .u64 0] false), ?_, Grow.set (gA.trans gA2) _ (by omega) (by omega)⟩
  rw [x_fn (W.kx3 _ _ _ (by simp)) W.s22]
  rcases hb with ⟨rfl, rfl⟩ | ⟨id, off, cap, ex, c, ro, rfl, hcap, _⟩
  · have hs0 : sliceA 1 .nilsl (some (.int .i64 0)) none none = some .nilsl := rfl
    simp (decide := true) only [note_false, Int.reduceBEq, Int.reduceBNe, x_drawn, l_nil, l_op, l_guard, l_some, l_true, l_false, l_draw, readsA, x_true, x_false, x_seq, x_ops, x_cond, x_skip, x_ret, x_exit, x_block, x_then, x_thenE, x_thenR, x_blockN, x_blockR, x_blockE, s_nil, s_op, s_guard, s_some, s_true, s_false, s_put, s_put0, s_opsR, s_ret, s_norm, aop, ev, evs, List.map_cons, List.map_nil, List.cons_append, List.nil_append, List.append_nil, List.replicate, List.take_succ_cons, List.take_zero, List.take_nil, List.drop_succ_cons, List.drop_zero, List.drop_nil, Nat.zero_add, Nat.add_zero, Nat.reduceAdd, Nat.reduceMul, Nat.reduceLeDiff, Bool.false_eq_true, and_self, List.length_cons, List.length_nil, List.set_cons_zero, List.set_cons_succ, List.getD_cons_zero, List.getD_cons_succ, wantedA, List.getElem?_cons_zero, List.getElem?_cons_succ, q_t, q_f, Bool.not_true, Bool.not_false, b_add, b_sub, b_mul, b_eql, b_neq, b_lss, b_leq, b_gtr, b_geq, b_and, b_or, b_xor, b_quo, b_rem, b_shl, b_shr, unA, Option.map_some, Option.map_none, resA, tupA, Int.reduceLT, not_false_eq_true, not_true_eq_false, decide_true, decide_false, f_bool, c_bool, f_int, c_int, f_str, c_str, f_nilptr, c_nilptr, f_ptr, c_ptr, f_nilsl, c_nilsl, f_slice, c_slice, f_nilmap, c_nilmap, f_map, c_map, f_nilf, c_nilf, f_func, c_func, f_yieldf, c_yieldf, f_nilif, c_nilif, f_iface, c_iface, c_agg, List.all_cons, List.all_nil, Bool.and_true, Bool.true_and, if_true, if_false, ite_true, ite_false, hA, hA2, hn, L5, W.toNumW.sized4, hs0, hst, L6, resA]
  · have hs0 : sliceA 1 (.slice id off bs.length cap ex 1) (some (.int .i64 0)) none none = some (.slice id off bs.length cap ex 1) := by
      have := bd_l (k := .i64) (len := bs.length) (cap := cap) (i := 0) (Nat.zero_le _)
      simp only [Int.ofNat_zero] at this
      simp only [sliceA, this, if_true, Nat.zero_mul, Nat.add_zero, Nat.sub_zero]
      simp
    have hgt : ¬ (0 : Int) > (bs.length : Int) := by omega
    have hlt : (bs.length : Int) < 4 := by omega
    simp (decide := true) only [note_false, Int.reduceBEq, Int.reduceBNe, x_drawn, l_nil, l_op, l_guard, l_some, l_true, l_false, l_draw, readsA, x_true, x_false, x_seq, x_ops, x_cond, x_skip, x_ret, x_exit, x_block, x_then, x_thenE, x_thenR, x_blockN, x_blockR, x_blockE, s_nil, s_op, s_guard, s_some, s_true, s_false, s_put, s_put0, s_opsR, s_ret, s_norm, aop, ev, evs, List.map_cons, List.map_nil, List.cons_append, List.nil_append, List.append_nil, List.replicate, List.take_succ_cons, List.take_zero, List.take_nil, List.drop_succ_cons, List.drop_zero, List.drop_nil, Nat.zero_add, Nat.add_zero, Nat.reduceAdd, Nat.reduceMul, Nat.reduceLeDiff, Bool.false_eq_true, and_self, List.length_cons, List.length_nil, List.set_cons_zero, List.set_cons_succ, List.getD_cons_zero, List.getD_cons_succ, wantedA, List.getElem?_cons_zero, List.getElem?_cons_succ, q_t, q_f, Bool.not_true, Bool.not_false, b_add, b_sub, b_mul, b_eql, b_neq, b_lss, b_leq, b_gtr, b_geq, b_and, b_or, b_xor, b_quo, b_rem, b_shl, b_shr, unA, Option.map_some, Option.map_none, resA, tupA, Int.reduceLT, not_false_eq_true, not_true_eq_false, decide_true, decide_false, f_bool, c_bool, f_int, c_int, f_str, c_str, f_nilptr, c_nilptr, f_ptr, c_ptr, f_nilsl, c_nilsl, f_slice, c_slice, f_nilmap, c_nilmap, f_map, c_map, f_nilf, c_nilf, f_func, c_func, f_yieldf, c_yieldf, f_nilif, c_nilif, f_iface, c_iface, c_agg, List.all_cons, List.all_nil, Bool.and_true, Bool.true_and, if_true, if_false, ite_true, ite_false, hA, hA2, hn, L5, W.toNumW.sized4, hgt, hs0, hlt, hst, L6, resA]
theorem GetW.ok4 {v : AV} {bs : List Int} {h : Heap} (hb : BytesAt h v bs) (hby : Bytes bs) (hl : 4 ≤ bs.length) : ∃ h', xcall X SP (.fn W.get) [v, .int .i64 0, .int .i64 4] h = some (.tuple [.int .u64 (valBE (bs.take 4)), .int .i64 0], h') ∧ Grow h h' := by
  have hH : ∃ H, h.alloc (.cells [.int .i64 4] false) = H ∧ Grow h H ∧ H.next = h.next + 1 ∧ H.get h.next = some (.cells [.int .i64 4] false) := ⟨_, rfl, .alloc _ _, by simp, by rw [Heap.get_alloc, if_pos rfl]⟩
  obtain ⟨H, hA, gA, hn, G⟩ := hH
  have hH2 : ∃ H2, H.alloc (.cells [.int .u64 0] false) = H2 ∧ Grow H H2 ∧ H2.next = h.next + 2 ∧ H2.get (h.next + 1) = some (.cells [.int .u64 0] false) := ⟨_, rfl, .alloc _ _, by simp [hn], by rw [Heap.get_alloc, if_pos hn.symm]⟩
  obtain ⟨H2, hA2, gA2, hn2, G2⟩ := hH2
  rcases hb with ⟨rfl, rfl⟩ | ⟨id, off, cap, ex, c, ro, rfl, hcap, hg, hle, hct⟩
  · simp at hl
  have hid := Heap.lt_of_get hg
  have hH3 : ∃ H3, H2.alloc (.cells [.slice id off 4 cap ex 1] false) = H3 ∧ Grow H2 H3 ∧ H3.next = h.next + 3 ∧ H3.get (h.next + 2) = some (.cells [.slice id off 4 cap ex 1] false) := ⟨_, rfl, .alloc _ _, by simp [hn2], by rw [Heap.get_alloc, if_pos hn2.symm]⟩
  obtain ⟨H3, hA3, gA3, hn3, G3⟩ := hH3
  have ebk := W.bk_spec (.slice id off 4 cap ex 1) rfl H2
  rw [hA3, hn2] at ebk
  have hH4 : ∃ H4, H3.alloc (.loop W.get [.slice id off bs.length cap ex 1, .int .i64 0, .int .i64 4, undefA, undefA, .ptr h.next 0, .ptr (h.next + 1) 0, .int .i64 0, undefA, undefA, .int .i64 4, .bool true, .bool false, .bool false, .int .i64 0, .bool false, .bool false, .bool false, .int .i64 0, .slice id off bs.length cap ex 1, .int .i64 (bs.length : Nat), .bool false, .bool false, .slice id off bs.length cap ex 1, .int .i64 0, .slice id off bs.length cap ex 1, .slice id off bs.length cap ex 1, .int .i64 (bs.length : Nat), .int .i64 4, .bool false, .slice id off bs.length cap ex 1, .int .i64 4, .slice id off 4 cap ex 1, .func W.bk1 [] [.ptr (h.next + 2) 0], undefA, undefA, undefA, undefA, undefA, undefA, undefA, undefA, undefA, undefA, undefA, undefA, undefA] [34, 35] getA getB .ready .normal) = H4 ∧ Grow H3 H4 ∧ H4.next = h.next + 4 ∧ H4.get (h.next + 3) = some (.loop W.get [.slice id off bs.length cap ex 1, .int .i64 0, .int .i64 4, undefA, undefA, .ptr h.next 0, .ptr (h.next + 1) 0, .int .i64 0, undefA, undefA, .int .i64 4, .bool true, .bool false, .bool false, .int .i64 0, .bool false, .bool false, .bool false, .int .i64 0, .slice id off bs.length cap ex 1, .int .i64 (bs.length : Nat), .bool false, .bool false, .slice id off bs.length cap ex 1, .int .i64 0, .slice id off bs.length cap ex 1, .slice id off bs.length cap ex 1, .int .i64 (bs.length : Nat), .int .i64 4, .bool false, .slice id off bs.length cap ex 1, .int .i64 4, .slice id off 4 cap ex 1, .func W.bk1 [] [.ptr (h.next + 2) 0], undefA, undefA, undefA, undefA, undefA, undefA, undefA, undefA, undefA, undefA, undefA, undefA, undefA] [34, 35] getA getB .ready .normal) := ⟨_, rfl, .alloc _ _, by simp [hn3], by rw [Heap.get_alloc, if_pos hn3.symm]⟩
  obtain ⟨H4, hA4, gA4, hn4, G4⟩ := hH4
  have hct2 : (c.drop off).take 4 = ints (bs.take 4) := by
    have := congrArg (List.take 4) hct
    rw [List.take_take, Nat.min_eq_left hl] at this
    rw [this]; simp [ints, List.map_take]
  have hlen : (bs.take 4).length = 4 := by simp; omega
  have hby2 : Bytes (bs.take 4) := fun x hx => hby x (List.mem_of_mem_take hx)
  have g34 := gA3.trans gA4
  have hG0 : GAt W.get H4 (h.next + 3) h.next (h.next + 1) [.slice id off bs.length cap ex 1, .int .i64 0, .int .i64 4, undefA, undefA, .ptr h.next 0, .ptr (h.next + 1) 0, .int .i64 0, undefA, undefA, .int .i64 4, .bool true, .bool false, .bool false, .int .i64 0, .bool false, .bool false, .bool false, .int .i64 0, .slice id off bs.length cap ex 1, .int .i64 (bs.length : Nat), .bool false, .bool false, .slice id off bs.length cap ex 1, .int .i64 0, .slice id off bs.length cap ex 1, .slice id off bs.length cap ex 1, .int .i64 (bs.length : Nat), .int .i64 4, .bool false, .slice id off bs.length cap ex 1, .int .i64 4, .slice id off 4 cap ex 1, .func W.bk1 [] [.ptr (h.next + 2) 0], undefA, undefA, undefA, undefA, undefA, undefA, undefA, undefA, undefA, undefA, undefA, undefA, undefA] 4 (valBE ((bs.take 4).drop 4)) := by
    have : (bs.take 4).drop 4 = [] := List.drop_eq_nil_of_le (by rw [hlen]; exact Nat.le_refl _)
    rw [this]
    exact ⟨⟨rfl, rfl, rfl⟩, G4, (gA2.trans g34).get G, g34.get G2, by omega, by omega, by omega⟩
  obtain ⟨tm', H5, e5, k1, k2, k3⟩ := bk_loop (X := X) (SP := SP) (g := W.bk1) (b1 := h.next + 2) (id := id) (off := off) (cap := cap) (ex := ex) (ro := ro) (c := c) (k := 4) (by omega) hlen hby2 (by omega) (by omega) (by omega) (by omega) (by omega) hct2 4 H4
    [.yieldf (h.next + 3), .ptr (h.next + 2) 0, undefA, .int .i64 3, .slice id off 4 cap ex 1, .int .i64 4, .int .i64 3, undefA, undefA, undefA, undefA, undefA, undefA, undefA, undefA, undefA, undefA, undefA, undefA] (Nat.le_refl _) hG0 ⟨rfl, rfl, rfl, rfl⟩ (gA4.get G3) ((((gA.trans gA2).trans gA3).trans gA4).get hg)
  have L1 : loadA H4 false 1 (h.next + 2) 0 = some (.slice id off 4 cap ex 1) := by rw [load_of (gA4.get G3)]; rfl
  have ecall : xcall X SP (.fn W.bk1) [.yieldf (h.next + 3), .ptr (h.next + 2) 0] H4 = some (undefA, H5) := by
    rw [x_fn (W.kx3 _ _ _ (by simp)) (show SP W.bk1 = some ⟨19, [], .seq (.ops [⟨some 4, .load false 1 (.t 1), none⟩, ⟨some 5, .len (.sl) (.t 4), none⟩, ⟨some 6, .bin (.sub) (.other) (.t 5) (.c (.int (.i64) 1)), none⟩, ⟨some 3, .mov (.t 6), none⟩]) (.block 0 (.loop bk1B))⟩ from W.s21)]
    have hw : IntKind.i64.wrap ((4 : Int) - 1) = 3 := rfl
    have hc0 : (((4 : Nat)) : Int) = 4 := rfl
    simp only [note_false, Int.reduceBEq, Int.reduceBNe, x_drawn, l_nil, l_op, l_guard, l_some, l_true, l_false, l_draw, readsA, x_true, x_false, x_seq, x_ops, x_cond, x_skip, x_ret, x_exit, x_block, x_then, x_thenE, x_thenR, x_blockN, x_blockR, x_blockE, s_nil, s_op, s_guard, s_some, s_true, s_false, s_put, s_put0, s_opsR, s_ret, s_norm, aop, ev, evs, List.map_cons, List.map_nil, List.cons_append, List.nil_append, List.append_nil, List.replicate, List.take_succ_cons, List.take_zero, List.take_nil, List.drop_succ_cons, List.drop_zero, List.drop_nil, Nat.zero_add, Nat.add_zero, Nat.reduceAdd, Nat.reduceMul, Nat.reduceLeDiff, Bool.false_eq_true, and_self, List.length_cons, List.length_nil, List.set_cons_zero, List.set_cons_succ, List.getD_cons_zero, List.getD_cons_succ, wantedA, List.getElem?_cons_zero, List.getElem?_cons_succ, q_t, q_f, Bool.not_true, Bool.not_false, b_add, b_sub, b_mul, b_eql, b_neq, b_lss, b_leq, b_gtr, b_geq, b_and, b_or, b_xor, b_quo, b_rem, b_shl, b_shr, unA, Option.map_some, Option.map_none, resA, tupA, Int.reduceLT, not_false_eq_true, not_true_eq_false, decide_true, decide_false, f_bool, c_bool, f_int, c_int, f_str, c_str, f_nilptr, c_nilptr, f_ptr, c_ptr, f_nilsl, c_nilsl, f_slice, c_slice, f_nilmap, c_nilmap, f_map, c_map, f_nilf, c_nilf, f_func, c_func, f_yieldf, c_yieldf, f_nilif, c_nilif, f_iface, c_iface, c_agg, List.all_cons, List.all_nil, Bool.and_true, Bool.true_and, if_true, if_false, ite_true, ite_false, L1, hw, hc0]
    simp only [note_false, Int.reduceBEq, Int.reduceBNe, x_drawn, l_nil, l_op, l_guard, l_some, l_true, l_false, l_draw, readsA, x_true, x_false, x_seq, x_ops, x_cond, x_skip, x_ret, x_exit, x_block, x_then, x_thenE, x_thenR, x_blockN, x_blockR, x_blockE, s_nil, s_op, s_guard, s_some, s_true, s_false, s_put, s_put0, s_opsR, s_ret, s_norm, aop, ev, evs, List.map_cons, List.map_nil, List.cons_append, List.nil_append, List.append_nil, List.replicate, List.take_succ_cons, List.take_zero, List.take_nil, List.drop_succ_cons, List.drop_zero, List.drop_nil, Nat.zero_add, Nat.add_zero, Nat.reduceAdd, Nat.reduceMul, Nat.reduceLeDiff, Bool.false_eq_true, and_self, List.length_cons, List.length_nil, List.set_cons_zero, List.set_cons_succ, List.getD_cons_zero, List.getD_cons_succ, wantedA, List.getElem?_cons_zero, List.getElem?_cons_succ, q_t, q_f, Bool.not_true, Bool.not_false, b_add, b_sub, b_mul, b_eql, b_neq, b_lss, b_leq, b_gtr, b_geq, b_and, b_or, b_xor, b_quo, b_rem, b_shl, b_shr, unA, Option.map_some, Option.map_none, resA, tupA, Int.reduceLT, not_false_eq_true, not_true_eq_false, decide_true, decide_false, f_bool, c_bool, f_int, c_int, f_str, c_str, f_nilptr, c_nilptr, f_ptr, c_ptr, f_nilsl, c_nilsl, f_slice, c_slice, f_nilmap, c_nilmap, f_map, c_map, f_nilf, c_nilf, f_func, c_func, f_yieldf, c_yieldf, f_nilif, c_nilif, f_iface, c_iface, c_agg, List.all_cons, List.all_nil, Bool.and_true, Bool.true_and, if_true, if_false, ite_true, ite_false, e5, resA]
  obtain ⟨k4, k5, k6, k7, k8, k9, k10⟩ := k1
  have hrange : xcode X SP W.get none (.rangeFunc (.t 33) [34, 35] getA getB) [.slice id off bs.length cap ex 1, .int .i64 0, .int .i64 4, undefA, undefA, .ptr h.next 0, .ptr (h.next + 1) 0, .int .i64 0, undefA, undefA, .int .i64 4, .bool true, .bool false, .bool false, .int .i64 0, .bool false, .bool false, .bool false, .int .i64 0, .slice id off bs.length cap ex 1, .int .i64 (bs.length : Nat), .bool false, .bool false, .slice id off bs.length cap ex 1, .int .i64 0, .slice id off bs.length cap ex 1, .slice id off bs.length cap ex 1, .int .i64 (bs.length : Nat), .int .i64 4, .bool false, .slice id off bs.length cap ex 1, .int .i64 4, .slice id off 4 cap ex 1, .func W.bk1 [] [.ptr (h.next + 2) 0], undefA, undefA, undefA, undefA, undefA, undefA, undefA, undefA, undefA, undefA, undefA, undefA, undefA] H3 = some (.normal, [.slice id off bs.length cap ex 1, .int .i64 0, .int .i64 4, undefA, undefA, .ptr h.next 0, .ptr (h.next + 1) 0, .int .i64 0, undefA, undefA, .int .i64 4, .bool true, .bool false, .bool false, .int .i64 0, .bool false, .bool false, .bool false, .int .i64 0, .slice id off bs.length cap ex 1, .int .i64 (bs.length : Nat), .bool false, .bool false, .slice id off bs.length cap ex 1, .int .i64 0, .slice id off bs.length cap ex 1, .slice id off bs.length cap ex 1, .int .i64 (bs.length : Nat), .int .i64 4, .bool false, .slice id off bs.length cap ex 1, .int .i64 4, .slice id off 4 cap ex 1, .func W.bk1 [] [.ptr (h.next + 2) 0], undefA, undefA, undefA, undefA, undefA, undefA, undefA, undefA, undefA, undefA, undefA, undefA, undefA], H5.set (h.next + 3) (.loop W.get [.slice id off bs.length cap ex 1, .int .i64 0, .int .i64 4, undefA, undefA, .ptr h.next 0, .ptr (h.next + 1) 0, .int .i64 0, undefA, undefA, .int .i64 4, .bool true, .bool false, .bool false, .int .i64 0, .bool false, .bool false, .bool false, .int .i64 0, .slice id off bs.length cap ex 1, .int .i64 (bs.length : Nat), .bool false, .bool false, .slice id off bs.length cap ex 1, .int .i64 0, .slice id off bs.length cap ex 1, .slice id off bs.length cap ex 1, .int .i64 (bs.length : Nat), .int .i64 4, .bool false, .slice id off bs.length cap ex 1, .int .i64 4, .slice id off 4 cap ex 1, .func W.bk1 [] [.ptr (h.next + 2) 0], undefA, undefA, undefA, undefA, undefA, undefA, undefA, undefA, undefA, undefA, undefA, undefA, undefA] [34, 35] getA getB .exhausted .normal)) := by
    have := x_range (X := X) (SP := SP) (self := W.get) (rd := none) (f := .t 33) (params := [34, 35]) (assign := getA) (bd := getB) (tm := [.slice id off bs.length cap ex 1, .int .i64 0, .int .i64 4, undefA, undefA, .ptr h.next 0, .ptr (h.next + 1) 0, .int .i64 0, undefA, undefA, .int .i64 4, .bool true, .bool false, .bool false, .int .i64 0, .bool false, .bool false, .bool false, .int .i64 0, .slice id off bs.length cap ex 1, .int .i64 (bs.length : Nat), .bool false, .bool false, .slice id off bs.length cap ex 1, .int .i64 0, .slice id off bs.length cap ex 1, .slice id off bs.length cap ex 1, .int .i64 (bs.length : Nat), .int .i64 4, .bool false, .slice id off bs.length cap ex 1, .int .i64 4, .slice id off 4 cap ex 1, .func W.bk1 [] [.ptr (h.next + 2) 0], undefA, undefA, undefA, undefA, undefA, undefA, undefA, undefA, undefA, undefA, undefA, undefA, undefA]) (h := H3) (h' := H5) (g := W.bk1) (first := []) (captured := [.ptr (h.next + 2) 0]) (v := undefA) (self' := W.get) (tm' := [.slice id off bs.length cap ex 1, .int .i64 0, .int .i64 4, undefA, undefA, .ptr h.next 0, .ptr (h.next + 1) 0, .int .i64 0, undefA, undefA, .int .i64 4, .bool true, .bool false, .bool false, .int .i64 0, .bool false, .bool false, .bool false, .int .i64 0, .slice id off bs.length cap ex 1, .int .i64 (bs.length : Nat), .bool false, .bool false, .slice id off bs.length cap ex 1, .int .i64 0, .slice id off bs.length cap ex 1, .slice id off bs.length cap ex 1, .int .i64 (bs.length : Nat), .int .i64 4, .bool false, .slice id off bs.length cap ex 1, .int .i64 4, .slice id off 4 cap ex 1, .func W.bk1 [] [.ptr (h.next + 2) 0], undefA, undefA, undefA, undefA, undefA, undefA, undefA, undefA, undefA, undefA, undefA, undefA, undefA]) (ps' := [34, 35]) (as' := getA) (bd' := getB) (st := .ready) (pend := .normal) rfl rfl (by rw [hn3, hA4]; exact ecall) (by rw [hn3]; exact k5) (by decide)
    rw [hn3] at this
    exact this
  have hl3 : h.next + 3 < H5.next := by omega
  have G6 : (H5.set (h.next + 3) (.loop W.get [.slice id off bs.length cap ex 1, .int .i64 0, .int .i64 4, undefA, undefA, .ptr h.next 0, .ptr (h.next + 1) 0, .int .i64 0, undefA, undefA, .int .i64 4, .bool true, .bool false, .bool false, .int .i64 0, .bool false, .bool false, .bool false, .int .i64 0, .slice id off bs.length cap ex 1, .int .i64 (bs.length : Nat), .bool false, .bool false, .slice id off bs.length cap ex 1, .int .i64 0, .slice id off bs.length cap ex 1, .slice id off bs.length cap ex 1, .int .i64 (bs.length : Nat), .int .i64 4, .bool false, .slice id off bs.length cap ex 1, .int .i64 4, .slice id off 4 cap ex 1, .func W.bk1 [] [.ptr (h.next + 2) 0], undefA, undefA, undefA, undefA, undefA, undefA, undefA, undefA, undefA, undefA, undefA, undefA, undefA] [34, 35] getA getB .exhausted .normal)).get (h.next + 1) = some (.cells [.int .u64 (valBE (bs.take 4))] false) := by rw [get_set, if_neg (by omega)]; exact k7
  have hH6 : ∃ H6, H5.set (h.next + 3) (.loop W.get [.slice id off bs.length cap ex 1, .int .i64 0, .int .i64 4, undefA, undefA, .ptr h.next 0, .ptr (h.next + 1) 0, .int .i64 0, undefA, undefA, .int .i64 4, .bool true, .bool false, .bool false, .int .i64 0, .bool false, .bool false, .bool false, .int .i64 0, .slice id off bs.length cap ex 1, .int .i64 (bs.length : Nat), .bool false, .bool false, .slice id off bs.length cap ex 1, .int .i64 0, .slice id off bs.length cap ex 1, .slice id off bs.length cap ex 1, .int .i64 (bs.length : Nat), .int .i64 4, .bool false, .slice id off bs.length cap ex 1, .int .i64 4, .slice id off 4 cap ex 1, .func W.bk1 [] [.ptr (h.next + 2) 0], undefA, undefA, undefA, undefA, undefA, undefA, undefA, undefA, undefA, undefA, undefA, undefA, undefA] [34, 35] getA getB .exhausted .normal) = H6 ∧ H6.next = h.next + 4 ∧ H6.get (h.next + 1) = some (.cells [.int .u64 (valBE (bs.take 4))] false) ∧ ∀ j, j < h.next → H6.get j = h.get j := ⟨_, rfl, by simp; omega, G6, fun j hj => by rw [get_set, if_neg (by omega), k3 j (by omega) (by omega), gA4.2 j (by omega), gA3.2 j (by omega), gA2.2 j (by omega), gA.2 j hj]⟩
  obtain ⟨H6, hH6, hn6, G7, hs6⟩ := hH6
  rw [hH6] at hrange
  have L7 : loadA H6 false 1 (h.next + 1) 0 = some (.int .u64 (valBE (bs.take 4))) := by rw [load_of G7]; rfl
  have hst : storeA H6 (h.next + 1) 0 [.int .u64 (valBE (bs.take 4))] = some (H6.set (h.next + 1) (.cells [.int .u64 (valBE (bs.take 4))] false)) := by simp [storeA, G7, splice]
  have L8 : loadA (H6.set (h.next + 1) (.cells [.int .u64 (valBE (bs.take 4))] false)) false 1 (h.next + 1) 0 = some (.int .u64 (valBE (bs.take 4))) := by rw [load_of (by rw [get_set, if_pos rfl, if_pos (by omega)])]; rfl
  have L5 : loadA H2 false 1 h.next 0 = some (.int .i64 4) := by rw [load_of (gA2.get G)]; rfl
  have hs0 : sliceA 1 (.slice id off bs.length cap ex 1) (some (.int .i64 0)) none none = some (.slice id off bs.length cap ex 1) := by
    have := bd_l (k := .i64) (len := bs.length) (cap := cap) (i := 0) (Nat.zero_le _)
    simp only [Int.ofNat_zero] at this
    simp only [sliceA, this, if_true, Nat.zero_mul, Nat.add_zero, Nat.sub_zero]
    simp
  have hs1 : sliceA 1 (.slice id off bs.length cap ex 1) none (some (.int .i64 4)) none = some (.slice id off 4 cap ex 1) := by
    have := bd_h (k' := .i64) (len := bs.length) (cap := cap) (j := 4) (by omega)
    have hc0 : (((4 : Nat)) : Int) = 4 := rfl
    rw [hc0] at this
    simp only [sliceA, this, if_true, Nat.zero_mul, Nat.add_zero, Nat.sub_zero]
    simp
  have hgt : ¬ (0 : Int) > (bs.length : Int) := by omega
  have hlt : ¬ (bs.length : Int) < 4 := by omega
  refine ⟨H6.set (h.next + 1) (.cells [.int .u64 (valBE (bs.take 4))] false), ?_, ⟨by simp; omega, fun j hj => by rw [get_set, if_neg (by omega)]; exact hs6 j hj⟩⟩
  rw [x_fn (W.kx3 _ _ _ (by simp)) W.s22]
  simp (decide := true) only [note_false, Int.reduceBEq, Int.reduceBNe, x_drawn, l_nil, l_op, l_guard, l_some, l_true, l_false, l_draw, readsA, x_true, x_false, x_seq, x_ops, x_cond, x_skip, x_ret, x_exit, x_block, x_then, x_thenE, x_thenR, x_blockN, x_blockR, x_blockE, s_nil, s_op, s_guard, s_some, s_true, s_false, s_put, s_put0, s_opsR, s_ret, s_norm, aop, ev, evs, List.map_cons, List.map_nil, List.cons_append, List.nil_append, List.append_nil, List.replicate, List.take_succ_cons, List.take_zero, List.take_nil, List.drop_succ_cons, List.drop_zero, List.drop_nil, Nat.zero_add, Nat.add_zero, Nat.reduceAdd, Nat.reduceMul, Nat.reduceLeDiff, Bool.false_eq_true, and_self, List.length_cons, List.length_nil, List.set_cons_zero, List.set_cons_succ, List.getD_cons_zero, List.getD_cons_succ, wantedA, List.getElem?_cons_zero, List.getElem?_cons_succ, q_t, q_f, Bool.not_true, Bool.not_false, b_add, b_sub, b_mul, b_eql, b_neq, b_lss, b_leq, b_gtr, b_geq, b_and, b_or, b_xor, b_quo, b_rem, b_shl, b_shr, unA, Option.map_some, Option.map_none, resA, tupA, Int.reduceLT, not_false_eq_true, not_true_eq_false, decide_true, decide_false, f_bool, c_bool, f_int, c_int, f_str, c_str, f_nilptr, c_nilptr, f_ptr, c_ptr, f_nilsl, c_nilsl, f_slice, c_slice, f_nilmap, c_nilmap, f_map, c_map, f_nilf, c_nilf, f_func, c_func, f_yieldf, c_yieldf, f_nilif, c_nilif, f_iface, c_iface, c_agg, List.all_cons, List.all_nil, Bool.and_true, Bool.true_and, if_true, if_false, ite_true, ite_false, hA, hA2, hn, L5, W.toNumW.sized4, hgt, hs0, hlt, hs1, ebk, hrange, L7, hst, L8, resA]
theorem GetW.short8 {v : AV} {bs : List Int} {h : Heap} (hb : BytesAt h v bs) (hl : bs.length < 8) : ∃ h', xcall X SP (.fn W.get) [v, .int .i64 0, .int .i64 8] h = some (.tuple [.int .u64 0, .int .i64 4], h') ∧ Grow h h' := by
  have hH : ∃ H, h.alloc (.cells [.int .i64 8] false) = H ∧ Grow h H ∧ H.next = h.next + 1 ∧ H.get h.next = some (.cells [.int .i64 8] false) := ⟨_, rfl, .alloc _ _, by simp, by rw [Heap.get_alloc, if_pos rfl]⟩
  obtain ⟨H, hA, gA, hn, G⟩ := hH
  have hH2 : ∃ H2, H.alloc (.cells [.int .u64 0] false) = H2 ∧ Grow H H2 ∧ H2.next = h.next + 2 ∧ H2.get (h.next + 1) = some (.cells [.int .u64 0] false) := ⟨_, rfl, .alloc _ _, by simp [hn], by rw [Heap.get_alloc, if_pos hn.symm]⟩
  obtain ⟨H2, hA2, gA2, hn2, G2⟩ := hH2
  have L5 : loadA H2 false 1 h.next 0 = some (.int .i64 8) := by rw [load_of (gA2.get G)]; rfl
  have hst : storeA H2 (h.next + 1) 0 [.int .u64 0] = some (H2.set (h.next + 1) (.cells [.int .u64 0] false)) := by simp [storeA, G2, splice]
  have L6 : loadA (H2.set (h.next + 1) (.cells [.int .u64 0] false)) false 1 (h.next + 1) 0 = some (.int .u64 0) := by rw [load_of (by rw [get_set, if_pos rfl, if_pos (by omega)])]; rfl
  refine ⟨H2.set (h.next + 1) (.cells [.int .u64 0] false), ?_, Grow.set (gA.trans gA2) _ (by omega) (by omega)⟩
  rw [x_fn (W.kx3 _ _ _ (by simp)) W.s22]
  rcases hb with ⟨rfl, rfl⟩ | ⟨id, off, cap, ex, c, ro, rfl, hcap, _⟩
  · have hs0 : sliceA 1 .nilsl (some (.int .i64 0)) none none = some .nilsl := rfl
    simp (decide := true) only [note_false, Int.reduceBEq, Int.reduceBNe, x_drawn, l_nil, l_op, l_guard, l_some, l_true, l_false, l_draw, readsA, x_true, x_false, x_seq, x_ops, x_cond, x_skip, x_ret, x_exit, x_block, x_then, x_thenE, x_thenR, x_blockN, x_blockR, x_blockE, s_nil, s_op, s_guard, s_some, s_true, s_false, s_put, s_put0, s_opsR, s_ret, s_norm, aop, ev, evs, List.map_cons, List.map_nil, List.cons_append, List.nil_append, List.append_nil, List.replicate, List.take_succ_cons, List.take_zero, List.take_nil, List.drop_succ_cons, List.drop_zero, List.drop_nil, Nat.zero_add, Nat.add_zero, Nat.reduceAdd, Nat.reduceMul, Nat.reduceLeDiff, Bool.false_eq_true, and_self, List.length_cons, List.length_nil, List.set_cons_zero, List.set_cons_succ, List.getD_cons_zero, List.getD_cons_succ, wantedA, List.getElem?_cons_zero, List.getElem?_cons_succ, q_t, q_f, Bool.not_true, Bool.not_false, b_add, b_sub, b_mul, b_eql, b_neq, b_lss, b_leq, b_gtr, b_geq, b_and, b_or, b_xor, b_quo, b_rem, b_shl, b_shr, unA, Option.map_some, Option.map_none, resA, tupA, Int.reduceLT, not_false_eq_true, not_true_eq_false, decide_true, decide_false, f_bool, c_bool, f_int, c_int, f_str, c_str, f_nilptr, c_nilptr, f_ptr, c_ptr, f_nilsl, c_nilsl, f_slice, c_slice, f_nilmap, c_nilmap, f_map, c_map, f_nilf, c_nilf, f_func, c_func, f_yieldf, c_yieldf, f_nilif, c_nilif, f_iface, c_iface, c_agg, List.all_cons, List.all_nil, Bool.and_true, Bool.true_and, if_true, if_false, ite_true, ite_false, hA, hA2, hn, L5, W.toNumW.sized8, hs0, hst, L6, resA]
  · have hs0 : sliceA 1 (.slice id off bs.length cap ex 1) (some (.int .i64 0)) none none = some (.slice id off bs.length cap ex 1) := by
      have := bd_l (k := .i64) (len := bs.length) (cap := cap) (i := 0) (Nat.zero_le _)
      simp only [Int.ofNat_zero] at this
      simp only [sliceA, this, if_true, Nat.zero_mul, Nat.add_zero, Nat.sub_zero]
      simp
    have hgt : ¬ (0 : Int) > (bs.length : Int) := by omega
    have hlt : (bs.length : Int) < 8 := by omega
    simp (decide := true) only [note_false, Int.reduceBEq, Int.reduceBNe, x_drawn, l_nil, l_op, l_guard, l_some, l_true, l_false, l_draw, readsA, x_true, x_false, x_seq, x_ops, x_cond, x_skip, x_ret, x_exit, x_block, x_then, x_thenE, x_thenR, x_blockN, x_blockR, x_blockE, s_nil, s_op, s_guard, s_some, s_true, s_false, s_put, s_put0, s_opsR, s_ret, s_norm, aop, ev, evs, List.map_cons, List.map_nil, List.cons_append, List.nil_append, List.append_nil, List.replicate, List.take_succ_cons, List.take_zero, List.take_nil, List.drop_succ_cons, List.drop_zero, List.drop_nil, Nat.zero_add, Nat.add_zero, Nat.reduceAdd, Nat.reduceMul, Nat.reduceLeDiff, Bool.false_eq_true, and_self, List.length_cons, List.length_nil, List.set_cons_zero, List.set_cons_succ, List.getD_cons_zero, List.getD_cons_succ, wantedA, List.getElem?_cons_zero, List.getElem?_cons_succ, q_t, q_f, Bool.not_true, Bool.not_false, b_add, b_sub, b_mul, b_eql, b_neq, b_lss, b_leq, b_gtr, b_geq, b_and, b_or, b_xor, b_quo, b_rem, b_shl, b_shr, unA, Option.map_some, Option.map_none, resA, tupA, Int.reduceLT, not_false_eq_true, not_true_eq_false, decide_true, decide_false, f_bool, c_bool, f_int, c_int, f_str, c_str, f_nilptr, c_nilptr, f_ptr, c_ptr, f_nilsl, c_nilsl, f_slice, c_slice, f_nilmap, c_nilmap, f_map, c_map, f_nilf, c_nilf, f_func, c_func, f_yieldf, c_yieldf, f_nilif, c_nilif, f_iface, c_iface, c_agg, List.all_cons, List.all_nil, Bool.and_true, Bool.true_and, if_true, if_false, ite_true, ite_false, hA, hA2, hn, L5, W.toNumW.sized8, hgt, hs0, hlt, hst, L6, resA]
theorem GetW.ok8 {v : AV} {bs : List Int} {h : Heap} (hb : BytesAt h v bs) (hby : Bytes bs) (hl : 8 ≤ bs.length) : ∃ h', xcall X SP (.fn W.get) [v, .int .i64 0, .int .i64 8] h = some (.tuple [.int .u64 (valBE (bs.take 8)), .int .i64 0], h') ∧ Grow h h' := by
  have hH : ∃ H, h.alloc (.cells [.int .i64 8] false) = H ∧ Grow h H ∧ H.next = h.next + 1 ∧ H.get h.next = some (.cells [.int .i64 8] false) := ⟨_, rfl, .alloc _ _, by simp, by rw [Heap.get_alloc, if_pos rfl]⟩
  obtain ⟨H, hA, gA, hn, G⟩ := hH
  have hH2 : ∃ H2, H.alloc (.cells [.int .u64 0] false) = H2 ∧ Grow H H2 ∧ H2.next = h.next + 2 ∧ H2.get (h.next + 1) = some (.cells [.int .u64 0] false) := ⟨_, rfl, .alloc _ _, by simp [hn], by rw [Heap.get_alloc, if_pos hn.symm]⟩
  obtain ⟨H2, hA2, gA2, hn2, G2⟩ := hH2
  rcases hb with ⟨rfl, rfl⟩ | ⟨id, off, cap, ex, c, ro, rfl, hcap, hg, hle, hct⟩
  · simp at hl
  have hid := Heap.lt_of_get hg
  have hH3 : ∃ H3, H2.alloc (.cells [.slice id off 8 cap ex 1] false) = H3 ∧ Grow H2 H3 ∧ H3.next = h.next + 3 ∧ H3.get (h.next + 2) = some (.cells [.slice id off 8 cap ex 1] false) := ⟨_, rfl, .alloc _ _, by simp [hn2], by rw [Heap.get_alloc, if_pos hn2.symm]⟩
  obtain ⟨H3, hA3, gA3, hn3, G3⟩ := hH3
  have ebk := W.bk_spec (.slice id off 8 cap ex 1) rfl H2
  rw [hA3, hn2] at ebk
  have hH4 : ∃ H4, H3.alloc (.loop W.get [.slice id off bs.length cap ex 1, .int .i64 0, .int .i64 8, undefA, undefA, .ptr h.next 0, .ptr (h.next + 1) 0, .int .i64 0, undefA, undefA, .int .i64 8, .bool true, .bool false, .bool false, .int .i64 0, .bool false, .bool false, .bool false, .int .i64 0, .slice id off bs.length cap ex 1, .int .i64 (bs.length : Nat), .bool false, .bool false, .slice id off bs.length cap ex 1, .int .i64 0, .slice id off bs.length cap ex 1, .slice id off bs.length cap ex 1, .int .i64 (bs.length : Nat), .int .i64 8, .bool false, .slice id off bs.length cap ex 1, .int .i64 8, .slice id off 8 cap ex 1, .func W.bk1 [] [.ptr (h.next + 2) 0], undefA, undefA, undefA, undefA, undefA, undefA, undefA, undefA, undefA, undefA, undefA, undefA, undefA] [34, 35] getA getB .ready .normal) = H4 ∧ Grow H3 H4 ∧ H4.next = h.next + 4 ∧ H4.get (h.next + 3) = some (.loop W.get [.slice id off bs.length cap ex 1, .int .i64 0, .int .i64 8, undefA, undefA, .ptr h.next 0, .ptr (h.next + 1) 0, .int .i64 0, undefA, undefA, .int .i64 8, .bool true, .bool false, .bool false, .int .i64 0, .bool false, .bool false, .bool false, .int .i64 0, .slice id off bs.length cap ex 1, .int .i64 (bs.length : Nat), .bool false, .bool false, .slice id off bs.length cap ex 1, .int .i64 0, .slice id off bs.length cap ex 1, .slice id off bs.length cap ex 1, .int .i64 (bs.length : Nat), .int .i64 8, .bool false, .slice id off bs.length cap ex 1, .int .i64 8, .slice id off 8 cap ex 1, .func W.bk1 [] [.ptr (h.next + 2) 0], undefA, undefA, undefA, undefA, undefA, undefA, undefA, undefA, undefA, undefA, undefA, undefA, undefA] [34, 35] getA getB .ready .normal) := ⟨_, rfl, .alloc _ _, by simp [hn3], by rw [Heap.get_alloc, if_pos hn3.symm]⟩
  obtain ⟨H4, hA4, gA4, hn4, G4⟩ := hH4
  have hct2 : (c.drop off).take 8 = ints (bs.take 8) := by
    have := congrArg (List.take 8) hct
    rw [List.take_take, Nat.min_eq_left hl] at this
    rw [this]; simp [ints, List.map_take]
  have hlen : (bs.take 8).length = 8 := by simp; omega
  have hby2 : Bytes (bs.take 8) := fun x hx => hby x (List.mem_of_mem_take hx)
  have g34 := gA3.trans gA4
  have hG0 : GAt W.get H4 (h.next + 3) h.next (h.next + 1) [.slice id off bs.length cap ex 1, .int .i64 0, .int .i64 8, undefA, undefA, .ptr h.next 0, .ptr (h.next + 1) 0, .int .i64 0, undefA, undefA, .int .i64 8, .bool true, .bool false, .bool false, .int .i64 0, .bool false, .bool false, .bool false, .int .i64 0, .slice id off bs.length cap ex 1, .int .i64 (bs.length : Nat), .bool false, .bool false, .slice id off bs.length cap ex 1, .int .i64 0, .slice id off bs.length cap ex 1, .slice id off bs.length cap ex 1, .int .i64 (bs.length : Nat), .int .i64 8, .bool false, .slice id off bs.length cap ex 1, .int .i64 8, .slice id off 8 cap ex 1, .func W.bk1 [] [.ptr (h.next + 2) 0], undefA, undefA, undefA, undefA, undefA, undefA, undefA, undefA, undefA, undefA, undefA, undefA, undefA] 8 (valBE ((bs.take 8).drop 8)) := by
    have : (bs.take 8).drop 8 = [] := List.drop_eq_nil_of_le (by rw [hlen]; exact Nat.le_refl _)
    rw [this]
    exact ⟨⟨rfl, rfl, rfl⟩, G4, (gA2.trans g34).get G, g34.get G2, by omega, by omega, by omega⟩
  obtain ⟨tm', H5, e5, k1, k2, k3⟩ := bk_loop (X := X) (SP := SP) (g := W.bk1) (b1 := h.next + 2) (id := id) (off := off) (cap := cap) (ex := ex) (ro := ro) (c := c) (k := 8) (by omega) hlen hby2 (by omega) (by omega) (by omega) (by omega) (by omega) hct2 8 H4
    [.yieldf (h.next + 3), .ptr (h.next + 2) 0, undefA, .int .i64 7, .slice id off 8 cap ex 1, .int .i64 8, .int .i64 7, undefA, undefA, undefA, undefA, undefA, undefA, undefA, undefA, undefA, undefA, undefA, undefA] (Nat.le_refl _) hG0 ⟨rfl, rfl, rfl, rfl⟩ (gA4.get G3) ((((gA.trans gA2).trans gA3).trans gA4).get hg)
  have L1 : loadA H4 false 1 (h.next + 2) 0 = some (.slice id off 8 cap ex 1) := by rw [load_of (gA4.get G3)]; rfl
  have ecall : xcall X SP (.fn W.bk1) [.yieldf (h.next + 3), .ptr (h.next + 2) 0] H4 = some (undefA, H5) := by
    rw [x_fn (W.kx3 _ _ _ (by simp)) (show SP W.bk1 = some ⟨19, [], .seq (.ops [⟨some 4, .load false 1 (.t 1), none⟩, ⟨some 5, .len (.sl) (.t 4), none⟩, ⟨some 6, .bin (.sub) (.other) (.t 5) (.c (.int (.i64) 1)), none⟩, ⟨some 3, .mov (.t 6), none⟩]) (.block 0 (.loop bk1B))⟩ from W.s21)]
    have hw : IntKind.i64.wrap ((8 : Int) - 1) = 7 := rfl
    have hc0 : (((8 : Nat)) : Int) = 8 := rfl
    simp only [note_false, Int.reduceBEq, Int.reduceBNe, x_drawn, l_nil, l_op, l_guard, l_some, l_true, l_false, l_draw, readsA, x_true, x_false, x_seq, x_ops, x_cond, x_skip, x_ret, x_exit, x_block, x_then, x_thenE, x_thenR, x_blockN, x_blockR, x_blockE, s_nil, s_op, s_guard, s_some, s_true, s_false, s_put, s_put0, s_opsR, s_ret, s_norm, aop, ev, evs, List.map_cons, List.map_nil, List.cons_append, List.nil_append, List.append_nil, List.replicate, List.take_succ_cons, List.take_zero, List.take_nil, List.drop_succ_cons, List.drop_zero, List.drop_nil, Nat.zero_add, Nat.add_zero, Nat.reduceAdd, Nat.reduceMul, Nat.reduceLeDiff, Bool.false_eq_true, and_self, List.length_cons, List.length_nil, List.set_cons_zero, List.set_cons_succ, List.getD_cons_zero, List.getD_cons_succ, wantedA, List.getElem?_cons_zero, List.getElem?_cons_succ, q_t, q_f, Bool.not_true, Bool.not_false, b_add, b_sub, b_mul, b_eql, b_neq, b_lss, b_leq, b_gtr, b_geq, b_and, b_or, b_xor, b_quo, b_rem, b_shl, b_shr, unA, Option.map_some, Option.map_none, resA, tupA, Int.reduceLT, not_false_eq_true, not_true_eq_false, decide_true, decide_false, f_bool, c_bool, f_int, c_int, f_str, c_str, f_nilptr, c_nilptr, f_ptr, c_ptr, f_nilsl, c_nilsl, f_slice, c_slice, f_nilmap, c_nilmap, f_map, c_map, f_nilf, c_nilf, f_func, c_func, f_yieldf, c_yieldf, f_nilif, c_nilif, f_iface, c_iface, c_agg, List.all_cons, List.all_nil, Bool.and_true, Bool.true_and, if_true, if_false, ite_true, ite_false, L1, hw, hc0]
    simp only [note_false, Int.reduceBEq, Int.reduceBNe, x_drawn, l_nil, l_op, l_guard, l_some, l_true, l_false, l_draw, readsA, x_true, x_false, x_seq, x_ops, x_cond, x_skip, x_ret, x_exit, x_block, x_then, x_thenE, x_thenR, x_blockN, x_blockR, x_blockE, s_nil, s_op, s_guard, s_some, s_true, s_false, s_put, s_put0, s_opsR, s_ret, s_norm, aop, ev, evs, List.map_cons, List.map_nil, List.cons_append, List.nil_append, List.append_nil, List.replicate, List.take_succ_cons, List.take_zero, List.take_nil, List.drop_succ_cons, List.drop_zero, List.drop_nil, Nat.zero_add, Nat.add_zero, Nat.reduceAdd, Nat.reduceMul, Nat.reduceLeDiff, Bool.false_eq_true, and_self, List.length_cons, List.length_nil, List.set_cons_zero, List.set_cons_succ, List.getD_cons_zero, List.getD_cons_succ, wantedA, List.getElem?_cons_zero, List.getElem?_cons_succ, q_t, q_f, Bool.not_true, Bool.not_false, b_add, b_sub, b_mul, b_eql, b_neq, b_lss, b_leq, b_gtr, b_geq, b_and, b_or, b_xor, b_quo, b_rem, b_shl, b_shr, unA, Option.map_some, Option.map_none, resA, tupA, Int.reduceLT, not_false_eq_true, not_true_eq_false, decide_true, decide_false, f_bool, c_bool, f_int, c_int, f_str, c_str, f_nilptr, c_nilptr, f_ptr, c_ptr, f_nilsl, c_nilsl, f_slice, c_slice, f_nilmap, c_nilmap, f_map, c_map, f_nilf, c_nilf, f_func, c_func, f_yieldf, c_yieldf, f_nilif, c_nilif, f_iface, c_iface, c_agg, List.all_cons, List.all_nil, Bool.and_true, Bool.true_and, if_true, if_false, ite_true, ite_false, e5, resA]
  obtain ⟨k4, k5, k6, k7, k8, k9, k10⟩ := k1
  have hrange : xcode X SP W.get none (.rangeFunc (.t 33) [34, 35] getA getB) [.slice id off bs.length cap ex 1, .int .i64 0, .int .i64 8, undefA, undefA, .ptr h.next 0, .ptr (h.next + 1) 0, .int .i64 0, undefA, undefA, .int .i64 8, .bool true, .bool false, .bool false, .int .i64 0, .bool false, .bool false, .bool false, .int .i64 0, .slice id off bs.length cap ex 1, .int .i64 (bs.length : Nat), .bool false, .bool false, .slice id off bs.length cap ex 1, .int .i64 0, .slice id off bs.length cap ex 1, .slice id off bs.length cap ex 1, .int .i64 (bs.length : Nat), .int .i64 8, .bool false, .slice id off bs.length cap ex 1, .int .i64 8, .slice id off 8 cap ex 1, .func W.bk1 [] [.ptr (h.next + 2) 0], undefA, undefA, undefA, undefA, undefA, undefA, undefA, undefA, undefA, undefA, undefA, undefA, undefA] H3 = some (.normal, [.slice id off bs.length cap ex 1, .int .i64 0, .int .i64 8, undefA, undefA, .ptr h.next 0, .ptr (h.next + 1) 0, .int .i64 0, undefA, undefA, .int .i64 8, .bool true, .bool false, .bool false, .int .i64 0, .bool false, .bool false, .bool false, .int .i64 0, .slice id off bs.length cap ex 1, .int .i64 (bs.length : Nat), .bool false, .bool false, .slice id off bs.length cap ex 1, .int .i64 0, .slice id off bs.length cap ex 1, .slice id off bs.length cap ex 1, .int .i64 (bs.length : Nat), .int .i64 8, .bool false, .slice id off bs.length cap ex 1, .int .i64 8, .slice id off 8 cap ex 1, .func W.bk1 [] [.ptr (h.next + 2) 0], undefA, undefA, undefA, undefA, undefA, undefA, undefA, undefA, undefA, undefA, undefA, undefA, undefA], H5.set (h.next + 3) (.loop W.get [.slice id off bs.length cap ex 1, .int .i64 0, .int .i64 8, undefA, undefA, .ptr h.next 0, .ptr (h.next + 1) 0, .int .i64 0, undefA, undefA, .int .i64 8, .bool true, .bool false, .bool false, .int .i64 0, .bool false, .bool false, .bool false, .int .i64 0, .slice id off bs.length cap ex 1, .int .i64 (bs.length : Nat), .bool false, .bool false, .slice id off bs.length cap ex 1, .int .i64 0, .slice id off bs.length cap ex 1, .slice id off bs.length cap ex 1, .int .i64 (bs.length : Nat), .int .i64 8, .bool false, .slice id off bs.length cap ex 1, .int .i64 8, .slice id off 8 cap ex 1, .func W.bk1 [] [.ptr (h.next + 2) 0], undefA, undefA, undefA, undefA, undefA, undefA, undefA, undefA, undefA, undefA, undefA, undefA, undefA] [34, 35] getA getB .exhausted .normal)) := by
    have := x_range (X := X) (SP := SP) (self := W.get) (rd := none) (f := .t 33) (params := [34, 35]) (assign := getA) (bd := getB) (tm := [.slice id off bs.length cap ex 1, .int .i64 0, .int .i64 8, undefA, undefA, .ptr h.next 0, .ptr (h.next + 1) 0, .int .i64 0, undefA, undefA, .int .i64 8, .bool true, .bool false, .bool false, .int .i64 0, .bool false, .bool false, .bool false, .int .i64 0, .slice id off bs.length cap ex 1, .int .i64 (bs.length : Nat), .bool false, .bool false, .slice id off bs.length cap ex 1, .int .i64 0, .slice id off bs.length cap ex 1, .slice id off bs.length cap ex 1, .int .i64 (bs.length : Nat), .int .i64 8, .bool false, .slice id off bs.length cap ex 1, .int .i64 8, .slice id off 8 cap ex 1, .func W.bk1 [] [.ptr (h.next + 2) 0], undefA, undefA, undefA, undefA, undefA, undefA, undefA, undefA, undefA, undefA, undefA, undefA, undefA]) (h := H3) (h' := H5) (g := W.bk1) (first := []) (captured := [.ptr (h.next + 2) 0]) (v := undefA) (self' := W.get) (tm' := [.slice id off bs.length cap ex 1, .int .i64 0, .int .i64 8, undefA, undefA, .ptr h.next 0, .ptr (h.next + 1) 0, .int .i64 0, undefA, undefA, .int .i64 8, .bool true, .bool false, .bool false, .int .i64 0, .bool false, .bool false, .bool false, .int .i64 0, .slice id off bs.length cap ex 1, .int .i64 (bs.length : Nat), .bool false, .bool false, .slice id off bs.length cap ex 1, .int .i64 0, .slice id off bs.length cap ex 1, .slice id off bs.length cap ex 1, .int .i64 (bs.length : Nat), .int .i64 8, .bool false, .slice id off bs.length cap ex 1, .int .i64 8, .slice id off 8 cap ex 1, .func W.bk1 [] [.ptr (h.next + 2) 0], undefA, undefA, undefA, undefA, undefA, undefA, undefA, undefA, undefA, undefA, undefA, undefA, undefA]) (ps' := [34, 35]) (as' := getA) (bd' := getB) (st := .ready) (pend := .normal) rfl rfl (by rw [hn3, hA4]; exact ecall) (by rw [hn3]; exact k5) (by decide)
    rw [hn3] at this
    exact this
  have hl3 : h.next + 3 < H5.next := by omega
  have G6 : (H5.set (h.next + 3) (.loop W.get [.slice id off bs.length cap ex 1, .int .i64 0, .int .i64 8, undefA, undefA, .ptr h.next 0, .ptr (h.next + 1) 0, .int .i64 0, undefA, undefA, .int .i64 8, .bool true, .bool false, .bool false, .int .i64 0, .bool false, .bool false, .bool false, .int .i64 0, .slice id off bs.length cap ex 1, .int .i64 (bs.length : Nat), .bool false, .bool false, .slice id off bs.length cap ex 1, .int .i64 0, .slice id off bs.length cap ex 1, .slice id off bs.length cap ex 1, .int .i64 (bs.length : Nat), .int .i64 8, .bool false, .slice id off bs.length cap ex 1, .int .i64 8, .slice id off 8 cap ex 1, .func W.bk1 [] [.ptr (h.next + 2) 0], undefA, undefA, undefA, undefA, undefA, undefA, undefA, undefA, undefA, undefA, undefA, undefA, undefA] [34, 35] getA getB .exhausted .normal)).get (h.next + 1) = some (.cells [.int .u64 (valBE (bs.take 8))] false) := by rw [get_set, if_neg (by omega)]; exact k7
  have hH6 : ∃ H6, H5.set (h.next + 3) (.loop W.get [.slice id off bs.length cap ex 1, .int .i64 0, .int .i64 8, undefA, undefA, .ptr h.next 0, .ptr (h.next + 1) 0, .int .i64 0, undefA, undefA, .int .i64 8, .bool true, .bool false, .bool false, .int .i64 0, .bool false, .bool false, .bool false, .int .i64 0, .slice id off bs.length cap ex 1, .int .i64 (bs.length : Nat), .bool false, .bool false, .slice id off bs.length cap ex 1, .int .i64 0, .slice id off bs.length cap ex 1, .slice id off bs.length cap ex 1, .int .i64 (bs.length : Nat), .int .i64 8, .bool false, .slice id off bs.length cap ex 1, .int .i64 8, .slice id off 8 cap ex 1, .func W.bk1 [] [.ptr (h.next + 2) 0], undefA, undefA, undefA, undefA, undefA, undefA, undefA, undefA, undefA, undefA, undefA, undefA, undefA] [34, 35] getA getB .exhausted .normal) = H6 ∧ H6.next = h.next + 4 ∧ H6.get (h.next + 1) = some (.cells [.int .u64 (valBE (bs.take 8))] false) ∧ ∀ j, j < h.next → H6.get j = h.get j := ⟨_, rfl, by simp; omega, G6, fun j hj => by rw [get_set, if_neg (by omega), k3 j (by omega) (by omega), gA4.2 j (by omega), gA3.2 j (by omega), gA2.2 j (by omega), gA.2 j hj]⟩
  obtain ⟨H6, hH6, hn6, G7, hs6⟩ := hH6
  rw [hH6] at hrange
  have L7 : loadA H6 false 1 (h.next + 1) 0 = some (.int .u64 (valBE (bs.take 8))) := by rw [load_of G7]; rfl
  have hst : storeA H6 (h.next + 1) 0 [.int .u64 (valBE (bs.take 8))] = some (H6.set (h.next + 1) (.cells [.int .u64 (valBE (bs.take 8))] false)) := by simp [storeA, G7, splice]
  have L8 : loadA (H6.set (h.next + 1) (.cells [.int .u64 (valBE (bs.take 8))] false)) false 1 (h.next + 1) 0 = some (.int .u64 (valBE (bs.take 8))) := by rw [load_of (by rw [get_set, if_pos rfl, if_pos (by omega)])]; rfl
  have L5 : loadA H2 false 1 h.next 0 = some (.int .i64 8) := by rw [load_of (gA2.get G)]; rfl
  have hs0 : sliceA 1 (.slice id off bs.length cap ex 1) (some (.int .i64 0)) none none = some (.slice id off bs.length cap ex 1) := by
    have := bd_l (k := .i64) (len := bs.length) (cap := cap) (i := 0) (Nat.zero_le _)
    simp only [Int.ofNat_zero] at this
    simp only [sliceA, this, if_true, Nat.zero_mul, Nat.add_zero, Nat.sub_zero]
    simp
  have hs1 : sliceA 1 (.slice id off bs.length cap ex 1) none (some (.int .i64 8)) none = some (.slice id off 8 cap ex 1) := by
    have := bd_h (k' := .i64) (len := bs.length) (cap := cap) (j := 8) (by omega)
    have hc0 : (((8 : Nat)) : Int) = 8 := rfl
    rw [hc0] at this
    simp only [sliceA, this, if_true, Nat.zero_mul, Nat.add_zero, Nat.sub_zero]
    simp
  have hgt : ¬ (0 : Int) > (bs.length : Int) := by omega
  have hlt : ¬ (bs.length : Int) < 8 := by omega
  refine ⟨H6.set (h.next + 1) (.cells [.int .u64 (valBE (bs.take 8))] false), ?_, ⟨by simp; omega, fun j hj => by rw [get_set, if_neg (by omega)]; exact hs6 j hj⟩⟩
  rw [x_fn (W.kx3 _ _ _ (by simp)) W.s22]
  simp (decide := true) only [note_false, Int.reduceBEq, Int.reduceBNe, x_drawn, l_nil, l_op, l_guard, l_some, l_true, l_false, l_draw, readsA, x_true, x_false, x_seq, x_ops, x_cond, x_skip, x_ret, x_exit, x_block, x_then, x_thenE, x_thenR, x_blockN, x_blockR, x_blockE, s_nil, s_op, s_guard, s_some, s_true, s_false, s_put, s_put0, s_opsR, s_ret, s_norm, aop, ev, evs, List.map_cons, List.map_nil, List.cons_append, List.nil_append, List.append_nil, List.replicate, List.take_succ_cons, List.take_zero, List.take_nil, List.drop_succ_cons, List.drop_zero, List.drop_nil, Nat.zero_add, Nat.add_zero, Nat.reduceAdd, Nat.reduceMul, Nat.reduceLeDiff, Bool.false_eq_true, and_self, List.length_cons, List.length_nil, List.set_cons_zero, List.set_cons_succ, List.getD_cons_zero, List.getD_cons_succ, wantedA, List.getElem?_cons_zero, List.getElem?_cons_succ, q_t, q_f, Bool.not_true, Bool.not_false, b_add, b_sub, b_mul, b_eql, b_neq, b_lss, b_leq, b_gtr, b_geq, b_and, b_or, b_xor, b_quo, b_rem, b_shl, b_shr, unA, Option.map_some, Option.map_none, resA, tupA, Int.reduceLT, not_false_eq_true, not_true_eq_false, decide_true, decide_false, f_bool, c_bool, f_int, c_int, f_str, c_str, f_nilptr, c_nilptr, f_ptr, c_ptr, f_nilsl, c_nilsl, f_slice, c_slice, f_nilmap, c_nilmap, f_map, c_map, f_nilf, c_nilf, f_func, c_func, f_yieldf, c_yieldf, f_nilif, c_nilif, f_iface, c_iface, c_agg, List.all_cons, List.all_nil, Bool.and_true, Bool.true_and, if_true, if_false, ite_true, ite_false, hA, hA2, hn, L5, W.toNumW.sized8, hgt, hs0, hlt, hs1, ebk, hrange, L7, hst, L8, resA]
end
end Go.Ya
