/-
  The abstract machine: YaBE, YaQ, YaNumF, YaArg2.
-/
import Derived.IntWalk
import Derived.Test.YtpoccinfeekdhaaDoorYbH
import Derived.Test.YtpoccinfeekdhaaDoorYbJ
import Derived.Test.YtpoccinfeekdhaaDoorYbG
namespace Go.Ya
set_option linter.unusedVariables false
set_option linter.unusedSimpArgs false
def beB (n : Int) (i : Nat) : Int := n / 256 ^ i % 256
def beL (n : Int) : Nat → List Int
  | 0 => []
  | i + 1 => beB n i :: beL n i
theorem beL_len (n : Int) : ∀ k, (beL n k).length = k
  | 0 => rfl
  | k + 1 => by simp [beL, beL_len n k]
theorem wrap8 {n : Int} (h : 0 ≤ n) : IntKind.u8.wrap n = n % 256 := by rw [IntKind.wrap_u8]
def valBE : List Int → Int := fun l => l.foldl (fun n c => n * 256 + c) 0
theorem valBE_acc : ∀ (l : List Int) (a : Int), l.foldl (fun n c => n * 256 + c) a = a * 256 ^ l.length + valBE l
  | [], a => by simp [valBE]
  | c :: l, a => by
    simp only [List.foldl_cons, List.length_cons, valBE]
    rw [valBE_acc l, valBE_acc l (0 * 256 + c)]
    simp only [Int.pow_succ]
    have : valBE l = l.foldl (fun n c => n * 256 + c) 0 := rfl
    grind
theorem valBE_cons (c : Int) (l : List Int) : valBE (c :: l) = c * 256 ^ l.length + valBE l := by
  show l.foldl (fun n c => n * 256 + c) (0 * 256 + c) = _
  rw [valBE_acc]; simp
def Bytes (l : List Int) : Prop := ∀ c ∈ l, 0 ≤ c ∧ c ≤ 255
theorem valBE_lt : ∀ (l : List Int), Bytes l → 0 ≤ valBE l ∧ valBE l < 256 ^ l.length
  | [], _ => by simp [valBE]
  | c :: l, h => by
    obtain ⟨h1, h2⟩ := valBE_lt l fun x hx => h x (List.mem_cons_of_mem _ hx)
    have hc := h c (List.mem_cons_self)
    rw [valBE_cons, List.length_cons, Int.pow_succ]
    generalize (256 : Int) ^ l.length = p at *
    constructor
    · have : 0 ≤ c * p := Int.mul_nonneg hc.1 (by omega)
      omega
    · have : c * p ≤ 255 * p := Int.mul_le_mul_of_nonneg_right hc.2 (by omega)
      omega
theorem or_step {acc c : Int} {m : Nat} (hm : m ≤ 7) (ha : 0 ≤ acc ∧ acc < 256 ^ m) (hc : 0 ≤ c ∧ c ≤ 255) :
    IntKind.u64.wrap ((BitVec.ofInt IntKind.u64.bits acc ||| BitVec.ofInt IntKind.u64.bits (IntKind.u64.wrap (c * 2 ^ (8 * m)))).toNat : Int) = c * 256 ^ m + acc := by
  obtain ⟨A, rfl⟩ : ∃ A : Nat, acc = A := ⟨acc.toNat, by omega⟩
  obtain ⟨C, rfl⟩ : ∃ C : Nat, c = C := ⟨c.toNat, by omega⟩
  have hP : (2 : Nat) ^ (8 * m) = 256 ^ m := by rw [Nat.pow_mul]
  have hPi : ((2 : Int) ^ (8 * m)) = ((256 ^ m : Nat) : Int) := by rw [← hP]; simp
  have hPj : ((256 : Int) ^ m) = ((256 ^ m : Nat) : Int) := by simp
  have hle : (256 : Nat) ^ m ≤ 256 ^ 7 := Nat.pow_le_pow_right (by decide) hm
  have hA : A < 256 ^ m := by have := ha.2; rw [hPj] at this; omega
  rw [hPi, hPj]
  have hor : (A ||| C * 256 ^ m) = C * 256 ^ m + A := by
    have := Nat.shiftLeft_add_eq_or_of_lt (b := A) (i := 8 * m) (by rw [hP]; exact hA) C
    rw [Nat.shiftLeft_eq, hP] at this
    rw [Nat.or_comm, ← this]
  generalize 256 ^ m = P at *
  have h7 : (256 : Nat) ^ 7 = 72057594037927936 := by decide
  have hCP : C * P ≤ 255 * P := Nat.mul_le_mul_right _ (by omega)
  have hw : IntKind.u64.wrap ((C : Int) * (P : Int)) = ((C * P : Nat) : Int) := by
    have hmul : ((C : Int) * (P : Int)) = ((C * P : Nat) : Int) := by simp
    rw [hmul]; exact IntWalk.u64_in _ (by omega)
  rw [hw]
  have hof : ∀ n : Nat, n < 18446744073709551616 → (BitVec.ofInt IntKind.u64.bits (n : Int)).toNat = n := fun n hn => by
    show (BitVec.ofInt 64 (n : Int)).toNat = n
    rw [BitVec.toNat_ofInt]
    show ((n : Int) % (2 ^ 64 : Nat)).toNat = n
    have : ((2 ^ 64 : Nat) : Int) = 18446744073709551616 := by decide
    rw [this]; omega
  rw [BitVec.toNat_or, hof A (by omega), hof (C * P) (by omega), hor]
  rw [IntWalk.u64_in _ (by omega)]
  simp
end Go.Ya
namespace Go.Ya
set_option linter.unusedVariables false
theorem qd {p : Prop} (h : p := by (first | (refine Asm.mk ?_; assumption) | (show Grow _ _; (repeat' (first | exact Grow.refl _ | assumption | exact Or.inl rfl | exact Grow.alloc _ _ | refine Grow.allocR ?_ _ | refine Grow.noteR ?_ _ _ | refine Grow.setR ?_ _ ?_ ?_ | omega | (simp only [nx_alloc, nx_set, own_sl, own_nil] <;> omega) | (refine App.grow (by assumption) ?_ ?_) | (refine Pok.grow (by assumption) ?_ ?_) | (apply Grow.trans; rotate_left; assumption) | fail)); done) | omega | (simp only [nx_alloc, nx_set, own_sl, own_nil, List.length_append, List.length_cons, List.length_nil, List.length_take, List.length_drop, List.length_replicate, List.length_map, ints_len] <;> omega) | fail)) : p := h
theorem qg {p : Prop} (h : p := by ((repeat' (first | exact Grow.refl _ | assumption | exact Or.inl rfl | exact Grow.alloc _ _ | refine Grow.allocR ?_ _ | refine Grow.noteR ?_ _ _ | refine Grow.setR ?_ _ ?_ ?_ | omega | (simp only [nx_alloc, nx_set, own_sl, own_nil] <;> omega) | (refine App.grow (by assumption) ?_ ?_) | (refine Pok.grow (by assumption) ?_ ?_) | (apply Grow.trans; rotate_left; assumption) | fail)); first | done | fail)) : p := h
theorem qp {p : Prop} (h : p := by ((repeat' (first | exact Pok.refl _ _ | assumption | refine Pok.allocR ?_ | refine Pok.setR ?_ ?_ | omega | (simp only [nx_alloc, nx_set] <;> omega) | (apply Pok.trans; rotate_left; assumption) | (apply Pok.trans; rotate_left; exact Pok.of (by assumption)) | fail)); first | done | fail)) : p := h
theorem ql {p : Prop} (h : p := by (first | omega | (simp only [List.length_append, List.length_cons, List.length_nil, List.length_take, List.length_drop, List.flatMap_cons, List.flatMap_nil, beL_len, ints_len, List.append_nil, List.length_replicate, List.length_map, Int.reducePow, nx_alloc, nx_set, own_sl, own_nil] <;> omega) | fail)) : p := h
theorem qs {p : Prop} (h : p := by (simp (disch := first | (refine Asm.mk ?_; assumption) | omega | (simp only [nx_alloc, nx_set, own_sl, own_nil] <;> omega) | fail) only [ga_new, ga_old, gs_new, gs_old, nx_alloc, nx_set, g_get, app_get, pok_get, get_asm, id_eq, ]; first | done | fail)) : p := h
theorem qo {p : Prop} (h : p := by omega) : p := h
theorem qf {p : Prop} (h : p := by (simp only [keeps_nil, keeps_cons, fits_nil, fits_cons, List.cons_append, List.nil_append, lk_cons, lk_nil, numF, Nat.reduceEqDiff, Nat.reduceAdd, Nat.zero_add, ↓reduceIte, and_true, true_and, and_self, n_add1, Int.natCast_zero, Int.cast_ofNat_Int]; (try (first | done | (repeat' apply And.intro) <;> first | rfl | (congr 1; omega) | skip)); (first | done | fail))) : p := h
theorem WC : type_of% (And.intro @List.map_cons.{0,0} (And.intro @List.map_nil.{0,0} (And.intro @List.cons_append.{0} (And.intro @List.nil_append.{0} (And.intro @List.append_nil.{0} (And.intro @List.take_succ_cons.{0} (And.intro @List.take_zero.{0} (And.intro @List.take_nil.{0} (And.intro @List.drop_succ_cons.{0} (And.intro @List.drop_zero.{0} (And.intro @List.drop_nil.{0} (And.intro @Nat.zero_add (And.intro @Nat.add_zero (And.intro @Bool.false_eq_true (And.intro @and_self (And.intro @List.length_cons.{0} (And.intro @List.length_nil.{0} (And.intro @List.getD_cons_zero.{0} (And.intro @List.getD_cons_succ.{0} (And.intro @List.getElem?_cons_zero.{0} (And.intro @List.getElem?_cons_succ.{0} (And.intro @Bool.not_true (And.intro @Bool.not_false (And.intro @Option.map_some.{0,0} (And.intro @Option.map_none.{0,0} (And.intro @not_false_eq_true (And.intro @not_true_eq_false (And.intro @decide_true (And.intro @decide_false (And.intro @List.all_cons.{0} (And.intro @List.all_nil.{0} (And.intro @Bool.and_true (And.intro @Bool.true_and (And.intro @i_t (And.intro @i_f (And.intro @Int.toNat_natCast (And.intro @id_eq.{1} (And.intro @Int.sub_zero (And.intro @Int.zero_add (And.intro @Option.isSome_none.{0} (And.intro @Option.isSome_some.{0} (And.intro @Bool.or_false (And.intro @Bool.or_true (And.intro @Nat.sub_zero (And.intro @Nat.mul_one (And.intro @Nat.one_mul (And.intro @Nat.zero_mul (And.intro @List.append_assoc.{0} (And.intro @Option.bind_some.{0,0} (And.intro @List.replicate_zero.{0} (And.intro @List.flatten_nil.{0} (And.intro @true_and (And.intro @and_true (And.intro @Bool.true_beq (And.intro @Bool.false_beq (And.intro @Bool.bne_true (And.intro @Bool.bne_false (And.intro @beq_self_eq_true.{0} (And.intro @bne_self_eq_false.{0} (And.intro @Int.tdiv_eq_ediv_of_nonneg (And.intro @Int.tmod_eq_emod_of_nonneg (And.intro @Heap.next_alloc (@Heap.next_set))))))))))))))))))))))))))))))))))))))))))))))))))))))))))))))) := And.intro @List.map_cons.{0,0} (And.intro @List.map_nil.{0,0} (And.intro @List.cons_append.{0} (And.intro @List.nil_append.{0} (And.intro @List.append_nil.{0} (And.intro @List.take_succ_cons.{0} (And.intro @List.take_zero.{0} (And.intro @List.take_nil.{0} (And.intro @List.drop_succ_cons.{0} (And.intro @List.drop_zero.{0} (And.intro @List.drop_nil.{0} (And.intro @Nat.zero_add (And.intro @Nat.add_zero (And.intro @Bool.false_eq_true (And.intro @and_self (And.intro @List.length_cons.{0} (And.intro @List.length_nil.{0} (And.intro @List.getD_cons_zero.{0} (And.intro @List.getD_cons_succ.{0} (And.intro @List.getElem?_cons_zero.{0} (And.intro @List.getElem?_cons_succ.{0} (And.intro @Bool.not_true (And.intro @Bool.not_false (And.intro @Option.map_some.{0,0} (And.intro @Option.map_none.{0,0} (And.intro @not_false_eq_true (And.intro @not_true_eq_false (And.intro @decide_true (And.intro @decide_false (And.intro @List.all_cons.{0} (And.intro @List.all_nil.{0} (And.intro @Bool.and_true (And.intro @Bool.true_and (And.intro @i_t (And.intro @i_f (And.intro @Int.toNat_natCast (And.intro @id_eq.{1} (And.intro @Int.sub_zero (And.intro @Int.zero_add (And.intro @Option.isSome_none.{0} (And.intro @Option.isSome_some.{0} (And.intro @Bool.or_false (And.intro @Bool.or_true (And.intro @Nat.sub_zero (And.intro @Nat.mul_one (And.intro @Nat.one_mul (And.intro @Nat.zero_mul (And.intro @List.append_assoc.{0} (And.intro @Option.bind_some.{0,0} (And.intro @List.replicate_zero.{0} (And.intro @List.flatten_nil.{0} (And.intro @true_and (And.intro @and_true (And.intro @Bool.true_beq (And.intro @Bool.false_beq (And.intro @Bool.bne_true (And.intro @Bool.bne_false (And.intro @beq_self_eq_true.{0} (And.intro @bne_self_eq_false.{0} (And.intro @Int.tdiv_eq_ediv_of_nonneg (And.intro @Int.tmod_eq_emod_of_nonneg (And.intro @Heap.next_alloc (@Heap.next_set))))))))))))))))))))))))))))))))))))))))))))))))))))))))))))))
theorem BD : type_of% (And.intro @decide_eq_true_eq (And.intro @decide_eq_false_iff_not (And.intro @Bool.and_eq_true (And.intro @Bool.or_eq_true (And.intro @Bool.and_eq_false_iff (And.intro @Bool.or_eq_false_iff (And.intro @Bool.not_eq_true' (And.intro @Bool.not_eq_false' (And.intro @Int.not_lt (And.intro @Int.not_le (And.intro @Nat.not_lt (And.intro @Nat.not_le (And.intro @Bool.not_eq_true (And.intro @Bool.not_eq_false (And.intro @beq_iff_eq.{0} (And.intro @bne_iff_ne.{0} (And.intro @beq_eq_false_iff_ne.{0} (And.intro @bne_eq_false_iff_eq.{0} (@ne_eq.{0}))))))))))))))))))) := And.intro @decide_eq_true_eq (And.intro @decide_eq_false_iff_not (And.intro @Bool.and_eq_true (And.intro @Bool.or_eq_true (And.intro @Bool.and_eq_false_iff (And.intro @Bool.or_eq_false_iff (And.intro @Bool.not_eq_true' (And.intro @Bool.not_eq_false' (And.intro @Int.not_lt (And.intro @Int.not_le (And.intro @Nat.not_lt (And.intro @Nat.not_le (And.intro @Bool.not_eq_true (And.intro @Bool.not_eq_false (And.intro @beq_iff_eq.{0} (And.intro @bne_iff_ne.{0} (And.intro @beq_eq_false_iff_ne.{0} (And.intro @bne_eq_false_iff_eq.{0} (@ne_eq.{0}))))))))))))))))))
end Go.Ya
namespace Go.Ya
set_option linter.unusedVariables false
set_option linter.unusedSimpArgs false
def Sz (s : Nat) : Prop := s = 1 ∨ s = 2 ∨ s = 4 ∨ s = 8
theorem Sz.le {s : Nat} (h : Sz s) : 1 ≤ s ∧ s ≤ 8 := by unfold Sz at h; omega
def len8 (l : List Int) (i : Int) : Int := l.getD i.toNat 0
theorem len8_le (i : Int) (l : List Int) (hl : ∀ x ∈ l, 0 ≤ x ∧ x ≤ 8) : 0 ≤ len8 l i ∧ len8 l i ≤ 8 := by
  unfold len8
  rw [List.getD_eq_getElem?_getD]
  rcases Nat.lt_or_ge i.toNat l.length with h | h
  · rw [List.getElem?_eq_getElem h]; exact hl _ (List.getElem_mem h)
  · rw [List.getElem?_eq_none h]; exact ⟨Int.le_refl 0, by decide⟩
theorem sz_pow {s : Nat} (h : Sz s) : (s = 1 ∧ (256 : Int) ^ s = 256) ∨ (s = 2 ∧ (256 : Int) ^ s = 65536) ∨ (s = 4 ∧ (256 : Int) ^ s = 4294967296) ∨ (s = 8 ∧ (256 : Int) ^ s = 18446744073709551616) := by
  rcases h with rfl | rfl | rfl | rfl <;> simp
theorem beL_succ (n : Int) (k : Nat) : beL n (k + 1) = (n / 256 ^ k % 256) :: beL n k := rfl
theorem put_step {pre : List AV} {j : Nat} {n : Int} {s : Nat} {m : Int} (hj : pre.length = j) (h0 : 0 < j) (hs : j ≤ s) (hm : m = n / 256 ^ (s - j)) (h0n : 0 ≤ n) :
    (pre ++ ints (beL n (s - j))).take (j - 1) ++ [AV.int .u8 (IntKind.u8.wrap m)] ++ (pre ++ ints (beL n (s - j))).drop (j - 1 + 1) = pre.take (j - 1) ++ ints (beL n (s - (j - 1))) := by
  have e1 : s - (j - 1) = (s - j) + 1 := by omega
  have hm0 : 0 ≤ m := by rw [hm]; exact Int.ediv_nonneg h0n (Int.le_of_lt (Int.pow_pos (by decide)))
  rw [e1, beL_succ, ← hm, wrap8 hm0, show j - 1 + 1 = pre.length by omega, List.drop_left, List.take_append_of_le_length (by omega)]
  simp [ints]
theorem put_next {n m : Int} {s j : Nat} (h0 : 0 < j) (hs : j ≤ s) (hm : m = n / 256 ^ (s - j)) : m / 256 = n / 256 ^ (s - (j - 1)) := by
  rw [hm, show s - (j - 1) = (s - j) + 1 by omega, Int.pow_succ, Int.ediv_ediv_of_nonneg (Int.le_of_lt (Int.pow_pos (by decide)))]
theorem fdiv256 {n : Int} : n.fdiv (2 ^ Nat.min 8 IntKind.u64.bits) = n / 256 := by
  have : (2 : Int) ^ Nat.min 8 IntKind.u64.bits = 256 := by decide
  rw [this, Int.fdiv_eq_ediv_of_nonneg _ (by decide)]
theorem shl_sz {s : Nat} (hs : Sz s) (h : s < 8) : IntKind.u64.wrap (1 * 2 ^ Nat.min (8 * (s : Int)).toNat IntKind.u64.bits) = 256 ^ s := by
  rcases hs with rfl | rfl | rfl | rfl
  · decide
  · decide
  · decide
  · omega
theorem shr_sz {n : Int} {j : Nat} (h : j < 8) : n.fdiv (2 ^ Nat.min (8 * (j : Int)).toNat IntKind.u64.bits) = n / 256 ^ j := by
  have : (2 : Int) ^ Nat.min (8 * (j : Int)).toNat IntKind.u64.bits = 256 ^ j := by
    have : j = 0 ∨ j = 1 ∨ j = 2 ∨ j = 3 ∨ j = 4 ∨ j = 5 ∨ j = 6 ∨ j = 7 := by omega
    rcases this with rfl | rfl | rfl | rfl | rfl | rfl | rfl | rfl <;> decide
  rw [this, Int.fdiv_eq_ediv_of_nonneg _ (Int.le_of_lt (Int.pow_pos (by decide)))]
theorem beL_at {n : Int} : ∀ {s k : Nat}, k < s → (beL n s)[k]? = some (n / 256 ^ (s - 1 - k) % 256)
  | 0, k, h => by omega
  | s + 1, 0, h => by simp [beL_succ]
  | s + 1, k + 1, h => by
    rw [beL_succ, List.getElem?_cons_succ, beL_at (by omega), show s + 1 - 1 - (k + 1) = s - 1 - k by omega]
theorem rput_step {n : Int} {s j : Nat} (h0 : 0 ≤ n) (hj0 : 0 < j) (hj : j ≤ s) : (beL n s).take (s - (j - 1)) = (beL n s).take (s - j) ++ [IntKind.u8.wrap (n / 256 ^ (j - 1))] := by
  have hm0 : 0 ≤ n / 256 ^ (j - 1) := Int.ediv_nonneg h0 (Int.le_of_lt (Int.pow_pos (by decide)))
  rw [show s - (j - 1) = (s - j) + 1 by omega, List.take_add_one, beL_at (by omega), show s - 1 - (s - j) = j - 1 by omega, wrap8 hm0]
  rfl
theorem get_or {s j : Nat} {acc c : Int} (hj : 1 ≤ j) (hjs : j ≤ s) (hs : s ≤ 8) (h0 : 0 ≤ acc) (h1 : acc < 256 ^ (s - j)) (hc : 0 ≤ c ∧ c ≤ 255) :
    IntKind.u64.wrap ((BitVec.ofInt IntKind.u64.bits acc ||| BitVec.ofInt IntKind.u64.bits (IntKind.u64.wrap (c * 2 ^ Nat.min (8 * (((s - 1 : Nat) : Int) - ((j - 1 : Nat) : Int))).toNat IntKind.u64.bits))).toNat : Int) = c * 256 ^ (s - j) + acc := by
  have e : Nat.min (8 * (((s - 1 : Nat) : Int) - ((j - 1 : Nat) : Int))).toNat IntKind.u64.bits = 8 * (s - j) := by
    show Nat.min _ 64 = _
    rw [show (8 * (((s - 1 : Nat) : Int) - ((j - 1 : Nat) : Int))).toNat = 8 * (s - j) by omega]
    exact Nat.min_eq_left (by omega)
  rw [e]
  exact or_step (by omega) ⟨h0, h1⟩ hc
theorem Bytes.at {bs : List Int} (hb : Bytes bs) (i : Nat) : 0 ≤ bs.getD i 0 ∧ bs.getD i 0 ≤ 255 := by
  rw [List.getD_eq_getElem?_getD]
  rcases Nat.lt_or_ge i bs.length with h | h
  · rw [List.getElem?_eq_getElem h]; exact hb _ (List.getElem_mem h)
  · rw [List.getElem?_eq_none h]; exact ⟨Int.le_refl 0, by decide⟩
theorem Bytes.sub {bs l : List Int} (hb : Bytes bs) (hs : ∀ x ∈ l, x ∈ bs) : Bytes l := fun x hx => hb x (hs x hx)
theorem Bytes.drop {bs : List Int} (hb : Bytes bs) (i : Nat) : Bytes (bs.drop i) := hb.sub fun _ h => List.mem_of_mem_drop h
theorem Bytes.take {bs : List Int} (hb : Bytes bs) (i : Nat) : Bytes (bs.take i) := hb.sub fun _ h => List.mem_of_mem_take h
theorem val_step {bs : List Int} {j : Nat} (h0 : 1 ≤ j) (hj : j ≤ bs.length) : valBE (bs.drop (j - 1)) = bs.getD (j - 1) 0 * 256 ^ (bs.length - j) + valBE (bs.drop j) := by
  rw [List.drop_eq_getElem_cons (show j - 1 < bs.length by omega), valBE_cons, show j - 1 + 1 = j by omega, List.length_drop, List.getD_eq_getElem?_getD, List.getElem?_eq_getElem (show j - 1 < bs.length by omega)]
  rfl
end Go.Ya
namespace Go.Ya
set_option linter.unusedVariables false
set_option linter.unusedSimpArgs false
section
variable {P : Program} {N k : Nat} {t e : TypeId} {h h' : Heap} {a : AV} {cs : List AV}
theorem wf_u8 {i : Int} (h : wfInt .u8 i = true) : 0 ≤ i ∧ i ≤ 255 := by
  simpa [wfInt, IntKind.signed, IntKind.bits, IntKind.min, IntKind.max] using h
theorem wf_bytes {l : List Int} (h : ∀ i ∈ l, wfInt .u8 i = true) : Bytes l := fun i hi => wf_u8 (h i hi)
theorem cells_bytes (hu : P.underlying t = some (.slice e)) (he : P.underlying e = some (.int .u8)) (hc : P.cellsOf e = 1) (hx : cellsX P N (k + 2) t h cs h') : ∃ v bs, cs = [v] ∧ BytesAt h' v bs ∧ Bytes bs ∧ bs.length ≤ N ∧ Grow h h' := by
  rcases cellsX_slice hu hx with ⟨rfl, rfl⟩ | ⟨len, ys, h1, e1, e2, e3, rfl, rfl⟩
  · exact ⟨.nilsl, [], rfl, .inl ⟨rfl, rfl⟩, (fun c hc => nomatch hc), Nat.zero_le _, .refl _⟩
  · obtain ⟨rfl, bs, hbl, hwf, e8⟩ := listX_ints he e1
    subst hbl
    refine ⟨_, bs, rfl, .inr ⟨_, 0, bs.length, false, ys.flatten, true, by rw [hc], Nat.le_refl _, ga_new rfl, by rw [e8]; simp, by rw [e8]; simp [ints, List.take_of_length_le]⟩, wf_bytes hwf, e2, Grow.alloc _ _⟩
end
end Go.Ya
