/-
  The abstract machine: YaBE, YaQ, YaNumF, YaArg2.
-/
import Derived.IntWalk
import Derived.Test.YtekbgdmemenheaaYbH
import Derived.Test.YtekbgdmemenheaaYbJ
import Derived.Test.YtekbgdmemenheaaYbG
namespace Go.Ya
set_option linter.unusedVariables false
set_option linter.unusedSimpArgs false
def beB (n : Int) (i : Nat) : Int := n / 256 ^ i % 256
def beL (n : Int) : Nat → List Int
  | 0 => []
  | i + 1 => beB n i :: beL n i
theorem beL_len (n : Int) : ∀ k, (beL n k).length = k
  | 0 => rfl
  | k + 1 => by simp [beL, beL_len n k]
def Bytes (l : List Int) : Prop := ∀ c ∈ l, 0 ≤ c ∧ c ≤ 255
end Go.Ya
namespace Go.Ya
set_option linter.unusedVariables false
theorem qd {p : Prop} (h : p := by (first | (refine Asm.mk ?_; assumption) | (show Grow _ _; (repeat' (first | exact Grow.refl _ | assumption | exact Or.inl rfl | exact Grow.alloc _ _ | refine Grow.allocR ?_ _ | refine Grow.noteR ?_ _ _ | refine Grow.setR ?_ _ ?_ ?_ | omega | (simp only [nx_alloc, nx_set, own_sl, own_nil] <;> omega) | (refine App.grow (by assumption) ?_ ?_) | (refine Pok.grow (by assumption) ?_ ?_) | (apply Grow.trans; rotate_left; assumption) | fail)); done) | omega | (simp only [nx_alloc, nx_set, own_sl, own_nil, List.length_append, List.length_cons, List.length_nil, List.length_take, List.length_drop, List.length_replicate, List.length_map, ints_len] <;> omega) | fail)) : p := h
theorem qg {p : Prop} (h : p := by ((repeat' (first | exact Grow.refl _ | assumption | exact Or.inl rfl | exact Grow.alloc _ _ | refine Grow.allocR ?_ _ | refine Grow.noteR ?_ _ _ | refine Grow.setR ?_ _ ?_ ?_ | omega | (simp only [nx_alloc, nx_set, own_sl, own_nil] <;> omega) | (refine App.grow (by assumption) ?_ ?_) | (refine Pok.grow (by assumption) ?_ ?_) | (apply Grow.trans; rotate_left; assumption) | fail)); first | done | fail)) : p := h
theorem ql {p : Prop} (h : p := by (first | omega | (simp only [List.length_append, List.length_cons, List.length_nil, List.length_take, List.length_drop, List.flatMap_cons, List.flatMap_nil, beL_len, ints_len, List.append_nil, List.length_replicate, List.length_map, Int.reducePow, nx_alloc, nx_set, own_sl, own_nil] <;> omega) | fail)) : p := h
theorem qs {p : Prop} (h : p := by (simp (disch := first | (refine Asm.mk ?_; assumption) | omega | (simp only [nx_alloc, nx_set, own_sl, own_nil] <;> omega) | fail) only [ga_new, ga_old, gs_new, gs_old, nx_alloc, nx_set, g_get, app_get, pok_get, get_asm, id_eq, ]; first | done | fail)) : p := h
theorem qo {p : Prop} (h : p := by omega) : p := h
theorem qf {p : Prop} (h : p := by (simp only [keeps_nil, keeps_cons, fits_nil, fits_cons, List.cons_append, List.nil_append, lk_cons, lk_nil, numF, Nat.reduceEqDiff, Nat.reduceAdd, Nat.zero_add, ↓reduceIte, and_true, true_and, and_self, n_add1, Int.natCast_zero, Int.cast_ofNat_Int]; (try (first | done | (repeat' apply And.intro) <;> first | rfl | (congr 1; omega) | skip)); (first | done | fail))) : p := h
theorem WC : type_of% (And.intro @List.map_cons.{0,0} (And.intro @List.map_nil.{0,0} (And.intro @List.cons_append.{0} (And.intro @List.nil_append.{0} (And.intro @List.append_nil.{0} (And.intro @List.take_succ_cons.{0} (And.intro @List.take_zero.{0} (And.intro @List.take_nil.{0} (And.intro @List.drop_succ_cons.{0} (And.intro @List.drop_zero.{0} (And.intro @List.drop_nil.{0} (And.intro @Nat.zero_add (And.intro @Nat.add_zero (And.intro @Bool.false_eq_true (And.intro @and_self (And.intro @List.length_cons.{0} (And.intro @List.length_nil.{0} (And.intro @List.getD_cons_zero.{0} (And.intro @List.getD_cons_succ.{0} (And.intro @List.getElem?_cons_zero.{0} (And.intro @List.getElem?_cons_succ.{0} (And.intro @Bool.not_true (And.intro @Bool.not_false (And.intro @Option.map_some.{0,0} (And.intro @Option.map_none.{0,0} (And.intro @not_false_eq_true (And.intro @not_true_eq_false (And.intro @decide_true (And.intro @decide_false (And.intro @List.all_cons.{0} (And.intro @List.all_nil.{0} (And.intro @Bool.and_true (And.intro @Bool.true_and (And.intro @i_t (And.intro @i_f (And.intro @Int.toNat_natCast (And.intro @id_eq.{1} (And.intro @Int.sub_zero (And.intro @Int.zero_add (And.intro @Option.isSome_none.{0} (And.intro @Option.isSome_some.{0} (And.intro @Bool.or_false (And.intro @Bool.or_true (And.intro @Nat.sub_zero (And.intro @Nat.mul_one (And.intro @Nat.one_mul (And.intro @Nat.zero_mul (And.intro @List.append_assoc.{0} (And.intro @Option.bind_some.{0,0} (And.intro @List.replicate_zero.{0} (And.intro @List.flatten_nil.{0} (And.intro @true_and (And.intro @and_true (And.intro @Bool.true_beq (And.intro @Bool.false_beq (And.intro @Bool.bne_true (And.intro @Bool.bne_false (And.intro @beq_self_eq_true.{0} (And.intro @bne_self_eq_false.{0} (And.intro @Int.tdiv_eq_ediv_of_nonneg (And.intro @Int.tmod_eq_emod_of_nonneg (And.intro @Heap.next_alloc (@Heap.next_set))))))))))))))))))))))))))))))))))))))))))))))))))))))))))))))) := And.intro @List.map_cons.{0,0} (And.intro @List.map_nil.{0,0} (And.intro @List.cons_append.{0} (And.intro @List.nil_append.{0} (And.intro @List.append_nil.{0} (And.intro @List.take_succ_cons.{0} (And.intro @List.take_zero.{0} (And.intro @List.take_nil.{0} (And.intro @List.drop_succ_cons.{0} (And.intro @List.drop_zero.{0} (And.intro @List.drop_nil.{0} (And.intro @Nat.zero_add (And.intro @Nat.add_zero (And.intro @Bool.false_eq_true (And.intro @and_self (And.intro @List.length_cons.{0} (And.intro @List.length_nil.{0} (And.intro @List.getD_cons_zero.{0} (And.intro @List.getD_cons_succ.{0} (And.intro @List.getElem?_cons_zero.{0} (And.intro @List.getElem?_cons_succ.{0} (And.intro @Bool.not_true (And.intro @Bool.not_false (And.intro @Option.map_some.{0,0} (And.intro @Option.map_none.{0,0} (And.intro @not_false_eq_true (And.intro @not_true_eq_false (And.intro @decide_true (And.intro @decide_false (And.intro @List.all_cons.{0} (And.intro @List.all_nil.{0} (And.intro @Bool.and_true (And.intro @Bool.true_and (And.intro @i_t (And.intro @i_f (And.intro @Int.toNat_natCast (And.intro @id_eq.{1} (And.intro @Int.sub_zero (And.intro @Int.zero_add (And.intro @Option.isSome_none.{0} (And.intro @Option.isSome_some.{0} (And.intro @Bool.or_false (And.intro @Bool.or_true (And.intro @Nat.sub_zero (And.intro @Nat.mul_one (And.intro @Nat.one_mul (And.intro @Nat.zero_mul (And.intro @List.append_assoc.{0} (And.intro @Option.bind_some.{0,0} (And.intro @List.replicate_zero.{0} (And.intro @List.flatten_nil.{0} (And.intro @true_and (And.intro @and_true (And.intro @Bool.true_beq (And.intro @Bool.false_beq (And.intro @Bool.bne_true (And.intro @Bool.bne_false (And.intro @beq_self_eq_true.{0} (And.intro @bne_self_eq_false.{0} (And.intro @Int.tdiv_eq_ediv_of_nonneg (And.intro @Int.tmod_eq_emod_of_nonneg (And.intro @Heap.next_alloc (@Heap.next_set))))))))))))))))))))))))))))))))))))))))))))))))))))))))))))))
theorem BD : type_of% (And.intro @decide_eq_true_eq (And.intro @decide_eq_false_iff_not (And.intro @Bool.and_eq_true (And.intro @Bool.or_eq_true (And.intro @Bool.and_eq_false_iff (And.intro @Bool.or_eq_false_iff (And.intro @Bool.not_eq_true' (And.intro @Bool.not_eq_false' (And.intro @Int.not_lt (And.intro @Int.not_le (And.intro @Nat.not_lt (And.intro @Nat.not_le (And.intro @Bool.not_eq_true (And.intro @Bool.not_eq_false (And.intro @beq_iff_eq.{0} (And.intro @bne_iff_ne.{0} (And.intro @beq_eq_false_iff_ne.{0} (And.intro @bne_eq_false_iff_eq.{0} (@ne_eq.{0}))))))))))))))))))) := And.intro @decide_eq_true_eq (And.intro @decide_eq_false_iff_not (And.intro @Bool.and_eq_true (And.intro @Bool.or_eq_true (And.intro @Bool.and_eq_false_iff (And.intro @Bool.or_eq_false_iff (And.intro @Bool.not_eq_true' (And.intro @Bool.not_eq_false' (And.intro @Int.not_lt (And.intro @Int.not_le (And.intro @Nat.not_lt (And.intro @Nat.not_le (And.intro @Bool.not_eq_true (And.intro @Bool.not_eq_false (And.intro @beq_iff_eq.{0} (And.intro @bne_iff_ne.{0} (And.intro @beq_eq_false_iff_ne.{0} (And.intro @bne_eq_false_iff_eq.{0} (@ne_eq.{0}))))))))))))))))))
end Go.Ya
namespace Go.Ya
set_option linter.unusedVariables false
set_option linter.unusedSimpArgs false
def Sz (s : Nat) : Prop := s = 1 ∨ s = 2 ∨ s = 4 ∨ s = 8
theorem Sz.le {s : Nat} (h : Sz s) : 1 ≤ s ∧ s ≤ 8 := by unfold Sz at h; omega
theorem Bytes.at {bs : List Int} (hb : Bytes bs) (i : Nat) : 0 ≤ bs.getD i 0 ∧ bs.getD i 0 ≤ 255 := by
  rw [List.getD_eq_getElem?_getD]
  rcases Nat.lt_or_ge i bs.length with h | h
  · rw [List.getElem?_eq_getElem h]; exact hb _ (List.getElem_mem h)
  · rw [List.getElem?_eq_none h]; exact ⟨Int.le_refl 0, by decide⟩
theorem Bytes.sub {bs l : List Int} (hb : Bytes bs) (hs : ∀ x ∈ l, x ∈ bs) : Bytes l := fun x hx => hb x (hs x hx)
theorem Bytes.drop {bs : List Int} (hb : Bytes bs) (i : Nat) : Bytes (bs.drop i) := hb.sub fun _ h => List.mem_of_mem_drop h
theorem Bytes.take {bs : List Int} (hb : Bytes bs) (i : Nat) : Bytes (bs.take i) := hb.sub fun _ h => List.mem_of_mem_take h
end Go.Ya
namespace Go.Ya
set_option linter.unusedVariables false
set_option linter.unusedSimpArgs false
section
variable {P : Program} {N k : Nat} {t e : TypeId} {h h' : Heap} {a : AV} {cs : List AV}
theorem wf_u8 {i : Int} (h : wfInt .u8 i = true) : 0 ≤ i ∧ i ≤ 255 := by
  simpa [wfInt, IntKind.signed, IntKind.bits, IntKind.min, IntKind.max] using h
end
end Go.Ya
