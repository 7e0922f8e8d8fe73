/-
  The reader, walked.
-/
import Derived.Test.YtpoccinfeekdhaaDoorYaXR
import Derived.Test.YtpoccinfeekdhaaDoorYbL
namespace Go.Proofs.YtpoccinfeekdhaaDoor.Ya
open Go.Ya
set_option linter.unusedVariables false
set_option linter.unusedSimpArgs false
set_option maxRecDepth 100000
set_option maxHeartbeats 8000000
def rdT (s : List Int × Int) : Bool × (List Int × Int) := (decide ((rdN 4 s).1 = 1), if (rdN 4 s).1 > 1 then ((rdN 4 s).2.1, 5) else (rdN 4 s).2)
def rdB (most : Nat) (s : List Int × Int) : List Int × (List Int × Int) :=
  if ¬ (rdN 4 s).2.2 = 0 then ([], (rdN 4 s).2) else if most < (rdN 4 s).1.toNat then ([], ((rdN 4 s).2.1, 3))
  else if (rdN 4 s).2.1.length < (rdN 4 s).1.toNat + padN (rdN 4 s).1.toNat then ([], ((rdN 4 s).2.1, 4))
  else if (((rdN 4 s).2.1.drop (rdN 4 s).1.toNat).take (padN (rdN 4 s).1.toNat)).any posB = true then ([], ((rdN 4 s).2.1, 5))
  else ((rdN 4 s).2.1.take (rdN 4 s).1.toNat, ((rdN 4 s).2.1.drop ((rdN 4 s).1.toNat + padN (rdN 4 s).1.toNat), 0))
def endE (s : List Int × Int) : Int := if s.2 = 0 ∧ 0 < s.1.length then 5 else s.2
theorem t63 : tab 63 = some ⟨12, [.tmp 2], b63⟩ := rfl
theorem r_none {lo : Nat} {h : Heap} {p : Nat} {s : List Int × Int} (f : Rdr lo h p s) : Runs (xcall X1 tab (.fn 63) [.ptr p 0] h) fun v h' => v = .bool false ∧ h = h' := by
  refine Runs.intro fun K hK => ?_
  obtain ⟨b, hg, hb, hne, hy, hl⟩ := f
  have hfl := BytesAt.flat' hb
  have hcl := cells_of hfl
  have hp := Heap.lt_of_get hg
  rw [w_fn rfl t63 (Nat.le_of_ble_eq_true rfl)]
  delta b63
  repeat' (first
    | simp (disch := first | exact qd | fail) only [WB, ↓WP, ↓WL, WR, WC, if_true, if_false, ite_true, ite_false, aop, ev, evs, readsA, List.replicate, numF, unA, resA, tupA, loadA, storeA, splice, fillA, kindsOk, plainEq, ↓reduceIte, Nat.reduceEqDiff, Nat.reduceLT, Int.reduceToNat, Int.reduceBEq, Int.reduceBNe, Nat.reduceAdd, Nat.reduceMul, Nat.reduceLeDiff, Int.reduceLT, Int.reduceSub, Int.reduceAdd, hg, hfl, hcl, ptr_nn, ptr_en]
    | ((first | refine atC ?_ ?_ | refine atG ?_ ?_ | refine atH ?_ ?_ | refine atP ?_ ?_) <;> intro hc <;> (try rw [hc]) <;> (try simp only [BD] at hc) <;> try (exfalso; omega)))
  all_goals try (first
    | (refine hK _ _ ?_; exact ⟨rfl, rfl⟩; done)
    | fail)
theorem t60 : tab 60 = some ⟨13, [.tmp 2], b60⟩ := rfl
theorem r_fine {lo : Nat} {h : Heap} {p : Nat} {s : List Int × Int} (f : Rdr lo h p s) : Runs (xcall X1 tab (.fn 60) [.ptr p 0] h) fun v h' => v = .bool (decide (s.2 = 0)) ∧ h = h' := by
  refine Runs.intro fun K hK => ?_
  have f0 := f
  obtain ⟨b, hg, hb, hne, hy, hl⟩ := f
  have hfl := BytesAt.flat' hb
  have hcl := cells_of hfl
  have hp := Heap.lt_of_get hg
  rw [w_fn rfl t60 (Nat.le_of_ble_eq_true rfl)]
  delta b60
  repeat' (first
    | simp (disch := first | exact qd | fail) only [WB, ↓WP, ↓WL, WR, WC, if_true, if_false, ite_true, ite_false, aop, ev, evs, readsA, List.replicate, numF, unA, resA, tupA, loadA, storeA, splice, fillA, kindsOk, plainEq, ↓reduceIte, Nat.reduceEqDiff, Nat.reduceLT, Int.reduceToNat, Int.reduceBEq, Int.reduceBNe, Nat.reduceAdd, Nat.reduceMul, Nat.reduceLeDiff, Int.reduceLT, Int.reduceSub, Int.reduceAdd, hg, hfl, hcl, ptr_nn, ptr_en]
    | ((first | refine atC ?_ ?_ | refine atG ?_ ?_ | refine atH ?_ ?_ | refine atP ?_ ?_) <;> intro hc <;> (try rw [hc]) <;> (try simp only [BD] at hc) <;> try (exfalso; omega))
    | ((first
      | (refine Runs.call (r_none f0) ?_; rintro _ _ ⟨rfl, rfl⟩)
      | fail); all_goals ((try (have gn := gr.1; try simp only [nx_alloc, nx_set] at gn)); (try (have an := ha.num; try simp only [nx_alloc, nx_set, own_sl, own_nil] at an)); (try (have on := hO.num; try simp only [nx_alloc, nx_set] at on)); (try (have kn := hk.1; try simp only [nx_alloc, nx_set] at kn)); try have hB := hO.at)))
  all_goals try (first
    | (refine hK _ _ ?_; exact ⟨rfl, rfl⟩; done)
    | fail)
theorem t59 : tab 59 = some ⟨15, [], b59⟩ := rfl
theorem r_fail {lo : Nat} {h : Heap} {p : Nat} {s : List Int × Int} (f : Rdr lo h p s) (t : Bool) (e : Int) : Runs (xcall X1 tab (.fn 59) [.ptr p 0, .bool t, .int .i64 e] h) fun v h' => Pok p h h' ∧ ((s.2 = 0 ∧ t = true ∧ Rdr lo h' p (s.1, e)) ∨ ((¬ s.2 = 0 ∨ t = false) ∧ Rdr lo h' p s)) := by
  refine Runs.intro fun K hK => ?_
  have f0 := f
  obtain ⟨b, hg, hb, hne, hy, hl⟩ := f
  have hfl := BytesAt.flat' hb
  have hcl := cells_of hfl
  have hp := Heap.lt_of_get hg
  have k0 := Pok.refl p h
  have k1 : ∀ ob, Pok p h (h.set p ob) := fun ob => Pok.set hp
  have hb1 : ∀ ob, BytesAt (h.set p ob) b s.1 := fun ob => BytesAt.pok hb (k1 ob) hne.1
  rw [w_fn rfl t59 (Nat.le_of_ble_eq_true rfl)]
  delta b59
  repeat' (first
    | simp (disch := first | exact qd | fail) only [WB, ↓WP, ↓WL, WR, WC, if_true, if_false, ite_true, ite_false, aop, ev, evs, readsA, List.replicate, numF, unA, resA, tupA, loadA, storeA, splice, fillA, kindsOk, plainEq, ↓reduceIte, Nat.reduceEqDiff, Nat.reduceLT, Int.reduceToNat, Int.reduceBEq, Int.reduceBNe, Nat.reduceAdd, Nat.reduceMul, Nat.reduceLeDiff, Int.reduceLT, Int.reduceSub, Int.reduceAdd, hg, hfl, hcl, ptr_nn, ptr_en]
    | ((first | refine atC ?_ ?_ | refine atG ?_ ?_ | refine atH ?_ ?_ | refine atP ?_ ?_) <;> intro hc <;> (try rw [hc]) <;> (try simp only [BD] at hc) <;> try (exfalso; omega))
    | ((first
      | (refine Runs.call (r_fine f0) ?_; rintro _ _ ⟨rfl, rfl⟩)
      | fail); all_goals ((try (have gn := gr.1; try simp only [nx_alloc, nx_set] at gn)); (try (have an := ha.num; try simp only [nx_alloc, nx_set, own_sl, own_nil] at an)); (try (have on := hO.num; try simp only [nx_alloc, nx_set] at on)); (try (have kn := hk.1; try simp only [nx_alloc, nx_set] at kn)); try have hB := hO.at)))
  all_goals try (first
    | (refine hK _ _ ?_; (first | exact ⟨k1 _, .inl ⟨by assumption, by assumption, b, qs, hb1 _, hne, hy, hl⟩⟩ | exact ⟨k0, .inr ⟨.inl (by assumption), f0⟩⟩ | exact ⟨k0, .inr ⟨.inr (by simp_all), f0⟩⟩ | fail); done)
    | fail)
theorem t58 : tab 58 = some ⟨35, [.tmp 4], b58⟩ := rfl
theorem r_number {lo : Nat} {h : Heap} {p : Nat} {s : List Int × Int} (f : Rdr lo h p s) {k : Nat} (hk : Sz k) : Runs (xcall X1 tab (.fn 58) [.ptr p 0, .int .i64 (k : Nat)] h) fun v h' => v = .int .u64 (rdN k s).1 ∧ Pok p h h' ∧ Rdr lo h' p (rdN k s).2 := by
  refine Runs.intro fun K hK => ?_
  have f0 := f
  obtain ⟨b, hg, hb, hne, hy, hl⟩ := f
  have hfl := BytesAt.flat' hb
  have hcl := cells_of hfl
  have hp := Heap.lt_of_get hg
  have k0 := Pok.refl p h
  have hkl := hk.le
  rw [w_fn rfl t58 (Nat.le_of_ble_eq_true rfl)]
  delta b58
  repeat' (first
    | simp (disch := first | exact qd | fail) only [WB, ↓WP, ↓WL, WR, WC, if_true, if_false, ite_true, ite_false, aop, ev, evs, readsA, List.replicate, numF, unA, resA, tupA, loadA, storeA, splice, fillA, kindsOk, plainEq, ↓reduceIte, Nat.reduceEqDiff, Nat.reduceLT, Int.reduceToNat, Int.reduceBEq, Int.reduceBNe, Nat.reduceAdd, Nat.reduceMul, Nat.reduceLeDiff, Int.reduceLT, Int.reduceSub, Int.reduceAdd, hg, hfl, hcl, ptr_nn, ptr_en]
    | ((first | refine atC ?_ ?_ | refine atG ?_ ?_ | refine atH ?_ ?_ | refine atP ?_ ?_) <;> intro hc <;> (try rw [hc]) <;> (try simp only [BD] at hc) <;> try (exfalso; omega))
    | ((first
      | (refine Runs.call (r_fine f0) ?_; rintro _ _ ⟨rfl, rfl⟩)
      | (refine Runs.call (num_GetR hb hy hk qo) ?_; rintro _ H1 ⟨gr, a, e, rfl, he⟩; have hg1 := gr.get hg; have hb1 := hb.grow gr; have kp := Pok.of (p := p) gr)
      | (refine Runs.call (BytesAt.cutO hb1 (a := k) (b := s.1.length) (Grow.refl _) (.inl rfl) (.inr ⟨rfl, rfl⟩) qo qo) ?_; rintro v2 _ ⟨rfl, hb2, ho2, hf2⟩; rw [List.take_length] at hb2; have hc2 := cells_of hf2; have on1 := BytesAt.own_le hb)
      | fail); all_goals ((try (have gn := gr.1; try simp only [nx_alloc, nx_set] at gn)); (try (have an := ha.num; try simp only [nx_alloc, nx_set, own_sl, own_nil] at an)); (try (have on := hO.num; try simp only [nx_alloc, nx_set] at on)); (try (have kn := hk.1; try simp only [nx_alloc, nx_set] at kn)); try have hB := hO.at)))
  all_goals try (first
    | (refine hK _ _ ?_; (first | (rw [rdN_bad (by assumption)]; exact ⟨rfl, k0, f0⟩) | (rcases he with ⟨h1, rfl, rfl⟩ | ⟨h1, rfl, rfl⟩; (rw [rdN_short (by assumption) h1]; exact ⟨rfl, Pok.setR kp (.inl rfl), b, qs, BytesAt.pok hb1 (Pok.set qo) hne.1, hne, hy, hl⟩); exfalso; omega) | (rcases he with ⟨h1, rfl, rfl⟩ | ⟨h1, rfl, rfl⟩; (exfalso; omega); rw [rdN_ok (by assumption) h1]; exact ⟨rfl, Pok.setR kp (.inl rfl), v2, qs, BytesAt.pok hb2 (Pok.set qo) qo, by omega, hy.drop k, by rw [List.length_drop]; omega⟩) | fail); done)
    | fail)
end Go.Proofs.YtpoccinfeekdhaaDoor.Ya
