/-
  The reader, walked.
-/
import Derived.Test.YtdmabiefaeidmaaDoorYaXR
import Derived.Test.YtdmabiefaeidmaaDoorYbL
namespace Go.Proofs.YtdmabiefaeidmaaDoor.Ya
open Go.Ya
set_option linter.unusedVariables false
set_option linter.unusedSimpArgs false
set_option maxRecDepth 100000
set_option maxHeartbeats 8000000
def rdT (s : List Int × Int) : Bool × (List Int × Int) := (decide ((rdN 4 s).1 = 1), if (rdN 4 s).1 > 1 then ((rdN 4 s).2.1, 5) else (rdN 4 s).2)
def rdB (most : Nat) (s : List Int × Int) : List Int × (List Int × Int) :=
  if ¬ (rdN 4 s).2.2 = 0 then ([], (rdN 4 s).2) else if most < (rdN 4 s).1.toNat then ([], ((rdN 4 s).2.1, 3))
  else if (rdN 4 s).2.1.length < (rdN 4 s).1.toNat + padN (rdN 4 s).1.toNat then ([], ((rdN 4 s).2.1, 4))
  else if (((rdN 4 s).2.1.drop (rdN 4 s).1.toNat).take (padN (rdN 4 s).1.toNat)).any posB = true then ([], ((rdN 4 s).2.1, 5))
  else ((rdN 4 s).2.1.take (rdN 4 s).1.toNat, ((rdN 4 s).2.1.drop ((rdN 4 s).1.toNat + padN (rdN 4 s).1.toNat), 0))
def endE (s : List Int × Int) : Int := if s.2 = 0 ∧ 0 < s.1.length then 5 else s.2
def b56 : SC := (.seq (.ops [⟨some 2, .mov (.c (.bool false)), none⟩]) (.seq (.ops [⟨some 3, .mov (.t 0), none⟩, ⟨some 4, .bin (.eql) (.ptr) (.t 3) (.c (.nilptr)), none⟩, ⟨some 5, .mov (.t 4), none⟩, ⟨some 6, .mov (.t 0), some (5, false)⟩, ⟨some 7, .nilChk (.t 6), some (5, false)⟩, ⟨some 8, .fieldAddr 2 (.t 7), some (5, false)⟩, ⟨some 9, .load false 1 (.t 8), some (5, false)⟩, ⟨some 10, .un (.not) (.t 9), some (5, false)⟩, ⟨some 11, .pick (.t 5) (.c (.bool true)) (.t 10), none⟩, ⟨some 2, .mov (.t 11), none⟩]) .ret))
theorem t56 : tab 56 = some ⟨12, [.tmp 2], b56⟩ := rfl
theorem r_none {h : Heap} {p : Nat} {s : List Int × Int} (f : Rdr h p s) : Runs (xcall X1 tab (.fn 56) [.ptr p 0] h) fun v h' => v = .bool false ∧ h = h' := by
  refine Runs.intro fun K hK => ?_
  obtain ⟨b, hg, hb, hne, hy, hl⟩ := f
  have hfl := BytesAt.flat' hb
  have hcl := cells_of hfl
  have hp := Heap.lt_of_get hg
  rw [w_fn rfl t56 (Nat.le_of_ble_eq_true rfl)]
  delta b56
  repeat' (first
    | simp (disch := first | exact qd | fail) only [WB, ↓WP, ↓WL, WR, WC, if_true, if_false, ite_true, ite_false, aop, ev, evs, readsA, List.replicate, numF, unA, resA, tupA, loadA, storeA, splice, fillA, kindsOk, plainEq, ↓reduceIte, Nat.reduceEqDiff, Nat.reduceLT, Int.reduceToNat, Int.reduceBEq, Int.reduceBNe, Nat.reduceAdd, Nat.reduceMul, Nat.reduceLeDiff, Int.reduceLT, Int.reduceSub, Int.reduceAdd, hg, hfl, hcl, ptr_nn, ptr_en]
    | ((first | refine atC ?_ ?_ | refine atG ?_ ?_ | refine atH ?_ ?_ | refine atP ?_ ?_) <;> intro hc <;> (try rw [hc]) <;> (try simp only [BD] at hc) <;> try (exfalso; omega)))
  all_goals try (first
    | (refine hK _ _ ?_; exact ⟨rfl, rfl⟩; done)
    | fail)
def b53 : SC := (.seq (.ops [⟨some 2, .mov (.c (.bool false)), none⟩]) (.seq (.ops [⟨some 3, .mov (.t 0), none⟩, ⟨some 4, .call 56 [.t 3], none⟩, ⟨some 5, .un (.not) (.t 4), none⟩, ⟨some 6, .mov (.t 5), none⟩, ⟨some 7, .mov (.t 0), some (6, true)⟩, ⟨some 8, .nilChk (.t 7), some (6, true)⟩, ⟨some 9, .fieldAddr 1 (.t 8), some (6, true)⟩, ⟨some 10, .load false 1 (.t 9), some (6, true)⟩, ⟨some 11, .bin (.eql) (.other) (.t 10) (.c (.int (.i64) 0)), some (6, true)⟩, ⟨some 12, .pick (.t 6) (.t 11) (.c (.bool false)), none⟩, ⟨some 2, .mov (.t 12), none⟩]) .ret))
theorem t53 : tab 53 = some ⟨13, [.tmp 2], b53⟩ := rfl
theorem r_fine {h : Heap} {p : Nat} {s : List Int × Int} (f : Rdr h p s) : Runs (xcall X1 tab (.fn 53) [.ptr p 0] h) fun v h' => v = .bool (decide (s.2 = 0)) ∧ h = h' := by
  refine Runs.intro fun K hK => ?_
  have f0 := f
  obtain ⟨b, hg, hb, hne, hy, hl⟩ := f
  have hfl := BytesAt.flat' hb
  have hcl := cells_of hfl
  have hp := Heap.lt_of_get hg
  rw [w_fn rfl t53 (Nat.le_of_ble_eq_true rfl)]
  delta b53
  repeat' (first
    | simp (disch := first | exact qd | fail) only [WB, ↓WP, ↓WL, WR, WC, if_true, if_false, ite_true, ite_false, aop, ev, evs, readsA, List.replicate, numF, unA, resA, tupA, loadA, storeA, splice, fillA, kindsOk, plainEq, ↓reduceIte, Nat.reduceEqDiff, Nat.reduceLT, Int.reduceToNat, Int.reduceBEq, Int.reduceBNe, Nat.reduceAdd, Nat.reduceMul, Nat.reduceLeDiff, Int.reduceLT, Int.reduceSub, Int.reduceAdd, hg, hfl, hcl, ptr_nn, ptr_en]
    | ((first | refine atC ?_ ?_ | refine atG ?_ ?_ | refine atH ?_ ?_ | refine atP ?_ ?_) <;> intro hc <;> (try rw [hc]) <;> (try simp only [BD] at hc) <;> try (exfalso; omega))
    | ((first
      | (refine Runs.call (r_none f0) ?_; rintro _ _ ⟨rfl, rfl⟩)
      | fail); all_goals ((try (have gn := gr.1; try simp only [nx_alloc, nx_set] at gn)); (try (have an := ha.num; try simp only [nx_alloc, nx_set, own_sl, own_nil] at an)); (try (have on := hO.num; try simp only [nx_alloc, nx_set] at on)); (try (have kn := hk.1; try simp only [nx_alloc, nx_set] at kn)); try have hB := hO.at)))
  all_goals try (first
    | (refine hK _ _ ?_; exact ⟨rfl, rfl⟩; done)
    | fail)
def b52 : SC := (.seq (.ops [⟨some 6, .mov (.t 0), none⟩, ⟨some 7, .call 53 [.t 6], none⟩, ⟨some 8, .mov (.t 7), none⟩, ⟨some 9, .mov (.t 1), some (8, true)⟩, ⟨some 10, .pick (.t 8) (.t 9) (.c (.bool false)), none⟩]) (.cond (.t 10) (.ops [⟨some 11, .mov (.t 0), none⟩, ⟨some 12, .mov (.t 2), none⟩, ⟨some 13, .nilChk (.t 11), none⟩, ⟨some 14, .fieldAddr 1 (.t 13), none⟩, ⟨none, .store 1 (.t 14) (.t 12), none⟩]) .skip))
theorem t52 : tab 52 = some ⟨15, [], b52⟩ := rfl
theorem r_fail {h : Heap} {p : Nat} {s : List Int × Int} (f : Rdr h p s) (t : Bool) (e : Int) : Runs (xcall X1 tab (.fn 52) [.ptr p 0, .bool t, .int .i64 e] h) fun v h' => Pok p h h' ∧ ((s.2 = 0 ∧ t = true ∧ Rdr h' p (s.1, e)) ∨ ((¬ s.2 = 0 ∨ t = false) ∧ Rdr h' p s)) := by
  refine Runs.intro fun K hK => ?_
  have f0 := f
  obtain ⟨b, hg, hb, hne, hy, hl⟩ := f
  have hfl := BytesAt.flat' hb
  have hcl := cells_of hfl
  have hp := Heap.lt_of_get hg
  have k0 := Pok.refl p h
  have k1 : ∀ ob, Pok p h (h.set p ob) := fun ob => Pok.set hp
  have hb1 : ∀ ob, BytesAt (h.set p ob) b s.1 := fun ob => BytesAt.pok hb (k1 ob) hne
  rw [w_fn rfl t52 (Nat.le_of_ble_eq_true rfl)]
  delta b52
  repeat' (first
    | simp (disch := first | exact qd | fail) only [WB, ↓WP, ↓WL, WR, WC, if_true, if_false, ite_true, ite_false, aop, ev, evs, readsA, List.replicate, numF, unA, resA, tupA, loadA, storeA, splice, fillA, kindsOk, plainEq, ↓reduceIte, Nat.reduceEqDiff, Nat.reduceLT, Int.reduceToNat, Int.reduceBEq, Int.reduceBNe, Nat.reduceAdd, Nat.reduceMul, Nat.reduceLeDiff, Int.reduceLT, Int.reduceSub, Int.reduceAdd, hg, hfl, hcl, ptr_nn, ptr_en]
    | ((first | refine atC ?_ ?_ | refine atG ?_ ?_ | refine atH ?_ ?_ | refine atP ?_ ?_) <;> intro hc <;> (try rw [hc]) <;> (try simp only [BD] at hc) <;> try (exfalso; omega))
    | ((first
      | (refine Runs.call (r_fine f0) ?_; rintro _ _ ⟨rfl, rfl⟩)
      | fail); all_goals ((try (have gn := gr.1; try simp only [nx_alloc, nx_set] at gn)); (try (have an := ha.num; try simp only [nx_alloc, nx_set, own_sl, own_nil] at an)); (try (have on := hO.num; try simp only [nx_alloc, nx_set] at on)); (try (have kn := hk.1; try simp only [nx_alloc, nx_set] at kn)); try have hB := hO.at)))
  all_goals try (first
    | (refine hK _ _ ?_; (first | exact ⟨k1 _, .inl ⟨by assumption, by assumption, b, qs, hb1 _, hne, hy, hl⟩⟩ | exact ⟨k0, .inr ⟨.inl (by assumption), f0⟩⟩ | exact ⟨k0, .inr ⟨.inr (by simp_all), f0⟩⟩ | fail); done)
    | fail)
def b51 : SC := (.seq (.ops [⟨some 4, .mov (.c (.int (.u64) 0)), none⟩]) (.seq (.seq (.ops [⟨some 7, .mov (.t 0), none⟩, ⟨some 8, .call 53 [.t 7], none⟩, ⟨some 9, .un (.not) (.t 8), none⟩]) (.cond (.t 9) (.seq (.ops [⟨some 4, .mov (.c (.int (.u64) 0)), none⟩]) .ret) .skip)) (.seq (.ops [⟨some 11, .mov (.t 0), none⟩, ⟨some 12, .nilChk (.t 11), none⟩, ⟨some 13, .fieldAddr 0 (.t 12), none⟩, ⟨some 14, .load false 1 (.t 13), none⟩, ⟨some 15, .mov (.t 1), none⟩, ⟨some 16, .call 66 [.t 14, .c (.int (.i64) 0), .t 15], none⟩, ⟨some 10, .mov (.t 16), none⟩, ⟨some 17, .extract (.t 10) 0, none⟩, ⟨some 18, .extract (.t 10) 1, none⟩, ⟨some 5, .mov (.t 17), none⟩, ⟨some 6, .mov (.t 18), none⟩]) (.seq (.seq (.ops [⟨some 19, .mov (.t 6), none⟩, ⟨some 20, .bin (.neq) (.other) (.t 19) (.c (.int (.i64) 0)), none⟩]) (.cond (.t 20) (.seq (.ops [⟨some 21, .mov (.t 0), none⟩, ⟨some 22, .mov (.t 6), none⟩, ⟨some 23, .nilChk (.t 21), none⟩, ⟨some 24, .fieldAddr 1 (.t 23), none⟩, ⟨none, .store 1 (.t 24) (.t 22), none⟩]) (.seq (.ops [⟨some 4, .mov (.c (.int (.u64) 0)), none⟩]) .ret)) .skip)) (.seq (.ops [⟨some 25, .mov (.t 0), none⟩, ⟨some 26, .mov (.t 0), none⟩, ⟨some 27, .nilChk (.t 26), none⟩, ⟨some 28, .fieldAddr 0 (.t 27), none⟩, ⟨some 29, .load false 1 (.t 28), none⟩, ⟨some 30, .mov (.t 1), none⟩, ⟨some 31, .slice 1 (.t 29) (some (.t 30)) none none, none⟩, ⟨some 32, .nilChk (.t 25), none⟩, ⟨some 33, .fieldAddr 0 (.t 32), none⟩, ⟨none, .store 1 (.t 33) (.t 31), none⟩]) (.seq (.ops [⟨some 34, .mov (.t 5), none⟩, ⟨some 4, .mov (.t 34), none⟩]) .ret))))))
theorem t51 : tab 51 = some ⟨35, [.tmp 4], b51⟩ := rfl
theorem r_number {h : Heap} {p : Nat} {s : List Int × Int} (f : Rdr h p s) {k : Nat} (hk : Sz k) : Runs (xcall X1 tab (.fn 51) [.ptr p 0, .int .i64 (k : Nat)] h) fun v h' => v = .int .u64 (rdN k s).1 ∧ Pok p h h' ∧ Rdr h' p (rdN k s).2 := by
  refine Runs.intro fun K hK => ?_
  have f0 := f
  obtain ⟨b, hg, hb, hne, hy, hl⟩ := f
  have hfl := BytesAt.flat' hb
  have hcl := cells_of hfl
  have hp := Heap.lt_of_get hg
  have k0 := Pok.refl p h
  have hkl := hk.le
  rw [w_fn rfl t51 (Nat.le_of_ble_eq_true rfl)]
  delta b51
  repeat' (first
    | simp (disch := first | exact qd | fail) only [WB, ↓WP, ↓WL, WR, WC, if_true, if_false, ite_true, ite_false, aop, ev, evs, readsA, List.replicate, numF, unA, resA, tupA, loadA, storeA, splice, fillA, kindsOk, plainEq, ↓reduceIte, Nat.reduceEqDiff, Nat.reduceLT, Int.reduceToNat, Int.reduceBEq, Int.reduceBNe, Nat.reduceAdd, Nat.reduceMul, Nat.reduceLeDiff, Int.reduceLT, Int.reduceSub, Int.reduceAdd, hg, hfl, hcl, ptr_nn, ptr_en]
    | ((first | refine atC ?_ ?_ | refine atG ?_ ?_ | refine atH ?_ ?_ | refine atP ?_ ?_) <;> intro hc <;> (try rw [hc]) <;> (try simp only [BD] at hc) <;> try (exfalso; omega))
    | ((first
      | (refine Runs.call (r_fine f0) ?_; rintro _ _ ⟨rfl, rfl⟩)
      | (refine Runs.call (num_GetR hb hy hk qo) ?_; rintro _ H1 ⟨gr, a, e, rfl, he⟩; have hg1 := gr.get hg; have hb1 := hb.grow gr; have kp := Pok.of (p := p) gr)
      | (refine Runs.call (BytesAt.cutO hb1 (a := k) (b := s.1.length) (Grow.refl _) (.inl rfl) (.inr ⟨rfl, rfl⟩) qo qo) ?_; rintro v2 _ ⟨rfl, hb2, ho2, hf2⟩; rw [List.take_length] at hb2; have hc2 := cells_of hf2; have on1 := BytesAt.own_le hb)
      | fail); all_goals ((try (have gn := gr.1; try simp only [nx_alloc, nx_set] at gn)); (try (have an := ha.num; try simp only [nx_alloc, nx_set, own_sl, own_nil] at an)); (try (have on := hO.num; try simp only [nx_alloc, nx_set] at on)); (try (have kn := hk.1; try simp only [nx_alloc, nx_set] at kn)); try have hB := hO.at)))
  all_goals try (first
    | (refine hK _ _ ?_; (first | (rw [rdN_bad (by assumption)]; exact ⟨rfl, k0, f0⟩) | (rcases he with ⟨h1, rfl, rfl⟩ | ⟨h1, rfl, rfl⟩; (rw [rdN_short (by assumption) h1]; exact ⟨rfl, Pok.setR kp (.inl rfl), b, qs, BytesAt.pok hb1 (Pok.set qo) hne, hne, hy, hl⟩); exfalso; omega) | (rcases he with ⟨h1, rfl, rfl⟩ | ⟨h1, rfl, rfl⟩; (exfalso; omega); rw [rdN_ok (by assumption) h1]; exact ⟨rfl, Pok.setR kp (.inl rfl), v2, qs, BytesAt.pok hb2 (Pok.set qo) qo, by omega, hy.drop k, by rw [List.length_drop]; omega⟩) | fail); done)
    | fail)
end Go.Proofs.YtdmabiefaeidmaaDoor.Ya
