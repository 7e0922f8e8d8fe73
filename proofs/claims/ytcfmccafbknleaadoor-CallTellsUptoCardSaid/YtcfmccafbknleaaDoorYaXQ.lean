/-
  The document's reader.
-/
import Derived.Test.YtcfmccafbknleaaDoorYaXD
import Derived.Test.YtcfmccafbknleaaDoorYbL
import Derived.Test.YtcfmccafbknleaaDoorYaLStd
namespace Go.Proofs.YtcfmccafbknleaaDoor.Ya
open Go.Ya
set_option linter.unusedVariables false
set_option linter.unusedSimpArgs false
set_option maxRecDepth 100000
set_option maxHeartbeats 8000000
def Qdr (H : Heap) (p : Nat) (s : List Int × Int) : Prop := ∃ v all a, H.get p = some (.cells [v, .int .i64 (a : Nat), .int .i64 s.2] false) ∧ BytesAt H v all ∧ own v ≤ p ∧ Bytes all ∧ a ≤ all.length ∧ all.length ≤ 1000000000 ∧ s.1 = all.drop a
theorem Qdr.opn {H : Heap} {p : Nat} {l : List Int} {e : Int} (f : Qdr H p (l, e)) : ∃ v all a, H.get p = some (.cells [v, .int .i64 (a : Nat), .int .i64 e] false) ∧ BytesAt H v all ∧ own v ≤ p ∧ Bytes all ∧ a ≤ all.length ∧ all.length ≤ 1000000000 ∧ l = all.drop a := f
theorem Qdr.mk {H : Heap} {p : Nat} {v : AV} {all : List Int} {a : Nat} {e : Int} (h1 : H.get p = some (.cells [v, .int .i64 (a : Nat), .int .i64 e] false)) (h2 : BytesAt H v all) (h3 : own v ≤ p) (h4 : Bytes all) (h5 : a ≤ all.length) (h6 : all.length ≤ 1000000000) {l : List Int} (h7 : l = all.drop a) : Qdr H p (l, e) := ⟨v, all, a, h1, h2, h3, h4, h5, h6, h7⟩
theorem Qdr.grow {H H' : Heap} {p : Nat} {s : List Int × Int} (f : Qdr H p s) (g : Grow H H') : Qdr H' p s := by
  obtain ⟨v, all, a, h1, h2, h3⟩ := f
  exact ⟨v, all, a, g.get h1, h2.grow g, h3⟩
theorem Qdr.pok {H H' : Heap} {p q : Nat} {s : List Int × Int} (f : Qdr H p s) (k : Pok q H H') (hq : p < q) : Qdr H' p s := by
  obtain ⟨v, all, a, h1, h2, h3, h4⟩ := f
  exact ⟨v, all, a, (k.2 p (Heap.lt_of_get h1) qo).trans h1, BytesAt.pok h2 k qo, h3, h4⟩
theorem Qdr.lt {H : Heap} {p : Nat} {s : List Int × Int} (f : Qdr H p s) : p < H.next := by
  obtain ⟨v, all, a, h1, _⟩ := f
  exact Heap.lt_of_get h1
theorem drop_len {all : List Int} {a : Nat} : (all.drop a).length = all.length - a := List.length_drop
theorem take_drop' {all : List Int} {a n : Nat} : (all.take (a + n)).drop a = (all.drop a).take n := by rw [List.drop_take, Nat.add_sub_cancel_left]
theorem nat_add3 {a n k : Nat} : ((a : Int) + (n : Int)) + (k : Int) = ((a + n + k : Nat) : Int) := by omega
theorem t47 : tab 47 = some ⟨40, [.tmp 4], b47⟩ := rfl
theorem q_number {h : Heap} {p : Nat} {s : List Int × Int} (f : Qdr h p s) {k : Nat} (hk : Sz k) : Runs (xcall X1 tab (.fn 47) [.ptr p 0, .int .i64 (k : Nat)] h) fun v h' => v = .int .u64 (rdN k s).1 ∧ Pok p h h' ∧ Qdr h' p (rdN k s).2 := by
  refine Runs.intro fun K hK => ?_
  have f0 := f
  obtain ⟨b, all, a, hg, hb, hne, hy, ha, hl, hs⟩ := f
  have hfl := BytesAt.flat' hb
  have hcl := cells_of hfl
  have hp := Heap.lt_of_get hg
  have hdl := drop_len (all := all) (a := a)
  have k0 := Pok.refl p h
  have hkl := hk.le
  have k1 : ∀ ob, Pok p h (h.set p ob) := fun ob => Pok.set hp
  have hb1 : ∀ ob, BytesAt (h.set p ob) b all := fun ob => BytesAt.pok hb (k1 ob) hne
  rw [w_fn rfl t47 (Nat.le_of_ble_eq_true rfl)]
  delta b47
  repeat' (first
    | simp (disch := first | exact qd | fail) only [WB, ↓WP, ↓WL, WR, WC, if_true, if_false, ite_true, ite_false, aop, ev, evs, readsA, List.replicate, numF, unA, resA, tupA, loadA, storeA, splice, fillA, kindsOk, plainEq, ↓reduceIte, Nat.reduceEqDiff, Nat.reduceLT, Int.reduceToNat, Int.reduceBEq, Int.reduceBNe, Nat.reduceAdd, Nat.reduceMul, Nat.reduceLeDiff, Int.reduceLT, Int.reduceSub, Int.reduceAdd, hg, hfl, hcl, nat_add]
    | ((first | refine atC ?_ ?_ | refine atG ?_ ?_ | refine atH ?_ ?_ | refine atP ?_ ?_) <;> intro hc <;> (try rw [hc]) <;> (try simp only [BD] at hc) <;> try (exfalso; omega))
    | ((first
      | (refine Runs.call (ref01_Get hb hy hk ha hl) ?_; rintro _ _ ⟨⟨n, e, rfl, he⟩, rfl⟩)
      | fail); all_goals ((try (have gn := gr.1; try simp only [nx_alloc, nx_set] at gn)); (try (have an := ha.num; try simp only [nx_alloc, nx_set, own_sl, own_nil] at an)); (try (have on := hO.num; try simp only [nx_alloc, nx_set] at on)); (try (have kn := hk.1; try simp only [nx_alloc, nx_set] at kn)); try have hB := hO.at)))
  all_goals try (first
    | (refine hK _ _ ?_; (first | (rw [rdN_bad (by assumption)]; exact ⟨rfl, k0, f0⟩) | (rcases he with ⟨h1, rfl, rfl⟩ | ⟨h1, rfl, rfl⟩; (rw [rdN_short qo (by rw [hs]; exact h1)]; exact ⟨rfl, k1 _, Qdr.mk qs (hb1 _) hne hy ha hl hs⟩); exfalso; omega) | (rcases he with ⟨h1, rfl, rfl⟩ | ⟨h1, rfl, rfl⟩; (exfalso; omega); rw [rdN_ok qo (by rw [hs]; exact h1)]; exact ⟨by rw [hs], k1 _, Qdr.mk (a := a + k) qs (hb1 _) hne hy qo hl (by rw [hs, List.drop_drop])⟩) | fail); done)
    | fail)
theorem t27 : tab 27 = some ⟨6, [.tmp 2], b27⟩ := rfl
theorem q_Number {h : Heap} {p : Nat} {s : List Int × Int} (f : Qdr h p s) {n : Nat} {s1 : List Int × Int} (hr : rdN 4 s = ((n : Int), s1)) : Runs (xcall X1 tab (.fn 27) [.ptr p 0] h) fun v h' => v = .int .u32 (n : Nat) ∧ Pok p h h' ∧ Qdr h' p s1 := by
  refine Runs.intro fun K hK => ?_
  have hn4 : n ≤ 4294967295 := by
    obtain ⟨_, all, a, _, _, _, hy, _, _, hs⟩ := f
    have hq : (256 : Int) ^ 4 = 4294967296 := by decide
    have hn := rdN_lt (k := 4) (s := s) (by rw [hs]; exact hy.drop a)
    rw [hr, hq] at hn
    simp only at hn
    omega
  rw [w_fn rfl t27 (Nat.le_of_ble_eq_true rfl)]
  delta b27
  repeat' (first
    | simp (disch := first | exact qd | fail) only [WB, ↓WP, ↓WL, WR, WC, if_true, if_false, ite_true, ite_false, aop, ev, evs, readsA, List.replicate, numF, unA, resA, tupA, loadA, storeA, splice, fillA, kindsOk, plainEq, ↓reduceIte, Nat.reduceEqDiff, Nat.reduceLT, Int.reduceToNat, Int.reduceBEq, Int.reduceBNe, Nat.reduceAdd, Nat.reduceMul, Nat.reduceLeDiff, Int.reduceLT, Int.reduceSub, Int.reduceAdd, hr]
    | ((first | refine atC ?_ ?_ | refine atG ?_ ?_ | refine atH ?_ ?_ | refine atP ?_ ?_) <;> intro hc <;> (try rw [hc]) <;> (try simp only [BD] at hc) <;> try (exfalso; omega))
    | ((first
      | (refine Runs.call (q_number (k := 4) f sz4) ?_; rintro _ H1 ⟨rfl, k1, f1⟩; rw [hr] at f1)
      | fail); all_goals ((try (have gn := gr.1; try simp only [nx_alloc, nx_set] at gn)); (try (have an := ha.num; try simp only [nx_alloc, nx_set, own_sl, own_nil] at an)); (try (have on := hO.num; try simp only [nx_alloc, nx_set] at on)); (try (have kn := hk.1; try simp only [nx_alloc, nx_set] at kn)); try have hB := hO.at)))
  all_goals try (first
    | (refine hK _ _ ?_; exact ⟨rfl, k1, f1⟩; done)
    | fail)
theorem t28 : tab 28 = some ⟨5, [.tmp 2], b28⟩ := rfl
theorem q_Great {h : Heap} {p : Nat} {s : List Int × Int} (f : Qdr h p s) {n : Nat} {s1 : List Int × Int} (hr : rdN 8 s = ((n : Int), s1)) : Runs (xcall X1 tab (.fn 28) [.ptr p 0] h) fun v h' => v = .int .u64 (n : Nat) ∧ Pok p h h' ∧ Qdr h' p s1 := by
  refine Runs.intro fun K hK => ?_
  rw [w_fn rfl t28 (Nat.le_of_ble_eq_true rfl)]
  delta b28
  repeat' (first
    | simp (disch := first | exact qd | fail) only [WB, ↓WP, ↓WL, WR, WC, if_true, if_false, ite_true, ite_false, aop, ev, evs, readsA, List.replicate, numF, unA, resA, tupA, loadA, storeA, splice, fillA, kindsOk, plainEq, ↓reduceIte, Nat.reduceEqDiff, Nat.reduceLT, Int.reduceToNat, Int.reduceBEq, Int.reduceBNe, Nat.reduceAdd, Nat.reduceMul, Nat.reduceLeDiff, Int.reduceLT, Int.reduceSub, Int.reduceAdd, hr]
    | ((first | refine atC ?_ ?_ | refine atG ?_ ?_ | refine atH ?_ ?_ | refine atP ?_ ?_) <;> intro hc <;> (try rw [hc]) <;> (try simp only [BD] at hc) <;> try (exfalso; omega))
    | ((first
      | (refine Runs.call (q_number (k := 8) f sz8) ?_; rintro _ H1 ⟨rfl, k1, f1⟩; rw [hr] at f1)
      | fail); all_goals ((try (have gn := gr.1; try simp only [nx_alloc, nx_set] at gn)); (try (have an := ha.num; try simp only [nx_alloc, nx_set, own_sl, own_nil] at an)); (try (have on := hO.num; try simp only [nx_alloc, nx_set] at on)); (try (have kn := hk.1; try simp only [nx_alloc, nx_set] at kn)); try have hB := hO.at)))
  all_goals try (first
    | (refine hK _ _ ?_; exact ⟨rfl, k1, f1⟩; done)
    | fail)
theorem t29 : tab 29 = some ⟨94, [.tmp 4], b29⟩ := rfl
theorem q_Bytes {h : Heap} {p : Nat} {s : List Int × Int} (f : Qdr h p s) {most n : Nat} {l : List Int} {e : Int} (hr : rdN 4 s = ((n : Int), (l, e))) (hm : most ≤ 1000000000) : Runs (xcall X1 tab (.fn 29) [.ptr p 0, .int .i64 (most : Nat)] h) fun v h' => NewBytes h h' v (rdB most s).1 ∧ Pok p h h' ∧ Qdr h' p (rdB most s).2 := by
  refine Runs.intro fun K hK => ?_
  have hn4 : n ≤ 4294967295 := by
    obtain ⟨_, all, a, _, _, _, hy, _, _, hs⟩ := f
    have hq : (256 : Int) ^ 4 = 4294967296 := by decide
    have hn := rdN_lt (k := 4) (s := s) (by rw [hs]; exact hy.drop a)
    rw [hr, hq] at hn
    simp only at hn
    omega
  have hpn := padN_le n
  rw [w_fn rfl t29 (Nat.le_of_ble_eq_true rfl)]
  delta b29
  repeat' (first
    | simp (disch := first | exact qd | fail) only [WB, ↓WP, ↓WL, WR, WC, if_true, if_false, ite_true, ite_false, aop, ev, evs, readsA, List.replicate, numF, unA, resA, tupA, loadA, storeA, splice, fillA, kindsOk, plainEq, ↓reduceIte, Nat.reduceEqDiff, Nat.reduceLT, Int.reduceToNat, Int.reduceBEq, Int.reduceBNe, Nat.reduceAdd, Nat.reduceMul, Nat.reduceLeDiff, Int.reduceLT, Int.reduceSub, Int.reduceAdd, hr, nat_add, nat_add3]
    | ((first | refine atC ?_ ?_ | refine atG ?_ ?_ | refine atH ?_ ?_ | refine atP ?_ ?_) <;> intro hc <;> (try rw [hc]) <;> (try simp only [BD] at hc) <;> try (exfalso; omega))
    | ((first
      | (refine Runs.call (q_number (k := 4) f sz4) ?_; rintro _ H1 ⟨rfl, k1, f1⟩; rw [hr] at f1; clear f; obtain ⟨b1, all1, a1, hg1, hb1, hne1, hy1, ha1, hl1, hs1⟩ := Qdr.opn f1; have hfl1 := BytesAt.flat' hb1; have hcl1 := cells_of hfl1; have hp1 := Heap.lt_of_get hg1; have hdl1 := drop_len (all := all1) (a := a1); have hll : l.length = all1.length - a1 := by rw [hs1, hdl1])
      | (refine Runs.call (ref01_Pad (n := n) qo _) ?_; rintro _ _ ⟨rfl, rfl⟩)
      | (refine Runs.call (ref01_Zero hb1 hy1 (a := a1 + n) (n := padN n) qo hl1) ?_; rintro _ _ ⟨⟨ez, rfl, hz⟩, rfl⟩; rw [← List.drop_drop, ← hs1] at hz; rcases hz with ⟨z1, rfl⟩ | ⟨z1, rfl⟩)
      | (refine Runs.call (BytesAt.cutO (BytesAt.pok hb1 (Pok.set hp1) hne1) (a := a1) (b := a1 + n) (Grow.refl _) (.inl rfl) (.inl rfl) qo qo) ?_; rintro v5 _ ⟨rfl, hb5, ho5, hf5⟩; rw [take_drop', ← hs1] at hb5; have hc5 := cells_of hf5)
      | (refine Runs.call (f0_Copy hb5 (by rw [List.length_take]; omega)) ?_; rintro v6 H5 ⟨gr, hN⟩; have hB5 := BytesAt.grow (BytesAt.pok hb1 (Pok.set hp1) hne1) gr; have k5 : Pok p h H5 := (Pok.setR k1 (.inl rfl)).trans (Pok.of gr); have hp5 : p < H5.next := Nat.lt_of_lt_of_le hp1 (by have := gr.1; simpa using this); have hbn := (FreshBytes.new hN).at; have hf6 := BytesAt.flat' hbn; have hc6 := cells_of hf6)
      | fail); all_goals ((try (have gn := gr.1; try simp only [nx_alloc, nx_set] at gn)); (try (have an := ha.num; try simp only [nx_alloc, nx_set, own_sl, own_nil] at an)); (try (have on := hO.num; try simp only [nx_alloc, nx_set] at on)); (try (have kn := hk.1; try simp only [nx_alloc, nx_set] at kn)); try have hB := hO.at)))
  all_goals try (first
    | (refine hK _ _ ?_; (rw [rdB_n hr]; (first | (rw [if_pos (by assumption)]; exact ⟨.inl ⟨rfl, rfl⟩, k1, f1⟩) | (rw [if_neg qo, if_pos qo]; exact ⟨.inl ⟨rfl, rfl⟩, Pok.setR k1 (.inl rfl), Qdr.mk qs (BytesAt.pok hb1 (Pok.set hp1) hne1) hne1 hy1 ha1 hl1 hs1⟩) | (rw [if_neg qo, if_neg qo, if_pos qo]; exact ⟨.inl ⟨rfl, rfl⟩, Pok.setR k1 (.inl rfl), Qdr.mk qs (BytesAt.pok hb1 (Pok.set hp1) hne1) hne1 hy1 ha1 hl1 hs1⟩) | (rw [if_neg qo, if_neg qo, if_neg qo, if_pos z1]; exact ⟨.inl ⟨rfl, rfl⟩, Pok.setR k1 (.inl rfl), Qdr.mk qs (BytesAt.pok hb1 (Pok.set hp1) hne1) hne1 hy1 ha1 hl1 hs1⟩) | (rw [if_neg qo, if_neg qo, if_neg qo, if_neg (by rw [z1]; decide)]; exact ⟨NewBytes.pokF (FreshBytes.new hN) (by simpa using hp1) (Pok.set hp5) (by have := k1.1; simpa using this), Pok.setR k5 (.inl rfl), Qdr.mk (a := a1 + n + padN n) qs (BytesAt.pok hB5 (Pok.set hp5) hne1) hne1 hy1 qo hl1 (by rw [hs1, List.drop_drop, Nat.add_assoc])⟩) | fail)); done)
    | fail)
theorem t30 : tab 30 = some ⟨24, [.tmp 2], b30⟩ := rfl
theorem q_End {h : Heap} {p : Nat} {s : List Int × Int} (f : Qdr h p s) : Runs (xcall X1 tab (.fn 30) [.ptr p 0] h) fun v h' => v = .int .i64 (endE s) ∧ h = h' := by
  refine Runs.intro fun K hK => ?_
  obtain ⟨b, all, a, hg, hb, hne, hy, ha, hl, hs⟩ := f
  have hfl := BytesAt.flat' hb
  have hcl := cells_of hfl
  have hp := Heap.lt_of_get hg
  have hdl := drop_len (all := all) (a := a)
  have hsl : s.1.length = all.length - a := by rw [hs, hdl]
  rw [w_fn rfl t30 (Nat.le_of_ble_eq_true rfl)]
  delta b30
  repeat' (first
    | simp (disch := first | exact qd | fail) only [WB, ↓WP, ↓WL, WR, WC, if_true, if_false, ite_true, ite_false, aop, ev, evs, readsA, List.replicate, numF, unA, resA, tupA, loadA, storeA, splice, fillA, kindsOk, plainEq, ↓reduceIte, Nat.reduceEqDiff, Nat.reduceLT, Int.reduceToNat, Int.reduceBEq, Int.reduceBNe, Nat.reduceAdd, Nat.reduceMul, Nat.reduceLeDiff, Int.reduceLT, Int.reduceSub, Int.reduceAdd, hg, hfl, hcl]
    | ((first | refine atC ?_ ?_ | refine atG ?_ ?_ | refine atH ?_ ?_ | refine atP ?_ ?_) <;> intro hc <;> (try rw [hc]) <;> (try simp only [BD] at hc) <;> try (exfalso; omega)))
  all_goals try (first
    | (refine hK _ _ ?_; (refine ⟨?_, rfl⟩; unfold endE; (first | (rw [if_pos ⟨by omega, by omega⟩]; done) | (rw [if_neg qo]; done) | fail)); done)
    | fail)
end Go.Proofs.YtcfmccafbknleaaDoor.Ya
