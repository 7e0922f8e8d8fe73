/-
  The reader, walked: what is called.
-/
import Derived.Test.YtpoccinfeekdhaaDoorYaXS
import Derived.Test.YtpoccinfeekdhaaDoorYbL
namespace Go.Proofs.YtpoccinfeekdhaaDoor.Ya
open Go.Ya
set_option linter.unusedVariables false
set_option linter.unusedSimpArgs false
set_option maxRecDepth 100000
set_option maxHeartbeats 8000000
theorem r_failP {lo : Nat} {h : Heap} {p : Nat} {l : List Int} {e1 : Int} (f : Rdr lo h p (l, e1)) {P : Prop} [Decidable P] (e : Int) : Runs (xcall X1 tab (.fn 59) [.ptr p 0, .bool (decide P), .int .i64 e] h) fun v h' => Pok p h h' ∧ ((e1 = 0 ∧ P ∧ Rdr lo h' p (l, e)) ∨ ((¬ e1 = 0 ∨ ¬ P) ∧ Rdr lo h' p (l, e1))) :=
  (r_fail f (decide P) e).mono fun v h' ⟨k, q⟩ => ⟨k, by
    rcases q with ⟨q1, q2, q3⟩ | ⟨q1, q2⟩
    · exact .inl ⟨q1, of_decide_eq_true q2, q3⟩
    · exact .inr ⟨q1.imp (fun z => z) (fun z => of_decide_eq_false z), q2⟩⟩
theorem r_fineP {lo : Nat} {h : Heap} {p : Nat} {l : List Int} {e : Int} (f : Rdr lo h p (l, e)) : Runs (xcall X1 tab (.fn 60) [.ptr p 0] h) fun v h' => v = .bool (decide (e = 0)) ∧ h = h' := r_fine f
theorem Rdr.opn {lo : Nat} {H : Heap} {p : Nat} {l : List Int} {e : Int} (f : Rdr lo H p (l, e)) : ∃ v, H.get p = some (.cells [v, .int .i64 e, .bool true] false) ∧ BytesAt H v l ∧ (own v ≤ p ∧ (own v = 0 ∨ lo < own v)) ∧ Bytes l ∧ l.length ≤ 1000000000 := f
theorem r_failT {lo : Nat} {h : Heap} {p : Nat} {l : List Int} {e1 : Int} (f : Rdr lo h p (l, e1)) (e : Int) (h0 : e1 = 0) : Runs (xcall X1 tab (.fn 59) [.ptr p 0, .bool true, .int .i64 e] h) fun v h' => Pok p h h' ∧ Rdr lo h' p (l, e) :=
  (r_fail f true e).mono fun v h' ⟨k, q⟩ => ⟨k, by
    rcases q with ⟨q1, q2, q3⟩ | ⟨q1, q2⟩
    · exact q3
    · rcases q1 with q1 | q1
      · exact absurd h0 q1
      · cases q1⟩
theorem r_failF {lo : Nat} {h : Heap} {p : Nat} {l : List Int} {e1 : Int} (f : Rdr lo h p (l, e1)) (e : Int) : Runs (xcall X1 tab (.fn 59) [.ptr p 0, .bool false, .int .i64 e] h) fun v h' => Pok p h h' ∧ Rdr lo h' p (l, e1) :=
  (r_fail f false e).mono fun v h' ⟨k, q⟩ => ⟨k, by
    rcases q with ⟨q1, q2, q3⟩ | ⟨q1, q2⟩
    · cases q2
    · exact q2⟩
theorem NewBytes.pokF {h h1 h2 h3 : Heap} {v : AV} {bs : List Int} {p : Nat} (hn : NewBytes h1 h2 v bs) (hp : p < h1.next) (k : Pok p h2 h3) (hle : h.next ≤ h1.next) : NewBytes h h3 v bs := by
  rcases hn with e | ⟨id, cap, ex, e, e1, e2, e3, e4, e5⟩
  · exact .inl e
  · refine .inr ⟨id, cap, ex, e, e1, e2, by omega, (k.2 id (Heap.lt_of_get e4) qo).trans e4, e5.imp (fun q => q) fun q => ?_⟩
    rw [Heap.byteAt_of (k.2 (id + 1) (Heap.byteAt_lt q) qo)]; exact q
theorem rdN_fine {k : Nat} {s : List Int × Int} (h : ¬ (rdN k s).1 = 0) : (rdN k s).2.2 = 0 := by
  unfold rdN at h ⊢
  split
  · rename_i hs
    rw [if_pos hs] at h
    split
    · rename_i hk
      rw [if_pos hk] at h; exact absurd rfl h
    · rfl
  · rename_i hs
    rw [if_neg hs] at h; exact absurd rfl h
theorem rdT_1 {s : List Int × Int} {n : Nat} {l : List Int} {e : Int} (hr : rdN 4 s = ((n : Int), (l, e))) : rdT s = (decide ((n : Int) = 1), if (n : Int) > 1 then (l, 5) else (l, e)) := by unfold rdT; rw [hr]
theorem rdB_n {most n : Nat} {s : List Int × Int} {l : List Int} {e : Int} (hr : rdN 4 s = ((n : Int), (l, e))) : rdB most s = if ¬ e = 0 then ([], (l, e)) else if most < n then ([], (l, 3)) else if l.length < n + padN n then ([], (l, 4)) else if ((l.drop n).take (padN n)).any posB = true then ([], (l, 5)) else (l.take n, (l.drop (n + padN n), 0)) := by unfold rdB; rw [hr]; rfl
theorem t40 : tab 40 = some ⟨6, [.tmp 2], b40⟩ := rfl
theorem r_Number {lo : Nat} {h : Heap} {p : Nat} {s : List Int × Int} (f : Rdr lo h p s) {n : Nat} {s1 : List Int × Int} (hr : rdN 4 s = ((n : Int), s1)) : Runs (xcall X1 tab (.fn 40) [.ptr p 0] h) fun v h' => v = .int .u32 (n : Nat) ∧ Pok p h h' ∧ Rdr lo h' p s1 := by
  refine Runs.intro fun K hK => ?_
  have f0 := f
  obtain ⟨b, hg, hb, hne, hy, hl⟩ := f
  have hfl := BytesAt.flat' hb
  have hcl := cells_of hfl
  have hp := Heap.lt_of_get hg
  have hq : (256 : Int) ^ 4 = 4294967296 := by decide
  have hn := rdN_lt (k := 4) hy
  rw [hr, hq] at hn
  rw [w_fn rfl t40 (Nat.le_of_ble_eq_true rfl)]
  delta b40
  repeat' (first
    | simp (disch := first | exact qd | fail) only [WB, ↓WP, ↓WL, WR, WC, if_true, if_false, ite_true, ite_false, aop, ev, evs, readsA, List.replicate, numF, unA, resA, tupA, loadA, storeA, splice, fillA, kindsOk, plainEq, ↓reduceIte, Nat.reduceEqDiff, Nat.reduceLT, Int.reduceToNat, Int.reduceBEq, Int.reduceBNe, Nat.reduceAdd, Nat.reduceMul, Nat.reduceLeDiff, Int.reduceLT, Int.reduceSub, Int.reduceAdd, hr]
    | ((first | refine atC ?_ ?_ | refine atG ?_ ?_ | refine atH ?_ ?_ | refine atP ?_ ?_) <;> intro hc <;> (try rw [hc]) <;> (try simp only [BD] at hc) <;> try (exfalso; omega))
    | ((first
      | (refine Runs.call (r_number (k := 4) f0 sz4) ?_; rintro _ H1 ⟨rfl, k1, f1⟩; rw [hr] at f1)
      | fail); all_goals ((try (have gn := gr.1; try simp only [nx_alloc, nx_set] at gn)); (try (have an := ha.num; try simp only [nx_alloc, nx_set, own_sl, own_nil] at an)); (try (have on := hO.num; try simp only [nx_alloc, nx_set] at on)); (try (have kn := hk.1; try simp only [nx_alloc, nx_set] at kn)); try have hB := hO.at)))
  all_goals try (first
    | (refine hK _ _ ?_; exact ⟨rfl, k1, f1⟩; done)
    | fail)
theorem t41 : tab 41 = some ⟨5, [.tmp 2], b41⟩ := rfl
theorem r_Great {lo : Nat} {h : Heap} {p : Nat} {s : List Int × Int} (f : Rdr lo h p s) {n : Nat} {s1 : List Int × Int} (hr : rdN 8 s = ((n : Int), s1)) : Runs (xcall X1 tab (.fn 41) [.ptr p 0] h) fun v h' => v = .int .u64 (n : Nat) ∧ Pok p h h' ∧ Rdr lo h' p s1 := by
  refine Runs.intro fun K hK => ?_
  rw [w_fn rfl t41 (Nat.le_of_ble_eq_true rfl)]
  delta b41
  repeat' (first
    | simp (disch := first | exact qd | fail) only [WB, ↓WP, ↓WL, WR, WC, if_true, if_false, ite_true, ite_false, aop, ev, evs, readsA, List.replicate, numF, unA, resA, tupA, loadA, storeA, splice, fillA, kindsOk, plainEq, ↓reduceIte, Nat.reduceEqDiff, Nat.reduceLT, Int.reduceToNat, Int.reduceBEq, Int.reduceBNe, Nat.reduceAdd, Nat.reduceMul, Nat.reduceLeDiff, Int.reduceLT, Int.reduceSub, Int.reduceAdd, hr]
    | ((first | refine atC ?_ ?_ | refine atG ?_ ?_ | refine atH ?_ ?_ | refine atP ?_ ?_) <;> intro hc <;> (try rw [hc]) <;> (try simp only [BD] at hc) <;> try (exfalso; omega))
    | ((first
      | (refine Runs.call (r_number (k := 8) f sz8) ?_; rintro _ H1 ⟨rfl, k1, f1⟩; rw [hr] at f1)
      | fail); all_goals ((try (have gn := gr.1; try simp only [nx_alloc, nx_set] at gn)); (try (have an := ha.num; try simp only [nx_alloc, nx_set, own_sl, own_nil] at an)); (try (have on := hO.num; try simp only [nx_alloc, nx_set] at on)); (try (have kn := hk.1; try simp only [nx_alloc, nx_set] at kn)); try have hB := hO.at)))
  all_goals try (first
    | (refine hK _ _ ?_; exact ⟨rfl, k1, f1⟩; done)
    | fail)
theorem t42 : tab 42 = some ⟨12, [.tmp 2], b42⟩ := rfl
theorem r_Truth {lo : Nat} {h : Heap} {p : Nat} {s : List Int × Int} (f : Rdr lo h p s) {n : Nat} {l : List Int} {e : Int} (hr : rdN 4 s = ((n : Int), (l, e))) : Runs (xcall X1 tab (.fn 42) [.ptr p 0] h) fun v h' => v = .bool (rdT s).1 ∧ Pok p h h' ∧ Rdr lo h' p (rdT s).2 := by
  refine Runs.intro fun K hK => ?_
  have hfn := rdN_fine (k := 4) (s := s)
  rw [hr] at hfn
  simp only at hfn
  rw [w_fn rfl t42 (Nat.le_of_ble_eq_true rfl)]
  delta b42
  repeat' (first
    | simp (disch := first | exact qd | fail) only [WB, ↓WP, ↓WL, WR, WC, if_true, if_false, ite_true, ite_false, aop, ev, evs, readsA, List.replicate, numF, unA, resA, tupA, loadA, storeA, splice, fillA, kindsOk, plainEq, ↓reduceIte, Nat.reduceEqDiff, Nat.reduceLT, Int.reduceToNat, Int.reduceBEq, Int.reduceBNe, Nat.reduceAdd, Nat.reduceMul, Nat.reduceLeDiff, Int.reduceLT, Int.reduceSub, Int.reduceAdd]
    | ((first | refine atC ?_ ?_ | refine atG ?_ ?_ | refine atH ?_ ?_ | refine atP ?_ ?_) <;> intro hc <;> (try rw [hc]) <;> (try simp only [BD] at hc) <;> try (exfalso; omega))
    | ((first
      | (refine Runs.call (r_Number f hr) ?_; rintro _ H1 ⟨rfl, k1, f1⟩)
      | (refine Runs.call (r_failP f1 _) ?_; rintro _ H2 ⟨k2, hf⟩; have k3 := k1.trans k2)
      | fail); all_goals ((try (have gn := gr.1; try simp only [nx_alloc, nx_set] at gn)); (try (have an := ha.num; try simp only [nx_alloc, nx_set, own_sl, own_nil] at an)); (try (have on := hO.num; try simp only [nx_alloc, nx_set] at on)); (try (have kn := hk.1; try simp only [nx_alloc, nx_set] at kn)); try have hB := hO.at)))
  all_goals try (first
    | (refine hK _ _ ?_; (rw [rdT_1 hr]; rcases hf with ⟨q1, q2, f2⟩ | ⟨q1, f2⟩; (rw [if_pos q2]; exact ⟨rfl, k3, f2⟩); rw [if_neg qo]; exact ⟨rfl, k3, f2⟩); done)
    | fail)
theorem t44 : tab 44 = some ⟨9, [.tmp 2], b44⟩ := rfl
theorem r_Error {lo : Nat} {h : Heap} {p : Nat} {s : List Int × Int} (f : Rdr lo h p s) : Runs (xcall X1 tab (.fn 44) [.ptr p 0] h) fun v h' => v = .int .i64 s.2 ∧ h = h' := by
  refine Runs.intro fun K hK => ?_
  have f0 := f
  obtain ⟨b, hg, hb, hne, hy, hl⟩ := f
  have hfl := BytesAt.flat' hb
  have hcl := cells_of hfl
  have hp := Heap.lt_of_get hg
  rw [w_fn rfl t44 (Nat.le_of_ble_eq_true rfl)]
  delta b44
  repeat' (first
    | simp (disch := first | exact qd | fail) only [WB, ↓WP, ↓WL, WR, WC, if_true, if_false, ite_true, ite_false, aop, ev, evs, readsA, List.replicate, numF, unA, resA, tupA, loadA, storeA, splice, fillA, kindsOk, plainEq, ↓reduceIte, Nat.reduceEqDiff, Nat.reduceLT, Int.reduceToNat, Int.reduceBEq, Int.reduceBNe, Nat.reduceAdd, Nat.reduceMul, Nat.reduceLeDiff, Int.reduceLT, Int.reduceSub, Int.reduceAdd, hg, hfl, hcl]
    | ((first | refine atC ?_ ?_ | refine atG ?_ ?_ | refine atH ?_ ?_ | refine atP ?_ ?_) <;> intro hc <;> (try rw [hc]) <;> (try simp only [BD] at hc) <;> try (exfalso; omega))
    | ((first
      | (refine Runs.call (r_none f0) ?_; rintro _ _ ⟨rfl, rfl⟩)
      | fail); all_goals ((try (have gn := gr.1; try simp only [nx_alloc, nx_set] at gn)); (try (have an := ha.num; try simp only [nx_alloc, nx_set, own_sl, own_nil] at an)); (try (have on := hO.num; try simp only [nx_alloc, nx_set] at on)); (try (have kn := hk.1; try simp only [nx_alloc, nx_set] at kn)); try have hB := hO.at)))
  all_goals try (first
    | (refine hK _ _ ?_; exact ⟨rfl, rfl⟩; done)
    | fail)
theorem t45 : tab 45 = some ⟨15, [.tmp 2], b45⟩ := rfl
theorem r_End {lo : Nat} {h : Heap} {p : Nat} {s : List Int × Int} (f : Rdr lo h p s) : Runs (xcall X1 tab (.fn 45) [.ptr p 0] h) fun v h' => v = .int .i64 (endE s) ∧ h = h' := by
  refine Runs.intro fun K hK => ?_
  have f0 := f
  obtain ⟨b, hg, hb, hne, hy, hl⟩ := f
  have hfl := BytesAt.flat' hb
  have hcl := cells_of hfl
  have hp := Heap.lt_of_get hg
  rw [w_fn rfl t45 (Nat.le_of_ble_eq_true rfl)]
  delta b45
  repeat' (first
    | simp (disch := first | exact qd | fail) only [WB, ↓WP, ↓WL, WR, WC, if_true, if_false, ite_true, ite_false, aop, ev, evs, readsA, List.replicate, numF, unA, resA, tupA, loadA, storeA, splice, fillA, kindsOk, plainEq, ↓reduceIte, Nat.reduceEqDiff, Nat.reduceLT, Int.reduceToNat, Int.reduceBEq, Int.reduceBNe, Nat.reduceAdd, Nat.reduceMul, Nat.reduceLeDiff, Int.reduceLT, Int.reduceSub, Int.reduceAdd, hg, hfl, hcl]
    | ((first | refine atC ?_ ?_ | refine atG ?_ ?_ | refine atH ?_ ?_ | refine atP ?_ ?_) <;> intro hc <;> (try rw [hc]) <;> (try simp only [BD] at hc) <;> try (exfalso; omega))
    | ((first
      | (refine Runs.call (r_fine f0) ?_; rintro _ _ ⟨rfl, rfl⟩)
      | (refine Runs.call (r_Error f0) ?_; rintro _ _ ⟨rfl, rfl⟩)
      | fail); all_goals ((try (have gn := gr.1; try simp only [nx_alloc, nx_set] at gn)); (try (have an := ha.num; try simp only [nx_alloc, nx_set, own_sl, own_nil] at an)); (try (have on := hO.num; try simp only [nx_alloc, nx_set] at on)); (try (have kn := hk.1; try simp only [nx_alloc, nx_set] at kn)); try have hB := hO.at)))
  all_goals try (first
    | (refine hK _ _ ?_; (refine ⟨?_, rfl⟩; unfold endE; (first | (rw [if_pos ⟨by assumption, by omega⟩]; done) | (rw [if_neg qo]; done) | fail)); done)
    | fail)
theorem t38 : tab 38 = some ⟨7, [.tmp 2], b38⟩ := rfl
theorem r_New {h : Heap} {v : AV} {bs : List Int} (hv : BytesAt h v bs) (hy : Bytes bs) (hl : bs.length ≤ 1000000000) : Runs (xcall X1 tab (.fn 38) [v] h) fun v h' => Grow h h' ∧ ∃ p, v = .ptr p 0 ∧ h.next ≤ p ∧ p < h'.next ∧ Rdr h.next h' p (bs, 0) := by
  refine Runs.intro fun K hK => ?_
  rw [w_fn rfl t38 (Nat.le_of_ble_eq_true rfl)]
  delta b38
  repeat' (first
    | simp (disch := first | exact qd | fail) only [WB, ↓WP, ↓WL, WR, WC, if_true, if_false, ite_true, ite_false, aop, ev, evs, readsA, List.replicate, numF, unA, resA, tupA, loadA, storeA, splice, fillA, kindsOk, plainEq, ↓reduceIte, Nat.reduceEqDiff, Nat.reduceLT, Int.reduceToNat, Int.reduceBEq, Int.reduceBNe, Nat.reduceAdd, Nat.reduceMul, Nat.reduceLeDiff, Int.reduceLT, Int.reduceSub, Int.reduceAdd]
    | ((first | refine atC ?_ ?_ | refine atG ?_ ?_ | refine atH ?_ ?_ | refine atP ?_ ?_) <;> intro hc <;> (try rw [hc]) <;> (try simp only [BD] at hc) <;> try (exfalso; omega))
    | ((first
      | (refine Runs.call (sl_Clone hv qo) ?_; rintro v1 H1 ⟨gr, hN⟩; have hb1 := (NewBytes.own hN (Nat.le_refl _)).at; have hf1 := BytesAt.flat' hb1; have hc1 := cells_of hf1; have ho1 := BytesAt.own_le hb1; have hon := (NewBytes.own hN (Nat.le_refl _)).num)
      | fail); all_goals ((try (have gn := gr.1; try simp only [nx_alloc, nx_set] at gn)); (try (have an := ha.num; try simp only [nx_alloc, nx_set, own_sl, own_nil] at an)); (try (have on := hO.num; try simp only [nx_alloc, nx_set] at on)); (try (have kn := hk.1; try simp only [nx_alloc, nx_set] at kn)); try have hB := hO.at)))
  all_goals try (first
    | (refine hK _ _ ?_; exact ⟨qg, H1.next, rfl, by omega, by simp, v1, ga_new rfl, hb1.grow (Grow.alloc _ _), by omega, hy, hl⟩; done)
    | fail)
theorem t43 : tab 43 = some ⟨73, [.tmp 4], b43⟩ := rfl
theorem r_Bytes {lo : Nat} {h : Heap} {p : Nat} {s : List Int × Int} (f : Rdr lo h p s) {most n : Nat} {l : List Int} {e : Int} (hr : rdN 4 s = ((n : Int), (l, e))) (hm : most ≤ 1000000000) : Runs (xcall X1 tab (.fn 43) [.ptr p 0, .int .i64 (most : Nat)] h) fun v h' => NewBytes h h' v (rdB most s).1 ∧ Pok p h h' ∧ Rdr lo h' p (rdB most s).2 := by
  refine Runs.intro fun K hK => ?_
  have hn4 : n ≤ 4294967295 := by
    obtain ⟨_, _, _, _, hy, _⟩ := f
    have hq : (256 : Int) ^ 4 = 4294967296 := by decide
    have hn := rdN_lt (k := 4) hy
    rw [hr, hq] at hn
    simp only at hn
    omega
  have hpn := padN_le n
  rw [w_fn rfl t43 (Nat.le_of_ble_eq_true rfl)]
  delta b43
  repeat' (first
    | simp (disch := first | exact qd | fail) only [WB, ↓WP, ↓WL, WR, WC, if_true, if_false, ite_true, ite_false, aop, ev, evs, readsA, List.replicate, numF, unA, resA, tupA, loadA, storeA, splice, fillA, kindsOk, plainEq, ↓reduceIte, Nat.reduceEqDiff, Nat.reduceLT, Int.reduceToNat, Int.reduceBEq, Int.reduceBNe, Nat.reduceAdd, Nat.reduceMul, Nat.reduceLeDiff, Int.reduceLT, Int.reduceSub, Int.reduceAdd, max0]
    | ((first | refine atC ?_ ?_ | refine atG ?_ ?_ | refine atH ?_ ?_ | refine atP ?_ ?_) <;> intro hc <;> (try rw [hc]) <;> (try simp only [BD] at hc) <;> try (exfalso; omega))
    | ((first
      | (refine Runs.call (r_Number f hr) ?_; rintro _ H1 ⟨rfl, k1, f1⟩)
      | (refine Runs.call (r_failP f1 3) ?_; rintro _ H2 ⟨k2, hf⟩; have kA := k1.trans k2; clear f; rcases hf with ⟨q1, q2, f2⟩ | ⟨q1, f2⟩; rotate_left; (obtain ⟨b2, hg2, hb2, hne2, hy2, hl2⟩ := Rdr.opn f2; have hfl2 := BytesAt.flat' hb2; have hcl2 := cells_of hfl2); rotate_left)
      | (refine Runs.call (r_fineP f2) ?_; rintro _ _ ⟨rfl, rfl⟩)
      | (refine Runs.call (num_Pad (n := n) qo _) ?_; rintro _ _ ⟨rfl, rfl⟩)
      | (refine Runs.call (r_failP f2 4) ?_; rintro _ H3 ⟨k3, hf⟩; have kB := kA.trans k3; rcases hf with ⟨q3, q4, f3⟩ | ⟨q3, f3⟩; rotate_left; (obtain ⟨b3, hg3, hb3, hne3, hy3, hl3⟩ := Rdr.opn f3; have hfl3 := BytesAt.flat' hb3; have hcl3 := cells_of hfl3); rotate_left)
      | (refine Runs.call (r_fineP f3) ?_; rintro _ _ ⟨rfl, rfl⟩)
      | (refine Runs.call (num_Zero hb3 (a := n) (n := padN n) qo qo) ?_; rintro _ _ ⟨⟨ez, rfl, hz⟩, rfl⟩; rcases hz with ⟨z1, rfl⟩ | ⟨z1, rfl⟩)
      | (refine Runs.call (r_failT f3 5 (by assumption)) ?_; rintro _ H4 ⟨k4, f4⟩; have kC := kB.trans k4)
      | (refine Runs.call (r_failF f3 5) ?_; rintro _ H4 ⟨k4, f4⟩; have kC := kB.trans k4; obtain ⟨b4, hg4, hb4, hne4, hy4, hl4⟩ := Rdr.opn f4; have hfl4 := BytesAt.flat' hb4; have hcl4 := cells_of hfl4)
      | (refine Runs.call (r_fineP f4) ?_; rintro _ _ ⟨rfl, rfl⟩)
      | (refine Runs.call (BytesAt.cutO hb4 (a := 0) (b := n) (Grow.refl _) (.inr ⟨rfl, rfl⟩) (.inl rfl) qo qo) ?_; rintro v5 _ ⟨rfl, hb5, ho5, hf5⟩; rw [List.drop_zero] at hb5; have hc5 := cells_of hf5)
      | (refine Runs.call (sl_Clone hb5 (by rw [List.length_take]; omega)) ?_; rintro v6 H5 ⟨gr, hN⟩; have hg5 := gr.get hg4; have hb6 := hb4.grow gr; have kD := kC.trans (Pok.of gr); have hbn := (NewBytes.own hN (Nat.le_refl _)).at; have hf6 := BytesAt.flat' hbn; have hc6 := cells_of hf6)
      | (refine Runs.call (BytesAt.cutO hb6 (a := n + padN n) (b := l.length) (Grow.refl _) (.inl (by simp)) (.inr ⟨rfl, rfl⟩) qo qo) ?_; rintro v7 _ ⟨rfl, hb7, ho7, hf7⟩; rw [List.take_length] at hb7; have hc7 := cells_of hf7)
      | fail); all_goals ((try (have gn := gr.1; try simp only [nx_alloc, nx_set] at gn)); (try (have an := ha.num; try simp only [nx_alloc, nx_set, own_sl, own_nil] at an)); (try (have on := hO.num; try simp only [nx_alloc, nx_set] at on)); (try (have kn := hk.1; try simp only [nx_alloc, nx_set] at kn)); try have hB := hO.at)))
  all_goals try (first
    | (refine hK _ _ ?_; (rw [rdB_n hr]; (first | (rw [if_pos (by assumption)]; exact ⟨.inl ⟨rfl, rfl⟩, kA, f2⟩) | (rw [if_neg qo, if_pos qo]; exact ⟨.inl ⟨rfl, rfl⟩, kA, f2⟩) | (rw [if_neg qo, if_neg qo, if_pos qo]; exact ⟨.inl ⟨rfl, rfl⟩, kB, f3⟩) | (rw [if_neg qo, if_neg qo, if_neg qo, if_pos z1]; exact ⟨.inl ⟨rfl, rfl⟩, kC, f4⟩) | (have hpp := Heap.lt_of_get hg4; have hq5 := Heap.lt_of_get hg5; rw [if_neg qo, if_neg qo, if_neg qo, if_neg (by rw [z1]; decide)]; obtain rfl : e = 0 := (by assumption); refine ⟨NewBytes.pokF hN hpp (Pok.set hq5) kC.1, Pok.setR kD (.inl rfl), v7, qs, BytesAt.pok hb7 (Pok.set hq5) ?_, ?_, hy4.drop _, by rw [List.length_drop]; omega⟩ <;> (have := BytesAt.own_le hb4; omega)) | fail)); done)
    | fail)
end Go.Proofs.YtpoccinfeekdhaaDoor.Ya
