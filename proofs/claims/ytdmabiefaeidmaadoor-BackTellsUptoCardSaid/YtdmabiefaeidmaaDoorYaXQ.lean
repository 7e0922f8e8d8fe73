/-
  The document's reader.
-/
import Derived.Test.YtdmabiefaeidmaaDoorYaXD
import Derived.Test.YtdmabiefaeidmaaDoorYbL
import Derived.Test.YtdmabiefaeidmaaDoorYaLStd
namespace Go.Proofs.YtdmabiefaeidmaaDoor.Ya
open Go.Ya
set_option linter.unusedVariables false
set_option linter.unusedSimpArgs false
set_option maxRecDepth 100000
set_option maxHeartbeats 8000000
def Qdr (H : Heap) (p : Nat) (s : List Int × Int) : Prop := ∃ v all a, H.get p = some (.cells [v, .int .i64 (a : Nat), .int .i64 s.2] false) ∧ BytesAt H v all ∧ own v ≤ p ∧ Bytes all ∧ a ≤ all.length ∧ all.length ≤ 1000000000 ∧ s.1 = all.drop a
theorem Qdr.opn {H : Heap} {p : Nat} {l : List Int} {e : Int} (f : Qdr H p (l, e)) : ∃ v all a, H.get p = some (.cells [v, .int .i64 (a : Nat), .int .i64 e] false) ∧ BytesAt H v all ∧ own v ≤ p ∧ Bytes all ∧ a ≤ all.length ∧ all.length ≤ 1000000000 ∧ l = all.drop a := f
theorem Qdr.mk {H : Heap} {p : Nat} {v : AV} {all : List Int} {a : Nat} {e : Int} (h1 : H.get p = some (.cells [v, .int .i64 (a : Nat), .int .i64 e] false)) (h2 : BytesAt H v all) (h3 : own v ≤ p) (h4 : Bytes all) (h5 : a ≤ all.length) (h6 : all.length ≤ 1000000000) {l : List Int} (h7 : l = all.drop a) : Qdr H p (l, e) := ⟨v, all, a, h1, h2, h3, h4, h5, h6, h7⟩
theorem Qdr.grow {H H' : Heap} {p : Nat} {s : List Int × Int} (f : Qdr H p s) (g : Grow H H') : Qdr H' p s := by
  obtain ⟨v, all, a, h1, h2, h3⟩ := f
  exact ⟨v, all, a, g.get h1, h2.grow g, h3⟩
theorem Qdr.pok {H H' : Heap} {p q : Nat} {s : List Int × Int} (f : Qdr H p s) (k : Pok q H H') (hq : p < q) : Qdr H' p s := by
  obtain ⟨v, all, a, h1, h2, h3, h4⟩ := f
  exact ⟨v, all, a, (k.2 p (Heap.lt_of_get h1) qo).trans h1, BytesAt.pok h2 k qo, h3, h4⟩
theorem Qdr.lt {H : Heap} {p : Nat} {s : List Int × Int} (f : Qdr H p s) : p < H.next := by
  obtain ⟨v, all, a, h1, _⟩ := f
  exact Heap.lt_of_get h1
theorem drop_len {all : List Int} {a : Nat} : (all.drop a).length = all.length - a := List.length_drop
theorem take_drop' {all : List Int} {a n : Nat} : (all.take (a + n)).drop a = (all.drop a).take n := by rw [List.drop_take, Nat.add_sub_cancel_left]
theorem nat_add3 {a n k : Nat} : ((a : Int) + (n : Int)) + (k : Int) = ((a + n + k : Nat) : Int) := by omega
def b61 : SC := (.seq (.ops [⟨some 4, .mov (.c (.int (.u64) 0)), none⟩]) (.seq (.seq (.ops [⟨some 7, .mov (.t 0), none⟩, ⟨some 8, .nilChk (.t 7), none⟩, ⟨some 9, .fieldAddr 2 (.t 8), none⟩, ⟨some 10, .load false 1 (.t 9), none⟩, ⟨some 11, .bin (.neq) (.other) (.t 10) (.c (.int (.i64) 0)), none⟩]) (.cond (.t 11) (.seq (.ops [⟨some 4, .mov (.c (.int (.u64) 0)), none⟩]) .ret) .skip)) (.seq (.ops [⟨some 13, .mov (.t 0), none⟩, ⟨some 14, .nilChk (.t 13), none⟩, ⟨some 15, .fieldAddr 0 (.t 14), none⟩, ⟨some 16, .load false 1 (.t 15), none⟩, ⟨some 17, .mov (.t 0), none⟩, ⟨some 18, .nilChk (.t 17), none⟩, ⟨some 19, .fieldAddr 1 (.t 18), none⟩, ⟨some 20, .load false 1 (.t 19), none⟩, ⟨some 21, .mov (.t 1), none⟩, ⟨some 22, .call 71 [.t 16, .t 20, .t 21], none⟩, ⟨some 12, .mov (.t 22), none⟩, ⟨some 23, .extract (.t 12) 0, none⟩, ⟨some 24, .extract (.t 12) 1, none⟩, ⟨some 5, .mov (.t 23), none⟩, ⟨some 6, .mov (.t 24), none⟩]) (.seq (.seq (.ops [⟨some 25, .mov (.t 6), none⟩, ⟨some 26, .bin (.neq) (.other) (.t 25) (.c (.int (.i64) 0)), none⟩]) (.cond (.t 26) (.seq (.ops [⟨some 27, .mov (.t 0), none⟩, ⟨some 28, .nilChk (.t 27), none⟩, ⟨some 29, .fieldAddr 2 (.t 28), none⟩, ⟨none, .store 1 (.t 29) (.c (.int (.i64) 4)), none⟩]) (.seq (.ops [⟨some 4, .mov (.c (.int (.u64) 0)), none⟩]) .ret)) .skip)) (.seq (.ops [⟨some 30, .mov (.t 0), none⟩, ⟨some 31, .mov (.t 0), none⟩, ⟨some 32, .nilChk (.t 31), none⟩, ⟨some 33, .fieldAddr 1 (.t 32), none⟩, ⟨some 34, .load false 1 (.t 33), none⟩, ⟨some 35, .mov (.t 1), none⟩, ⟨some 36, .bin (.add) (.other) (.t 34) (.t 35), none⟩, ⟨some 37, .nilChk (.t 30), none⟩, ⟨some 38, .fieldAddr 1 (.t 37), none⟩, ⟨none, .store 1 (.t 38) (.t 36), none⟩]) (.seq (.ops [⟨some 39, .mov (.t 5), none⟩, ⟨some 4, .mov (.t 39), none⟩]) .ret))))))
theorem t61 : tab 61 = some ⟨40, [.tmp 4], b61⟩ := rfl
theorem q_number {h : Heap} {p : Nat} {s : List Int × Int} (f : Qdr h p s) {k : Nat} (hk : Sz k) : Runs (xcall X1 tab (.fn 61) [.ptr p 0, .int .i64 (k : Nat)] h) fun v h' => v = .int .u64 (rdN k s).1 ∧ Pok p h h' ∧ Qdr h' p (rdN k s).2 := by
  refine Runs.intro fun K hK => ?_
  have f0 := f
  obtain ⟨b, all, a, hg, hb, hne, hy, ha, hl, hs⟩ := f
  have hfl := BytesAt.flat' hb
  have hcl := cells_of hfl
  have hp := Heap.lt_of_get hg
  have hdl := drop_len (all := all) (a := a)
  have k0 := Pok.refl p h
  have hkl := hk.le
  have k1 : ∀ ob, Pok p h (h.set p ob) := fun ob => Pok.set hp
  have hb1 : ∀ ob, BytesAt (h.set p ob) b all := fun ob => BytesAt.pok hb (k1 ob) hne
  rw [w_fn rfl t61 (Nat.le_of_ble_eq_true rfl)]
  delta b61
  repeat' (first
    | simp (disch := first | exact qd | fail) only [WB, ↓WP, ↓WL, WR, WC, if_true, if_false, ite_true, ite_false, aop, ev, evs, readsA, List.replicate, numF, unA, resA, tupA, loadA, storeA, splice, fillA, kindsOk, plainEq, ↓reduceIte, Nat.reduceEqDiff, Nat.reduceLT, Int.reduceToNat, Int.reduceBEq, Int.reduceBNe, Nat.reduceAdd, Nat.reduceMul, Nat.reduceLeDiff, Int.reduceLT, Int.reduceSub, Int.reduceAdd, hg, hfl, hcl, nat_add]
    | ((first | refine atC ?_ ?_ | refine atG ?_ ?_ | refine atH ?_ ?_ | refine atP ?_ ?_) <;> intro hc <;> (try rw [hc]) <;> (try simp only [BD] at hc) <;> try (exfalso; omega))
    | ((first
      | (refine Runs.call (ref01_Get hb hy hk ha hl) ?_; rintro _ _ ⟨⟨n, e, rfl, he⟩, rfl⟩)
      | fail); all_goals ((try (have gn := gr.1; try simp only [nx_alloc, nx_set] at gn)); (try (have an := ha.num; try simp only [nx_alloc, nx_set, own_sl, own_nil] at an)); (try (have on := hO.num; try simp only [nx_alloc, nx_set] at on)); (try (have kn := hk.1; try simp only [nx_alloc, nx_set] at kn)); try have hB := hO.at)))
  all_goals try (first
    | (refine hK _ _ ?_; (first | (rw [rdN_bad (by assumption)]; exact ⟨rfl, k0, f0⟩) | (rcases he with ⟨h1, rfl, rfl⟩ | ⟨h1, rfl, rfl⟩; (rw [rdN_short qo (by rw [hs]; exact h1)]; exact ⟨rfl, k1 _, Qdr.mk qs (hb1 _) hne hy ha hl hs⟩); exfalso; omega) | (rcases he with ⟨h1, rfl, rfl⟩ | ⟨h1, rfl, rfl⟩; (exfalso; omega); rw [rdN_ok qo (by rw [hs]; exact h1)]; exact ⟨by rw [hs], k1 _, Qdr.mk (a := a + k) qs (hb1 _) hne hy qo hl (by rw [hs, List.drop_drop])⟩) | fail); done)
    | fail)
def b40 : SC := (.seq (.ops [⟨some 2, .mov (.c (.int (.u32) 0)), none⟩]) (.seq (.ops [⟨some 3, .mov (.t 0), none⟩, ⟨some 4, .call 61 [.t 3, .c (.int (.i64) 4)], none⟩, ⟨some 5, .convInt (.u32) (.t 4), none⟩, ⟨some 2, .mov (.t 5), none⟩]) .ret))
theorem t40 : tab 40 = some ⟨6, [.tmp 2], b40⟩ := rfl
theorem q_Number {h : Heap} {p : Nat} {s : List Int × Int} (f : Qdr h p s) {n : Nat} {s1 : List Int × Int} (hr : rdN 4 s = ((n : Int), s1)) : Runs (xcall X1 tab (.fn 40) [.ptr p 0] h) fun v h' => v = .int .u32 (n : Nat) ∧ Pok p h h' ∧ Qdr h' p s1 := by
  refine Runs.intro fun K hK => ?_
  have hn4 : n ≤ 4294967295 := by
    obtain ⟨_, all, a, _, _, _, hy, _, _, hs⟩ := f
    have hq : (256 : Int) ^ 4 = 4294967296 := by decide
    have hn := rdN_lt (k := 4) (s := s) (by rw [hs]; exact hy.drop a)
    rw [hr, hq] at hn
    simp only at hn
    omega
  rw [w_fn rfl t40 (Nat.le_of_ble_eq_true rfl)]
  delta b40
  repeat' (first
    | simp (disch := first | exact qd | fail) only [WB, ↓WP, ↓WL, WR, WC, if_true, if_false, ite_true, ite_false, aop, ev, evs, readsA, List.replicate, numF, unA, resA, tupA, loadA, storeA, splice, fillA, kindsOk, plainEq, ↓reduceIte, Nat.reduceEqDiff, Nat.reduceLT, Int.reduceToNat, Int.reduceBEq, Int.reduceBNe, Nat.reduceAdd, Nat.reduceMul, Nat.reduceLeDiff, Int.reduceLT, Int.reduceSub, Int.reduceAdd, hr]
    | ((first | refine atC ?_ ?_ | refine atG ?_ ?_ | refine atH ?_ ?_ | refine atP ?_ ?_) <;> intro hc <;> (try rw [hc]) <;> (try simp only [BD] at hc) <;> try (exfalso; omega))
    | ((first
      | (refine Runs.call (q_number (k := 4) f sz4) ?_; rintro _ H1 ⟨rfl, k1, f1⟩; rw [hr] at f1)
      | fail); all_goals ((try (have gn := gr.1; try simp only [nx_alloc, nx_set] at gn)); (try (have an := ha.num; try simp only [nx_alloc, nx_set, own_sl, own_nil] at an)); (try (have on := hO.num; try simp only [nx_alloc, nx_set] at on)); (try (have kn := hk.1; try simp only [nx_alloc, nx_set] at kn)); try have hB := hO.at)))
  all_goals try (first
    | (refine hK _ _ ?_; exact ⟨rfl, k1, f1⟩; done)
    | fail)
def b41 : SC := (.seq (.ops [⟨some 2, .mov (.c (.int (.u64) 0)), none⟩]) (.seq (.ops [⟨some 3, .mov (.t 0), none⟩, ⟨some 4, .call 61 [.t 3, .c (.int (.i64) 8)], none⟩, ⟨some 2, .mov (.t 4), none⟩]) .ret))
theorem t41 : tab 41 = some ⟨5, [.tmp 2], b41⟩ := rfl
theorem q_Great {h : Heap} {p : Nat} {s : List Int × Int} (f : Qdr h p s) {n : Nat} {s1 : List Int × Int} (hr : rdN 8 s = ((n : Int), s1)) : Runs (xcall X1 tab (.fn 41) [.ptr p 0] h) fun v h' => v = .int .u64 (n : Nat) ∧ Pok p h h' ∧ Qdr h' p s1 := by
  refine Runs.intro fun K hK => ?_
  rw [w_fn rfl t41 (Nat.le_of_ble_eq_true rfl)]
  delta b41
  repeat' (first
    | simp (disch := first | exact qd | fail) only [WB, ↓WP, ↓WL, WR, WC, if_true, if_false, ite_true, ite_false, aop, ev, evs, readsA, List.replicate, numF, unA, resA, tupA, loadA, storeA, splice, fillA, kindsOk, plainEq, ↓reduceIte, Nat.reduceEqDiff, Nat.reduceLT, Int.reduceToNat, Int.reduceBEq, Int.reduceBNe, Nat.reduceAdd, Nat.reduceMul, Nat.reduceLeDiff, Int.reduceLT, Int.reduceSub, Int.reduceAdd, hr]
    | ((first | refine atC ?_ ?_ | refine atG ?_ ?_ | refine atH ?_ ?_ | refine atP ?_ ?_) <;> intro hc <;> (try rw [hc]) <;> (try simp only [BD] at hc) <;> try (exfalso; omega))
    | ((first
      | (refine Runs.call (q_number (k := 8) f sz8) ?_; rintro _ H1 ⟨rfl, k1, f1⟩; rw [hr] at f1)
      | fail); all_goals ((try (have gn := gr.1; try simp only [nx_alloc, nx_set] at gn)); (try (have an := ha.num; try simp only [nx_alloc, nx_set, own_sl, own_nil] at an)); (try (have on := hO.num; try simp only [nx_alloc, nx_set] at on)); (try (have kn := hk.1; try simp only [nx_alloc, nx_set] at kn)); try have hB := hO.at)))
  all_goals try (first
    | (refine hK _ _ ?_; exact ⟨rfl, k1, f1⟩; done)
    | fail)
def b42 : SC := (.seq (.ops [⟨some 2, .mov (.c (.bool false)), none⟩]) (.seq (.ops [⟨some 4, .mov (.t 0), none⟩, ⟨some 5, .call 61 [.t 4, .c (.int (.i64) 4)], none⟩, ⟨some 3, .mov (.t 5), none⟩]) (.seq (.seq (.ops [⟨some 6, .mov (.t 3), none⟩, ⟨some 7, .bin (.gtr) (.other) (.t 6) (.c (.int (.u64) 1)), none⟩]) (.cond (.t 7) (.ops [⟨some 8, .mov (.t 0), none⟩, ⟨some 9, .nilChk (.t 8), none⟩, ⟨some 10, .fieldAddr 2 (.t 9), none⟩, ⟨none, .store 1 (.t 10) (.c (.int (.i64) 5)), none⟩]) .skip)) (.seq (.ops [⟨some 11, .mov (.t 3), none⟩, ⟨some 12, .bin (.eql) (.other) (.t 11) (.c (.int (.u64) 1)), none⟩, ⟨some 2, .mov (.t 12), none⟩]) .ret))))
theorem t42 : tab 42 = some ⟨13, [.tmp 2], b42⟩ := rfl
theorem q_Truth {h : Heap} {p : Nat} {s : List Int × Int} (f : Qdr h p s) {n : Nat} {l : List Int} {e : Int} (hr : rdN 4 s = ((n : Int), (l, e))) : Runs (xcall X1 tab (.fn 42) [.ptr p 0] h) fun v h' => v = .bool (rdT s).1 ∧ Pok p h h' ∧ Qdr h' p (rdT s).2 := by
  refine Runs.intro fun K hK => ?_
  have hn4 : n ≤ 4294967295 := by
    obtain ⟨_, all, a, _, _, _, hy, _, _, hs⟩ := f
    have hq : (256 : Int) ^ 4 = 4294967296 := by decide
    have hn := rdN_lt (k := 4) (s := s) (by rw [hs]; exact hy.drop a)
    rw [hr, hq] at hn
    simp only at hn
    omega
  rw [w_fn rfl t42 (Nat.le_of_ble_eq_true rfl)]
  delta b42
  repeat' (first
    | simp (disch := first | exact qd | fail) only [WB, ↓WP, ↓WL, WR, WC, if_true, if_false, ite_true, ite_false, aop, ev, evs, readsA, List.replicate, numF, unA, resA, tupA, loadA, storeA, splice, fillA, kindsOk, plainEq, ↓reduceIte, Nat.reduceEqDiff, Nat.reduceLT, Int.reduceToNat, Int.reduceBEq, Int.reduceBNe, Nat.reduceAdd, Nat.reduceMul, Nat.reduceLeDiff, Int.reduceLT, Int.reduceSub, Int.reduceAdd, hr]
    | ((first | refine atC ?_ ?_ | refine atG ?_ ?_ | refine atH ?_ ?_ | refine atP ?_ ?_) <;> intro hc <;> (try rw [hc]) <;> (try simp only [BD] at hc) <;> try (exfalso; omega))
    | ((first
      | (refine Runs.call (q_number (k := 4) f sz4) ?_; rintro _ H1 ⟨rfl, k1, f1⟩; rw [hr] at f1; clear f; obtain ⟨b1, all1, a1, hg1, hb1, hne1, hy1, ha1, hl1, hs1⟩ := Qdr.opn f1; have hfl1 := BytesAt.flat' hb1; have hcl1 := cells_of hfl1; have hp1 := Heap.lt_of_get hg1; have hdl1 := drop_len (all := all1) (a := a1))
      | fail); all_goals ((try (have gn := gr.1; try simp only [nx_alloc, nx_set] at gn)); (try (have an := ha.num; try simp only [nx_alloc, nx_set, own_sl, own_nil] at an)); (try (have on := hO.num; try simp only [nx_alloc, nx_set] at on)); (try (have kn := hk.1; try simp only [nx_alloc, nx_set] at kn)); try have hB := hO.at)))
  all_goals try (first
    | (refine hK _ _ ?_; (rw [rdT_1 hr]; (first | (rw [if_pos qo]; exact ⟨(show AV.bool false = AV.bool (decide ((n : Int) = 1)) by rw [decide_eq_false qo]), Pok.setR k1 (.inl rfl), Qdr.mk qs (BytesAt.pok hb1 (Pok.set hp1) hne1) hne1 hy1 ha1 hl1 hs1⟩) | (rw [if_neg qo]; exact ⟨rfl, k1, f1⟩) | fail)); done)
    | fail)
def b43 : SC := (.seq (.ops [⟨some 4, .mov (.c (.nilsl)), none⟩]) (.seq (.ops [⟨some 9, .mov (.t 0), none⟩, ⟨some 10, .call 61 [.t 9, .c (.int (.i64) 4)], none⟩, ⟨some 5, .mov (.t 10), none⟩]) (.seq (.seq (.ops [⟨some 11, .mov (.t 0), none⟩, ⟨some 12, .nilChk (.t 11), none⟩, ⟨some 13, .fieldAddr 2 (.t 12), none⟩, ⟨some 14, .load false 1 (.t 13), none⟩, ⟨some 15, .bin (.neq) (.other) (.t 14) (.c (.int (.i64) 0)), none⟩]) (.cond (.t 15) (.seq (.ops [⟨some 4, .mov (.c (.nilsl)), none⟩]) .ret) .skip)) (.seq (.seq (.ops [⟨some 16, .mov (.t 1), none⟩, ⟨some 17, .bin (.lss) (.other) (.t 16) (.c (.int (.i64) 0)), none⟩]) (.cond (.t 17) (.ops [⟨some 1, .mov (.c (.int (.i64) 0)), none⟩]) .skip)) (.seq (.seq (.ops [⟨some 18, .mov (.t 5), none⟩, ⟨some 19, .mov (.t 1), none⟩, ⟨some 20, .convInt (.u64) (.t 19), none⟩, ⟨some 21, .bin (.gtr) (.other) (.t 18) (.t 20), none⟩]) (.cond (.t 21) (.seq (.ops [⟨some 22, .mov (.t 0), none⟩, ⟨some 23, .nilChk (.t 22), none⟩, ⟨some 24, .fieldAddr 2 (.t 23), none⟩, ⟨none, .store 1 (.t 24) (.c (.int (.i64) 3)), none⟩]) (.seq (.ops [⟨some 4, .mov (.c (.nilsl)), none⟩]) .ret)) .skip)) (.seq (.ops [⟨some 25, .mov (.t 5), none⟩, ⟨some 26, .convInt (.i64) (.t 25), none⟩, ⟨some 6, .mov (.t 26), none⟩]) (.seq (.ops [⟨some 27, .mov (.t 6), none⟩, ⟨some 28, .call 60 [.t 27], none⟩, ⟨some 7, .mov (.t 28), none⟩]) (.seq (.seq (.ops [⟨some 29, .mov (.t 0), none⟩, ⟨some 30, .nilChk (.t 29), none⟩, ⟨some 31, .fieldAddr 0 (.t 30), none⟩, ⟨some 32, .load false 1 (.t 31), none⟩, ⟨some 33, .len (.sl) (.t 32), none⟩, ⟨some 34, .mov (.t 0), none⟩, ⟨some 35, .nilChk (.t 34), none⟩, ⟨some 36, .fieldAddr 1 (.t 35), none⟩, ⟨some 37, .load false 1 (.t 36), none⟩, ⟨some 38, .bin (.sub) (.other) (.t 33) (.t 37), none⟩, ⟨some 39, .mov (.t 6), none⟩, ⟨some 40, .mov (.t 7), none⟩, ⟨some 41, .bin (.add) (.other) (.t 39) (.t 40), none⟩, ⟨some 42, .bin (.lss) (.other) (.t 38) (.t 41), none⟩]) (.cond (.t 42) (.seq (.ops [⟨some 43, .mov (.t 0), none⟩, ⟨some 44, .nilChk (.t 43), none⟩, ⟨some 45, .fieldAddr 2 (.t 44), none⟩, ⟨none, .store 1 (.t 45) (.c (.int (.i64) 4)), none⟩]) (.seq (.ops [⟨some 4, .mov (.c (.nilsl)), none⟩]) .ret)) .skip)) (.seq (.ops [⟨some 46, .mov (.t 0), none⟩, ⟨some 47, .mov (.t 0), none⟩, ⟨some 48, .nilChk (.t 47), none⟩, ⟨some 49, .fieldAddr 0 (.t 48), none⟩, ⟨some 50, .load false 1 (.t 49), none⟩, ⟨some 51, .mov (.t 0), none⟩, ⟨some 52, .nilChk (.t 51), none⟩, ⟨some 53, .fieldAddr 1 (.t 52), none⟩, ⟨some 54, .load false 1 (.t 53), none⟩, ⟨some 55, .mov (.t 6), none⟩, ⟨some 56, .bin (.add) (.other) (.t 54) (.t 55), none⟩, ⟨some 57, .mov (.t 7), none⟩, ⟨some 58, .call 62 [.t 50, .t 56, .t 57], none⟩, ⟨some 59, .nilChk (.t 46), none⟩, ⟨some 60, .fieldAddr 2 (.t 59), none⟩, ⟨none, .store 1 (.t 60) (.t 58), none⟩]) (.seq (.seq (.ops [⟨some 61, .mov (.t 0), none⟩, ⟨some 62, .nilChk (.t 61), none⟩, ⟨some 63, .fieldAddr 2 (.t 62), none⟩, ⟨some 64, .load false 1 (.t 63), none⟩, ⟨some 65, .bin (.neq) (.other) (.t 64) (.c (.int (.i64) 0)), none⟩]) (.cond (.t 65) (.seq (.ops [⟨some 4, .mov (.c (.nilsl)), none⟩]) .ret) .skip)) (.seq (.ops [⟨some 66, .mov (.t 0), none⟩, ⟨some 67, .nilChk (.t 66), none⟩, ⟨some 68, .fieldAddr 0 (.t 67), none⟩, ⟨some 69, .load false 1 (.t 68), none⟩, ⟨some 70, .mov (.t 0), none⟩, ⟨some 71, .nilChk (.t 70), none⟩, ⟨some 72, .fieldAddr 1 (.t 71), none⟩, ⟨some 73, .load false 1 (.t 72), none⟩, ⟨some 74, .mov (.t 0), none⟩, ⟨some 75, .nilChk (.t 74), none⟩, ⟨some 76, .fieldAddr 1 (.t 75), none⟩, ⟨some 77, .load false 1 (.t 76), none⟩, ⟨some 78, .mov (.t 6), none⟩, ⟨some 79, .bin (.add) (.other) (.t 77) (.t 78), none⟩, ⟨some 80, .slice 1 (.t 69) (some (.t 73)) (some (.t 79)) none, none⟩, ⟨some 81, .call 22 [.t 80], none⟩, ⟨some 8, .mov (.t 81), none⟩]) (.seq (.ops [⟨some 82, .mov (.t 0), none⟩, ⟨some 83, .mov (.t 0), none⟩, ⟨some 84, .nilChk (.t 83), none⟩, ⟨some 85, .fieldAddr 1 (.t 84), none⟩, ⟨some 86, .load false 1 (.t 85), none⟩, ⟨some 87, .mov (.t 6), none⟩, ⟨some 88, .bin (.add) (.other) (.t 86) (.t 87), none⟩, ⟨some 89, .mov (.t 7), none⟩, ⟨some 90, .bin (.add) (.other) (.t 88) (.t 89), none⟩, ⟨some 91, .nilChk (.t 82), none⟩, ⟨some 92, .fieldAddr 1 (.t 91), none⟩, ⟨none, .store 1 (.t 92) (.t 90), none⟩]) (.seq (.ops [⟨some 93, .mov (.t 8), none⟩, ⟨some 4, .mov (.t 93), none⟩]) .ret)))))))))))))
theorem t43 : tab 43 = some ⟨94, [.tmp 4], b43⟩ := rfl
theorem q_Bytes {h : Heap} {p : Nat} {s : List Int × Int} (f : Qdr h p s) {most n : Nat} {l : List Int} {e : Int} (hr : rdN 4 s = ((n : Int), (l, e))) (hm : most ≤ 1000000000) : Runs (xcall X1 tab (.fn 43) [.ptr p 0, .int .i64 (most : Nat)] h) fun v h' => NewBytes h h' v (rdB most s).1 ∧ Pok p h h' ∧ Qdr h' p (rdB most s).2 := by
  refine Runs.intro fun K hK => ?_
  have hn4 : n ≤ 4294967295 := by
    obtain ⟨_, all, a, _, _, _, hy, _, _, hs⟩ := f
    have hq : (256 : Int) ^ 4 = 4294967296 := by decide
    have hn := rdN_lt (k := 4) (s := s) (by rw [hs]; exact hy.drop a)
    rw [hr, hq] at hn
    simp only at hn
    omega
  have hpn := padN_le n
  rw [w_fn rfl t43 (Nat.le_of_ble_eq_true rfl)]
  delta b43
  repeat' (first
    | simp (disch := first | exact qd | fail) only [WB, ↓WP, ↓WL, WR, WC, if_true, if_false, ite_true, ite_false, aop, ev, evs, readsA, List.replicate, numF, unA, resA, tupA, loadA, storeA, splice, fillA, kindsOk, plainEq, ↓reduceIte, Nat.reduceEqDiff, Nat.reduceLT, Int.reduceToNat, Int.reduceBEq, Int.reduceBNe, Nat.reduceAdd, Nat.reduceMul, Nat.reduceLeDiff, Int.reduceLT, Int.reduceSub, Int.reduceAdd, hr, nat_add, nat_add3]
    | ((first | refine atC ?_ ?_ | refine atG ?_ ?_ | refine atH ?_ ?_ | refine atP ?_ ?_) <;> intro hc <;> (try rw [hc]) <;> (try simp only [BD] at hc) <;> try (exfalso; omega))
    | ((first
      | (refine Runs.call (q_number (k := 4) f sz4) ?_; rintro _ H1 ⟨rfl, k1, f1⟩; rw [hr] at f1; clear f; obtain ⟨b1, all1, a1, hg1, hb1, hne1, hy1, ha1, hl1, hs1⟩ := Qdr.opn f1; have hfl1 := BytesAt.flat' hb1; have hcl1 := cells_of hfl1; have hp1 := Heap.lt_of_get hg1; have hdl1 := drop_len (all := all1) (a := a1); have hll : l.length = all1.length - a1 := by rw [hs1, hdl1])
      | (refine Runs.call (ref01_Pad (n := n) qo _) ?_; rintro _ _ ⟨rfl, rfl⟩)
      | (refine Runs.call (ref01_Zero hb1 hy1 (a := a1 + n) (n := padN n) qo hl1) ?_; rintro _ _ ⟨⟨ez, rfl, hz⟩, rfl⟩; rw [← List.drop_drop, ← hs1] at hz; rcases hz with ⟨z1, rfl⟩ | ⟨z1, rfl⟩)
      | (refine Runs.call (BytesAt.cutO (BytesAt.pok hb1 (Pok.set hp1) hne1) (a := a1) (b := a1 + n) (Grow.refl _) (.inl rfl) (.inl rfl) qo qo) ?_; rintro v5 _ ⟨rfl, hb5, ho5, hf5⟩; rw [take_drop', ← hs1] at hb5; have hc5 := cells_of hf5)
      | (refine Runs.call (f0_Copy hb5 (by rw [List.length_take]; omega)) ?_; rintro v6 H5 ⟨gr, hN⟩; have hB5 := BytesAt.grow (BytesAt.pok hb1 (Pok.set hp1) hne1) gr; have k5 : Pok p h H5 := (Pok.setR k1 (.inl rfl)).trans (Pok.of gr); have hp5 : p < H5.next := Nat.lt_of_lt_of_le hp1 (by have := gr.1; simpa using this); have hbn := (FreshBytes.new hN).at; have hf6 := BytesAt.flat' hbn; have hc6 := cells_of hf6)
      | fail); all_goals ((try (have gn := gr.1; try simp only [nx_alloc, nx_set] at gn)); (try (have an := ha.num; try simp only [nx_alloc, nx_set, own_sl, own_nil] at an)); (try (have on := hO.num; try simp only [nx_alloc, nx_set] at on)); (try (have kn := hk.1; try simp only [nx_alloc, nx_set] at kn)); try have hB := hO.at)))
  all_goals try (first
    | (refine hK _ _ ?_; (rw [rdB_n hr]; (first | (rw [if_pos (by assumption)]; exact ⟨.inl ⟨rfl, rfl⟩, k1, f1⟩) | (rw [if_neg qo, if_pos qo]; exact ⟨.inl ⟨rfl, rfl⟩, Pok.setR k1 (.inl rfl), Qdr.mk qs (BytesAt.pok hb1 (Pok.set hp1) hne1) hne1 hy1 ha1 hl1 hs1⟩) | (rw [if_neg qo, if_neg qo, if_pos qo]; exact ⟨.inl ⟨rfl, rfl⟩, Pok.setR k1 (.inl rfl), Qdr.mk qs (BytesAt.pok hb1 (Pok.set hp1) hne1) hne1 hy1 ha1 hl1 hs1⟩) | (rw [if_neg qo, if_neg qo, if_neg qo, if_pos z1]; exact ⟨.inl ⟨rfl, rfl⟩, Pok.setR k1 (.inl rfl), Qdr.mk qs (BytesAt.pok hb1 (Pok.set hp1) hne1) hne1 hy1 ha1 hl1 hs1⟩) | (rw [if_neg qo, if_neg qo, if_neg qo, if_neg (by rw [z1]; decide)]; exact ⟨NewBytes.pokF (FreshBytes.new hN) (by simpa using hp1) (Pok.set hp5) (by have := k1.1; simpa using this), Pok.setR k5 (.inl rfl), Qdr.mk (a := a1 + n + padN n) qs (BytesAt.pok hB5 (Pok.set hp5) hne1) hne1 hy1 qo hl1 (by rw [hs1, List.drop_drop, Nat.add_assoc])⟩) | fail)); done)
    | fail)
def b44 : SC := (.seq (.ops [⟨some 2, .mov (.c (.int (.i64) 0)), none⟩]) (.seq (.seq (.ops [⟨some 3, .mov (.t 0), none⟩, ⟨some 4, .nilChk (.t 3), none⟩, ⟨some 5, .fieldAddr 2 (.t 4), none⟩, ⟨some 6, .load false 1 (.t 5), none⟩, ⟨some 7, .bin (.eql) (.other) (.t 6) (.c (.int (.i64) 0)), none⟩, ⟨some 8, .mov (.t 7), none⟩, ⟨some 9, .mov (.t 0), some (8, true)⟩, ⟨some 10, .nilChk (.t 9), some (8, true)⟩, ⟨some 11, .fieldAddr 1 (.t 10), some (8, true)⟩, ⟨some 12, .load false 1 (.t 11), some (8, true)⟩, ⟨some 13, .mov (.t 0), some (8, true)⟩, ⟨some 14, .nilChk (.t 13), some (8, true)⟩, ⟨some 15, .fieldAddr 0 (.t 14), some (8, true)⟩, ⟨some 16, .load false 1 (.t 15), some (8, true)⟩, ⟨some 17, .len (.sl) (.t 16), some (8, true)⟩, ⟨some 18, .bin (.lss) (.other) (.t 12) (.t 17), some (8, true)⟩, ⟨some 19, .pick (.t 8) (.t 18) (.c (.bool false)), none⟩]) (.cond (.t 19) (.seq (.ops [⟨some 2, .mov (.c (.int (.i64) 5)), none⟩]) .ret) .skip)) (.seq (.ops [⟨some 20, .mov (.t 0), none⟩, ⟨some 21, .nilChk (.t 20), none⟩, ⟨some 22, .fieldAddr 2 (.t 21), none⟩, ⟨some 23, .load false 1 (.t 22), none⟩, ⟨some 2, .mov (.t 23), none⟩]) .ret)))
theorem t44 : tab 44 = some ⟨24, [.tmp 2], b44⟩ := rfl
theorem q_End {h : Heap} {p : Nat} {s : List Int × Int} (f : Qdr h p s) : Runs (xcall X1 tab (.fn 44) [.ptr p 0] h) fun v h' => v = .int .i64 (endE s) ∧ h = h' := by
  refine Runs.intro fun K hK => ?_
  obtain ⟨b, all, a, hg, hb, hne, hy, ha, hl, hs⟩ := f
  have hfl := BytesAt.flat' hb
  have hcl := cells_of hfl
  have hp := Heap.lt_of_get hg
  have hdl := drop_len (all := all) (a := a)
  have hsl : s.1.length = all.length - a := by rw [hs, hdl]
  rw [w_fn rfl t44 (Nat.le_of_ble_eq_true rfl)]
  delta b44
  repeat' (first
    | simp (disch := first | exact qd | fail) only [WB, ↓WP, ↓WL, WR, WC, if_true, if_false, ite_true, ite_false, aop, ev, evs, readsA, List.replicate, numF, unA, resA, tupA, loadA, storeA, splice, fillA, kindsOk, plainEq, ↓reduceIte, Nat.reduceEqDiff, Nat.reduceLT, Int.reduceToNat, Int.reduceBEq, Int.reduceBNe, Nat.reduceAdd, Nat.reduceMul, Nat.reduceLeDiff, Int.reduceLT, Int.reduceSub, Int.reduceAdd, hg, hfl, hcl]
    | ((first | refine atC ?_ ?_ | refine atG ?_ ?_ | refine atH ?_ ?_ | refine atP ?_ ?_) <;> intro hc <;> (try rw [hc]) <;> (try simp only [BD] at hc) <;> try (exfalso; omega)))
  all_goals try (first
    | (refine hK _ _ ?_; (refine ⟨?_, rfl⟩; unfold endE; (first | (rw [if_pos ⟨by omega, by omega⟩]; done) | (rw [if_neg qo]; done) | fail)); done)
    | fail)
end Go.Proofs.YtdmabiefaeidmaaDoor.Ya
