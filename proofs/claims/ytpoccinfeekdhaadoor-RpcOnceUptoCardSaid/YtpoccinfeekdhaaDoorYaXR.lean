/-
  The reader.
-/
import Derived.Test.YtpoccinfeekdhaaDoorYaXW
import Derived.Test.YtpoccinfeekdhaaDoorYbL
namespace Go.Proofs.YtpoccinfeekdhaaDoor.Ya
open Go.Ya
set_option linter.unusedVariables false
set_option linter.unusedSimpArgs false
set_option maxRecDepth 100000
set_option maxHeartbeats 8000000
theorem BytesAt.cutO {h h' : Heap} {v : AV} {bs : List Int} (hb : BytesAt h v bs) (g : Grow h h') {lo hi : Option AV} {a b : Nat} (hlo : lo = some (.int .i64 (a : Int)) ∨ (lo = none ∧ a = 0)) (hhi : hi = some (.int .i64 (b : Int)) ∨ (hi = none ∧ b = bs.length)) (h1 : a ≤ b) (h2 : b ≤ bs.length) :
    Runs (cutS 1 v lo hi none h') fun v' h2 => h' = h2 ∧ BytesAt h v' ((bs.take b).drop a) ∧ (own v' = own v ∨ own v' = 0) ∧ v'.flat = true := by
  obtain ⟨v', h2, e, rfl, hb2⟩ := hb.cutR g hlo hhi h1 h2
  refine ⟨v', h', e, rfl, hb2, ?_, by rcases hb2 with ⟨rfl, _⟩ | ⟨_, _, _, _, _, _, rfl, _⟩ <;> rfl⟩
  rcases hb with ⟨rfl, rfl⟩ | ⟨id, off, cap, ex, c, ro, rfl, _⟩
  · simp only [List.take_nil, List.drop_nil] at hb2
    rcases hb2 with ⟨rfl, _⟩ | ⟨id, off, cap, ex, c, ro, rfl, _⟩
    · exact .inr rfl
    · exfalso
      unfold cutS sliceA at e
      cases hq : boundsA 0 0 lo hi none <;> simp [hq] at e
  · have key : boundsA bs.length cap lo hi none = some (a, b, cap) := by
      have := ‹_ ≤ cap ∧ _›.1
      rcases hlo with rfl | ⟨rfl, rfl⟩ <;> rcases hhi with rfl | ⟨rfl, rfl⟩
      · exact bd_lh qo h1
      · exact bd_l h1
      · exact bd_h qo
      · rfl
    simp only [cutS, sliceA, if_true, key] at e
    simp at e
    rw [← e]; exact .inl rfl
theorem BytesAt.pok {h h' : Heap} {v : AV} {bs : List Int} {p : Nat} (hb : BytesAt h v bs) (k : Pok p h h') (hp : own v ≤ p) : BytesAt h' v bs := by
  rcases hb with e | ⟨id, off, cap, ex, c, ro, rfl, e2, e3, e4⟩
  · exact .inl e
  · exact .inr ⟨id, off, cap, ex, c, ro, rfl, e2, (k.2 id (Heap.lt_of_get e3) (fun q => by simp only [own_sl] at hp; omega)).trans e3, e4⟩
theorem BytesAt.flat' {h : Heap} {v : AV} {bs : List Int} (hb : BytesAt h v bs) : v.flat = true := by
  rcases hb with ⟨rfl, _⟩ | ⟨_, _, _, _, _, _, rfl, _⟩ <;> rfl
theorem BytesAt.own_le {h : Heap} {v : AV} {bs : List Int} (hb : BytesAt h v bs) : own v ≤ h.next := by
  rcases hb with ⟨rfl, _⟩ | ⟨_, _, _, _, _, _, rfl, _, e, _⟩
  · exact Nat.zero_le _
  · exact Heap.lt_of_get e
def Rdr (lo : Nat) (H : Heap) (p : Nat) (s : List Int × Int) : Prop := ∃ v, H.get p = some (.cells [v, .int .i64 s.2, .bool true] false) ∧ BytesAt H v s.1 ∧ (own v ≤ p ∧ (own v = 0 ∨ lo < own v)) ∧ Bytes s.1 ∧ s.1.length ≤ 1000000000
theorem Rdr.pok {lo : Nat} {H H' : Heap} {p q : Nat} {s : List Int × Int} (f : Rdr lo H p s) (k : Pok q H H') (hq : p < q) : Rdr lo H' p s := by
  obtain ⟨v, h1, h2, h3, h4⟩ := f
  exact ⟨v, (k.2 p (Heap.lt_of_get h1) qo).trans h1, BytesAt.pok h2 k qo, h3, h4⟩
theorem Rdr.grow {lo : Nat} {H H' : Heap} {p : Nat} {s : List Int × Int} (f : Rdr lo H p s) (g : Grow H H') : Rdr lo H' p s := by
  obtain ⟨v, h1, h2, h3⟩ := f
  exact ⟨v, g.get h1, h2.grow g, h3⟩
theorem Rdr.lt {lo : Nat} {H : Heap} {p : Nat} {s : List Int × Int} (f : Rdr lo H p s) : p < H.next := by
  obtain ⟨v, h1, _⟩ := f
  exact Heap.lt_of_get h1
def rdN (k : Nat) (s : List Int × Int) : Int × (List Int × Int) := if s.2 = 0 then (if s.1.length < k then (0, (s.1, 4)) else (valBE (s.1.take k), (s.1.drop k, 0))) else (0, s)
theorem rdN_bad {k : Nat} {s : List Int × Int} (h : ¬ s.2 = 0) : rdN k s = (0, s) := by unfold rdN; rw [if_neg h]
theorem rdN_short {k : Nat} {s : List Int × Int} (h : s.2 = 0) (hk : s.1.length < k) : rdN k s = (0, (s.1, 4)) := by unfold rdN; rw [if_pos h, if_pos hk]
theorem rdN_ok {k : Nat} {s : List Int × Int} (h : s.2 = 0) (hk : k ≤ s.1.length) : rdN k s = (valBE (s.1.take k), (s.1.drop k, s.2)) := by unfold rdN; rw [if_pos h, if_neg qo, h]
theorem rdN_lt {k : Nat} {s : List Int × Int} (hb : Bytes s.1) : 0 ≤ (rdN k s).1 ∧ (rdN k s).1 < 256 ^ k := by
  have hp : (0 : Int) < 256 ^ k := Int.pow_pos (by decide)
  unfold rdN
  split
  · split
    · exact ⟨Int.le_refl _, hp⟩
    · have := valBE_lt (s.1.take k) (hb.take k)
      rw [List.length_take, Nat.min_eq_left qo] at this
      exact this
  · exact ⟨Int.le_refl _, hp⟩
def posB (c : Int) : Bool := decide (c > 0)
theorem any_hit {l : List Int} {j : Nat} (hj : j < l.length) (h : l.getD j 0 > 0) : l.any posB = true := by
  rw [List.any_eq_true]
  refine ⟨l.getD j 0, ?_, decide_eq_true h⟩
  rw [List.getD_eq_getElem?_getD, List.getElem?_eq_getElem hj]; exact List.getElem_mem hj
theorem any_no {l : List Int} (h : ∀ i, i < l.length → ¬ l.getD i 0 > 0) : l.any posB = false := by
  rw [List.any_eq_false]
  intro b hb
  obtain ⟨i, hi, rfl⟩ := List.getElem_of_mem hb
  have := h i hi
  rw [List.getD_eq_getElem?_getD, List.getElem?_eq_getElem hi] at this
  simpa [posB] using this
theorem num_GetR {v : AV} {bs : List Int} {h : Heap} (hb : BytesAt h v bs) (hy : Bytes bs) {s : Nat} (hs : Sz s) (hl : bs.length ≤ 140737488355328) : Runs (xcall X1 tab (.fn 71) [v, .int .i64 0, .int .i64 (s : Nat)] h) fun v h' => Grow h h' ∧ ∃ a e, v = .tuple [.int .u64 a, .int .i64 e] ∧ ((bs.length < s ∧ a = 0 ∧ e = 4) ∨ (s ≤ bs.length ∧ a = valBE (bs.take s) ∧ e = 0)) :=
  (num_Get hb hy hs hl).mono fun v h' ⟨g, e⟩ => by
    refine ⟨g, ?_⟩
    by_cases q : bs.length < s
    · rw [if_pos q] at e; exact ⟨0, 4, e, .inl ⟨q, rfl, rfl⟩⟩
    · rw [if_neg q] at e; exact ⟨_, 0, e, .inr ⟨by omega, rfl, rfl⟩⟩
theorem t73 : tab 73 = some ⟨5, [.tmp 2], b73⟩ := rfl
theorem t80 : tab 80 = some ⟨19, [.tmp 4], b80⟩ := rfl
theorem t72 : tab 72 = some ⟨9, [.tmp 4], b72⟩ := rfl
theorem t62 : tab 62 = some ⟨35, [.tmp 6], b62⟩ := rfl
theorem num_Zero1 (c : Int) (h : Heap) : Runs (xcall X1 tab (.fn 73) [.int .u8 c] h) fun v h' => v = .bool (decide (c > 0)) ∧ h = h' := by
  refine Runs.intro fun K hK => ?_
  rw [w_fn rfl t73 (Nat.le_of_ble_eq_true rfl)]
  delta b73
  repeat' (first
    | simp (disch := first | exact qd | fail) only [WB, ↓WP, ↓WL, WR, WC, if_true, if_false, ite_true, ite_false, aop, ev, evs, readsA, List.replicate, numF, unA, resA, tupA, loadA, storeA, splice, fillA, kindsOk, plainEq, ↓reduceIte, Nat.reduceEqDiff, Nat.reduceLT, Int.reduceToNat, Int.reduceBEq, Int.reduceBNe, Nat.reduceAdd, Nat.reduceMul, Nat.reduceLeDiff, Int.reduceLT, Int.reduceSub, Int.reduceAdd]
    | ((first | refine atC ?_ ?_ | refine atG ?_ ?_ | refine atH ?_ ?_ | refine atP ?_ ?_) <;> intro hc <;> (try rw [hc]) <;> (try simp only [BD] at hc) <;> try (exfalso; omega)))
  all_goals try (first
    | (refine hK _ _ ?_; exact ⟨rfl, rfl⟩; done)
    | fail)
theorem sl_Index {v : AV} {bs : List Int} {h : Heap} (hb : BytesAt h v bs) (hl : bs.length ≤ 4611686018427387904) : Runs (xcall X1 tab (.fn 80) [v, .func 73 [] []] h) fun v' h' => (∃ i, v' = .int .i64 i ∧ (0 ≤ i ↔ bs.any posB = true)) ∧ h = h' := by
  refine Runs.intro fun K hK => ?_
  rw [w_fn rfl t80 (Nat.le_of_ble_eq_true rfl)]
  delta b80
  repeat' (first
    | simp (disch := first | exact qd | fail) only [WB, ↓WP, ↓WL, WR, WC, if_true, if_false, ite_true, ite_false, aop, ev, evs, readsA, List.replicate, numF, unA, resA, tupA, loadA, storeA, splice, fillA, kindsOk, plainEq, ↓reduceIte, Nat.reduceEqDiff, Nat.reduceLT, Int.reduceToNat, Int.reduceBEq, Int.reduceBNe, Nat.reduceAdd, Nat.reduceMul, Nat.reduceLeDiff, Int.reduceLT, Int.reduceSub, Int.reduceAdd]
    | ((first | refine atC ?_ ?_ | refine atG ?_ ?_ | refine atH ?_ ?_ | refine atP ?_ ?_) <;> intro hc <;> (try rw [hc]) <;> (try simp only [BD] at hc) <;> try (exfalso; omega))
    | ((first
      | (refine Runs.call (num_Zero1 _ _) ?_; rintro _ _ ⟨rfl, rfl⟩)
      | fail); all_goals ((try (have gn := gr.1; try simp only [nx_alloc, nx_set] at gn)); (try (have an := ha.num; try simp only [nx_alloc, nx_set, own_sl, own_nil] at an)); (try (have on := hO.num; try simp only [nx_alloc, nx_set] at on)); (try (have kn := hk.1; try simp only [nx_alloc, nx_set] at kn)); try have hB := hO.at)))
  all_goals try (first
    | (refine hK _ _ ?_; (first | exact ⟨⟨_, rfl, ⟨fun _ => any_hit (j := j) qo qo, fun _ => by omega⟩⟩, rfl⟩ | exact ⟨⟨_, rfl, ⟨fun q => absurd q (by decide), fun q => by rw [any_no (fun i hi => hall i qo)] at q; cases q⟩⟩, rfl⟩ | fail); done)
    | fail)
  all_goals
    refine wloop (α := Nat) [0, 1, 7] (fun x => [(8, .int .i64 (x : Nat))]) (fun x H => h = H ∧ x ≤ bs.length ∧ ∀ i, i < x → ¬ bs.getD i 0 > 0) (fun x => bs.length - x) ?_ (0) ?_ ?_
    rotate_left
    · exact qf
    · (try dsimp only)
      exact ⟨rfl, by omega, fun i q => absurd q qo⟩
    intro j b1 H hI ih
    try dsimp only at hI
    obtain ⟨rfl, hj, hall⟩ := hI
    try have gn := g.1
    refine w_unfold (by delta L80_0; rfl) ?_
    simp only [keeps_nil, keeps_cons, List.cons_append, List.nil_append, lk_cons, lk_nil, numF, Nat.reduceEqDiff, Nat.reduceAdd, Nat.zero_add, ↓reduceIte]
    repeat' (first
      | simp (disch := first | exact qd | fail) only [WB, ↓WP, ↓WL, WR, WC, if_true, if_false, ite_true, ite_false, aop, ev, evs, readsA, List.replicate, numF, unA, resA, tupA, loadA, storeA, splice, fillA, kindsOk, plainEq, ↓reduceIte, Nat.reduceEqDiff, Nat.reduceLT, Int.reduceToNat, Int.reduceBEq, Int.reduceBNe, Nat.reduceAdd, Nat.reduceMul, Nat.reduceLeDiff, Int.reduceLT, Int.reduceSub, Int.reduceAdd]
      | ((first | refine atC ?_ ?_ | refine atG ?_ ?_ | refine atH ?_ ?_ | refine atP ?_ ?_) <;> intro hc <;> (try rw [hc]) <;> (try simp only [BD] at hc) <;> try (exfalso; omega))
      | ((first
        | (refine Runs.call (num_Zero1 _ _) ?_; rintro _ _ ⟨rfl, rfl⟩)
        | fail); all_goals ((try (have gn := gr.1; try simp only [nx_alloc, nx_set] at gn)); (try (have an := ha.num; try simp only [nx_alloc, nx_set, own_sl, own_nil] at an)); (try (have on := hO.num; try simp only [nx_alloc, nx_set] at on)); (try (have kn := hk.1; try simp only [nx_alloc, nx_set] at kn)); try have hB := hO.at)))
    all_goals try (first
      | exact ih (j + 1) _ _ _ (by ((try dsimp only); omega)) qf (by ((try dsimp only); (first | (exact ⟨rfl, by omega, pre_succ hall qo⟩) | fail)))
      | (refine hK _ _ ?_; (first | exact ⟨⟨_, rfl, ⟨fun _ => any_hit (j := j) qo qo, fun _ => by omega⟩⟩, rfl⟩ | exact ⟨⟨_, rfl, ⟨fun q => absurd q (by decide), fun q => by rw [any_no (fun i hi => hall i qo)] at q; cases q⟩⟩, rfl⟩ | fail); done)
      | fail)
theorem sl_Contains {v : AV} {bs : List Int} {h : Heap} (hb : BytesAt h v bs) (hl : bs.length ≤ 4611686018427387904) : Runs (xcall X1 tab (.fn 72) [v, .func 73 [] []] h) fun v' h' => v' = .bool (bs.any posB) ∧ h = h' := by
  refine Runs.intro fun K hK => ?_
  have hfl := (BytesAt.flat' hb)
  have hcl := cells_of hfl
  rw [w_fn rfl t72 (Nat.le_of_ble_eq_true rfl)]
  delta b72
  repeat' (first
    | simp (disch := first | exact qd | fail) only [WB, ↓WP, ↓WL, WR, WC, if_true, if_false, ite_true, ite_false, aop, ev, evs, readsA, List.replicate, numF, unA, resA, tupA, loadA, storeA, splice, fillA, kindsOk, plainEq, ↓reduceIte, Nat.reduceEqDiff, Nat.reduceLT, Int.reduceToNat, Int.reduceBEq, Int.reduceBNe, Nat.reduceAdd, Nat.reduceMul, Nat.reduceLeDiff, Int.reduceLT, Int.reduceSub, Int.reduceAdd, hfl, hcl]
    | ((first | refine atC ?_ ?_ | refine atG ?_ ?_ | refine atH ?_ ?_ | refine atP ?_ ?_) <;> intro hc <;> (try rw [hc]) <;> (try simp only [BD] at hc) <;> try (exfalso; omega))
    | ((first
      | (refine Runs.call (sl_Index hb hl) ?_; rintro _ _ ⟨⟨i, rfl, hi⟩, rfl⟩)
      | fail); all_goals ((try (have gn := gr.1; try simp only [nx_alloc, nx_set] at gn)); (try (have an := ha.num; try simp only [nx_alloc, nx_set, own_sl, own_nil] at an)); (try (have on := hO.num; try simp only [nx_alloc, nx_set] at on)); (try (have kn := hk.1; try simp only [nx_alloc, nx_set] at kn)); try have hB := hO.at)))
  all_goals try (first
    | (refine hK _ _ ?_; (refine ⟨?_, rfl⟩; congr 1; rw [Bool.eq_iff_iff]; (first | simpa using hi | (simp; exact hi) | fail)); done)
    | fail)
theorem num_Zero {v : AV} {bs : List Int} {h : Heap} (hb : BytesAt h v bs) {a n : Nat} (hl : a + n ≤ bs.length) (hz : bs.length ≤ 4611686018427387904) : Runs (xcall X1 tab (.fn 62) [v, .int .i64 (a : Nat), .int .i64 (n : Nat)] h) fun v' h' => (∃ e, v' = .int .i64 e ∧ ((((bs.drop a).take n).any posB = true ∧ e = 5) ∨ (((bs.drop a).take n).any posB = false ∧ e = 0))) ∧ h = h' := by
  refine Runs.intro fun K hK => ?_
  have hfl := (BytesAt.flat' hb)
  have hcl := cells_of hfl
  have hdt : (bs.take (a + n)).drop a = (bs.drop a).take n := by rw [List.drop_take]; congr 1; omega
  rw [w_fn rfl t62 (Nat.le_of_ble_eq_true rfl)]
  delta b62
  repeat' (first
    | simp (disch := first | exact qd | fail) only [WB, ↓WP, ↓WL, WR, WC, if_true, if_false, ite_true, ite_false, aop, ev, evs, readsA, List.replicate, numF, unA, resA, tupA, loadA, storeA, splice, fillA, kindsOk, plainEq, ↓reduceIte, Nat.reduceEqDiff, Nat.reduceLT, Int.reduceToNat, Int.reduceBEq, Int.reduceBNe, Nat.reduceAdd, Nat.reduceMul, Nat.reduceLeDiff, Int.reduceLT, Int.reduceSub, Int.reduceAdd, hfl, hcl]
    | ((first | refine atC ?_ ?_ | refine atG ?_ ?_ | refine atH ?_ ?_ | refine atP ?_ ?_) <;> intro hc <;> (try rw [hc]) <;> (try simp only [BD] at hc) <;> try (exfalso; omega))
    | ((first
      | (refine Runs.call (BytesAt.cutO hb (a := a) (b := a + n) (Grow.refl _) (.inl rfl) (.inl (by simp)) qo qo) ?_; rintro v2 _ ⟨rfl, hb2, _, hf2⟩; rw [hdt] at hb2; have hc2 := cells_of hf2)
      | (refine Runs.call (sl_Contains hb2 (by rw [List.length_take]; omega)) ?_; rintro _ _ ⟨rfl, rfl⟩)
      | fail); all_goals ((try (have gn := gr.1; try simp only [nx_alloc, nx_set] at gn)); (try (have an := ha.num; try simp only [nx_alloc, nx_set, own_sl, own_nil] at an)); (try (have on := hO.num; try simp only [nx_alloc, nx_set] at on)); (try (have kn := hk.1; try simp only [nx_alloc, nx_set] at kn)); try have hB := hO.at)))
  all_goals try (first
    | (refine hK _ _ ?_; (first | exact ⟨⟨_, rfl, .inl ⟨by assumption, rfl⟩⟩, rfl⟩ | exact ⟨⟨_, rfl, .inr ⟨by simp_all, rfl⟩⟩, rfl⟩ | fail); done)
    | fail)
end Go.Proofs.YtpoccinfeekdhaaDoor.Ya
