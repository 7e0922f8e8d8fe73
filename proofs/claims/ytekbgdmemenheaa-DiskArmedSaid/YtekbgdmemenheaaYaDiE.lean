/-
  The law DiskArmed.
-/
import Derived.Test.YtekbgdmemenheaaYaDiD
import Derived.Test.YtekbgdmemenheaaYbL
import Derived.Test.YtekbgdmemenheaaRows
namespace Go.Proofs.Ytekbgdmemenheaa.Ya
open Go.Ya
set_option linter.unusedVariables false
set_option linter.unusedSimpArgs false
set_option maxRecDepth 100000
set_option maxHeartbeats 8000000
def leftAt (a i : Nat) : Int := if a = 0 then -1 else if i < a then (a : Int) - i else 0
def goneAt (a i : Nat) : Bool := decide (0 < a ∧ a ≤ i)
def workAt (a i : Nat) : Int := if a = 0 then (i : Int) else if i < a then (i : Int) else (a : Int) - 1
def wantAt (a i : Nat) : Int := if 0 < a ∧ a ≤ i + 1 then 9 else 0
def DA (b : List Int) (p q a i : Nat) (H : Heap) : Prop := ∃ S laid Y W, DkAt H p S laid Y W (leftAt a i) (goneAt a i) (workAt a i) ∧ laid.length = 70 ∧ W.length ≤ i ∧ q ∉ S ∧ H.get q = some (.cells (cellsB b) false)
theorem DA.next {b : List Int} {p q a i : Nat} {H H' : Heap} {S S' : List Nat} {laid laid' : List (List Int)} {Y' W W' : List (Nat × List Int)} {l' w' : Int} {g' : Bool} (hq : q ∉ S) (hg : H.get q = some (.cells (cellsB b) false)) (hn : laid.length = 70) (hW : W.length ≤ i) (f : Dkf S S' H H') (d : DkAt H' p S' laid' Y' W' l' g' w') (e1 : laid'.length = laid.length) (e2 : W'.length ≤ W.length + 1) (e3 : l' = leftAt a (i + 1)) (e4 : g' = goneAt a (i + 1)) (e5 : w' = workAt a (i + 1)) : DA b p q a (i + 1) H' := by
  subst e3 e4 e5
  exact ⟨S', laid', Y', W', d, by omega, by omega, fun hin => (f.2.2 q hin).elim hq (fun e => by have := Heap.lt_of_get hg; omega), f.get hg hq⟩
theorem goneT {a i : Nat} (h : 0 < a ∧ a ≤ i) : goneAt a i = true := decide_eq_true h
theorem goneF {a i : Nat} (h : ¬ (0 < a ∧ a ≤ i)) : goneAt a i = false := decide_eq_false h
theorem nmT {a i : Nat} (h : 0 < a ∧ a ≤ i) : leftAt a i = 0 ∧ workAt a i = a - 1 ∧ leftAt a (i + 1) = 0 ∧ workAt a (i + 1) = a - 1 ∧ wantAt a i = 9 := by
  unfold leftAt workAt wantAt
  refine ⟨?_, ?_, ?_, ?_, ?_⟩ <;> (repeat' split) <;> omega
theorem nmG {a i : Nat} (h : a = i + 1) : leftAt a i = 1 ∧ workAt a i = workAt a (i + 1) ∧ leftAt a (i + 1) = 0 ∧ wantAt a i = 9 := by
  unfold leftAt workAt wantAt
  refine ⟨?_, ?_, ?_, ?_⟩ <;> (repeat' split) <;> omega
theorem nmF {a i : Nat} (h : ¬ (0 < a ∧ a ≤ i)) (h2 : a ≠ i + 1) : leftAt a i ≠ 1 ∧ leftAt a i ≠ 0 ∧ (-1 ≤ leftAt a i ∧ leftAt a i ≤ (a : Int)) ∧ (0 ≤ workAt a i ∧ workAt a i ≤ (i : Int)) ∧ stepL (leftAt a i) = leftAt a (i + 1) ∧ workAt a i + 1 = workAt a (i + 1) ∧ wantAt a i = 0 := by
  unfold leftAt workAt wantAt stepL
  refine ⟨?_, ?_, ⟨?_, ?_⟩, ⟨?_, ?_⟩, ?_, ?_, ?_⟩ <;> (repeat' split) <;> omega
theorem stepW {b : List Int} {p q a i k : Nat} {h : Heap} (d : DA b p q a i h) (ha : a ≤ 255) (hi : i ≤ 600) (hk : k < 70) : Runs (xcall X1 tab (.fn 10) [.ptr p 0, .int .i64 (k : Nat), .agg (cellsB b)] h) fun v h' => v = .int .i64 (wantAt a i) ∧ DA b p q a (i + 1) h' := by
  obtain ⟨S, laid, Y, W, hd, hn, hW, hq, hg⟩ := d
  by_cases c1 : 0 < a ∧ a ≤ i
  · obtain ⟨n1, n2, n3, n4, n5⟩ := nmT c1
    rw [goneT c1] at hd
    obtain ⟨v, h', e, rfl, g⟩ := d_WriteT hd qo k b
    exact ⟨_, h', e, by rw [n5], DA.next hq hg hn hW (Dkf.ofGrow g) (hd.grow g) rfl qo qo (goneT qo).symm qo⟩
  · rw [goneF c1] at hd
    by_cases c2 : a = i + 1
    · obtain ⟨n1, n2, n3, n4⟩ := nmG c2
      obtain ⟨v, h', e, rfl, d', f⟩ := d_WriteG hd qo k qo b n1
      exact ⟨_, h', e, by rw [n4], DA.next hq hg hn hW f d' rfl qo n3.symm (goneT qo).symm n2⟩
    · obtain ⟨n1, n2, n3, n4, n5, n6, n7⟩ := nmF c1 c2
      obtain ⟨v, h', e, rfl, S', d', f⟩ := d_WriteF hd qo k qo b n1 n2 qo qo qo
      exact ⟨_, h', e, by rw [n7], DA.next hq hg hn hW f d' rfl (by simp) n5 (goneF qo).symm n6⟩
theorem stepF {b : List Int} {p q a i : Nat} {h : Heap} (d : DA b p q a i h) (ha : a ≤ 255) (hi : i ≤ 600) : Runs (xcall X1 tab (.fn 9) [.ptr p 0] h) fun v h' => v = .int .i64 (wantAt a i) ∧ DA b p q a (i + 1) h' := by
  obtain ⟨S, laid, Y, W, hd, hn, hW, hq, hg⟩ := d
  by_cases c1 : 0 < a ∧ a ≤ i
  · obtain ⟨n1, n2, n3, n4, n5⟩ := nmT c1
    rw [goneT c1] at hd
    obtain ⟨v, h', e, rfl, g⟩ := d_FlushT hd qo
    exact ⟨_, h', e, by rw [n5], DA.next hq hg hn hW (Dkf.ofGrow g) (hd.grow g) rfl qo qo (goneT qo).symm qo⟩
  · rw [goneF c1] at hd
    by_cases c2 : a = i + 1
    · obtain ⟨n1, n2, n3, n4⟩ := nmG c2
      obtain ⟨v, h', e, rfl, d', f⟩ := d_FlushG hd qo n1
      exact ⟨_, h', e, by rw [n4], DA.next hq hg hn hW f d' rfl qo n3.symm (goneT qo).symm n2⟩
    · obtain ⟨n1, n2, n3, n4, n5, n6, n7⟩ := nmF c1 c2
      obtain ⟨v, h', e, rfl, S', d', f⟩ := d_FlushF hd qo n1 n2 qo qo
      exact ⟨_, h', e, by rw [n7], DA.next hq hg hn hW f d' (layY_len _ _) (by simp) n5 (goneF qo).symm n6⟩
theorem stepW9 {b : List Int} {p q a i : Nat} {k : Int} {h : Heap} (d : DA b p q a i h) (ha : a ≤ 255) (hi : i ≤ 600) (hk : 0 ≤ k ∧ k < 70) (w : 0 < a ∧ a ≤ i + 1) : Runs (xcall X1 tab (.fn 10) [.ptr p 0, .int .i64 k, .agg (cellsB b)] h) fun v h' => v = .int .i64 9 ∧ DA b p q a (i + 1) h' := by
  obtain ⟨v, h', e, e1, e2⟩ := stepW (k := k.toNat) d ha hi qo
  rw [Int.toNat_of_nonneg hk.1] at e
  exact ⟨v, h', e, by rw [e1, wantAt, if_pos w], e2⟩
theorem stepW0 {b : List Int} {p q a i : Nat} {k : Int} {h : Heap} (d : DA b p q a i h) (ha : a ≤ 255) (hi : i ≤ 600) (hk : 0 ≤ k ∧ k < 70) (w : ¬ (0 < a ∧ a ≤ i + 1)) : Runs (xcall X1 tab (.fn 10) [.ptr p 0, .int .i64 k, .agg (cellsB b)] h) fun v h' => v = .int .i64 0 ∧ DA b p q a (i + 1) h' := by
  obtain ⟨v, h', e, e1, e2⟩ := stepW (k := k.toNat) d ha hi qo
  rw [Int.toNat_of_nonneg hk.1] at e
  exact ⟨v, h', e, by rw [e1, wantAt, if_neg w], e2⟩
theorem stepF9 {b : List Int} {p q a i : Nat} {h : Heap} (d : DA b p q a i h) (ha : a ≤ 255) (hi : i ≤ 600) (w : 0 < a ∧ a ≤ i + 1) : Runs (xcall X1 tab (.fn 9) [.ptr p 0] h) fun v h' => v = .int .i64 9 ∧ DA b p q a (i + 1) h' := by
  obtain ⟨v, h', e, e1, e2⟩ := stepF d ha hi
  exact ⟨v, h', e, by rw [e1, wantAt, if_pos w], e2⟩
theorem stepF0 {b : List Int} {p q a i : Nat} {h : Heap} (d : DA b p q a i h) (ha : a ≤ 255) (hi : i ≤ 600) (w : ¬ (0 < a ∧ a ≤ i + 1)) : Runs (xcall X1 tab (.fn 9) [.ptr p 0] h) fun v h' => v = .int .i64 0 ∧ DA b p q a (i + 1) h' := by
  obtain ⟨v, h', e, e1, e2⟩ := stepF d ha hi
  exact ⟨v, h', e, by rw [e1, wantAt, if_neg w], e2⟩
theorem darkT {b : List Int} {p q a i : Nat} {h : Heap} (d : DA b p q a i h) (w : 0 < a ∧ a ≤ i) : Runs (xcall X1 tab (.fn 11) [.ptr p 0] h) fun v h' => v = .bool true ∧ h = h' := by
  obtain ⟨S, laid, Y, W, ⟨L, ex, m, qv, hg, _⟩, _⟩ := d
  obtain ⟨v, h', e, e1, e2⟩ := d_Dark hg
  exact ⟨v, h', e, by rw [e1, goneT w], e2⟩
theorem darkF {b : List Int} {p q a i : Nat} {h : Heap} (d : DA b p q a i h) (w : ¬ (0 < a ∧ a ≤ i)) : Runs (xcall X1 tab (.fn 11) [.ptr p 0] h) fun v h' => v = .bool false ∧ h = h' := by
  obtain ⟨S, laid, Y, W, ⟨L, ex, m, qv, hg, _⟩, _⟩ := d
  obtain ⟨v, h', e, e1, e2⟩ := d_Dark hg
  exact ⟨v, h', e, by rw [e1, goneF w], e2⟩
theorem stepsT {b : List Int} {p q a i : Nat} {h : Heap} (d : DA b p q a i h) (w : 0 < a ∧ a ≤ i) : Runs (xcall X1 tab (.fn 12) [.ptr p 0] h) fun v h' => v = .int .i64 ((a : Int) - 1) ∧ h = h' := by
  obtain ⟨S, laid, Y, W, ⟨L, ex, m, qv, hg, _⟩, _⟩ := d
  obtain ⟨v, h', e, e1, e2⟩ := d_Steps hg
  exact ⟨v, h', e, by rw [e1, (nmT w).2.1], e2⟩
theorem stepsF {b : List Int} {p q i : Nat} {a c : Nat} {h : Heap} (d : DA b p q a i h) (w : a = 0) (hc : i = a + c) : Runs (xcall X1 tab (.fn 12) [.ptr p 0] h) fun v h' => v = .int .i64 ((a : Int) + (c : Int)) ∧ h = h' := by
  obtain ⟨S, laid, Y, W, ⟨L, ex, m, qv, hg, _⟩, _⟩ := d
  obtain ⟨v, h', e, e1, e2⟩ := d_Steps hg
  exact ⟨v, h', e, by rw [e1, workAt, if_pos w]; congr 1; omega, e2⟩
theorem new70 (h : Heap) : Runs (xcall X1 tab (.fn 7) [.int .i64 70] h) fun v h' => Grow h h' ∧ ∃ p S, v = .tuple [.ptr p 0, .int .i64 0] ∧ DkAt h' p S (List.replicate 70 []) [] [] (-1) false 0 ∧ h.next ≤ p ∧ ∀ x ∈ S, h.next ≤ x := d_New (n := 70) qo qo h
theorem armed0 {b : List Int} {p q a : Nat} {S : List Nat} {H1 H2 : Heap} (hq : H1.get q = some (.cells (cellsB b) false)) (nq : q ∉ S) (d : DkAt H2 p S (List.replicate 70 []) [] [] (if a = 0 then -1 else (a : Int)) false 0) (f : Dkf S S H1 H2) : DA b p q a 0 H2 := by
  have e1 : (if a = 0 then -1 else (a : Int)) = leftAt a 0 := by unfold leftAt; split <;> (try split) <;> omega
  have e2 : goneAt a 0 = false := decide_eq_false qo
  have e3 : workAt a 0 = 0 := by unfold workAt; split <;> (try split) <;> omega
  rw [e1] at d
  exact ⟨S, _, _, _, by rw [e2, e3]; exact d, by rw [List.length_replicate], Nat.le_refl _, nq, f.get hq nq⟩
theorem t3 : tab 3 = some ⟨94, [.tmp 6], b3⟩ := rfl
theorem law_Armed {a c : Nat} (ha : a ≤ 255) (hc : c ≤ 255) (b : List Int) (h : Heap) : Runs (xcall X1 tab (.fn 3) [.int .u8 (a : Nat), .int .u8 (c : Nat), .agg (cellsB b)] h) fun v h' => v = .bool true := by
  refine Runs.intro fun K hK => ?_
  rw [w_fn rfl t3 (Nat.le_of_ble_eq_true rfl)]
  delta b3
  repeat' (first
    | simp (disch := first | exact qd | fail) only [WB, ↓WP, ↓WL, WR, WC, if_true, if_false, ite_true, ite_false, aop, ev, evs, readsA, List.replicate, numF, unA, resA, tupA, loadA, storeA, splice, fillA, kindsOk, plainEq, ↓reduceIte, Nat.reduceEqDiff, Nat.reduceLT, Int.reduceToNat, Int.reduceBEq, Int.reduceBNe, Nat.reduceAdd, Nat.reduceMul, Nat.reduceLeDiff, Int.reduceLT, Int.reduceSub, Int.reduceAdd, cellsB_len, cellsB_flat, cellsB_all, cellsB_take, cells_asm, flat_asm]
    | ((first | refine atC ?_ ?_ | refine atG ?_ ?_ | refine atH ?_ ?_ | refine atP ?_ ?_) <;> intro hc <;> (try rw [hc]) <;> (try simp only [BD] at hc) <;> try (exfalso; omega))
    | ((first
      | (refine Runs.call (new70 _) ?_; rintro _ H1 ⟨gr, p, S, rfl, hd1, hp1, hS1⟩; simp only [nx_alloc] at hp1 hS1)
      | (refine Runs.call (d_Arm hd1 (by simp) a) ?_; rintro _ H2 ⟨rfl, hd2, hf2⟩; have hA0 : DA b p h.next a 0 H2 := armed0 (H1 := H1) qs (fun hin => by have := hS1 _ hin; omega) hd2 hf2; clear hd2 hf2 hd1)
      | fail); all_goals ((try (have gn := gr.1; try simp only [nx_alloc, nx_set] at gn)); (try (have an := ha.num; try simp only [nx_alloc, nx_set, own_sl, own_nil] at an)); (try (have on := hO.num; try simp only [nx_alloc, nx_set] at on)); (try (have kn := hk.1; try simp only [nx_alloc, nx_set] at kn)); try have hB := hO.at)))
  all_goals try (first
    | (refine hK _ _ ?_; rfl; done)
    | fail)
  all_goals
    refine wloop (α := Nat) [0, 5, 7, 9] (fun x => [(10, .int .i64 (x : Nat))]) (fun x H => DA b p h.next a x H ∧ x ≤ a + c) (fun x => a + c - x) ?_ (0) ?_ ?_
    rotate_left
    · exact qf
    · (try dsimp only)
      exact ⟨hA0, Nat.zero_le _⟩
    intro i b1 H hI ih
    try dsimp only at hI
    obtain ⟨hA, hi⟩ := hI
    have hgb : H.get h.next = some (.cells (cellsB b) false) := hA.choose_spec.choose_spec.choose_spec.choose_spec.2.2.2.2
    try have gn := g.1
    refine w_unfold (by delta L3_0; rfl) ?_
    simp only [keeps_nil, keeps_cons, List.cons_append, List.nil_append, lk_cons, lk_nil, numF, Nat.reduceEqDiff, Nat.reduceAdd, Nat.zero_add, ↓reduceIte]
    repeat' (first
      | simp (disch := first | exact qd | fail) only [WB, ↓WP, ↓WL, WR, WC, if_true, if_false, ite_true, ite_false, aop, ev, evs, readsA, List.replicate, numF, unA, resA, tupA, loadA, storeA, splice, fillA, kindsOk, plainEq, ↓reduceIte, Nat.reduceEqDiff, Nat.reduceLT, Int.reduceToNat, Int.reduceBEq, Int.reduceBNe, Nat.reduceAdd, Nat.reduceMul, Nat.reduceLeDiff, Int.reduceLT, Int.reduceSub, Int.reduceAdd, cellsB_len, cellsB_flat, cellsB_all, cellsB_take, cells_asm, flat_asm]
      | ((first | refine atC ?_ ?_ | refine atG ?_ ?_ | refine atH ?_ ?_ | refine atP ?_ ?_) <;> intro hc <;> (try rw [hc]) <;> (try simp only [BD] at hc) <;> try (exfalso; omega))
      | ((first
        | (refine Runs.call (new70 _) ?_; rintro _ H1 ⟨gr, p, S, rfl, hd1, hp1, hS1⟩; simp only [nx_alloc] at hp1 hS1)
        | (refine Runs.call (d_Arm hd1 (by simp) a) ?_; rintro _ H2 ⟨rfl, hd2, hf2⟩; have hA0 : DA b p h.next a 0 H2 := armed0 (H1 := H1) qs (fun hin => by have := hS1 _ hin; omega) hd2 hf2; clear hd2 hf2 hd1)
        | (refine Runs.call (stepW9 hA ha qo qo qo) ?_; rintro _ H3 ⟨rfl, hA3⟩)
        | (refine Runs.call (stepW0 hA ha qo qo qo) ?_; rintro _ H3 ⟨rfl, hA3⟩)
        | (refine Runs.call (stepF9 hA ha qo qo) ?_; rintro _ H3 ⟨rfl, hA3⟩)
        | (refine Runs.call (stepF0 hA ha qo qo) ?_; rintro _ H3 ⟨rfl, hA3⟩)
        | (refine Runs.call (darkT hA qo) ?_; rintro _ _ ⟨rfl, rfl⟩)
        | (refine Runs.call (darkF hA qo) ?_; rintro _ _ ⟨rfl, rfl⟩)
        | (refine Runs.call (stepsT hA qo) ?_; rintro _ _ ⟨rfl, rfl⟩)
        | (refine Runs.call (stepsF (c := c) hA qo qo) ?_; rintro _ _ ⟨rfl, rfl⟩)
        | (refine Runs.call (lives_r _) ?_; rintro _ _ ⟨rfl, rfl⟩)
        | fail); all_goals ((try (have gn := gr.1; try simp only [nx_alloc, nx_set] at gn)); (try (have an := ha.num; try simp only [nx_alloc, nx_set, own_sl, own_nil] at an)); (try (have on := hO.num; try simp only [nx_alloc, nx_set] at on)); (try (have kn := hk.1; try simp only [nx_alloc, nx_set] at kn)); try have hB := hO.at)))
    all_goals try (first
      | exact ih (i + 1) _ _ _ (by ((try dsimp only); omega)) qf (by ((try dsimp only); (first | (exact ⟨by assumption, by omega⟩) | fail)))
      | (refine hK _ _ ?_; rfl; done)
      | fail)
theorem list_of {α : Type} {n : Nat} {l : List α} (d : α) (h : l.length = n) : l = (List.range n).map fun i => l.getD i d := by
  apply List.ext_getElem (by simp [h])
  intro i h1 h2
  simp [List.getD_eq_getElem?_getD, List.getElem?_eq_getElem h1]
theorem cellsB_of {l : List Int} (h : l.length = 64) : (l.map fun i => AV.int .u8 i) = cellsB l := by
  have e : l.map (fun i => AV.int .u8 i) = ((List.range 64).map fun i => l.getD i 0).map fun i => AV.int .u8 i := by rw [← list_of 0 h]
  rw [e, List.map_map]; rfl
theorem u8_nat {s : Int} (w : wfInt .u8 s = true) : ∃ n : Nat, s = (n : Int) ∧ n ≤ 255 := by
  have := wf_u8 w
  exact ⟨s.toNat, (Int.toNat_of_nonneg this.1).symm, by omega⟩
theorem run_Armed (N : Nat) : ∀ h xs, (∀ l, AV.str l ∈ xs → l.length ≤ 9223372036854775807) → argsT Try.prog N h 5 Try.f3.params.toList xs → argsX Try.prog N 5 Try.f3.params.toList emptyHeap xs h →
    ∃ n h', acall X1 tab n (.fn 3) xs h = some (.bool true, h') ∨ (AV.bares xs = true ∧ acall X1 tab n (.fn 3) xs emptyHeap = some (.bool true, h')) := by
  intro h xs hs _ hx
  rw [Try.params3] at hx
  obtain ⟨a, _, h1, rfl, ea, hx⟩ := argsX_cons hx
  obtain ⟨c, _, h2, rfl, ec, hx⟩ := argsX_cons hx
  obtain ⟨y, _, h3, rfl, eb, hx⟩ := argsX_cons hx
  obtain ⟨rfl, rfl⟩ := argsX_nil hx
  obtain ⟨a, rfl, wa, rfl⟩ := argX_int Try.underlying5 ea
  obtain ⟨c, rfl, wc, rfl⟩ := argX_int Try.underlying5 ec
  obtain ⟨ass, eB, rfl⟩ := argX_array Try.underlying23 eb
  obtain ⟨rfl, bl, hbl, _, e5⟩ := listX_ints Try.underlying5 eB
  rw [cellsB_of hbl] at e5
  rw [e5]
  obtain ⟨a, rfl, ha⟩ := u8_nat wa
  obtain ⟨c, rfl, hc⟩ := u8_nat wc
  obtain ⟨v, h', e, rfl⟩ := law_Armed ha hc bl emptyHeap
  exact ranX e
end Go.Proofs.Ytekbgdmemenheaa.Ya
