/-
  The writer.
-/
import Derived.Test.YtpoccinfeekdhaaDoorYaLNum
import Derived.Test.YtpoccinfeekdhaaDoorYbL
namespace Go.Proofs.YtpoccinfeekdhaaDoor.Ya
open Go.Ya
set_option linter.unusedVariables false
set_option linter.unusedSimpArgs false
set_option maxRecDepth 100000
set_option maxHeartbeats 8000000
def padN (n : Nat) : Nat := (4 - n % 4) % 4
theorem padN_le (n : Nat) : padN n ≤ 3 := by unfold padN; omega
theorem and3' {m : Int} : IntKind.i64.wrap (((BitVec.ofInt IntKind.i64.bits m &&& BitVec.ofInt IntKind.i64.bits 3).toNat : Nat) : Int) = m % 4 := by
  have h1 : (BitVec.ofInt IntKind.i64.bits m &&& BitVec.ofInt IntKind.i64.bits 3).toNat = (BitVec.ofInt IntKind.i64.bits m).toNat % 4 := by
    rw [BitVec.toNat_and]
    exact Nat.and_two_pow_sub_one_eq_mod _ 2
  have h2 : ((BitVec.ofInt IntKind.i64.bits m).toNat : Int) = m % 18446744073709551616 := by
    rw [BitVec.toNat_ofInt]
    show ((m % (2 ^ 64 : Nat)).toNat : Int) = _
    rw [Int.toNat_of_nonneg (Int.emod_nonneg _ (by decide))]
    rfl
  rw [h1]
  have h3 : (((BitVec.ofInt IntKind.i64.bits m).toNat % 4 : Nat) : Int) = m % 4 := by
    rw [Int.natCast_emod, h2]; omega
  rw [h3, IntWalk.i64_in _ qo]
theorem max0 {n : Nat} : maxA (.int .i64 (n : Nat)) [.int .i64 0] = some (.int .i64 (n : Nat)) := by
  have : ¬ (0 : Int) > (n : Nat) := by omega
  simp only [maxA, if_true, this, if_false]
theorem tmod4 {n : Nat} : (n : Int).tmod 4 = (n : Int) % 4 := Int.tmod_eq_emod_of_nonneg qo
theorem t61 : tab 61 = some ⟨7, [.tmp 2], b61⟩ := rfl
theorem num_Pad {n : Nat} (hn : n ≤ 4611686018427387904) (h : Heap) : Runs (xcall X1 tab (.fn 61) [.int .i64 (n : Nat)] h) fun v h' => v = .int .i64 (padN n : Nat) ∧ h = h' := by
  refine Runs.intro fun K hK => ?_
  rw [w_fn rfl t61 (Nat.le_of_ble_eq_true rfl)]
  delta b61
  repeat' (first
    | simp (disch := first | exact qd | fail) only [WB, ↓WP, ↓WL, WR, WC, if_true, if_false, ite_true, ite_false, aop, ev, evs, readsA, List.replicate, numF, unA, resA, tupA, loadA, storeA, splice, fillA, kindsOk, plainEq, ↓reduceIte, Nat.reduceEqDiff, Nat.reduceLT, Int.reduceToNat, Int.reduceBEq, Int.reduceBNe, Nat.reduceAdd, Nat.reduceMul, Nat.reduceLeDiff, Int.reduceLT, Int.reduceSub, Int.reduceAdd, and3', max0]
    | ((first | refine atC ?_ ?_ | refine atG ?_ ?_ | refine atH ?_ ?_ | refine atP ?_ ?_) <;> intro hc <;> (try rw [hc]) <;> (try simp only [BD] at hc) <;> try (exfalso; omega)))
  all_goals try (first
    | (refine hK _ _ ?_; (refine ⟨?_, rfl⟩; congr 1; unfold padN; omega); done)
    | fail)
theorem t37 : tab 37 = some ⟨13, [.tmp 2], b37⟩ := rfl
theorem ref01_Pad {n : Nat} (hn : n ≤ 4611686018427387904) (h : Heap) : Runs (xcall X1 tab (.fn 37) [.int .i64 (n : Nat)] h) fun v h' => v = .int .i64 (padN n : Nat) ∧ h = h' := by
  refine Runs.intro fun K hK => ?_
  rw [w_fn rfl t37 (Nat.le_of_ble_eq_true rfl)]
  delta b37
  repeat' (first
    | simp (disch := first | exact qd | fail) only [WB, ↓WP, ↓WL, WR, WC, if_true, if_false, ite_true, ite_false, aop, ev, evs, readsA, List.replicate, numF, unA, resA, tupA, loadA, storeA, splice, fillA, kindsOk, plainEq, ↓reduceIte, Nat.reduceEqDiff, Nat.reduceLT, Int.reduceToNat, Int.reduceBEq, Int.reduceBNe, Nat.reduceAdd, Nat.reduceMul, Nat.reduceLeDiff, Int.reduceLT, Int.reduceSub, Int.reduceAdd, tmod4]
    | ((first | refine atC ?_ ?_ | refine atG ?_ ?_ | refine atH ?_ ?_ | refine atP ?_ ?_) <;> intro hc <;> (try rw [hc]) <;> (try simp only [BD] at hc) <;> try (exfalso; omega)))
  all_goals try (first
    | (refine hK _ _ ?_; (refine ⟨?_, rfl⟩; congr 1; unfold padN; omega); done)
    | fail)
def Wr (n : Nat) (H : Heap) (p : Nat) (bs : List Int) : Prop := ∃ b, H.get p = some (.cells [b] false) ∧ OwB n H b bs ∧ n ≤ p ∧ own b ≠ p + 1
theorem Wr.grow {n p : Nat} {H H' : Heap} {bs : List Int} (f : Wr n H p bs) (g : Grow H H') : Wr n H' p bs := by
  obtain ⟨b, h1, h2, h3⟩ := f
  exact ⟨b, g.get h1, h2.grow g, h3⟩
def Wf (p : Nat) (h h' : Heap) : Prop := h.next ≤ h'.next ∧ ∀ b, h.get p = some (.cells [b] false) → (∃ b', h'.get p = some (.cells [b'] false) ∧ (own b' = own b ∨ h.next < own b')) ∧ ∀ j, j < h.next → j ≠ p → j + 1 ≠ own b → h'.get j = h.get j
theorem Wf.trans {p : Nat} {h h1 h2 : Heap} (a : Wf p h h1) (c : Wf p h1 h2) : Wf p h h2 := ⟨Nat.le_trans a.1 c.1, fun b hb => by
  obtain ⟨⟨b1, e1, o1⟩, k1⟩ := a.2 b hb
  obtain ⟨⟨b2, e2, o2⟩, k2⟩ := c.2 b1 e1
  have := a.1
  exact ⟨⟨b2, e2, by omega⟩, fun j h1 h2 h3 => (k2 j qo h2 qo).trans (k1 j h1 h2 h3)⟩⟩
theorem Wf.of {p : Nat} {h h' : Heap} (g : Grow h h') : Wf p h h' := ⟨g.1, fun b hb => ⟨⟨b, g.get hb, .inl rfl⟩, fun j hj _ _ => g.2 j hj⟩⟩
theorem Wf.get {p : Nat} {h h' : Heap} (a : Wf p h h') {b : AV} (hb : h.get p = some (.cells [b] false)) {j : Nat} {ob : AObj} (hj : h.get j = some ob) (h1 : j ≠ p) (h2 : j + 1 ≠ own b) : h'.get j = some ob := ((a.2 b hb).2 j (Heap.lt_of_get hj) h1 h2).trans hj
theorem bytes_fl {h : Heap} {v : AV} {bs : List Int} (hb : BytesAt h v bs) : v.flat = true := by
  rcases hb with ⟨rfl, _⟩ | ⟨_, _, _, _, _, _, rfl, _⟩ <;> rfl
theorem Wr.slot {n p : Nat} {H H' : Heap} {bs : List Int} {ob : AObj} (f : Wr n H p bs) (w : Wf p (H.alloc ob) H') : H'.get H.next = some ob := by
  obtain ⟨b, h1, h2, h3, h4⟩ := f
  have hp := Heap.lt_of_get h1
  have on := h2.num
  exact Wf.get w ((Grow.alloc H ob).get h1) (ga_new rfl) qo qo
theorem Wr.entry {h0 h : Heap} {p : Nat} {bs xs : List Int} {v : AV} (f : Wr h0.next h p bs) (g : Grow h0 h) (hv : BytesAt h0 v xs) : ∀ H', Wf p h H' → BytesAt H' v xs := fun H' w => by
  obtain ⟨b, h1, h2, h3, h4⟩ := f
  have on := h2.num
  rcases hv with e | ⟨id, off, cap, ex, c, ro, rfl, e2, e3, e4⟩
  · exact .inl e
  · have := Heap.lt_of_get e3
    exact .inr ⟨id, off, cap, ex, c, ro, rfl, e2, Wf.get w h1 (g.get e3) qo qo, e4⟩
theorem Wr.fresh {n p : Nat} {H : Heap} {bs s : List Int} (f : Wr n H p bs) : ∀ H', Wf p (H.alloc (.cells (s.map (AV.int .u8)) false)) H' → BytesAt H' (.slice H.next 0 s.length s.length false 1) s := fun H' w => .inr ⟨_, 0, _, _, _, _, rfl, Nat.le_refl _, f.slot w, by simp, by simp [ints, List.take_of_length_le]⟩
theorem NewBytes.le {h h1 h2 : Heap} {v : AV} {bs : List Int} (hn : NewBytes h1 h2 v bs) (hle : h.next ≤ h1.next) : NewBytes h h2 v bs := by
  rcases hn with e | ⟨id, cap, ex, e, e1, e2, e3, e4⟩
  · exact .inl e
  · exact .inr ⟨id, cap, ex, e, e1, e2, by omega, e4⟩
theorem Wr.new {n : Nat} {H : Heap} (hn : n ≤ H.next) : Wr n (H.alloc (.cells [.nilsl] false)) H.next [] := ⟨.nilsl, ga_new rfl, OwC.nil, hn, by simp [own]⟩
def encB (xs : List Int) : List Int := beL xs.length 4 ++ xs ++ List.replicate (padN xs.length) 0
theorem encB_app {bs xs : List Int} : bs ++ encB xs = bs ++ beL xs.length 4 ++ xs ++ List.replicate (padN xs.length) 0 := by simp [encB]
theorem encB_len (xs : List Int) : (encB xs).length = 4 + xs.length + padN xs.length := by simp [encB, beL_len]; omega
theorem Src.zeros {h : Heap} {id k cap : Nat} {ex ro : Bool} (hg : h.get id = some (.cells (List.replicate k [.int .u8 0]).flatten ro)) : Src h (.slice id 0 k cap ex 1) (List.replicate k 0) := ⟨by simp [lenA], by simp [firstA, hg, ints]⟩
theorem ptr_nn {p o : Nat} : binA .neq .ptr (.ptr p o) .nilptr = some (.bool true) := rfl
theorem ptr_en {p o : Nat} : binA .eql .ptr (.ptr p o) .nilptr = some (.bool false) := rfl
theorem sz4 : Sz 4 := .inr (.inr (.inl rfl))
theorem sz8 : Sz 8 := .inr (.inr (.inr rfl))
theorem zeros_len (k : Nat) : (List.replicate k (0 : Int)).length = k := List.length_replicate
theorem tn_cast {n : Nat} : ((n : Int)).toNat = n := rfl
theorem t76 : tab 76 = some ⟨15, [], b76⟩ := rfl
theorem w_lay {h0 h : Heap} {p : Nat} {bs ys : List Int} {y : AV} (g : Grow h0 h) (f : Wr h0.next h p bs) (hy : Src h y ys) (hl : bs.length + ys.length ≤ 140737488355328) : Runs (xcall X1 tab (.fn 76) [.ptr p 0, y] h) fun v h' => Grow h0 h' ∧ Wr h0.next h' p (bs ++ ys) ∧ Wf p h h' := by
  refine Runs.intro fun K hK => ?_
  obtain ⟨b, hg, hO, hnp, hne⟩ := f
  have hp := Heap.lt_of_get hg
  have hfl := hO.fl
  have hcl := cells_of hfl
  have on := hO.num
  rw [w_fn rfl t76 (Nat.le_of_ble_eq_true rfl)]
  delta b76
  repeat' (first
    | simp (disch := first | exact qd | fail) only [WB, ↓WP, ↓WL, WR, WC, if_true, if_false, ite_true, ite_false, aop, ev, evs, readsA, List.replicate, numF, unA, resA, tupA, loadA, storeA, splice, fillA, kindsOk, plainEq, ↓reduceIte, Nat.reduceEqDiff, Nat.reduceLT, Int.reduceToNat, Int.reduceBEq, Int.reduceBNe, Nat.reduceAdd, Nat.reduceMul, Nat.reduceLeDiff, Int.reduceLT, Int.reduceSub, Int.reduceAdd, hg, hfl, hcl, ptr_nn, ptr_en]
    | ((first | refine atC ?_ ?_ | refine atG ?_ ?_ | refine atH ?_ ?_ | refine atP ?_ ?_) <;> intro hc <;> (try rw [hc]) <;> (try simp only [BD] at hc) <;> try (exfalso; omega))
    | ((first
      | (refine Runs.call (OwB.app hO qo hy hl) ?_; rintro b2 H2 ⟨hO2, ha⟩; have on2 := hO2.num; have hfl2 := hO2.fl; have hcl2 := cells_of hfl2; have hg2 := (ha.get hp qo).trans hg)
      | fail); all_goals ((try (have gn := gr.1; try simp only [nx_alloc, nx_set] at gn)); (try (have an := ha.num; try simp only [nx_alloc, nx_set, own_sl, own_nil] at an)); (try (have on := hO.num; try simp only [nx_alloc, nx_set] at on)); (try (have kn := hk.1; try simp only [nx_alloc, nx_set] at kn)); try have hB := hO.at)))
  all_goals try (first
    | (refine hK _ _ ?_; refine ⟨qg, ⟨b2, qs, hO2.keep (fun j hj he => qs), hnp, by have := ha.num; omega⟩, by have := ha.num; simp only [nx_set]; omega, fun b3 hb3 => ?_⟩; obtain rfl : b = b3 := (by rw [hg] at hb3; injection hb3 with q; injection q with q; injection q); exact ⟨⟨b2, qs, by have := ha.num; omega⟩, fun j h1 h2 h3 => qs⟩; done)
    | fail)
theorem t66 : tab 66 = some ⟨17, [], b66⟩ := rfl
theorem w_number {h0 h : Heap} {p : Nat} {bs : List Int} (g : Grow h0 h) (f : Wr h0.next h p bs) {n : Int} {s : Nat} (hs : Sz s) (n0 : 0 ≤ n) (n1 : n < 256 ^ s) (hl : bs.length ≤ 1000000000) : Runs (xcall X1 tab (.fn 66) [.ptr p 0, .int .u64 n, .int .i64 (s : Nat)] h) fun v h' => Grow h0 h' ∧ Wr h0.next h' p (bs ++ beL n s) ∧ Wf p h h' := by
  refine Runs.intro fun K hK => ?_
  have hsl := hs.le
  have hbl := beL_len n s
  rw [w_fn rfl t66 (Nat.le_of_ble_eq_true rfl)]
  delta b66
  repeat' (first
    | simp (disch := first | exact qd | fail) only [WB, ↓WP, ↓WL, WR, WC, if_true, if_false, ite_true, ite_false, aop, ev, evs, readsA, List.replicate, numF, unA, resA, tupA, loadA, storeA, splice, fillA, kindsOk, plainEq, ↓reduceIte, Nat.reduceEqDiff, Nat.reduceLT, Int.reduceToNat, Int.reduceBEq, Int.reduceBNe, Nat.reduceAdd, Nat.reduceMul, Nat.reduceLeDiff, Int.reduceLT, Int.reduceSub, Int.reduceAdd]
    | ((first | refine atC ?_ ?_ | refine atG ?_ ?_ | refine atH ?_ ?_ | refine atP ?_ ?_) <;> intro hc <;> (try rw [hc]) <;> (try simp only [BD] at hc) <;> try (exfalso; omega))
    | ((first
      | (refine Runs.call (num_Put hs n0 n1 _) ?_; rintro _ H1 ⟨gr, b1, rfl, hB⟩; have hfb := hB.fl; have hcb := cells_of hfb)
      | (refine Runs.call (w_lay (h0 := h0) qg (f.grow qg) hB.at.src qo) ?_; rintro _ H2 ⟨gr2, f2, k2⟩)
      | fail); all_goals ((try (have gn := gr.1; try simp only [nx_alloc, nx_set] at gn)); (try (have an := ha.num; try simp only [nx_alloc, nx_set, own_sl, own_nil] at an)); (try (have on := hO.num; try simp only [nx_alloc, nx_set] at on)); (try (have kn := hk.1; try simp only [nx_alloc, nx_set] at kn)); try have hB := hO.at)))
  all_goals try (first
    | (refine hK _ _ ?_; exact ⟨gr2, f2, (Wf.of gr).trans k2⟩; done)
    | fail)
theorem t48 : tab 48 = some ⟨8, [], b48⟩ := rfl
theorem w_Number {h0 h : Heap} {p : Nat} {bs : List Int} (g : Grow h0 h) (f : Wr h0.next h p bs) {n : Int} (n0 : 0 ≤ n) (n1 : n ≤ 4294967295) (hl : bs.length ≤ 1000000000) : Runs (xcall X1 tab (.fn 48) [.ptr p 0, .int .u32 n] h) fun v h' => Grow h0 h' ∧ Wr h0.next h' p (bs ++ beL n 4) ∧ Wf p h h' := by
  refine Runs.intro fun K hK => ?_
  have hp : (256 : Int) ^ 4 = 4294967296 := by decide
  rw [w_fn rfl t48 (Nat.le_of_ble_eq_true rfl)]
  delta b48
  repeat' (first
    | simp (disch := first | exact qd | fail) only [WB, ↓WP, ↓WL, WR, WC, if_true, if_false, ite_true, ite_false, aop, ev, evs, readsA, List.replicate, numF, unA, resA, tupA, loadA, storeA, splice, fillA, kindsOk, plainEq, ↓reduceIte, Nat.reduceEqDiff, Nat.reduceLT, Int.reduceToNat, Int.reduceBEq, Int.reduceBNe, Nat.reduceAdd, Nat.reduceMul, Nat.reduceLeDiff, Int.reduceLT, Int.reduceSub, Int.reduceAdd]
    | ((first | refine atC ?_ ?_ | refine atG ?_ ?_ | refine atH ?_ ?_ | refine atP ?_ ?_) <;> intro hc <;> (try rw [hc]) <;> (try simp only [BD] at hc) <;> try (exfalso; omega))
    | ((first
      | (refine Runs.call (w_number (h0 := h0) (s := 4) g f sz4 n0 qo hl) ?_; rintro _ H2 ⟨gr, f2, k2⟩)
      | fail); all_goals ((try (have gn := gr.1; try simp only [nx_alloc, nx_set] at gn)); (try (have an := ha.num; try simp only [nx_alloc, nx_set, own_sl, own_nil] at an)); (try (have on := hO.num; try simp only [nx_alloc, nx_set] at on)); (try (have kn := hk.1; try simp only [nx_alloc, nx_set] at kn)); try have hB := hO.at)))
  all_goals try (first
    | (refine hK _ _ ?_; exact ⟨gr, f2, k2⟩; done)
    | fail)
theorem t49 : tab 49 = some ⟨7, [], b49⟩ := rfl
theorem w_Great {h0 h : Heap} {p : Nat} {bs : List Int} (g : Grow h0 h) (f : Wr h0.next h p bs) {n : Int} (n0 : 0 ≤ n) (n1 : n ≤ 18446744073709551615) (hl : bs.length ≤ 1000000000) : Runs (xcall X1 tab (.fn 49) [.ptr p 0, .int .u64 n] h) fun v h' => Grow h0 h' ∧ Wr h0.next h' p (bs ++ beL n 8) ∧ Wf p h h' := by
  refine Runs.intro fun K hK => ?_
  have hp : (256 : Int) ^ 8 = 18446744073709551616 := by decide
  rw [w_fn rfl t49 (Nat.le_of_ble_eq_true rfl)]
  delta b49
  repeat' (first
    | simp (disch := first | exact qd | fail) only [WB, ↓WP, ↓WL, WR, WC, if_true, if_false, ite_true, ite_false, aop, ev, evs, readsA, List.replicate, numF, unA, resA, tupA, loadA, storeA, splice, fillA, kindsOk, plainEq, ↓reduceIte, Nat.reduceEqDiff, Nat.reduceLT, Int.reduceToNat, Int.reduceBEq, Int.reduceBNe, Nat.reduceAdd, Nat.reduceMul, Nat.reduceLeDiff, Int.reduceLT, Int.reduceSub, Int.reduceAdd]
    | ((first | refine atC ?_ ?_ | refine atG ?_ ?_ | refine atH ?_ ?_ | refine atP ?_ ?_) <;> intro hc <;> (try rw [hc]) <;> (try simp only [BD] at hc) <;> try (exfalso; omega))
    | ((first
      | (refine Runs.call (w_number (h0 := h0) (s := 8) g f sz8 n0 qo hl) ?_; rintro _ H2 ⟨gr, f2, k2⟩)
      | fail); all_goals ((try (have gn := gr.1; try simp only [nx_alloc, nx_set] at gn)); (try (have an := ha.num; try simp only [nx_alloc, nx_set, own_sl, own_nil] at an)); (try (have on := hO.num; try simp only [nx_alloc, nx_set] at on)); (try (have kn := hk.1; try simp only [nx_alloc, nx_set] at kn)); try have hB := hO.at)))
  all_goals try (first
    | (refine hK _ _ ?_; exact ⟨gr, f2, k2⟩; done)
    | fail)
theorem t77 : tab 77 = some ⟨18, [], b77⟩ := rfl
theorem w_Bytes {h0 h : Heap} {p : Nat} {bs xs : List Int} {v : AV} (g : Grow h0 h) (f : Wr h0.next h p bs) (hk : ∀ q, Wf p h q → BytesAt q v xs) (hx : xs.length ≤ 1000000000) (hl : bs.length ≤ 1000000000) : Runs (xcall X1 tab (.fn 77) [.ptr p 0, v] h) fun v h' => Grow h0 h' ∧ Wr h0.next h' p (bs ++ encB xs) ∧ Wf p h h' := by
  refine Runs.intro fun K hK => ?_
  have hpn := padN_le xs.length
  have hbl := beL_len xs.length 4
  have hzl := zeros_len (padN xs.length)
  have hv := hk h (Wf.of (Grow.refl _))
  have hfl : v.flat = true := bytes_fl hv
  have hcl := cells_of hfl
  rw [w_fn rfl t77 (Nat.le_of_ble_eq_true rfl)]
  delta b77
  repeat' (first
    | simp (disch := first | exact qd | fail) only [WB, ↓WP, ↓WL, WR, WC, if_true, if_false, ite_true, ite_false, aop, ev, evs, readsA, List.replicate, numF, unA, resA, tupA, loadA, storeA, splice, fillA, kindsOk, plainEq, ↓reduceIte, Nat.reduceEqDiff, Nat.reduceLT, Int.reduceToNat, Int.reduceBEq, Int.reduceBNe, Nat.reduceAdd, Nat.reduceMul, Nat.reduceLeDiff, Int.reduceLT, Int.reduceSub, Int.reduceAdd, tn_cast, hfl, hcl]
    | ((first | refine atC ?_ ?_ | refine atG ?_ ?_ | refine atH ?_ ?_ | refine atP ?_ ?_) <;> intro hc <;> (try rw [hc]) <;> (try simp only [BD] at hc) <;> try (exfalso; omega))
    | ((first
      | (refine Runs.call (w_Number (h0 := h0) (n := (xs.length : Nat)) g f qo qo hl) ?_; rintro _ H2 ⟨gr, f2, k2⟩)
      | (refine Runs.call (w_lay (h0 := h0) (ys := xs) qg f2 (hk _ k2).src (by rw [List.length_append]; omega)) ?_; rintro _ H3 ⟨gr, f3, k3⟩; have kA := k2.trans k3)
      | (refine Runs.call (num_Pad (n := xs.length) qo _) ?_; rintro _ _ ⟨rfl, rfl⟩)
      | (refine Runs.call (w_lay (h0 := h0) (ys := List.replicate (padN xs.length) 0) qg (f3.grow qg) (Src.zeros (ga_new rfl)) (by rw [List.length_append, List.length_append]; omega)) ?_; rintro _ H4 ⟨gr, f4, k4⟩)
      | fail); all_goals ((try (have gn := gr.1; try simp only [nx_alloc, nx_set] at gn)); (try (have an := ha.num; try simp only [nx_alloc, nx_set, own_sl, own_nil] at an)); (try (have on := hO.num; try simp only [nx_alloc, nx_set] at on)); (try (have kn := hk.1; try simp only [nx_alloc, nx_set] at kn)); try have hB := hO.at)))
  all_goals try (first
    | (refine hK _ _ ?_; exact ⟨gr, by rw [encB_app]; exact f4, (kA.trans (Wf.of (Grow.alloc _ _))).trans k4⟩; done)
    | fail)
theorem sl_Clone {v : AV} {bs : List Int} {h : Heap} (hb : BytesAt h v bs) (hl : bs.length ≤ 140737488355328) : Runs (xcall X1 tab (.fn 57) [v] h) fun v' h' => Grow h h' ∧ NewBytes h h' v' bs := by
  obtain ⟨v', h', e, g, n, _⟩ := clone_spec (X := X1) (SP := tab) (f := 57) (fun _ _ => rfl) (show tab 57 = some cloneS from rfl) hb hl
  exact ⟨v', h', e, g, n⟩
theorem t51 : tab 51 = some ⟨10, [.tmp 2], b51⟩ := rfl
theorem w_Bare {n0 : Nat} {h : Heap} {p : Nat} {bs : List Int} (f : Wr n0 h p bs) (hl : bs.length ≤ 1000000000) : Runs (xcall X1 tab (.fn 51) [.ptr p 0] h) fun v h' => Grow h h' ∧ NewBytes h h' v bs := by
  refine Runs.intro fun K hK => ?_
  obtain ⟨b, hg, hO, hnp, hne⟩ := f
  have hfl := hO.fl
  have hcl := cells_of hfl
  rw [w_fn rfl t51 (Nat.le_of_ble_eq_true rfl)]
  delta b51
  repeat' (first
    | simp (disch := first | exact qd | fail) only [WB, ↓WP, ↓WL, WR, WC, if_true, if_false, ite_true, ite_false, aop, ev, evs, readsA, List.replicate, numF, unA, resA, tupA, loadA, storeA, splice, fillA, kindsOk, plainEq, ↓reduceIte, Nat.reduceEqDiff, Nat.reduceLT, Int.reduceToNat, Int.reduceBEq, Int.reduceBNe, Nat.reduceAdd, Nat.reduceMul, Nat.reduceLeDiff, Int.reduceLT, Int.reduceSub, Int.reduceAdd, hg, hfl, hcl, ptr_nn, ptr_en]
    | ((first | refine atC ?_ ?_ | refine atG ?_ ?_ | refine atH ?_ ?_ | refine atP ?_ ?_) <;> intro hc <;> (try rw [hc]) <;> (try simp only [BD] at hc) <;> try (exfalso; omega))
    | ((first
      | (refine Runs.call (sl_Clone hO.at qo) ?_; rintro v1 H1 ⟨gr, hN⟩)
      | fail); all_goals ((try (have gn := gr.1; try simp only [nx_alloc, nx_set] at gn)); (try (have an := ha.num; try simp only [nx_alloc, nx_set, own_sl, own_nil] at an)); (try (have on := hO.num; try simp only [nx_alloc, nx_set] at on)); (try (have kn := hk.1; try simp only [nx_alloc, nx_set] at kn)); try have hB := hO.at)))
  all_goals try (first
    | (refine hK _ _ ?_; exact ⟨gr, hN⟩; done)
    | fail)
end Go.Proofs.YtpoccinfeekdhaaDoor.Ya
