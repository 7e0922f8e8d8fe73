/-
  Go's library, walked.
-/
import Derived.Test.YtbcmdlaffjmfdaaYaBatSpec
import Derived.Test.YtbcmdlaffjmfdaaYbL
import Derived.Test.YtbcmdlaffjmfdaaYbJ
import Derived.Test.YtbcmdlaffjmfdaaYbK
import Derived.Test.YtbcmdlaffjmfdaaYbK
namespace Go.Proofs.Ytbcmdlaffjmfdaa.Ya
open Go.Ya
set_option linter.unusedVariables false
set_option linter.unusedSimpArgs false
set_option maxRecDepth 100000
set_option maxHeartbeats 8000000

def b62 : SC := (.seq (.ops [⟨some 4, .mov (.c (.nilsl)), none⟩]) (.seq (.seq (.ops [⟨some 5, .mov (.t 1), none⟩, ⟨some 6, .bin (.lss) (.other) (.t 5) (.c (.int (.i64) 0)), none⟩]) (.cond (.t 6) (.ops [⟨some 7, .iface 9 (.c (.str [99, 97, 110, 110, 111, 116, 32, 98, 101, 32, 110, 101, 103, 97, 116, 105, 118, 101])), none⟩, ⟨none, .trap, none⟩]) .skip)) (.seq (.seq (.ops [⟨some 8, .mov (.t 1), none⟩, ⟨some 9, .mov (.t 0), none⟩, ⟨some 10, .cap (.t 9), none⟩, ⟨some 11, .mov (.t 0), none⟩, ⟨some 12, .len (.sl) (.t 11), none⟩, ⟨some 13, .bin (.sub) (.other) (.t 10) (.t 12), none⟩, ⟨some 14, .bin (.sub) (.other) (.t 8) (.t 13), none⟩, ⟨some 1, .mov (.t 14), none⟩]) (.seq (.ops [⟨some 15, .mov (.t 1), none⟩, ⟨some 16, .bin (.gtr) (.other) (.t 15) (.c (.int (.i64) 0)), none⟩]) (.cond (.t 16) (.ops [⟨some 17, .mov (.t 0), none⟩, ⟨some 18, .mov (.t 0), none⟩, ⟨some 19, .cap (.t 18), none⟩, ⟨some 20, .slice 1 (.t 17) none (some (.t 19)) none, none⟩, ⟨some 21, .mov (.t 1), none⟩, ⟨some 22, .appendZ [.int (.u8) 0] 1 1 (.t 20) (.t 21), none⟩, ⟨some 23, .mov (.t 0), none⟩, ⟨some 24, .len (.sl) (.t 23), none⟩, ⟨some 25, .slice 1 (.t 22) none (some (.t 24)) none, none⟩, ⟨some 0, .mov (.t 25), none⟩]) .skip))) (.seq (.ops [⟨some 26, .mov (.t 0), none⟩, ⟨some 4, .mov (.t 26), none⟩]) .ret))))
theorem t62 : tab 62 = some ⟨27, [.tmp 4], b62⟩ := rfl
theorem slices_GrowB {n : Nat} (hn : n ≤ 140737488355328) (h : Heap) : Runs (xcall X1 tab (.fn 62) [.nilsl, .int .i64 (n : Nat)] h) fun v h' => Grow h h' ∧ OwB h.next h' v [] := by
  refine Runs.intro fun K hK => ?_
  rw [w_fn rfl t62 (Nat.le_of_ble_eq_true rfl)]
  delta b62
  repeat' (first
    | simp (disch := first | exact qd | fail) only [WB, ↓WP, ↓WL, WR, WC, if_true, if_false, ite_true, ite_false, aop, ev, evs, readsA, List.replicate, numF, unA, resA, tupA, loadA, storeA, splice, fillA, kindsOk, plainEq, ↓reduceIte, Nat.reduceEqDiff, Nat.reduceLT, Int.reduceToNat, Int.reduceBEq, Int.reduceBNe, Nat.reduceAdd, Nat.reduceMul, Nat.reduceLeDiff, Int.reduceLT, Int.reduceSub, Int.reduceAdd, appendZA, Int.reduceToNat]
    | ((first | refine atC ?_ ?_ | refine atG ?_ ?_ | refine atH ?_ ?_ | refine atP ?_ ?_) <;> intro hc <;> (try rw [hc]) <;> (try simp only [BD] at hc) <;> try (exfalso; omega)))
  all_goals try (first
    | (refine hK _ _ ?_; (first | exact ⟨Grow.refl _, OwC.nil⟩ | exact ⟨qg, .inr ⟨h.next, 0, n, false, List.replicate n (.int .u8 0), rfl, Nat.le_refl _, by rw [Heap.get_note, if_neg (by simp), ga_new rfl]; simp [ints], rfl, by simp [ints], Nat.zero_le _⟩⟩); done))
def L38_0 : SC := (.seq (.ops [⟨some 12, .bin (.lss) (.other) (.t 11) (.t 10), none⟩]) (.seq (.cond (.t 12) .skip (.exit 0)) (.seq (.block 1 (.seq (.ops [⟨some 13, .idxAddrSl 1 (.t 9) (.t 11), none⟩, ⟨some 14, .load false 1 (.t 13), none⟩, ⟨some 5, .mov (.t 14), none⟩]) (.seq (.ops [⟨some 15, .mov (.t 3), none⟩, ⟨some 16, .mov (.t 5), none⟩, ⟨some 17, .len (.sl) (.t 16), none⟩, ⟨some 18, .bin (.add) (.other) (.t 15) (.t 17), none⟩, ⟨some 3, .mov (.t 18), none⟩]) (.seq (.ops [⟨some 19, .mov (.t 3), none⟩, ⟨some 20, .bin (.lss) (.other) (.t 19) (.c (.int (.i64) 0)), none⟩]) (.cond (.t 20) (.ops [⟨some 21, .iface 9 (.c (.str [108, 101, 110, 32, 111, 117, 116, 32, 111, 102, 32, 114, 97, 110, 103, 101])), none⟩, ⟨none, .trap, none⟩]) .skip))))) (.ops [⟨some 22, .bin (.add) (.other) (.t 11) (.c (.int (.i64) 1)), none⟩, ⟨some 11, .mov (.t 22), none⟩]))))
def L38_1 : SC := (.seq (.ops [⟨some 28, .bin (.lss) (.other) (.t 27) (.t 26), none⟩]) (.seq (.cond (.t 28) .skip (.exit 2)) (.seq (.block 3 (.seq (.ops [⟨some 29, .idxAddrSl 1 (.t 25) (.t 27), none⟩, ⟨some 30, .load false 1 (.t 29), none⟩, ⟨some 8, .mov (.t 30), none⟩]) (.ops [⟨some 31, .mov (.t 6), none⟩, ⟨some 32, .mov (.t 8), none⟩, ⟨some 33, .append 1 1 (.t 31) (.t 32), none⟩, ⟨some 6, .mov (.t 33), none⟩]))) (.ops [⟨some 34, .bin (.add) (.other) (.t 27) (.c (.int (.i64) 1)), none⟩, ⟨some 27, .mov (.t 34), none⟩]))))
def b38 : SC := (.seq (.ops [⟨some 2, .mov (.c (.nilsl)), none⟩]) (.seq (.ops [⟨some 3, .mov (.c (.int (.i64) 0)), none⟩]) (.seq (.seq (.ops [⟨some 9, .mov (.t 0), none⟩, ⟨some 10, .len (.sl) (.t 9), none⟩, ⟨some 11, .mov (.c (.int (.i64) 0)), none⟩]) (.block 0 (.loop L38_0))) (.seq (.ops [⟨some 23, .mov (.t 3), none⟩, ⟨some 24, .call 62 [.c (.nilsl), .t 23], none⟩, ⟨some 6, .mov (.t 24), none⟩]) (.seq (.seq (.ops [⟨some 25, .mov (.t 0), none⟩, ⟨some 26, .len (.sl) (.t 25), none⟩, ⟨some 27, .mov (.c (.int (.i64) 0)), none⟩]) (.block 2 (.loop L38_1))) (.seq (.ops [⟨some 35, .mov (.t 6), none⟩, ⟨some 2, .mov (.t 35), none⟩]) .ret))))))
theorem t38 : tab 38 = some ⟨36, [.tmp 2], b38⟩ := rfl
def AllB (h : Heap) (vs : List (AV × List Int)) : Prop := ∀ x ∈ vs, BytesAt h x.1 x.2
theorem AllB.get {h : Heap} {vs : List (AV × List Int)} (a : AllB h vs) {i : Nat} (hi : i < vs.length) : BytesAt h (vs.getD i default).1 (vs.getD i default).2 := by
  rw [List.getD_eq_getElem?_getD, List.getElem?_eq_getElem hi]
  exact a _ (List.getElem_mem hi)
theorem AB_ln {H h' : Heap} {vs : List (AV × List Int)} {i : Nat} (a : Asm (AllB H vs)) (hi : i < vs.length) : lenS (vs.getD i default).1 h' = some (.int .i64 (vs.getD i default).2.length, h') := (a.out.get hi).ln h'
def encV (x : AV × List Int) : List AV := [x.1]
theorem encV_def (x : AV × List Int) : encV x = [x.1] := rfl
theorem rd3 {h : Heap} {id cap : Nat} {ex ro : Bool} {a b c : AV} {x y z : List Int} (hg : h.get id = some (.cells [a, b, c] ro)) : Rd 1 h (.slice id 0 3 cap ex 1) ([(a, x), (b, y), (c, z)].map encV) :=
  ⟨fun r hr => by obtain ⟨q, _, rfl⟩ := List.mem_map.1 hr; rfl, .inr ⟨id, 0, cap, ex, _, ro, rfl, hg, by simp, by simp [encV]⟩⟩
theorem all3 {h : Heap} {a b c : AV} {x y z : List Int} (h1 : BytesAt h a x) (h2 : BytesAt h b y) (h3 : BytesAt h c z) : AllB h [(a, x), (b, y), (c, z)] := fun q hq => by
  simp only [List.mem_cons, List.not_mem_nil, or_false] at hq
  rcases hq with rfl | rfl | rfl
  · exact h1
  · exact h2
  · exact h3
def catN (vs : List (AV × List Int)) (i : Nat) : List Int := (vs.take i).flatMap (·.2)
theorem catN_0 (vs : List (AV × List Int)) : catN vs 0 = [] := rfl
theorem catN_s {vs : List (AV × List Int)} {i : Nat} (hi : i < vs.length) : catN vs (i + 1) = catN vs i ++ (vs.getD i default).2 := by
  unfold catN
  rw [List.take_add_one, List.getElem?_eq_getElem hi, List.getD_eq_getElem?_getD, List.getElem?_eq_getElem hi, List.flatMap_append]
  simp
theorem catN_sl {vs : List (AV × List Int)} {i : Nat} (hi : i < vs.length) : (catN vs (i + 1)).length = (catN vs i).length + (vs.getD i default).2.length := by rw [catN_s hi, List.length_append]
theorem catN_all (vs : List (AV × List Int)) : catN vs vs.length = vs.flatMap (·.2) := by unfold catN; rw [List.take_length]
theorem catN_le (vs : List (AV × List Int)) (i : Nat) : (catN vs i).length ≤ (vs.flatMap (·.2)).length := by
  unfold catN
  conv => rhs; rw [← List.take_append_drop i vs, List.flatMap_append, List.length_append]
  omega
theorem slices_ConcatB (vs : List (AV × List Int)) {V : AV} {h : Heap} (hV : Rd 1 h V (vs.map encV)) (ha : AllB h vs) (hl : vs.length ≤ 1000000) (hs : (vs.flatMap (·.2)).length ≤ 140737488355328) : Runs (xcall X1 tab (.fn 38) [V] h) fun v h' => Grow h h' ∧ OwB h.next h' v (vs.flatMap (·.2)) := by
  refine Runs.intro fun K hK => ?_
  have hle := catN_le vs
  rw [w_fn rfl t38 (Nat.le_of_ble_eq_true rfl)]
  delta b38
  repeat' (first
    | simp (disch := first | exact qd | fail) only [WB, ↓WP, ↓WL, WR, WC, if_true, if_false, ite_true, ite_false, aop, ev, evs, readsA, List.replicate, numF, unA, resA, tupA, loadA, storeA, splice, fillA, kindsOk, plainEq, ↓reduceIte, Nat.reduceEqDiff, Nat.reduceLT, Int.reduceToNat, Int.reduceBEq, Int.reduceBNe, Nat.reduceAdd, Nat.reduceMul, Nat.reduceLeDiff, Int.reduceLT, Int.reduceSub, Int.reduceAdd, AB_ln, encV_def]
    | ((first | refine atC ?_ ?_ | refine atG ?_ ?_ | refine atH ?_ ?_ | refine atP ?_ ?_) <;> intro hc <;> (try rw [hc]) <;> (try simp only [BD] at hc) <;> try (exfalso; omega))
    | ((first
      | (refine Runs.call (slices_GrowB qo _) ?_; rintro w0 _ ⟨gr, hO⟩)
      | fail); all_goals ((try (have gn := gr.1; try simp only [nx_alloc, nx_set] at gn)); (try (have an := ha.num; try simp only [nx_alloc, nx_set, own_sl, own_nil] at an)); (try (have on := hO.num; try simp only [nx_alloc, nx_set] at on)); (try (have kn := hk.1; try simp only [nx_alloc, nx_set] at kn)); try have hB := hO.at)))
  all_goals try (first
    | (refine hK _ _ ?_; obtain rfl : k = vs.length := qo; rw [catN_all] at hO; exact ⟨qg, hO⟩; done))
  all_goals
    refine wloop (α := Nat) [0, 9, 10] (fun x => [(3, .int .i64 ((catN vs x).length : Nat)), (11, .int .i64 (x : Nat))]) (fun x H => h = H ∧ x ≤ vs.length) (fun x => vs.length - x) ?_ (0) ?_ ?_
    rotate_left
    · exact qf
    · (try dsimp only)
      ((repeat' with_reducible apply And.intro) <;> first | rfl | assumption | omega | (show Grow _ _; ((repeat' (first | exact Grow.refl _ | assumption | exact Grow.alloc _ _ | refine Grow.allocR ?_ _ | refine Grow.noteR ?_ _ _ | refine Grow.setR ?_ _ ?_ ?_ | omega | (simp only [nx_alloc, nx_set, own_sl, own_nil] <;> omega) | (refine App.grow (by assumption) ?_ ?_) | (refine Pok.grow (by assumption) ?_ ?_) | (apply Grow.trans; rotate_left; assumption) | fail)); first | done | fail); done) | exact pre_zero | fail | grind)
    intro i b1 H hI ih
    try dsimp only at hI
    obtain ⟨rfl, hi⟩ := hI
    have hcs := fun q => catN_s (vs := vs) (i := i) q
    have hcl := fun q => catN_sl (vs := vs) (i := i) q
    have hle0 := hle i
    have hle1 := hle (i + 1)
    try have gn := g.1
    refine w_unfold (by delta L38_0; rfl) ?_
    simp only [keeps_nil, keeps_cons, List.cons_append, List.nil_append, lk_cons, lk_nil, numF, Nat.reduceEqDiff, Nat.reduceAdd, Nat.zero_add, ↓reduceIte]
    repeat' (first
      | simp (disch := first | exact qd | fail) only [WB, ↓WP, ↓WL, WR, WC, if_true, if_false, ite_true, ite_false, aop, ev, evs, readsA, List.replicate, numF, unA, resA, tupA, loadA, storeA, splice, fillA, kindsOk, plainEq, ↓reduceIte, Nat.reduceEqDiff, Nat.reduceLT, Int.reduceToNat, Int.reduceBEq, Int.reduceBNe, Nat.reduceAdd, Nat.reduceMul, Nat.reduceLeDiff, Int.reduceLT, Int.reduceSub, Int.reduceAdd, AB_ln, encV_def]
      | ((first | refine atC ?_ ?_ | refine atG ?_ ?_ | refine atH ?_ ?_ | refine atP ?_ ?_) <;> intro hc <;> (try rw [hc]) <;> (try simp only [BD] at hc) <;> try (exfalso; omega))
      | ((first
        | (refine Runs.call (slices_GrowB qo _) ?_; rintro w0 _ ⟨gr, hO⟩)
        | fail); all_goals ((try (have gn := gr.1; try simp only [nx_alloc, nx_set] at gn)); (try (have an := ha.num; try simp only [nx_alloc, nx_set, own_sl, own_nil] at an)); (try (have on := hO.num; try simp only [nx_alloc, nx_set] at on)); (try (have kn := hk.1; try simp only [nx_alloc, nx_set] at kn)); try have hB := hO.at)))
    all_goals try (first
      | exact ih (i + 1) _ _ _ (by ((try dsimp only); omega)) (by exact qf) (by ((try dsimp only); ((repeat' with_reducible apply And.intro) <;> first | rfl | assumption | omega | (show Grow _ _; ((repeat' (first | exact Grow.refl _ | assumption | exact Grow.alloc _ _ | refine Grow.allocR ?_ _ | refine Grow.noteR ?_ _ _ | refine Grow.setR ?_ _ ?_ ?_ | omega | (simp only [nx_alloc, nx_set, own_sl, own_nil] <;> omega) | (refine App.grow (by assumption) ?_ ?_) | (refine Pok.grow (by assumption) ?_ ?_) | (apply Grow.trans; rotate_left; assumption) | fail)); first | done | fail); done) | exact pre_zero | fail | grind)))
      | (refine hK _ _ ?_; obtain rfl : k = vs.length := qo; rw [catN_all] at hO; exact ⟨qg, hO⟩; done))
    all_goals
      refine wloop (α := Nat × AV) [25, 26] (fun x => [(6, x.2), (27, .int .i64 (x.1 : Nat))]) (fun x H => OwB h.next H x.2 (catN vs x.1) ∧ Grow h H ∧ x.1 ≤ vs.length) (fun x => vs.length - x.1) ?_ ((0, w0)) ?_ ?_
      rotate_left
      · exact qf
      · (try dsimp only)
        exact ⟨hO, qg, by omega⟩
      intro x b1 H hI ih
      obtain ⟨k, w⟩ := x
      try dsimp only at hI
      obtain ⟨hO, g, hk⟩ := hI
      have on := hO.num
      have hcs := fun q => catN_s (vs := vs) (i := k) q
      have hle0 := hle k
      have hle1 := hle (k + 1)
      try have gn := g.1
      refine w_unfold (by delta L38_1; rfl) ?_
      simp only [keeps_nil, keeps_cons, List.cons_append, List.nil_append, lk_cons, lk_nil, numF, Nat.reduceEqDiff, Nat.reduceAdd, Nat.zero_add, ↓reduceIte]
      repeat' (first
        | simp (disch := first | exact qd | fail) only [WB, ↓WP, ↓WL, WR, WC, if_true, if_false, ite_true, ite_false, aop, ev, evs, readsA, List.replicate, numF, unA, resA, tupA, loadA, storeA, splice, fillA, kindsOk, plainEq, ↓reduceIte, Nat.reduceEqDiff, Nat.reduceLT, Int.reduceToNat, Int.reduceBEq, Int.reduceBNe, Nat.reduceAdd, Nat.reduceMul, Nat.reduceLeDiff, Int.reduceLT, Int.reduceSub, Int.reduceAdd, AB_ln, encV_def]
        | ((first | refine atC ?_ ?_ | refine atG ?_ ?_ | refine atH ?_ ?_ | refine atP ?_ ?_) <;> intro hc <;> (try rw [hc]) <;> (try simp only [BD] at hc) <;> try (exfalso; omega))
        | ((first
          | (refine Runs.call (slices_GrowB qo _) ?_; rintro w0 _ ⟨gr, hO⟩)
          | (refine Runs.call (OwB.app (hO.grow qg) qo ((ha.get (i := k) qo).grow qg).src (by rw [← List.length_append, ← hcs qo]; omega)) ?_; rintro _ _ ⟨hO, ha⟩)
          | fail); all_goals ((try (have gn := gr.1; try simp only [nx_alloc, nx_set] at gn)); (try (have an := ha.num; try simp only [nx_alloc, nx_set, own_sl, own_nil] at an)); (try (have on := hO.num; try simp only [nx_alloc, nx_set] at on)); (try (have kn := hk.1; try simp only [nx_alloc, nx_set] at kn)); try have hB := hO.at)))
      all_goals try (first
        | exact ih ((k + 1, _)) _ _ _ (by ((try dsimp only); omega)) (by exact qf) (by ((try dsimp only); exact ⟨by rw [hcs qo]; exact hO, qg, by omega⟩))
        | exact ih (i + 1) _ _ _ (by ((try dsimp only); omega)) (by exact qf) (by ((try dsimp only); ((repeat' with_reducible apply And.intro) <;> first | rfl | assumption | omega | (show Grow _ _; ((repeat' (first | exact Grow.refl _ | assumption | exact Grow.alloc _ _ | refine Grow.allocR ?_ _ | refine Grow.noteR ?_ _ _ | refine Grow.setR ?_ _ ?_ ?_ | omega | (simp only [nx_alloc, nx_set, own_sl, own_nil] <;> omega) | (refine App.grow (by assumption) ?_ ?_) | (refine Pok.grow (by assumption) ?_ ?_) | (apply Grow.trans; rotate_left; assumption) | fail)); first | done | fail); done) | exact pre_zero | fail | grind)))
        | (refine hK _ _ ?_; obtain rfl : k = vs.length := qo; rw [catN_all] at hO; exact ⟨qg, hO⟩; done))
theorem bytes_Clone {v : AV} {bs : List Int} {h : Heap} (hb : BytesAt h v bs) (hl : bs.length ≤ 140737488355328) : Runs (xcall X1 tab (.fn 49) [v] h) fun v' h' => Grow h h' ∧ NewBytes h h' v' bs ∧ (v = .nilsl ↔ v' = .nilsl) := by
  obtain ⟨v', h', e, g, n⟩ := clone_spec (X := X1) (SP := tab) (f := 49) (fun _ _ => rfl) (show tab 49 = some cloneS from rfl) hb hl
  exact ⟨v', h', e, g, n⟩
theorem f0_Copy {v : AV} {bs : List Int} {h : Heap} (hb : BytesAt h v bs) (hl : bs.length ≤ 140737488355328) : Runs (xcall X1 tab (.fn 36) [v] h) fun v' h' => Grow h h' ∧ FreshBytes h h' v' bs := by
  obtain ⟨v', h', e, g, n⟩ := copy_spec (X := X1) (SP := tab) (f := 36) (fun _ _ => rfl) (show tab 36 = some copyS from rfl) hb hl
  exact ⟨v', h', e, g, n⟩
theorem f0_Same {a b : AV} {x y : List Int} {h : Heap} (ha : BytesAt h a x) (hb : BytesAt h b y) : Runs (xcall X1 tab (.fn 16) [a, b] h) fun v' h' => v' = .bool (x == y) ∧ h = h' := Runs.eq (same_spec (X := X1) (SP := tab) (f := 16) (fun _ _ => rfl) (show tab 16 = some sameS from rfl) ha hb)
theorem f0_Wide {v : AV} {bs : List Int} {h : Heap} (hb : BytesAt h v bs) (hl : bs.length + 3 ≤ 140737488355328) : Runs (xcall X1 tab (.fn 9) [v] h) fun v' h' => Grow h h' ∧ ∃ w, v' = .slice w 0 bs.length (bs.length + 3) false 1 ∧ h.next ≤ w ∧ w < h'.next ∧ WideAt h' w bs := by
  obtain ⟨w, h', e, g, e1, e2, e3⟩ := wide_spec (X := X1) (SP := tab) (f := 9) (fC := 36) (fun _ _ => rfl) (fun _ _ => rfl) (show tab 9 = some (wideS 36) from rfl) (show tab 36 = some copyS from rfl) hb hl
  exact ⟨_, h', e, g, w, rfl, e1, Heap.lt_of_get e2, e2, e3⟩
theorem f0_Left {h : Heap} {w : Nat} {bs : List Int} {v : AV} (hw : WideAt h w bs) (hb : BytesAt h v bs) : Runs (xcall X1 tab (.fn 20) [.slice w 0 bs.length (bs.length + 3) false 1, v] h) fun v' h' => v' = .bool true ∧ h = h' := Runs.eq (left_wide hkLeft hw hb)
end Go.Proofs.Ytbcmdlaffjmfdaa.Ya
