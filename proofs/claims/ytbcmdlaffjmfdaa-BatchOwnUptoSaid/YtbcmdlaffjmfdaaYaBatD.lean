/-
  Batch: rows and changes compared; arguments; the run of BatchTells.
-/
import Derived.Test.YtbcmdlaffjmfdaaYaBatC
import Derived.Test.YtbcmdlaffjmfdaaYbL
import Derived.Test.YtbcmdlaffjmfdaaYbK
namespace Go.Proofs.Ytbcmdlaffjmfdaa.Ya
open Go.Ya Go.Ya.Bat
set_option linter.unusedVariables false
set_option linter.unusedSimpArgs false
set_option maxRecDepth 100000
set_option maxHeartbeats 8000000

theorem en_same {l m : List Ro} (hl : l.length = m.length) (h : ∀ i, i < l.length → (l.getD i default).en = (m.getD i default).en) : l.map Ro.en = m.map Ro.en := by
  apply List.ext_getElem (by simpa using hl)
  intro i h1 h2
  simp only [List.length_map] at h1 h2
  have := h i h1
  simp only [List.getD_eq_getElem?_getD, List.getElem?_eq_getElem h1, List.getElem?_eq_getElem h2, Option.getD_some] at this
  simpa using this
theorem en_diff {l m : List Ro} {i : Nat} (hi : i < l.length) (hm : i < m.length) (h : (l.getD i default).en ≠ (m.getD i default).en) : l.map Ro.en ≠ m.map Ro.en := fun e => h (by
  have := congrArg (fun z => z[i]?) e
  simpa [List.getD_eq_getElem?_getD, List.getElem?_eq_getElem hi, List.getElem?_eq_getElem hm] using this)
theorem en_ext {x y : Ro} : x.en = y.en ↔ x.key = y.key ∧ x.val = y.val ∧ x.gone = y.gone := by
  unfold Ro.en; constructor
  · intro h; cases x; cases y; simp_all
  · rintro ⟨h1, h2, h3⟩; rw [h1, h2, h3]
def L17_0 : SC := (.seq (.seq (.ops [⟨some 11, .mov (.t 5), none⟩, ⟨some 12, .mov (.t 0), none⟩, ⟨some 13, .len (.sl) (.t 12), none⟩, ⟨some 14, .bin (.lss) (.other) (.t 11) (.t 13), none⟩]) (.cond (.t 14) .skip (.exit 0))) (.seq (.block 1 (.seq (.ops [⟨some 17, .mov (.t 0), none⟩, ⟨some 18, .mov (.t 5), none⟩, ⟨some 19, .idxAddrSl 3 (.t 17) (.t 18), none⟩, ⟨some 20, .fieldAddr 0 (.t 19), none⟩, ⟨some 21, .load false 1 (.t 20), none⟩, ⟨some 22, .mov (.t 1), none⟩, ⟨some 23, .mov (.t 5), none⟩, ⟨some 24, .idxAddrSl 3 (.t 22) (.t 23), none⟩, ⟨some 25, .fieldAddr 0 (.t 24), none⟩, ⟨some 26, .load false 1 (.t 25), none⟩, ⟨some 27, .bin (.neq) (.str) (.t 21) (.t 26), none⟩, ⟨some 28, .mov (.t 27), none⟩, ⟨some 29, .mov (.t 0), some (28, false)⟩, ⟨some 30, .mov (.t 5), some (28, false)⟩, ⟨some 31, .idxAddrSl 3 (.t 29) (.t 30), some (28, false)⟩, ⟨some 32, .fieldAddr 2 (.t 31), some (28, false)⟩, ⟨some 33, .load false 1 (.t 32), some (28, false)⟩, ⟨some 34, .mov (.t 1), some (28, false)⟩, ⟨some 35, .mov (.t 5), some (28, false)⟩, ⟨some 36, .idxAddrSl 3 (.t 34) (.t 35), some (28, false)⟩, ⟨some 37, .fieldAddr 2 (.t 36), some (28, false)⟩, ⟨some 38, .load false 1 (.t 37), some (28, false)⟩, ⟨some 39, .bin (.neq) (.bool) (.t 33) (.t 38), some (28, false)⟩, ⟨some 40, .pick (.t 28) (.c (.bool true)) (.t 39), none⟩, ⟨some 41, .mov (.t 40), none⟩, ⟨some 42, .mov (.t 0), some (41, false)⟩, ⟨some 43, .mov (.t 5), some (41, false)⟩, ⟨some 44, .idxAddrSl 3 (.t 42) (.t 43), some (41, false)⟩, ⟨some 45, .fieldAddr 1 (.t 44), some (41, false)⟩, ⟨some 46, .load false 1 (.t 45), some (41, false)⟩, ⟨some 47, .mov (.t 1), some (41, false)⟩, ⟨some 48, .mov (.t 5), some (41, false)⟩, ⟨some 49, .idxAddrSl 3 (.t 47) (.t 48), some (41, false)⟩, ⟨some 50, .fieldAddr 1 (.t 49), some (41, false)⟩, ⟨some 51, .load false 1 (.t 50), some (41, false)⟩, ⟨some 52, .call 16 [.t 46, .t 51], some (41, false)⟩, ⟨some 53, .un (.not) (.t 52), some (41, false)⟩, ⟨some 54, .pick (.t 41) (.c (.bool true)) (.t 53), none⟩]) (.cond (.t 54) (.seq (.ops [⟨some 4, .mov (.c (.bool false)), none⟩]) .ret) .skip))) (.ops [⟨some 15, .mov (.t 5), none⟩, ⟨some 16, .bin (.add) (.other) (.t 15) (.c (.int (.i64) 1)), none⟩, ⟨some 5, .mov (.t 16), none⟩])))
def b17 : SC := (.seq (.ops [⟨some 4, .mov (.c (.bool false)), none⟩]) (.seq (.seq (.ops [⟨some 6, .mov (.t 0), none⟩, ⟨some 7, .len (.sl) (.t 6), none⟩, ⟨some 8, .mov (.t 1), none⟩, ⟨some 9, .len (.sl) (.t 8), none⟩, ⟨some 10, .bin (.neq) (.other) (.t 7) (.t 9), none⟩]) (.cond (.t 10) (.seq (.ops [⟨some 4, .mov (.c (.bool false)), none⟩]) .ret) .skip)) (.seq (.seq (.ops [⟨some 5, .mov (.c (.int (.i64) 0)), none⟩]) (.block 0 (.loop L17_0))) (.seq (.ops [⟨some 4, .mov (.c (.bool true)), none⟩]) .ret))))
theorem t17 : tab 17 = some ⟨55, [.tmp 4], b17⟩ := rfl
theorem f0_Changes (l m : List Ro) {h : Heap} {V W : AV} (hV : CAt h V l) (hv : VAt h l) (hW : CAt h W m) (hw : VAt h m) (hl : l.length ≤ 100000000) : Runs (xcall X1 tab (.fn 17) [V, W] h) fun v h' => v = .bool (decide (l.map Ro.en = m.map Ro.en)) ∧ h = h' := by
  refine Runs.intro fun K hK => ?_
  rw [w_fn rfl t17 (Nat.le_of_ble_eq_true rfl)]
  delta b17
  repeat' (first
    | simp (disch := first | exact qd | fail) only [WB, ↓WP, ↓WL, WR, WC, if_true, if_false, ite_true, ite_false, aop, ev, evs, readsA, List.replicate, numF, unA, resA, tupA, loadA, storeA, splice, fillA, kindsOk, plainEq, ↓reduceIte, Nat.reduceEqDiff, Nat.reduceLT, Int.reduceToNat, Int.reduceBEq, Int.reduceBNe, Nat.reduceAdd, Nat.reduceMul, Nat.reduceLeDiff, Int.reduceLT, Int.reduceSub, Int.reduceAdd, encC_def]
    | ((first | refine atC ?_ ?_ | refine atG ?_ ?_ | refine atH ?_ ?_ | refine atP ?_ ?_) <;> intro hc <;> (try rw [hc]) <;> (try simp only [BD] at hc) <;> try (exfalso; omega))
    | ((first
      | (refine Runs.call (f0_Same (hv.get qo) (hw.get qo)) ?_; rintro _ _ ⟨rfl, rfl⟩)
      | fail); all_goals ((try (have gn := gr.1; try simp only [nx_alloc, nx_set] at gn)); (try (have an := ha.num; try simp only [nx_alloc, nx_set, own_sl, own_nil] at an)); (try (have on := hO.num; try simp only [nx_alloc, nx_set] at on)); (try (have kn := hk.1; try simp only [nx_alloc, nx_set] at kn)); try have hB := hO.at)))
  all_goals try (first
    | (refine hK _ _ ?_; refine ⟨?_, rfl⟩; congr 1; (first | exact (decide_eq_false (fun e => by have := congrArg List.length e; simp only [List.length_map] at this; omega)).symm | exact (decide_eq_true (en_same qo (fun j h => hj j qo))).symm | exact (decide_eq_false (en_diff (i := i) qo qo (fun z => by have := hx.1 z; grind))).symm | fail); done))
  all_goals
    refine wloop (α := Nat) [0, 1] (fun x => [(5, .int .i64 (x : Nat))]) (fun x H => h = H ∧ x ≤ l.length ∧ ∀ j, j < x → (l.getD j default).en = (m.getD j default).en) (fun x => l.length - x) ?_ (0) ?_ ?_
    rotate_left
    · exact qf
    · (try dsimp only)
      ((repeat' with_reducible apply And.intro) <;> first | rfl | assumption | omega | (show Grow _ _; ((repeat' (first | exact Grow.refl _ | assumption | exact Grow.alloc _ _ | refine Grow.allocR ?_ _ | refine Grow.noteR ?_ _ _ | refine Grow.setR ?_ _ ?_ ?_ | omega | (simp only [nx_alloc, nx_set, own_sl, own_nil] <;> omega) | (refine App.grow (by assumption) ?_ ?_) | (refine Pok.grow (by assumption) ?_ ?_) | (apply Grow.trans; rotate_left; assumption) | fail)); first | done | fail); done) | exact pre_zero | exact pre_succ hj (hx.2 (by grind)) | grind)
    intro i b1 H hI ih
    try dsimp only at hI
    obtain ⟨rfl, hi, hj⟩ := hI
    have hx := en_ext (x := l.getD i default) (y := m.getD i default)
    try have gn := g.1
    refine w_unfold (by delta L17_0; rfl) ?_
    simp only [keeps_nil, keeps_cons, List.cons_append, List.nil_append, lk_cons, lk_nil, numF, Nat.reduceEqDiff, Nat.reduceAdd, Nat.zero_add, ↓reduceIte]
    repeat' (first
      | simp (disch := first | exact qd | fail) only [WB, ↓WP, ↓WL, WR, WC, if_true, if_false, ite_true, ite_false, aop, ev, evs, readsA, List.replicate, numF, unA, resA, tupA, loadA, storeA, splice, fillA, kindsOk, plainEq, ↓reduceIte, Nat.reduceEqDiff, Nat.reduceLT, Int.reduceToNat, Int.reduceBEq, Int.reduceBNe, Nat.reduceAdd, Nat.reduceMul, Nat.reduceLeDiff, Int.reduceLT, Int.reduceSub, Int.reduceAdd, encC_def]
      | ((first | refine atC ?_ ?_ | refine atG ?_ ?_ | refine atH ?_ ?_ | refine atP ?_ ?_) <;> intro hc <;> (try rw [hc]) <;> (try simp only [BD] at hc) <;> try (exfalso; omega))
      | ((first
        | (refine Runs.call (f0_Same (hv.get qo) (hw.get qo)) ?_; rintro _ _ ⟨rfl, rfl⟩)
        | fail); all_goals ((try (have gn := gr.1; try simp only [nx_alloc, nx_set] at gn)); (try (have an := ha.num; try simp only [nx_alloc, nx_set, own_sl, own_nil] at an)); (try (have on := hO.num; try simp only [nx_alloc, nx_set] at on)); (try (have kn := hk.1; try simp only [nx_alloc, nx_set] at kn)); try have hB := hO.at)))
    all_goals try (first
      | exact ih (i + 1) _ _ _ (by ((try dsimp only); omega)) (by exact qf) (by ((try dsimp only); ((repeat' with_reducible apply And.intro) <;> first | rfl | assumption | omega | (show Grow _ _; ((repeat' (first | exact Grow.refl _ | assumption | exact Grow.alloc _ _ | refine Grow.allocR ?_ _ | refine Grow.noteR ?_ _ _ | refine Grow.setR ?_ _ ?_ ?_ | omega | (simp only [nx_alloc, nx_set, own_sl, own_nil] <;> omega) | (refine App.grow (by assumption) ?_ ?_) | (refine Pok.grow (by assumption) ?_ ?_) | (apply Grow.trans; rotate_left; assumption) | fail)); first | done | fail); done) | exact pre_zero | exact pre_succ hj (hx.2 (by grind)) | grind)))
      | (refine hK _ _ ?_; refine ⟨?_, rfl⟩; congr 1; (first | exact (decide_eq_false (fun e => by have := congrArg List.length e; simp only [List.length_map] at this; omega)).symm | exact (decide_eq_true (en_same qo (fun j h => hj j qo))).symm | exact (decide_eq_false (en_diff (i := i) qo qo (fun z => by have := hx.1 z; grind))).symm | fail); done))
theorem lives_r (h : Heap) : Runs (xcall X1 tab (.fn 8) [] h) fun v h' => v = .bool true ∧ h = h' := Runs.eq (lives8 h)
theorem chg_row {N k : Nat} {h h' : Heap} {cs : List AV} (hx : cellsX Try.prog N (k + 3) 52 h cs h') : ∃ x : Ro, cs = encC x ∧ (BytesAt h' x.v x.val ∧ x.key.length ≤ N ∧ x.val.length ≤ N ∧ Bytes x.key ∧ Bytes x.val) ∧ Grow h h' := by
  obtain ⟨ass, hl, rfl⟩ := cellsX_struct Try.underlying52 hx
  obtain ⟨c1, r, h1, rfl, e1, hl⟩ := listX_cons hl
  obtain ⟨c2, r, h2, rfl, e2, hl⟩ := listX_cons hl
  obtain ⟨c3, r, h3, rfl, e3, hl⟩ := listX_cons hl
  obtain ⟨rfl, rfl⟩ := listX_nil hl
  obtain ⟨key, rfl, w1, n1, rfl⟩ := cellsX_string Try.underlying9 e1
  obtain ⟨v, val, rfl, b1, b2, b3, g⟩ := cells_bytes Try.underlying23 Try.underlying5 (by kernel_rfl) e2
  obtain ⟨b, rfl, rfl⟩ := cellsX_bool Try.underlying4 e3
  exact ⟨⟨key, v, val, b⟩, rfl, ⟨b1, n1, b3, wf_bytes w1, b2⟩, g⟩
theorem getF_len : ∀ (n : Nat) (last bs : Bs), (getF n last bs).2.length ≤ n
  | 0, _, _ => Nat.le_refl _
  | n + 1, last, bs => by
    have := getF_len n (takeC last bs).2.1.key (takeC last bs).2.2
    rw [getF]
    split
    · exact Nat.zero_le _
    · split
      · split
        · simpa using this
        · exact Nat.zero_le _
      · exact Nat.zero_le _
theorem got_len {l : List Ro} {bs : Bs} (e : l.map Ro.en = (getAll bs).2) : l.length ≤ bs.length := by
  have h := congrArg List.length e
  rw [List.length_map] at h
  have := getF_len bs.length [] bs
  unfold getAll at h
  omega
def errP (l : List Ro) : Int := if mayP (l.map Ro.en) = true then 0 else 2
def putP (l : List Ro) : Bs := if mayP (l.map Ro.en) = true then putAll [] (l.map Ro.en) else []
theorem put_t {E : AR} {h : Heap} {l : List Ro} (r : Runs E fun v h' => Grow h h' ∧ ∃ w, v = (if mayP (l.map Ro.en) = true then .tuple [w, .int .i64 0] else .tuple [.nilsl, .int .i64 2]) ∧ OwB h.next h' w (if mayP (l.map Ro.en) = true then putAll [] (l.map Ro.en) else [])) :
    Runs E fun v h' => Grow h h' ∧ ∃ w, v = .tuple [w, .int .i64 (errP l)] ∧ OwB h.next h' w (putP l) := r.mono fun v h' ⟨g, w, e, o⟩ => by
  unfold errP putP
  by_cases q : mayP (l.map Ro.en) = true
  · rw [if_pos q] at e o ⊢
    rw [if_pos q]
    exact ⟨g, w, e, o⟩
  · rw [if_neg q] at e ⊢
    rw [if_neg q]
    exact ⟨g, .nilsl, e, OwC.nil⟩
def b3 : SC := (.seq (.ops [⟨some 8, .mov (.c (.bool false)), none⟩]) (.seq (.seq (.ops [⟨some 18, .mov (.t 0), none⟩, ⟨some 19, .len (.sl) (.t 18), none⟩, ⟨some 20, .bin (.gtr) (.other) (.t 19) (.c (.int (.i64) 200)), none⟩, ⟨some 21, .mov (.t 20), none⟩, ⟨some 22, .mov (.t 1), some (21, false)⟩, ⟨some 23, .len (.sl) (.t 22), some (21, false)⟩, ⟨some 24, .bin (.gtr) (.other) (.t 23) (.c (.int (.i64) 262144)), some (21, false)⟩, ⟨some 25, .pick (.t 21) (.c (.bool true)) (.t 24), none⟩]) (.cond (.t 25) (.seq (.ops [⟨some 26, .call 8 [], none⟩, ⟨some 8, .mov (.t 26), none⟩]) .ret) .skip)) (.seq (.ops [⟨some 27, .mov (.t 1), none⟩, ⟨some 28, .call 9 [.t 27], none⟩, ⟨some 9, .mov (.t 28), none⟩]) (.seq (.ops [⟨some 30, .mov (.t 0), none⟩, ⟨some 31, .call 10 [.t 30], none⟩, ⟨some 29, .mov (.t 31), none⟩, ⟨some 32, .extract (.t 29) 0, none⟩, ⟨some 33, .extract (.t 29) 1, none⟩, ⟨some 10, .mov (.t 32), none⟩, ⟨some 11, .mov (.t 33), none⟩]) (.seq (.ops [⟨some 35, .mov (.t 0), none⟩, ⟨some 36, .call 11 [.t 35], none⟩, ⟨some 34, .mov (.t 36), none⟩, ⟨some 37, .extract (.t 34) 0, none⟩, ⟨some 38, .extract (.t 34) 1, none⟩, ⟨some 12, .mov (.t 37), none⟩, ⟨some 13, .mov (.t 38), none⟩]) (.seq (.ops [⟨some 40, .mov (.t 9), none⟩, ⟨some 41, .call 12 [.t 40], none⟩, ⟨some 39, .mov (.t 41), none⟩, ⟨some 42, .extract (.t 39) 0, none⟩, ⟨some 43, .extract (.t 39) 1, none⟩, ⟨some 14, .mov (.t 42), none⟩, ⟨some 15, .mov (.t 43), none⟩]) (.seq (.ops [⟨some 45, .mov (.t 1), none⟩, ⟨some 46, .call 13 [.t 45], none⟩, ⟨some 44, .mov (.t 46), none⟩, ⟨some 47, .extract (.t 44) 0, none⟩, ⟨some 48, .extract (.t 44) 1, none⟩, ⟨some 16, .mov (.t 47), none⟩, ⟨some 17, .mov (.t 48), none⟩]) (.seq (.seq (.ops [⟨some 49, .mov (.t 0), none⟩, ⟨some 50, .call 14 [.t 49], none⟩, ⟨some 51, .mov (.t 0), none⟩, ⟨some 52, .call 15 [.t 51], none⟩, ⟨some 53, .bin (.neq) (.bool) (.t 50) (.t 52), none⟩, ⟨some 54, .mov (.t 53), none⟩, ⟨some 55, .mov (.t 10), some (54, false)⟩, ⟨some 56, .mov (.t 12), some (54, false)⟩, ⟨some 57, .call 16 [.t 55, .t 56], some (54, false)⟩, ⟨some 58, .un (.not) (.t 57), some (54, false)⟩, ⟨some 59, .pick (.t 54) (.c (.bool true)) (.t 58), none⟩, ⟨some 60, .mov (.t 59), none⟩, ⟨some 61, .mov (.t 11), some (60, false)⟩, ⟨some 62, .mov (.t 13), some (60, false)⟩, ⟨some 63, .bin (.neq) (.other) (.t 61) (.t 62), some (60, false)⟩, ⟨some 64, .pick (.t 60) (.c (.bool true)) (.t 63), none⟩, ⟨some 65, .mov (.t 64), none⟩, ⟨some 66, .mov (.t 14), some (65, false)⟩, ⟨some 67, .mov (.t 16), some (65, false)⟩, ⟨some 68, .call 17 [.t 66, .t 67], some (65, false)⟩, ⟨some 69, .un (.not) (.t 68), some (65, false)⟩, ⟨some 70, .pick (.t 65) (.c (.bool true)) (.t 69), none⟩, ⟨some 71, .mov (.t 70), none⟩, ⟨some 72, .mov (.t 15), some (71, false)⟩, ⟨some 73, .mov (.t 17), some (71, false)⟩, ⟨some 74, .bin (.neq) (.other) (.t 72) (.t 73), some (71, false)⟩, ⟨some 75, .pick (.t 71) (.c (.bool true)) (.t 74), none⟩]) (.cond (.t 75) (.seq (.ops [⟨some 8, .mov (.c (.bool false)), none⟩]) .ret) .skip)) (.seq (.ops [⟨some 76, .mov (.t 2), none⟩, ⟨some 77, .mov (.t 3), none⟩, ⟨some 78, .call 18 [.t 76, .t 77], none⟩, ⟨some 79, .mov (.t 2), none⟩, ⟨some 80, .mov (.t 3), none⟩, ⟨some 81, .call 19 [.t 79, .t 80], none⟩, ⟨some 82, .bin (.eql) (.other) (.t 78) (.t 81), none⟩, ⟨some 83, .mov (.t 82), none⟩, ⟨some 84, .mov (.t 9), some (83, true)⟩, ⟨some 85, .mov (.t 1), some (83, true)⟩, ⟨some 86, .call 20 [.t 84, .t 85], some (83, true)⟩, ⟨some 87, .pick (.t 83) (.t 86) (.c (.bool false)), none⟩, ⟨some 88, .mov (.t 87), none⟩, ⟨some 89, .call 8 [], some (88, true)⟩, ⟨some 90, .pick (.t 88) (.t 89) (.c (.bool false)), none⟩, ⟨some 8, .mov (.t 90), none⟩]) .ret)))))))))
theorem t3 : tab 3 = some ⟨91, [.tmp 8], b3⟩ := rfl
theorem go_Tells (l : List Ro) {bs x y : Bs} {h : Heap} {V B : AV} (hV : CAt h V l) (hv : VAt h l) (hB : BytesAt h B bs) (hy : Bytes bs) (hx : x.length ≤ 9223372036854775807) (hyl : y.length ≤ 9223372036854775807) : Runs (xcall X1 tab (.fn 3) [V, B, .str x, .str y] h) fun v h' => v = .bool true := by
  refine Runs.intro fun K hK => ?_
  rw [w_fn rfl t3 (Nat.le_of_ble_eq_true rfl)]
  delta b3
  repeat' (first
    | simp (disch := first | exact qd | fail) only [WB, ↓WP, ↓WL, WR, WC, if_true, if_false, ite_true, ite_false, aop, ev, evs, readsA, List.replicate, numF, unA, resA, tupA, loadA, storeA, splice, fillA, kindsOk, plainEq, ↓reduceIte, Nat.reduceEqDiff, Nat.reduceLT, Int.reduceToNat, Int.reduceBEq, Int.reduceBNe, Nat.reduceAdd, Nat.reduceMul, Nat.reduceLeDiff, Int.reduceLT, Int.reduceSub, Int.reduceAdd]
    | ((first | refine atC ?_ ?_ | refine atG ?_ ?_ | refine atH ?_ ?_ | refine atP ?_ ?_) <;> intro hc <;> (try rw [hc]) <;> (try simp only [BD] at hc) <;> try (exfalso; omega))
    | ((first
      | (refine Runs.call (lives_r _) ?_; rintro _ _ ⟨rfl, rfl⟩)
      | (refine Runs.call (f0_Wide hB qo) ?_; rintro _ _ ⟨gr, w, rfl, hw0, hw1, hw⟩)
      | (refine Runs.call (put_t (bat_Put l (hV.grow qg) (hv.grow qg) qo)) ?_; rintro _ _ ⟨gr, w1, rfl, hO1⟩)
      | (refine Runs.call (put_t (rbat_Put l (hV.grow qg) (hv.grow qg) qo)) ?_; rintro _ _ ⟨gr, w2, rfl, hO2⟩)
      | (refine Runs.call (bat_Get (hw.at.grow qg) hy qo) ?_; rintro v3 H3 ⟨gr, w3, l3, rfl, e3, c3, q3⟩)
      | (refine Runs.call (rbat_Get (hB.grow qg) hy qo) ?_; rintro v4 H4 ⟨gr, w4, l4, rfl, e4, c4, q4⟩)
      | (refine Runs.call (bat_MayChange l (hV.grow qg) (hv.grow qg) qo) ?_; rintro _ _ ⟨rfl, gr⟩)
      | (refine Runs.call (rbat_MayChange l (hV.grow qg) (hv.grow qg) qo) ?_; rintro _ _ ⟨rfl, rfl⟩)
      | (refine Runs.call (f0_Same (hO1.at.grow qg) (hO2.at.grow qg)) ?_; rintro _ _ ⟨rfl, rfl⟩)
      | (refine Runs.call (f0_Changes l3 l4 (c3.grow qg) (q3.grow qg) (c4.grow qg) (q4.grow qg) (by have := got_len e3; omega)) ?_; rintro _ _ ⟨rfl, rfl⟩)
      | (refine Runs.call (bat_Shared hx hyl _) ?_; rintro _ _ ⟨rfl, rfl⟩)
      | (refine Runs.call (rbat_Shared hx hyl _) ?_; rintro _ _ ⟨rfl, rfl⟩)
      | (refine Runs.call (f0_Left (hw.grow qg) (hB.grow qg)) ?_; rintro _ _ ⟨rfl, rfl⟩)
      | fail); all_goals ((try (have gn := gr.1; try simp only [nx_alloc, nx_set] at gn)); (try (have an := ha.num; try simp only [nx_alloc, nx_set, own_sl, own_nil] at an)); (try (have on := hO.num; try simp only [nx_alloc, nx_set] at on)); (try (have kn := hk.1; try simp only [nx_alloc, nx_set] at kn)); try have hB := hO.at)))
  all_goals try (first
    | (refine hK _ _ ?_; (first | rfl | (exfalso; rw [e3, e4] at hc; simp at hc; done) | fail); done))
abbrev CQ (N : Nat) (h : Heap) (x : Ro) : Prop := BytesAt h x.v x.val ∧ x.key.length ≤ N ∧ x.val.length ≤ N ∧ Bytes x.key ∧ Bytes x.val
theorem arg_chg {N : Nat} {h h' : Heap} {a : AV} (hx : argX Try.prog N 5 22 h a h') : ∃ l : List Ro, CAt h' a l ∧ (∀ x ∈ l, CQ N h' x) ∧ l.length ≤ N ∧ Grow h h' :=
  arg_rows (enc := encC) (Q := CQ N) Try.underlying22 (by kernel_rfl) encC_len (fun q g => ⟨q.1.grow g, q.2⟩) (fun hx => chg_row hx) hx
theorem run_Tells (N : Nat) : ∀ h xs, (∀ l, AV.str l ∈ xs → l.length ≤ 9223372036854775807) → argsT Try.prog N h 5 Try.f3.params.toList xs → argsX Try.prog N 5 Try.f3.params.toList emptyHeap xs h →
    ∃ n h', acall X1 tab n (.fn 3) xs h = some (.bool true, h') ∨ (AV.bares xs = true ∧ acall X1 tab n (.fn 3) xs emptyHeap = some (.bool true, h')) := by
  intro h xs hs _ hx
  rw [Try.params3] at hx
  obtain ⟨V, _, h1, rfl, e1, hx⟩ := argsX_cons hx
  obtain ⟨B, _, h2, rfl, e2, hx⟩ := argsX_cons hx
  obtain ⟨x, _, h3, rfl, e3, hx⟩ := argsX_cons hx
  obtain ⟨y, _, h4, rfl, e4, hx⟩ := argsX_cons hx
  obtain ⟨rfl, rfl⟩ := argsX_nil hx
  obtain ⟨l, c1, q1, n1, g1⟩ := arg_chg e1
  obtain ⟨bs, b1, b2, b3, g2⟩ := arg_bytes Try.underlying23 Try.underlying5 (by kernel_rfl) e2
  obtain ⟨x, rfl, _, _, rfl⟩ := argX_string Try.underlying9 e3
  obtain ⟨y, rfl, _, _, rfl⟩ := argX_string Try.underlying9 e4
  obtain ⟨v, h', e, rfl⟩ := go_Tells l (c1.grow g2) (fun z hz => (q1 z hz).1.grow g2) b1 b2 (hs x (by simp)) (hs y (by simp))
  exact ranX e
end Go.Proofs.Ytbcmdlaffjmfdaa.Ya

