/-
  Batch: whether rows and changes may be; what two texts share.
-/
import Derived.Test.YtbcmdlaffjmfdaaYaBatSpec
import Derived.Test.YtbcmdlaffjmfdaaYbL
import Derived.Test.YtbcmdlaffjmfdaaYaBatPure
import Derived.Test.YtbcmdlaffjmfdaaYbJ
namespace Go.Proofs.Ytbcmdlaffjmfdaa.Ya
open Go.Ya Go.Ya.Bat
set_option linter.unusedVariables false
set_option linter.unusedSimpArgs false
set_option maxRecDepth 100000
set_option maxHeartbeats 8000000

/-- A row or a change, with its value's slice. -/
structure Ro where
  key : Bs
  v : AV
  val : Bs
  gone : Bool
def Ro.en (x : Ro) : En := ⟨x.key, x.val, x.gone⟩
instance : Inhabited Ro := ⟨⟨[], .nilsl, [], false⟩⟩
def encR (x : Ro) : List AV := [.str x.key, x.v]
def encC (x : Ro) : List AV := [.str x.key, x.v, .bool x.gone]
theorem en_row {x : Ro} (h : x.gone = false) : x.en = ⟨x.key, x.val, false⟩ := by unfold Ro.en; rw [h]
def VAt (h : Heap) (l : List Ro) : Prop := ∀ x ∈ l, BytesAt h x.v x.val
theorem VAt.grow {h h' : Heap} {l : List Ro} (r : VAt h l) (g : Grow h h') : VAt h' l := fun x hx => (r x hx).grow g
theorem VAt.get {h : Heap} {l : List Ro} (r : VAt h l) {i : Nat} (hi : i < l.length) : BytesAt h (l.getD i default).v (l.getD i default).val := by
  rw [List.getD_eq_getElem?_getD, List.getElem?_eq_getElem hi]
  exact r _ (List.getElem_mem hi)
theorem VAt.ln {h : Heap} {l : List Ro} (r : VAt h l) (h' : Heap) (i : Nat) (hi : i < l.length) : lenS (l.getD i default).v h' = some (.int .i64 (l.getD i default).val.length, h') := (r.get hi).ln h'
theorem VAt.fl {h : Heap} {l : List Ro} (r : VAt h l) (i : Nat) (hi : i < l.length) : (l.getD i default).v.flat = true := (r.get hi).fl
theorem VA_ln {H h' : Heap} {l : List Ro} {i : Nat} (a : Asm (VAt H l)) (hi : i < l.length) : lenS (l.getD i default).v h' = some (.int .i64 (l.getD i default).val.length, h') := a.out.ln h' i hi
theorem VA_fl {H : Heap} {l : List Ro} {i : Nat} (a : Asm (VAt H l)) (hi : i < l.length) : (l.getD i default).v.flat = true := a.out.fl i hi
theorem VA_cl {H : Heap} {l : List Ro} {i : Nat} (a : Asm (VAt H l)) (hi : i < l.length) : (l.getD i default).v.cells = [(l.getD i default).v] := cells_of (a.out.fl i hi)
abbrev RAt (h : Heap) (v : AV) (l : List Ro) : Prop := Rd 2 h v (l.map encR)
abbrev CAt (h : Heap) (v : AV) (l : List Ro) : Prop := Rd 3 h v (l.map encC)
theorem encR_def (x : Ro) : encR x = [.str x.key, x.v] := rfl
theorem encC_def (x : Ro) : encC x = [.str x.key, x.v, .bool x.gone] := rfl
theorem en_get {l : List Ro} {i : Nat} (hi : i < l.length) : (l.map Ro.en).getD i ⟨[], [], false⟩ = (l.getD i default).en := by
  simp [List.getD_eq_getElem?_getD, List.getElem?_eq_getElem hi]
/-- What stands ahead. -/
def lastR (l : List Ro) (i : Nat) : Bs := if 0 < i then (l.getD (i - 1) default).key else []
theorem lastR_succ (l : List Ro) (i : Nat) : lastR l (i + 1) = (l.getD i default).key := by simp [lastR]
theorem lastR_0 (l : List Ro) : lastR l 0 = [] := rfl
theorem lastR_pos {l : List Ro} {i : Nat} (h : 0 < i) : lastR l i = (l.getD (i - 1) default).key := by simp [lastR, h]
def okR (l : List Ro) (i : Nat) : Prop := fineP (l.getD i default).en = true ∧ (l.getD i default).key.length ≤ 16 ∧ lessA (lastR l i) (l.getD i default).key = true
theorem okR_iff {l : List Ro} {i : Nat} (hi : i < l.length) : okR l i ↔ ¬ stMay (l.map Ro.en) i := by
  unfold okR stMay lastK lastR
  rw [en_get hi, Classical.not_not]
  by_cases q : 0 < i
  · rw [en_get qo]; rfl
  · rw [if_neg q, if_neg q]; rfl
theorem may_yes {l : List Ro} (h : ∀ i, i < l.length → okR l i) : mayP (l.map Ro.en) = true := may_t fun i hi => by
  rw [List.length_map] at hi
  rw [← okR_iff hi]; exact h i hi
theorem may_no {l : List Ro} {i : Nat} (hi : i < l.length) (h : ¬ okR l i) : mayP (l.map Ro.en) = false := may_f ⟨i, by simpa using hi, Classical.not_not.1 fun h' => h ((okR_iff hi).2 h')⟩
def L18_0 : SC := (.seq (.ops [⟨some 14, .bin (.lss) (.other) (.t 13) (.t 12), none⟩]) (.seq (.cond (.t 14) .skip (.exit 0)) (.seq (.block 1 (.seq (.ops [⟨some 15, .mov (.t 13), none⟩, ⟨some 6, .mov (.t 15), none⟩]) (.seq (.ops [⟨some 16, .mov (.t 0), none⟩, ⟨some 17, .mov (.t 6), none⟩, ⟨some 18, .idxStr (.t 16) (.t 17), none⟩, ⟨some 19, .mov (.t 1), none⟩, ⟨some 20, .mov (.t 6), none⟩, ⟨some 21, .idxStr (.t 19) (.t 20), none⟩, ⟨some 22, .bin (.neq) (.other) (.t 18) (.t 21), none⟩]) (.cond (.t 22) (.seq (.ops [⟨some 23, .mov (.t 6), none⟩, ⟨some 4, .mov (.t 23), none⟩]) .ret) .skip)))) (.ops [⟨some 24, .bin (.add) (.other) (.t 13) (.c (.int (.i64) 1)), none⟩, ⟨some 13, .mov (.t 24), none⟩]))))
def b18 : SC := (.seq (.ops [⟨some 4, .mov (.c (.int (.i64) 0)), none⟩]) (.seq (.ops [⟨some 7, .mov (.t 0), none⟩, ⟨some 8, .len (.str) (.t 7), none⟩, ⟨some 9, .mov (.t 1), none⟩, ⟨some 10, .len (.str) (.t 9), none⟩, ⟨some 11, .min (.t 8) [.t 10], none⟩, ⟨some 5, .mov (.t 11), none⟩]) (.seq (.seq (.ops [⟨some 12, .mov (.t 5), none⟩, ⟨some 13, .mov (.c (.int (.i64) 0)), none⟩]) (.block 0 (.loop L18_0))) (.seq (.ops [⟨some 25, .mov (.t 5), none⟩, ⟨some 4, .mov (.t 25), none⟩]) .ret))))
theorem t18 : tab 18 = some ⟨26, [.tmp 4], b18⟩ := rfl
theorem bat_Shared {a b : Bs} (h1 : a.length ≤ 9223372036854775807) (h2 : b.length ≤ 9223372036854775807) (h : Heap) : Runs (xcall X1 tab (.fn 18) [.str a, .str b] h) fun v h' => v = .int .i64 (sharedP a b : Nat) ∧ h = h' := by
  refine Runs.intro fun K hK => ?_
  rw [w_fn rfl t18 (Nat.le_of_ble_eq_true rfl)]
  delta b18
  repeat' (first
    | simp (disch := first | exact qd | fail) only [WB, ↓WP, ↓WL, WR, WC, if_true, if_false, ite_true, ite_false, aop, ev, evs, readsA, List.replicate, numF, unA, resA, tupA, loadA, storeA, splice, fillA, kindsOk, plainEq, ↓reduceIte, Nat.reduceEqDiff, Nat.reduceLT, Int.reduceToNat, Int.reduceBEq, Int.reduceBNe, Nat.reduceAdd, Nat.reduceMul, Nat.reduceLeDiff, Int.reduceLT, Int.reduceSub, Int.reduceAdd]
    | ((first | refine atC ?_ ?_ | refine atG ?_ ?_ | refine atH ?_ ?_ | refine atP ?_ ?_) <;> intro hc <;> (try rw [hc]) <;> (try simp only [BD] at hc) <;> try (exfalso; omega)))
  all_goals try (first
    | (refine hK _ _ ?_; refine ⟨?_, rfl⟩; congr 1; congr 1; refine shared_uniq ?_ ?_ ?_ ?_ <;> grind; done))
  all_goals
    refine wloop (α := Nat) [0, 1, 5, 12] (fun x => [(13, .int .i64 (x : Nat))]) (fun x H => h = H ∧ x ≤ min a.length b.length ∧ ∀ j, j < x → a.getD j 0 = b.getD j 0) (fun x => min a.length b.length - x) ?_ (0) ?_ ?_
    rotate_left
    · exact qf
    · (try dsimp only)
      ((repeat' with_reducible apply And.intro) <;> first | rfl | assumption | omega | (show Grow _ _; ((repeat' (first | exact Grow.refl _ | assumption | exact Grow.alloc _ _ | refine Grow.allocR ?_ _ | refine Grow.noteR ?_ _ _ | refine Grow.setR ?_ _ ?_ ?_ | omega | (simp only [nx_alloc, nx_set, own_sl, own_nil] <;> omega) | (refine App.grow (by assumption) ?_ ?_) | (refine Pok.grow (by assumption) ?_ ?_) | (apply Grow.trans; rotate_left; assumption) | fail)); first | done | fail); done) | exact pre_zero | fail | grind)
    intro i b1 H hI ih
    try dsimp only at hI
    obtain ⟨rfl, hi, hj⟩ := hI
    try have gn := g.1
    refine w_unfold (by delta L18_0; rfl) ?_
    simp only [keeps_nil, keeps_cons, List.cons_append, List.nil_append, lk_cons, lk_nil, numF, Nat.reduceEqDiff, Nat.reduceAdd, Nat.zero_add, ↓reduceIte]
    repeat' (first
      | simp (disch := first | exact qd | fail) only [WB, ↓WP, ↓WL, WR, WC, if_true, if_false, ite_true, ite_false, aop, ev, evs, readsA, List.replicate, numF, unA, resA, tupA, loadA, storeA, splice, fillA, kindsOk, plainEq, ↓reduceIte, Nat.reduceEqDiff, Nat.reduceLT, Int.reduceToNat, Int.reduceBEq, Int.reduceBNe, Nat.reduceAdd, Nat.reduceMul, Nat.reduceLeDiff, Int.reduceLT, Int.reduceSub, Int.reduceAdd]
      | ((first | refine atC ?_ ?_ | refine atG ?_ ?_ | refine atH ?_ ?_ | refine atP ?_ ?_) <;> intro hc <;> (try rw [hc]) <;> (try simp only [BD] at hc) <;> try (exfalso; omega)))
    all_goals try (first
      | exact ih (i + 1) _ _ _ (by ((try dsimp only); omega)) (by exact qf) (by ((try dsimp only); ((repeat' with_reducible apply And.intro) <;> first | rfl | assumption | omega | (show Grow _ _; ((repeat' (first | exact Grow.refl _ | assumption | exact Grow.alloc _ _ | refine Grow.allocR ?_ _ | refine Grow.noteR ?_ _ _ | refine Grow.setR ?_ _ ?_ ?_ | omega | (simp only [nx_alloc, nx_set, own_sl, own_nil] <;> omega) | (refine App.grow (by assumption) ?_ ?_) | (refine Pok.grow (by assumption) ?_ ?_) | (apply Grow.trans; rotate_left; assumption) | fail)); first | done | fail); done) | exact pre_zero | fail | grind)))
      | (refine hK _ _ ?_; refine ⟨?_, rfl⟩; congr 1; congr 1; refine shared_uniq ?_ ?_ ?_ ?_ <;> grind; done))
def L19_0 : SC := (.seq (.seq (.ops [⟨some 6, .mov (.t 5), none⟩, ⟨some 7, .mov (.t 0), none⟩, ⟨some 8, .len (.str) (.t 7), none⟩, ⟨some 9, .bin (.lss) (.other) (.t 6) (.t 8), none⟩, ⟨some 10, .mov (.t 9), none⟩, ⟨some 11, .mov (.t 5), some (10, true)⟩, ⟨some 12, .mov (.t 1), some (10, true)⟩, ⟨some 13, .len (.str) (.t 12), some (10, true)⟩, ⟨some 14, .bin (.lss) (.other) (.t 11) (.t 13), some (10, true)⟩, ⟨some 15, .pick (.t 10) (.t 14) (.c (.bool false)), none⟩, ⟨some 16, .mov (.t 15), none⟩, ⟨some 17, .mov (.t 0), some (16, true)⟩, ⟨some 18, .mov (.t 5), some (16, true)⟩, ⟨some 19, .idxStr (.t 17) (.t 18), some (16, true)⟩, ⟨some 20, .mov (.t 1), some (16, true)⟩, ⟨some 21, .mov (.t 5), some (16, true)⟩, ⟨some 22, .idxStr (.t 20) (.t 21), some (16, true)⟩, ⟨some 23, .bin (.eql) (.other) (.t 19) (.t 22), some (16, true)⟩, ⟨some 24, .pick (.t 16) (.t 23) (.c (.bool false)), none⟩]) (.cond (.t 24) .skip (.exit 0))) (.block 1 (.ops [⟨some 25, .mov (.t 5), none⟩, ⟨some 26, .bin (.add) (.other) (.t 25) (.c (.int (.i64) 1)), none⟩, ⟨some 5, .mov (.t 26), none⟩])))
def b19 : SC := (.seq (.ops [⟨some 4, .mov (.c (.int (.i64) 0)), none⟩]) (.seq (.ops [⟨some 5, .mov (.c (.int (.i64) 0)), none⟩]) (.seq (.block 0 (.loop L19_0)) (.seq (.ops [⟨some 27, .mov (.t 5), none⟩, ⟨some 4, .mov (.t 27), none⟩]) .ret))))
theorem t19 : tab 19 = some ⟨28, [.tmp 4], b19⟩ := rfl
theorem rbat_Shared {a b : Bs} (h1 : a.length ≤ 9223372036854775807) (h2 : b.length ≤ 9223372036854775807) (h : Heap) : Runs (xcall X1 tab (.fn 19) [.str a, .str b] h) fun v h' => v = .int .i64 (sharedP a b : Nat) ∧ h = h' := by
  refine Runs.intro fun K hK => ?_
  rw [w_fn rfl t19 (Nat.le_of_ble_eq_true rfl)]
  delta b19
  repeat' (first
    | simp (disch := first | exact qd | fail) only [WB, ↓WP, ↓WL, WR, WC, if_true, if_false, ite_true, ite_false, aop, ev, evs, readsA, List.replicate, numF, unA, resA, tupA, loadA, storeA, splice, fillA, kindsOk, plainEq, ↓reduceIte, Nat.reduceEqDiff, Nat.reduceLT, Int.reduceToNat, Int.reduceBEq, Int.reduceBNe, Nat.reduceAdd, Nat.reduceMul, Nat.reduceLeDiff, Int.reduceLT, Int.reduceSub, Int.reduceAdd]
    | ((first | refine atC ?_ ?_ | refine atG ?_ ?_ | refine atH ?_ ?_ | refine atP ?_ ?_) <;> intro hc <;> (try rw [hc]) <;> (try simp only [BD] at hc) <;> try (exfalso; omega)))
  all_goals try (first
    | (refine hK _ _ ?_; refine ⟨?_, rfl⟩; congr 1; congr 1; refine shared_uniq ?_ ?_ ?_ ?_ <;> grind; done))
  all_goals
    refine wloop (α := Nat) [0, 1] (fun x => [(5, .int .i64 (x : Nat))]) (fun x H => h = H ∧ x ≤ min a.length b.length ∧ ∀ j, j < x → a.getD j 0 = b.getD j 0) (fun x => min a.length b.length - x) ?_ (0) ?_ ?_
    rotate_left
    · exact qf
    · (try dsimp only)
      ((repeat' with_reducible apply And.intro) <;> first | rfl | assumption | omega | (show Grow _ _; ((repeat' (first | exact Grow.refl _ | assumption | exact Grow.alloc _ _ | refine Grow.allocR ?_ _ | refine Grow.noteR ?_ _ _ | refine Grow.setR ?_ _ ?_ ?_ | omega | (simp only [nx_alloc, nx_set, own_sl, own_nil] <;> omega) | (refine App.grow (by assumption) ?_ ?_) | (refine Pok.grow (by assumption) ?_ ?_) | (apply Grow.trans; rotate_left; assumption) | fail)); first | done | fail); done) | exact pre_zero | fail | grind)
    intro i b1 H hI ih
    try dsimp only at hI
    obtain ⟨rfl, hi, hj⟩ := hI
    try have gn := g.1
    refine w_unfold (by delta L19_0; rfl) ?_
    simp only [keeps_nil, keeps_cons, List.cons_append, List.nil_append, lk_cons, lk_nil, numF, Nat.reduceEqDiff, Nat.reduceAdd, Nat.zero_add, ↓reduceIte]
    repeat' (first
      | simp (disch := first | exact qd | fail) only [WB, ↓WP, ↓WL, WR, WC, if_true, if_false, ite_true, ite_false, aop, ev, evs, readsA, List.replicate, numF, unA, resA, tupA, loadA, storeA, splice, fillA, kindsOk, plainEq, ↓reduceIte, Nat.reduceEqDiff, Nat.reduceLT, Int.reduceToNat, Int.reduceBEq, Int.reduceBNe, Nat.reduceAdd, Nat.reduceMul, Nat.reduceLeDiff, Int.reduceLT, Int.reduceSub, Int.reduceAdd]
      | ((first | refine atC ?_ ?_ | refine atG ?_ ?_ | refine atH ?_ ?_ | refine atP ?_ ?_) <;> intro hc <;> (try rw [hc]) <;> (try simp only [BD] at hc) <;> try (exfalso; omega)))
    all_goals try (first
      | exact ih (i + 1) _ _ _ (by ((try dsimp only); omega)) (by exact qf) (by ((try dsimp only); ((repeat' with_reducible apply And.intro) <;> first | rfl | assumption | omega | (show Grow _ _; ((repeat' (first | exact Grow.refl _ | assumption | exact Grow.alloc _ _ | refine Grow.allocR ?_ _ | refine Grow.noteR ?_ _ _ | refine Grow.setR ?_ _ ?_ ?_ | omega | (simp only [nx_alloc, nx_set, own_sl, own_nil] <;> omega) | (refine App.grow (by assumption) ?_ ?_) | (refine Pok.grow (by assumption) ?_ ?_) | (apply Grow.trans; rotate_left; assumption) | fail)); first | done | fail); done) | exact pre_zero | fail | grind)))
      | (refine hK _ _ ?_; refine ⟨?_, rfl⟩; congr 1; congr 1; refine shared_uniq ?_ ?_ ?_ ?_ <;> grind; done))
def b44 : SC := (.seq (.ops [⟨some 6, .mov (.c (.bool false)), none⟩]) (.seq (.ops [⟨some 7, .mov (.t 1), none⟩, ⟨some 8, .bin (.neq) (.str) (.t 7) (.c (.str [])), none⟩, ⟨some 9, .mov (.t 8), none⟩, ⟨some 10, .mov (.t 1), some (9, true)⟩, ⟨some 11, .len (.str) (.t 10), some (9, true)⟩, ⟨some 12, .bin (.leq) (.other) (.t 11) (.c (.int (.i64) 16)), some (9, true)⟩, ⟨some 13, .pick (.t 9) (.t 12) (.c (.bool false)), none⟩, ⟨some 14, .mov (.t 13), none⟩, ⟨some 15, .mov (.t 1), some (14, true)⟩, ⟨some 16, .mov (.t 0), some (14, true)⟩, ⟨some 17, .bin (.gtr) (.str) (.t 15) (.t 16), some (14, true)⟩, ⟨some 18, .pick (.t 14) (.t 17) (.c (.bool false)), none⟩, ⟨some 19, .mov (.t 18), none⟩, ⟨some 20, .mov (.t 2), some (19, true)⟩, ⟨some 21, .len (.sl) (.t 20), some (19, true)⟩, ⟨some 22, .bin (.leq) (.other) (.t 21) (.c (.int (.i64) 8192)), some (19, true)⟩, ⟨some 23, .pick (.t 19) (.t 22) (.c (.bool false)), none⟩, ⟨some 6, .mov (.t 23), none⟩]) .ret))
theorem t44 : tab 44 = some ⟨24, [.tmp 6], b44⟩ := rfl
theorem rbat_fits {last key val : Bs} {v : AV} {h : Heap} (hv : BytesAt h v val) : Runs (xcall X1 tab (.fn 44) [.str last, .str key, v] h) fun v' h' => v' = .bool (fitsP last key val) ∧ h = h' := by
  refine Runs.intro fun K hK => ?_
  rw [w_fn rfl t44 (Nat.le_of_ble_eq_true rfl)]
  delta b44
  repeat' (first
    | simp (disch := first | exact qd | fail) only [WB, ↓WP, ↓WL, WR, WC, if_true, if_false, ite_true, ite_false, aop, ev, evs, readsA, List.replicate, numF, unA, resA, tupA, loadA, storeA, splice, fillA, kindsOk, plainEq, ↓reduceIte, Nat.reduceEqDiff, Nat.reduceLT, Int.reduceToNat, Int.reduceBEq, Int.reduceBNe, Nat.reduceAdd, Nat.reduceMul, Nat.reduceLeDiff, Int.reduceLT, Int.reduceSub, Int.reduceAdd]
    | ((first | refine atC ?_ ?_ | refine atG ?_ ?_ | refine atH ?_ ?_ | refine atP ?_ ?_) <;> intro hc <;> (try rw [hc]) <;> (try simp only [BD] at hc) <;> try (exfalso; omega)))
  all_goals try (first
    | (refine hK _ _ ?_; refine ⟨?_, rfl⟩; congr 1; grind [fitsP, less_nil]; done))
def b53 : SC := (.seq (.ops [⟨some 1, .box (.t 0), none⟩, ⟨some 2, .box (.c (.agg [.str [], .bool false])), none⟩]) (.seq (.ops [⟨some 3, .fieldAddr 0 (.t 1), none⟩, ⟨some 4, .load false 1 (.t 3), none⟩, ⟨some 5, .fieldAddr 1 (.t 1), none⟩, ⟨some 6, .load false 1 (.t 5), none⟩, ⟨some 7, .len (.sl) (.t 6), none⟩, ⟨some 8, .bin (.leq) (.other) (.t 7) (.c (.int (.i64) 8192)), none⟩, ⟨some 9, .build [.str [], .bool false] [(0, 1, .t 4), (1, 1, .t 8)], none⟩, ⟨none, .store 2 (.t 2) (.t 9), none⟩]) .ret))
theorem t53 : tab 53 = some ⟨10, [.cell 2 true 2], b53⟩ := rfl
theorem bat_ofRow {key val : Bs} {v : AV} {h : Heap} (hv : BytesAt h v val) : Runs (xcall X1 tab (.fn 53) [.agg [.str key, v]] h) fun v' h' => v' = .agg [.str key, .bool (fineP ⟨key, val, false⟩)] ∧ Grow h h' := by
  refine Runs.intro fun K hK => ?_
  rw [w_fn rfl t53 (Nat.le_of_ble_eq_true rfl)]
  delta b53
  repeat' (first
    | simp (disch := first | exact qd | fail) only [WB, ↓WP, ↓WL, WR, WC, if_true, if_false, ite_true, ite_false, aop, ev, evs, readsA, List.replicate, numF, unA, resA, tupA, loadA, storeA, splice, fillA, kindsOk, plainEq, ↓reduceIte, Nat.reduceEqDiff, Nat.reduceLT, Int.reduceToNat, Int.reduceBEq, Int.reduceBNe, Nat.reduceAdd, Nat.reduceMul, Nat.reduceLeDiff, Int.reduceLT, Int.reduceSub, Int.reduceAdd]
    | ((first | refine atC ?_ ?_ | refine atG ?_ ?_ | refine atH ?_ ?_ | refine atP ?_ ?_) <;> intro hc <;> (try rw [hc]) <;> (try simp only [BD] at hc) <;> try (exfalso; omega)))
  all_goals try (first
    | (refine hK _ _ ?_; refine ⟨?_, qg⟩; simp [fineP] <;> omega; done))
def b43 : SC := (.seq (.ops [⟨some 1, .box (.t 0), none⟩, ⟨some 2, .box (.c (.agg [.str [], .bool false])), none⟩]) (.seq (.ops [⟨some 3, .mov (.c (.int (.i64) 8192)), none⟩]) (.seq (.seq (.ops [⟨some 4, .fieldAddr 2 (.t 1), none⟩, ⟨some 5, .load false 1 (.t 4), none⟩]) (.cond (.t 5) (.ops [⟨some 3, .mov (.c (.int (.i64) 0)), none⟩]) .skip)) (.seq (.ops [⟨some 6, .fieldAddr 0 (.t 1), none⟩, ⟨some 7, .load false 1 (.t 6), none⟩, ⟨some 8, .fieldAddr 1 (.t 1), none⟩, ⟨some 9, .load false 1 (.t 8), none⟩, ⟨some 10, .len (.sl) (.t 9), none⟩, ⟨some 11, .mov (.t 3), none⟩, ⟨some 12, .bin (.leq) (.other) (.t 10) (.t 11), none⟩, ⟨some 13, .build [.str [], .bool false] [(0, 1, .t 7), (1, 1, .t 12)], none⟩, ⟨none, .store 2 (.t 2) (.t 13), none⟩]) .ret))))
theorem t43 : tab 43 = some ⟨14, [.cell 2 true 2], b43⟩ := rfl
theorem bat_ofChange {key val : Bs} {v : AV} {g : Bool} {h : Heap} (hv : BytesAt h v val) : Runs (xcall X1 tab (.fn 43) [.agg [.str key, v, .bool g]] h) fun v' h' => v' = .agg [.str key, .bool (fineP ⟨key, val, g⟩)] ∧ Grow h h' := by
  refine Runs.intro fun K hK => ?_
  rw [w_fn rfl t43 (Nat.le_of_ble_eq_true rfl)]
  delta b43
  repeat' (first
    | simp (disch := first | exact qd | fail) only [WB, ↓WP, ↓WL, WR, WC, if_true, if_false, ite_true, ite_false, aop, ev, evs, readsA, List.replicate, numF, unA, resA, tupA, loadA, storeA, splice, fillA, kindsOk, plainEq, ↓reduceIte, Nat.reduceEqDiff, Nat.reduceLT, Int.reduceToNat, Int.reduceBEq, Int.reduceBNe, Nat.reduceAdd, Nat.reduceMul, Nat.reduceLeDiff, Int.reduceLT, Int.reduceSub, Int.reduceAdd]
    | ((first | refine atC ?_ ?_ | refine atG ?_ ?_ | refine atH ?_ ?_ | refine atP ?_ ?_) <;> intro hc <;> (try rw [hc]) <;> (try simp only [BD] at hc) <;> try (exfalso; omega)))
  all_goals try (first
    | (refine hK _ _ ?_; refine ⟨?_, qg⟩; subst_vars; simp [fineP] <;> omega; done))
def L42_0 : SC := (.seq (.ops [⟨some 12, .bin (.lss) (.other) (.t 11) (.t 10), none⟩]) (.seq (.cond (.t 12) .skip (.exit 0)) (.seq (.block 1 (.seq (.ops [⟨some 13, .idxAddrSl 3 (.t 9) (.t 11), none⟩, ⟨some 14, .load true 3 (.t 13), none⟩, ⟨some 7, .box (.c (.agg [.str [], .nilsl, .bool false])), none⟩, ⟨none, .store 3 (.t 7) (.t 14), none⟩]) (.seq (.ops [⟨some 15, .mov (.t 1), none⟩, ⟨some 16, .load true 3 (.t 7), none⟩, ⟨some 17, .callV (.t 15) [.t 16], none⟩, ⟨some 8, .box (.c (.agg [.str [], .bool false])), none⟩, ⟨none, .store 2 (.t 8) (.t 17), none⟩]) (.seq (.seq (.ops [⟨some 18, .fieldAddr 1 (.t 8), none⟩, ⟨some 19, .load false 1 (.t 18), none⟩, ⟨some 20, .un (.not) (.t 19), none⟩, ⟨some 21, .mov (.t 20), none⟩, ⟨some 22, .fieldAddr 0 (.t 8), some (21, false)⟩, ⟨some 23, .load false 1 (.t 22), some (21, false)⟩, ⟨some 24, .len (.str) (.t 23), some (21, false)⟩, ⟨some 25, .bin (.gtr) (.other) (.t 24) (.c (.int (.i64) 16)), some (21, false)⟩, ⟨some 26, .pick (.t 21) (.c (.bool true)) (.t 25), none⟩, ⟨some 27, .mov (.t 26), none⟩, ⟨some 28, .fieldAddr 0 (.t 8), some (27, false)⟩, ⟨some 29, .load false 1 (.t 28), some (27, false)⟩, ⟨some 30, .mov (.t 5), some (27, false)⟩, ⟨some 31, .bin (.leq) (.str) (.t 29) (.t 30), some (27, false)⟩, ⟨some 32, .pick (.t 27) (.c (.bool true)) (.t 31), none⟩]) (.cond (.t 32) (.seq (.ops [⟨some 4, .mov (.c (.bool false)), none⟩]) .ret) .skip)) (.ops [⟨some 33, .fieldAddr 0 (.t 8), none⟩, ⟨some 34, .load false 1 (.t 33), none⟩, ⟨some 5, .mov (.t 34), none⟩]))))) (.ops [⟨some 35, .bin (.add) (.other) (.t 11) (.c (.int (.i64) 1)), none⟩, ⟨some 11, .mov (.t 35), none⟩]))))
def b42 : SC := (.seq (.ops [⟨some 4, .mov (.c (.bool false)), none⟩]) (.seq (.ops [⟨some 5, .mov (.c (.str [])), none⟩]) (.seq (.seq (.ops [⟨some 9, .mov (.t 0), none⟩, ⟨some 10, .len (.sl) (.t 9), none⟩, ⟨some 11, .mov (.c (.int (.i64) 0)), none⟩]) (.block 0 (.loop L42_0))) (.seq (.ops [⟨some 4, .mov (.c (.bool true)), none⟩]) .ret))))
theorem t42 : tab 42 = some ⟨36, [.tmp 4], b42⟩ := rfl
theorem bat_riseC (l : List Ro) {h : Heap} {V : AV} (hV : CAt h V l) (hv : VAt h l) (hl : l.length ≤ 100000000) : Runs (xcall X1 tab (.fn 42) [V, .func 43 [] []] h) fun v' h' => v' = .bool (mayP (l.map Ro.en)) ∧ Grow h h' := by
  refine Runs.intro fun K hK => ?_
  rw [w_fn rfl t42 (Nat.le_of_ble_eq_true rfl)]
  delta b42
  repeat' (first
    | simp (disch := first | exact qd | fail) only [WB, ↓WP, ↓WL, WR, WC, if_true, if_false, ite_true, ite_false, aop, ev, evs, readsA, List.replicate, numF, unA, resA, tupA, loadA, storeA, splice, fillA, kindsOk, plainEq, ↓reduceIte, Nat.reduceEqDiff, Nat.reduceLT, Int.reduceToNat, Int.reduceBEq, Int.reduceBNe, Nat.reduceAdd, Nat.reduceMul, Nat.reduceLeDiff, Int.reduceLT, Int.reduceSub, Int.reduceAdd, VA_ln, VA_fl, VA_cl, encC_def]
    | ((first | refine atC ?_ ?_ | refine atG ?_ ?_ | refine atH ?_ ?_ | refine atP ?_ ?_) <;> intro hc <;> (try rw [hc]) <;> (try simp only [BD] at hc) <;> try (exfalso; omega))
    | ((first
      | (refine Runs.call (bat_ofChange ((hv.get qo).grow qg)) ?_; rintro _ _ ⟨rfl, gr⟩)
      | fail); all_goals ((try (have gn := gr.1; try simp only [nx_alloc, nx_set] at gn)); (try (have an := ha.num; try simp only [nx_alloc, nx_set, own_sl, own_nil] at an)); (try (have on := hO.num; try simp only [nx_alloc, nx_set] at on)); (try (have kn := hk.1; try simp only [nx_alloc, nx_set] at kn)); try have hB := hO.at)))
  all_goals try (first
    | (refine hK _ _ ?_; refine ⟨?_, qg⟩; congr 1; first | exact (may_yes (fun j h => hj j qo)).symm | exact (may_no (i := i) qo (by unfold okR Ro.en; rintro ⟨q1, q2, q3⟩; simp_all; try omega)).symm; done))
  all_goals
    refine wloop (α := Nat) [1, 9, 10] (fun x => [(5, .str (lastR l x)), (11, .int .i64 (x : Nat))]) (fun x H => Grow h H ∧ x ≤ l.length ∧ ∀ j, j < x → okR l j) (fun x => l.length - x) ?_ (0) ?_ ?_
    rotate_left
    · exact qf
    · (try dsimp only)
      ((repeat' with_reducible apply And.intro) <;> first | rfl | assumption | omega | (show Grow _ _; ((repeat' (first | exact Grow.refl _ | assumption | exact Grow.alloc _ _ | refine Grow.allocR ?_ _ | refine Grow.noteR ?_ _ _ | refine Grow.setR ?_ _ ?_ ?_ | omega | (simp only [nx_alloc, nx_set, own_sl, own_nil] <;> omega) | (refine App.grow (by assumption) ?_ ?_) | (refine Pok.grow (by assumption) ?_ ?_) | (apply Grow.trans; rotate_left; assumption) | fail)); first | done | fail); done) | exact pre_zero | exact pre_succ hj ⟨by assumption, by omega, by assumption⟩ | grind)
    intro i b1 H hI ih
    try dsimp only at hI
    obtain ⟨g, hi, hj⟩ := hI
    try have gn := g.1
    refine w_unfold (by delta L42_0; rfl) ?_
    simp only [keeps_nil, keeps_cons, List.cons_append, List.nil_append, lk_cons, lk_nil, numF, Nat.reduceEqDiff, Nat.reduceAdd, Nat.zero_add, ↓reduceIte]
    repeat' (first
      | simp (disch := first | exact qd | fail) only [WB, ↓WP, ↓WL, WR, WC, if_true, if_false, ite_true, ite_false, aop, ev, evs, readsA, List.replicate, numF, unA, resA, tupA, loadA, storeA, splice, fillA, kindsOk, plainEq, ↓reduceIte, Nat.reduceEqDiff, Nat.reduceLT, Int.reduceToNat, Int.reduceBEq, Int.reduceBNe, Nat.reduceAdd, Nat.reduceMul, Nat.reduceLeDiff, Int.reduceLT, Int.reduceSub, Int.reduceAdd, VA_ln, VA_fl, VA_cl, encC_def]
      | ((first | refine atC ?_ ?_ | refine atG ?_ ?_ | refine atH ?_ ?_ | refine atP ?_ ?_) <;> intro hc <;> (try rw [hc]) <;> (try simp only [BD] at hc) <;> try (exfalso; omega))
      | ((first
        | (refine Runs.call (bat_ofChange ((hv.get qo).grow qg)) ?_; rintro _ _ ⟨rfl, gr⟩)
        | fail); all_goals ((try (have gn := gr.1; try simp only [nx_alloc, nx_set] at gn)); (try (have an := ha.num; try simp only [nx_alloc, nx_set, own_sl, own_nil] at an)); (try (have on := hO.num; try simp only [nx_alloc, nx_set] at on)); (try (have kn := hk.1; try simp only [nx_alloc, nx_set] at kn)); try have hB := hO.at)))
    all_goals try (first
      | exact ih (i + 1) _ _ _ (by ((try dsimp only); omega)) (by exact qf) (by ((try dsimp only); ((repeat' with_reducible apply And.intro) <;> first | rfl | assumption | omega | (show Grow _ _; ((repeat' (first | exact Grow.refl _ | assumption | exact Grow.alloc _ _ | refine Grow.allocR ?_ _ | refine Grow.noteR ?_ _ _ | refine Grow.setR ?_ _ ?_ ?_ | omega | (simp only [nx_alloc, nx_set, own_sl, own_nil] <;> omega) | (refine App.grow (by assumption) ?_ ?_) | (refine Pok.grow (by assumption) ?_ ?_) | (apply Grow.trans; rotate_left; assumption) | fail)); first | done | fail); done) | exact pre_zero | exact pre_succ hj ⟨by assumption, by omega, by assumption⟩ | grind)))
      | (refine hK _ _ ?_; refine ⟨?_, qg⟩; congr 1; first | exact (may_yes (fun j h => hj j qo)).symm | exact (may_no (i := i) qo (by unfold okR Ro.en; rintro ⟨q1, q2, q3⟩; simp_all; try omega)).symm; done))
def L52_0 : SC := (.seq (.ops [⟨some 12, .bin (.lss) (.other) (.t 11) (.t 10), none⟩]) (.seq (.cond (.t 12) .skip (.exit 0)) (.seq (.block 1 (.seq (.ops [⟨some 13, .idxAddrSl 2 (.t 9) (.t 11), none⟩, ⟨some 14, .load true 2 (.t 13), none⟩, ⟨some 7, .box (.c (.agg [.str [], .nilsl])), none⟩, ⟨none, .store 2 (.t 7) (.t 14), none⟩]) (.seq (.ops [⟨some 15, .mov (.t 1), none⟩, ⟨some 16, .load true 2 (.t 7), none⟩, ⟨some 17, .callV (.t 15) [.t 16], none⟩, ⟨some 8, .box (.c (.agg [.str [], .bool false])), none⟩, ⟨none, .store 2 (.t 8) (.t 17), none⟩]) (.seq (.seq (.ops [⟨some 18, .fieldAddr 1 (.t 8), none⟩, ⟨some 19, .load false 1 (.t 18), none⟩, ⟨some 20, .un (.not) (.t 19), none⟩, ⟨some 21, .mov (.t 20), none⟩, ⟨some 22, .fieldAddr 0 (.t 8), some (21, false)⟩, ⟨some 23, .load false 1 (.t 22), some (21, false)⟩, ⟨some 24, .len (.str) (.t 23), some (21, false)⟩, ⟨some 25, .bin (.gtr) (.other) (.t 24) (.c (.int (.i64) 16)), some (21, false)⟩, ⟨some 26, .pick (.t 21) (.c (.bool true)) (.t 25), none⟩, ⟨some 27, .mov (.t 26), none⟩, ⟨some 28, .fieldAddr 0 (.t 8), some (27, false)⟩, ⟨some 29, .load false 1 (.t 28), some (27, false)⟩, ⟨some 30, .mov (.t 5), some (27, false)⟩, ⟨some 31, .bin (.leq) (.str) (.t 29) (.t 30), some (27, false)⟩, ⟨some 32, .pick (.t 27) (.c (.bool true)) (.t 31), none⟩]) (.cond (.t 32) (.seq (.ops [⟨some 4, .mov (.c (.bool false)), none⟩]) .ret) .skip)) (.ops [⟨some 33, .fieldAddr 0 (.t 8), none⟩, ⟨some 34, .load false 1 (.t 33), none⟩, ⟨some 5, .mov (.t 34), none⟩]))))) (.ops [⟨some 35, .bin (.add) (.other) (.t 11) (.c (.int (.i64) 1)), none⟩, ⟨some 11, .mov (.t 35), none⟩]))))
def b52 : SC := (.seq (.ops [⟨some 4, .mov (.c (.bool false)), none⟩]) (.seq (.ops [⟨some 5, .mov (.c (.str [])), none⟩]) (.seq (.seq (.ops [⟨some 9, .mov (.t 0), none⟩, ⟨some 10, .len (.sl) (.t 9), none⟩, ⟨some 11, .mov (.c (.int (.i64) 0)), none⟩]) (.block 0 (.loop L52_0))) (.seq (.ops [⟨some 4, .mov (.c (.bool true)), none⟩]) .ret))))
theorem t52 : tab 52 = some ⟨36, [.tmp 4], b52⟩ := rfl
theorem bat_riseR (l : List Ro) {h : Heap} {V : AV} (hV : RAt h V l) (hv : VAt h l) (hl : l.length ≤ 100000000) (hgo : ∀ i, i < l.length → (l.getD i default).gone = false) : Runs (xcall X1 tab (.fn 52) [V, .func 53 [] []] h) fun v' h' => v' = .bool (mayP (l.map Ro.en)) ∧ Grow h h' := by
  refine Runs.intro fun K hK => ?_
  rw [w_fn rfl t52 (Nat.le_of_ble_eq_true rfl)]
  delta b52
  repeat' (first
    | simp (disch := first | exact qd | fail) only [WB, ↓WP, ↓WL, WR, WC, if_true, if_false, ite_true, ite_false, aop, ev, evs, readsA, List.replicate, numF, unA, resA, tupA, loadA, storeA, splice, fillA, kindsOk, plainEq, ↓reduceIte, Nat.reduceEqDiff, Nat.reduceLT, Int.reduceToNat, Int.reduceBEq, Int.reduceBNe, Nat.reduceAdd, Nat.reduceMul, Nat.reduceLeDiff, Int.reduceLT, Int.reduceSub, Int.reduceAdd, VA_ln, VA_fl, VA_cl, encR_def]
    | ((first | refine atC ?_ ?_ | refine atG ?_ ?_ | refine atH ?_ ?_ | refine atP ?_ ?_) <;> intro hc <;> (try rw [hc]) <;> (try simp only [BD] at hc) <;> try (exfalso; omega))
    | ((first
      | (refine Runs.call (bat_ofRow ((hv.get qo).grow qg)) ?_; rintro _ _ ⟨rfl, gr⟩)
      | fail); all_goals ((try (have gn := gr.1; try simp only [nx_alloc, nx_set] at gn)); (try (have an := ha.num; try simp only [nx_alloc, nx_set, own_sl, own_nil] at an)); (try (have on := hO.num; try simp only [nx_alloc, nx_set] at on)); (try (have kn := hk.1; try simp only [nx_alloc, nx_set] at kn)); try have hB := hO.at)))
  all_goals try (first
    | (refine hK _ _ ?_; refine ⟨?_, qg⟩; congr 1; first | exact (may_yes (fun j h => hj j qo)).symm | exact (may_no (i := i) qo (by unfold okR; rw [hen qo]; rintro ⟨q1, q2, q3⟩; simp_all; try omega)).symm; done))
  all_goals
    refine wloop (α := Nat) [1, 9, 10] (fun x => [(5, .str (lastR l x)), (11, .int .i64 (x : Nat))]) (fun x H => Grow h H ∧ x ≤ l.length ∧ ∀ j, j < x → okR l j) (fun x => l.length - x) ?_ (0) ?_ ?_
    rotate_left
    · exact qf
    · (try dsimp only)
      ((repeat' with_reducible apply And.intro) <;> first | rfl | assumption | omega | (show Grow _ _; ((repeat' (first | exact Grow.refl _ | assumption | exact Grow.alloc _ _ | refine Grow.allocR ?_ _ | refine Grow.noteR ?_ _ _ | refine Grow.setR ?_ _ ?_ ?_ | omega | (simp only [nx_alloc, nx_set, own_sl, own_nil] <;> omega) | (refine App.grow (by assumption) ?_ ?_) | (refine Pok.grow (by assumption) ?_ ?_) | (apply Grow.trans; rotate_left; assumption) | fail)); first | done | fail); done) | exact pre_zero | exact pre_succ hj ⟨by rw [hen qo]; assumption, by omega, by assumption⟩ | grind)
    intro i b1 H hI ih
    try dsimp only at hI
    obtain ⟨g, hi, hj⟩ := hI
    have hen := fun hi => en_row (hgo i hi)
    try have gn := g.1
    refine w_unfold (by delta L52_0; rfl) ?_
    simp only [keeps_nil, keeps_cons, List.cons_append, List.nil_append, lk_cons, lk_nil, numF, Nat.reduceEqDiff, Nat.reduceAdd, Nat.zero_add, ↓reduceIte]
    repeat' (first
      | simp (disch := first | exact qd | fail) only [WB, ↓WP, ↓WL, WR, WC, if_true, if_false, ite_true, ite_false, aop, ev, evs, readsA, List.replicate, numF, unA, resA, tupA, loadA, storeA, splice, fillA, kindsOk, plainEq, ↓reduceIte, Nat.reduceEqDiff, Nat.reduceLT, Int.reduceToNat, Int.reduceBEq, Int.reduceBNe, Nat.reduceAdd, Nat.reduceMul, Nat.reduceLeDiff, Int.reduceLT, Int.reduceSub, Int.reduceAdd, VA_ln, VA_fl, VA_cl, encR_def]
      | ((first | refine atC ?_ ?_ | refine atG ?_ ?_ | refine atH ?_ ?_ | refine atP ?_ ?_) <;> intro hc <;> (try rw [hc]) <;> (try simp only [BD] at hc) <;> try (exfalso; omega))
      | ((first
        | (refine Runs.call (bat_ofRow ((hv.get qo).grow qg)) ?_; rintro _ _ ⟨rfl, gr⟩)
        | fail); all_goals ((try (have gn := gr.1; try simp only [nx_alloc, nx_set] at gn)); (try (have an := ha.num; try simp only [nx_alloc, nx_set, own_sl, own_nil] at an)); (try (have on := hO.num; try simp only [nx_alloc, nx_set] at on)); (try (have kn := hk.1; try simp only [nx_alloc, nx_set] at kn)); try have hB := hO.at)))
    all_goals try (first
      | exact ih (i + 1) _ _ _ (by ((try dsimp only); omega)) (by exact qf) (by ((try dsimp only); ((repeat' with_reducible apply And.intro) <;> first | rfl | assumption | omega | (show Grow _ _; ((repeat' (first | exact Grow.refl _ | assumption | exact Grow.alloc _ _ | refine Grow.allocR ?_ _ | refine Grow.noteR ?_ _ _ | refine Grow.setR ?_ _ ?_ ?_ | omega | (simp only [nx_alloc, nx_set, own_sl, own_nil] <;> omega) | (refine App.grow (by assumption) ?_ ?_) | (refine Pok.grow (by assumption) ?_ ?_) | (apply Grow.trans; rotate_left; assumption) | fail)); first | done | fail); done) | exact pre_zero | exact pre_succ hj ⟨by rw [hen qo]; assumption, by omega, by assumption⟩ | grind)))
      | (refine hK _ _ ?_; refine ⟨?_, qg⟩; congr 1; first | exact (may_yes (fun j h => hj j qo)).symm | exact (may_no (i := i) qo (by unfold okR; rw [hen qo]; rintro ⟨q1, q2, q3⟩; simp_all; try omega)).symm; done))
def b23 : SC := (.seq (.ops [⟨some 2, .mov (.c (.bool false)), none⟩]) (.seq (.ops [⟨some 3, .mov (.t 0), none⟩, ⟨some 4, .call 52 [.t 3, .c (.func 53 [] [])], none⟩, ⟨some 2, .mov (.t 4), none⟩]) .ret))
theorem t23 : tab 23 = some ⟨5, [.tmp 2], b23⟩ := rfl
theorem bat_May (l : List Ro) {h : Heap} {V : AV} (hV : RAt h V l) (hv : VAt h l) (hl : l.length ≤ 100000000) (hgo : ∀ i, i < l.length → (l.getD i default).gone = false) : Runs (xcall X1 tab (.fn 23) [V] h) fun v' h' => v' = .bool (mayP (l.map Ro.en)) ∧ Grow h h' := by
  refine Runs.intro fun K hK => ?_
  rw [w_fn rfl t23 (Nat.le_of_ble_eq_true rfl)]
  delta b23
  repeat' (first
    | simp (disch := first | exact qd | fail) only [WB, ↓WP, ↓WL, WR, WC, if_true, if_false, ite_true, ite_false, aop, ev, evs, readsA, List.replicate, numF, unA, resA, tupA, loadA, storeA, splice, fillA, kindsOk, plainEq, ↓reduceIte, Nat.reduceEqDiff, Nat.reduceLT, Int.reduceToNat, Int.reduceBEq, Int.reduceBNe, Nat.reduceAdd, Nat.reduceMul, Nat.reduceLeDiff, Int.reduceLT, Int.reduceSub, Int.reduceAdd]
    | ((first | refine atC ?_ ?_ | refine atG ?_ ?_ | refine atH ?_ ?_ | refine atP ?_ ?_) <;> intro hc <;> (try rw [hc]) <;> (try simp only [BD] at hc) <;> try (exfalso; omega))
    | ((first
      | (refine Runs.call (bat_riseR l hV hv hl hgo) ?_; rintro _ _ ⟨rfl, gr⟩)
      | fail); all_goals ((try (have gn := gr.1; try simp only [nx_alloc, nx_set] at gn)); (try (have an := ha.num; try simp only [nx_alloc, nx_set, own_sl, own_nil] at an)); (try (have on := hO.num; try simp only [nx_alloc, nx_set] at on)); (try (have kn := hk.1; try simp only [nx_alloc, nx_set] at kn)); try have hB := hO.at)))
  all_goals try (first
    | (refine hK _ _ ?_; exact ⟨rfl, gr⟩; done))
def b14 : SC := (.seq (.ops [⟨some 2, .mov (.c (.bool false)), none⟩]) (.seq (.ops [⟨some 3, .mov (.t 0), none⟩, ⟨some 4, .call 42 [.t 3, .c (.func 43 [] [])], none⟩, ⟨some 2, .mov (.t 4), none⟩]) .ret))
theorem t14 : tab 14 = some ⟨5, [.tmp 2], b14⟩ := rfl
theorem bat_MayChange (l : List Ro) {h : Heap} {V : AV} (hV : CAt h V l) (hv : VAt h l) (hl : l.length ≤ 100000000) : Runs (xcall X1 tab (.fn 14) [V] h) fun v' h' => v' = .bool (mayP (l.map Ro.en)) ∧ Grow h h' := by
  refine Runs.intro fun K hK => ?_
  rw [w_fn rfl t14 (Nat.le_of_ble_eq_true rfl)]
  delta b14
  repeat' (first
    | simp (disch := first | exact qd | fail) only [WB, ↓WP, ↓WL, WR, WC, if_true, if_false, ite_true, ite_false, aop, ev, evs, readsA, List.replicate, numF, unA, resA, tupA, loadA, storeA, splice, fillA, kindsOk, plainEq, ↓reduceIte, Nat.reduceEqDiff, Nat.reduceLT, Int.reduceToNat, Int.reduceBEq, Int.reduceBNe, Nat.reduceAdd, Nat.reduceMul, Nat.reduceLeDiff, Int.reduceLT, Int.reduceSub, Int.reduceAdd]
    | ((first | refine atC ?_ ?_ | refine atG ?_ ?_ | refine atH ?_ ?_ | refine atP ?_ ?_) <;> intro hc <;> (try rw [hc]) <;> (try simp only [BD] at hc) <;> try (exfalso; omega))
    | ((first
      | (refine Runs.call (bat_riseC l hV hv hl) ?_; rintro _ _ ⟨rfl, gr⟩)
      | fail); all_goals ((try (have gn := gr.1; try simp only [nx_alloc, nx_set] at gn)); (try (have an := ha.num; try simp only [nx_alloc, nx_set, own_sl, own_nil] at an)); (try (have on := hO.num; try simp only [nx_alloc, nx_set] at on)); (try (have kn := hk.1; try simp only [nx_alloc, nx_set] at kn)); try have hB := hO.at)))
  all_goals try (first
    | (refine hK _ _ ?_; exact ⟨rfl, gr⟩; done))
theorem okR_fits {l : List Ro} {i : Nat} : okR l i ↔ fitsP (lastR l i) (l.getD i default).key (l.getD i default).val = true ∧ ((l.getD i default).gone = true → (l.getD i default).val.length = 0) := by
  unfold okR fitsP fineP Ro.en
  cases (l.getD i default).gone <;> simp <;> grind
def L24_0 : SC := (.seq (.seq (.ops [⟨some 5, .mov (.t 3), none⟩, ⟨some 6, .mov (.t 0), none⟩, ⟨some 7, .len (.sl) (.t 6), none⟩, ⟨some 8, .bin (.lss) (.other) (.t 5) (.t 7), none⟩]) (.cond (.t 8) .skip (.exit 0))) (.seq (.block 1 (.seq (.ops [⟨some 4, .mov (.c (.str [])), none⟩]) (.seq (.seq (.ops [⟨some 11, .mov (.t 3), none⟩, ⟨some 12, .bin (.gtr) (.other) (.t 11) (.c (.int (.i64) 0)), none⟩]) (.cond (.t 12) (.ops [⟨some 13, .mov (.t 0), none⟩, ⟨some 14, .mov (.t 3), none⟩, ⟨some 15, .bin (.sub) (.other) (.t 14) (.c (.int (.i64) 1)), none⟩, ⟨some 16, .idxAddrSl 2 (.t 13) (.t 15), none⟩, ⟨some 17, .fieldAddr 0 (.t 16), none⟩, ⟨some 18, .load false 1 (.t 17), none⟩, ⟨some 4, .mov (.t 18), none⟩]) .skip)) (.seq (.ops [⟨some 19, .mov (.t 4), none⟩, ⟨some 20, .mov (.t 0), none⟩, ⟨some 21, .mov (.t 3), none⟩, ⟨some 22, .idxAddrSl 2 (.t 20) (.t 21), none⟩, ⟨some 23, .fieldAddr 0 (.t 22), none⟩, ⟨some 24, .load false 1 (.t 23), none⟩, ⟨some 25, .mov (.t 0), none⟩, ⟨some 26, .mov (.t 3), none⟩, ⟨some 27, .idxAddrSl 2 (.t 25) (.t 26), none⟩, ⟨some 28, .fieldAddr 1 (.t 27), none⟩, ⟨some 29, .load false 1 (.t 28), none⟩, ⟨some 30, .call 44 [.t 19, .t 24, .t 29], none⟩, ⟨some 31, .un (.not) (.t 30), none⟩]) (.cond (.t 31) (.seq (.ops [⟨some 2, .mov (.c (.bool false)), none⟩]) .ret) .skip))))) (.ops [⟨some 9, .mov (.t 3), none⟩, ⟨some 10, .bin (.add) (.other) (.t 9) (.c (.int (.i64) 1)), none⟩, ⟨some 3, .mov (.t 10), none⟩])))
def b24 : SC := (.seq (.ops [⟨some 2, .mov (.c (.bool false)), none⟩]) (.seq (.seq (.ops [⟨some 3, .mov (.c (.int (.i64) 0)), none⟩]) (.block 0 (.loop L24_0))) (.seq (.ops [⟨some 2, .mov (.c (.bool true)), none⟩]) .ret)))
theorem t24 : tab 24 = some ⟨32, [.tmp 2], b24⟩ := rfl
theorem rbat_May (l : List Ro) {h : Heap} {V : AV} (hV : RAt h V l) (hv : VAt h l) (hl : l.length ≤ 100000000) (hgo : ∀ i, i < l.length → (l.getD i default).gone = false) : Runs (xcall X1 tab (.fn 24) [V] h) fun v' h' => v' = .bool (mayP (l.map Ro.en)) ∧ h = h' := by
  refine Runs.intro fun K hK => ?_
  rw [w_fn rfl t24 (Nat.le_of_ble_eq_true rfl)]
  delta b24
  repeat' (first
    | simp (disch := first | exact qd | fail) only [WB, ↓WP, ↓WL, WR, WC, if_true, if_false, ite_true, ite_false, aop, ev, evs, readsA, List.replicate, numF, unA, resA, tupA, loadA, storeA, splice, fillA, kindsOk, plainEq, ↓reduceIte, Nat.reduceEqDiff, Nat.reduceLT, Int.reduceToNat, Int.reduceBEq, Int.reduceBNe, Nat.reduceAdd, Nat.reduceMul, Nat.reduceLeDiff, Int.reduceLT, Int.reduceSub, Int.reduceAdd, VA_ln, VA_fl, VA_cl, encR_def]
    | ((first | refine atC ?_ ?_ | refine atG ?_ ?_ | refine atH ?_ ?_ | refine atP ?_ ?_) <;> intro hc <;> (try rw [hc]) <;> (try simp only [BD] at hc) <;> try (exfalso; omega))
    | ((first
      | (refine Runs.call (rbat_fits ((hv.get qo).grow qg)) ?_; rintro _ _ ⟨rfl, rfl⟩)
      | fail); all_goals ((try (have gn := gr.1; try simp only [nx_alloc, nx_set] at gn)); (try (have an := ha.num; try simp only [nx_alloc, nx_set, own_sl, own_nil] at an)); (try (have on := hO.num; try simp only [nx_alloc, nx_set] at on)); (try (have kn := hk.1; try simp only [nx_alloc, nx_set] at kn)); try have hB := hO.at)))
  all_goals try (first
    | (refine hK _ _ ?_; refine ⟨?_, rfl⟩; congr 1; first | exact (may_yes (fun j h => hj j qo)).symm | exact (may_no (i := i) qo (fun z => by have := hq.1 z; grind)).symm; done))
  all_goals
    refine wloop (α := Nat) [0] (fun x => [(3, .int .i64 (x : Nat))]) (fun x H => h = H ∧ x ≤ l.length ∧ ∀ j, j < x → okR l j) (fun x => l.length - x) ?_ (0) ?_ ?_
    rotate_left
    · exact qf
    · (try dsimp only)
      ((repeat' with_reducible apply And.intro) <;> first | rfl | assumption | omega | (show Grow _ _; ((repeat' (first | exact Grow.refl _ | assumption | exact Grow.alloc _ _ | refine Grow.allocR ?_ _ | refine Grow.noteR ?_ _ _ | refine Grow.setR ?_ _ ?_ ?_ | omega | (simp only [nx_alloc, nx_set, own_sl, own_nil] <;> omega) | (refine App.grow (by assumption) ?_ ?_) | (refine Pok.grow (by assumption) ?_ ?_) | (apply Grow.trans; rotate_left; assumption) | fail)); first | done | fail); done) | exact pre_zero | exact pre_succ hj (hq.2 (by grind)) | grind)
    intro i b1 H hI ih
    try dsimp only at hI
    obtain ⟨rfl, hi, hj⟩ := hI
    have hq := okR_fits (l := l) (i := i)
    have hg := hgo i
    have hlp := lastR_pos (l := l) (i := i)
    have hl0 : ¬ 0 < i → lastR l i = [] := fun q => by unfold lastR; rw [if_neg q]
    try have gn := g.1
    refine w_unfold (by delta L24_0; rfl) ?_
    simp only [keeps_nil, keeps_cons, List.cons_append, List.nil_append, lk_cons, lk_nil, numF, Nat.reduceEqDiff, Nat.reduceAdd, Nat.zero_add, ↓reduceIte]
    repeat' (first
      | simp (disch := first | exact qd | fail) only [WB, ↓WP, ↓WL, WR, WC, if_true, if_false, ite_true, ite_false, aop, ev, evs, readsA, List.replicate, numF, unA, resA, tupA, loadA, storeA, splice, fillA, kindsOk, plainEq, ↓reduceIte, Nat.reduceEqDiff, Nat.reduceLT, Int.reduceToNat, Int.reduceBEq, Int.reduceBNe, Nat.reduceAdd, Nat.reduceMul, Nat.reduceLeDiff, Int.reduceLT, Int.reduceSub, Int.reduceAdd, VA_ln, VA_fl, VA_cl, encR_def]
      | ((first | refine atC ?_ ?_ | refine atG ?_ ?_ | refine atH ?_ ?_ | refine atP ?_ ?_) <;> intro hc <;> (try rw [hc]) <;> (try simp only [BD] at hc) <;> try (exfalso; omega))
      | ((first
        | (refine Runs.call (rbat_fits ((hv.get qo).grow qg)) ?_; rintro _ _ ⟨rfl, rfl⟩)
        | fail); all_goals ((try (have gn := gr.1; try simp only [nx_alloc, nx_set] at gn)); (try (have an := ha.num; try simp only [nx_alloc, nx_set, own_sl, own_nil] at an)); (try (have on := hO.num; try simp only [nx_alloc, nx_set] at on)); (try (have kn := hk.1; try simp only [nx_alloc, nx_set] at kn)); try have hB := hO.at)))
    all_goals try (first
      | exact ih (i + 1) _ _ _ (by ((try dsimp only); omega)) (by exact qf) (by ((try dsimp only); ((repeat' with_reducible apply And.intro) <;> first | rfl | assumption | omega | (show Grow _ _; ((repeat' (first | exact Grow.refl _ | assumption | exact Grow.alloc _ _ | refine Grow.allocR ?_ _ | refine Grow.noteR ?_ _ _ | refine Grow.setR ?_ _ ?_ ?_ | omega | (simp only [nx_alloc, nx_set, own_sl, own_nil] <;> omega) | (refine App.grow (by assumption) ?_ ?_) | (refine Pok.grow (by assumption) ?_ ?_) | (apply Grow.trans; rotate_left; assumption) | fail)); first | done | fail); done) | exact pre_zero | exact pre_succ hj (hq.2 (by grind)) | grind)))
      | (refine hK _ _ ?_; refine ⟨?_, rfl⟩; congr 1; first | exact (may_yes (fun j h => hj j qo)).symm | exact (may_no (i := i) qo (fun z => by have := hq.1 z; grind)).symm; done))
def L15_0 : SC := (.seq (.seq (.ops [⟨some 5, .mov (.t 3), none⟩, ⟨some 6, .mov (.t 0), none⟩, ⟨some 7, .len (.sl) (.t 6), none⟩, ⟨some 8, .bin (.lss) (.other) (.t 5) (.t 7), none⟩]) (.cond (.t 8) .skip (.exit 0))) (.seq (.block 1 (.seq (.ops [⟨some 4, .mov (.c (.str [])), none⟩]) (.seq (.seq (.ops [⟨some 11, .mov (.t 3), none⟩, ⟨some 12, .bin (.gtr) (.other) (.t 11) (.c (.int (.i64) 0)), none⟩]) (.cond (.t 12) (.ops [⟨some 13, .mov (.t 0), none⟩, ⟨some 14, .mov (.t 3), none⟩, ⟨some 15, .bin (.sub) (.other) (.t 14) (.c (.int (.i64) 1)), none⟩, ⟨some 16, .idxAddrSl 3 (.t 13) (.t 15), none⟩, ⟨some 17, .fieldAddr 0 (.t 16), none⟩, ⟨some 18, .load false 1 (.t 17), none⟩, ⟨some 4, .mov (.t 18), none⟩]) .skip)) (.seq (.ops [⟨some 19, .mov (.t 4), none⟩, ⟨some 20, .mov (.t 0), none⟩, ⟨some 21, .mov (.t 3), none⟩, ⟨some 22, .idxAddrSl 3 (.t 20) (.t 21), none⟩, ⟨some 23, .fieldAddr 0 (.t 22), none⟩, ⟨some 24, .load false 1 (.t 23), none⟩, ⟨some 25, .mov (.t 0), none⟩, ⟨some 26, .mov (.t 3), none⟩, ⟨some 27, .idxAddrSl 3 (.t 25) (.t 26), none⟩, ⟨some 28, .fieldAddr 1 (.t 27), none⟩, ⟨some 29, .load false 1 (.t 28), none⟩, ⟨some 30, .call 44 [.t 19, .t 24, .t 29], none⟩, ⟨some 31, .un (.not) (.t 30), none⟩, ⟨some 32, .mov (.t 31), none⟩, ⟨some 33, .mov (.t 0), some (32, false)⟩, ⟨some 34, .mov (.t 3), some (32, false)⟩, ⟨some 35, .idxAddrSl 3 (.t 33) (.t 34), some (32, false)⟩, ⟨some 36, .fieldAddr 2 (.t 35), some (32, false)⟩, ⟨some 37, .load false 1 (.t 36), some (32, false)⟩, ⟨some 38, .mov (.t 37), some (32, false)⟩, ⟨some 39, .mov (.t 0), some (38, true)⟩, ⟨some 40, .mov (.t 3), some (38, true)⟩, ⟨some 41, .idxAddrSl 3 (.t 39) (.t 40), some (38, true)⟩, ⟨some 42, .fieldAddr 1 (.t 41), some (38, true)⟩, ⟨some 43, .load false 1 (.t 42), some (38, true)⟩, ⟨some 44, .len (.sl) (.t 43), some (38, true)⟩, ⟨some 45, .bin (.gtr) (.other) (.t 44) (.c (.int (.i64) 0)), some (38, true)⟩, ⟨some 46, .pick (.t 38) (.t 45) (.c (.bool false)), some (32, false)⟩, ⟨some 47, .pick (.t 32) (.c (.bool true)) (.t 46), none⟩]) (.cond (.t 47) (.seq (.ops [⟨some 2, .mov (.c (.bool false)), none⟩]) .ret) .skip))))) (.ops [⟨some 9, .mov (.t 3), none⟩, ⟨some 10, .bin (.add) (.other) (.t 9) (.c (.int (.i64) 1)), none⟩, ⟨some 3, .mov (.t 10), none⟩])))
def b15 : SC := (.seq (.ops [⟨some 2, .mov (.c (.bool false)), none⟩]) (.seq (.seq (.ops [⟨some 3, .mov (.c (.int (.i64) 0)), none⟩]) (.block 0 (.loop L15_0))) (.seq (.ops [⟨some 2, .mov (.c (.bool true)), none⟩]) .ret)))
theorem t15 : tab 15 = some ⟨48, [.tmp 2], b15⟩ := rfl
theorem rbat_MayChange (l : List Ro) {h : Heap} {V : AV} (hV : CAt h V l) (hv : VAt h l) (hl : l.length ≤ 100000000) : Runs (xcall X1 tab (.fn 15) [V] h) fun v' h' => v' = .bool (mayP (l.map Ro.en)) ∧ h = h' := by
  refine Runs.intro fun K hK => ?_
  rw [w_fn rfl t15 (Nat.le_of_ble_eq_true rfl)]
  delta b15
  repeat' (first
    | simp (disch := first | exact qd | fail) only [WB, ↓WP, ↓WL, WR, WC, if_true, if_false, ite_true, ite_false, aop, ev, evs, readsA, List.replicate, numF, unA, resA, tupA, loadA, storeA, splice, fillA, kindsOk, plainEq, ↓reduceIte, Nat.reduceEqDiff, Nat.reduceLT, Int.reduceToNat, Int.reduceBEq, Int.reduceBNe, Nat.reduceAdd, Nat.reduceMul, Nat.reduceLeDiff, Int.reduceLT, Int.reduceSub, Int.reduceAdd, VA_ln, VA_fl, VA_cl, encC_def]
    | ((first | refine atC ?_ ?_ | refine atG ?_ ?_ | refine atH ?_ ?_ | refine atP ?_ ?_) <;> intro hc <;> (try rw [hc]) <;> (try simp only [BD] at hc) <;> try (exfalso; omega))
    | ((first
      | (refine Runs.call (rbat_fits ((hv.get qo).grow qg)) ?_; rintro _ _ ⟨rfl, rfl⟩)
      | fail); all_goals ((try (have gn := gr.1; try simp only [nx_alloc, nx_set] at gn)); (try (have an := ha.num; try simp only [nx_alloc, nx_set, own_sl, own_nil] at an)); (try (have on := hO.num; try simp only [nx_alloc, nx_set] at on)); (try (have kn := hk.1; try simp only [nx_alloc, nx_set] at kn)); try have hB := hO.at)))
  all_goals try (first
    | (refine hK _ _ ?_; refine ⟨?_, rfl⟩; congr 1; first | exact (may_yes (fun j h => hj j qo)).symm | exact (may_no (i := i) qo (fun z => by have := hq.1 z; grind)).symm; done))
  all_goals
    refine wloop (α := Nat) [0] (fun x => [(3, .int .i64 (x : Nat))]) (fun x H => h = H ∧ x ≤ l.length ∧ ∀ j, j < x → okR l j) (fun x => l.length - x) ?_ (0) ?_ ?_
    rotate_left
    · exact qf
    · (try dsimp only)
      ((repeat' with_reducible apply And.intro) <;> first | rfl | assumption | omega | (show Grow _ _; ((repeat' (first | exact Grow.refl _ | assumption | exact Grow.alloc _ _ | refine Grow.allocR ?_ _ | refine Grow.noteR ?_ _ _ | refine Grow.setR ?_ _ ?_ ?_ | omega | (simp only [nx_alloc, nx_set, own_sl, own_nil] <;> omega) | (refine App.grow (by assumption) ?_ ?_) | (refine Pok.grow (by assumption) ?_ ?_) | (apply Grow.trans; rotate_left; assumption) | fail)); first | done | fail); done) | exact pre_zero | exact pre_succ hj (hq.2 (by grind)) | grind)
    intro i b1 H hI ih
    try dsimp only at hI
    obtain ⟨rfl, hi, hj⟩ := hI
    have hq := okR_fits (l := l) (i := i)
    have hlp := lastR_pos (l := l) (i := i)
    have hl0 : ¬ 0 < i → lastR l i = [] := fun q => by unfold lastR; rw [if_neg q]
    try have gn := g.1
    refine w_unfold (by delta L15_0; rfl) ?_
    simp only [keeps_nil, keeps_cons, List.cons_append, List.nil_append, lk_cons, lk_nil, numF, Nat.reduceEqDiff, Nat.reduceAdd, Nat.zero_add, ↓reduceIte]
    repeat' (first
      | simp (disch := first | exact qd | fail) only [WB, ↓WP, ↓WL, WR, WC, if_true, if_false, ite_true, ite_false, aop, ev, evs, readsA, List.replicate, numF, unA, resA, tupA, loadA, storeA, splice, fillA, kindsOk, plainEq, ↓reduceIte, Nat.reduceEqDiff, Nat.reduceLT, Int.reduceToNat, Int.reduceBEq, Int.reduceBNe, Nat.reduceAdd, Nat.reduceMul, Nat.reduceLeDiff, Int.reduceLT, Int.reduceSub, Int.reduceAdd, VA_ln, VA_fl, VA_cl, encC_def]
      | ((first | refine atC ?_ ?_ | refine atG ?_ ?_ | refine atH ?_ ?_ | refine atP ?_ ?_) <;> intro hc <;> (try rw [hc]) <;> (try simp only [BD] at hc) <;> try (exfalso; omega))
      | ((first
        | (refine Runs.call (rbat_fits ((hv.get qo).grow qg)) ?_; rintro _ _ ⟨rfl, rfl⟩)
        | fail); all_goals ((try (have gn := gr.1; try simp only [nx_alloc, nx_set] at gn)); (try (have an := ha.num; try simp only [nx_alloc, nx_set, own_sl, own_nil] at an)); (try (have on := hO.num; try simp only [nx_alloc, nx_set] at on)); (try (have kn := hk.1; try simp only [nx_alloc, nx_set] at kn)); try have hB := hO.at)))
    all_goals try (first
      | exact ih (i + 1) _ _ _ (by ((try dsimp only); omega)) (by exact qf) (by ((try dsimp only); ((repeat' with_reducible apply And.intro) <;> first | rfl | assumption | omega | (show Grow _ _; ((repeat' (first | exact Grow.refl _ | assumption | exact Grow.alloc _ _ | refine Grow.allocR ?_ _ | refine Grow.noteR ?_ _ _ | refine Grow.setR ?_ _ ?_ ?_ | omega | (simp only [nx_alloc, nx_set, own_sl, own_nil] <;> omega) | (refine App.grow (by assumption) ?_ ?_) | (refine Pok.grow (by assumption) ?_ ?_) | (apply Grow.trans; rotate_left; assumption) | fail)); first | done | fail); done) | exact pre_zero | exact pre_succ hj (hq.2 (by grind)) | grind)))
      | (refine hK _ _ ?_; refine ⟨?_, rfl⟩; congr 1; first | exact (may_yes (fun j h => hj j qo)).symm | exact (may_no (i := i) qo (fun z => by have := hq.1 z; grind)).symm; done))
end Go.Proofs.Ytbcmdlaffjmfdaa.Ya

