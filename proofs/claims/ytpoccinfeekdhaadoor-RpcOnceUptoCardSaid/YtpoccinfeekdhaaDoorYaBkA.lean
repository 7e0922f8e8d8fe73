/-
  Replies: texts, errors, what may be, what is the same.
-/
import Derived.Test.YtpoccinfeekdhaaDoorYaNam
import Derived.Test.YtpoccinfeekdhaaDoorYbL
import Derived.Test.YtpoccinfeekdhaaDoorYaXD
import Derived.Test.YtpoccinfeekdhaaDoorYaXT
import Derived.Test.YtpoccinfeekdhaaDoorYaXP
namespace Go.Proofs.YtpoccinfeekdhaaDoor.Ya.B
open Go.Ya Go.Ya.Na
set_option linter.unusedVariables false
set_option linter.unusedSimpArgs false
set_option maxRecDepth 100000
set_option maxHeartbeats 8000000
def encT (s : Bs) : List AV := [.str s]
theorem encT_def (s : Bs) : encT s = [.str s] := rfl
theorem encT_len (s : Bs) : (encT s).length = 1 := rfl
abbrev TAt (h : Heap) (v : AV) (l : List Bs) : Prop := Rd 1 h v (l.map encT)
def AllY (l : List Bs) : Prop := ∀ p ∈ l, Bytes p
theorem AllY.at {l : List Bs} (h : AllY l) (i : Nat) : Bytes (l.getD i default) := by
  by_cases hi : i < l.length
  · rw [List.getD_eq_getElem?_getD, List.getElem?_eq_getElem hi]; exact h _ (List.getElem_mem hi)
  · rw [List.getD_eq_getElem?_getD, List.getElem?_eq_none qo]
    exact fun x hx => nomatch hx
structure Bk where
  client : Int
  inc : Int
  seq : Int
  status : Int
  ino : Int
  gen : Int
  dir : Bool
  size : Int
  change : Int
  before : Int
  dv : AV
  nv : AV
  boot : Int
  data : List Int
  names : List Bs
def BkAt (H : Heap) (z : Bk) : Prop := BytesAt H z.dv z.data ∧ TAt H z.nv z.names ∧ Bytes z.data ∧ AllY z.names ∧ z.data.length ≤ 2000000 ∧ z.names.length ≤ 2000000
def BkOk (z : Bk) : Prop := (0 ≤ z.client ∧ z.client ≤ 255) ∧ (0 ≤ z.inc ∧ z.inc ≤ 4294967295) ∧ (0 ≤ z.seq ∧ z.seq ≤ 18446744073709551615) ∧ (0 ≤ z.status ∧ z.status ≤ 255) ∧ (0 ≤ z.ino ∧ z.ino ≤ 4294967295) ∧ (0 ≤ z.gen ∧ z.gen ≤ 4294967295) ∧ (0 ≤ z.size ∧ z.size ≤ 4294967295) ∧ (0 ≤ z.change ∧ z.change ≤ 18446744073709551615) ∧ (0 ≤ z.before ∧ z.before ≤ 18446744073709551615) ∧ (0 ≤ z.boot ∧ z.boot ≤ 4294967295)
theorem BkAt.grow {H H' : Heap} {z : Bk} (a : BkAt H z) (g : Grow H H') : BkAt H' z := ⟨a.1.grow g, a.2.1.grow g, a.2.2⟩
def okN (l : List Bs) (i : Nat) : Bool := isP (l.getD i default) && (decide (i = 0) || lessA (l.getD (i - 1) default) (l.getD i default))
def mayN (l : List Bs) : Bool := (List.range l.length).all (okN l)
theorem mayN_no {l : List Bs} {i : Nat} (hi : i < l.length) (h : okN l i = false) : mayN l = false := by
  cases e : mayN l with
  | false => rfl
  | true =>
    unfold mayN at e
    rw [List.all_eq_true] at e
    have := e i (List.mem_range.2 hi)
    rw [h] at this; cases this
theorem mayN_yes {l : List Bs} (h : ∀ j, j < l.length → okN l j = true) : mayN l = true := by
  unfold mayN
  rw [List.all_eq_true]
  exact fun j hj => h j (List.mem_range.1 hj)
def lastN (l : List Bs) : Nat → Bs
  | 0 => []
  | i + 1 => l.getD i default
theorem lastN_0 (l : List Bs) : lastN l 0 = [] := rfl
theorem lastN_p {l : List Bs} {i : Nat} (h : ¬ i = 0) : lastN l i = l.getD (i - 1) default := by
  cases i with
  | zero => exact absurd rfl h
  | succ i => rfl
theorem lastN_s (l : List Bs) (i : Nat) : lastN l (i + 1) = l.getD i default := rfl
theorem isP_nil : isP [] = false := by simp [isP]
theorem ok_t0 {l : List Bs} {i : Nat} (h1 : isP (l.getD i default) = true) (h : i = 0) : okN l i = true := by unfold okN; rw [h1, decide_eq_true h]; rfl
theorem ok_t2 {l : List Bs} {i : Nat} (h1 : isP (l.getD i default) = true) (h : lessA (l.getD (i - 1) default) (l.getD i default) = true) : okN l i = true := by unfold okN; rw [h1, h]; simp
theorem ok_t1 {l : List Bs} {i : Nat} (h1 : isP (l.getD i default) = true) (h : lessA (lastN l i) (l.getD i default) = true) : okN l i = true := by
  by_cases hi : i = 0
  · exact ok_t0 h1 hi
  · rw [lastN_p hi] at h; exact ok_t2 h1 h
theorem ok_f1 {l : List Bs} {i : Nat} (h1 : isP (l.getD i default) = false) : okN l i = false := by unfold okN; rw [h1]; rfl
theorem ok_f3 {l : List Bs} {i : Nat} (hi : 0 < i) (h : lessA (l.getD (i - 1) default) (l.getD i default) = false) : okN l i = false := by unfold okN; rw [h, decide_eq_false qo]; simp
theorem ok_f2 {l : List Bs} {i : Nat} (h : lessA (lastN l i) (l.getD i default) = false) : okN l i = false := by
  by_cases hi : i = 0
  · subst hi
    rw [lastN_0] at h
    cases hs : l.getD 0 default with
    | nil => exact ok_f1 (by rw [hs]; exact isP_nil)
    | cons c r => rw [hs] at h; cases h
  · rw [lastN_p hi] at h; exact ok_f3 qo h
def mayB (z : Bk) : Bool := decide (z.client < 4 ∧ 0 < z.inc ∧ 0 < z.seq ∧ z.status ≤ 9 ∧ z.size ≤ 4096 ∧ z.data.length ≤ 64 ∧ z.names.length ≤ 32) && mayN z.names
theorem may_no {z : Bk} (h : ¬ (z.client < 4 ∧ 0 < z.inc ∧ 0 < z.seq ∧ z.status ≤ 9 ∧ z.size ≤ 4096 ∧ z.data.length ≤ 64 ∧ z.names.length ≤ 32)) : mayB z = false := by unfold mayB; rw [decide_eq_false h]; rfl
theorem may_is {z : Bk} (h : z.client < 4 ∧ 0 < z.inc ∧ 0 < z.seq ∧ z.status ≤ 9 ∧ z.size ≤ 4096 ∧ z.data.length ≤ 64 ∧ z.names.length ≤ 32) {t : Bool} (e : mayN z.names = t) : mayB z = t := by unfold mayB; rw [decide_eq_true h, e]; cases t <;> rfl
theorem t53 : tab 53 = some ⟨10, [.tmp 4], b53⟩ := rfl
theorem b_Equal {a b : AV} {x y : List Int} {h : Heap} (ha : BytesAt h a x) (hb : BytesAt h b y) : Runs (xcall X1 tab (.fn 53) [a, b] h) fun v h' => v = .bool (x == y) ∧ h = h' := by
  refine Runs.intro fun K hK => ?_
  rw [w_fn rfl t53 (Nat.le_of_ble_eq_true rfl)]
  delta b53
  repeat' (first
    | simp (disch := first | exact qd | fail) only [WB, ↓WP, ↓WL, WR, WC, if_true, if_false, ite_true, ite_false, aop, ev, evs, readsA, List.replicate, numF, unA, resA, tupA, loadA, storeA, splice, fillA, kindsOk, plainEq, ↓reduceIte, Nat.reduceEqDiff, Nat.reduceLT, Int.reduceToNat, Int.reduceBEq, Int.reduceBNe, Nat.reduceAdd, Nat.reduceMul, Nat.reduceLeDiff, Int.reduceLT, Int.reduceSub, Int.reduceAdd]
    | ((first | refine atC ?_ ?_ | refine atG ?_ ?_ | refine atH ?_ ?_ | refine atP ?_ ?_) <;> intro hc <;> (try rw [hc]) <;> (try simp only [BD] at hc) <;> try (exfalso; omega)))
  all_goals try (first
    | (refine hK _ _ ?_; exact ⟨rfl, rfl⟩; done)
    | fail)
theorem t46 : tab 46 = some ⟨49, [.tmp 2], b46⟩ := rfl
theorem k_May (z : Bk) {h : Heap} (hz : BkAt h z) (ho : BkOk z) : Runs (xcall X1 tab (.fn 46) [.agg [.int .u8 z.client, .int .u32 z.inc, .int .u64 z.seq, .int .u8 z.status, .int .u32 z.ino, .int .u32 z.gen, .bool z.dir, .int .u32 z.size, .int .u64 z.change, .int .u64 z.before, z.dv, z.nv, .int .u32 z.boot]] h) fun v h' => v = .bool (mayB z) ∧ Grow h h' := by
  refine Runs.intro fun K hK => ?_
  obtain ⟨hd, hn, hyd, hyn, hld, hln⟩ := hz
  obtain ⟨o1, o2, o3, o4, o5, o6, o7, o8, o9, o10⟩ := ho
  have hfd := BytesAt.flat' hd
  have hcd := cells_of hfd
  have hfn := hn.flat
  have hcn := cells_of hfn
  rw [w_fn rfl t46 (Nat.le_of_ble_eq_true rfl)]
  delta b46
  repeat' (first
    | simp (disch := first | exact qd | fail) only [WB, ↓WP, ↓WL, WR, WC, if_true, if_false, ite_true, ite_false, aop, ev, evs, readsA, List.replicate, numF, unA, resA, tupA, loadA, storeA, splice, fillA, kindsOk, plainEq, ↓reduceIte, Nat.reduceEqDiff, Nat.reduceLT, Int.reduceToNat, Int.reduceBEq, Int.reduceBNe, Nat.reduceAdd, Nat.reduceMul, Nat.reduceLeDiff, Int.reduceLT, Int.reduceSub, Int.reduceAdd, hfd, hcd, hfn, hcn, encT_def]
    | ((first | refine atC ?_ ?_ | refine atG ?_ ?_ | refine atH ?_ ?_ | refine atP ?_ ?_) <;> intro hc <;> (try rw [hc]) <;> (try simp only [BD] at hc) <;> try (exfalso; omega)))
  all_goals try (first
    | (refine hK _ _ ?_; (first | exact ⟨by rw [may_no qo], qg⟩ | exact ⟨by rw [may_is (t := true) qo (mayN_yes (fun j q => hall j qo))], qg⟩ | exact ⟨by rw [may_is (t := false) qo (mayN_no (i := i) qo (by first | exact ok_f1 (by assumption) | exact ok_f2 (by assumption) | exact ok_f3 qo (by assumption) | fail))], qg⟩ | fail); done)
    | fail)
  all_goals
    refine wloop (α := Nat) [33, 34] (fun x => [(3, .str (lastN z.names x)), (35, .int .i64 (x : Nat))]) (fun x H => Grow h H ∧ H.get h.next = some (.cells [.int .u8 z.client, .int .u32 z.inc, .int .u64 z.seq, .int .u8 z.status, .int .u32 z.ino, .int .u32 z.gen, .bool z.dir, .int .u32 z.size, .int .u64 z.change, .int .u64 z.before, z.dv, z.nv, .int .u32 z.boot] false) ∧ x ≤ z.names.length ∧ ∀ j, j < x → okN z.names j = true) (fun x => z.names.length - x) ?_ (0) ?_ ?_
    rotate_left
    · exact qf
    · (try dsimp only)
      exact ⟨qg, qs, by omega, fun j q => absurd q qo⟩
    intro i b1 H hI ih
    try dsimp only at hI
    obtain ⟨g, hg, hi, hall⟩ := hI
    have hlast := lastN_s z.names i
    have hlt := Heap.lt_of_get hg
    try have gn := g.1
    refine w_unfold (by delta L46_0; rfl) ?_
    simp only [keeps_nil, keeps_cons, List.cons_append, List.nil_append, lk_cons, lk_nil, numF, Nat.reduceEqDiff, Nat.reduceAdd, Nat.zero_add, ↓reduceIte]
    repeat' (first
      | simp (disch := first | exact qd | fail) only [WB, ↓WP, ↓WL, WR, WC, if_true, if_false, ite_true, ite_false, aop, ev, evs, readsA, List.replicate, numF, unA, resA, tupA, loadA, storeA, splice, fillA, kindsOk, plainEq, ↓reduceIte, Nat.reduceEqDiff, Nat.reduceLT, Int.reduceToNat, Int.reduceBEq, Int.reduceBNe, Nat.reduceAdd, Nat.reduceMul, Nat.reduceLeDiff, Int.reduceLT, Int.reduceSub, Int.reduceAdd, hfd, hcd, hfn, hcn, encT_def, hg]
      | ((first | refine atC ?_ ?_ | refine atG ?_ ?_ | refine atH ?_ ?_ | refine atP ?_ ?_) <;> intro hc <;> (try rw [hc]) <;> (try simp only [BD] at hc) <;> try (exfalso; omega))
      | ((first
        | (refine Runs.call (name_Is (z.names.getD i default) (hyn.at i) _) ?_; rintro _ _ ⟨rfl, gr⟩)
        | fail); all_goals ((try (have gn := gr.1; try simp only [nx_alloc, nx_set] at gn)); (try (have an := ha.num; try simp only [nx_alloc, nx_set, own_sl, own_nil] at an)); (try (have on := hO.num; try simp only [nx_alloc, nx_set] at on)); (try (have kn := hk.1; try simp only [nx_alloc, nx_set] at kn)); try have hB := hO.at)))
    all_goals try (first
      | exact ih (i + 1) _ _ _ (by ((try dsimp only); omega)) qf (by ((try dsimp only); (first | (exact ⟨qg, qs, by omega, pre_succ hall (by first | exact ok_t1 (by assumption) (by assumption) | exact ok_t2 (by assumption) (by assumption) | exact ok_t0 (by assumption) qo | fail)⟩) | fail)))
      | (refine hK _ _ ?_; (first | exact ⟨by rw [may_no qo], qg⟩ | exact ⟨by rw [may_is (t := true) qo (mayN_yes (fun j q => hall j qo))], qg⟩ | exact ⟨by rw [may_is (t := false) qo (mayN_no (i := i) qo (by first | exact ok_f1 (by assumption) | exact ok_f2 (by assumption) | exact ok_f3 qo (by assumption) | fail))], qg⟩ | fail); done)
      | fail)
theorem t22 : tab 22 = some ⟨72, [.tmp 2], b22⟩ := rfl
theorem ref_May (z : Bk) {h : Heap} (hz : BkAt h z) (ho : BkOk z) : Runs (xcall X1 tab (.fn 22) [.agg [.int .u8 z.client, .int .u32 z.inc, .int .u64 z.seq, .int .u8 z.status, .int .u32 z.ino, .int .u32 z.gen, .bool z.dir, .int .u32 z.size, .int .u64 z.change, .int .u64 z.before, z.dv, z.nv, .int .u32 z.boot]] h) fun v h' => v = .bool (mayB z) ∧ Grow h h' := by
  refine Runs.intro fun K hK => ?_
  obtain ⟨hd, hn, hyd, hyn, hld, hln⟩ := hz
  obtain ⟨o1, o2, o3, o4, o5, o6, o7, o8, o9, o10⟩ := ho
  have hfd := BytesAt.flat' hd
  have hcd := cells_of hfd
  have hfn := hn.flat
  have hcn := cells_of hfn
  rw [w_fn rfl t22 (Nat.le_of_ble_eq_true rfl)]
  delta b22
  repeat' (first
    | simp (disch := first | exact qd | fail) only [WB, ↓WP, ↓WL, WR, WC, if_true, if_false, ite_true, ite_false, aop, ev, evs, readsA, List.replicate, numF, unA, resA, tupA, loadA, storeA, splice, fillA, kindsOk, plainEq, ↓reduceIte, Nat.reduceEqDiff, Nat.reduceLT, Int.reduceToNat, Int.reduceBEq, Int.reduceBNe, Nat.reduceAdd, Nat.reduceMul, Nat.reduceLeDiff, Int.reduceLT, Int.reduceSub, Int.reduceAdd, hfd, hcd, hfn, hcn, encT_def]
    | ((first | refine atC ?_ ?_ | refine atG ?_ ?_ | refine atH ?_ ?_ | refine atP ?_ ?_) <;> intro hc <;> (try rw [hc]) <;> (try simp only [BD] at hc) <;> try (exfalso; omega)))
  all_goals try (first
    | (refine hK _ _ ?_; (first | exact ⟨by rw [may_no qo], qg⟩ | exact ⟨by rw [may_is (t := true) qo (mayN_yes (fun j q => hall j qo))], qg⟩ | exact ⟨by rw [may_is (t := false) qo (mayN_no (i := i) qo (by first | exact ok_f1 (by assumption) | exact ok_f2 (by assumption) | exact ok_f3 qo (by assumption) | fail))], qg⟩ | fail); done)
    | fail)
  all_goals
    refine wloop (α := Nat) [1] (fun x => [(3, .int .i64 (x : Nat))]) (fun x H => Grow h H ∧ H.get h.next = some (.cells [.int .u8 z.client, .int .u32 z.inc, .int .u64 z.seq, .int .u8 z.status, .int .u32 z.ino, .int .u32 z.gen, .bool z.dir, .int .u32 z.size, .int .u64 z.change, .int .u64 z.before, z.dv, z.nv, .int .u32 z.boot] false) ∧ x ≤ z.names.length ∧ ∀ j, j < x → okN z.names j = true) (fun x => z.names.length - x) ?_ (0) ?_ ?_
    rotate_left
    · exact qf
    · (try dsimp only)
      exact ⟨qg, qs, by omega, fun j q => absurd q qo⟩
    intro i b1 H hI ih
    try dsimp only at hI
    obtain ⟨g, hg, hi, hall⟩ := hI
    have hlast := lastN_s z.names i
    have hlt := Heap.lt_of_get hg
    try have gn := g.1
    refine w_unfold (by delta L22_0; rfl) ?_
    simp only [keeps_nil, keeps_cons, List.cons_append, List.nil_append, lk_cons, lk_nil, numF, Nat.reduceEqDiff, Nat.reduceAdd, Nat.zero_add, ↓reduceIte]
    repeat' (first
      | simp (disch := first | exact qd | fail) only [WB, ↓WP, ↓WL, WR, WC, if_true, if_false, ite_true, ite_false, aop, ev, evs, readsA, List.replicate, numF, unA, resA, tupA, loadA, storeA, splice, fillA, kindsOk, plainEq, ↓reduceIte, Nat.reduceEqDiff, Nat.reduceLT, Int.reduceToNat, Int.reduceBEq, Int.reduceBNe, Nat.reduceAdd, Nat.reduceMul, Nat.reduceLeDiff, Int.reduceLT, Int.reduceSub, Int.reduceAdd, hfd, hcd, hfn, hcn, encT_def, hg]
      | ((first | refine atC ?_ ?_ | refine atG ?_ ?_ | refine atH ?_ ?_ | refine atP ?_ ?_) <;> intro hc <;> (try rw [hc]) <;> (try simp only [BD] at hc) <;> try (exfalso; omega))
      | ((first
        | (refine Runs.call (ref_Is (z.names.getD i default) (hyn.at i) _) ?_; rintro _ _ ⟨rfl, rfl⟩)
        | fail); all_goals ((try (have gn := gr.1; try simp only [nx_alloc, nx_set] at gn)); (try (have an := ha.num; try simp only [nx_alloc, nx_set, own_sl, own_nil] at an)); (try (have on := hO.num; try simp only [nx_alloc, nx_set] at on)); (try (have kn := hk.1; try simp only [nx_alloc, nx_set] at kn)); try have hB := hO.at)))
    all_goals try (first
      | exact ih (i + 1) _ _ _ (by ((try dsimp only); omega)) qf (by ((try dsimp only); (first | (exact ⟨qg, qs, by omega, pre_succ hall (by first | exact ok_t1 (by assumption) (by assumption) | exact ok_t2 (by assumption) (by assumption) | exact ok_t0 (by assumption) qo | fail)⟩) | fail)))
      | (refine hK _ _ ?_; (first | exact ⟨by rw [may_no qo], qg⟩ | exact ⟨by rw [may_is (t := true) qo (mayN_yes (fun j q => hall j qo))], qg⟩ | exact ⟨by rw [may_is (t := false) qo (mayN_no (i := i) qo (by first | exact ok_f1 (by assumption) | exact ok_f2 (by assumption) | exact ok_f3 qo (by assumption) | fail))], qg⟩ | fail); done)
      | fail)
end Go.Proofs.YtpoccinfeekdhaaDoor.Ya.B
