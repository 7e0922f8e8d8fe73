/-
  Replies: texts, errors, what may be, what is the same.
-/
import Derived.Test.YtdmabiefaeidmaaDoorYaNam
import Derived.Test.YtdmabiefaeidmaaDoorYbL
import Derived.Test.YtdmabiefaeidmaaDoorYaXQ
namespace Go.Proofs.YtdmabiefaeidmaaDoor.Ya
open Go.Ya Go.Ya.Na
set_option linter.unusedVariables false
set_option linter.unusedSimpArgs false
set_option maxRecDepth 100000
set_option maxHeartbeats 8000000
def encT (s : Bs) : List AV := [.str s]
theorem encT_def (s : Bs) : encT s = [.str s] := rfl
theorem encT_len (s : Bs) : (encT s).length = 1 := rfl
abbrev TAt (h : Heap) (v : AV) (l : List Bs) : Prop := Rd 1 h v (l.map encT)
def AllY (l : List Bs) : Prop := ∀ p ∈ l, Bytes p
theorem AllY.at {l : List Bs} (h : AllY l) (i : Nat) : Bytes (l.getD i default) := by
  by_cases hi : i < l.length
  · rw [List.getD_eq_getElem?_getD, List.getElem?_eq_getElem hi]; exact h _ (List.getElem_mem hi)
  · rw [List.getD_eq_getElem?_getD, List.getElem?_eq_none qo]
    exact fun x hx => nomatch hx
theorem texts_eq {l m : List Bs} (h : l.length = m.length) (hj : ∀ j, j < l.length → l.getD j default = m.getD j default) : l = m := by
  refine List.ext_getElem h fun i h1 h2 => ?_
  have := hj i h1
  rwa [List.getD_eq_getElem?_getD, List.getD_eq_getElem?_getD, List.getElem?_eq_getElem h1, List.getElem?_eq_getElem h2] at this
structure Bk where
  client : Int
  inc : Int
  seq : Int
  status : Int
  ino : Int
  gen : Int
  dir : Bool
  size : Int
  change : Int
  before : Int
  dv : AV
  nv : AV
  boot : Int
  data : List Int
  names : List Bs
def BkAt (H : Heap) (z : Bk) : Prop := BytesAt H z.dv z.data ∧ TAt H z.nv z.names ∧ Bytes z.data ∧ AllY z.names ∧ z.data.length ≤ 2000000 ∧ z.names.length ≤ 2000000
def BkOk (z : Bk) : Prop := (0 ≤ z.client ∧ z.client ≤ 255) ∧ (0 ≤ z.inc ∧ z.inc ≤ 4294967295) ∧ (0 ≤ z.seq ∧ z.seq ≤ 18446744073709551615) ∧ (0 ≤ z.status ∧ z.status ≤ 255) ∧ (0 ≤ z.ino ∧ z.ino ≤ 4294967295) ∧ (0 ≤ z.gen ∧ z.gen ≤ 4294967295) ∧ (0 ≤ z.size ∧ z.size ≤ 4294967295) ∧ (0 ≤ z.change ∧ z.change ≤ 18446744073709551615) ∧ (0 ≤ z.before ∧ z.before ≤ 18446744073709551615) ∧ (0 ≤ z.boot ∧ z.boot ≤ 4294967295)
theorem BkAt.grow {H H' : Heap} {z : Bk} (a : BkAt H z) (g : Grow H H') : BkAt H' z := ⟨a.1.grow g, a.2.1.grow g, a.2.2⟩
def okN (l : List Bs) (i : Nat) : Bool := isP (l.getD i default) && (decide (i = 0) || lessA (l.getD (i - 1) default) (l.getD i default))
def mayN (l : List Bs) : Bool := (List.range l.length).all (okN l)
theorem mayN_no {l : List Bs} {i : Nat} (hi : i < l.length) (h : okN l i = false) : mayN l = false := by
  cases e : mayN l with
  | false => rfl
  | true =>
    unfold mayN at e
    rw [List.all_eq_true] at e
    have := e i (List.mem_range.2 hi)
    rw [h] at this; cases this
theorem mayN_yes {l : List Bs} (h : ∀ j, j < l.length → okN l j = true) : mayN l = true := by
  unfold mayN
  rw [List.all_eq_true]
  exact fun j hj => h j (List.mem_range.1 hj)
def lastN (l : List Bs) : Nat → Bs
  | 0 => []
  | i + 1 => l.getD i default
theorem lastN_0 (l : List Bs) : lastN l 0 = [] := rfl
theorem lastN_p {l : List Bs} {i : Nat} (h : ¬ i = 0) : lastN l i = l.getD (i - 1) default := by
  cases i with
  | zero => exact absurd rfl h
  | succ i => rfl
theorem lastN_s (l : List Bs) (i : Nat) : lastN l (i + 1) = l.getD i default := rfl
theorem isP_nil : isP [] = false := by simp [isP]
theorem ok_t0 {l : List Bs} {i : Nat} (h1 : isP (l.getD i default) = true) (h : i = 0) : okN l i = true := by unfold okN; rw [h1, decide_eq_true h]; rfl
theorem ok_t2 {l : List Bs} {i : Nat} (h1 : isP (l.getD i default) = true) (h : lessA (l.getD (i - 1) default) (l.getD i default) = true) : okN l i = true := by unfold okN; rw [h1, h]; simp
theorem ok_t1 {l : List Bs} {i : Nat} (h1 : isP (l.getD i default) = true) (h : lessA (lastN l i) (l.getD i default) = true) : okN l i = true := by
  by_cases hi : i = 0
  · exact ok_t0 h1 hi
  · rw [lastN_p hi] at h; exact ok_t2 h1 h
theorem ok_f1 {l : List Bs} {i : Nat} (h1 : isP (l.getD i default) = false) : okN l i = false := by unfold okN; rw [h1]; rfl
theorem ok_f3 {l : List Bs} {i : Nat} (hi : 0 < i) (h : lessA (l.getD (i - 1) default) (l.getD i default) = false) : okN l i = false := by unfold okN; rw [h, decide_eq_false qo]; simp
theorem ok_f2 {l : List Bs} {i : Nat} (h : lessA (lastN l i) (l.getD i default) = false) : okN l i = false := by
  by_cases hi : i = 0
  · subst hi
    rw [lastN_0] at h
    cases hs : l.getD 0 default with
    | nil => exact ok_f1 (by rw [hs]; exact isP_nil)
    | cons c r => rw [hs] at h; cases h
  · rw [lastN_p hi] at h; exact ok_f3 qo h
def mayB (z : Bk) : Bool := decide (z.client < 4 ∧ 0 < z.inc ∧ 0 < z.seq ∧ z.status ≤ 9 ∧ z.size ≤ 4096 ∧ z.data.length ≤ 64 ∧ z.names.length ≤ 32) && mayN z.names
theorem may_no {z : Bk} (h : ¬ (z.client < 4 ∧ 0 < z.inc ∧ 0 < z.seq ∧ z.status ≤ 9 ∧ z.size ≤ 4096 ∧ z.data.length ≤ 64 ∧ z.names.length ≤ 32)) : mayB z = false := by unfold mayB; rw [decide_eq_false h]; rfl
theorem may_is {z : Bk} (h : z.client < 4 ∧ 0 < z.inc ∧ 0 < z.seq ∧ z.status ≤ 9 ∧ z.size ≤ 4096 ∧ z.data.length ≤ 64 ∧ z.names.length ≤ 32) {t : Bool} (e : mayN z.names = t) : mayB z = t := by unfold mayB; rw [decide_eq_true h, e]; cases t <;> rfl
def sameB (a c : Bk) : Bool := decide (a.client = c.client ∧ a.inc = c.inc ∧ a.seq = c.seq ∧ a.status = c.status ∧ a.ino = c.ino ∧ a.gen = c.gen ∧ a.dir = c.dir ∧ a.size = c.size ∧ a.change = c.change ∧ a.before = c.before ∧ a.boot = c.boot ∧ a.data = c.data ∧ a.names = c.names)
def L21_0 : SC := (.seq (.seq (.ops [⟨some 11, .mov (.t 5), none⟩, ⟨some 12, .mov (.t 0), none⟩, ⟨some 13, .len (.sl) (.t 12), none⟩, ⟨some 14, .bin (.lss) (.other) (.t 11) (.t 13), none⟩]) (.cond (.t 14) .skip (.exit 0))) (.seq (.block 1 (.seq (.ops [⟨some 17, .mov (.t 0), none⟩, ⟨some 18, .mov (.t 5), none⟩, ⟨some 19, .idxAddrSl 1 (.t 17) (.t 18), none⟩, ⟨some 20, .load false 1 (.t 19), none⟩, ⟨some 21, .mov (.t 1), none⟩, ⟨some 22, .mov (.t 5), none⟩, ⟨some 23, .idxAddrSl 1 (.t 21) (.t 22), none⟩, ⟨some 24, .load false 1 (.t 23), none⟩, ⟨some 25, .bin (.neq) (.str) (.t 20) (.t 24), none⟩]) (.cond (.t 25) (.seq (.ops [⟨some 4, .mov (.c (.bool false)), none⟩]) .ret) .skip))) (.ops [⟨some 15, .mov (.t 5), none⟩, ⟨some 16, .bin (.add) (.other) (.t 15) (.c (.int (.i64) 1)), none⟩, ⟨some 5, .mov (.t 16), none⟩])))
def b21 : SC := (.seq (.ops [⟨some 4, .mov (.c (.bool false)), none⟩]) (.seq (.seq (.ops [⟨some 6, .mov (.t 0), none⟩, ⟨some 7, .len (.sl) (.t 6), none⟩, ⟨some 8, .mov (.t 1), none⟩, ⟨some 9, .len (.sl) (.t 8), none⟩, ⟨some 10, .bin (.neq) (.other) (.t 7) (.t 9), none⟩]) (.cond (.t 10) (.seq (.ops [⟨some 4, .mov (.c (.bool false)), none⟩]) .ret) .skip)) (.seq (.seq (.ops [⟨some 5, .mov (.c (.int (.i64) 0)), none⟩]) (.block 0 (.loop L21_0))) (.seq (.ops [⟨some 4, .mov (.c (.bool true)), none⟩]) .ret))))
theorem t21 : tab 21 = some ⟨26, [.tmp 4], b21⟩ := rfl
theorem f0_Texts (l m : List Bs) {h : Heap} {V W : AV} (hV : TAt h V l) (hW : TAt h W m) (hl : l.length ≤ 1000000000) (hm : m.length ≤ 1000000000) : Runs (xcall X1 tab (.fn 21) [V, W] h) fun v h' => v = .bool (decide (l = m)) ∧ h = h' := by
  refine Runs.intro fun K hK => ?_
  rw [w_fn rfl t21 (Nat.le_of_ble_eq_true rfl)]
  delta b21
  repeat' (first
    | simp (disch := first | exact qd | fail) only [WB, ↓WP, ↓WL, WR, WC, if_true, if_false, ite_true, ite_false, aop, ev, evs, readsA, List.replicate, numF, unA, resA, tupA, loadA, storeA, splice, fillA, kindsOk, plainEq, ↓reduceIte, Nat.reduceEqDiff, Nat.reduceLT, Int.reduceToNat, Int.reduceBEq, Int.reduceBNe, Nat.reduceAdd, Nat.reduceMul, Nat.reduceLeDiff, Int.reduceLT, Int.reduceSub, Int.reduceAdd, encT_def]
    | ((first | refine atC ?_ ?_ | refine atG ?_ ?_ | refine atH ?_ ?_ | refine atP ?_ ?_) <;> intro hc <;> (try rw [hc]) <;> (try simp only [BD] at hc) <;> try (exfalso; omega)))
  all_goals try (first
    | (refine hK _ _ ?_; (first | exact ⟨by (congr 1; exact (decide_eq_false (fun e => by have := congrArg List.length e; omega)).symm), rfl⟩ | exact ⟨by (congr 1; exact (decide_eq_true (texts_eq hlm (fun j q => hj j qo))).symm), rfl⟩ | exact ⟨by (congr 1; exact (decide_eq_false (fun e => hc (by rw [e]))).symm), rfl⟩ | fail); done)
    | fail)
  all_goals
    refine wloop (α := Nat) [0, 1] (fun x => [(5, .int .i64 (x : Nat))]) (fun x H => h = H ∧ l.length = m.length ∧ x ≤ l.length ∧ ∀ j, j < x → l.getD j default = m.getD j default) (fun x => l.length - x) ?_ (0) ?_ ?_
    rotate_left
    · exact qf
    · (try dsimp only)
      exact ⟨rfl, by omega, by omega, fun j q => absurd q qo⟩
    intro i b1 H hI ih
    try dsimp only at hI
    obtain ⟨rfl, hlm, hi, hj⟩ := hI
    try have gn := g.1
    refine w_unfold (by delta L21_0; rfl) ?_
    simp only [keeps_nil, keeps_cons, List.cons_append, List.nil_append, lk_cons, lk_nil, numF, Nat.reduceEqDiff, Nat.reduceAdd, Nat.zero_add, ↓reduceIte]
    repeat' (first
      | simp (disch := first | exact qd | fail) only [WB, ↓WP, ↓WL, WR, WC, if_true, if_false, ite_true, ite_false, aop, ev, evs, readsA, List.replicate, numF, unA, resA, tupA, loadA, storeA, splice, fillA, kindsOk, plainEq, ↓reduceIte, Nat.reduceEqDiff, Nat.reduceLT, Int.reduceToNat, Int.reduceBEq, Int.reduceBNe, Nat.reduceAdd, Nat.reduceMul, Nat.reduceLeDiff, Int.reduceLT, Int.reduceSub, Int.reduceAdd, encT_def]
      | ((first | refine atC ?_ ?_ | refine atG ?_ ?_ | refine atH ?_ ?_ | refine atP ?_ ?_) <;> intro hc <;> (try rw [hc]) <;> (try simp only [BD] at hc) <;> try (exfalso; omega)))
    all_goals try (first
      | exact ih (i + 1) _ _ _ (by ((try dsimp only); omega)) qf (by ((try dsimp only); (first | (exact ⟨rfl, hlm, by omega, pre_succ hj (by assumption)⟩) | fail)))
      | (refine hK _ _ ?_; (first | exact ⟨by (congr 1; exact (decide_eq_false (fun e => by have := congrArg List.length e; omega)).symm), rfl⟩ | exact ⟨by (congr 1; exact (decide_eq_true (texts_eq hlm (fun j q => hj j qo))).symm), rfl⟩ | exact ⟨by (congr 1; exact (decide_eq_false (fun e => hc (by rw [e]))).symm), rfl⟩ | fail); done)
      | fail)
def L48_0 : SC := (.seq (.ops [⟨some 14, .bin (.lss) (.other) (.t 13) (.t 12), none⟩]) (.seq (.cond (.t 14) .skip (.exit 0)) (.seq (.block 1 (.seq (.ops [⟨some 15, .mov (.t 13), none⟩, ⟨some 5, .mov (.t 15), none⟩]) (.seq (.ops [⟨some 16, .mov (.t 0), none⟩, ⟨some 17, .mov (.t 5), none⟩, ⟨some 18, .idxAddrSl 1 (.t 16) (.t 17), none⟩, ⟨some 19, .load false 1 (.t 18), none⟩, ⟨some 20, .mov (.t 1), none⟩, ⟨some 21, .mov (.t 5), none⟩, ⟨some 22, .idxAddrSl 1 (.t 20) (.t 21), none⟩, ⟨some 23, .load false 1 (.t 22), none⟩, ⟨some 24, .bin (.neq) (.str) (.t 19) (.t 23), none⟩]) (.cond (.t 24) (.seq (.ops [⟨some 4, .mov (.c (.bool false)), none⟩]) .ret) .skip)))) (.ops [⟨some 25, .bin (.add) (.other) (.t 13) (.c (.int (.i64) 1)), none⟩, ⟨some 13, .mov (.t 25), none⟩]))))
def b48 : SC := (.seq (.ops [⟨some 4, .mov (.c (.bool false)), none⟩]) (.seq (.seq (.ops [⟨some 6, .mov (.t 0), none⟩, ⟨some 7, .len (.sl) (.t 6), none⟩, ⟨some 8, .mov (.t 1), none⟩, ⟨some 9, .len (.sl) (.t 8), none⟩, ⟨some 10, .bin (.neq) (.other) (.t 7) (.t 9), none⟩]) (.cond (.t 10) (.seq (.ops [⟨some 4, .mov (.c (.bool false)), none⟩]) .ret) .skip)) (.seq (.seq (.ops [⟨some 11, .mov (.t 0), none⟩, ⟨some 12, .len (.sl) (.t 11), none⟩, ⟨some 13, .mov (.c (.int (.i64) 0)), none⟩]) (.block 0 (.loop L48_0))) (.seq (.ops [⟨some 4, .mov (.c (.bool true)), none⟩]) .ret))))
theorem t48 : tab 48 = some ⟨26, [.tmp 4], b48⟩ := rfl
theorem sl_Equal (l m : List Bs) {h : Heap} {V W : AV} (hV : TAt h V l) (hW : TAt h W m) (hl : l.length ≤ 1000000000) (hm : m.length ≤ 1000000000) : Runs (xcall X1 tab (.fn 48) [V, W] h) fun v h' => v = .bool (decide (l = m)) ∧ h = h' := by
  refine Runs.intro fun K hK => ?_
  rw [w_fn rfl t48 (Nat.le_of_ble_eq_true rfl)]
  delta b48
  repeat' (first
    | simp (disch := first | exact qd | fail) only [WB, ↓WP, ↓WL, WR, WC, if_true, if_false, ite_true, ite_false, aop, ev, evs, readsA, List.replicate, numF, unA, resA, tupA, loadA, storeA, splice, fillA, kindsOk, plainEq, ↓reduceIte, Nat.reduceEqDiff, Nat.reduceLT, Int.reduceToNat, Int.reduceBEq, Int.reduceBNe, Nat.reduceAdd, Nat.reduceMul, Nat.reduceLeDiff, Int.reduceLT, Int.reduceSub, Int.reduceAdd, encT_def]
    | ((first | refine atC ?_ ?_ | refine atG ?_ ?_ | refine atH ?_ ?_ | refine atP ?_ ?_) <;> intro hc <;> (try rw [hc]) <;> (try simp only [BD] at hc) <;> try (exfalso; omega)))
  all_goals try (first
    | (refine hK _ _ ?_; (first | exact ⟨by (congr 1; exact (decide_eq_false (fun e => by have := congrArg List.length e; omega)).symm), rfl⟩ | exact ⟨by (congr 1; exact (decide_eq_true (texts_eq hlm (fun j q => hj j qo))).symm), rfl⟩ | exact ⟨by (congr 1; exact (decide_eq_false (fun e => hc (by rw [e]))).symm), rfl⟩ | fail); done)
    | fail)
  all_goals
    refine wloop (α := Nat) [0, 1, 12] (fun x => [(13, .int .i64 (x : Nat))]) (fun x H => h = H ∧ l.length = m.length ∧ x ≤ l.length ∧ ∀ j, j < x → l.getD j default = m.getD j default) (fun x => l.length - x) ?_ (0) ?_ ?_
    rotate_left
    · exact qf
    · (try dsimp only)
      exact ⟨rfl, by omega, by omega, fun j q => absurd q qo⟩
    intro i b1 H hI ih
    try dsimp only at hI
    obtain ⟨rfl, hlm, hi, hj⟩ := hI
    try have gn := g.1
    refine w_unfold (by delta L48_0; rfl) ?_
    simp only [keeps_nil, keeps_cons, List.cons_append, List.nil_append, lk_cons, lk_nil, numF, Nat.reduceEqDiff, Nat.reduceAdd, Nat.zero_add, ↓reduceIte]
    repeat' (first
      | simp (disch := first | exact qd | fail) only [WB, ↓WP, ↓WL, WR, WC, if_true, if_false, ite_true, ite_false, aop, ev, evs, readsA, List.replicate, numF, unA, resA, tupA, loadA, storeA, splice, fillA, kindsOk, plainEq, ↓reduceIte, Nat.reduceEqDiff, Nat.reduceLT, Int.reduceToNat, Int.reduceBEq, Int.reduceBNe, Nat.reduceAdd, Nat.reduceMul, Nat.reduceLeDiff, Int.reduceLT, Int.reduceSub, Int.reduceAdd, encT_def]
      | ((first | refine atC ?_ ?_ | refine atG ?_ ?_ | refine atH ?_ ?_ | refine atP ?_ ?_) <;> intro hc <;> (try rw [hc]) <;> (try simp only [BD] at hc) <;> try (exfalso; omega)))
    all_goals try (first
      | exact ih (i + 1) _ _ _ (by ((try dsimp only); omega)) qf (by ((try dsimp only); (first | (exact ⟨rfl, hlm, by omega, pre_succ hj (by assumption)⟩) | fail)))
      | (refine hK _ _ ?_; (first | exact ⟨by (congr 1; exact (decide_eq_false (fun e => by have := congrArg List.length e; omega)).symm), rfl⟩ | exact ⟨by (congr 1; exact (decide_eq_true (texts_eq hlm (fun j q => hj j qo))).symm), rfl⟩ | exact ⟨by (congr 1; exact (decide_eq_false (fun e => hc (by rw [e]))).symm), rfl⟩ | fail); done)
      | fail)
def b47 : SC := (.seq (.ops [⟨some 4, .mov (.c (.bool false)), none⟩]) (.seq (.ops [⟨some 5, .mov (.t 0), none⟩, ⟨some 6, .bytesToStr (.t 5), none⟩, ⟨some 7, .mov (.t 1), none⟩, ⟨some 8, .bytesToStr (.t 7), none⟩, ⟨some 9, .bin (.eql) (.str) (.t 6) (.t 8), none⟩, ⟨some 4, .mov (.t 9), none⟩]) .ret))
theorem t47 : tab 47 = some ⟨10, [.tmp 4], b47⟩ := rfl
theorem b_Equal {a b : AV} {x y : List Int} {h : Heap} (ha : BytesAt h a x) (hb : BytesAt h b y) : Runs (xcall X1 tab (.fn 47) [a, b] h) fun v h' => v = .bool (x == y) ∧ h = h' := by
  refine Runs.intro fun K hK => ?_
  rw [w_fn rfl t47 (Nat.le_of_ble_eq_true rfl)]
  delta b47
  repeat' (first
    | simp (disch := first | exact qd | fail) only [WB, ↓WP, ↓WL, WR, WC, if_true, if_false, ite_true, ite_false, aop, ev, evs, readsA, List.replicate, numF, unA, resA, tupA, loadA, storeA, splice, fillA, kindsOk, plainEq, ↓reduceIte, Nat.reduceEqDiff, Nat.reduceLT, Int.reduceToNat, Int.reduceBEq, Int.reduceBNe, Nat.reduceAdd, Nat.reduceMul, Nat.reduceLeDiff, Int.reduceLT, Int.reduceSub, Int.reduceAdd]
    | ((first | refine atC ?_ ?_ | refine atG ?_ ?_ | refine atH ?_ ?_ | refine atP ?_ ?_) <;> intro hc <;> (try rw [hc]) <;> (try simp only [BD] at hc) <;> try (exfalso; omega)))
  all_goals try (first
    | (refine hK _ _ ?_; exact ⟨rfl, rfl⟩; done)
    | fail)
def L14_0 : SC := (.seq (.ops [⟨some 36, .bin (.lss) (.other) (.t 35) (.t 34), none⟩]) (.seq (.cond (.t 36) .skip (.exit 1)) (.seq (.block 2 (.seq (.ops [⟨some 37, .idxAddrSl 1 (.t 33) (.t 35), none⟩, ⟨some 38, .load false 1 (.t 37), none⟩, ⟨some 5, .mov (.t 38), none⟩]) (.seq (.seq (.ops [⟨some 39, .mov (.t 5), none⟩, ⟨some 40, .call 45 [.t 39], none⟩, ⟨some 41, .un (.not) (.t 40), none⟩, ⟨some 42, .mov (.t 41), none⟩, ⟨some 43, .mov (.t 5), some (42, false)⟩, ⟨some 44, .mov (.t 3), some (42, false)⟩, ⟨some 45, .bin (.leq) (.str) (.t 43) (.t 44), some (42, false)⟩, ⟨some 46, .pick (.t 42) (.c (.bool true)) (.t 45), none⟩]) (.cond (.t 46) (.seq (.ops [⟨some 2, .mov (.c (.bool false)), none⟩]) .ret) .skip)) (.ops [⟨some 47, .mov (.t 5), none⟩, ⟨some 3, .mov (.t 47), none⟩])))) (.ops [⟨some 48, .bin (.add) (.other) (.t 35) (.c (.int (.i64) 1)), none⟩, ⟨some 35, .mov (.t 48), none⟩]))))
def b14 : SC := (.seq (.ops [⟨some 1, .box (.t 0), none⟩, ⟨some 2, .mov (.c (.bool false)), none⟩]) (.seq (.block 0 (.seq (.seq (.ops [⟨some 7, .fieldAddr 0 (.t 1), none⟩, ⟨some 8, .load false 1 (.t 7), none⟩, ⟨some 9, .bin (.geq) (.other) (.t 8) (.c (.int (.u8) 4)), none⟩, ⟨some 6, .mov (.t 9), none⟩]) (.cond (.t 6) .skip (.seq (.ops [⟨some 10, .fieldAddr 1 (.t 1), none⟩, ⟨some 11, .load false 1 (.t 10), none⟩, ⟨some 12, .bin (.eql) (.other) (.t 11) (.c (.int (.u32) 0)), none⟩, ⟨some 6, .mov (.t 12), none⟩]) (.cond (.t 6) .skip (.seq (.ops [⟨some 13, .fieldAddr 2 (.t 1), none⟩, ⟨some 14, .load false 1 (.t 13), none⟩, ⟨some 15, .bin (.eql) (.other) (.t 14) (.c (.int (.u64) 0)), none⟩, ⟨some 6, .mov (.t 15), none⟩]) (.cond (.t 6) .skip (.ops [⟨some 16, .fieldAddr 3 (.t 1), none⟩, ⟨some 17, .load false 1 (.t 16), none⟩, ⟨some 18, .bin (.gtr) (.other) (.t 17) (.c (.int (.u8) 9)), none⟩, ⟨some 6, .mov (.t 18), none⟩]))))))) (.cond (.t 6) (.seq (.ops [⟨some 2, .mov (.c (.bool false)), none⟩]) .ret) (.seq (.seq (.ops [⟨some 20, .fieldAddr 4 (.t 1), none⟩, ⟨some 21, .fieldAddr 3 (.t 20), none⟩, ⟨some 22, .load false 1 (.t 21), none⟩, ⟨some 23, .bin (.gtr) (.other) (.t 22) (.c (.int (.u32) 4096)), none⟩, ⟨some 19, .mov (.t 23), none⟩]) (.cond (.t 19) .skip (.seq (.ops [⟨some 24, .fieldAddr 10 (.t 1), none⟩, ⟨some 25, .load false 1 (.t 24), none⟩, ⟨some 26, .len (.sl) (.t 25), none⟩, ⟨some 27, .bin (.gtr) (.other) (.t 26) (.c (.int (.i64) 64)), none⟩, ⟨some 19, .mov (.t 27), none⟩]) (.cond (.t 19) .skip (.ops [⟨some 28, .fieldAddr 11 (.t 1), none⟩, ⟨some 29, .load false 1 (.t 28), none⟩, ⟨some 30, .len (.sl) (.t 29), none⟩, ⟨some 31, .bin (.gtr) (.other) (.t 30) (.c (.int (.i64) 32)), none⟩, ⟨some 19, .mov (.t 31), none⟩]))))) (.cond (.t 19) (.seq (.ops [⟨some 2, .mov (.c (.bool false)), none⟩]) .ret) .skip))))) (.seq (.ops [⟨some 3, .mov (.c (.str [])), none⟩]) (.seq (.seq (.ops [⟨some 32, .fieldAddr 11 (.t 1), none⟩, ⟨some 33, .load false 1 (.t 32), none⟩, ⟨some 34, .len (.sl) (.t 33), none⟩, ⟨some 35, .mov (.c (.int (.i64) 0)), none⟩]) (.block 1 (.loop L14_0))) (.seq (.ops [⟨some 2, .mov (.c (.bool true)), none⟩]) .ret)))))
theorem t14 : tab 14 = some ⟨49, [.tmp 2], b14⟩ := rfl
theorem k_May (z : Bk) {h : Heap} (hz : BkAt h z) (ho : BkOk z) : Runs (xcall X1 tab (.fn 14) [.agg [.int .u8 z.client, .int .u32 z.inc, .int .u64 z.seq, .int .u8 z.status, .int .u32 z.ino, .int .u32 z.gen, .bool z.dir, .int .u32 z.size, .int .u64 z.change, .int .u64 z.before, z.dv, z.nv, .int .u32 z.boot]] h) fun v h' => v = .bool (mayB z) ∧ Grow h h' := by
  refine Runs.intro fun K hK => ?_
  obtain ⟨hd, hn, hyd, hyn, hld, hln⟩ := hz
  obtain ⟨o1, o2, o3, o4, o5, o6, o7, o8, o9, o10⟩ := ho
  have hfd := BytesAt.flat' hd
  have hcd := cells_of hfd
  have hfn := hn.flat
  have hcn := cells_of hfn
  rw [w_fn rfl t14 (Nat.le_of_ble_eq_true rfl)]
  delta b14
  repeat' (first
    | simp (disch := first | exact qd | fail) only [WB, ↓WP, ↓WL, WR, WC, if_true, if_false, ite_true, ite_false, aop, ev, evs, readsA, List.replicate, numF, unA, resA, tupA, loadA, storeA, splice, fillA, kindsOk, plainEq, ↓reduceIte, Nat.reduceEqDiff, Nat.reduceLT, Int.reduceToNat, Int.reduceBEq, Int.reduceBNe, Nat.reduceAdd, Nat.reduceMul, Nat.reduceLeDiff, Int.reduceLT, Int.reduceSub, Int.reduceAdd, hfd, hcd, hfn, hcn, encT_def]
    | ((first | refine atC ?_ ?_ | refine atG ?_ ?_ | refine atH ?_ ?_ | refine atP ?_ ?_) <;> intro hc <;> (try rw [hc]) <;> (try simp only [BD] at hc) <;> try (exfalso; omega)))
  all_goals try (first
    | (refine hK _ _ ?_; (first | exact ⟨by rw [may_no qo], qg⟩ | exact ⟨by rw [may_is (t := true) qo (mayN_yes (fun j q => hall j qo))], qg⟩ | exact ⟨by rw [may_is (t := false) qo (mayN_no (i := i) qo (by first | exact ok_f1 (by assumption) | exact ok_f2 (by assumption) | exact ok_f3 qo (by assumption) | fail))], qg⟩ | fail); done)
    | fail)
  all_goals
    refine wloop (α := Nat) [33, 34] (fun x => [(3, .str (lastN z.names x)), (35, .int .i64 (x : Nat))]) (fun x H => Grow h H ∧ H.get h.next = some (.cells [.int .u8 z.client, .int .u32 z.inc, .int .u64 z.seq, .int .u8 z.status, .int .u32 z.ino, .int .u32 z.gen, .bool z.dir, .int .u32 z.size, .int .u64 z.change, .int .u64 z.before, z.dv, z.nv, .int .u32 z.boot] false) ∧ x ≤ z.names.length ∧ ∀ j, j < x → okN z.names j = true) (fun x => z.names.length - x) ?_ (0) ?_ ?_
    rotate_left
    · exact qf
    · (try dsimp only)
      exact ⟨qg, qs, by omega, fun j q => absurd q qo⟩
    intro i b1 H hI ih
    try dsimp only at hI
    obtain ⟨g, hg, hi, hall⟩ := hI
    have hlast := lastN_s z.names i
    have hlt := Heap.lt_of_get hg
    try have gn := g.1
    refine w_unfold (by delta L14_0; rfl) ?_
    simp only [keeps_nil, keeps_cons, List.cons_append, List.nil_append, lk_cons, lk_nil, numF, Nat.reduceEqDiff, Nat.reduceAdd, Nat.zero_add, ↓reduceIte]
    repeat' (first
      | simp (disch := first | exact qd | fail) only [WB, ↓WP, ↓WL, WR, WC, if_true, if_false, ite_true, ite_false, aop, ev, evs, readsA, List.replicate, numF, unA, resA, tupA, loadA, storeA, splice, fillA, kindsOk, plainEq, ↓reduceIte, Nat.reduceEqDiff, Nat.reduceLT, Int.reduceToNat, Int.reduceBEq, Int.reduceBNe, Nat.reduceAdd, Nat.reduceMul, Nat.reduceLeDiff, Int.reduceLT, Int.reduceSub, Int.reduceAdd, hfd, hcd, hfn, hcn, encT_def, hg]
      | ((first | refine atC ?_ ?_ | refine atG ?_ ?_ | refine atH ?_ ?_ | refine atP ?_ ?_) <;> intro hc <;> (try rw [hc]) <;> (try simp only [BD] at hc) <;> try (exfalso; omega))
      | ((first
        | (refine Runs.call (name_Is (z.names.getD i default) (hyn.at i) _) ?_; rintro _ _ ⟨rfl, gr⟩)
        | fail); all_goals ((try (have gn := gr.1; try simp only [nx_alloc, nx_set] at gn)); (try (have an := ha.num; try simp only [nx_alloc, nx_set, own_sl, own_nil] at an)); (try (have on := hO.num; try simp only [nx_alloc, nx_set] at on)); (try (have kn := hk.1; try simp only [nx_alloc, nx_set] at kn)); try have hB := hO.at)))
    all_goals try (first
      | exact ih (i + 1) _ _ _ (by ((try dsimp only); omega)) qf (by ((try dsimp only); (first | (exact ⟨qg, qs, by omega, pre_succ hall (by first | exact ok_t1 (by assumption) (by assumption) | exact ok_t2 (by assumption) (by assumption) | exact ok_t0 (by assumption) qo | fail)⟩) | fail)))
      | (refine hK _ _ ?_; (first | exact ⟨by rw [may_no qo], qg⟩ | exact ⟨by rw [may_is (t := true) qo (mayN_yes (fun j q => hall j qo))], qg⟩ | exact ⟨by rw [may_is (t := false) qo (mayN_no (i := i) qo (by first | exact ok_f1 (by assumption) | exact ok_f2 (by assumption) | exact ok_f3 qo (by assumption) | fail))], qg⟩ | fail); done)
      | fail)
end Go.Proofs.YtdmabiefaeidmaaDoor.Ya
