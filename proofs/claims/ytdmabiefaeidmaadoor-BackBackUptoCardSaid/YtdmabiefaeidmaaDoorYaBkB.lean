/-
  Replies: what is the same; errors.
-/
import Derived.Test.YtdmabiefaeidmaaDoorYaBkA
import Derived.Test.YtdmabiefaeidmaaDoorYbL
namespace Go.Proofs.YtdmabiefaeidmaaDoor.Ya
open Go.Ya Go.Ya.Na
set_option linter.unusedVariables false
set_option linter.unusedSimpArgs false
set_option maxRecDepth 100000
set_option maxHeartbeats 8000000
theorem min255 {n : Nat} : minA (.int .u32 (n : Nat)) [.int .u32 255] = some (.int .u32 (min n 255 : Nat)) := by
  simp only [minA, if_true]
  congr 2
  split <;> omega
theorem if_s1 {p : Prop} [Decidable p] : (if p then some true else some false) = some (decide p) := by split <;> simp_all
theorem if_s2 {p q : Prop} [Decidable p] [Decidable q] : (if p then some (decide q) else some false) = some (decide (p ∧ q)) := by split <;> simp_all
theorem same_no {a c : Bk} (h : ¬ (a.client = c.client ∧ a.inc = c.inc ∧ a.seq = c.seq ∧ a.status = c.status ∧ a.ino = c.ino ∧ a.gen = c.gen ∧ a.dir = c.dir ∧ a.size = c.size ∧ a.change = c.change ∧ a.before = c.before ∧ a.boot = c.boot ∧ a.data = c.data ∧ a.names = c.names)) : sameB a c = false := decide_eq_false h
theorem same_is {a c : Bk} (h1 : a.client = c.client) (h2 : a.inc = c.inc) (h3 : a.seq = c.seq) (h4 : a.status = c.status) (h5 : a.ino = c.ino ∧ a.gen = c.gen ∧ a.dir = c.dir ∧ a.size = c.size ∧ a.change = c.change) (h6 : a.before = c.before) (h7 : a.boot = c.boot) (h8 : a.data = c.data) {t : Bool} (h9 : decide (a.names = c.names) = t) : sameB a c = t := by
  unfold sameB
  obtain ⟨q1, q2, q3, q4, q5⟩ := h5
  subst h9
  congr 1
  refine propext ⟨fun e => e.2.2.2.2.2.2.2.2.2.2.2.2, fun e => ⟨h1, h2, h3, h4, q1, q2, q3, q4, q5, h6, h7, h8, e⟩⟩
theorem same_bt {a c : Bk} (h1 : a.client = c.client) (h2 : a.inc = c.inc) (h3 : a.seq = c.seq) (h4 : a.status = c.status) (h5 : a.ino = c.ino ∧ a.gen = c.gen ∧ a.dir = c.dir ∧ a.size = c.size ∧ a.change = c.change) (h6 : a.before = c.before) (h8 : a.data = c.data) (h9 : a.names = c.names) : sameB a c = (a.boot == c.boot) := by
  by_cases h7 : a.boot = c.boot
  · rw [same_is (t := true) h1 h2 h3 h4 h5 h6 h7 h8 (decide_eq_true h9), h7]; simp
  · rw [same_no (fun e => h7 e.2.2.2.2.2.2.2.2.2.2.1)]; simp [h7]
def b24 : SC := (.seq (.ops [⟨some 2, .mov (.c (.int (.u8) 0)), none⟩]) (.seq (.ops [⟨some 3, .mov (.t 0), none⟩, ⟨some 4, .min (.t 3) [.c (.int (.u32) 255)], none⟩, ⟨some 5, .convInt (.u8) (.t 4), none⟩, ⟨some 2, .mov (.t 5), none⟩]) .ret))
theorem t24 : tab 24 = some ⟨6, [.tmp 2], b24⟩ := rfl
theorem k_small {n : Nat} (hn : n ≤ 4294967295) (h : Heap) : Runs (xcall X1 tab (.fn 24) [.int .u32 (n : Nat)] h) fun v h' => v = .int .u8 (min n 255 : Nat) ∧ h = h' := by
  refine Runs.intro fun K hK => ?_
  rw [w_fn rfl t24 (Nat.le_of_ble_eq_true rfl)]
  delta b24
  repeat' (first
    | simp (disch := first | exact qd | fail) only [WB, ↓WP, ↓WL, WR, WC, if_true, if_false, ite_true, ite_false, aop, ev, evs, readsA, List.replicate, numF, unA, resA, tupA, loadA, storeA, splice, fillA, kindsOk, plainEq, ↓reduceIte, Nat.reduceEqDiff, Nat.reduceLT, Int.reduceToNat, Int.reduceBEq, Int.reduceBNe, Nat.reduceAdd, Nat.reduceMul, Nat.reduceLeDiff, Int.reduceLT, Int.reduceSub, Int.reduceAdd, min255]
    | ((first | refine atC ?_ ?_ | refine atG ?_ ?_ | refine atH ?_ ?_ | refine atP ?_ ?_) <;> intro hc <;> (try rw [hc]) <;> (try simp only [BD] at hc) <;> try (exfalso; omega)))
  all_goals try (first
    | (refine hK _ _ ?_; exact ⟨rfl, rfl⟩; done)
    | fail)
def b17 : SC := (.seq (.ops [⟨some 2, .box (.t 0), none⟩, ⟨some 3, .box (.t 1), none⟩, ⟨some 4, .mov (.c (.bool false)), none⟩]) (.seq (.ops [⟨some 5, .fieldAddr 0 (.t 2), none⟩, ⟨some 6, .load false 1 (.t 5), none⟩, ⟨some 7, .fieldAddr 0 (.t 3), none⟩, ⟨some 8, .load false 1 (.t 7), none⟩, ⟨some 9, .bin (.eql) (.other) (.t 6) (.t 8), none⟩, ⟨some 10, .mov (.t 9), none⟩, ⟨some 11, .fieldAddr 1 (.t 2), some (10, true)⟩, ⟨some 12, .load false 1 (.t 11), some (10, true)⟩, ⟨some 13, .fieldAddr 1 (.t 3), some (10, true)⟩, ⟨some 14, .load false 1 (.t 13), some (10, true)⟩, ⟨some 15, .bin (.eql) (.other) (.t 12) (.t 14), some (10, true)⟩, ⟨some 16, .pick (.t 10) (.t 15) (.c (.bool false)), none⟩, ⟨some 17, .mov (.t 16), none⟩, ⟨some 18, .fieldAddr 2 (.t 2), some (17, true)⟩, ⟨some 19, .load false 1 (.t 18), some (17, true)⟩, ⟨some 20, .fieldAddr 2 (.t 3), some (17, true)⟩, ⟨some 21, .load false 1 (.t 20), some (17, true)⟩, ⟨some 22, .bin (.eql) (.other) (.t 19) (.t 21), some (17, true)⟩, ⟨some 23, .pick (.t 17) (.t 22) (.c (.bool false)), none⟩, ⟨some 24, .mov (.t 23), none⟩, ⟨some 25, .fieldAddr 3 (.t 2), some (24, true)⟩, ⟨some 26, .load false 1 (.t 25), some (24, true)⟩, ⟨some 27, .fieldAddr 3 (.t 3), some (24, true)⟩, ⟨some 28, .load false 1 (.t 27), some (24, true)⟩, ⟨some 29, .bin (.eql) (.other) (.t 26) (.t 28), some (24, true)⟩, ⟨some 30, .pick (.t 24) (.t 29) (.c (.bool false)), none⟩, ⟨some 31, .mov (.t 30), none⟩, ⟨some 32, .fieldAddr 12 (.t 2), some (31, true)⟩, ⟨some 33, .load false 1 (.t 32), some (31, true)⟩, ⟨some 34, .fieldAddr 12 (.t 3), some (31, true)⟩, ⟨some 35, .load false 1 (.t 34), some (31, true)⟩, ⟨some 36, .bin (.eql) (.other) (.t 33) (.t 35), some (31, true)⟩, ⟨some 37, .pick (.t 31) (.t 36) (.c (.bool false)), none⟩, ⟨some 38, .mov (.t 37), none⟩, ⟨some 39, .fieldAddr 4 (.t 2), some (38, true)⟩, ⟨some 40, .load true 5 (.t 39), some (38, true)⟩, ⟨some 41, .fieldAddr 4 (.t 3), some (38, true)⟩, ⟨some 42, .load true 5 (.t 41), some (38, true)⟩, ⟨some 43, .eqAgg false [1, 1, 0, 1, 1] (.t 40) (.t 42), some (38, true)⟩, ⟨some 44, .pick (.t 38) (.t 43) (.c (.bool false)), none⟩, ⟨some 45, .mov (.t 44), none⟩, ⟨some 46, .fieldAddr 9 (.t 2), some (45, true)⟩, ⟨some 47, .load false 1 (.t 46), some (45, true)⟩, ⟨some 48, .fieldAddr 9 (.t 3), some (45, true)⟩, ⟨some 49, .load false 1 (.t 48), some (45, true)⟩, ⟨some 50, .bin (.eql) (.other) (.t 47) (.t 49), some (45, true)⟩, ⟨some 51, .pick (.t 45) (.t 50) (.c (.bool false)), none⟩, ⟨some 52, .mov (.t 51), none⟩, ⟨some 53, .fieldAddr 10 (.t 2), some (52, true)⟩, ⟨some 54, .load false 1 (.t 53), some (52, true)⟩, ⟨some 55, .fieldAddr 10 (.t 3), some (52, true)⟩, ⟨some 56, .load false 1 (.t 55), some (52, true)⟩, ⟨some 57, .call 47 [.t 54, .t 56], some (52, true)⟩, ⟨some 58, .pick (.t 52) (.t 57) (.c (.bool false)), none⟩, ⟨some 59, .mov (.t 58), none⟩, ⟨some 60, .fieldAddr 11 (.t 2), some (59, true)⟩, ⟨some 61, .load false 1 (.t 60), some (59, true)⟩, ⟨some 62, .fieldAddr 11 (.t 3), some (59, true)⟩, ⟨some 63, .load false 1 (.t 62), some (59, true)⟩, ⟨some 64, .call 48 [.t 61, .t 63], some (59, true)⟩, ⟨some 65, .pick (.t 59) (.t 64) (.c (.bool false)), none⟩, ⟨some 4, .mov (.t 65), none⟩]) .ret))
theorem t17 : tab 17 = some ⟨66, [.tmp 4], b17⟩ := rfl
theorem k_Same (a c : Bk) {h : Heap} (ha : BkAt h a) (hc0 : BkAt h c) : Runs (xcall X1 tab (.fn 17) [.agg [.int .u8 a.client, .int .u32 a.inc, .int .u64 a.seq, .int .u8 a.status, .int .u32 a.ino, .int .u32 a.gen, .bool a.dir, .int .u32 a.size, .int .u64 a.change, .int .u64 a.before, a.dv, a.nv, .int .u32 a.boot], .agg [.int .u8 c.client, .int .u32 c.inc, .int .u64 c.seq, .int .u8 c.status, .int .u32 c.ino, .int .u32 c.gen, .bool c.dir, .int .u32 c.size, .int .u64 c.change, .int .u64 c.before, c.dv, c.nv, .int .u32 c.boot]] h) fun v h' => v = .bool (sameB a c) ∧ Grow h h' := by
  refine Runs.intro fun K hK => ?_
  have hld := ha.2.2.2.2
  have hld2 := hc0.2.2.2.2
  have hfd := BytesAt.flat' ha.1
  have hcd := cells_of hfd
  have hfn := ha.2.1.flat
  have hcn := cells_of hfn
  have hfd2 := BytesAt.flat' hc0.1
  have hcd2 := cells_of hfd2
  have hfn2 := hc0.2.1.flat
  have hcn2 := cells_of hfn2
  rw [w_fn rfl t17 (Nat.le_of_ble_eq_true rfl)]
  delta b17
  repeat' (first
    | simp (disch := first | exact qd | fail) only [WB, ↓WP, ↓WL, WR, WC, if_true, if_false, ite_true, ite_false, aop, ev, evs, readsA, List.replicate, numF, unA, resA, tupA, loadA, storeA, splice, fillA, kindsOk, plainEq, ↓reduceIte, Nat.reduceEqDiff, Nat.reduceLT, Int.reduceToNat, Int.reduceBEq, Int.reduceBNe, Nat.reduceAdd, Nat.reduceMul, Nat.reduceLeDiff, Int.reduceLT, Int.reduceSub, Int.reduceAdd, hfd, hcd, hfn, hcn, hfd2, hcd2, hfn2, hcn2, if_s1, if_s2, Option.map_some]
    | ((first | refine atC ?_ ?_ | refine atG ?_ ?_ | refine atH ?_ ?_ | refine atP ?_ ?_) <;> intro hc <;> (try rw [hc]) <;> (try simp only [BD] at hc) <;> try (exfalso; omega))
    | ((first
      | (refine Runs.call (b_Equal (ha.1.grow qg) (hc0.1.grow qg)) ?_; rintro _ _ ⟨rfl, rfl⟩)
      | (refine Runs.call (sl_Equal a.names c.names (ha.2.1.grow qg) (hc0.2.1.grow qg) qo qo) ?_; rintro _ _ ⟨rfl, rfl⟩)
      | fail); all_goals ((try (have gn := gr.1; try simp only [nx_alloc, nx_set] at gn)); (try (have an := ha.num; try simp only [nx_alloc, nx_set, own_sl, own_nil] at an)); (try (have on := hO.num; try simp only [nx_alloc, nx_set] at on)); (try (have kn := hk.1; try simp only [nx_alloc, nx_set] at kn)); try have hB := hO.at)))
  all_goals try (first
    | (refine hK _ _ ?_; (first | exact ⟨by rw [same_no (fun e => by omega)], qg⟩ | exact ⟨by rw [same_no (fun e => hc ⟨e.2.2.2.2.1, e.2.2.2.2.2.1, e.2.2.2.2.2.2.1, e.2.2.2.2.2.2.2.1, e.2.2.2.2.2.2.2.2.1⟩)], qg⟩ | exact ⟨by rw [same_no (fun e => hc e.2.2.2.2.2.2.2.2.2.2.2.1)], qg⟩ | exact ⟨by rw [same_no (fun e => hc e.2.2.2.2.2.2.2.2.2.2.2.2)], qg⟩ | exact ⟨by rw [same_is (by assumption) (by assumption) (by assumption) (by assumption) (by assumption) (by assumption) (by assumption) (by assumption) rfl], qg⟩ | exact ⟨by rw [same_is (t := true) (by assumption) (by assumption) (by assumption) (by assumption) (by assumption) (by assumption) (by assumption) (by assumption) (decide_eq_true (by assumption))], qg⟩ | exact ⟨by rw [same_bt (by assumption) (by assumption) (by assumption) (by assumption) (by assumption) (by assumption) (by assumption) (by assumption)], qg⟩ | fail); done)
    | fail)
def b8 : SC := (.seq (.ops [⟨some 2, .box (.t 0), none⟩, ⟨some 3, .box (.t 1), none⟩, ⟨some 4, .mov (.c (.bool false)), none⟩]) (.seq (.ops [⟨some 5, .fieldAddr 0 (.t 2), none⟩, ⟨some 6, .load false 1 (.t 5), none⟩, ⟨some 7, .fieldAddr 0 (.t 3), none⟩, ⟨some 8, .load false 1 (.t 7), none⟩, ⟨some 9, .bin (.eql) (.other) (.t 6) (.t 8), none⟩, ⟨some 10, .mov (.t 9), none⟩, ⟨some 11, .fieldAddr 1 (.t 2), some (10, true)⟩, ⟨some 12, .load false 1 (.t 11), some (10, true)⟩, ⟨some 13, .fieldAddr 1 (.t 3), some (10, true)⟩, ⟨some 14, .load false 1 (.t 13), some (10, true)⟩, ⟨some 15, .bin (.eql) (.other) (.t 12) (.t 14), some (10, true)⟩, ⟨some 16, .pick (.t 10) (.t 15) (.c (.bool false)), none⟩, ⟨some 17, .mov (.t 16), none⟩, ⟨some 18, .fieldAddr 2 (.t 2), some (17, true)⟩, ⟨some 19, .load false 1 (.t 18), some (17, true)⟩, ⟨some 20, .fieldAddr 2 (.t 3), some (17, true)⟩, ⟨some 21, .load false 1 (.t 20), some (17, true)⟩, ⟨some 22, .bin (.eql) (.other) (.t 19) (.t 21), some (17, true)⟩, ⟨some 23, .pick (.t 17) (.t 22) (.c (.bool false)), none⟩, ⟨some 24, .mov (.t 23), none⟩, ⟨some 25, .fieldAddr 3 (.t 2), some (24, true)⟩, ⟨some 26, .load false 1 (.t 25), some (24, true)⟩, ⟨some 27, .fieldAddr 3 (.t 3), some (24, true)⟩, ⟨some 28, .load false 1 (.t 27), some (24, true)⟩, ⟨some 29, .bin (.eql) (.other) (.t 26) (.t 28), some (24, true)⟩, ⟨some 30, .pick (.t 24) (.t 29) (.c (.bool false)), none⟩, ⟨some 31, .mov (.t 30), none⟩, ⟨some 32, .fieldAddr 4 (.t 2), some (31, true)⟩, ⟨some 33, .load true 5 (.t 32), some (31, true)⟩, ⟨some 34, .fieldAddr 4 (.t 3), some (31, true)⟩, ⟨some 35, .load true 5 (.t 34), some (31, true)⟩, ⟨some 36, .eqAgg false [1, 1, 0, 1, 1] (.t 33) (.t 35), some (31, true)⟩, ⟨some 37, .pick (.t 31) (.t 36) (.c (.bool false)), none⟩, ⟨some 38, .mov (.t 37), none⟩, ⟨some 39, .fieldAddr 9 (.t 2), some (38, true)⟩, ⟨some 40, .load false 1 (.t 39), some (38, true)⟩, ⟨some 41, .fieldAddr 9 (.t 3), some (38, true)⟩, ⟨some 42, .load false 1 (.t 41), some (38, true)⟩, ⟨some 43, .bin (.eql) (.other) (.t 40) (.t 42), some (38, true)⟩, ⟨some 44, .pick (.t 38) (.t 43) (.c (.bool false)), none⟩, ⟨some 45, .mov (.t 44), none⟩, ⟨some 46, .fieldAddr 10 (.t 2), some (45, true)⟩, ⟨some 47, .load false 1 (.t 46), some (45, true)⟩, ⟨some 48, .fieldAddr 10 (.t 3), some (45, true)⟩, ⟨some 49, .load false 1 (.t 48), some (45, true)⟩, ⟨some 50, .call 16 [.t 47, .t 49], some (45, true)⟩, ⟨some 51, .pick (.t 45) (.t 50) (.c (.bool false)), none⟩, ⟨some 52, .mov (.t 51), none⟩, ⟨some 53, .fieldAddr 11 (.t 2), some (52, true)⟩, ⟨some 54, .load false 1 (.t 53), some (52, true)⟩, ⟨some 55, .fieldAddr 11 (.t 3), some (52, true)⟩, ⟨some 56, .load false 1 (.t 55), some (52, true)⟩, ⟨some 57, .call 21 [.t 54, .t 56], some (52, true)⟩, ⟨some 58, .pick (.t 52) (.t 57) (.c (.bool false)), none⟩, ⟨some 59, .mov (.t 58), none⟩, ⟨some 60, .fieldAddr 12 (.t 2), some (59, true)⟩, ⟨some 61, .load false 1 (.t 60), some (59, true)⟩, ⟨some 62, .fieldAddr 12 (.t 3), some (59, true)⟩, ⟨some 63, .load false 1 (.t 62), some (59, true)⟩, ⟨some 64, .bin (.eql) (.other) (.t 61) (.t 63), some (59, true)⟩, ⟨some 65, .pick (.t 59) (.t 64) (.c (.bool false)), none⟩, ⟨some 4, .mov (.t 65), none⟩]) .ret))
theorem t8 : tab 8 = some ⟨66, [.tmp 4], b8⟩ := rfl
theorem ref_Same (a c : Bk) {h : Heap} (ha : BkAt h a) (hc0 : BkAt h c) : Runs (xcall X1 tab (.fn 8) [.agg [.int .u8 a.client, .int .u32 a.inc, .int .u64 a.seq, .int .u8 a.status, .int .u32 a.ino, .int .u32 a.gen, .bool a.dir, .int .u32 a.size, .int .u64 a.change, .int .u64 a.before, a.dv, a.nv, .int .u32 a.boot], .agg [.int .u8 c.client, .int .u32 c.inc, .int .u64 c.seq, .int .u8 c.status, .int .u32 c.ino, .int .u32 c.gen, .bool c.dir, .int .u32 c.size, .int .u64 c.change, .int .u64 c.before, c.dv, c.nv, .int .u32 c.boot]] h) fun v h' => v = .bool (sameB a c) ∧ Grow h h' := by
  refine Runs.intro fun K hK => ?_
  have hld := ha.2.2.2.2
  have hld2 := hc0.2.2.2.2
  have hfd := BytesAt.flat' ha.1
  have hcd := cells_of hfd
  have hfn := ha.2.1.flat
  have hcn := cells_of hfn
  have hfd2 := BytesAt.flat' hc0.1
  have hcd2 := cells_of hfd2
  have hfn2 := hc0.2.1.flat
  have hcn2 := cells_of hfn2
  rw [w_fn rfl t8 (Nat.le_of_ble_eq_true rfl)]
  delta b8
  repeat' (first
    | simp (disch := first | exact qd | fail) only [WB, ↓WP, ↓WL, WR, WC, if_true, if_false, ite_true, ite_false, aop, ev, evs, readsA, List.replicate, numF, unA, resA, tupA, loadA, storeA, splice, fillA, kindsOk, plainEq, ↓reduceIte, Nat.reduceEqDiff, Nat.reduceLT, Int.reduceToNat, Int.reduceBEq, Int.reduceBNe, Nat.reduceAdd, Nat.reduceMul, Nat.reduceLeDiff, Int.reduceLT, Int.reduceSub, Int.reduceAdd, hfd, hcd, hfn, hcn, hfd2, hcd2, hfn2, hcn2, if_s1, if_s2, Option.map_some]
    | ((first | refine atC ?_ ?_ | refine atG ?_ ?_ | refine atH ?_ ?_ | refine atP ?_ ?_) <;> intro hc <;> (try rw [hc]) <;> (try simp only [BD] at hc) <;> try (exfalso; omega))
    | ((first
      | (refine Runs.call (f0_Same (ha.1.grow qg) (hc0.1.grow qg)) ?_; rintro _ _ ⟨rfl, rfl⟩)
      | (refine Runs.call (f0_Texts a.names c.names (ha.2.1.grow qg) (hc0.2.1.grow qg) qo qo) ?_; rintro _ _ ⟨rfl, rfl⟩)
      | fail); all_goals ((try (have gn := gr.1; try simp only [nx_alloc, nx_set] at gn)); (try (have an := ha.num; try simp only [nx_alloc, nx_set, own_sl, own_nil] at an)); (try (have on := hO.num; try simp only [nx_alloc, nx_set] at on)); (try (have kn := hk.1; try simp only [nx_alloc, nx_set] at kn)); try have hB := hO.at)))
  all_goals try (first
    | (refine hK _ _ ?_; (first | exact ⟨by rw [same_no (fun e => by omega)], qg⟩ | exact ⟨by rw [same_no (fun e => hc ⟨e.2.2.2.2.1, e.2.2.2.2.2.1, e.2.2.2.2.2.2.1, e.2.2.2.2.2.2.2.1, e.2.2.2.2.2.2.2.2.1⟩)], qg⟩ | exact ⟨by rw [same_no (fun e => hc e.2.2.2.2.2.2.2.2.2.2.2.1)], qg⟩ | exact ⟨by rw [same_no (fun e => hc e.2.2.2.2.2.2.2.2.2.2.2.2)], qg⟩ | exact ⟨by rw [same_is (by assumption) (by assumption) (by assumption) (by assumption) (by assumption) (by assumption) (by assumption) (by assumption) rfl], qg⟩ | exact ⟨by rw [same_is (t := true) (by assumption) (by assumption) (by assumption) (by assumption) (by assumption) (by assumption) (by assumption) (by assumption) (decide_eq_true (by assumption))], qg⟩ | exact ⟨by rw [same_bt (by assumption) (by assumption) (by assumption) (by assumption) (by assumption) (by assumption) (by assumption) (by assumption)], qg⟩ | fail); done)
    | fail)
end Go.Proofs.YtdmabiefaeidmaaDoor.Ya
