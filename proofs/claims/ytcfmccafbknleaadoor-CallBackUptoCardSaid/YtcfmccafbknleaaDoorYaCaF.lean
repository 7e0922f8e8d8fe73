/-
  Calls: the document.
-/
import Derived.Test.YtcfmccafbknleaaDoorYaCaE
import Derived.Test.YtcfmccafbknleaaDoorYbL
namespace Go.Proofs.YtcfmccafbknleaaDoor.Ya
open Go.Ya Go.Ya.Na
set_option linter.unusedVariables false
set_option linter.unusedSimpArgs false
set_option maxRecDepth 100000
set_option maxHeartbeats 8000000
theorem sameC_fn {a c : Cl} (h : ¬ (a.client = c.client ∧ a.inc = c.inc ∧ a.seq = c.seq ∧ a.kind = c.kind ∧ (a.hi = c.hi ∧ a.hg = c.hg) ∧ a.name = c.name ∧ (a.ti = c.ti ∧ a.tg = c.tg) ∧ a.toName = c.toName ∧ a.off = c.off ∧ a.size = c.size ∧ a.data = c.data)) : sameC a c = false := decide_eq_false h
theorem sameC_last {a c : Cl} (h1 : a.client = c.client) (h2 : a.inc = c.inc) (h3 : a.seq = c.seq) (h4 : a.kind = c.kind) (h5 : a.hi = c.hi ∧ a.hg = c.hg) (h6 : a.name = c.name) (h7 : a.ti = c.ti ∧ a.tg = c.tg) (h8 : a.toName = c.toName) (h9 : a.off = c.off) (h10 : a.size = c.size) {t : Bool} (h11 : (a.data == c.data) = t) : sameC a c = t := by
  subst h11
  by_cases h : a.data = c.data
  · rw [h, show (c.data == c.data) = true by simp]; exact decide_eq_true ⟨h1, h2, h3, h4, h5, h6, h7, h8, h9, h10, h⟩
  · rw [show (a.data == c.data) = false by simpa using h]; exact sameC_fn fun e => h e.2.2.2.2.2.2.2.2.2.2
theorem t14 : tab 14 = some ⟨80, [.tmp 4], b14⟩ := rfl
theorem ref_Same (a c : Cl) {h : Heap} (ha : BytesAt h a.dv a.data) (hc0 : BytesAt h c.dv c.data) : Runs (xcall X1 tab (.fn 14) [.agg [.int .u8 a.client, .int .u32 a.inc, .int .u64 a.seq, .int .u8 a.kind, .int .u32 a.hi, .int .u32 a.hg, .str a.name, .int .u32 a.ti, .int .u32 a.tg, .str a.toName, .int .u32 a.off, .int .u32 a.size, a.dv], .agg [.int .u8 c.client, .int .u32 c.inc, .int .u64 c.seq, .int .u8 c.kind, .int .u32 c.hi, .int .u32 c.hg, .str c.name, .int .u32 c.ti, .int .u32 c.tg, .str c.toName, .int .u32 c.off, .int .u32 c.size, c.dv]] h) fun v h' => v = .bool (sameC a c) ∧ Grow h h' := by
  refine Runs.intro fun K hK => ?_
  have hfd := BytesAt.flat' ha
  have hcd := cells_of hfd
  have hfd2 := BytesAt.flat' hc0
  have hcd2 := cells_of hfd2
  rw [w_fn rfl t14 (Nat.le_of_ble_eq_true rfl)]
  delta b14
  repeat' (first
    | simp (disch := first | exact qd | fail) only [WB, ↓WP, ↓WL, WR, WC, if_true, if_false, ite_true, ite_false, aop, ev, evs, readsA, List.replicate, numF, unA, resA, tupA, loadA, storeA, splice, fillA, kindsOk, plainEq, ↓reduceIte, Nat.reduceEqDiff, Nat.reduceLT, Int.reduceToNat, Int.reduceBEq, Int.reduceBNe, Nat.reduceAdd, Nat.reduceMul, Nat.reduceLeDiff, Int.reduceLT, Int.reduceSub, Int.reduceAdd, hfd, hcd, hfd2, hcd2, if_s1, if_s2, Option.map_some]
    | ((first | refine atC ?_ ?_ | refine atG ?_ ?_ | refine atH ?_ ?_ | refine atP ?_ ?_) <;> intro hc <;> (try rw [hc]) <;> (try simp only [BD] at hc) <;> try (exfalso; omega))
    | ((first
      | (refine Runs.call (f0_Same (ha.grow qg) (hc0.grow qg)) ?_; rintro _ _ ⟨rfl, rfl⟩)
      | fail); all_goals ((try (have gn := gr.1; try simp only [nx_alloc, nx_set] at gn)); (try (have an := ha.num; try simp only [nx_alloc, nx_set, own_sl, own_nil] at an)); (try (have on := hO.num; try simp only [nx_alloc, nx_set] at on)); (try (have kn := hk.1; try simp only [nx_alloc, nx_set] at kn)); try have hB := hO.at)))
  all_goals try (first
    | (refine hK _ _ ?_; (first | exact ⟨by rw [sameC_fn (fun e => by omega)], qg⟩ | exact ⟨by rw [sameC_fn (fun e => hc e.2.2.2.2.2.1)], qg⟩ | exact ⟨by rw [sameC_fn (fun e => hc e.2.2.2.2.2.2.2.1)], qg⟩ | exact ⟨by rw [sameC_fn (fun e => hc e.2.2.2.2.1)], qg⟩ | exact ⟨by rw [sameC_fn (fun e => hc e.2.2.2.2.2.2.1)], qg⟩ | exact ⟨by rw [sameC_last (by assumption) (by assumption) (by assumption) (by assumption) (by assumption) (by assumption) (by assumption) (by assumption) (by assumption) (by assumption) rfl], qg⟩ | fail); done)
    | fail)
end Go.Proofs.YtcfmccafbknleaaDoor.Ya
