/-
  Calls: the document.
-/
import Derived.Test.YtcfmccafbknleaaDoorYaCaE
import Derived.Test.YtcfmccafbknleaaDoorYbL
namespace Go.Proofs.YtcfmccafbknleaaDoor.Ya
open Go.Ya Go.Ya.Na
set_option linter.unusedVariables false
set_option linter.unusedSimpArgs false
set_option maxRecDepth 100000
set_option maxHeartbeats 8000000
theorem only_at {H : Heap} {z : Cl} (hz : BytesAt H z.dv z.data) : BytesAt H (onlyC z).dv (onlyC z).data := by
  unfold onlyC
  repeat' split
  all_goals first | exact hz | exact .inl ⟨rfl, rfl⟩
theorem kindC_yes {k : Int} (h : 1 ≤ k ∧ k ≤ 12) : kindC k = true := decide_eq_true h
theorem kindC_no {k : Int} (h : ¬ (1 ≤ k ∧ k ≤ 12)) : kindC k = false := decide_eq_false h
theorem kindC_bd {k : Int} (h : kindC k = true) : 1 ≤ k ∧ k ≤ 12 := of_decide_eq_true h
theorem sameC_fn {a c : Cl} (h : ¬ (a.client = c.client ∧ a.inc = c.inc ∧ a.seq = c.seq ∧ a.kind = c.kind ∧ (a.hi = c.hi ∧ a.hg = c.hg) ∧ a.name = c.name ∧ (a.ti = c.ti ∧ a.tg = c.tg) ∧ a.toName = c.toName ∧ a.off = c.off ∧ a.size = c.size ∧ a.data = c.data)) : sameC a c = false := decide_eq_false h
theorem sameC_last {a c : Cl} (h1 : a.client = c.client) (h2 : a.inc = c.inc) (h3 : a.seq = c.seq) (h4 : a.kind = c.kind) (h5 : a.hi = c.hi ∧ a.hg = c.hg) (h6 : a.name = c.name) (h7 : a.ti = c.ti ∧ a.tg = c.tg) (h8 : a.toName = c.toName) (h9 : a.off = c.off) (h10 : a.size = c.size) {t : Bool} (h11 : (a.data == c.data) = t) : sameC a c = t := by
  subst h11
  by_cases h : a.data = c.data
  · rw [h, show (c.data == c.data) = true by simp]; exact decide_eq_true ⟨h1, h2, h3, h4, h5, h6, h7, h8, h9, h10, h⟩
  · rw [show (a.data == c.data) = false by simpa using h]; exact sameC_fn fun e => h e.2.2.2.2.2.2.2.2.2.2
theorem mayC_no2 {z : Cl} (h : sameC (onlyC z) z = false) : mayC z = false := by
  unfold mayC
  rw [h]; simp
theorem changes_doc {k : Int} (h : 0 ≤ k ∧ k ≤ 255) : changesC k = decide (k = 2 ∨ (5 ≤ k ∧ k ≤ 11)) := by
  unfold changesC
  exact decide_eq_decide.2 qo
theorem t32 : tab 32 = some ⟨65, [.cell 2 true 13, .tmp 3], b32⟩ := rfl
theorem ref_only (z : Cl) {h : Heap} (hz : ClAt h z) (ho : ClOk z) : Runs (xcall X1 tab (.fn 32) [.agg [.int .u8 z.client, .int .u32 z.inc, .int .u64 z.seq, .int .u8 z.kind, .int .u32 z.hi, .int .u32 z.hg, .str z.name, .int .u32 z.ti, .int .u32 z.tg, .str z.toName, .int .u32 z.off, .int .u32 z.size, z.dv]] h) fun v h' => Grow h h' ∧ ((kindC z.kind = true ∧ v = .tuple [.agg [.int .u8 (onlyC z).client, .int .u32 (onlyC z).inc, .int .u64 (onlyC z).seq, .int .u8 (onlyC z).kind, .int .u32 (onlyC z).hi, .int .u32 (onlyC z).hg, .str (onlyC z).name, .int .u32 (onlyC z).ti, .int .u32 (onlyC z).tg, .str (onlyC z).toName, .int .u32 (onlyC z).off, .int .u32 (onlyC z).size, (onlyC z).dv], .bool true]) ∨ (kindC z.kind = false ∧ v = .tuple [.agg [.int .u8 0, .int .u32 0, .int .u64 0, .int .u8 0, .int .u32 0, .int .u32 0, .str [], .int .u32 0, .int .u32 0, .str [], .int .u32 0, .int .u32 0, .nilsl], .bool false])) := by
  refine Runs.intro fun K hK => ?_
  have hz0 := hz
  have ho0 := ho
  obtain ⟨o1, o2, o3, o4, o5, o6, o7, o8, o9, o10⟩ := id ho
  obtain ⟨hd, hyd, hyn, hyt, ld, ln, lt⟩ := id hz
  have hfd := BytesAt.flat' hd
  have hcd := cells_of hfd
  rw [w_fn rfl t32 (Nat.le_of_ble_eq_true rfl)]
  delta b32
  repeat' (first
    | simp (disch := first | exact qd | fail) only [WB, ↓WP, ↓WL, WR, WC, if_true, if_false, ite_true, ite_false, aop, ev, evs, readsA, List.replicate, numF, unA, resA, tupA, loadA, storeA, splice, fillA, kindsOk, plainEq, ↓reduceIte, Nat.reduceEqDiff, Nat.reduceLT, Int.reduceToNat, Int.reduceBEq, Int.reduceBNe, Nat.reduceAdd, Nat.reduceMul, Nat.reduceLeDiff, Int.reduceLT, Int.reduceSub, Int.reduceAdd, hfd, hcd]
    | ((first | refine atC ?_ ?_ | refine atG ?_ ?_ | refine atH ?_ ?_ | refine atP ?_ ?_) <;> intro hc <;> (try rw [hc]) <;> (try simp only [BD] at hc) <;> try (exfalso; omega)))
  all_goals try (first
    | (refine hK _ _ ?_; (first | exact ⟨qg, .inr ⟨kindC_no qo, rfl⟩⟩ | exact ⟨qg, .inl ⟨kindC_yes qo, by (unfold onlyC named; (repeat (first | rw [if_pos qo] | rw [if_neg qo])))⟩⟩ | fail); done)
    | fail)
theorem t14 : tab 14 = some ⟨80, [.tmp 4], b14⟩ := rfl
theorem ref_Same (a c : Cl) {h : Heap} (ha : BytesAt h a.dv a.data) (hc0 : BytesAt h c.dv c.data) : Runs (xcall X1 tab (.fn 14) [.agg [.int .u8 a.client, .int .u32 a.inc, .int .u64 a.seq, .int .u8 a.kind, .int .u32 a.hi, .int .u32 a.hg, .str a.name, .int .u32 a.ti, .int .u32 a.tg, .str a.toName, .int .u32 a.off, .int .u32 a.size, a.dv], .agg [.int .u8 c.client, .int .u32 c.inc, .int .u64 c.seq, .int .u8 c.kind, .int .u32 c.hi, .int .u32 c.hg, .str c.name, .int .u32 c.ti, .int .u32 c.tg, .str c.toName, .int .u32 c.off, .int .u32 c.size, c.dv]] h) fun v h' => v = .bool (sameC a c) ∧ Grow h h' := by
  refine Runs.intro fun K hK => ?_
  have hfd := BytesAt.flat' ha
  have hcd := cells_of hfd
  have hfd2 := BytesAt.flat' hc0
  have hcd2 := cells_of hfd2
  rw [w_fn rfl t14 (Nat.le_of_ble_eq_true rfl)]
  delta b14
  repeat' (first
    | simp (disch := first | exact qd | fail) only [WB, ↓WP, ↓WL, WR, WC, if_true, if_false, ite_true, ite_false, aop, ev, evs, readsA, List.replicate, numF, unA, resA, tupA, loadA, storeA, splice, fillA, kindsOk, plainEq, ↓reduceIte, Nat.reduceEqDiff, Nat.reduceLT, Int.reduceToNat, Int.reduceBEq, Int.reduceBNe, Nat.reduceAdd, Nat.reduceMul, Nat.reduceLeDiff, Int.reduceLT, Int.reduceSub, Int.reduceAdd, hfd, hcd, hfd2, hcd2, if_s1, if_s2, Option.map_some]
    | ((first | refine atC ?_ ?_ | refine atG ?_ ?_ | refine atH ?_ ?_ | refine atP ?_ ?_) <;> intro hc <;> (try rw [hc]) <;> (try simp only [BD] at hc) <;> try (exfalso; omega))
    | ((first
      | (refine Runs.call (f0_Same (ha.grow qg) (hc0.grow qg)) ?_; rintro _ _ ⟨rfl, rfl⟩)
      | fail); all_goals ((try (have gn := gr.1; try simp only [nx_alloc, nx_set] at gn)); (try (have an := ha.num; try simp only [nx_alloc, nx_set, own_sl, own_nil] at an)); (try (have on := hO.num; try simp only [nx_alloc, nx_set] at on)); (try (have kn := hk.1; try simp only [nx_alloc, nx_set] at kn)); try have hB := hO.at)))
  all_goals try (first
    | (refine hK _ _ ?_; (first | exact ⟨by rw [sameC_fn (fun e => by omega)], qg⟩ | exact ⟨by rw [sameC_fn (fun e => hc e.2.2.2.2.2.1)], qg⟩ | exact ⟨by rw [sameC_fn (fun e => hc e.2.2.2.2.2.2.2.1)], qg⟩ | exact ⟨by rw [sameC_fn (fun e => hc e.2.2.2.2.1)], qg⟩ | exact ⟨by rw [sameC_fn (fun e => hc e.2.2.2.2.2.2.1)], qg⟩ | exact ⟨by rw [sameC_last (by assumption) (by assumption) (by assumption) (by assumption) (by assumption) (by assumption) (by assumption) (by assumption) (by assumption) (by assumption) rfl], qg⟩ | fail); done)
    | fail)
theorem t33 : tab 33 = some ⟨56, [.tmp 2], b33⟩ := rfl
theorem ref_fields (z : Cl) {h : Heap} (hz : ClAt h z) (ho : ClOk z) : Runs (xcall X1 tab (.fn 33) [.agg [.int .u8 z.client, .int .u32 z.inc, .int .u64 z.seq, .int .u8 z.kind, .int .u32 z.hi, .int .u32 z.hg, .str z.name, .int .u32 z.ti, .int .u32 z.tg, .str z.toName, .int .u32 z.off, .int .u32 z.size, z.dv]] h) fun v h' => v = .bool (wholeC z) ∧ Grow h h' := by
  refine Runs.intro fun K hK => ?_
  have hz0 := hz
  have ho0 := ho
  obtain ⟨o1, o2, o3, o4, o5, o6, o7, o8, o9, o10⟩ := id ho
  obtain ⟨hd, hyd, hyn, hyt, ld, ln, lt⟩ := id hz
  have hfd := BytesAt.flat' hd
  have hcd := cells_of hfd
  rw [w_fn rfl t33 (Nat.le_of_ble_eq_true rfl)]
  delta b33
  repeat' (first
    | simp (disch := first | exact qd | fail) only [WB, ↓WP, ↓WL, WR, WC, if_true, if_false, ite_true, ite_false, aop, ev, evs, readsA, List.replicate, numF, unA, resA, tupA, loadA, storeA, splice, fillA, kindsOk, plainEq, ↓reduceIte, Nat.reduceEqDiff, Nat.reduceLT, Int.reduceToNat, Int.reduceBEq, Int.reduceBNe, Nat.reduceAdd, Nat.reduceMul, Nat.reduceLeDiff, Int.reduceLT, Int.reduceSub, Int.reduceAdd, hfd, hcd]
    | ((first | refine atC ?_ ?_ | refine atG ?_ ?_ | refine atH ?_ ?_ | refine atP ?_ ?_) <;> intro hc <;> (try rw [hc]) <;> (try simp only [BD] at hc) <;> try (exfalso; omega))
    | ((first
      | (refine Runs.call (ref_Is z.name hyn _) ?_; rintro _ _ ⟨rfl, rfl⟩)
      | (refine Runs.call (ref_Is z.toName hyt _) ?_; rintro _ _ ⟨rfl, rfl⟩)
      | fail); all_goals ((try (have gn := gr.1; try simp only [nx_alloc, nx_set] at gn)); (try (have an := ha.num; try simp only [nx_alloc, nx_set, own_sl, own_nil] at an)); (try (have on := hO.num; try simp only [nx_alloc, nx_set] at on)); (try (have kn := hk.1; try simp only [nx_alloc, nx_set] at kn)); try have hB := hO.at)))
  all_goals try (first
    | (refine hK _ _ ?_; (refine ⟨?_, qg⟩; congr 1; (unfold wholeC named; (repeat (first | rw [if_pos qo] | rw [if_neg qo]))); (first | done | rfl | exact decide_eq_decide.2 qo | (simp_all; done) | (simp_all; omega) | fail)); done)
    | fail)
theorem t12 : tab 12 = some ⟨35, [.tmp 2], b12⟩ := rfl
theorem ref_May (z : Cl) {h : Heap} (hz : ClAt h z) (ho : ClOk z) : Runs (xcall X1 tab (.fn 12) [.agg [.int .u8 z.client, .int .u32 z.inc, .int .u64 z.seq, .int .u8 z.kind, .int .u32 z.hi, .int .u32 z.hg, .str z.name, .int .u32 z.ti, .int .u32 z.tg, .str z.toName, .int .u32 z.off, .int .u32 z.size, z.dv]] h) fun v h' => v = .bool (mayC z) ∧ Grow h h' := by
  refine Runs.intro fun K hK => ?_
  have hz0 := hz
  have ho0 := ho
  obtain ⟨o1, o2, o3, o4, o5, o6, o7, o8, o9, o10⟩ := id ho
  obtain ⟨hd, hyd, hyn, hyt, ld, ln, lt⟩ := id hz
  have hfd := BytesAt.flat' hd
  have hcd := cells_of hfd
  have hod := only_at hd
  have hfo := BytesAt.flat' hod
  have hco := cells_of hfo
  rw [w_fn rfl t12 (Nat.le_of_ble_eq_true rfl)]
  delta b12
  repeat' (first
    | simp (disch := first | exact qd | fail) only [WB, ↓WP, ↓WL, WR, WC, if_true, if_false, ite_true, ite_false, aop, ev, evs, readsA, List.replicate, numF, unA, resA, tupA, loadA, storeA, splice, fillA, kindsOk, plainEq, ↓reduceIte, Nat.reduceEqDiff, Nat.reduceLT, Int.reduceToNat, Int.reduceBEq, Int.reduceBNe, Nat.reduceAdd, Nat.reduceMul, Nat.reduceLeDiff, Int.reduceLT, Int.reduceSub, Int.reduceAdd, hfd, hcd, hfo, hco]
    | ((first | refine atC ?_ ?_ | refine atG ?_ ?_ | refine atH ?_ ?_ | refine atP ?_ ?_) <;> intro hc <;> (try rw [hc]) <;> (try simp only [BD] at hc) <;> try (exfalso; omega))
    | ((first
      | (refine Runs.call (ref_only z (hz0.grow qg) ho0) ?_; rintro _ H1 ⟨gr, ⟨hk1, rfl⟩ | ⟨hk1, rfl⟩⟩)
      | (refine Runs.call (ref_Same (onlyC z) z (hod.grow qg) (hd.grow qg)) ?_; rintro _ _ ⟨rfl, gr⟩)
      | (refine Runs.call (ref_fields z (hz0.grow qg) ho0) ?_; rintro _ _ ⟨rfl, gr⟩)
      | fail); all_goals ((try (have gn := gr.1; try simp only [nx_alloc, nx_set] at gn)); (try (have an := ha.num; try simp only [nx_alloc, nx_set, own_sl, own_nil] at an)); (try (have on := hO.num; try simp only [nx_alloc, nx_set] at on)); (try (have kn := hk.1; try simp only [nx_alloc, nx_set] at kn)); try have hB := hO.at)))
  all_goals try (first
    | (refine hK _ _ ?_; (first | exact ⟨by rw [mayC_no (.inr (.inr hk1))], qg⟩ | exact ⟨by rw [mayC_no2 (by assumption)], qg⟩ | exact ⟨by rw [mayC_no (.inl qo)], qg⟩ | exact ⟨by unfold mayC; rw [decide_eq_true qo, hk1, (show sameC (onlyC z) z = true by assumption)]; simp, qg⟩ | fail); done)
    | fail)
theorem t17 : tab 17 = some ⟨13, [.tmp 2], b17⟩ := rfl
theorem ref_Changes {k : Int} (hk : 0 ≤ k ∧ k ≤ 255) (h : Heap) : Runs (xcall X1 tab (.fn 17) [.int .u8 k] h) fun v h' => v = .bool (changesC k) ∧ h = h' := by
  refine Runs.intro fun K hK => ?_
  have hch := changes_doc hk
  rw [w_fn rfl t17 (Nat.le_of_ble_eq_true rfl)]
  delta b17
  repeat' (first
    | simp (disch := first | exact qd | fail) only [WB, ↓WP, ↓WL, WR, WC, if_true, if_false, ite_true, ite_false, aop, ev, evs, readsA, List.replicate, numF, unA, resA, tupA, loadA, storeA, splice, fillA, kindsOk, plainEq, ↓reduceIte, Nat.reduceEqDiff, Nat.reduceLT, Int.reduceToNat, Int.reduceBEq, Int.reduceBNe, Nat.reduceAdd, Nat.reduceMul, Nat.reduceLeDiff, Int.reduceLT, Int.reduceSub, Int.reduceAdd]
    | ((first | refine atC ?_ ?_ | refine atG ?_ ?_ | refine atH ?_ ?_ | refine atP ?_ ?_) <;> intro hc <;> (try rw [hc]) <;> (try simp only [BD] at hc) <;> try (exfalso; omega)))
  all_goals try (first
    | (refine hK _ _ ?_; (rw [hch]; first | exact ⟨by rw [decide_eq_true qo], rfl⟩ | exact ⟨by rw [decide_eq_false qo], rfl⟩ | (refine ⟨?_, rfl⟩; congr 1; exact decide_eq_decide.2 qo) | fail); done)
    | fail)
theorem t24 : tab 24 = some ⟨15, [.tmp 4], b24⟩ := rfl
theorem ref_handle {n : Nat} {h : Heap} {b : AV} {bs : List Int} {i g : Int} (hO : OwB n h b bs) (hn : n ≤ h.next) (hl : bs.length ≤ 1000000000) (hi : 0 ≤ i ∧ i ≤ 4294967295) (hg : 0 ≤ g ∧ g ≤ 4294967295) : Runs (xcall X1 tab (.fn 24) [b, .agg [.int .u32 i, .int .u32 g]] h) fun v h' => OwB n h' v (bs ++ beL i 4 ++ beL g 4) ∧ h.next ≤ h'.next ∧ ∀ j, j < n → h'.get j = h.get j := by
  refine Runs.intro fun K hK => ?_
  have hO0 := hO
  have on := hO.num
  have hfo := hO.fl
  have hco := cells_of hfo
  rw [w_fn rfl t24 (Nat.le_of_ble_eq_true rfl)]
  delta b24
  repeat' (first
    | simp (disch := first | exact qd | fail) only [WB, ↓WP, ↓WL, WR, WC, if_true, if_false, ite_true, ite_false, aop, ev, evs, readsA, List.replicate, numF, unA, resA, tupA, loadA, storeA, splice, fillA, kindsOk, plainEq, ↓reduceIte, Nat.reduceEqDiff, Nat.reduceLT, Int.reduceToNat, Int.reduceBEq, Int.reduceBNe, Nat.reduceAdd, Nat.reduceMul, Nat.reduceLeDiff, Int.reduceLT, Int.reduceSub, Int.reduceAdd, hfo, hco]
    | ((first | refine atC ?_ ?_ | refine atG ?_ ?_ | refine atH ?_ ?_ | refine atP ?_ ?_) <;> intro hc <;> (try rw [hc]) <;> (try simp only [BD] at hc) <;> try (exfalso; omega))
    | ((first
      | (refine Runs.call (d_Number hi.1 hi.2 _) ?_; rintro _ H1 ⟨gr, hB⟩; have hfb := hB.fl; have hcb := cells_of hfb; have g1 : Grow h H1 := qg; have hgb : H1.get h.next = some (.cells [.int .u32 i, .int .u32 g] false) := gr.get (ga_new rfl); have hO := hO.grow g1)
      | (refine Runs.call (OwB.app hO qo hB.at.src (by simp only [List.length_append, List.length_nil, beL_len, encB_len]; omega)) ?_; rintro b1 H2 ⟨hO, ha1⟩; have hf1 := hO.fl; have hc1 := cells_of hf1; have on1 := hO.num; have an1 := ha1.num)
      | (refine Runs.call (d_Number hg.1 hg.2 _) ?_; rintro _ H3 ⟨gr, hB⟩; have hfb := hB.fl; have hcb := cells_of hfb; have hO := hO.grow gr)
      | (refine Runs.call (OwB.app hO qo hB.at.src (by simp only [List.length_append, List.length_nil, beL_len, encB_len]; omega)) ?_; rintro b2 H4 ⟨hO, ha2⟩; have hf2 := hO.fl; have hc2 := cells_of hf2; have an2 := ha2.num)
      | fail); all_goals ((try (have gn := gr.1; try simp only [nx_alloc, nx_set] at gn)); (try (have an := ha.num; try simp only [nx_alloc, nx_set, own_sl, own_nil] at an)); (try (have on := hO.num; try simp only [nx_alloc, nx_set] at on)); (try (have kn := hk.1; try simp only [nx_alloc, nx_set] at kn)); try have hB := hO.at)))
  all_goals try (first
    | (refine hK _ _ ?_; exact ⟨hO, by omega, fun j hj => qs⟩; done)
    | fail)
end Go.Proofs.YtcfmccafbknleaaDoor.Ya
