/-
  Calls: the laws walked.
-/
import Derived.Test.YtcfmccafbknleaaDoorYaCaG
import Derived.Test.YtcfmccafbknleaaDoorYbL
namespace Go.Proofs.YtcfmccafbknleaaDoor.Ya
open Go.Ya Go.Ya.Na
set_option linter.unusedVariables false
set_option linter.unusedSimpArgs false
set_option maxRecDepth 100000
set_option maxHeartbeats 8000000
abbrev ownC (a : Cl) (w : AV) : Cl := { a with dv := w }
theorem may_own (a : Cl) (w : AV) : mayC (ownC a w) = mayC a := mayC_en rfl
theorem put_own (a : Cl) (w : AV) : putC (ownC a w) = putC a := by
  unfold putC
  rw [may_own]; rfl
theorem err_own (a : Cl) (w : AV) : errC (ownC a w) = errC a := by
  unfold errC
  rw [may_own]
theorem same_own (a : Cl) (w : AV) : sameC a (ownC a w) = true := sameC_iff.2 rfl
theorem same_asm {a c : Cl} (x : Asm (a.en = c.en)) : sameC a c = true := sameC_iff.2 x.out
theorem ClAt.own {h H : Heap} {a : Cl} {w : AV} (ha : ClAt h a) (hw : BytesAt H w a.data) : ClAt H (ownC a w) := ⟨hw, ha.2⟩
theorem t3 : tab 3 = some ⟨107, [.tmp 6], b3⟩ := rfl
theorem go_Tells (a c : Cl) {bs : List Int} {h : Heap} {B : AV} (ha : ClAt h a) (hc0 : ClAt h c) (oa : ClOk a) (oc : ClOk c) (hB : BytesAt h B bs) (hy : Bytes bs) (hlb : bs.length ≤ 2000000) : Runs (xcall X1 tab (.fn 3) [.agg [.int .u8 a.client, .int .u32 a.inc, .int .u64 a.seq, .int .u8 a.kind, .int .u32 a.hi, .int .u32 a.hg, .str a.name, .int .u32 a.ti, .int .u32 a.tg, .str a.toName, .int .u32 a.off, .int .u32 a.size, a.dv], .agg [.int .u8 c.client, .int .u32 c.inc, .int .u64 c.seq, .int .u8 c.kind, .int .u32 c.hi, .int .u32 c.hg, .str c.name, .int .u32 c.ti, .int .u32 c.tg, .str c.toName, .int .u32 c.off, .int .u32 c.size, c.dv], B] h) fun v h' => v = .bool true := by
  refine Runs.intro fun K hK => ?_
  obtain ⟨had, hyd, hyn, hyt, ld, ln, lt⟩ := id ha
  obtain ⟨hcd, hyd2, hyn2, hyt2, ld2, ln2, lt2⟩ := id hc0
  have hfa := BytesAt.flat' had
  have hca := cells_of hfa
  have hfc := BytesAt.flat' hcd
  have hcc := cells_of hfc
  obtain ⟨oa1, oa2, oa3, oa4, oa5, oa6, oa7, oa8, oa9, oa10⟩ := id oa
  rw [w_fn rfl t3 (Nat.le_of_ble_eq_true rfl)]
  delta b3
  repeat' (first
    | simp (disch := first | exact qd | fail) only [WB, ↓WP, ↓WL, WR, WC, if_true, if_false, ite_true, ite_false, aop, ev, evs, readsA, List.replicate, numF, unA, resA, tupA, loadA, storeA, splice, fillA, kindsOk, plainEq, ↓reduceIte, Nat.reduceEqDiff, Nat.reduceLT, Int.reduceToNat, Int.reduceBEq, Int.reduceBNe, Nat.reduceAdd, Nat.reduceMul, Nat.reduceLeDiff, Int.reduceLT, Int.reduceSub, Int.reduceAdd, may_own, put_own, err_own, same_own, same_asm, ne_eq]
    | ((first | refine atC ?_ ?_ | refine atG ?_ ?_ | refine atH ?_ ?_ | refine atP ?_ ?_) <;> intro hc <;> (try rw [hc]) <;> (try simp only [BD] at hc) <;> try (exfalso; omega))
    | ((first
      | (refine Runs.call (lives_r _) ?_; rintro _ _ ⟨rfl, rfl⟩)
      | (refine Runs.call (f0_Wide (had.grow qg) qo) ?_; rintro _ HW ⟨gr, w, rfl, hw0, hw1, hw⟩; (simp only [nx_alloc, nx_set] at hw0); have hw2 := Heap.byteAt_lt hw.2; have hwa := hw.at; have hfwa := BytesAt.flat' hwa; have hcwa := cells_of hfwa)
      | (refine Runs.call (f0_Wide (hB.grow qg) qo) ?_; rintro _ HX ⟨gr, x, rfl, hx0, hx1, hx⟩; (simp only [nx_alloc, nx_set] at hx0); have hxa := hx.at; have hwX : WideAt HX w a.data := hw.keep qs qs)
      | (refine Runs.call (k_Put (ownC a (.slice w 0 a.data.length (a.data.length + 3) false 1)) (ha.own (hwX.at.grow qg)) oa) ?_; rintro _ H5 ⟨gr, q1, rfl, hq1⟩; have hq1a := NewBytes.at hq1; have hfq1 := BytesAt.flat' hq1a; have hcq1 := cells_of hfq1)
      | (refine Runs.call (ref_Put a (ha.grow qg) oa) ?_; rintro _ H6 ⟨gr, q2, rfl, hq2⟩; have hq2a := hq2.at; have hfq2 := BytesAt.flat' hq2a; have hcq2 := cells_of hfq2)
      | (refine Runs.call (k_Get (hx.at.grow qg) hy qo) ?_; rintro _ H7 ⟨gr, z1, rfl, e1, hn1, hzo1, hz1⟩; have hzd1 := hz1.1; have hfz1 := BytesAt.flat' hzd1; have hcz1 := cells_of hfz1)
      | (refine Runs.call (ref_Get (hB.grow qg) hy qo) ?_; rintro _ H8 ⟨gr, z2, rfl, e2, hn2, hzo2, hz2⟩; have hzd2 := hz2.1; have hfz2 := BytesAt.flat' hzd2; have hcz2 := cells_of hfz2; have e12 := e1.trans e2.symm)
      | (refine Runs.call (k_May (ownC a (.slice w 0 a.data.length (a.data.length + 3) false 1)) (ha.own (hwX.at.grow qg)) oa) ?_; rintro _ _ ⟨rfl, gr⟩)
      | (refine Runs.call (ref_May a (ha.grow qg) oa) ?_; rintro _ _ ⟨rfl, gr⟩)
      | (refine Runs.call (f0_Same (hq1a.grow qg) (hq2a.grow qg)) ?_; rintro _ _ ⟨rfl, rfl⟩)
      | (refine Runs.call (ref_Same z1 z2 (hzd1.grow qg) (hzd2.grow qg)) ?_; rintro _ _ ⟨rfl, gr⟩)
      | (refine Runs.call (k_Same a c (had.grow qg) (hcd.grow qg)) ?_; rintro _ _ ⟨rfl, gr⟩)
      | (refine Runs.call (ref_Same a c (had.grow qg) (hcd.grow qg)) ?_; rintro _ _ ⟨rfl, gr⟩)
      | (refine Runs.call (k_Same a (ownC a (.slice w 0 a.data.length (a.data.length + 3) false 1)) (had.grow qg) (hwX.at.grow qg)) ?_; rintro _ _ ⟨rfl, gr⟩)
      | (refine Runs.call (k_Changes oa4 _) ?_; rintro _ _ ⟨rfl, rfl⟩)
      | (refine Runs.call (ref_Changes oa4 _) ?_; rintro _ _ ⟨rfl, rfl⟩)
      | (refine Runs.call (f0_Left (hwX.grow qg) (had.grow qg)) ?_; rintro _ _ ⟨rfl, rfl⟩)
      | (refine Runs.call (f0_Left (hx.grow qg) (hB.grow qg)) ?_; rintro _ _ ⟨rfl, rfl⟩)
      | fail); all_goals ((try (have gn := gr.1; try simp only [nx_alloc, nx_set] at gn)); (try (have an := ha.num; try simp only [nx_alloc, nx_set, own_sl, own_nil] at an)); (try (have on := hO.num; try simp only [nx_alloc, nx_set] at on)); (try (have kn := hk.1; try simp only [nx_alloc, nx_set] at kn)); try have hB := hO.at)))
  all_goals try (first
    | (refine hK _ _ ?_; (first | rfl | fail); done)
    | fail)
theorem wf_u32 {i : Int} (h : wfInt .u32 i = true) : 0 ≤ i ∧ i ≤ 4294967295 := by
  simpa [wfInt, IntKind.signed, IntKind.bits, IntKind.min, IntKind.max] using h
theorem wf_u64 {i : Int} (h : wfInt .u64 i = true) : 0 ≤ i ∧ i ≤ 18446744073709551615 := by
  simpa [wfInt, IntKind.signed, IntKind.bits, IntKind.min, IntKind.max] using h
theorem cells_hdl {N k : Nat} {h h' : Heap} {cs : List AV} (hx : cellsX Tryd.prog N (k + 2) 24 h cs h') : ∃ i g, cs = [.int .u32 i, .int .u32 g] ∧ (0 ≤ i ∧ i ≤ 4294967295) ∧ (0 ≤ g ∧ g ≤ 4294967295) ∧ h' = h := by
  obtain ⟨as6, hq, rfl⟩ := cellsX_struct Tryd.underlying24 hx
  obtain ⟨f1, r, m1, rfl, j1, hq⟩ := listX_cons hq
  obtain ⟨f2, r, m2, rfl, j2, hq⟩ := listX_cons hq
  obtain ⟨rfl, rfl⟩ := listX_nil hq
  obtain ⟨ino, rfl, w5, rfl⟩ := cellsX_int Tryd.underlying22 j1
  obtain ⟨gen, rfl, w6, rfl⟩ := cellsX_int Tryd.underlying22 j2
  exact ⟨ino, gen, rfl, wf_u32 w5, wf_u32 w6, rfl⟩
theorem arg_cl {N k : Nat} (hN : N ≤ 2000000) {h h' : Heap} {a : AV} (hx : argX Tryd.prog N (k + 4) 28 h a h') : ∃ z : Cl, a = .agg [.int .u8 z.client, .int .u32 z.inc, .int .u64 z.seq, .int .u8 z.kind, .int .u32 z.hi, .int .u32 z.hg, .str z.name, .int .u32 z.ti, .int .u32 z.tg, .str z.toName, .int .u32 z.off, .int .u32 z.size, z.dv] ∧ ClAt h' z ∧ ClOk z ∧ Grow h h' := by
  obtain ⟨ass, hl, rfl⟩ := argX_struct Tryd.underlying28 hx
  obtain ⟨c1, r, h1, rfl, e1, hl⟩ := listX_cons hl
  obtain ⟨c2, r, h2, rfl, e2, hl⟩ := listX_cons hl
  obtain ⟨c3, r, h3, rfl, e3, hl⟩ := listX_cons hl
  obtain ⟨c4, r, h4, rfl, e4, hl⟩ := listX_cons hl
  obtain ⟨c5, r, h5, rfl, e5, hl⟩ := listX_cons hl
  obtain ⟨c6, r, h6, rfl, e6, hl⟩ := listX_cons hl
  obtain ⟨c7, r, h7, rfl, e7, hl⟩ := listX_cons hl
  obtain ⟨c8, r, h8, rfl, e8, hl⟩ := listX_cons hl
  obtain ⟨c9, r, h9, rfl, e9, hl⟩ := listX_cons hl
  obtain ⟨c10, r, h10, rfl, e10, hl⟩ := listX_cons hl
  obtain ⟨c11, r, h11, rfl, e11, hl⟩ := listX_cons hl
  obtain ⟨rfl, rfl⟩ := listX_nil hl
  obtain ⟨client, rfl, w1, rfl⟩ := cellsX_int Tryd.underlying5 e1
  obtain ⟨inc, rfl, w2, rfl⟩ := cellsX_int Tryd.underlying22 e2
  obtain ⟨seq, rfl, w3, rfl⟩ := cellsX_int Tryd.underlying23 e3
  obtain ⟨kind, rfl, w4, rfl⟩ := cellsX_int Tryd.underlying5 e4
  obtain ⟨hi, hg, rfl, w5, w6, rfl⟩ := cells_hdl e5
  obtain ⟨name, rfl, w7, n7, rfl⟩ := cellsX_string Tryd.underlying9 e6
  obtain ⟨ti, tg, rfl, w8, w9, rfl⟩ := cells_hdl e7
  obtain ⟨toName, rfl, w10, n10, rfl⟩ := cellsX_string Tryd.underlying9 e8
  obtain ⟨off, rfl, w11, rfl⟩ := cellsX_int Tryd.underlying22 e9
  obtain ⟨size, rfl, w12, rfl⟩ := cellsX_int Tryd.underlying22 e10
  obtain ⟨dv, data, rfl, b1, b2, b3, g1⟩ := cells_bytes Tryd.underlying26 Tryd.underlying5 (by kernel_rfl) e11
  exact ⟨⟨client, inc, seq, kind, hi, hg, name, ti, tg, toName, off, size, dv, data⟩, rfl, ⟨b1, b2, wf_bytes w7, wf_bytes w10, Nat.le_trans b3 hN, Nat.le_trans n7 hN, Nat.le_trans n10 hN⟩,
    ⟨wf_u8 w1, wf_u32 w2, wf_u64 w3, wf_u8 w4, w5, w6, w8, w9, wf_u32 w11, wf_u32 w12⟩, g1⟩
theorem run_Tells (N : Nat) (hN : N ≤ 1048576) : ∀ h xs, (∀ l, AV.str l ∈ xs → l.length ≤ 9223372036854775807) → argsT Tryd.prog N h 6 Tryd.f3.params.toList xs → argsX Tryd.prog N 6 Tryd.f3.params.toList emptyHeap xs h →
    ∃ n h', acall X1 tab n (.fn 3) xs h = some (.bool true, h') ∨ (AV.bares xs = true ∧ acall X1 tab n (.fn 3) xs emptyHeap = some (.bool true, h')) := by
  intro h xs hs _ hx
  rw [Tryd.params3] at hx
  obtain ⟨A, _, h1, rfl, e1, hx⟩ := argsX_cons hx
  obtain ⟨C, _, h2, rfl, e2, hx⟩ := argsX_cons hx
  obtain ⟨B, _, h3, rfl, e3, hx⟩ := argsX_cons hx
  obtain ⟨rfl, rfl⟩ := argsX_nil hx
  obtain ⟨a, rfl, a1, a2, g1⟩ := arg_cl qo e1
  obtain ⟨c, rfl, c1, c2, g2⟩ := arg_cl qo e2
  obtain ⟨bs, b1, b2, b3, g3⟩ := arg_bytes Tryd.underlying26 Tryd.underlying5 (by kernel_rfl) e3
  obtain ⟨v, h', e, rfl⟩ := go_Tells a c ((a1.grow g2).grow g3) (c1.grow g3) a2 c2 b1 b2 qo
  exact ranX e
end Go.Proofs.YtcfmccafbknleaaDoor.Ya
