/-
  Lines: the laws walked.
-/
import Derived.Test.YtpoccinfeekdhaaDoorYaRpB
import Derived.Test.YtpoccinfeekdhaaDoorYbL
namespace Go.Proofs.YtpoccinfeekdhaaDoor.Ya
open Go.Ya Go.Ya.Na
set_option linter.unusedVariables false
set_option linter.unusedSimpArgs false
set_option maxRecDepth 100000
set_option maxHeartbeats 8000000
abbrev yB (q : Int) : B.Bk := ⟨1, 7, q, 0, 0, 0, false, 0, 0, 0, .nilsl, .nilsl, 1, [], []⟩
theorem may_yB {q : Int} (h : 0 < q) : B.mayB (yB q) = true := by
  unfold B.mayB
  rw [Bool.and_eq_true, decide_eq_true_eq]
  exact ⟨by simp only [List.length_nil]; omega, rfl⟩
theorem ok_yB {q : Int} (h : 0 ≤ q ∧ q ≤ 18446744073709551615) : B.BkOk (yB q) := by
  unfold B.BkOk
  dsimp only
  omega
theorem at_yB (q : Int) (h : Heap) : B.BkAt h (yB q) := ⟨.inl ⟨rfl, rfl⟩, ⟨(fun r hr => nomatch hr), .inl ⟨rfl, rfl⟩⟩, (fun c hc => nomatch hc), (fun p hp => nomatch hp), Nat.zero_le _, Nat.zero_le _⟩
theorem put_yB {q : Int} (h : 0 < q) : B.errB (yB q) = 0 ∧ B.putB (yB q) = B.encP (yB q) := ⟨if_pos (may_yB h), if_pos (may_yB h)⟩
theorem nb : Bytes ([] : List Int) := fun c hc => nomatch hc
theorem ny : B.AllY [] := fun c hc => nomatch hc
theorem LnOut.grow {H H' : Heap} {p : Nat} {z : Cl} {t wt sn : Int} (L : LnOut H p z t wt sn) (g : Grow H H') : LnOut H' p z t wt sn := by
  obtain ⟨s, b, cap, ex, rest, hg, hs, hb, h1, h2, hz, h3⟩ := L
  exact ⟨s, b, cap, ex, rest, g.get hg, g.get hs, g.get hb, h1, h2, hz.grow g, h3⟩
theorem LnOut.lt {H : Heap} {p : Nat} {z : Cl} {t wt sn : Int} (L : LnOut H p z t wt sn) : p < H.next := by
  obtain ⟨s, b, cap, ex, rest, hg, _⟩ := L
  exact Heap.lt_of_get hg
theorem flat_asm {v : AV} (x : Asm (v.flat = true)) : v.flat = true := x.out
theorem cells_asm {v : AV} (x : Asm (v.flat = true)) : v.cells = [v] := cells_of x.out
theorem encC_pos (z : Cl) : 0 < (encC z).length := by
  rw [encC_eq]
  simp only [List.length_append, beL_len]; omega
theorem tmod300 {k : Int} (h : 0 ≤ k) : k.tmod 300 = k % 300 := Int.tmod_eq_emod_of_nonneg h
theorem t3 : tab 3 = some ⟨118, [.tmp 4], b3⟩ := rfl
theorem go_Once (z : Cl) {tk : Int} {h : Heap} (hz : ClAt h z) (ho : ClOk z) (htk : 0 ≤ tk ∧ tk ≤ 65535) : Runs (xcall X1 tab (.fn 3) [.agg [.int .u8 z.client, .int .u32 z.inc, .int .u64 z.seq, .int .u8 z.kind, .int .u32 z.hi, .int .u32 z.hg, .str z.name, .int .u32 z.ti, .int .u32 z.tg, .str z.toName, .int .u32 z.off, .int .u32 z.size, z.dv], .int .u16 tk] h) fun v h' => v = .bool true := by
  refine Runs.intro fun K hK => ?_
  obtain ⟨hd, hyd, hyn, hyt, ld, ln, lt⟩ := id hz
  have hfd := BytesAt.flat' hd
  have hcd := cells_of hfd
  have hz0 := hz
  have ho0 := ho
  have htm := tmod300 htk.1
  have hm9 := Int.emod_nonneg tk (show (300 : Int) ≠ 0 by decide)
  have hm8 := Int.emod_lt_of_pos tk (show (0 : Int) < 300 by decide)
  obtain ⟨he1, hp1⟩ := put_yB (q := 1) (by decide)
  obtain ⟨he2, hp2⟩ := put_yB (q := 2) (by decide)
  have hy1 := B.encP_by (z := yB 1) nb ny
  have hy2 := B.encP_by (z := yB 2) nb ny
  have hl1 := B.encP_le (may_yB (q := 1) (by decide))
  have hl2 := B.encP_le (may_yB (q := 2) (by decide))
  rw [w_fn rfl t3 (Nat.le_of_ble_eq_true rfl)]
  delta b3
  repeat' (first
    | simp (disch := first | exact qd | fail) only [WB, ↓WP, ↓WL, WR, WC, if_true, if_false, ite_true, ite_false, aop, ev, evs, readsA, List.replicate, numF, unA, resA, tupA, loadA, storeA, splice, fillA, kindsOk, plainEq, ↓reduceIte, Nat.reduceEqDiff, Nat.reduceLT, Int.reduceToNat, Int.reduceBEq, Int.reduceBNe, Nat.reduceAdd, Nat.reduceMul, Nat.reduceLeDiff, Int.reduceLT, Int.reduceSub, Int.reduceAdd, hfd, hcd, htm, he1, he2, ne_eq, flat_asm, cells_asm]
    | ((first | refine atC ?_ ?_ | refine atG ?_ ?_ | refine atH ?_ ?_ | refine atP ?_ ?_) <;> intro hc <;> (try rw [hc]) <;> (try simp only [BD] at hc) <;> try (exfalso; omega))
    | ((first
      | (refine Runs.call (lives_r _) ?_; rintro _ _ ⟨rfl, rfl⟩)
      | (refine Runs.call (l_New _) ?_; rintro _ _ ⟨rfl, rfl⟩)
      | (refine Runs.call (l_Call z (hz0.grow qg) ho0 (p := h.next + 1) qs) ?_; rintro _ H1 (⟨hmf, rfl, gr⟩ | ⟨hmt, rfl, w0, hL1, k1⟩))
      | fail); all_goals ((try (have gn := gr.1; try simp only [nx_alloc, nx_set] at gn)); (try (have an := ha.num; try simp only [nx_alloc, nx_set, own_sl, own_nil] at an)); (try (have on := hO.num; try simp only [nx_alloc, nx_set] at on)); (try (have kn := hk.1; try simp only [nx_alloc, nx_set] at kn)); try have hB := hO.at)))
  all_goals try (first
    | (refine hK _ _ ?_; (first | rfl | fail); done)
    | fail)
  all_goals
    refine wloop (α := Int × Nat × Nat × Int × Int) [1, 5] (fun x => [(7, .int .u64 x.1), (8, .int .i64 (x.2.1 : Nat)), (9, .int .u64 (x.2.2.1 : Nat))]) (fun x H => LnOut H (h.next + 1) (wO z w0) x.2.2.2.1 x.2.2.2.2 x.2.1 ∧ x.2.2.1 ≤ 301 ∧ x.2.1 ≤ x.2.2.1 ∧ (x.2.2.1 : Int) ≤ x.2.2.2.1 ∧ 0 ≤ x.1 ∧ 2 ≤ x.2.2.2.2 ∧ x.2.2.2.2 ≤ 16 ∧ ((x.2.1 = 0 ∧ x.2.2.1 = 0 ∧ x.2.2.2.1 = 0) ∨ (0 < x.2.1 ∧ x.1 < x.2.2.1 ∧ 2 ≤ x.2.2.2.1 - x.1 ∧ x.2.2.2.1 - x.1 ≤ 16))) (fun x => 301 - x.2.2.1) ?_ ((0, 0, 0, 0, 2)) ?_ ?_
    rotate_left
    · exact qf
    · (try dsimp only)
      exact ⟨hL1, by omega, by omega, by omega, by omega, by omega, by omega, by omega⟩
    intro x b1 H hI ih
    obtain ⟨l, s, a, t, w⟩ := x
    try dsimp only at hI
    obtain ⟨hL, ha, hsa, hat, hl0, hw2, hw16, hd9⟩ := hI
    have hmw : mayC (wO z w0) = true := (may_wO z w0).trans hmt
    have how := ok_wO w0 ho0
    have hpl := hL.lt
    have hep := encC_pos (wO z w0)
    try have gn := g.1
    refine w_unfold (by delta L3_0; rfl) ?_
    simp only [keeps_nil, keeps_cons, List.cons_append, List.nil_append, lk_cons, lk_nil, numF, Nat.reduceEqDiff, Nat.reduceAdd, Nat.zero_add, ↓reduceIte]
    repeat' (first
      | simp (disch := first | exact qd | fail) only [WB, ↓WP, ↓WL, WR, WC, if_true, if_false, ite_true, ite_false, aop, ev, evs, readsA, List.replicate, numF, unA, resA, tupA, loadA, storeA, splice, fillA, kindsOk, plainEq, ↓reduceIte, Nat.reduceEqDiff, Nat.reduceLT, Int.reduceToNat, Int.reduceBEq, Int.reduceBNe, Nat.reduceAdd, Nat.reduceMul, Nat.reduceLeDiff, Int.reduceLT, Int.reduceSub, Int.reduceAdd, hfd, hcd, htm, he1, he2, ne_eq, flat_asm, cells_asm]
      | ((first | refine atC ?_ ?_ | refine atG ?_ ?_ | refine atH ?_ ?_ | refine atP ?_ ?_) <;> intro hc <;> (try rw [hc]) <;> (try simp only [BD] at hc) <;> try (exfalso; omega))
      | ((first
        | (refine Runs.call (lives_r _) ?_; rintro _ _ ⟨rfl, rfl⟩)
        | (refine Runs.call (l_New _) ?_; rintro _ _ ⟨rfl, rfl⟩)
        | (refine Runs.call (l_Call z (hz0.grow qg) ho0 (p := h.next + 1) qs) ?_; rintro _ H1 (⟨hmf, rfl, gr⟩ | ⟨hmt, rfl, w0, hL1, k1⟩))
        | (refine Runs.call (l_Tick hL hmw how qo qo qo) ?_; rintro vt HT (⟨hlt9, rfl, rfl⟩ | ⟨hle9, hL2, hq9⟩); all_goals (try (have hqa := NewBytes.at hq9)); all_goals (try (have hfq := BytesAt.flat' hqa)); all_goals (try (have hcq := cells_of hfq)))
        | (refine Runs.call (B.ref_PutR (yB 1) (at_yB 1 _) (ok_yB (by decide))) ?_; rintro _ HP1 ⟨gr, q1, rfl, hq1⟩; rw [hp1] at hq1; rw [he1]; have on1 := hq1.num; have hb1 := OwB.at hq1; have hfb1 := BytesAt.flat' hb1; have hcb1 := cells_of hfb1; have hLP1 := hL.grow gr)
        | (refine Runs.call (B.ref_PutR (yB 2) (at_yB 2 _) (ok_yB (by decide))) ?_; rintro _ HP2 ⟨gr, q2, rfl, hq2⟩; rw [hp2] at hq2; rw [he2]; have hb2 := OwB.at hq2; have hfb2 := BytesAt.flat' hb2; have hcb2 := cells_of hfb2; have hLP2 := hLP1.grow gr; have hq1P := hq1.grow gr)
        | (refine Runs.call (l_TakeB hLP2 (yB 2) (ok_yB (by decide)) (may_yB (by decide)) nb ny hb2 rfl rfl (by decide)) ?_; rintro _ HT1 ⟨rfl, gr⟩; have hLT1 := hLP2.grow gr; have hq1T := hq1P.grow gr)
        | (refine Runs.call (l_TakeG (hLT1.grow qg) (yB 1) (ok_yB (by decide)) (may_yB (by decide)) nb ny ((OwB.at hq1T).grow qg) rfl rfl rfl) ?_; rintro _ HG ⟨xg, rg, rfl, hfx, hfr1, hfr2, k9, s9, cap9, ex9, hgp⟩; have hcx := cells_of hfx; have hcr1 := cells_of hfr1; have hcr2 := cells_of hfr2; have hlG := Heap.lt_of_get hgp; have hqE : BytesAt HG q1 (B.encP (yB 1)) := OwB.at (OwC.keep (hq1T.grow qg) (fun j hj he => k9.2 j hj qo)))
        | (refine Runs.call (l_TakeE (p := h.next + 1) (s := s9) (cap := cap9) (ex := ex9) (hqE.grow qg) hy1 qo qs) ?_; rintro _ _ ⟨rfl, gr⟩)
        | fail); all_goals ((try (have gn := gr.1; try simp only [nx_alloc, nx_set] at gn)); (try (have an := ha.num; try simp only [nx_alloc, nx_set, own_sl, own_nil] at an)); (try (have on := hO.num; try simp only [nx_alloc, nx_set] at on)); (try (have kn := hk.1; try simp only [nx_alloc, nx_set] at kn)); try have hB := hO.at)))
    all_goals try (first
      | exact ih ((l, s, a + 1, t, w)) _ _ _ (by ((try dsimp only); omega)) qf (by ((try dsimp only); (first | ((first | exact ⟨hL, by omega, by omega, by omega, by omega, by omega, by omega, by omega⟩ | exact ⟨(by have hL3 := hL2; (try rw [show ((s : Int) + 1) = ((s + 1 : Nat) : Int) by omega] at hL3); exact hL3), by omega, by omega, by omega, by omega, by omega, by omega, by omega⟩ | fail)) | fail)))
      | exact ih (((a : Int), s + 1, a + 1, (a : Int) + w, min (2 * w) 16)) _ _ _ (by ((try dsimp only); omega)) qf (by ((try dsimp only); (first | ((first | exact ⟨hL, by omega, by omega, by omega, by omega, by omega, by omega, by omega⟩ | exact ⟨(by have hL3 := hL2; (try rw [show ((s : Int) + 1) = ((s + 1 : Nat) : Int) by omega] at hL3); exact hL3), by omega, by omega, by omega, by omega, by omega, by omega, by omega⟩ | fail)) | fail)))
      | (refine hK _ _ ?_; (first | rfl | fail); done)
      | fail)
theorem wf_u32 {i : Int} (h : wfInt .u32 i = true) : 0 ≤ i ∧ i ≤ 4294967295 := by
  simpa [wfInt, IntKind.signed, IntKind.bits, IntKind.min, IntKind.max] using h
theorem wf_u64 {i : Int} (h : wfInt .u64 i = true) : 0 ≤ i ∧ i ≤ 18446744073709551615 := by
  simpa [wfInt, IntKind.signed, IntKind.bits, IntKind.min, IntKind.max] using h
theorem cells_hdl {N k : Nat} {h h' : Heap} {cs : List AV} (hx : cellsX Tryd.prog N (k + 2) 25 h cs h') : ∃ i g, cs = [.int .u32 i, .int .u32 g] ∧ (0 ≤ i ∧ i ≤ 4294967295) ∧ (0 ≤ g ∧ g ≤ 4294967295) ∧ h' = h := by
  obtain ⟨as6, hq, rfl⟩ := cellsX_struct Tryd.underlying25 hx
  obtain ⟨f1, r, m1, rfl, j1, hq⟩ := listX_cons hq
  obtain ⟨f2, r, m2, rfl, j2, hq⟩ := listX_cons hq
  obtain ⟨rfl, rfl⟩ := listX_nil hq
  obtain ⟨ino, rfl, w5, rfl⟩ := cellsX_int Tryd.underlying22 j1
  obtain ⟨gen, rfl, w6, rfl⟩ := cellsX_int Tryd.underlying22 j2
  exact ⟨ino, gen, rfl, wf_u32 w5, wf_u32 w6, rfl⟩
theorem arg_cl {N k : Nat} (hN : N ≤ 2000000) {h h' : Heap} {a : AV} (hx : argX Tryd.prog N (k + 4) 28 h a h') : ∃ z : Cl, a = .agg [.int .u8 z.client, .int .u32 z.inc, .int .u64 z.seq, .int .u8 z.kind, .int .u32 z.hi, .int .u32 z.hg, .str z.name, .int .u32 z.ti, .int .u32 z.tg, .str z.toName, .int .u32 z.off, .int .u32 z.size, z.dv] ∧ ClAt h' z ∧ ClOk z ∧ Grow h h' := by
  obtain ⟨ass, hl, rfl⟩ := argX_struct Tryd.underlying28 hx
  obtain ⟨c1, r, h1, rfl, e1, hl⟩ := listX_cons hl
  obtain ⟨c2, r, h2, rfl, e2, hl⟩ := listX_cons hl
  obtain ⟨c3, r, h3, rfl, e3, hl⟩ := listX_cons hl
  obtain ⟨c4, r, h4, rfl, e4, hl⟩ := listX_cons hl
  obtain ⟨c5, r, h5, rfl, e5, hl⟩ := listX_cons hl
  obtain ⟨c6, r, h6, rfl, e6, hl⟩ := listX_cons hl
  obtain ⟨c7, r, h7, rfl, e7, hl⟩ := listX_cons hl
  obtain ⟨c8, r, h8, rfl, e8, hl⟩ := listX_cons hl
  obtain ⟨c9, r, h9, rfl, e9, hl⟩ := listX_cons hl
  obtain ⟨c10, r, h10, rfl, e10, hl⟩ := listX_cons hl
  obtain ⟨c11, r, h11, rfl, e11, hl⟩ := listX_cons hl
  obtain ⟨rfl, rfl⟩ := listX_nil hl
  obtain ⟨client, rfl, w1, rfl⟩ := cellsX_int Tryd.underlying5 e1
  obtain ⟨inc, rfl, w2, rfl⟩ := cellsX_int Tryd.underlying22 e2
  obtain ⟨seq, rfl, w3, rfl⟩ := cellsX_int Tryd.underlying23 e3
  obtain ⟨kind, rfl, w4, rfl⟩ := cellsX_int Tryd.underlying5 e4
  obtain ⟨hi, hg, rfl, w5, w6, rfl⟩ := cells_hdl e5
  obtain ⟨name, rfl, w7, n7, rfl⟩ := cellsX_string Tryd.underlying9 e6
  obtain ⟨ti, tg, rfl, w8, w9, rfl⟩ := cells_hdl e7
  obtain ⟨toName, rfl, w10, n10, rfl⟩ := cellsX_string Tryd.underlying9 e8
  obtain ⟨off, rfl, w11, rfl⟩ := cellsX_int Tryd.underlying22 e9
  obtain ⟨size, rfl, w12, rfl⟩ := cellsX_int Tryd.underlying22 e10
  obtain ⟨dv, data, rfl, b1, b2, b3, g1⟩ := cells_bytes Tryd.underlying26 Tryd.underlying5 (by kernel_rfl) e11
  exact ⟨⟨client, inc, seq, kind, hi, hg, name, ti, tg, toName, off, size, dv, data⟩, rfl, ⟨b1, b2, wf_bytes w7, wf_bytes w10, Nat.le_trans b3 hN, Nat.le_trans n7 hN, Nat.le_trans n10 hN⟩,
    ⟨wf_u8 w1, wf_u32 w2, wf_u64 w3, wf_u8 w4, w5, w6, w8, w9, wf_u32 w11, wf_u32 w12⟩, g1⟩
theorem wf_u16 {i : Int} (h : wfInt .u16 i = true) : 0 ≤ i ∧ i ≤ 65535 := by
  simpa [wfInt, IntKind.signed, IntKind.bits, IntKind.min, IntKind.max] using h
theorem run_Once (N : Nat) (hN : N ≤ 1048576) : ∀ h xs, (∀ l, AV.str l ∈ xs → l.length ≤ 9223372036854775807) → argsT Tryd.prog N h 6 Tryd.f3.params.toList xs → argsX Tryd.prog N 6 Tryd.f3.params.toList emptyHeap xs h →
    ∃ n h', acall X1 tab n (.fn 3) xs h = some (.bool true, h') ∨ (AV.bares xs = true ∧ acall X1 tab n (.fn 3) xs emptyHeap = some (.bool true, h')) := by
  intro h xs hs _ hx
  rw [Tryd.params3] at hx
  obtain ⟨A, _, h1, rfl, e1, hx⟩ := argsX_cons hx
  obtain ⟨K, _, h2, rfl, e2, hx⟩ := argsX_cons hx
  obtain ⟨rfl, rfl⟩ := argsX_nil hx
  obtain ⟨a, rfl, a1, a2, g1⟩ := arg_cl qo e1
  obtain ⟨k, rfl, w1, rfl⟩ := argX_int Tryd.underlying29 e2
  obtain ⟨v, h', e, rfl⟩ := go_Once a a1 a2 (wf_u16 w1)
  exact ranX e
end Go.Proofs.YtpoccinfeekdhaaDoor.Ya
