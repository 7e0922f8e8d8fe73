/-
  Lines: the laws walked.
-/
import Derived.Test.YtpoccinfeekdhaaDoorYaRpB
import Derived.Test.YtpoccinfeekdhaaDoorYbL
namespace Go.Proofs.YtpoccinfeekdhaaDoor.Ya
open Go.Ya Go.Ya.Na
set_option linter.unusedVariables false
set_option linter.unusedSimpArgs false
set_option maxRecDepth 100000
set_option maxHeartbeats 8000000
theorem t4x : tab 4 = some ⟨69, [.tmp 8], b4⟩ := rfl
theorem go_NilN (z : Cl) {bs : List Int} {V : AV} {now : Int} {h : Heap} (hz : ClAt h z) (hV : BytesAt h V bs) (hy : Bytes bs) (hlb : bs.length ≤ 2000000) : Runs (xcall X1 tab (.fn 4) [.agg [.int .u8 z.client, .int .u32 z.inc, .int .u64 z.seq, .int .u8 z.kind, .int .u32 z.hi, .int .u32 z.hg, .str z.name, .int .u32 z.ti, .int .u32 z.tg, .str z.toName, .int .u32 z.off, .int .u32 z.size, z.dv], .int .u64 now, V, .bool false] h) fun v h' => v = .bool true := by
  refine Runs.intro fun K hK => ?_
  obtain ⟨hd, hyd, hyn, hyt, ld, ln, lt⟩ := id hz
  have hfd := BytesAt.flat' hd
  have hcd := cells_of hfd
  rw [w_fn rfl t4x (Nat.le_of_ble_eq_true rfl)]
  delta b4
  repeat' (first
    | simp (disch := first | exact qd | fail) only [WB, ↓WP, ↓WL, WR, WC, if_true, if_false, ite_true, ite_false, aop, ev, evs, readsA, List.replicate, numF, unA, resA, tupA, loadA, storeA, splice, fillA, kindsOk, plainEq, ↓reduceIte, Nat.reduceEqDiff, Nat.reduceLT, Int.reduceToNat, Int.reduceBEq, Int.reduceBNe, Nat.reduceAdd, Nat.reduceMul, Nat.reduceLeDiff, Int.reduceLT, Int.reduceSub, Int.reduceAdd, hfd, hcd]
    | ((first | refine atC ?_ ?_ | refine atG ?_ ?_ | refine atH ?_ ?_ | refine atP ?_ ?_) <;> intro hc <;> (try rw [hc]) <;> (try simp only [BD] at hc) <;> try (exfalso; omega))
    | ((first
      | (refine Runs.call (lives_r _) ?_; rintro _ _ ⟨rfl, rfl⟩)
      | (refine Runs.call (l_TakeN (hV.grow qg) hy qo) ?_; rintro _ _ ⟨rfl, gr⟩)
      | (refine Runs.call (l_OutN _) ?_; rintro _ _ ⟨rfl, gr⟩)
      | (refine Runs.call (l_DueN _) ?_; rintro _ _ ⟨rfl, gr⟩)
      | (refine Runs.call (l_CallN z (hd.grow qg) now) ?_; rintro _ _ ⟨rfl, gr⟩)
      | (refine Runs.call (l_TickN _ now) ?_; rintro _ _ ⟨rfl, rfl⟩)
      | (refine Runs.call (l_SeqN _) ?_; rintro _ _ ⟨rfl, rfl⟩)
      | fail); all_goals ((try (have gn := gr.1; try simp only [nx_alloc, nx_set] at gn)); (try (have an := ha.num; try simp only [nx_alloc, nx_set, own_sl, own_nil] at an)); (try (have on := hO.num; try simp only [nx_alloc, nx_set] at on)); (try (have kn := hk.1; try simp only [nx_alloc, nx_set] at kn)); try have hB := hO.at)))
  all_goals try (first
    | (refine hK _ _ ?_; (first | rfl | fail); done)
    | fail)
theorem go_NilZ (z : Cl) {bs : List Int} {V : AV} {now : Int} {h : Heap} (hz : ClAt h z) (hV : BytesAt h V bs) (hy : Bytes bs) (hlb : bs.length ≤ 2000000) : Runs (xcall X1 tab (.fn 4) [.agg [.int .u8 z.client, .int .u32 z.inc, .int .u64 z.seq, .int .u8 z.kind, .int .u32 z.hi, .int .u32 z.hg, .str z.name, .int .u32 z.ti, .int .u32 z.tg, .str z.toName, .int .u32 z.off, .int .u32 z.size, z.dv], .int .u64 now, V, .bool true] h) fun v h' => v = .bool true := by
  refine Runs.intro fun K hK => ?_
  obtain ⟨hd, hyd, hyn, hyt, ld, ln, lt⟩ := id hz
  have hfd := BytesAt.flat' hd
  have hcd := cells_of hfd
  rw [w_fn rfl t4x (Nat.le_of_ble_eq_true rfl)]
  delta b4
  repeat' (first
    | simp (disch := first | exact qd | fail) only [WB, ↓WP, ↓WL, WR, WC, if_true, if_false, ite_true, ite_false, aop, ev, evs, readsA, List.replicate, numF, unA, resA, tupA, loadA, storeA, splice, fillA, kindsOk, plainEq, ↓reduceIte, Nat.reduceEqDiff, Nat.reduceLT, Int.reduceToNat, Int.reduceBEq, Int.reduceBNe, Nat.reduceAdd, Nat.reduceMul, Nat.reduceLeDiff, Int.reduceLT, Int.reduceSub, Int.reduceAdd, hfd, hcd]
    | ((first | refine atC ?_ ?_ | refine atG ?_ ?_ | refine atH ?_ ?_ | refine atP ?_ ?_) <;> intro hc <;> (try rw [hc]) <;> (try simp only [BD] at hc) <;> try (exfalso; omega))
    | ((first
      | (refine Runs.call (lives_r _) ?_; rintro _ _ ⟨rfl, rfl⟩)
      | (refine Runs.call (l_TakeZ (p := h.next + 1) (hV.grow qg) hy qo qs) ?_; rintro _ HT ⟨rfl, gr⟩; have hgT : HT.get (h.next + 1) = some (.cells [.int .u8 0, .int .u32 0, .int .u64 0, .nilsl] false) := gr.get qs)
      | (refine Runs.call (l_OutZ qs) ?_; rintro _ HO ⟨rfl, gr⟩; have hgO : HO.get (h.next + 1) = some (.cells [.int .u8 0, .int .u32 0, .int .u64 0, .nilsl] false) := gr.get qs)
      | (refine Runs.call (l_DueZ qs) ?_; rintro _ HD ⟨rfl, gr⟩; have hgD : HD.get (h.next + 1) = some (.cells [.int .u8 0, .int .u32 0, .int .u64 0, .nilsl] false) := gr.get qs)
      | (refine Runs.call (l_CallZ z (hd.grow qg) now qs) ?_; rintro _ HC ⟨rfl, gr⟩; have hgC : HC.get (h.next + 1) = some (.cells [.int .u8 0, .int .u32 0, .int .u64 0, .nilsl] false) := gr.get qs)
      | (refine Runs.call (l_TickZ now hgC) ?_; rintro _ _ ⟨rfl, rfl⟩)
      | (refine Runs.call (l_SeqZ hgC) ?_; rintro _ _ ⟨rfl, rfl⟩)
      | fail); all_goals ((try (have gn := gr.1; try simp only [nx_alloc, nx_set] at gn)); (try (have an := ha.num; try simp only [nx_alloc, nx_set, own_sl, own_nil] at an)); (try (have on := hO.num; try simp only [nx_alloc, nx_set] at on)); (try (have kn := hk.1; try simp only [nx_alloc, nx_set] at kn)); try have hB := hO.at)))
  all_goals try (first
    | (refine hK _ _ ?_; (first | rfl | fail); done)
    | fail)
theorem nb : Bytes ([] : List Int) := fun c hc => nomatch hc
theorem LnOut.grow {H H' : Heap} {p : Nat} {z : Cl} {t wt sn : Int} (L : LnOut H p z t wt sn) (g : Grow H H') : LnOut H' p z t wt sn := by
  obtain ⟨s, b, cap, ex, rest, hg, hs, hb, h1, h2, hz, h3⟩ := L
  exact ⟨s, b, cap, ex, rest, g.get hg, g.get hs, g.get hb, h1, h2, hz.grow g, h3⟩
theorem LnOut.lt {H : Heap} {p : Nat} {z : Cl} {t wt sn : Int} (L : LnOut H p z t wt sn) : p < H.next := by
  obtain ⟨s, b, cap, ex, rest, hg, _⟩ := L
  exact Heap.lt_of_get hg
theorem t3 : tab 3 = some ⟨118, [.tmp 4], b3⟩ := rfl
theorem wf_u32 {i : Int} (h : wfInt .u32 i = true) : 0 ≤ i ∧ i ≤ 4294967295 := by
  simpa [wfInt, IntKind.signed, IntKind.bits, IntKind.min, IntKind.max] using h
theorem wf_u64 {i : Int} (h : wfInt .u64 i = true) : 0 ≤ i ∧ i ≤ 18446744073709551615 := by
  simpa [wfInt, IntKind.signed, IntKind.bits, IntKind.min, IntKind.max] using h
theorem cells_hdl {N k : Nat} {h h' : Heap} {cs : List AV} (hx : cellsX Tryd.prog N (k + 2) 25 h cs h') : ∃ i g, cs = [.int .u32 i, .int .u32 g] ∧ (0 ≤ i ∧ i ≤ 4294967295) ∧ (0 ≤ g ∧ g ≤ 4294967295) ∧ h' = h := by
  obtain ⟨as6, hq, rfl⟩ := cellsX_struct Tryd.underlying25 hx
  obtain ⟨f1, r, m1, rfl, j1, hq⟩ := listX_cons hq
  obtain ⟨f2, r, m2, rfl, j2, hq⟩ := listX_cons hq
  obtain ⟨rfl, rfl⟩ := listX_nil hq
  obtain ⟨ino, rfl, w5, rfl⟩ := cellsX_int Tryd.underlying22 j1
  obtain ⟨gen, rfl, w6, rfl⟩ := cellsX_int Tryd.underlying22 j2
  exact ⟨ino, gen, rfl, wf_u32 w5, wf_u32 w6, rfl⟩
theorem arg_cl {N k : Nat} (hN : N ≤ 2000000) {h h' : Heap} {a : AV} (hx : argX Tryd.prog N (k + 4) 28 h a h') : ∃ z : Cl, a = .agg [.int .u8 z.client, .int .u32 z.inc, .int .u64 z.seq, .int .u8 z.kind, .int .u32 z.hi, .int .u32 z.hg, .str z.name, .int .u32 z.ti, .int .u32 z.tg, .str z.toName, .int .u32 z.off, .int .u32 z.size, z.dv] ∧ ClAt h' z ∧ ClOk z ∧ Grow h h' := by
  obtain ⟨ass, hl, rfl⟩ := argX_struct Tryd.underlying28 hx
  obtain ⟨c1, r, h1, rfl, e1, hl⟩ := listX_cons hl
  obtain ⟨c2, r, h2, rfl, e2, hl⟩ := listX_cons hl
  obtain ⟨c3, r, h3, rfl, e3, hl⟩ := listX_cons hl
  obtain ⟨c4, r, h4, rfl, e4, hl⟩ := listX_cons hl
  obtain ⟨c5, r, h5, rfl, e5, hl⟩ := listX_cons hl
  obtain ⟨c6, r, h6, rfl, e6, hl⟩ := listX_cons hl
  obtain ⟨c7, r, h7, rfl, e7, hl⟩ := listX_cons hl
  obtain ⟨c8, r, h8, rfl, e8, hl⟩ := listX_cons hl
  obtain ⟨c9, r, h9, rfl, e9, hl⟩ := listX_cons hl
  obtain ⟨c10, r, h10, rfl, e10, hl⟩ := listX_cons hl
  obtain ⟨c11, r, h11, rfl, e11, hl⟩ := listX_cons hl
  obtain ⟨rfl, rfl⟩ := listX_nil hl
  obtain ⟨client, rfl, w1, rfl⟩ := cellsX_int Tryd.underlying5 e1
  obtain ⟨inc, rfl, w2, rfl⟩ := cellsX_int Tryd.underlying22 e2
  obtain ⟨seq, rfl, w3, rfl⟩ := cellsX_int Tryd.underlying23 e3
  obtain ⟨kind, rfl, w4, rfl⟩ := cellsX_int Tryd.underlying5 e4
  obtain ⟨hi, hg, rfl, w5, w6, rfl⟩ := cells_hdl e5
  obtain ⟨name, rfl, w7, n7, rfl⟩ := cellsX_string Tryd.underlying9 e6
  obtain ⟨ti, tg, rfl, w8, w9, rfl⟩ := cells_hdl e7
  obtain ⟨toName, rfl, w10, n10, rfl⟩ := cellsX_string Tryd.underlying9 e8
  obtain ⟨off, rfl, w11, rfl⟩ := cellsX_int Tryd.underlying22 e9
  obtain ⟨size, rfl, w12, rfl⟩ := cellsX_int Tryd.underlying22 e10
  obtain ⟨dv, data, rfl, b1, b2, b3, g1⟩ := cells_bytes Tryd.underlying26 Tryd.underlying5 (by kernel_rfl) e11
  exact ⟨⟨client, inc, seq, kind, hi, hg, name, ti, tg, toName, off, size, dv, data⟩, rfl, ⟨b1, b2, wf_bytes w7, wf_bytes w10, Nat.le_trans b3 hN, Nat.le_trans n7 hN, Nat.le_trans n10 hN⟩,
    ⟨wf_u8 w1, wf_u32 w2, wf_u64 w3, wf_u8 w4, w5, w6, w8, w9, wf_u32 w11, wf_u32 w12⟩, g1⟩
theorem run_Nil (N : Nat) (hN : N ≤ 1048576) : ∀ h xs, (∀ l, AV.str l ∈ xs → l.length ≤ 9223372036854775807) → argsT Tryd.prog N h 6 Tryd.f4.params.toList xs → argsX Tryd.prog N 6 Tryd.f4.params.toList emptyHeap xs h →
    ∃ n h', acall X1 tab n (.fn 4) xs h = some (.bool true, h') ∨ (AV.bares xs = true ∧ acall X1 tab n (.fn 4) xs emptyHeap = some (.bool true, h')) := by
  intro h xs hs _ hx
  rw [Tryd.params4] at hx
  obtain ⟨A, _, h1, rfl, e1, hx⟩ := argsX_cons hx
  obtain ⟨K, _, h2, rfl, e2, hx⟩ := argsX_cons hx
  obtain ⟨B, _, h3, rfl, e3, hx⟩ := argsX_cons hx
  obtain ⟨Z, _, h4, rfl, e4, hx⟩ := argsX_cons hx
  obtain ⟨rfl, rfl⟩ := argsX_nil hx
  obtain ⟨a, rfl, a1, a2, g1⟩ := arg_cl qo e1
  obtain ⟨k, rfl, w1, rfl⟩ := argX_int Tryd.underlying23 e2
  obtain ⟨bs, b1, b2, b3, g3⟩ := arg_bytes Tryd.underlying26 Tryd.underlying5 (by kernel_rfl) e3
  obtain ⟨z, rfl, rfl⟩ := argX_bool Tryd.underlying4 e4
  have e : ∃ v h', xcall X1 tab (.fn 4) [.agg [.int .u8 a.client, .int .u32 a.inc, .int .u64 a.seq, .int .u8 a.kind, .int .u32 a.hi, .int .u32 a.hg, .str a.name, .int .u32 a.ti, .int .u32 a.tg, .str a.toName, .int .u32 a.off, .int .u32 a.size, a.dv], .int .u64 k, B, .bool z] h = some (v, h') ∧ v = .bool true := by
    cases z
    · exact go_NilN a (a1.grow g3) b1 b2 qo
    · exact go_NilZ a (a1.grow g3) b1 b2 qo
  obtain ⟨v, h', e, rfl⟩ := e
  exact ranX e
end Go.Proofs.YtpoccinfeekdhaaDoor.Ya
