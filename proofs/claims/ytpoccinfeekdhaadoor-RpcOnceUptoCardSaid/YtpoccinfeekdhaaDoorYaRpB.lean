/-
  Lines: calls, ticks, replies.
-/
import Derived.Test.YtpoccinfeekdhaaDoorYaRpA
import Derived.Test.YtpoccinfeekdhaaDoorYbL
namespace Go.Proofs.YtpoccinfeekdhaaDoor.Ya
open Go.Ya Go.Ya.Na
set_option linter.unusedVariables false
set_option linter.unusedSimpArgs false
set_option maxRecDepth 100000
set_option maxHeartbeats 8000000
abbrev wO (z : Cl) (w : AV) : Cl := { z with client := 1, inc := 7, seq := 1, dv := w }
theorem may_wO (z : Cl) (w : AV) : mayC (wO z w) = mayC (wO z .nilsl) := mayC_en rfl
theorem ok_wO {z : Cl} (w : AV) (ho : ClOk z) : ClOk (wO z w) := by
  obtain ⟨o1, o2, o3, o4, o5, o6, o7, o8, o9, o10⟩ := ho
  exact ⟨(by decide : (0 : Int) ≤ 1 ∧ (1 : Int) ≤ 255), (by decide : (0 : Int) ≤ 7 ∧ (7 : Int) ≤ 4294967295), (by decide : (0 : Int) ≤ 1 ∧ (1 : Int) ≤ 18446744073709551615), o4, o5, o6, o7, o8, o9, o10⟩
def LnOut (H : Heap) (p : Nat) (z : Cl) (t wt sn : Int) : Prop := ∃ s b cap ex rest, H.get p = some (.cells [.int .u8 1, .int .u32 7, .int .u64 1, .slice s 0 1 cap ex 1] false) ∧ H.get s = some (.cells (.ptr b 0 :: rest) false) ∧ H.get b = some (.cells [.int .u8 z.client, .int .u32 z.inc, .int .u64 z.seq, .int .u8 z.kind, .int .u32 z.hi, .int .u32 z.hg, .str z.name, .int .u32 z.ti, .int .u32 z.tg, .str z.toName, .int .u32 z.off, .int .u32 z.size, z.dv, .int .u64 t, .int .u64 wt, .int .i64 sn] false) ∧ p < b ∧ b < s ∧ ClAt H z ∧ own z.dv ≤ b
theorem min16 {k : Int} : minA (.int .u64 k) [.int .u64 16] = some (.int .u64 (min k 16)) := by
  simp only [minA, if_true]
  congr 2
  split <;> omega
theorem t6 : tab 6 = some ⟨61, [.tmp 6], b6⟩ := rfl
theorem l_Call (z : Cl) {h : Heap} {p : Nat} (hz : ClAt h z) (ho : ClOk z) (hg : h.get p = some (.cells [.int .u8 1, .int .u32 7, .int .u64 0, .nilsl] false)) : Runs (xcall X1 tab (.fn 6) [.ptr p 0, .agg [.int .u8 z.client, .int .u32 z.inc, .int .u64 z.seq, .int .u8 z.kind, .int .u32 z.hi, .int .u32 z.hg, .str z.name, .int .u32 z.ti, .int .u32 z.tg, .str z.toName, .int .u32 z.off, .int .u32 z.size, z.dv], .int .u64 0] h) fun v h' => (mayC (wO z .nilsl) = false ∧ v = .int .i64 2 ∧ Grow h h') ∨ (mayC (wO z .nilsl) = true ∧ v = .int .i64 0 ∧ ∃ w, LnOut h' p (wO z w) 0 2 0 ∧ Pok p h h') := by
  refine Runs.intro fun K hK => ?_
  have hz0 := hz
  have ho0 := ho
  obtain ⟨o1, o2, o3, o4, o5, o6, o7, o8, o9, o10⟩ := id ho
  obtain ⟨hd, hyd, hyn, hyt, ld, ln, lt⟩ := id hz
  have hfd := BytesAt.flat' hd
  have hcd := cells_of hfd
  have hplt := Heap.lt_of_get hg
  rw [w_fn rfl t6 (Nat.le_of_ble_eq_true rfl)]
  delta b6
  repeat' (first
    | simp (disch := first | exact qd | fail) only [WB, ↓WP, ↓WL, WR, WC, if_true, if_false, ite_true, ite_false, aop, ev, evs, readsA, List.replicate, numF, unA, resA, tupA, loadA, storeA, splice, fillA, kindsOk, plainEq, ↓reduceIte, Nat.reduceEqDiff, Nat.reduceLT, Int.reduceToNat, Int.reduceBEq, Int.reduceBNe, Nat.reduceAdd, Nat.reduceMul, Nat.reduceLeDiff, Int.reduceLT, Int.reduceSub, Int.reduceAdd, hfd, hcd, hg, may_wO]
    | ((first | refine atC ?_ ?_ | refine atG ?_ ?_ | refine atH ?_ ?_ | refine atP ?_ ?_) <;> intro hc <;> (try rw [hc]) <;> (try simp only [BD] at hc) <;> try (exfalso; omega))
    | ((first
      | (refine Runs.call (l_none ((Grow.alloc _ _).get hg)) ?_; rintro _ _ ⟨rfl, rfl⟩)
      | (refine Runs.call (bytes_Clone (hd.grow qg) qo) ?_; rintro w H1 ⟨gr, hN, hz9⟩; have hn := NewBytes.nbt hN; (simp only [nx_alloc] at hn); have hbw := hn.at; have hfw := BytesAt.flat' hbw; have hcw := cells_of hfw; have hnn := hn.num; have hg1 : H1.get p = some (.cells [.int .u8 1, .int .u32 7, .int .u64 0, .nilsl] false) := gr.get ((Grow.alloc _ _).get hg); have hx1 : H1.get h.next = some (.cells [.int .u8 z.client, .int .u32 z.inc, .int .u64 z.seq, .int .u8 z.kind, .int .u32 z.hi, .int .u32 z.hg, .str z.name, .int .u32 z.ti, .int .u32 z.tg, .str z.toName, .int .u32 z.off, .int .u32 z.size, z.dv] false) := gr.get (ga_new rfl); have gh1 : Grow h H1 := (Grow.alloc _ _).trans gr)
      | (refine Runs.call (k_May (wO z w) ⟨NBt.at (hn.keep (fun j a b => qs)), hyd, hyn, hyt, ld, ln, lt⟩ (ok_wO w ho0)) ?_; rintro _ H2 ⟨rfl, gr⟩; have hx2 : H2.get h.next = some (.cells [.int .u8 (wO z w).client, .int .u32 (wO z w).inc, .int .u64 (wO z w).seq, .int .u8 (wO z w).kind, .int .u32 (wO z w).hi, .int .u32 (wO z w).hg, .str (wO z w).name, .int .u32 (wO z w).ti, .int .u32 (wO z w).tg, .str (wO z w).toName, .int .u32 (wO z w).off, .int .u32 (wO z w).size, (wO z w).dv] false) := qs; have hg2 : H2.get p = some (.cells [.int .u8 1, .int .u32 7, .int .u64 0, .nilsl] false) := qs; have hn2 : NBt (h.next + 1) H1.next H2 w z.data := hn.keep (fun j a b => qs); have gh2 : Grow h H2 := qg)
      | (refine Runs.call (hp_Push (cl := 1) (inc := 7) (sq := 1) (b := H2.next) qs) ?_; rintro _ H3 ⟨s, cap, ex, rest, hs1, hg3, hs3, k3⟩; have n3 := k3.1; (simp only [nx_alloc, nx_set] at n3 hs1))
      | fail); all_goals ((try (have gn := gr.1; try simp only [nx_alloc, nx_set] at gn)); (try (have an := ha.num; try simp only [nx_alloc, nx_set, own_sl, own_nil] at an)); (try (have on := hO.num; try simp only [nx_alloc, nx_set] at on)); (try (have kn := hk.1; try simp only [nx_alloc, nx_set] at kn)); try have hB := hO.at)))
  all_goals try (first
    | (refine hK _ _ ?_; (first
        | exact .inl ⟨(by first | assumption | (rw [← may_wO z w]; assumption)), rfl, qg⟩
        | exact .inr ⟨(by first | assumption | (rw [← may_wO z w]; assumption)), rfl, w, ⟨s, H2.next, cap, ex, rest, hg3, hs3, qs, by omega, by omega, ⟨NBt.at (hn2.keep (fun j a b => qs)), hyd, hyn, hyt, ld, ln, lt⟩, by (show own w ≤ H2.next); omega⟩, ⟨by omega, fun j a b => qs⟩⟩
        | fail); done)
    | fail)
theorem t8 : tab 8 = some ⟨81, [.tmp 4], b8⟩ := rfl
theorem l_Tick {h : Heap} {p : Nat} {z : Cl} {t wt sn now : Int} (L : LnOut h p z t wt sn) (hm : mayC z = true) (ho : ClOk z) (hn : 0 ≤ now ∧ now ≤ 1000) (hw : 2 ≤ wt ∧ wt ≤ 16) (hsn : 0 ≤ sn ∧ sn ≤ 1000) : Runs (xcall X1 tab (.fn 8) [.ptr p 0, .int .u64 now] h) fun v h' => (now < t ∧ v = .nilsl ∧ h = h') ∨ (t ≤ now ∧ LnOut h' p z (now + wt) (min (2 * wt) 16) (sn + 1) ∧ NewBytes h h' v (encC z)) := by
  refine Runs.intro fun K hK => ?_
  have ho0 := ho
  obtain ⟨s, b, cap, ex, rest, hg, hs, hb, hpb, hbs, hz, hzo⟩ := L
  have hz0 := hz
  have hd := hz.1
  have hfd := BytesAt.flat' hd
  have hcd := cells_of hfd
  have hblt := Heap.lt_of_get hb
  have hslt := Heap.lt_of_get hs
  have hplt := Heap.lt_of_get hg
  have hpe := (putC_is hm).2
  have hzs : ∀ H, Pok b h H → ClAt H z := fun H k => ⟨BytesAt.pok hd k hzo, hz.2⟩
  rw [w_fn rfl t8 (Nat.le_of_ble_eq_true rfl)]
  delta b8
  repeat' (first
    | simp (disch := first | exact qd | fail) only [WB, ↓WP, ↓WL, WR, WC, if_true, if_false, ite_true, ite_false, aop, ev, evs, readsA, List.replicate, numF, unA, resA, tupA, loadA, storeA, splice, fillA, kindsOk, plainEq, ↓reduceIte, Nat.reduceEqDiff, Nat.reduceLT, Int.reduceToNat, Int.reduceBEq, Int.reduceBNe, Nat.reduceAdd, Nat.reduceMul, Nat.reduceLeDiff, Int.reduceLT, Int.reduceSub, Int.reduceAdd, hg, hs, hb, hfd, hcd, min16]
    | ((first | refine atC ?_ ?_ | refine atG ?_ ?_ | refine atH ?_ ?_ | refine atP ?_ ?_) <;> intro hc <;> (try rw [hc]) <;> (try simp only [BD] at hc) <;> try (exfalso; omega))
    | ((first
      | (refine Runs.call (l_none hg) ?_; rintro _ _ ⟨rfl, rfl⟩)
      | (refine Runs.call (hp_Fix (cl := 1) (inc := 7) (sq := 1) (s := s) (b := b) (cap := cap) (ex := ex) (rest := rest) qs qs) ?_; rintro _ _ rfl)
      | (refine Runs.call (k_Put z (hzs _ qp) ho0) ?_; rintro _ H2 ⟨gr, q, rfl, hq⟩; rw [hpe] at hq; have hqa := NewBytes.at hq; have hfq := BytesAt.flat' hqa; have hcq := cells_of hfq)
      | fail); all_goals ((try (have gn := gr.1; try simp only [nx_alloc, nx_set] at gn)); (try (have an := ha.num; try simp only [nx_alloc, nx_set, own_sl, own_nil] at an)); (try (have on := hO.num; try simp only [nx_alloc, nx_set] at on)); (try (have kn := hk.1; try simp only [nx_alloc, nx_set] at kn)); try have hB := hO.at)))
  all_goals try (first
    | (refine hK _ _ ?_; (first
        | exact .inl ⟨by omega, rfl, rfl⟩
        | exact .inr ⟨by omega, ⟨s, b, cap, ex, rest, gr.get qs, gr.get qs, gr.get qs, hpb, hbs, (hzs _ qp).grow gr, hzo⟩, NewBytes.le hq (by simp only [nx_set]; omega)⟩
        | fail); done)
    | fail)
theorem t10 : tab 10 = some ⟨67, [.cell 4 true 13, .cell 5 true 13, .tmp 6], b10⟩ := rfl
theorem l_TakeE {h : Heap} {bs : List Int} {V : AV} (hv : BytesAt h V bs) (hy : Bytes bs) (hl : bs.length ≤ 2000000) {p s cap : Nat} {ex : Bool} (hg : h.get p = some (.cells [.int .u8 1, .int .u32 7, .int .u64 1, .slice s 0 0 cap ex 1] false)) : Runs (xcall X1 tab (.fn 10) [.ptr p 0, V] h) fun v h' => v = .tuple [.agg [.int .u8 0, .int .u32 0, .int .u64 0, .int .u8 0, .int .u32 0, .int .u32 0, .str [], .int .u32 0, .int .u32 0, .str [], .int .u32 0, .int .u32 0, .nilsl], .agg [.int .u8 0, .int .u32 0, .int .u64 0, .int .u8 0, .int .u32 0, .int .u32 0, .bool false, .int .u32 0, .int .u64 0, .int .u64 0, .nilsl, .nilsl, .int .u32 0], .bool false] ∧ Grow h h' := by
  refine Runs.intro fun K hK => ?_
  obtain ⟨d, hd⟩ := B.hd_ex hy
  have hplt := Heap.lt_of_get hg
  rw [w_fn rfl t10 (Nat.le_of_ble_eq_true rfl)]
  delta b10
  repeat' (first
    | simp (disch := first | exact qd | fail) only [WB, ↓WP, ↓WL, WR, WC, if_true, if_false, ite_true, ite_false, aop, ev, evs, readsA, List.replicate, numF, unA, resA, tupA, loadA, storeA, splice, fillA, kindsOk, plainEq, ↓reduceIte, Nat.reduceEqDiff, Nat.reduceLT, Int.reduceToNat, Int.reduceBEq, Int.reduceBNe, Nat.reduceAdd, Nat.reduceMul, Nat.reduceLeDiff, Int.reduceLT, Int.reduceSub, Int.reduceAdd, ne_eq, hg]
    | ((first | refine atC ?_ ?_ | refine atG ?_ ?_ | refine atH ?_ ?_ | refine atP ?_ ?_) <;> intro hc <;> (try rw [hc]) <;> (try simp only [BD] at hc) <;> try (exfalso; omega))
    | ((first
      | (refine Runs.call (B.k_GetR (hv.grow qg) hy qo hd) ?_; rintro _ H1 ⟨gr, z1, m1, rfl, e1, hn1, ho1, hm1, hm1b, hzo1, hz1⟩; have hzd1 := hz1.1; have hzn1 := hz1.2.1; have hx4 : H1.get h.next = some (.cells [.int .u8 0, .int .u32 0, .int .u64 0, .int .u8 0, .int .u32 0, .int .u32 0, .str [], .int .u32 0, .int .u32 0, .str [], .int .u32 0, .int .u32 0, .nilsl] false) := gr.get qs; have hx5 : H1.get (h.next + 1) = some (.cells [.int .u8 0, .int .u32 0, .int .u64 0, .int .u8 0, .int .u32 0, .int .u32 0, .bool false, .int .u32 0, .int .u64 0, .int .u64 0, .nilsl, .nilsl, .int .u32 0] false) := gr.get qs; have hg1 : H1.get p = some (.cells [.int .u8 1, .int .u32 7, .int .u64 1, .slice s 0 0 cap ex 1] false) := qs)
      | (refine Runs.call (l_none (cl := 1) (inc := 7) (sq := 1) (o := .slice s 0 0 cap ex 1) qs) ?_; rintro _ _ ⟨rfl, rfl⟩)
      | fail); all_goals ((try (have gn := gr.1; try simp only [nx_alloc, nx_set] at gn)); (try (have an := ha.num; try simp only [nx_alloc, nx_set, own_sl, own_nil] at an)); (try (have on := hO.num; try simp only [nx_alloc, nx_set] at on)); (try (have kn := hk.1; try simp only [nx_alloc, nx_set] at kn)); try have hB := hO.at)))
  all_goals try (first
    | (refine hK _ _ ?_; exact ⟨rfl, qg⟩; done)
    | fail)
theorem l_TakeB {h : Heap} {p : Nat} {z : Cl} {t wt sn : Int} (L : LnOut h p z t wt sn) (y : B.Bk) {V : AV} (oy : B.BkOk y) (my : B.mayB y = true) (yd : Bytes y.data) (yn : B.AllY y.names) (hv : BytesAt h V (B.encP y)) (h1 : y.client = 1) (h2 : y.inc = 7) (h3 : ¬ y.seq = 1) : Runs (xcall X1 tab (.fn 10) [.ptr p 0, V] h) fun v h' => v = .tuple [.agg [.int .u8 0, .int .u32 0, .int .u64 0, .int .u8 0, .int .u32 0, .int .u32 0, .str [], .int .u32 0, .int .u32 0, .str [], .int .u32 0, .int .u32 0, .nilsl], .agg [.int .u8 0, .int .u32 0, .int .u64 0, .int .u8 0, .int .u32 0, .int .u32 0, .bool false, .int .u32 0, .int .u64 0, .int .u64 0, .nilsl, .nilsl, .int .u32 0], .bool false] ∧ Grow h h' := by
  refine Runs.intro fun K hK => ?_
  obtain ⟨s, b, cap, ex, rest, hg, hs, hb, hpb, hbs, hz, hzo⟩ := L
  have hd := hz.1
  have hfd := BytesAt.flat' hd
  have hcd := cells_of hfd
  have hblt := Heap.lt_of_get hb
  have hslt := Heap.lt_of_get hs
  have hplt := Heap.lt_of_get hg
  have hy := B.encP_by yd yn
  have hl := B.encP_le my
  obtain ⟨d, hdd⟩ := B.hd_ex hy
  obtain ⟨hE, hP⟩ := B.got_enc0 oy my hdd
  rw [w_fn rfl t10 (Nat.le_of_ble_eq_true rfl)]
  delta b10
  repeat' (first
    | simp (disch := first | exact qd | fail) only [WB, ↓WP, ↓WL, WR, WC, if_true, if_false, ite_true, ite_false, aop, ev, evs, readsA, List.replicate, numF, unA, resA, tupA, loadA, storeA, splice, fillA, kindsOk, plainEq, ↓reduceIte, Nat.reduceEqDiff, Nat.reduceLT, Int.reduceToNat, Int.reduceBEq, Int.reduceBNe, Nat.reduceAdd, Nat.reduceMul, Nat.reduceLeDiff, Int.reduceLT, Int.reduceSub, Int.reduceAdd, ne_eq, hfd, hcd, assertA]
    | ((first | refine atC ?_ ?_ | refine atG ?_ ?_ | refine atH ?_ ?_ | refine atP ?_ ?_) <;> intro hc <;> (try rw [hc]) <;> (try simp only [BD] at hc) <;> try (exfalso; omega))
    | ((first
      | (refine Runs.call (B.k_GetR (hv.grow qg) hy qo hdd) ?_; rintro _ H1 ⟨gr, z1, m1, rfl, e1, hn1, ho1, hm1, hm1b, hzo1, hz1⟩; rw [hE]; have e9 := e1.trans hP; have ez1 : z1.client = 1 := (congrArg B.Bk.client e9 : z1.en.client = y.en.client).trans h1; have ez2 : z1.inc = 7 := (congrArg B.Bk.inc e9 : z1.en.inc = y.en.inc).trans h2; have ez3 : z1.seq = y.seq := (congrArg B.Bk.seq e9 : z1.en.seq = y.en.seq); have hzd1 := hz1.1; have hzn1 := hz1.2.1; have hx4 : H1.get h.next = some (.cells [.int .u8 0, .int .u32 0, .int .u64 0, .int .u8 0, .int .u32 0, .int .u32 0, .str [], .int .u32 0, .int .u32 0, .str [], .int .u32 0, .int .u32 0, .nilsl] false) := gr.get qs; have hx5 : H1.get (h.next + 1) = some (.cells [.int .u8 0, .int .u32 0, .int .u64 0, .int .u8 0, .int .u32 0, .int .u32 0, .bool false, .int .u32 0, .int .u64 0, .int .u64 0, .nilsl, .nilsl, .int .u32 0] false) := gr.get qs; have hg1 : H1.get p = some (.cells [.int .u8 1, .int .u32 7, .int .u64 1, .slice s 0 1 cap ex 1] false) := qs; have hs1 : H1.get s = some (.cells (.ptr b 0 :: rest) false) := qs; have hb1 : H1.get b = some (.cells [.int .u8 z.client, .int .u32 z.inc, .int .u64 z.seq, .int .u8 z.kind, .int .u32 z.hi, .int .u32 z.hg, .str z.name, .int .u32 z.ti, .int .u32 z.tg, .str z.toName, .int .u32 z.off, .int .u32 z.size, z.dv, .int .u64 t, .int .u64 wt, .int .i64 sn] false) := qs)
      | (refine Runs.call (l_none (cl := 1) (inc := 7) (sq := 1) (o := .slice s 0 1 cap ex 1) qs) ?_; rintro _ _ ⟨rfl, rfl⟩)
      | (refine Runs.call (hp_Pop (cl := 1) (inc := 7) (sq := 1) (s := s) (b := b) (cap := cap) (ex := ex) (rest := rest) qs qs qo) ?_; rintro _ H2 ⟨rfl, hg2, k2⟩; have n2 := k2.1; (try simp only [nx_alloc, nx_set] at n2))
      | fail); all_goals ((try (have gn := gr.1; try simp only [nx_alloc, nx_set] at gn)); (try (have an := ha.num; try simp only [nx_alloc, nx_set, own_sl, own_nil] at an)); (try (have on := hO.num; try simp only [nx_alloc, nx_set] at on)); (try (have kn := hk.1; try simp only [nx_alloc, nx_set] at kn)); try have hB := hO.at)))
  all_goals try (first
    | (refine hK _ _ ?_; exact ⟨rfl, qg⟩; done)
    | fail)
theorem l_TakeG {h : Heap} {p : Nat} {z : Cl} {t wt sn : Int} (L : LnOut h p z t wt sn) (y : B.Bk) {V : AV} (oy : B.BkOk y) (my : B.mayB y = true) (yd : Bytes y.data) (yn : B.AllY y.names) (hv : BytesAt h V (B.encP y)) (h1 : y.client = 1) (h2 : y.inc = 7) (h3 : y.seq = 1) : Runs (xcall X1 tab (.fn 10) [.ptr p 0, V] h) fun v h' => ∃ (x : Cl) (r : B.Bk), v = .tuple [.agg [.int .u8 x.client, .int .u32 x.inc, .int .u64 x.seq, .int .u8 x.kind, .int .u32 x.hi, .int .u32 x.hg, .str x.name, .int .u32 x.ti, .int .u32 x.tg, .str x.toName, .int .u32 x.off, .int .u32 x.size, x.dv], .agg [.int .u8 r.client, .int .u32 r.inc, .int .u64 r.seq, .int .u8 r.status, .int .u32 r.ino, .int .u32 r.gen, .bool r.dir, .int .u32 r.size, .int .u64 r.change, .int .u64 r.before, r.dv, r.nv, .int .u32 r.boot], .bool true] ∧ x.dv.flat = true ∧ r.dv.flat = true ∧ r.nv.flat = true ∧ Pok p h h' ∧ ∃ s cap ex, h'.get p = some (.cells [.int .u8 1, .int .u32 7, .int .u64 1, .slice s 0 0 cap ex 1] false) := by
  refine Runs.intro fun K hK => ?_
  obtain ⟨s, b, cap, ex, rest, hg, hs, hb, hpb, hbs, hz, hzo⟩ := L
  have hd := hz.1
  have hfd := BytesAt.flat' hd
  have hcd := cells_of hfd
  have hblt := Heap.lt_of_get hb
  have hslt := Heap.lt_of_get hs
  have hplt := Heap.lt_of_get hg
  have hy := B.encP_by yd yn
  have hl := B.encP_le my
  obtain ⟨d, hdd⟩ := B.hd_ex hy
  obtain ⟨hE, hP⟩ := B.got_enc0 oy my hdd
  rw [w_fn rfl t10 (Nat.le_of_ble_eq_true rfl)]
  delta b10
  repeat' (first
    | simp (disch := first | exact qd | fail) only [WB, ↓WP, ↓WL, WR, WC, if_true, if_false, ite_true, ite_false, aop, ev, evs, readsA, List.replicate, numF, unA, resA, tupA, loadA, storeA, splice, fillA, kindsOk, plainEq, ↓reduceIte, Nat.reduceEqDiff, Nat.reduceLT, Int.reduceToNat, Int.reduceBEq, Int.reduceBNe, Nat.reduceAdd, Nat.reduceMul, Nat.reduceLeDiff, Int.reduceLT, Int.reduceSub, Int.reduceAdd, ne_eq, hfd, hcd, assertA]
    | ((first | refine atC ?_ ?_ | refine atG ?_ ?_ | refine atH ?_ ?_ | refine atP ?_ ?_) <;> intro hc <;> (try rw [hc]) <;> (try simp only [BD] at hc) <;> try (exfalso; omega))
    | ((first
      | (refine Runs.call (B.k_GetR (hv.grow qg) hy qo hdd) ?_; rintro _ H1 ⟨gr, z1, m1, rfl, e1, hn1, ho1, hm1, hm1b, hzo1, hz1⟩; rw [hE]; have e9 := e1.trans hP; have ez1 : z1.client = 1 := (congrArg B.Bk.client e9 : z1.en.client = y.en.client).trans h1; have ez2 : z1.inc = 7 := (congrArg B.Bk.inc e9 : z1.en.inc = y.en.inc).trans h2; have ez3 : z1.seq = y.seq := (congrArg B.Bk.seq e9 : z1.en.seq = y.en.seq); have hzd1 := hz1.1; have hzn1 := hz1.2.1; have hx4 : H1.get h.next = some (.cells [.int .u8 0, .int .u32 0, .int .u64 0, .int .u8 0, .int .u32 0, .int .u32 0, .str [], .int .u32 0, .int .u32 0, .str [], .int .u32 0, .int .u32 0, .nilsl] false) := gr.get qs; have hx5 : H1.get (h.next + 1) = some (.cells [.int .u8 0, .int .u32 0, .int .u64 0, .int .u8 0, .int .u32 0, .int .u32 0, .bool false, .int .u32 0, .int .u64 0, .int .u64 0, .nilsl, .nilsl, .int .u32 0] false) := gr.get qs; have hg1 : H1.get p = some (.cells [.int .u8 1, .int .u32 7, .int .u64 1, .slice s 0 1 cap ex 1] false) := qs; have hs1 : H1.get s = some (.cells (.ptr b 0 :: rest) false) := qs; have hb1 : H1.get b = some (.cells [.int .u8 z.client, .int .u32 z.inc, .int .u64 z.seq, .int .u8 z.kind, .int .u32 z.hi, .int .u32 z.hg, .str z.name, .int .u32 z.ti, .int .u32 z.tg, .str z.toName, .int .u32 z.off, .int .u32 z.size, z.dv, .int .u64 t, .int .u64 wt, .int .i64 sn] false) := qs)
      | (refine Runs.call (l_none (cl := 1) (inc := 7) (sq := 1) (o := .slice s 0 1 cap ex 1) qs) ?_; rintro _ _ ⟨rfl, rfl⟩)
      | (refine Runs.call (hp_Pop (cl := 1) (inc := 7) (sq := 1) (s := s) (b := b) (cap := cap) (ex := ex) (rest := rest) qs qs qo) ?_; rintro _ H2 ⟨rfl, hg2, k2⟩; have n2 := k2.1; (try simp only [nx_alloc, nx_set] at n2))
      | fail); all_goals ((try (have gn := gr.1; try simp only [nx_alloc, nx_set] at gn)); (try (have an := ha.num; try simp only [nx_alloc, nx_set, own_sl, own_nil] at an)); (try (have on := hO.num; try simp only [nx_alloc, nx_set] at on)); (try (have kn := hk.1; try simp only [nx_alloc, nx_set] at kn)); try have hB := hO.at)))
  all_goals try (first
    | (refine hK _ _ ?_; exact ⟨z, z1, rfl, hfd, BytesAt.flat' hzd1, hzn1.flat, ⟨by (simp only [nx_alloc, nx_set]); omega, fun j a b => qs⟩, s, cap, ex, qs⟩; done)
    | fail)
theorem t11 : tab 11 = some ⟨30, [.cell 2 true 16, .tmp 3], b11⟩ := rfl
theorem t12 : tab 12 = some ⟨14, [.tmp 2, .tmp 3], b12⟩ := rfl
theorem t13 : tab 13 = some ⟨9, [.tmp 2], b13⟩ := rfl
end Go.Proofs.YtpoccinfeekdhaaDoor.Ya
