/-
  Calls: the document's Put and Get.
-/
import Derived.Test.YtcfmccafbknleaaDoorYaCaF
import Derived.Test.YtcfmccafbknleaaDoorYbL
namespace Go.Proofs.YtcfmccafbknleaaDoor.Ya
open Go.Ya Go.Ya.Na
set_option linter.unusedVariables false
set_option linter.unusedSimpArgs false
set_option maxRecDepth 100000
set_option maxHeartbeats 8000000
theorem encC_doc (z : Cl) : encC z = beL z.client 4 ++ beL z.inc 4 ++ beL z.seq 8 ++ beL z.kind 4 ++ tailC z := by simp [encC]
theorem fresh_at {H : Heap} {s : Bs} : BytesAt (H.alloc (.cells (s.map (AV.int .u8)) false)) (.slice H.next 0 s.length s.length false 1) s := .inr ⟨_, 0, _, _, _, _, rfl, Nat.le_refl _, ga_new rfl, by simp, by simp [ints, List.take_of_length_le]⟩
theorem may_kd {z : Cl} (h : mayC z = true) : 1 ≤ z.kind ∧ z.kind ≤ 12 := kindC_bd (mayC_parts h).2.2.1
theorem t8 : tab 8 = some ⟨96, [.tmp 2, .tmp 3], b8⟩ := rfl
theorem ref_Put (z : Cl) {h : Heap} (hz : ClAt h z) (ho : ClOk z) : Runs (xcall X1 tab (.fn 8) [.agg [.int .u8 z.client, .int .u32 z.inc, .int .u64 z.seq, .int .u8 z.kind, .int .u32 z.hi, .int .u32 z.hg, .str z.name, .int .u32 z.ti, .int .u32 z.tg, .str z.toName, .int .u32 z.off, .int .u32 z.size, z.dv]] h) fun v h' => Grow h h' ∧ ∃ q, v = .tuple [q, .int .i64 (errC z)] ∧ OwB h.next h' q (putC z) := by
  refine Runs.intro fun K hK => ?_
  have hz0 := hz
  have ho0 := ho
  obtain ⟨o1, o2, o3, o4, o5, o6, o7, o8, o9, o10⟩ := id ho
  obtain ⟨hd, hyd, hyn, hyt, ld, ln, lt⟩ := id hz
  have hfd := BytesAt.flat' hd
  have hcd := cells_of hfd
  have pn1 := padN_le z.name.length
  have pn2 := padN_le z.toName.length
  have pn3 := padN_le z.data.length
  rw [w_fn rfl t8 (Nat.le_of_ble_eq_true rfl)]
  delta b8
  repeat' (first
    | simp (disch := first | exact qd | fail) only [WB, ↓WP, ↓WL, WR, WC, if_true, if_false, ite_true, ite_false, aop, ev, evs, readsA, List.replicate, numF, unA, resA, tupA, loadA, storeA, splice, fillA, kindsOk, plainEq, ↓reduceIte, Nat.reduceEqDiff, Nat.reduceLT, Int.reduceToNat, Int.reduceBEq, Int.reduceBNe, Nat.reduceAdd, Nat.reduceMul, Nat.reduceLeDiff, Int.reduceLT, Int.reduceSub, Int.reduceAdd, hfd, hcd]
    | ((first | refine atC ?_ ?_ | refine atG ?_ ?_ | refine atH ?_ ?_ | refine atP ?_ ?_) <;> intro hc <;> (try rw [hc]) <;> (try simp only [BD] at hc) <;> try (exfalso; omega))
    | ((first
      | (refine Runs.call (ref_May z (hz0.grow qg) ho0) ?_; rintro _ H1 ⟨rfl, gr⟩; have hgb : H1.get h.next = some (.cells [.int .u8 z.client, .int .u32 z.inc, .int .u64 z.seq, .int .u8 z.kind, .int .u32 z.hi, .int .u32 z.hg, .str z.name, .int .u32 z.ti, .int .u32 z.tg, .str z.toName, .int .u32 z.off, .int .u32 z.size, z.dv] false) := qs; have hlt1 := Heap.lt_of_get hgb; have hkd := fun q => may_kd (z := z) q; have gA : Grow h H1 := qg)
      | (refine Runs.call (d_Number qo qo _) ?_; rintro _ HN ⟨gr, hB⟩; (try have hkd := hkd (by assumption)); have hfb := hB.fl; have hcb := cells_of hfb; have hgb := gr.get hgb; have gA := gA.trans gr; (first | have hO := hO.grow gr | have hO := hB); have on := hO.num)
      | (refine Runs.call (d_Great qo qo _) ?_; rintro _ HN ⟨gr, hB⟩; have hfb := hB.fl; have hcb := cells_of hfb; have hgb := gr.get hgb; have gA := gA.trans gr; (first | have hO := hO.grow gr | have hO := hB); have on := hO.num)
      | (refine Runs.call (d_Bytes (hd.grow gA) qo) ?_; rintro _ HN ⟨gr, hB⟩; have hfb := hB.fl; have hcb := cells_of hfb; have hgb := gr.get hgb; have gA := gA.trans gr; (first | have hO := hO.grow gr | have hO := hB); have on := hO.num)
      | (refine Runs.call (d_Bytes fresh_at qo) ?_; rintro _ HN ⟨gr, hB⟩; have gs := (Grow.alloc _ _).trans gr; have hgs := gs.1; have hfb := hB.fl; have hcb := cells_of hfb; have hgb := gs.get hgb; have gA := gA.trans gs; have hO := hO.grow gs; have on := hO.num)
      | (refine Runs.call (OwB.app hO qo hB.at.src (by simp only [List.length_append, List.length_nil, beL_len, encB_len]; omega)) ?_; rintro bN HN ⟨hO, ha⟩; have gA := ha.grow gA qo; have hgb := (ha.get (Heap.lt_of_get hgb) qo).trans hgb; have hfo := hO.fl; have hco := cells_of hfo; have on := hO.num; have an := ha.num; clear ha)
      | (refine Runs.call (ref_handle (n := H1.next) hO qo (by simp only [List.length_append, List.length_nil, beL_len, encB_len]; omega) qo qo) ?_; rintro bN HN ⟨hO, hn9, hj9⟩; have gA : Grow h HN := ⟨by have := gA.1; omega, fun j hj => (hj9 j qo).trans (gA.2 j hj)⟩; have hgb := (hj9 _ hlt1).trans hgb; have hfo := hO.fl; have hco := cells_of hfo; have on := hO.num)
      | fail); all_goals ((try (have gn := gr.1; try simp only [nx_alloc, nx_set] at gn)); (try (have an := ha.num; try simp only [nx_alloc, nx_set, own_sl, own_nil] at an)); (try (have on := hO.num; try simp only [nx_alloc, nx_set] at on)); (try (have kn := hk.1; try simp only [nx_alloc, nx_set] at kn)); try have hB := hO.at)))
  all_goals try (first
    | (refine hK _ _ ?_; (first | (have q := putC_no (z := z) (by assumption); exact ⟨gA, .nilsl, by rw [q.1], by rw [q.2]; exact OwC.nil⟩) | (have q := putC_is (z := z) (by assumption); refine ⟨gA, bN, by rw [q.1], ?_⟩; rw [q.2, encC_doc]; refine OwC.le ?_ (Nat.le_of_lt (show h.next < H1.next by omega)); (unfold tailC tailK; rw [if_pos qo]; (repeat (first | rw [if_pos qo] | rw [if_neg qo])); simp only [← List.append_assoc, List.append_nil]); exact hO) | fail); done)
    | fail)
theorem q_NumberP {h : Heap} {p : Nat} {s : List Int × Int} (f : Qdr h p s) : Runs (xcall X1 tab (.fn 27) [.ptr p 0] h) fun v h' => v = .int .u32 (rdN 4 s).1 ∧ Pok p h h' ∧ Qdr h' p (rdN 4 s).2 := by
  have hy : Bytes s.1 := by obtain ⟨_, all, a, _, _, _, hy, _, _, e⟩ := f; rw [e]; exact hy.drop a
  obtain ⟨n, l, e, hr⟩ := rdN_nat (k := 4) hy
  exact (q_Number f hr).mono fun v h' q => by rw [hr]; exact q
theorem q_GreatP {h : Heap} {p : Nat} {s : List Int × Int} (f : Qdr h p s) : Runs (xcall X1 tab (.fn 28) [.ptr p 0] h) fun v h' => v = .int .u64 (rdN 8 s).1 ∧ Pok p h h' ∧ Qdr h' p (rdN 8 s).2 := by
  have hy : Bytes s.1 := by obtain ⟨_, all, a, _, _, _, hy, _, _, e⟩ := f; rw [e]; exact hy.drop a
  obtain ⟨n, l, e, hr⟩ := rdN_nat (k := 8) hy
  exact (q_Great f hr).mono fun v h' q => by rw [hr]; exact q
theorem q_BytesP {h : Heap} {p : Nat} {s : List Int × Int} (f : Qdr h p s) : Runs (xcall X1 tab (.fn 29) [.ptr p 0, .int .i64 4096] h) fun v h' => NewBytes h h' v (rdB 4096 s).1 ∧ Pok p h h' ∧ Qdr h' p (rdB 4096 s).2 := by
  have hy : Bytes s.1 := by obtain ⟨_, all, a, _, _, _, hy, _, _, e⟩ := f; rw [e]; exact hy.drop a
  obtain ⟨n, l, e, hr⟩ := rdN_nat (k := 4) hy
  exact q_Bytes (most := 4096) f hr qo
theorem Qdr.mk0 {H : Heap} {p : Nat} {v : AV} {bs : List Int} (h1 : H.get p = some (.cells [v, .int .i64 0, .int .i64 0] false)) (h2 : BytesAt H v bs) (h3 : own v ≤ p) (h4 : Bytes bs) (h6 : bs.length ≤ 1000000000) : Qdr H p (bs, 0) := ⟨v, bs, 0, h1, h2, h3, h4, Nat.zero_le _, h6, rfl⟩
theorem own_le {h : Heap} {v : AV} {bs : List Int} (hb : BytesAt h v bs) : own v ≤ h.next := by
  rcases hb with ⟨rfl, _⟩ | ⟨id, off, cap, ex, c, ro, rfl, e2, e3, e4⟩
  · exact Nat.zero_le _
  · exact Heap.lt_of_get e3
theorem keepset {p q : Nat} {H H' : Heap} {ob : AObj} (k : Pok p (H.set q ob) H') (hq : q < H.next) (hn : ¬ q = p) : H'.get q = some ob := (k.2 q (by simp only [nx_set]; exact hq) hn).trans (gs_new rfl hq)
theorem qset {H : Heap} {p q : Nat} {s : List Int × Int} {ob : AObj} (f : Qdr H p s) (hq : q < H.next) (hp : p < q) : Qdr (H.set q ob) p s := f.pok (Pok.set hq) hp
theorem hdZ_k (bs : List Int) (h : 1 ≤ (rdN 4 (rdN 8 (rdN 4 (rdN 4 (bs, 0)).2).2).2).1 ∧ (rdN 4 (rdN 8 (rdN 4 (rdN 4 (bs, 0)).2).2).2).1 ≤ 12) : hdZ bs = { zC with client := (rdN 4 (bs, 0)).1 % 256, inc := (rdN 4 (rdN 4 (bs, 0)).2).1, seq := (rdN 8 (rdN 4 (rdN 4 (bs, 0)).2).2).1, kind := (rdN 4 (rdN 8 (rdN 4 (rdN 4 (bs, 0)).2).2).2).1 } := by
  unfold hdZ
  rw [show min (rdN 4 (rdN 8 (rdN 4 (rdN 4 (bs, 0)).2).2).2).1 255 = (rdN 4 (rdN 8 (rdN 4 (rdN 4 (bs, 0)).2).2).2).1 by omega]
theorem readE_hd {bs : List Int} (h : ¬ (rdN 4 (rdN 8 (rdN 4 (rdN 4 (bs, 0)).2).2).2).2.2 = 0) : readE bs = (rdN 4 (rdN 8 (rdN 4 (rdN 4 (bs, 0)).2).2).2).2.2 := if_pos h
theorem readE_form {bs : List Int} (h : (rdN 4 (rdN 8 (rdN 4 (rdN 4 (bs, 0)).2).2).2).2.2 = 0) (hk : ¬ (1 ≤ (rdN 4 (rdN 8 (rdN 4 (rdN 4 (bs, 0)).2).2).2).1 ∧ (rdN 4 (rdN 8 (rdN 4 (rdN 4 (bs, 0)).2).2).2).1 ≤ 12)) : readE bs = 5 := by
  unfold readE
  rw [if_neg (fun q => q h), if_neg]
  intro q
  have := kindC_bd q
  have e : (hdZ bs).kind = min (rdN 4 (rdN 8 (rdN 4 (rdN 4 (bs, 0)).2).2).2).1 255 := rfl
  omega
theorem readE_end {bs : List Int} (h : (rdN 4 (rdN 8 (rdN 4 (rdN 4 (bs, 0)).2).2).2).2.2 = 0) (hk : 1 ≤ (rdN 4 (rdN 8 (rdN 4 (rdN 4 (bs, 0)).2).2).2).1 ∧ (rdN 4 (rdN 8 (rdN 4 (rdN 4 (bs, 0)).2).2).2).1 ≤ 12) : readE bs = endE (fldS (hdZ bs) (hdS bs)) := by
  unfold readE
  rw [if_neg (fun q => q h), if_pos]
  rw [hdZ_k bs hk]
  exact kindC_yes hk
theorem rz_s {bs : List Int} (h : (rdN 4 (rdN 8 (rdN 4 (rdN 4 (bs, 0)).2).2).2).1 = 2) : (readZ bs).en = (⟨(rdN 4 (bs, 0)).1 % 256, (rdN 4 (rdN 4 (bs, 0)).2).1, (rdN 8 (rdN 4 (rdN 4 (bs, 0)).2).2).1, (rdN 4 (rdN 8 (rdN 4 (rdN 4 (bs, 0)).2).2).2).1, (rdN 4 (rdN 4 (rdN 8 (rdN 4 (rdN 4 (bs, 0)).2).2).2).2).1, (rdN 4 (rdN 4 (rdN 4 (rdN 8 (rdN 4 (rdN 4 (bs, 0)).2).2).2).2).2).1, [], 0, 0, [], 0, (rdN 4 (rdN 4 (rdN 4 (rdN 4 (rdN 8 (rdN 4 (rdN 4 (bs, 0)).2).2).2).2).2).2).1, .nilsl, []⟩ : Cl) ∧ fldS (hdZ bs) (hdS bs) = (rdN 4 (rdN 4 (rdN 4 (rdN 4 (rdN 8 (rdN 4 (rdN 4 (bs, 0)).2).2).2).2).2).2).2 := by
  unfold readZ
  rw [hdZ_k bs qo]
  unfold fldZ fldS
  dsimp only
  (repeat (first | rw [if_pos qo] | rw [if_neg qo]))
  exact ⟨rfl, rfl⟩
theorem rz_n {bs : List Int} (h : named (rdN 4 (rdN 8 (rdN 4 (rdN 4 (bs, 0)).2).2).2).1) : (readZ bs).en = (⟨(rdN 4 (bs, 0)).1 % 256, (rdN 4 (rdN 4 (bs, 0)).2).1, (rdN 8 (rdN 4 (rdN 4 (bs, 0)).2).2).1, (rdN 4 (rdN 8 (rdN 4 (rdN 4 (bs, 0)).2).2).2).1, (rdN 4 (rdN 4 (rdN 8 (rdN 4 (rdN 4 (bs, 0)).2).2).2).2).1, (rdN 4 (rdN 4 (rdN 4 (rdN 8 (rdN 4 (rdN 4 (bs, 0)).2).2).2).2).2).1, (rdB 4096 (rdN 4 (rdN 4 (rdN 4 (rdN 8 (rdN 4 (rdN 4 (bs, 0)).2).2).2).2).2).2).1, 0, 0, [], 0, 0, .nilsl, []⟩ : Cl) ∧ fldS (hdZ bs) (hdS bs) = (rdB 4096 (rdN 4 (rdN 4 (rdN 4 (rdN 8 (rdN 4 (rdN 4 (bs, 0)).2).2).2).2).2).2).2 := by
  have h0 : (rdN 4 (rdN 8 (rdN 4 (rdN 4 (bs, 0)).2).2).2).1 = 3 ∨ (rdN 4 (rdN 8 (rdN 4 (rdN 4 (bs, 0)).2).2).2).1 = 7 ∨ (rdN 4 (rdN 8 (rdN 4 (rdN 4 (bs, 0)).2).2).2).1 = 8 ∨ (rdN 4 (rdN 8 (rdN 4 (rdN 4 (bs, 0)).2).2).2).1 = 9 ∨ (rdN 4 (rdN 8 (rdN 4 (rdN 4 (bs, 0)).2).2).2).1 = 10 := h
  unfold readZ
  rw [hdZ_k bs qo]
  unfold fldZ fldS
  dsimp only
  (repeat (first | rw [if_pos h] | rw [if_pos qo] | rw [if_neg qo]))
  exact ⟨rfl, rfl⟩
theorem rz_r {bs : List Int} (h : (rdN 4 (rdN 8 (rdN 4 (rdN 4 (bs, 0)).2).2).2).1 = 4) : (readZ bs).en = (⟨(rdN 4 (bs, 0)).1 % 256, (rdN 4 (rdN 4 (bs, 0)).2).1, (rdN 8 (rdN 4 (rdN 4 (bs, 0)).2).2).1, (rdN 4 (rdN 8 (rdN 4 (rdN 4 (bs, 0)).2).2).2).1, (rdN 4 (rdN 4 (rdN 8 (rdN 4 (rdN 4 (bs, 0)).2).2).2).2).1, (rdN 4 (rdN 4 (rdN 4 (rdN 8 (rdN 4 (rdN 4 (bs, 0)).2).2).2).2).2).1, [], 0, 0, [], (rdN 4 (rdN 4 (rdN 4 (rdN 4 (rdN 8 (rdN 4 (rdN 4 (bs, 0)).2).2).2).2).2).2).1, (rdN 4 (rdN 4 (rdN 4 (rdN 4 (rdN 4 (rdN 8 (rdN 4 (rdN 4 (bs, 0)).2).2).2).2).2).2).2).1, .nilsl, []⟩ : Cl) ∧ fldS (hdZ bs) (hdS bs) = (rdN 4 (rdN 4 (rdN 4 (rdN 4 (rdN 4 (rdN 8 (rdN 4 (rdN 4 (bs, 0)).2).2).2).2).2).2).2).2 := by
  unfold readZ
  rw [hdZ_k bs qo]
  unfold fldZ fldS
  dsimp only
  (repeat (first | rw [if_pos qo] | rw [if_neg qo]))
  exact ⟨rfl, rfl⟩
theorem rz_w {bs : List Int} (h : (rdN 4 (rdN 8 (rdN 4 (rdN 4 (bs, 0)).2).2).2).1 = 5) : (readZ bs).en = (⟨(rdN 4 (bs, 0)).1 % 256, (rdN 4 (rdN 4 (bs, 0)).2).1, (rdN 8 (rdN 4 (rdN 4 (bs, 0)).2).2).1, (rdN 4 (rdN 8 (rdN 4 (rdN 4 (bs, 0)).2).2).2).1, (rdN 4 (rdN 4 (rdN 8 (rdN 4 (rdN 4 (bs, 0)).2).2).2).2).1, (rdN 4 (rdN 4 (rdN 4 (rdN 8 (rdN 4 (rdN 4 (bs, 0)).2).2).2).2).2).1, [], 0, 0, [], (rdN 4 (rdN 4 (rdN 4 (rdN 4 (rdN 8 (rdN 4 (rdN 4 (bs, 0)).2).2).2).2).2).2).1, 0, .nilsl, (rdB 4096 (rdN 4 (rdN 4 (rdN 4 (rdN 4 (rdN 8 (rdN 4 (rdN 4 (bs, 0)).2).2).2).2).2).2).2).1⟩ : Cl) ∧ fldS (hdZ bs) (hdS bs) = (rdB 4096 (rdN 4 (rdN 4 (rdN 4 (rdN 4 (rdN 8 (rdN 4 (rdN 4 (bs, 0)).2).2).2).2).2).2).2).2 := by
  unfold readZ
  rw [hdZ_k bs qo]
  unfold fldZ fldS
  dsimp only
  (repeat (first | rw [if_pos qo] | rw [if_neg qo]))
  exact ⟨rfl, rfl⟩
theorem rz_m {bs : List Int} (h : (rdN 4 (rdN 8 (rdN 4 (rdN 4 (bs, 0)).2).2).2).1 = 11) : (readZ bs).en = (⟨(rdN 4 (bs, 0)).1 % 256, (rdN 4 (rdN 4 (bs, 0)).2).1, (rdN 8 (rdN 4 (rdN 4 (bs, 0)).2).2).1, (rdN 4 (rdN 8 (rdN 4 (rdN 4 (bs, 0)).2).2).2).1, (rdN 4 (rdN 4 (rdN 8 (rdN 4 (rdN 4 (bs, 0)).2).2).2).2).1, (rdN 4 (rdN 4 (rdN 4 (rdN 8 (rdN 4 (rdN 4 (bs, 0)).2).2).2).2).2).1, (rdB 4096 (rdN 4 (rdN 4 (rdN 4 (rdN 8 (rdN 4 (rdN 4 (bs, 0)).2).2).2).2).2).2).1, (rdN 4 (rdB 4096 (rdN 4 (rdN 4 (rdN 4 (rdN 8 (rdN 4 (rdN 4 (bs, 0)).2).2).2).2).2).2).2).1, (rdN 4 (rdN 4 (rdB 4096 (rdN 4 (rdN 4 (rdN 4 (rdN 8 (rdN 4 (rdN 4 (bs, 0)).2).2).2).2).2).2).2).2).1, (rdB 4096 (rdN 4 (rdN 4 (rdB 4096 (rdN 4 (rdN 4 (rdN 4 (rdN 8 (rdN 4 (rdN 4 (bs, 0)).2).2).2).2).2).2).2).2).2).1, 0, 0, .nilsl, []⟩ : Cl) ∧ fldS (hdZ bs) (hdS bs) = (rdB 4096 (rdN 4 (rdN 4 (rdB 4096 (rdN 4 (rdN 4 (rdN 4 (rdN 8 (rdN 4 (rdN 4 (bs, 0)).2).2).2).2).2).2).2).2).2).2 := by
  unfold readZ
  rw [hdZ_k bs qo]
  unfold fldZ fldS
  dsimp only
  (repeat (first | rw [if_pos qo] | rw [if_neg qo]))
  exact ⟨rfl, rfl⟩
theorem rz_g {bs : List Int} (h : ((rdN 4 (rdN 8 (rdN 4 (rdN 4 (bs, 0)).2).2).2).1 = 1 ∨ (rdN 4 (rdN 8 (rdN 4 (rdN 4 (bs, 0)).2).2).2).1 = 6 ∨ (rdN 4 (rdN 8 (rdN 4 (rdN 4 (bs, 0)).2).2).2).1 = 12)) : (readZ bs).en = (⟨(rdN 4 (bs, 0)).1 % 256, (rdN 4 (rdN 4 (bs, 0)).2).1, (rdN 8 (rdN 4 (rdN 4 (bs, 0)).2).2).1, (rdN 4 (rdN 8 (rdN 4 (rdN 4 (bs, 0)).2).2).2).1, (rdN 4 (rdN 4 (rdN 8 (rdN 4 (rdN 4 (bs, 0)).2).2).2).2).1, (rdN 4 (rdN 4 (rdN 4 (rdN 8 (rdN 4 (rdN 4 (bs, 0)).2).2).2).2).2).1, [], 0, 0, [], 0, 0, .nilsl, []⟩ : Cl) ∧ fldS (hdZ bs) (hdS bs) = (rdN 4 (rdN 4 (rdN 4 (rdN 8 (rdN 4 (rdN 4 (bs, 0)).2).2).2).2).2).2 := by
  unfold readZ
  rw [hdZ_k bs qo]
  unfold fldZ fldS
  dsimp only
  (repeat (first | rw [if_pos qo] | rw [if_neg qo]))
  exact ⟨rfl, rfl⟩
theorem t10 : tab 10 = some ⟨122, [.cell 2 true 13, .tmp 3], b10⟩ := rfl
theorem ref_Get {v : AV} {bs : List Int} {h : Heap} (hv : BytesAt h v bs) (hy : Bytes bs) (hl : bs.length ≤ 2000000) : Runs (xcall X1 tab (.fn 10) [v] h) fun v h' => Grow h h' ∧ GotR h h' bs v := by
  refine Runs.intro fun K hK => ?_
  have hfv := BytesAt.flat' hv
  have hcv := cells_of hfv
  have hov := own_le hv
  have y1 := rdN_by (k := 4) (s := (bs, 0)) hy
  have y2 := rdN_by (k := 4) y1
  have y3 := rdN_by (k := 8) y2
  have b1 := ok4 (s := (bs, 0)) hy
  have b4 := ok4 y3
  rw [w_fn rfl t10 (Nat.le_of_ble_eq_true rfl)]
  delta b10
  repeat' (first
    | simp (disch := first | exact qd | fail) only [WB, ↓WP, ↓WL, WR, WC, if_true, if_false, ite_true, ite_false, aop, ev, evs, readsA, List.replicate, numF, unA, resA, tupA, loadA, storeA, splice, fillA, kindsOk, plainEq, ↓reduceIte, Nat.reduceEqDiff, Nat.reduceLT, Int.reduceToNat, Int.reduceBEq, Int.reduceBNe, Nat.reduceAdd, Nat.reduceMul, Nat.reduceLeDiff, Int.reduceLT, Int.reduceSub, Int.reduceAdd, hfv, hcv, ne_eq]
    | ((first | refine atC ?_ ?_ | refine atG ?_ ?_ | refine atH ?_ ?_ | refine atP ?_ ?_) <;> intro hc <;> (try rw [hc]) <;> (try simp only [BD] at hc) <;> try (exfalso; omega))
    | (have rzz : (⟨(rdN 4 (bs, 0)).1 % 256, (rdN 4 (rdN 4 (bs, 0)).2).1, (rdN 8 (rdN 4 (rdN 4 (bs, 0)).2).2).1, (rdN 4 (rdN 8 (rdN 4 (rdN 4 (bs, 0)).2).2).2).1, (rdN 4 (rdN 4 (rdN 8 (rdN 4 (rdN 4 (bs, 0)).2).2).2).2).1, (rdN 4 (rdN 4 (rdN 4 (rdN 8 (rdN 4 (rdN 4 (bs, 0)).2).2).2).2).2).1, [], 0, 0, [], 0, (rdN 4 (rdN 4 (rdN 4 (rdN 4 (rdN 8 (rdN 4 (rdN 4 (bs, 0)).2).2).2).2).2).2).1, .nilsl, []⟩ : Cl).en = (readZ bs).en := rz.1.symm; have re0 := re.trans (by assumption); obtain ⟨a1, a2, a3, a4, a5, a6, a7⟩ := z_of hy rzz; have hme := mayC_en rzz; refine Runs.call (ref_May (⟨(rdN 4 (bs, 0)).1 % 256, (rdN 4 (rdN 4 (bs, 0)).2).1, (rdN 8 (rdN 4 (rdN 4 (bs, 0)).2).2).1, (rdN 4 (rdN 8 (rdN 4 (rdN 4 (bs, 0)).2).2).2).1, (rdN 4 (rdN 4 (rdN 8 (rdN 4 (rdN 4 (bs, 0)).2).2).2).2).1, (rdN 4 (rdN 4 (rdN 4 (rdN 8 (rdN 4 (rdN 4 (bs, 0)).2).2).2).2).2).1, [], 0, 0, [], 0, (rdN 4 (rdN 4 (rdN 4 (rdN 4 (rdN 8 (rdN 4 (rdN 4 (bs, 0)).2).2).2).2).2).2).1, .nilsl, []⟩ : Cl) ⟨NBt.at (.inl ⟨rfl, rfl⟩ : NBt 0 0 _ .nilsl []), a2, a3, a4, Nat.le_trans a5 (by decide), Nat.le_trans a6 (by decide), Nat.le_trans a7 (by decide)⟩ a1) ?_; rintro _ HM ⟨rfl, gr⟩; have gn := gr.1; (try simp only [nx_alloc, nx_set] at gn); have hz : HM.get h.next = some (.cells [.int .u8 0, .int .u32 0, .int .u64 0, .int .u8 0, .int .u32 0, .int .u32 0, .str [], .int .u32 0, .int .u32 0, .str [], .int .u32 0, .int .u32 0, .nilsl] false) := qs; have hq : HM.get H3.next = some _ := gr.get (gs_new rfl qo))
    | (have rzz : (⟨(rdN 4 (bs, 0)).1 % 256, (rdN 4 (rdN 4 (bs, 0)).2).1, (rdN 8 (rdN 4 (rdN 4 (bs, 0)).2).2).1, (rdN 4 (rdN 8 (rdN 4 (rdN 4 (bs, 0)).2).2).2).1, (rdN 4 (rdN 4 (rdN 8 (rdN 4 (rdN 4 (bs, 0)).2).2).2).2).1, (rdN 4 (rdN 4 (rdN 4 (rdN 8 (rdN 4 (rdN 4 (bs, 0)).2).2).2).2).2).1, (rdB 4096 (rdN 4 (rdN 4 (rdN 4 (rdN 8 (rdN 4 (rdN 4 (bs, 0)).2).2).2).2).2).2).1, 0, 0, [], 0, 0, .nilsl, []⟩ : Cl).en = (readZ bs).en := rz.1.symm; have re0 := re.trans (by assumption); obtain ⟨a1, a2, a3, a4, a5, a6, a7⟩ := z_of hy rzz; have hme := mayC_en rzz; refine Runs.call (ref_May (⟨(rdN 4 (bs, 0)).1 % 256, (rdN 4 (rdN 4 (bs, 0)).2).1, (rdN 8 (rdN 4 (rdN 4 (bs, 0)).2).2).1, (rdN 4 (rdN 8 (rdN 4 (rdN 4 (bs, 0)).2).2).2).1, (rdN 4 (rdN 4 (rdN 8 (rdN 4 (rdN 4 (bs, 0)).2).2).2).2).1, (rdN 4 (rdN 4 (rdN 4 (rdN 8 (rdN 4 (rdN 4 (bs, 0)).2).2).2).2).2).1, (rdB 4096 (rdN 4 (rdN 4 (rdN 4 (rdN 8 (rdN 4 (rdN 4 (bs, 0)).2).2).2).2).2).2).1, 0, 0, [], 0, 0, .nilsl, []⟩ : Cl) ⟨NBt.at (.inl ⟨rfl, rfl⟩ : NBt 0 0 _ .nilsl []), a2, a3, a4, Nat.le_trans a5 (by decide), Nat.le_trans a6 (by decide), Nat.le_trans a7 (by decide)⟩ a1) ?_; rintro _ HM ⟨rfl, gr⟩; have gn := gr.1; (try simp only [nx_alloc, nx_set] at gn); have hz : HM.get h.next = some (.cells [.int .u8 0, .int .u32 0, .int .u64 0, .int .u8 0, .int .u32 0, .int .u32 0, .str [], .int .u32 0, .int .u32 0, .str [], .int .u32 0, .int .u32 0, .nilsl] false) := qs; have hq : HM.get H3.next = some _ := gr.get (gs_new rfl qo))
    | (have rzz : (⟨(rdN 4 (bs, 0)).1 % 256, (rdN 4 (rdN 4 (bs, 0)).2).1, (rdN 8 (rdN 4 (rdN 4 (bs, 0)).2).2).1, (rdN 4 (rdN 8 (rdN 4 (rdN 4 (bs, 0)).2).2).2).1, (rdN 4 (rdN 4 (rdN 8 (rdN 4 (rdN 4 (bs, 0)).2).2).2).2).1, (rdN 4 (rdN 4 (rdN 4 (rdN 8 (rdN 4 (rdN 4 (bs, 0)).2).2).2).2).2).1, [], 0, 0, [], (rdN 4 (rdN 4 (rdN 4 (rdN 4 (rdN 8 (rdN 4 (rdN 4 (bs, 0)).2).2).2).2).2).2).1, (rdN 4 (rdN 4 (rdN 4 (rdN 4 (rdN 4 (rdN 8 (rdN 4 (rdN 4 (bs, 0)).2).2).2).2).2).2).2).1, .nilsl, []⟩ : Cl).en = (readZ bs).en := rz.1.symm; have re0 := re.trans (by assumption); obtain ⟨a1, a2, a3, a4, a5, a6, a7⟩ := z_of hy rzz; have hme := mayC_en rzz; refine Runs.call (ref_May (⟨(rdN 4 (bs, 0)).1 % 256, (rdN 4 (rdN 4 (bs, 0)).2).1, (rdN 8 (rdN 4 (rdN 4 (bs, 0)).2).2).1, (rdN 4 (rdN 8 (rdN 4 (rdN 4 (bs, 0)).2).2).2).1, (rdN 4 (rdN 4 (rdN 8 (rdN 4 (rdN 4 (bs, 0)).2).2).2).2).1, (rdN 4 (rdN 4 (rdN 4 (rdN 8 (rdN 4 (rdN 4 (bs, 0)).2).2).2).2).2).1, [], 0, 0, [], (rdN 4 (rdN 4 (rdN 4 (rdN 4 (rdN 8 (rdN 4 (rdN 4 (bs, 0)).2).2).2).2).2).2).1, (rdN 4 (rdN 4 (rdN 4 (rdN 4 (rdN 4 (rdN 8 (rdN 4 (rdN 4 (bs, 0)).2).2).2).2).2).2).2).1, .nilsl, []⟩ : Cl) ⟨NBt.at (.inl ⟨rfl, rfl⟩ : NBt 0 0 _ .nilsl []), a2, a3, a4, Nat.le_trans a5 (by decide), Nat.le_trans a6 (by decide), Nat.le_trans a7 (by decide)⟩ a1) ?_; rintro _ HM ⟨rfl, gr⟩; have gn := gr.1; (try simp only [nx_alloc, nx_set] at gn); have hz : HM.get h.next = some (.cells [.int .u8 0, .int .u32 0, .int .u64 0, .int .u8 0, .int .u32 0, .int .u32 0, .str [], .int .u32 0, .int .u32 0, .str [], .int .u32 0, .int .u32 0, .nilsl] false) := qs; have hq : HM.get H3.next = some _ := gr.get (gs_new rfl qo))
    | (have rzz : (⟨(rdN 4 (bs, 0)).1 % 256, (rdN 4 (rdN 4 (bs, 0)).2).1, (rdN 8 (rdN 4 (rdN 4 (bs, 0)).2).2).1, (rdN 4 (rdN 8 (rdN 4 (rdN 4 (bs, 0)).2).2).2).1, (rdN 4 (rdN 4 (rdN 8 (rdN 4 (rdN 4 (bs, 0)).2).2).2).2).1, (rdN 4 (rdN 4 (rdN 4 (rdN 8 (rdN 4 (rdN 4 (bs, 0)).2).2).2).2).2).1, [], 0, 0, [], (rdN 4 (rdN 4 (rdN 4 (rdN 4 (rdN 8 (rdN 4 (rdN 4 (bs, 0)).2).2).2).2).2).2).1, 0, bv8, (rdB 4096 (rdN 4 (rdN 4 (rdN 4 (rdN 4 (rdN 8 (rdN 4 (rdN 4 (bs, 0)).2).2).2).2).2).2).2).1⟩ : Cl).en = (readZ bs).en := rz.1.symm; have re0 := re.trans (by assumption); obtain ⟨a1, a2, a3, a4, a5, a6, a7⟩ := z_of hy rzz; have hme := mayC_en rzz; refine Runs.call (ref_May (⟨(rdN 4 (bs, 0)).1 % 256, (rdN 4 (rdN 4 (bs, 0)).2).1, (rdN 8 (rdN 4 (rdN 4 (bs, 0)).2).2).1, (rdN 4 (rdN 8 (rdN 4 (rdN 4 (bs, 0)).2).2).2).1, (rdN 4 (rdN 4 (rdN 8 (rdN 4 (rdN 4 (bs, 0)).2).2).2).2).1, (rdN 4 (rdN 4 (rdN 4 (rdN 8 (rdN 4 (rdN 4 (bs, 0)).2).2).2).2).2).1, [], 0, 0, [], (rdN 4 (rdN 4 (rdN 4 (rdN 4 (rdN 8 (rdN 4 (rdN 4 (bs, 0)).2).2).2).2).2).2).1, 0, bv8, (rdB 4096 (rdN 4 (rdN 4 (rdN 4 (rdN 4 (rdN 8 (rdN 4 (rdN 4 (bs, 0)).2).2).2).2).2).2).2).1⟩ : Cl) ⟨NBt.at (hN8.keep (fun j h1 h2 => qs)), a2, a3, a4, Nat.le_trans a5 (by decide), Nat.le_trans a6 (by decide), Nat.le_trans a7 (by decide)⟩ a1) ?_; rintro _ HM ⟨rfl, gr⟩; have gn := gr.1; (try simp only [nx_alloc, nx_set] at gn); have hz : HM.get h.next = some (.cells [.int .u8 0, .int .u32 0, .int .u64 0, .int .u8 0, .int .u32 0, .int .u32 0, .str [], .int .u32 0, .int .u32 0, .str [], .int .u32 0, .int .u32 0, .nilsl] false) := qs; have hq : HM.get H3.next = some _ := gr.get (gs_new rfl qo))
    | (have rzz : (⟨(rdN 4 (bs, 0)).1 % 256, (rdN 4 (rdN 4 (bs, 0)).2).1, (rdN 8 (rdN 4 (rdN 4 (bs, 0)).2).2).1, (rdN 4 (rdN 8 (rdN 4 (rdN 4 (bs, 0)).2).2).2).1, (rdN 4 (rdN 4 (rdN 8 (rdN 4 (rdN 4 (bs, 0)).2).2).2).2).1, (rdN 4 (rdN 4 (rdN 4 (rdN 8 (rdN 4 (rdN 4 (bs, 0)).2).2).2).2).2).1, (rdB 4096 (rdN 4 (rdN 4 (rdN 4 (rdN 8 (rdN 4 (rdN 4 (bs, 0)).2).2).2).2).2).2).1, (rdN 4 (rdB 4096 (rdN 4 (rdN 4 (rdN 4 (rdN 8 (rdN 4 (rdN 4 (bs, 0)).2).2).2).2).2).2).2).1, (rdN 4 (rdN 4 (rdB 4096 (rdN 4 (rdN 4 (rdN 4 (rdN 8 (rdN 4 (rdN 4 (bs, 0)).2).2).2).2).2).2).2).2).1, (rdB 4096 (rdN 4 (rdN 4 (rdB 4096 (rdN 4 (rdN 4 (rdN 4 (rdN 8 (rdN 4 (rdN 4 (bs, 0)).2).2).2).2).2).2).2).2).2).1, 0, 0, .nilsl, []⟩ : Cl).en = (readZ bs).en := rz.1.symm; have re0 := re.trans (by assumption); obtain ⟨a1, a2, a3, a4, a5, a6, a7⟩ := z_of hy rzz; have hme := mayC_en rzz; refine Runs.call (ref_May (⟨(rdN 4 (bs, 0)).1 % 256, (rdN 4 (rdN 4 (bs, 0)).2).1, (rdN 8 (rdN 4 (rdN 4 (bs, 0)).2).2).1, (rdN 4 (rdN 8 (rdN 4 (rdN 4 (bs, 0)).2).2).2).1, (rdN 4 (rdN 4 (rdN 8 (rdN 4 (rdN 4 (bs, 0)).2).2).2).2).1, (rdN 4 (rdN 4 (rdN 4 (rdN 8 (rdN 4 (rdN 4 (bs, 0)).2).2).2).2).2).1, (rdB 4096 (rdN 4 (rdN 4 (rdN 4 (rdN 8 (rdN 4 (rdN 4 (bs, 0)).2).2).2).2).2).2).1, (rdN 4 (rdB 4096 (rdN 4 (rdN 4 (rdN 4 (rdN 8 (rdN 4 (rdN 4 (bs, 0)).2).2).2).2).2).2).2).1, (rdN 4 (rdN 4 (rdB 4096 (rdN 4 (rdN 4 (rdN 4 (rdN 8 (rdN 4 (rdN 4 (bs, 0)).2).2).2).2).2).2).2).2).1, (rdB 4096 (rdN 4 (rdN 4 (rdB 4096 (rdN 4 (rdN 4 (rdN 4 (rdN 8 (rdN 4 (rdN 4 (bs, 0)).2).2).2).2).2).2).2).2).2).1, 0, 0, .nilsl, []⟩ : Cl) ⟨NBt.at (.inl ⟨rfl, rfl⟩ : NBt 0 0 _ .nilsl []), a2, a3, a4, Nat.le_trans a5 (by decide), Nat.le_trans a6 (by decide), Nat.le_trans a7 (by decide)⟩ a1) ?_; rintro _ HM ⟨rfl, gr⟩; have gn := gr.1; (try simp only [nx_alloc, nx_set] at gn); have hz : HM.get h.next = some (.cells [.int .u8 0, .int .u32 0, .int .u64 0, .int .u8 0, .int .u32 0, .int .u32 0, .str [], .int .u32 0, .int .u32 0, .str [], .int .u32 0, .int .u32 0, .nilsl] false) := qs; have hq : HM.get H3.next = some _ := gr.get (gs_new rfl qo))
    | (have rzz : (⟨(rdN 4 (bs, 0)).1 % 256, (rdN 4 (rdN 4 (bs, 0)).2).1, (rdN 8 (rdN 4 (rdN 4 (bs, 0)).2).2).1, (rdN 4 (rdN 8 (rdN 4 (rdN 4 (bs, 0)).2).2).2).1, (rdN 4 (rdN 4 (rdN 8 (rdN 4 (rdN 4 (bs, 0)).2).2).2).2).1, (rdN 4 (rdN 4 (rdN 4 (rdN 8 (rdN 4 (rdN 4 (bs, 0)).2).2).2).2).2).1, [], 0, 0, [], 0, 0, .nilsl, []⟩ : Cl).en = (readZ bs).en := rz.1.symm; have re0 := re.trans (by assumption); obtain ⟨a1, a2, a3, a4, a5, a6, a7⟩ := z_of hy rzz; have hme := mayC_en rzz; refine Runs.call (ref_May (⟨(rdN 4 (bs, 0)).1 % 256, (rdN 4 (rdN 4 (bs, 0)).2).1, (rdN 8 (rdN 4 (rdN 4 (bs, 0)).2).2).1, (rdN 4 (rdN 8 (rdN 4 (rdN 4 (bs, 0)).2).2).2).1, (rdN 4 (rdN 4 (rdN 8 (rdN 4 (rdN 4 (bs, 0)).2).2).2).2).1, (rdN 4 (rdN 4 (rdN 4 (rdN 8 (rdN 4 (rdN 4 (bs, 0)).2).2).2).2).2).1, [], 0, 0, [], 0, 0, .nilsl, []⟩ : Cl) ⟨NBt.at (.inl ⟨rfl, rfl⟩ : NBt 0 0 _ .nilsl []), a2, a3, a4, Nat.le_trans a5 (by decide), Nat.le_trans a6 (by decide), Nat.le_trans a7 (by decide)⟩ a1) ?_; rintro _ HM ⟨rfl, gr⟩; have gn := gr.1; (try simp only [nx_alloc, nx_set] at gn); have hz : HM.get h.next = some (.cells [.int .u8 0, .int .u32 0, .int .u64 0, .int .u8 0, .int .u32 0, .int .u32 0, .str [], .int .u32 0, .int .u32 0, .str [], .int .u32 0, .int .u32 0, .nilsl] false) := qs; have hq : HM.get H3.next = some _ := gr.get (gs_new rfl qo))
    | ((first
      | (refine Runs.call (q_NumberP (p := h.next + 1) (Qdr.mk0 qs (hv.grow qg) qo hy qo)) ?_; rintro _ H1 ⟨rfl, k1, f1⟩; have n1 := k1.1; (try simp only [nx_alloc, nx_set] at n1); have hz : H1.get h.next = some (.cells [.int .u8 0, .int .u32 0, .int .u64 0, .int .u8 0, .int .u32 0, .int .u32 0, .str [], .int .u32 0, .int .u32 0, .str [], .int .u32 0, .int .u32 0, .nilsl] false) := qs)
      | (refine Runs.call (q_NumberP (p := h.next + 1) f1) ?_; rintro _ H2 ⟨rfl, k2, f2⟩; have n2 := k2.1; (try simp only [nx_alloc, nx_set] at n2); have hz : H2.get h.next = some (.cells [.int .u8 0, .int .u32 0, .int .u64 0, .int .u8 0, .int .u32 0, .int .u32 0, .str [], .int .u32 0, .int .u32 0, .str [], .int .u32 0, .int .u32 0, .nilsl] false) := qs)
      | (refine Runs.call (q_GreatP (p := h.next + 1) f2) ?_; rintro _ H3 ⟨rfl, k3, f3⟩; have n3 := k3.1; (try simp only [nx_alloc, nx_set] at n3); have hz : H3.get h.next = some (.cells [.int .u8 0, .int .u32 0, .int .u64 0, .int .u8 0, .int .u32 0, .int .u32 0, .str [], .int .u32 0, .int .u32 0, .str [], .int .u32 0, .int .u32 0, .nilsl] false) := qs)
      | (refine Runs.call (q_NumberP (p := h.next + 1) (qset (f3.grow (Grow.alloc _ _)) (by simp only [nx_alloc]; omega) qo)) ?_; rintro _ H4 ⟨rfl, k4, f4⟩; have n4 := k4.1; (try simp only [nx_alloc, nx_set] at n4); have hz : H4.get h.next = some (.cells [.int .u8 0, .int .u32 0, .int .u64 0, .int .u8 0, .int .u32 0, .int .u32 0, .str [], .int .u32 0, .int .u32 0, .str [], .int .u32 0, .int .u32 0, .nilsl] false) := qs; have hq : H4.get H3.next = some _ := keepset k4 (by first | omega | (simp only [nx_alloc]; omega)) qo; obtain ⟨vq, allq, aq, hgq, hbq⟩ := id f4)
      | (refine Runs.call (q_NumberP (p := h.next + 1) (qset f4 qo qo)) ?_; rintro _ H5 ⟨rfl, k5, f5⟩; have n5 := k5.1; (try simp only [nx_alloc, nx_set] at n5); have hz : H5.get h.next = some (.cells [.int .u8 0, .int .u32 0, .int .u64 0, .int .u8 0, .int .u32 0, .int .u32 0, .str [], .int .u32 0, .int .u32 0, .str [], .int .u32 0, .int .u32 0, .nilsl] false) := qs; have hq : H5.get H3.next = some _ := keepset k5 (by first | omega | (simp only [nx_alloc]; omega)) qo)
      | (refine Runs.call (q_NumberP (p := h.next + 1) (qset f5 qo qo)) ?_; rintro _ H6 ⟨rfl, k6, f6⟩; have n6 := k6.1; (try simp only [nx_alloc, nx_set] at n6); have hz : H6.get h.next = some (.cells [.int .u8 0, .int .u32 0, .int .u64 0, .int .u8 0, .int .u32 0, .int .u32 0, .str [], .int .u32 0, .int .u32 0, .str [], .int .u32 0, .int .u32 0, .nilsl] false) := qs; have hq : H6.get H3.next = some _ := keepset k6 (by first | omega | (simp only [nx_alloc]; omega)) qo)
      | (refine Runs.call (q_NumberP (p := h.next + 1) (qset f6 qo qo)) ?_; rintro _ H7 ⟨rfl, k7, f7⟩; have n7 := k7.1; (try simp only [nx_alloc, nx_set] at n7); have hz : H7.get h.next = some (.cells [.int .u8 0, .int .u32 0, .int .u64 0, .int .u8 0, .int .u32 0, .int .u32 0, .str [], .int .u32 0, .int .u32 0, .str [], .int .u32 0, .int .u32 0, .nilsl] false) := qs; have hq : H7.get H3.next = some _ := keepset k7 (by first | omega | (simp only [nx_alloc]; omega)) qo)
      | (refine Runs.call (q_BytesP (p := h.next + 1) (qset f6 qo qo)) ?_; rintro bv7 H7 ⟨hN, k7, f7⟩; have n7 := k7.1; (try simp only [nx_alloc, nx_set] at n7); have hN7 := NewBytes.nbt hN; (try simp only [nx_set] at hN7); have hb7 := hN.at; have hfb7 := BytesAt.flat' hb7; have hcb7 := cells_of hfb7; have hz : H7.get h.next = some (.cells [.int .u8 0, .int .u32 0, .int .u64 0, .int .u8 0, .int .u32 0, .int .u32 0, .str [], .int .u32 0, .int .u32 0, .str [], .int .u32 0, .int .u32 0, .nilsl] false) := qs; have hq : H7.get H3.next = some _ := keepset k7 (by first | omega | (simp only [nx_alloc]; omega)) qo)
      | (refine Runs.call (q_NumberP (p := h.next + 1) (qset f7 qo qo)) ?_; rintro _ H8 ⟨rfl, k8, f8⟩; have n8 := k8.1; (try simp only [nx_alloc, nx_set] at n8); have hz : H8.get h.next = some (.cells [.int .u8 0, .int .u32 0, .int .u64 0, .int .u8 0, .int .u32 0, .int .u32 0, .str [], .int .u32 0, .int .u32 0, .str [], .int .u32 0, .int .u32 0, .nilsl] false) := qs; have hq : H8.get H3.next = some _ := keepset k8 (by first | omega | (simp only [nx_alloc]; omega)) qo)
      | (refine Runs.call (q_BytesP (p := h.next + 1) (qset f7 qo qo)) ?_; rintro bv8 H8 ⟨hN, k8, f8⟩; have n8 := k8.1; (try simp only [nx_alloc, nx_set] at n8); have hN8 := NewBytes.nbt hN; (try simp only [nx_set] at hN8); have hb8 := hN.at; have hfb8 := BytesAt.flat' hb8; have hcb8 := cells_of hfb8; have hz : H8.get h.next = some (.cells [.int .u8 0, .int .u32 0, .int .u64 0, .int .u8 0, .int .u32 0, .int .u32 0, .str [], .int .u32 0, .int .u32 0, .str [], .int .u32 0, .int .u32 0, .nilsl] false) := qs; have hq : H8.get H3.next = some _ := keepset k8 (by first | omega | (simp only [nx_alloc]; omega)) qo)
      | (refine Runs.call (q_NumberP (p := h.next + 1) (qset f8 qo qo)) ?_; rintro _ H9 ⟨rfl, k9, f9⟩; have n9 := k9.1; (try simp only [nx_alloc, nx_set] at n9); have hz : H9.get h.next = some (.cells [.int .u8 0, .int .u32 0, .int .u64 0, .int .u8 0, .int .u32 0, .int .u32 0, .str [], .int .u32 0, .int .u32 0, .str [], .int .u32 0, .int .u32 0, .nilsl] false) := qs; have hq : H9.get H3.next = some _ := keepset k9 (by first | omega | (simp only [nx_alloc]; omega)) qo)
      | (refine Runs.call (q_BytesP (p := h.next + 1) (qset f9 qo qo)) ?_; rintro bv10 H10 ⟨hN, k10, f10⟩; have n10 := k10.1; (try simp only [nx_alloc, nx_set] at n10); have hN10 := NewBytes.nbt hN; (try simp only [nx_set] at hN10); have hb10 := hN.at; have hfb10 := BytesAt.flat' hb10; have hcb10 := cells_of hfb10; have hz : H10.get h.next = some (.cells [.int .u8 0, .int .u32 0, .int .u64 0, .int .u8 0, .int .u32 0, .int .u32 0, .str [], .int .u32 0, .int .u32 0, .str [], .int .u32 0, .int .u32 0, .nilsl] false) := qs; have hq : H10.get H3.next = some _ := keepset k10 (by first | omega | (simp only [nx_alloc]; omega)) qo)
      | (refine Runs.call (q_End (p := h.next + 1) (s := (rdN 4 (rdN 4 (rdN 4 (rdN 4 (rdN 8 (rdN 4 (rdN 4 (bs, 0)).2).2).2).2).2).2).2) (qset f7 qo qo)) ?_; rintro _ _ ⟨rfl, rfl⟩; have rz := rz_s (bs := bs) (by first | omega | (show named _; unfold named; omega)); have re := (readE_end (bs := bs) (by assumption) qo).trans (congrArg endE rz.2))
      | (refine Runs.call (q_End (p := h.next + 1) (s := (rdB 4096 (rdN 4 (rdN 4 (rdN 4 (rdN 8 (rdN 4 (rdN 4 (bs, 0)).2).2).2).2).2).2).2) (qset f7 qo qo)) ?_; rintro _ _ ⟨rfl, rfl⟩; have rz := rz_n (bs := bs) (by first | omega | (show named _; unfold named; omega)); have re := (readE_end (bs := bs) (by assumption) qo).trans (congrArg endE rz.2))
      | (refine Runs.call (q_End (p := h.next + 1) (s := (rdN 4 (rdN 4 (rdN 4 (rdN 4 (rdN 4 (rdN 8 (rdN 4 (rdN 4 (bs, 0)).2).2).2).2).2).2).2).2) (qset f8 qo qo)) ?_; rintro _ _ ⟨rfl, rfl⟩; have rz := rz_r (bs := bs) (by first | omega | (show named _; unfold named; omega)); have re := (readE_end (bs := bs) (by assumption) qo).trans (congrArg endE rz.2))
      | (refine Runs.call (q_End (p := h.next + 1) (s := (rdB 4096 (rdN 4 (rdN 4 (rdN 4 (rdN 4 (rdN 8 (rdN 4 (rdN 4 (bs, 0)).2).2).2).2).2).2).2).2) (qset f8 qo qo)) ?_; rintro _ _ ⟨rfl, rfl⟩; have rz := rz_w (bs := bs) (by first | omega | (show named _; unfold named; omega)); have re := (readE_end (bs := bs) (by assumption) qo).trans (congrArg endE rz.2))
      | (refine Runs.call (q_End (p := h.next + 1) (s := (rdB 4096 (rdN 4 (rdN 4 (rdB 4096 (rdN 4 (rdN 4 (rdN 4 (rdN 8 (rdN 4 (rdN 4 (bs, 0)).2).2).2).2).2).2).2).2).2).2) (qset f10 qo qo)) ?_; rintro _ _ ⟨rfl, rfl⟩; have rz := rz_m (bs := bs) (by first | omega | (show named _; unfold named; omega)); have re := (readE_end (bs := bs) (by assumption) qo).trans (congrArg endE rz.2))
      | (refine Runs.call (q_End (p := h.next + 1) (s := (rdN 4 (rdN 4 (rdN 4 (rdN 8 (rdN 4 (rdN 4 (bs, 0)).2).2).2).2).2).2) (qset f6 qo qo)) ?_; rintro _ _ ⟨rfl, rfl⟩; have rz := rz_g (bs := bs) (by first | omega | (show named _; unfold named; omega)); have re := (readE_end (bs := bs) (by assumption) qo).trans (congrArg endE rz.2))
      | fail); all_goals ((try (have gn := gr.1; try simp only [nx_alloc, nx_set] at gn)); (try (have an := ha.num; try simp only [nx_alloc, nx_set, own_sl, own_nil] at an)); (try (have on := hO.num; try simp only [nx_alloc, nx_set] at on)); (try (have kn := hk.1; try simp only [nx_alloc, nx_set] at kn)); try have hB := hO.at)))
  all_goals try (first
    | (refine hK _ _ ?_; (first
        | exact ⟨qg, got_bad ⟨getE_long qo, by decide⟩⟩
        | (have q := readE_hd (bs := bs) (by assumption); refine ⟨qg, ?_⟩; rw [← q]; exact got_bad ⟨getE_err qo (by rw [q]; assumption), by rw [q]; assumption⟩)
        | (have q := readE_form (bs := bs) (by assumption) qo; exact ⟨qg, got_bad ⟨(getE_err qo (by rw [q]; decide)).trans q, by decide⟩⟩)
        | (refine ⟨qg, ?_⟩; rw [← re]; exact got_bad ⟨getE_err qo (by rw [re]; assumption), by rw [re]; assumption⟩)
        | (have re0 := re.trans (by assumption); exact ⟨qg, got_bad ⟨getE_no qo re0 (fun q => by omega), by decide⟩⟩)
        | (have hmf : mayC (readZ bs) = false := hme.symm.trans (by assumption); exact ⟨qg, got_bad ⟨getE_no qo re0 (fun q => by rw [hmf] at q; exact absurd q.2 (by decide)), by decide⟩⟩)
        | (have hmt : mayC (readZ bs) = true := hme.symm.trans (by assumption); exact ⟨qg, got_ok hy (getE_ok qo re0 qo hmt) rzz (.inl ⟨rfl, rfl⟩)⟩)
        | (have hmt : mayC (readZ bs) = true := hme.symm.trans (by assumption); exact ⟨qg, got_ok hy (getE_ok qo re0 qo hmt) rzz (hn9_of hN8 (fun j h1 h2 => qs) qo (by simp only [nx_set]; omega))⟩)
        | fail); done)
    | fail)
end Go.Proofs.YtcfmccafbknleaaDoor.Ya
