/-
  Replies: their bytes.
-/
import Derived.Test.YtpoccinfeekdhaaDoorYaBkB
import Derived.Test.YtpoccinfeekdhaaDoorYbL
namespace Go.Proofs.YtpoccinfeekdhaaDoor.Ya.B
open Go.Ya Go.Ya.Na
set_option linter.unusedVariables false
set_option linter.unusedSimpArgs false
set_option maxRecDepth 100000
set_option maxHeartbeats 8000000
def encNs (l : List Bs) (i : Nat) : List Int := (l.take i).flatMap encB
theorem encNs_0 (l : List Bs) : encNs l 0 = [] := rfl
theorem encNs_s {l : List Bs} {i : Nat} (hi : i < l.length) : encNs l (i + 1) = encNs l i ++ encB (l.getD i default) := by
  unfold encNs
  rw [List.take_add_one, List.getElem?_eq_getElem hi, List.getD_eq_getElem?_getD, List.getElem?_eq_getElem hi, List.flatMap_append]
  simp
def enc4 (l : List Int) (i : Nat) : List Int := (l.take i).flatMap fun n => beL n 4
theorem enc4_len {l : List Int} {i : Nat} : (enc4 l i).length ≤ 4 * l.length := by
  have : ∀ m : List Int, (m.flatMap fun n => beL n 4).length = 4 * m.length := fun m => by
    induction m with
    | nil => rfl
    | cons a m ih => rw [List.flatMap_cons, List.length_append, ih, beL_len, List.length_cons]; omega
  unfold enc4
  rw [this, List.length_take]; omega
def encA (z : Bk) : List Int := [] ++ beL z.client 4 ++ beL z.inc 4 ++ beL z.seq 8
def encC (z : Bk) : List Int := encA z ++ enc4 [z.status, z.boot, z.ino, z.gen] 4 ++ beL (if z.dir = true then 1 else 0) 4 ++ beL z.size 4 ++ beL z.change 8 ++ beL z.before 8 ++ encB z.data ++ beL z.names.length 4
def encP (z : Bk) : List Int := encC z ++ encNs z.names z.names.length
theorem encA_len (z : Bk) : (encA z).length = 16 := by simp [encA, beL_len]
theorem encC_len (z : Bk) : (encC z).length ≤ 100 + (encB z.data).length := by
  have := enc4_len (l := [z.status, z.boot, z.ino, z.gen]) (i := 4)
  simp only [encC, List.length_append, encA_len, beL_len, List.length_cons, List.length_nil] at *
  omega
theorem may_bd {z : Bk} (h : mayB z = true) : z.data.length ≤ 64 ∧ z.names.length ≤ 32 ∧ ∀ i, i < z.names.length → (z.names.getD i default).length ≤ 32 := by
  unfold mayB at h
  rw [Bool.and_eq_true, decide_eq_true_eq] at h
  refine ⟨h.1.2.2.2.2.2.1, h.1.2.2.2.2.2.2, fun i hi => ?_⟩
  have := h.2
  unfold mayN at this
  rw [List.all_eq_true] at this
  have := this i (List.mem_range.2 hi)
  unfold okN at this
  rw [Bool.and_eq_true] at this
  exact (isP_len this.1).2
theorem encNs_le {l : List Bs} (h : ∀ i, i < l.length → (l.getD i default).length ≤ 32) : ∀ i, i ≤ l.length → (encNs l i).length ≤ 40 * i
  | 0, _ => Nat.zero_le _
  | i + 1, hi => by
    have := encNs_le h i qo
    have h1 := h i qo
    have h2 := padN_le (l.getD i default).length
    rw [encNs_s qo, List.length_append, encB_len]; omega
theorem t9 : tab 9 = some ⟨100, [.tmp 2, .tmp 3], b9⟩ := rfl
theorem encC_doc (z : Bk) : encC z = beL z.client 4 ++ beL z.inc 4 ++ beL z.seq 8 ++ beL z.status 4 ++ beL z.boot 4 ++ beL z.ino 4 ++ beL z.gen 4 ++ beL (if z.dir = true then 1 else 0) 4 ++ beL z.size 4 ++ beL z.change 8 ++ beL z.before 8 ++ encB z.data ++ beL z.names.length 4 := by simp [encC, encA, enc4]
theorem fresh_at {H : Heap} {s : Bs} : BytesAt (H.alloc (.cells (s.map (AV.int .u8)) false)) (.slice H.next 0 s.length s.length false 1) s := .inr ⟨_, 0, _, _, _, _, rfl, Nat.le_refl _, ga_new rfl, by simp, by simp [ints, List.take_of_length_le]⟩
theorem ref_Put (z : Bk) {h : Heap} (hz : BkAt h z) (ho : BkOk z) : Runs (xcall X1 tab (.fn 9) [.agg [.int .u8 z.client, .int .u32 z.inc, .int .u64 z.seq, .int .u8 z.status, .int .u32 z.ino, .int .u32 z.gen, .bool z.dir, .int .u32 z.size, .int .u64 z.change, .int .u64 z.before, z.dv, z.nv, .int .u32 z.boot]] h) fun v h' => Grow h h' ∧ ∃ q, v = .tuple [q, .int .i64 (if mayB z = true then 0 else 2)] ∧ ((mayB z = false ∧ q = .nilsl) ∨ (mayB z = true ∧ OwB h.next h' q (encP z))) := by
  refine Runs.intro fun K hK => ?_
  have hz0 := hz
  obtain ⟨hd, hn, hyd, hyn, hld, hln⟩ := hz
  have ho0 := ho
  obtain ⟨o1, o2, o3, o4, o5, o6, o7, o8, o9, o10⟩ := ho
  have hfd := BytesAt.flat' hd
  have hcd := cells_of hfd
  have hfn := hn.flat
  have hcn := cells_of hfn
  have hpd := padN_le z.data.length
  rw [w_fn rfl t9 (Nat.le_of_ble_eq_true rfl)]
  delta b9
  repeat' (first
    | simp (disch := first | exact qd | fail) only [WB, ↓WP, ↓WL, WR, WC, if_true, if_false, ite_true, ite_false, aop, ev, evs, readsA, List.replicate, numF, unA, resA, tupA, loadA, storeA, splice, fillA, kindsOk, plainEq, ↓reduceIte, Nat.reduceEqDiff, Nat.reduceLT, Int.reduceToNat, Int.reduceBEq, Int.reduceBNe, Nat.reduceAdd, Nat.reduceMul, Nat.reduceLeDiff, Int.reduceLT, Int.reduceSub, Int.reduceAdd, hfd, hcd, hfn, hcn, encT_def]
    | ((first | refine atC ?_ ?_ | refine atG ?_ ?_ | refine atH ?_ ?_ | refine atP ?_ ?_) <;> intro hc <;> (try rw [hc]) <;> (try simp only [BD] at hc) <;> try (exfalso; omega))
    | ((first
      | (refine Runs.call (ref_May z (hz0.grow qg) ho0) ?_; rintro _ H1 ⟨rfl, gr⟩; have hgb : H1.get h.next = some (.cells [.int .u8 z.client, .int .u32 z.inc, .int .u64 z.seq, .int .u8 z.status, .int .u32 z.ino, .int .u32 z.gen, .bool z.dir, .int .u32 z.size, .int .u64 z.change, .int .u64 z.before, z.dv, z.nv, .int .u32 z.boot] false) := qs; have hlt1 := Heap.lt_of_get hgb; have hbd := fun q => may_bd (z := z) q; have gA : Grow h H1 := qg)
      | (refine Runs.call (d_Number qo qo _) ?_; rintro _ HN ⟨gr, hB⟩; have hfb := hB.fl; have hcb := cells_of hfb; have hgb := gr.get hgb; have gA := gA.trans gr; (first | have hO := hO.grow gr | have hO := hB); have on := hO.num)
      | (refine Runs.call (d_Great qo qo _) ?_; rintro _ HN ⟨gr, hB⟩; have hfb := hB.fl; have hcb := cells_of hfb; have hgb := gr.get hgb; have gA := gA.trans gr; (first | have hO := hO.grow gr | have hO := hB); have on := hO.num)
      | (refine Runs.call (d_Truth _) ?_; rintro _ HN ⟨gr, hB⟩; have hfb := hB.fl; have hcb := cells_of hfb; have hgb := gr.get hgb; have gA := gA.trans gr; (first | have hO := hO.grow gr | have hO := hB); have on := hO.num)
      | (refine Runs.call (d_Bytes (hd.grow gA) qo) ?_; rintro _ HN ⟨gr, hB⟩; have hfb := hB.fl; have hcb := cells_of hfb; have hgb := gr.get hgb; have gA := gA.trans gr; (first | have hO := hO.grow gr | have hO := hB); have on := hO.num)
      | (refine Runs.call (OwB.app hO qo hB.at.src (by simp only [List.length_append, List.length_nil, beL_len, encB_len, encA_len]; omega)) ?_; rintro bN HN ⟨hO, ha⟩; have gA := ha.grow gA qo; have hgb := (ha.get (Heap.lt_of_get hgb) qo).trans hgb; have hfo := hO.fl; have hco := cells_of hfo; have on := hO.num; have an := ha.num; clear ha)
      | fail); all_goals ((try (have gn := gr.1; try simp only [nx_alloc, nx_set] at gn)); (try (have an := ha.num; try simp only [nx_alloc, nx_set, own_sl, own_nil] at an)); (try (have on := hO.num; try simp only [nx_alloc, nx_set] at on)); (try (have kn := hk.1; try simp only [nx_alloc, nx_set] at kn)); try have hB := hO.at)))
  all_goals try (first
    | (refine hK _ _ ?_; (first | exact ⟨gA, .nilsl, by simp_all, .inl ⟨by assumption, rfl⟩⟩ | (obtain rfl : i = z.names.length := qo; exact ⟨gA, o, by rw [if_pos (by assumption)], .inr ⟨by assumption, hO.le qo⟩⟩) | fail); done)
    | fail)
  all_goals
    refine wloop (α := Nat × AV) [1] (fun x => [(4, x.2), (5, .int .i64 (x.1 : Nat))]) (fun x H => OwB H1.next H x.2 (encC z ++ encNs z.names x.1) ∧ Grow h H ∧ H.get h.next = some (.cells [.int .u8 z.client, .int .u32 z.inc, .int .u64 z.seq, .int .u8 z.status, .int .u32 z.ino, .int .u32 z.gen, .bool z.dir, .int .u32 z.size, .int .u64 z.change, .int .u64 z.before, z.dv, z.nv, .int .u32 z.boot] false) ∧ H1.next ≤ H.next ∧ x.1 ≤ z.names.length) (fun x => z.names.length - x.1) ?_ ((0, bN)) ?_ ?_
    rotate_left
    · exact qf
    · (try dsimp only)
      exact ⟨by (rw [encNs_0, List.append_nil, encC_doc]; exact hO), gA, hgb, by omega, by omega⟩
    intro x b1 H hI ih
    obtain ⟨i, o⟩ := x
    try dsimp only at hI
    obtain ⟨hO, g, hgb, hHn, hi⟩ := hI
    have gA := g
    have on := hO.num
    have hfo := hO.fl
    have hco := cells_of hfo
    have hm3 := hbd (by assumption)
    have hnl := encNs_le hm3.2.2 i qo
    have hcl := encC_len z
    have hel := encB_len z.data
    have hkk := fun q => hm3.2.2 i q
    have hpi := padN_le (z.names.getD i default).length
    have hlt := Heap.lt_of_get hgb
    try have gn := g.1
    refine w_unfold (by delta L9_0; rfl) ?_
    simp only [keeps_nil, keeps_cons, List.cons_append, List.nil_append, lk_cons, lk_nil, numF, Nat.reduceEqDiff, Nat.reduceAdd, Nat.zero_add, ↓reduceIte]
    repeat' (first
      | simp (disch := first | exact qd | fail) only [WB, ↓WP, ↓WL, WR, WC, if_true, if_false, ite_true, ite_false, aop, ev, evs, readsA, List.replicate, numF, unA, resA, tupA, loadA, storeA, splice, fillA, kindsOk, plainEq, ↓reduceIte, Nat.reduceEqDiff, Nat.reduceLT, Int.reduceToNat, Int.reduceBEq, Int.reduceBNe, Nat.reduceAdd, Nat.reduceMul, Nat.reduceLeDiff, Int.reduceLT, Int.reduceSub, Int.reduceAdd, hfd, hcd, hfn, hcn, encT_def]
      | ((first | refine atC ?_ ?_ | refine atG ?_ ?_ | refine atH ?_ ?_ | refine atP ?_ ?_) <;> intro hc <;> (try rw [hc]) <;> (try simp only [BD] at hc) <;> try (exfalso; omega))
      | ((first
        | (refine Runs.call (ref_May z (hz0.grow qg) ho0) ?_; rintro _ H1 ⟨rfl, gr⟩; have hgb : H1.get h.next = some (.cells [.int .u8 z.client, .int .u32 z.inc, .int .u64 z.seq, .int .u8 z.status, .int .u32 z.ino, .int .u32 z.gen, .bool z.dir, .int .u32 z.size, .int .u64 z.change, .int .u64 z.before, z.dv, z.nv, .int .u32 z.boot] false) := qs; have hlt1 := Heap.lt_of_get hgb; have hbd := fun q => may_bd (z := z) q; have gA : Grow h H1 := qg)
        | (refine Runs.call (d_Number qo qo _) ?_; rintro _ HN ⟨gr, hB⟩; have hfb := hB.fl; have hcb := cells_of hfb; have hgb := gr.get hgb; have gA := gA.trans gr; (first | have hO := hO.grow gr | have hO := hB); have on := hO.num)
        | (refine Runs.call (d_Great qo qo _) ?_; rintro _ HN ⟨gr, hB⟩; have hfb := hB.fl; have hcb := cells_of hfb; have hgb := gr.get hgb; have gA := gA.trans gr; (first | have hO := hO.grow gr | have hO := hB); have on := hO.num)
        | (refine Runs.call (d_Truth _) ?_; rintro _ HN ⟨gr, hB⟩; have hfb := hB.fl; have hcb := cells_of hfb; have hgb := gr.get hgb; have gA := gA.trans gr; (first | have hO := hO.grow gr | have hO := hB); have on := hO.num)
        | (refine Runs.call (d_Bytes (hd.grow gA) qo) ?_; rintro _ HN ⟨gr, hB⟩; have hfb := hB.fl; have hcb := cells_of hfb; have hgb := gr.get hgb; have gA := gA.trans gr; (first | have hO := hO.grow gr | have hO := hB); have on := hO.num)
        | (refine Runs.call (OwB.app hO qo hB.at.src (by simp only [List.length_append, List.length_nil, beL_len, encB_len, encA_len]; omega)) ?_; rintro bN HN ⟨hO, ha⟩; have gA := ha.grow gA qo; have hgb := (ha.get (Heap.lt_of_get hgb) qo).trans hgb; have hfo := hO.fl; have hco := cells_of hfo; have on := hO.num; have an := ha.num; clear ha)
        | (refine Runs.call (d_Bytes fresh_at qo) ?_; rintro _ HN ⟨gr, hB⟩; have gs := (Grow.alloc _ _).trans gr; have hgs := gs.1; have hfb := hB.fl; have hcb := cells_of hfb; have hgb := gs.get hgb; have gA := gA.trans gs; have hO := hO.grow gs; have on := hO.num)
        | fail); all_goals ((try (have gn := gr.1; try simp only [nx_alloc, nx_set] at gn)); (try (have an := ha.num; try simp only [nx_alloc, nx_set, own_sl, own_nil] at an)); (try (have on := hO.num; try simp only [nx_alloc, nx_set] at on)); (try (have kn := hk.1; try simp only [nx_alloc, nx_set] at kn)); try have hB := hO.at)))
    all_goals try (first
      | exact ih ((i + 1, bN)) _ _ _ (by ((try dsimp only); omega)) qf (by ((try dsimp only); (first | (exact ⟨by (rw [encNs_s qo, ← List.append_assoc]; exact hO), gA, hgb, by omega, by omega⟩) | fail)))
      | (refine hK _ _ ?_; (first | exact ⟨gA, .nilsl, by simp_all, .inl ⟨by assumption, rfl⟩⟩ | (obtain rfl : i = z.names.length := qo; exact ⟨gA, o, by rw [if_pos (by assumption)], .inr ⟨by assumption, hO.le qo⟩⟩) | fail); done)
      | fail)
end Go.Proofs.YtpoccinfeekdhaaDoor.Ya.B
