/-
  Replies: their bytes.
-/
import Derived.Test.YtdmabiefaeidmaaDoorYaBkB
import Derived.Test.YtdmabiefaeidmaaDoorYbL
namespace Go.Proofs.YtdmabiefaeidmaaDoor.Ya
open Go.Ya Go.Ya.Na
set_option linter.unusedVariables false
set_option linter.unusedSimpArgs false
set_option maxRecDepth 100000
set_option maxHeartbeats 8000000
def encNs (l : List Bs) (i : Nat) : List Int := (l.take i).flatMap encB
theorem encNs_0 (l : List Bs) : encNs l 0 = [] := rfl
theorem encNs_s {l : List Bs} {i : Nat} (hi : i < l.length) : encNs l (i + 1) = encNs l i ++ encB (l.getD i default) := by
  unfold encNs
  rw [List.take_add_one, List.getElem?_eq_getElem hi, List.getD_eq_getElem?_getD, List.getElem?_eq_getElem hi, List.flatMap_append]
  simp
def enc4 (l : List Int) (i : Nat) : List Int := (l.take i).flatMap fun n => beL n 4
theorem enc4_s {l : List Int} {i : Nat} (hi : i < l.length) : enc4 l (i + 1) = enc4 l i ++ beL (l.getD i 0) 4 := by
  unfold enc4
  rw [List.take_add_one, List.getElem?_eq_getElem hi, List.getD_eq_getElem?_getD, List.getElem?_eq_getElem hi, List.flatMap_append]
  simp
theorem enc4_len {l : List Int} {i : Nat} : (enc4 l i).length ≤ 4 * l.length := by
  have : ∀ m : List Int, (m.flatMap fun n => beL n 4).length = 4 * m.length := fun m => by
    induction m with
    | nil => rfl
    | cons a m ih => rw [List.flatMap_cons, List.length_append, ih, beL_len, List.length_cons]; omega
  unfold enc4
  rw [this, List.length_take]; omega
def encA (z : Bk) : List Int := [] ++ beL z.client 4 ++ beL z.inc 4 ++ beL z.seq 8
def encC (z : Bk) : List Int := encA z ++ enc4 [z.status, z.boot, z.ino, z.gen] 4 ++ beL (if z.dir = true then 1 else 0) 4 ++ beL z.size 4 ++ beL z.change 8 ++ beL z.before 8 ++ encB z.data ++ beL z.names.length 4
def encP (z : Bk) : List Int := encC z ++ encNs z.names z.names.length
theorem encA_len (z : Bk) : (encA z).length = 16 := by simp [encA, beL_len]
theorem encC_len (z : Bk) : (encC z).length ≤ 100 + (encB z.data).length := by
  have := enc4_len (l := [z.status, z.boot, z.ino, z.gen]) (i := 4)
  simp only [encC, List.length_append, encA_len, beL_len, List.length_cons, List.length_nil] at *
  omega
theorem may_bd {z : Bk} (h : mayB z = true) : z.data.length ≤ 64 ∧ z.names.length ≤ 32 ∧ ∀ i, i < z.names.length → (z.names.getD i default).length ≤ 32 := by
  unfold mayB at h
  rw [Bool.and_eq_true, decide_eq_true_eq] at h
  refine ⟨h.1.2.2.2.2.2.1, h.1.2.2.2.2.2.2, fun i hi => ?_⟩
  have := h.2
  unfold mayN at this
  rw [List.all_eq_true] at this
  have := this i (List.mem_range.2 hi)
  unfold okN at this
  rw [Bool.and_eq_true] at this
  exact (isP_len this.1).2
theorem encNs_le {l : List Bs} (h : ∀ i, i < l.length → (l.getD i default).length ≤ 32) : ∀ i, i ≤ l.length → (encNs l i).length ≤ 40 * i
  | 0, _ => Nat.zero_le _
  | i + 1, hi => by
    have := encNs_le h i qo
    have h1 := h i qo
    have h2 := padN_le (l.getD i default).length
    rw [encNs_s qo, List.length_append, encB_len]; omega
def encI (n : Int) : List AV := [.int .u32 n]
theorem encI_def (n : Int) : encI n = [.int .u32 n] := rfl
theorem rd4 {h : Heap} {id cap : Nat} {ex ro : Bool} {a b c d : Int} (hg : h.get id = some (.cells [.int .u32 a, .int .u32 b, .int .u32 c, .int .u32 d] ro)) : Rd 1 h (.slice id 0 4 cap ex 1) ([a, b, c, d].map encI) :=
  ⟨fun r hr => by obtain ⟨q, _, rfl⟩ := List.mem_map.1 hr; rfl, .inr ⟨id, 0, cap, ex, _, ro, rfl, hg, by simp, by simp [encI]⟩⟩
theorem get4 {P : Int → Prop} {a b c d : Int} (h1 : P a) (h2 : P b) (h3 : P c) (h4 : P d) {i : Nat} (hi : i < 4) : P ([a, b, c, d].getD i default) := by
  have : i = 0 ∨ i = 1 ∨ i = 2 ∨ i = 3 := by omega
  rcases this with rfl | rfl | rfl | rfl <;> assumption
def L11_0 : SC := (.seq (.ops [⟨some 43, .bin (.lss) (.other) (.t 42) (.t 41), none⟩]) (.seq (.cond (.t 43) .skip (.exit 0)) (.seq (.block 1 (.seq (.ops [⟨some 44, .idxAddrSl 1 (.t 40) (.t 42), none⟩, ⟨some 45, .load false 1 (.t 44), none⟩, ⟨some 6, .mov (.t 45), none⟩]) (.ops [⟨some 46, .mov (.t 4), none⟩, ⟨some 47, .mov (.t 6), none⟩, ⟨some 48, .call 31 [.t 46, .t 47], none⟩]))) (.ops [⟨some 49, .bin (.add) (.other) (.t 42) (.c (.int (.i64) 1)), none⟩, ⟨some 42, .mov (.t 49), none⟩]))))
def L11_1 : SC := (.seq (.ops [⟨some 83, .bin (.lss) (.other) (.t 82) (.t 81), none⟩]) (.seq (.cond (.t 83) .skip (.exit 2)) (.seq (.block 3 (.seq (.ops [⟨some 84, .idxAddrSl 1 (.t 80) (.t 82), none⟩, ⟨some 85, .load false 1 (.t 84), none⟩, ⟨some 8, .mov (.t 85), none⟩]) (.ops [⟨some 86, .mov (.t 4), none⟩, ⟨some 87, .mov (.t 8), none⟩, ⟨some 88, .strToBytes (.t 87), none⟩, ⟨some 89, .call 34 [.t 86, .t 88], none⟩]))) (.ops [⟨some 90, .bin (.add) (.other) (.t 82) (.c (.int (.i64) 1)), none⟩, ⟨some 82, .mov (.t 90), none⟩]))))
def b11 : SC := (.seq (.ops [⟨some 1, .box (.t 0), none⟩, ⟨some 2, .mov (.c (.nilsl)), none⟩, ⟨some 3, .mov (.c (.int (.i64) 0)), none⟩]) (.seq (.seq (.ops [⟨some 9, .load true 13 (.t 1), none⟩, ⟨some 10, .call 14 [.t 9], none⟩, ⟨some 11, .un (.not) (.t 10), none⟩]) (.cond (.t 11) (.seq (.ops [⟨some 2, .mov (.c (.nilsl)), none⟩, ⟨some 3, .mov (.c (.int (.i64) 2)), none⟩]) .ret) .skip)) (.seq (.ops [⟨some 12, .build [.nilsl] [], none⟩, ⟨some 13, .box (.t 12), none⟩, ⟨some 4, .mov (.t 13), none⟩]) (.seq (.ops [⟨some 14, .mov (.t 4), none⟩, ⟨some 15, .fieldAddr 0 (.t 1), none⟩, ⟨some 16, .load false 1 (.t 15), none⟩, ⟨some 17, .convInt (.u32) (.t 16), none⟩, ⟨some 18, .call 31 [.t 14, .t 17], none⟩]) (.seq (.ops [⟨some 19, .mov (.t 4), none⟩, ⟨some 20, .fieldAddr 1 (.t 1), none⟩, ⟨some 21, .load false 1 (.t 20), none⟩, ⟨some 22, .call 31 [.t 19, .t 21], none⟩]) (.seq (.ops [⟨some 23, .mov (.t 4), none⟩, ⟨some 24, .fieldAddr 2 (.t 1), none⟩, ⟨some 25, .load false 1 (.t 24), none⟩, ⟨some 26, .call 32 [.t 23, .t 25], none⟩]) (.seq (.seq (.ops [⟨some 27, .fieldAddr 3 (.t 1), none⟩, ⟨some 28, .load false 1 (.t 27), none⟩, ⟨some 29, .convInt (.u32) (.t 28), none⟩, ⟨some 30, .fieldAddr 12 (.t 1), none⟩, ⟨some 31, .load false 1 (.t 30), none⟩, ⟨some 32, .fieldAddr 4 (.t 1), none⟩, ⟨some 33, .fieldAddr 0 (.t 32), none⟩, ⟨some 34, .fieldAddr 0 (.t 33), none⟩, ⟨some 35, .load false 1 (.t 34), none⟩, ⟨some 36, .fieldAddr 4 (.t 1), none⟩, ⟨some 37, .fieldAddr 0 (.t 36), none⟩, ⟨some 38, .fieldAddr 1 (.t 37), none⟩, ⟨some 39, .load false 1 (.t 38), none⟩, ⟨some 40, .buildSlice [.int (.u32) 0, .int (.u32) 0, .int (.u32) 0, .int (.u32) 0] 4 1 [(0, 1, .t 29), (1, 1, .t 31), (2, 1, .t 35), (3, 1, .t 39)], none⟩, ⟨some 41, .len (.sl) (.t 40), none⟩, ⟨some 42, .mov (.c (.int (.i64) 0)), none⟩]) (.block 0 (.loop L11_0))) (.seq (.ops [⟨some 50, .mov (.t 4), none⟩, ⟨some 51, .fieldAddr 4 (.t 1), none⟩, ⟨some 52, .fieldAddr 2 (.t 51), none⟩, ⟨some 53, .load false 1 (.t 52), none⟩, ⟨some 54, .call 33 [.t 50, .t 53], none⟩]) (.seq (.ops [⟨some 55, .mov (.t 4), none⟩, ⟨some 56, .fieldAddr 4 (.t 1), none⟩, ⟨some 57, .fieldAddr 3 (.t 56), none⟩, ⟨some 58, .load false 1 (.t 57), none⟩, ⟨some 59, .call 31 [.t 55, .t 58], none⟩]) (.seq (.ops [⟨some 60, .mov (.t 4), none⟩, ⟨some 61, .fieldAddr 4 (.t 1), none⟩, ⟨some 62, .fieldAddr 4 (.t 61), none⟩, ⟨some 63, .load false 1 (.t 62), none⟩, ⟨some 64, .call 32 [.t 60, .t 63], none⟩]) (.seq (.ops [⟨some 65, .mov (.t 4), none⟩, ⟨some 66, .fieldAddr 9 (.t 1), none⟩, ⟨some 67, .load false 1 (.t 66), none⟩, ⟨some 68, .call 32 [.t 65, .t 67], none⟩]) (.seq (.ops [⟨some 69, .mov (.t 4), none⟩, ⟨some 70, .fieldAddr 10 (.t 1), none⟩, ⟨some 71, .load false 1 (.t 70), none⟩, ⟨some 72, .call 34 [.t 69, .t 71], none⟩]) (.seq (.ops [⟨some 73, .mov (.t 4), none⟩, ⟨some 74, .fieldAddr 11 (.t 1), none⟩, ⟨some 75, .load false 1 (.t 74), none⟩, ⟨some 76, .len (.sl) (.t 75), none⟩, ⟨some 77, .convInt (.u32) (.t 76), none⟩, ⟨some 78, .call 31 [.t 73, .t 77], none⟩]) (.seq (.seq (.ops [⟨some 79, .fieldAddr 11 (.t 1), none⟩, ⟨some 80, .load false 1 (.t 79), none⟩, ⟨some 81, .len (.sl) (.t 80), none⟩, ⟨some 82, .mov (.c (.int (.i64) 0)), none⟩]) (.block 2 (.loop L11_1))) (.seq (.ops [⟨some 91, .mov (.t 4), none⟩, ⟨some 92, .call 35 [.t 91], none⟩, ⟨some 2, .mov (.t 92), none⟩, ⟨some 3, .mov (.c (.int (.i64) 0)), none⟩]) .ret)))))))))))))))
theorem t11 : tab 11 = some ⟨93, [.tmp 2, .tmp 3], b11⟩ := rfl
theorem k_Put (z : Bk) {h : Heap} (hz : BkAt h z) (ho : BkOk z) : Runs (xcall X1 tab (.fn 11) [.agg [.int .u8 z.client, .int .u32 z.inc, .int .u64 z.seq, .int .u8 z.status, .int .u32 z.ino, .int .u32 z.gen, .bool z.dir, .int .u32 z.size, .int .u64 z.change, .int .u64 z.before, z.dv, z.nv, .int .u32 z.boot]] h) fun v h' => Grow h h' ∧ ∃ q, v = .tuple [q, .int .i64 (if mayB z = true then 0 else 2)] ∧ ((mayB z = false ∧ q = .nilsl) ∨ (mayB z = true ∧ NewBytes h h' q (encP z))) := by
  refine Runs.intro fun K hK => ?_
  have hz0 := hz
  obtain ⟨hd, hn, hyd, hyn, hld, hln⟩ := hz
  have ho0 := ho
  obtain ⟨o1, o2, o3, o4, o5, o6, o7, o8, o9, o10⟩ := ho
  have hfd := BytesAt.flat' hd
  have hcd := cells_of hfd
  have hfn := hn.flat
  have hcn := cells_of hfn
  have hpd := padN_le z.data.length
  rw [w_fn rfl t11 (Nat.le_of_ble_eq_true rfl)]
  delta b11
  repeat' (first
    | simp (disch := first | exact qd | fail) only [WB, ↓WP, ↓WL, WR, WC, if_true, if_false, ite_true, ite_false, aop, ev, evs, readsA, List.replicate, numF, unA, resA, tupA, loadA, storeA, splice, fillA, kindsOk, plainEq, ↓reduceIte, Nat.reduceEqDiff, Nat.reduceLT, Int.reduceToNat, Int.reduceBEq, Int.reduceBNe, Nat.reduceAdd, Nat.reduceMul, Nat.reduceLeDiff, Int.reduceLT, Int.reduceSub, Int.reduceAdd, hfd, hcd, hfn, hcn, encT_def, encI_def]
    | ((first | refine atC ?_ ?_ | refine atG ?_ ?_ | refine atH ?_ ?_ | refine atP ?_ ?_) <;> intro hc <;> (try rw [hc]) <;> (try simp only [BD] at hc) <;> try (exfalso; omega))
    | ((first
      | (refine Runs.call (k_May z (hz0.grow qg) ho0) ?_; rintro _ H1 ⟨rfl, gr⟩; have hg1 : H1.get h.next = some (.cells [.int .u8 z.client, .int .u32 z.inc, .int .u64 z.seq, .int .u8 z.status, .int .u32 z.ino, .int .u32 z.gen, .bool z.dir, .int .u32 z.size, .int .u64 z.change, .int .u64 z.before, z.dv, z.nv, .int .u32 z.boot] false) := qs; have hlt1 := Heap.lt_of_get hg1; have hbd := fun q => may_bd (z := z) q; have gh1 : Grow h H1 := qg; have hd1 := hd.grow gh1; have hn1 := hn.grow gh1)
      | (refine Runs.call (w_Number (h0 := H1) qg (by first | assumption | exact Wr.new (Nat.le_refl _)) qo qo (by simp only [List.length_append, List.length_nil, beL_len, encB_len, encA_len]; omega)) ?_; rintro _ HN ⟨gr, fN, kN⟩; have hgb := gr.get hg1)
      | (refine Runs.call (w_Great (h0 := H1) qg (by first | assumption | exact Wr.new (Nat.le_refl _)) qo qo (by simp only [List.length_append, List.length_nil, beL_len, encB_len, encA_len]; omega)) ?_; rintro _ HN ⟨gr, fN, kN⟩; have hgb := gr.get hg1)
      | fail); all_goals ((try (have gn := gr.1; try simp only [nx_alloc, nx_set] at gn)); (try (have an := ha.num; try simp only [nx_alloc, nx_set, own_sl, own_nil] at an)); (try (have on := hO.num; try simp only [nx_alloc, nx_set] at on)); (try (have kn := hk.1; try simp only [nx_alloc, nx_set] at kn)); try have hB := hO.at)))
  all_goals try (first
    | (refine hK _ _ ?_; (first | exact ⟨qg, .nilsl, by simp_all, .inl ⟨by assumption, rfl⟩⟩ | (obtain rfl : k = z.names.length := qo; exact ⟨qg, v9, by rw [if_pos (by assumption)], .inr ⟨by assumption, NewBytes.le hN9 (by have := g.1; omega)⟩⟩) | fail); done)
    | fail)
  all_goals
    refine wloop (α := Nat) [1, 4, 40, 41] (fun x => [(42, .int .i64 (x : Nat))]) (fun x H => Grow H1 H ∧ Wr H1.next H H1.next (encA z ++ enc4 [z.status, z.boot, z.ino, z.gen] x) ∧ Wf H1.next (HN.alloc (.cells [.int .u32 z.status, .int .u32 z.boot, .int .u32 z.ino, .int .u32 z.gen] false)) H ∧ x ≤ 4) (fun x => 4 - x) ?_ (0) ?_ ?_
    rotate_left
    · exact qf
    · (try dsimp only)
      exact ⟨qg, fN.grow (Grow.alloc _ _), Wf.of (Grow.refl _), by omega⟩
    intro i b1 H hI ih
    try dsimp only at hI
    obtain ⟨g, fI, kI, hi⟩ := hI
    have hgb := g.get hg1
    have hR := rd4 (cap := 4) (ex := true) (Wr.slot fN kI)
    have h4l := enc4_len (l := [z.status, z.boot, z.ino, z.gen]) (i := i)
    simp only [List.length_cons, List.length_nil] at h4l
    have hb4 := fun q : i < 4 => get4 (P := fun n => 0 ≤ n ∧ n ≤ 4294967295) (a := z.status) (b := z.boot) (c := z.ino) (d := z.gen) qo o10 o5 o6 q
    try have gn := g.1
    refine w_unfold (by delta L11_0; rfl) ?_
    simp only [keeps_nil, keeps_cons, List.cons_append, List.nil_append, lk_cons, lk_nil, numF, Nat.reduceEqDiff, Nat.reduceAdd, Nat.zero_add, ↓reduceIte]
    repeat' (first
      | simp (disch := first | exact qd | fail) only [WB, ↓WP, ↓WL, WR, WC, if_true, if_false, ite_true, ite_false, aop, ev, evs, readsA, List.replicate, numF, unA, resA, tupA, loadA, storeA, splice, fillA, kindsOk, plainEq, ↓reduceIte, Nat.reduceEqDiff, Nat.reduceLT, Int.reduceToNat, Int.reduceBEq, Int.reduceBNe, Nat.reduceAdd, Nat.reduceMul, Nat.reduceLeDiff, Int.reduceLT, Int.reduceSub, Int.reduceAdd, hfd, hcd, hfn, hcn, encT_def, encI_def]
      | ((first | refine atC ?_ ?_ | refine atG ?_ ?_ | refine atH ?_ ?_ | refine atP ?_ ?_) <;> intro hc <;> (try rw [hc]) <;> (try simp only [BD] at hc) <;> try (exfalso; omega))
      | ((first
        | (refine Runs.call (k_May z (hz0.grow qg) ho0) ?_; rintro _ H1 ⟨rfl, gr⟩; have hg1 : H1.get h.next = some (.cells [.int .u8 z.client, .int .u32 z.inc, .int .u64 z.seq, .int .u8 z.status, .int .u32 z.ino, .int .u32 z.gen, .bool z.dir, .int .u32 z.size, .int .u64 z.change, .int .u64 z.before, z.dv, z.nv, .int .u32 z.boot] false) := qs; have hlt1 := Heap.lt_of_get hg1; have hbd := fun q => may_bd (z := z) q; have gh1 : Grow h H1 := qg; have hd1 := hd.grow gh1; have hn1 := hn.grow gh1)
        | (refine Runs.call (w_Number (h0 := H1) qg (by first | assumption | exact Wr.new (Nat.le_refl _)) qo qo (by simp only [List.length_append, List.length_nil, beL_len, encB_len, encA_len]; omega)) ?_; rintro _ HN ⟨gr, fN, kN⟩; have hgb := gr.get hg1)
        | (refine Runs.call (w_Great (h0 := H1) qg (by first | assumption | exact Wr.new (Nat.le_refl _)) qo qo (by simp only [List.length_append, List.length_nil, beL_len, encB_len, encA_len]; omega)) ?_; rintro _ HN ⟨gr, fN, kN⟩; have hgb := gr.get hg1)
        | (refine Runs.call (w_Truth (h0 := H1) qg (by assumption) (by simp only [List.length_append, List.length_nil, beL_len, encB_len, encA_len]; omega)) ?_; rintro _ HN ⟨gr, fN, kN⟩; have hgb := gr.get hg1; clear hR kI)
        | (refine Runs.call (w_Bytes (h0 := H1) qg (by assumption) (Wr.entry (by assumption) qg hd1) qo (by simp only [List.length_append, List.length_nil, beL_len, encB_len, encA_len]; omega)) ?_; rintro _ HN ⟨gr, fN, kN⟩; have hgb := gr.get hg1)
        | fail); all_goals ((try (have gn := gr.1; try simp only [nx_alloc, nx_set] at gn)); (try (have an := ha.num; try simp only [nx_alloc, nx_set, own_sl, own_nil] at an)); (try (have on := hO.num; try simp only [nx_alloc, nx_set] at on)); (try (have kn := hk.1; try simp only [nx_alloc, nx_set] at kn)); try have hB := hO.at)))
    all_goals try (first
      | exact ih (i + 1) _ _ _ (by ((try dsimp only); omega)) qf (by ((try dsimp only); (first | (exact ⟨gr, by (rw [enc4_s (by simp only [List.length_cons, List.length_nil]; omega), ← List.append_assoc]; exact fN), kI.trans kN, by omega⟩) | fail)))
      | (refine hK _ _ ?_; (first | exact ⟨qg, .nilsl, by simp_all, .inl ⟨by assumption, rfl⟩⟩ | (obtain rfl : k = z.names.length := qo; exact ⟨qg, v9, by rw [if_pos (by assumption)], .inr ⟨by assumption, NewBytes.le hN9 (by have := g.1; omega)⟩⟩) | fail); done)
      | fail)
  all_goals
    refine wloop (α := Nat) [4, 80, 81] (fun x => [(82, .int .i64 (x : Nat))]) (fun x H => Grow H1 H ∧ Wr H1.next H H1.next (encC z ++ encNs z.names x) ∧ x ≤ z.names.length) (fun x => z.names.length - x) ?_ (0) ?_ ?_
    rotate_left
    · exact qf
    · (try dsimp only)
      (obtain rfl : i = 4 := qo; exact ⟨qg, by (rw [encNs_0, List.append_nil]; exact fN), by omega⟩)
    intro k b1 H hI ih
    try dsimp only at hI
    obtain ⟨g, fK, hk⟩ := hI
    have hm3 := hbd (by assumption)
    have hnl := encNs_le hm3.2.2 k qo
    have hcl := encC_len z
    have hel := encB_len z.data
    have hkk := fun q => hm3.2.2 k q
    try have gn := g.1
    refine w_unfold (by delta L11_1; rfl) ?_
    simp only [keeps_nil, keeps_cons, List.cons_append, List.nil_append, lk_cons, lk_nil, numF, Nat.reduceEqDiff, Nat.reduceAdd, Nat.zero_add, ↓reduceIte]
    repeat' (first
      | simp (disch := first | exact qd | fail) only [WB, ↓WP, ↓WL, WR, WC, if_true, if_false, ite_true, ite_false, aop, ev, evs, readsA, List.replicate, numF, unA, resA, tupA, loadA, storeA, splice, fillA, kindsOk, plainEq, ↓reduceIte, Nat.reduceEqDiff, Nat.reduceLT, Int.reduceToNat, Int.reduceBEq, Int.reduceBNe, Nat.reduceAdd, Nat.reduceMul, Nat.reduceLeDiff, Int.reduceLT, Int.reduceSub, Int.reduceAdd, hfd, hcd, hfn, hcn, encT_def, encI_def]
      | ((first | refine atC ?_ ?_ | refine atG ?_ ?_ | refine atH ?_ ?_ | refine atP ?_ ?_) <;> intro hc <;> (try rw [hc]) <;> (try simp only [BD] at hc) <;> try (exfalso; omega))
      | ((first
        | (refine Runs.call (k_May z (hz0.grow qg) ho0) ?_; rintro _ H1 ⟨rfl, gr⟩; have hg1 : H1.get h.next = some (.cells [.int .u8 z.client, .int .u32 z.inc, .int .u64 z.seq, .int .u8 z.status, .int .u32 z.ino, .int .u32 z.gen, .bool z.dir, .int .u32 z.size, .int .u64 z.change, .int .u64 z.before, z.dv, z.nv, .int .u32 z.boot] false) := qs; have hlt1 := Heap.lt_of_get hg1; have hbd := fun q => may_bd (z := z) q; have gh1 : Grow h H1 := qg; have hd1 := hd.grow gh1; have hn1 := hn.grow gh1)
        | (refine Runs.call (w_Number (h0 := H1) qg (by first | assumption | exact Wr.new (Nat.le_refl _)) qo qo (by simp only [List.length_append, List.length_nil, beL_len, encB_len, encA_len]; omega)) ?_; rintro _ HN ⟨gr, fN, kN⟩; have hgb := gr.get hg1)
        | (refine Runs.call (w_Great (h0 := H1) qg (by first | assumption | exact Wr.new (Nat.le_refl _)) qo qo (by simp only [List.length_append, List.length_nil, beL_len, encB_len, encA_len]; omega)) ?_; rintro _ HN ⟨gr, fN, kN⟩; have hgb := gr.get hg1)
        | (refine Runs.call (w_Bytes (h0 := H1) qg (Wr.grow_all (by assumption)) (Wr.fresh (by assumption)) qo (by simp only [List.length_append, List.length_nil, beL_len, encB_len, encA_len]; omega)) ?_; rintro _ HN ⟨gr, fN, kN⟩)
        | (refine Runs.call (w_Bare (by assumption) (by simp only [List.length_append, List.length_nil, beL_len, encB_len, encA_len]; omega)) ?_; rintro v9 H9 ⟨gr, hN9⟩; have hf9 := bytes_fl hN9.at; have hc9 := cells_of hf9)
        | fail); all_goals ((try (have gn := gr.1; try simp only [nx_alloc, nx_set] at gn)); (try (have an := ha.num; try simp only [nx_alloc, nx_set, own_sl, own_nil] at an)); (try (have on := hO.num; try simp only [nx_alloc, nx_set] at on)); (try (have kn := hk.1; try simp only [nx_alloc, nx_set] at kn)); try have hB := hO.at)))
    all_goals try (first
      | exact ih (k + 1) _ _ _ (by ((try dsimp only); omega)) qf (by ((try dsimp only); (first | (exact ⟨gr, by (rw [encNs_s qo, ← List.append_assoc]; exact fN), by omega⟩) | fail)))
      | (refine hK _ _ ?_; (first | exact ⟨qg, .nilsl, by simp_all, .inl ⟨by assumption, rfl⟩⟩ | (obtain rfl : k = z.names.length := qo; exact ⟨qg, v9, by rw [if_pos (by assumption)], .inr ⟨by assumption, NewBytes.le hN9 (by have := g.1; omega)⟩⟩) | fail); done)
      | fail)
def L12_0 : SC := (.seq (.seq (.ops [⟨some 83, .mov (.t 5), none⟩, ⟨some 84, .fieldAddr 11 (.t 1), none⟩, ⟨some 85, .load false 1 (.t 84), none⟩, ⟨some 86, .len (.sl) (.t 85), none⟩, ⟨some 87, .bin (.lss) (.other) (.t 83) (.t 86), none⟩]) (.cond (.t 87) .skip (.exit 0))) (.seq (.block 1 (.ops [⟨some 90, .mov (.t 4), none⟩, ⟨some 91, .fieldAddr 11 (.t 1), none⟩, ⟨some 92, .load false 1 (.t 91), none⟩, ⟨some 93, .mov (.t 5), none⟩, ⟨some 94, .idxAddrSl 1 (.t 92) (.t 93), none⟩, ⟨some 95, .load false 1 (.t 94), none⟩, ⟨some 96, .strToBytes (.t 95), none⟩, ⟨some 97, .call 39 [.t 96], none⟩, ⟨some 98, .append 1 1 (.t 90) (.t 97), none⟩, ⟨some 4, .mov (.t 98), none⟩])) (.ops [⟨some 88, .mov (.t 5), none⟩, ⟨some 89, .bin (.add) (.other) (.t 88) (.c (.int (.i64) 1)), none⟩, ⟨some 5, .mov (.t 89), none⟩])))
def b12 : SC := (.seq (.ops [⟨some 1, .box (.t 0), none⟩, ⟨some 2, .mov (.c (.nilsl)), none⟩, ⟨some 3, .mov (.c (.int (.i64) 0)), none⟩]) (.seq (.seq (.ops [⟨some 6, .load true 13 (.t 1), none⟩, ⟨some 7, .call 15 [.t 6], none⟩, ⟨some 8, .un (.not) (.t 7), none⟩]) (.cond (.t 8) (.seq (.ops [⟨some 2, .mov (.c (.nilsl)), none⟩, ⟨some 3, .mov (.c (.int (.i64) 2)), none⟩]) .ret) .skip)) (.seq (.ops [⟨some 9, .fieldAddr 0 (.t 1), none⟩, ⟨some 10, .load false 1 (.t 9), none⟩, ⟨some 11, .convInt (.u32) (.t 10), none⟩, ⟨some 12, .call 36 [.t 11], none⟩, ⟨some 4, .mov (.t 12), none⟩]) (.seq (.ops [⟨some 13, .mov (.t 4), none⟩, ⟨some 14, .fieldAddr 1 (.t 1), none⟩, ⟨some 15, .load false 1 (.t 14), none⟩, ⟨some 16, .call 36 [.t 15], none⟩, ⟨some 17, .append 1 1 (.t 13) (.t 16), none⟩, ⟨some 4, .mov (.t 17), none⟩]) (.seq (.ops [⟨some 18, .mov (.t 4), none⟩, ⟨some 19, .fieldAddr 2 (.t 1), none⟩, ⟨some 20, .load false 1 (.t 19), none⟩, ⟨some 21, .call 37 [.t 20], none⟩, ⟨some 22, .append 1 1 (.t 18) (.t 21), none⟩, ⟨some 4, .mov (.t 22), none⟩]) (.seq (.ops [⟨some 23, .mov (.t 4), none⟩, ⟨some 24, .fieldAddr 3 (.t 1), none⟩, ⟨some 25, .load false 1 (.t 24), none⟩, ⟨some 26, .convInt (.u32) (.t 25), none⟩, ⟨some 27, .call 36 [.t 26], none⟩, ⟨some 28, .append 1 1 (.t 23) (.t 27), none⟩, ⟨some 4, .mov (.t 28), none⟩]) (.seq (.ops [⟨some 29, .mov (.t 4), none⟩, ⟨some 30, .fieldAddr 12 (.t 1), none⟩, ⟨some 31, .load false 1 (.t 30), none⟩, ⟨some 32, .call 36 [.t 31], none⟩, ⟨some 33, .append 1 1 (.t 29) (.t 32), none⟩, ⟨some 4, .mov (.t 33), none⟩]) (.seq (.ops [⟨some 34, .mov (.t 4), none⟩, ⟨some 35, .fieldAddr 4 (.t 1), none⟩, ⟨some 36, .fieldAddr 0 (.t 35), none⟩, ⟨some 37, .fieldAddr 0 (.t 36), none⟩, ⟨some 38, .load false 1 (.t 37), none⟩, ⟨some 39, .call 36 [.t 38], none⟩, ⟨some 40, .append 1 1 (.t 34) (.t 39), none⟩, ⟨some 4, .mov (.t 40), none⟩]) (.seq (.ops [⟨some 41, .mov (.t 4), none⟩, ⟨some 42, .fieldAddr 4 (.t 1), none⟩, ⟨some 43, .fieldAddr 0 (.t 42), none⟩, ⟨some 44, .fieldAddr 1 (.t 43), none⟩, ⟨some 45, .load false 1 (.t 44), none⟩, ⟨some 46, .call 36 [.t 45], none⟩, ⟨some 47, .append 1 1 (.t 41) (.t 46), none⟩, ⟨some 4, .mov (.t 47), none⟩]) (.seq (.ops [⟨some 48, .mov (.t 4), none⟩, ⟨some 49, .fieldAddr 4 (.t 1), none⟩, ⟨some 50, .fieldAddr 2 (.t 49), none⟩, ⟨some 51, .load false 1 (.t 50), none⟩, ⟨some 52, .call 38 [.t 51], none⟩, ⟨some 53, .append 1 1 (.t 48) (.t 52), none⟩, ⟨some 4, .mov (.t 53), none⟩]) (.seq (.ops [⟨some 54, .mov (.t 4), none⟩, ⟨some 55, .fieldAddr 4 (.t 1), none⟩, ⟨some 56, .fieldAddr 3 (.t 55), none⟩, ⟨some 57, .load false 1 (.t 56), none⟩, ⟨some 58, .call 36 [.t 57], none⟩, ⟨some 59, .append 1 1 (.t 54) (.t 58), none⟩, ⟨some 4, .mov (.t 59), none⟩]) (.seq (.ops [⟨some 60, .mov (.t 4), none⟩, ⟨some 61, .fieldAddr 4 (.t 1), none⟩, ⟨some 62, .fieldAddr 4 (.t 61), none⟩, ⟨some 63, .load false 1 (.t 62), none⟩, ⟨some 64, .call 37 [.t 63], none⟩, ⟨some 65, .append 1 1 (.t 60) (.t 64), none⟩, ⟨some 4, .mov (.t 65), none⟩]) (.seq (.ops [⟨some 66, .mov (.t 4), none⟩, ⟨some 67, .fieldAddr 9 (.t 1), none⟩, ⟨some 68, .load false 1 (.t 67), none⟩, ⟨some 69, .call 37 [.t 68], none⟩, ⟨some 70, .append 1 1 (.t 66) (.t 69), none⟩, ⟨some 4, .mov (.t 70), none⟩]) (.seq (.ops [⟨some 71, .mov (.t 4), none⟩, ⟨some 72, .fieldAddr 10 (.t 1), none⟩, ⟨some 73, .load false 1 (.t 72), none⟩, ⟨some 74, .call 39 [.t 73], none⟩, ⟨some 75, .append 1 1 (.t 71) (.t 74), none⟩, ⟨some 4, .mov (.t 75), none⟩]) (.seq (.ops [⟨some 76, .mov (.t 4), none⟩, ⟨some 77, .fieldAddr 11 (.t 1), none⟩, ⟨some 78, .load false 1 (.t 77), none⟩, ⟨some 79, .len (.sl) (.t 78), none⟩, ⟨some 80, .convInt (.u32) (.t 79), none⟩, ⟨some 81, .call 36 [.t 80], none⟩, ⟨some 82, .append 1 1 (.t 76) (.t 81), none⟩, ⟨some 4, .mov (.t 82), none⟩]) (.seq (.seq (.ops [⟨some 5, .mov (.c (.int (.i64) 0)), none⟩]) (.block 0 (.loop L12_0))) (.seq (.ops [⟨some 99, .mov (.t 4), none⟩, ⟨some 2, .mov (.t 99), none⟩, ⟨some 3, .mov (.c (.int (.i64) 0)), none⟩]) .ret)))))))))))))))))
theorem t12 : tab 12 = some ⟨100, [.tmp 2, .tmp 3], b12⟩ := rfl
end Go.Proofs.YtdmabiefaeidmaaDoor.Ya
