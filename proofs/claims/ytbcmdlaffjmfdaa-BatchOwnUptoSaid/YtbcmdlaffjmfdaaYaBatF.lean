/-
  Batch: tables of the document: without, with, Find, Apply.
-/
import Derived.Test.YtbcmdlaffjmfdaaYaBatE
import Derived.Test.YtbcmdlaffjmfdaaYbL
import Derived.Test.YtbcmdlaffjmfdaaYaBatTab
namespace Go.Proofs.Ytbcmdlaffjmfdaa.Ya
open Go.Ya Go.Ya.Bat
set_option linter.unusedVariables false
set_option linter.unusedSimpArgs false
set_option maxRecDepth 100000
set_option maxHeartbeats 8000000

theorem encR_len (x : Ro) : (encR x).length = 2 := rfl
/-- Rows alone: none goes. -/
def NoGo (l : List Ro) : Prop := ∀ x ∈ l, x.gone = false
theorem NoGo.at {l : List Ro} (h : NoGo l) : ∀ i, i < l.length → (l.getD i default).gone = false := fun i hi => by
  rw [List.getD_eq_getElem?_getD, List.getElem?_eq_getElem hi]
  exact h _ (List.getElem_mem hi)
theorem enN_nogo {l : List Ro} (h : NoGo l) : ∀ x ∈ l.map Ro.en, x.gone = false := fun x hx => by
  obtain ⟨y, hy, rfl⟩ := List.mem_map.1 hx
  exact h y hy
/-- A value's own blocks, apart from out's. -/
def VO (n : Nat) (H : Heap) (out : AV) (l : List Ro) : Prop := ∀ x ∈ l, OwB n H x.v x.val ∧ (own x.v = 0 ∨ own x.v ≠ own out)
theorem VO.step {n : Nat} {H H' : Heap} {out out' : AV} {l : List Ro} (a : VO n H out l) (hg : ∀ j, j < H.next → j + 1 ≠ own out → H'.get j = H.get j) (ho : own out' = own out ∨ H.next < own out') : VO n H' out' l := fun x hx => by
  obtain ⟨h1, h3⟩ := a x hx
  have := OwC.num h1
  exact ⟨OwC.keep h1 fun j hj he => hg j hj qo, by omega⟩
theorem VO.push {n : Nat} {H : Heap} {out : AV} {l : List Ro} {x : Ro} (a : VO n H out l) (h1 : OwB n H x.v x.val) (h3 : own x.v = 0 ∨ own x.v ≠ own out) : VO n H out (l ++ [x]) := fun y hy => by
  rcases List.mem_append.1 hy with hy | hy
  · exact a y hy
  · simp only [List.mem_singleton] at hy
    subst hy; exact ⟨h1, h3⟩
theorem VO.va {n : Nat} {H : Heap} {out : AV} {l : List Ro} (a : VO n H out l) : VAt H l := fun x hx => (a x hx).1.at
theorem filt_s {p : En → Bool} {l : List Ro} {i : Nat} (hi : i < l.length) : (enN l (i + 1)).filter p = (enN l i).filter p ++ (if p (l.getD i default).en = true then [(l.getD i default).en] else []) := by
  rw [enN_s hi, List.filter_append]
  congr 1
  generalize (l.getD i default).en = y
  cases h : p y <;> simp [h]
theorem chk_R {α : Type} {esz : Nat} {H h h' : Heap} {v : AV} {l : List α} {enc : α → List AV} (a : Asm (Rd esz H v (l.map enc))) (h0 : 0 < l.length) (g : Grow H h) (g' : Grow H h') : sameObj (h.get (sid v)) (h'.get (sid v)) = true := by
  rcases a.out.2 with ⟨_, e⟩ | ⟨id, off, cap, ex, c, ro, rfl, e2, _⟩
  · rw [List.map_eq_nil_iff] at e; rw [e] at h0; exact absurd h0 (by simp)
  · show sameObj (h.get id) (h'.get id) = true
    rw [g.get e2, g'.get e2]
    exact same_cells
theorem filt_len {p : En → Bool} {l : List Ro} {i : Nat} (hi : i ≤ l.length) : ((enN l i).filter p).length ≤ i := by
  have := List.length_filter_le p (enN l i)
  have h2 : (enN l i).length = i := by unfold enN; rw [List.length_map, List.length_take]; omega
  omega
theorem nogo_push {l : List Ro} {x : Ro} (h : NoGo l) (hx : x.gone = false) : NoGo (l ++ [x]) := fun y hy => by
  rcases List.mem_append.1 hy with hy | hy
  · exact h y hy
  · simp only [List.mem_singleton] at hy; subst hy; exact hx
def L50_0 : SC := (.seq (.seq (.ops [⟨some 7, .mov (.t 6), none⟩, ⟨some 8, .mov (.t 0), none⟩, ⟨some 9, .len (.sl) (.t 8), none⟩, ⟨some 10, .bin (.lss) (.other) (.t 7) (.t 9), none⟩]) (.cond (.t 10) .skip (.exit 0))) (.seq (.block 1 (.seq (.ops [⟨some 13, .mov (.t 0), none⟩, ⟨some 14, .mov (.t 6), none⟩, ⟨some 15, .idxAddrSl 2 (.t 13) (.t 14), none⟩, ⟨some 16, .fieldAddr 0 (.t 15), none⟩, ⟨some 17, .load false 1 (.t 16), none⟩, ⟨some 18, .mov (.t 1), none⟩, ⟨some 19, .bin (.neq) (.str) (.t 17) (.t 18), none⟩]) (.cond (.t 19) (.drawOps [⟨some 20, .mov (.t 5), none⟩, ⟨some 21, .mov (.t 0), none⟩, ⟨some 22, .mov (.t 6), none⟩, ⟨some 23, .idxAddrSl 2 (.t 21) (.t 22), none⟩, ⟨some 24, .fieldAddr 0 (.t 23), none⟩, ⟨some 25, .load false 1 (.t 24), none⟩, ⟨some 26, .mov (.t 0), none⟩, ⟨some 27, .mov (.t 6), none⟩, ⟨some 28, .idxAddrSl 2 (.t 26) (.t 27), none⟩, ⟨some 29, .fieldAddr 1 (.t 28), none⟩, ⟨some 30, .load false 1 (.t 29), none⟩, ⟨some 31, .call 36 [.t 30], none⟩, ⟨some 32, .build [.str [], .nilsl] [(0, 1, .t 25), (1, 1, .t 31)], none⟩, ⟨some 33, .buildSlice [.str [], .nilsl] 1 2 [(0, 2, .t 32)], none⟩, ⟨some 34, .append 2 40 (.t 20) (.t 33), none⟩, ⟨some 5, .mov (.t 34), none⟩] [(5, 11)]) .skip))) (.ops [⟨some 11, .mov (.t 6), none⟩, ⟨some 12, .bin (.add) (.other) (.t 11) (.c (.int (.i64) 1)), none⟩, ⟨some 6, .mov (.t 12), none⟩])))
def b50 : SC := (.seq (.ops [⟨some 4, .mov (.c (.nilsl)), none⟩]) (.seq (.ops [⟨some 5, .mov (.c (.nilsl)), none⟩]) (.seq (.seq (.ops [⟨some 6, .mov (.c (.int (.i64) 0)), none⟩]) (.block 0 (.loop L50_0))) (.seq (.ops [⟨some 35, .mov (.t 5), none⟩, ⟨some 4, .mov (.t 35), none⟩]) .ret))))
theorem t50 : tab 50 = some ⟨36, [.tmp 4], b50⟩ := rfl
theorem rbat_without (t : List Ro) {k : Bs} {h : Heap} {V : AV} (hV : RAt h V t) (hv : VAt h t) (hg : NoGo t) (hl : t.length ≤ 100000000) (hvl : ∀ x ∈ t, x.val.length ≤ 100000000) : Runs (xcall X1 tab (.fn 50) [V, .str k] h) fun v h' => Grow h h' ∧ ∃ m, OwR 2 encR h.next h' v m ∧ VO h.next h' v m ∧ NoGo m ∧ m.map Ro.en = withoutP (t.map Ro.en) k := by
  refine Runs.intro fun K hK => ?_
  rw [w_fn rfl t50 (Nat.le_of_ble_eq_true rfl)]
  delta b50
  repeat' (first
    | simp (disch := first | exact qd | fail) only [WB, ↓WP, ↓WL, WR, WC, if_true, if_false, ite_true, ite_false, aop, ev, evs, readsA, List.replicate, numF, unA, resA, tupA, loadA, storeA, splice, fillA, kindsOk, plainEq, ↓reduceIte, Nat.reduceEqDiff, Nat.reduceLT, Int.reduceToNat, Int.reduceBEq, Int.reduceBNe, Nat.reduceAdd, Nat.reduceMul, Nat.reduceLeDiff, Int.reduceLT, Int.reduceSub, Int.reduceAdd, VA_ln, VA_fl, VA_cl, encR_def, chk_R]
    | ((first | refine atC ?_ ?_ | refine atG ?_ ?_ | refine atH ?_ ?_ | refine atP ?_ ?_) <;> intro hc <;> (try rw [hc]) <;> (try simp only [BD] at hc) <;> try (exfalso; omega)))
  all_goals try (first
    | (refine hK _ _ ?_; exact ⟨qg, m, hO, hva, hng, by (rw [hm, show i = t.length by omega, enN_all]; rfl)⟩; done))
  all_goals
    refine wloop (α := Nat × AV × (List Ro)) [0, 1] (fun x => [(5, x.2.1), (6, .int .i64 (x.1 : Nat))]) (fun x H => OwR 2 encR h.next H x.2.1 x.2.2 ∧ VO h.next H x.2.1 x.2.2 ∧ NoGo x.2.2 ∧ Grow h H ∧ x.1 ≤ t.length ∧ x.2.2.map Ro.en = (enN t x.1).filter (fun x => decide (x.key ≠ k))) (fun x => t.length - x.1) ?_ ((0, .nilsl, [])) ?_ ?_
    rotate_left
    · exact qf
    · (try dsimp only)
      exact ⟨OwC.nil, (fun x hx => nomatch hx), (fun x hx => nomatch hx), Grow.refl _, by omega, rfl⟩
    intro x b1 H hI ih
    obtain ⟨i, o, m⟩ := x
    try dsimp only at hI
    obtain ⟨hO, hva, hng, g, hi, hm⟩ := hI
    have on := OwR.num hO
    have hfs := fun q => filt_s (p := fun x => decide (x.key ≠ k)) (l := t) (i := i) q
    have hfl := filt_len (p := fun x => decide (x.key ≠ k)) (l := t) hi
    have hml : m.length ≤ i := by have := congrArg List.length hm; rw [List.length_map] at this; omega
    have hvi : i < t.length → (t.getD i default).val.length ≤ 100000000 := fun q => hvl _ (by rw [List.getD_eq_getElem?_getD, List.getElem?_eq_getElem q]; exact List.getElem_mem q)
    have hgi := hg.at i
    try have gn := g.1
    refine w_unfold (by delta L50_0; rfl) ?_
    simp only [keeps_nil, keeps_cons, List.cons_append, List.nil_append, lk_cons, lk_nil, numF, Nat.reduceEqDiff, Nat.reduceAdd, Nat.zero_add, ↓reduceIte]
    repeat' (first
      | simp (disch := first | exact qd | fail) only [WB, ↓WP, ↓WL, WR, WC, if_true, if_false, ite_true, ite_false, aop, ev, evs, readsA, List.replicate, numF, unA, resA, tupA, loadA, storeA, splice, fillA, kindsOk, plainEq, ↓reduceIte, Nat.reduceEqDiff, Nat.reduceLT, Int.reduceToNat, Int.reduceBEq, Int.reduceBNe, Nat.reduceAdd, Nat.reduceMul, Nat.reduceLeDiff, Int.reduceLT, Int.reduceSub, Int.reduceAdd, VA_ln, VA_fl, VA_cl, encR_def, chk_R]
      | ((first | refine atC ?_ ?_ | refine atG ?_ ?_ | refine atH ?_ ?_ | refine atP ?_ ?_) <;> intro hc <;> (try rw [hc]) <;> (try simp only [BD] at hc) <;> try (exfalso; omega))
      | ((first
        | (refine Runs.call (f0_Copy ((hv.get qo).grow qg) qo) ?_; rintro w1 H1 ⟨gr, hn1⟩; have hO1 := hn1.new.own (Nat.le_refl _); have on1 := hO1.num; have hf1 := hO1.fl; have hc1 := cells_of hf1)
        | (refine Runs.call (OwR.push encR_len qo (hO.keep (fun j hj he => qs)) ql (a := ⟨(t.getD i default).key, w1, (t.getD i default).val, false⟩) (ga_new rfl) rfl qo) ?_; rintro o2 H2 ⟨hO2, ha⟩; have on2 := OwR.num hO2)
        | fail); all_goals ((try (have gn := gr.1; try simp only [nx_alloc, nx_set] at gn)); (try (have an := ha.num; try simp only [nx_alloc, nx_set, own_sl, own_nil] at an)); (try (have on := hO.num; try simp only [nx_alloc, nx_set] at on)); (try (have kn := hk.1; try simp only [nx_alloc, nx_set] at kn)); try have hB := hO.at)))
    all_goals try (first
      | exact ih ((i + 1, o2, m ++ [⟨(t.getD i default).key, w1, (t.getD i default).val, false⟩])) _ _ _ (by ((try dsimp only); omega)) (by exact qf) (by ((try dsimp only); (first | (have hW : OwB h.next H2 w1 (t.getD i default).val := OwC.le (OwC.keep hO1 (fun j hj he => qs)) qo; exact ⟨hO2, VO.push (x := ⟨(t.getD i default).key, w1, (t.getD i default).val, false⟩) (VO.step hva (fun j hj hn => qs) qo) hW (by show own w1 = 0 ∨ own w1 ≠ own o2; omega), nogo_push hng rfl, qg, by omega, by (rw [hfs qo, List.map_append, hm, if_pos (by rw [decide_eq_true_eq]; exact hc)]; show _ ++ [(⟨_, _, false⟩ : En)] = _ ++ [(⟨_, _, (t.getD i default).gone⟩ : En)]; rw [hgi qo])⟩) | exact ⟨hO, hva, hng, g, by omega, by (rw [hfs qo, if_neg (by rw [decide_eq_true_eq]; exact fun q => q hc), List.append_nil]; exact hm)⟩ | fail)))
      | exact ih ((i + 1, o, m)) _ _ _ (by ((try dsimp only); omega)) (by exact qf) (by ((try dsimp only); (first | (have hW : OwB h.next H2 w1 (t.getD i default).val := OwC.le (OwC.keep hO1 (fun j hj he => qs)) qo; exact ⟨hO2, VO.push (x := ⟨(t.getD i default).key, w1, (t.getD i default).val, false⟩) (VO.step hva (fun j hj hn => qs) qo) hW (by show own w1 = 0 ∨ own w1 ≠ own o2; omega), nogo_push hng rfl, qg, by omega, by (rw [hfs qo, List.map_append, hm, if_pos (by rw [decide_eq_true_eq]; exact hc)]; show _ ++ [(⟨_, _, false⟩ : En)] = _ ++ [(⟨_, _, (t.getD i default).gone⟩ : En)]; rw [hgi qo])⟩) | exact ⟨hO, hva, hng, g, by omega, by (rw [hfs qo, if_neg (by rw [decide_eq_true_eq]; exact fun q => q hc), List.append_nil]; exact hm)⟩ | fail)))
      | (refine hK _ _ ?_; exact ⟨qg, m, hO, hva, hng, by (rw [hm, show i = t.length by omega, enN_all]; rfl)⟩; done))

def withR (t : List Ro) (x : Ro) : List Ro := t.filter (fun y => lessA y.key x.key) ++ x :: t.filter (fun y => !lessA y.key x.key)
theorem withR_en (t : List Ro) (x : Ro) : (withR t x).map Ro.en = withP (t.map Ro.en) x.en := by
  unfold withR withP
  rw [List.map_append, List.map_cons, List.filter_map, List.filter_map]; rfl
theorem take_s {p : Ro → Bool} {l : List Ro} {i : Nat} (hi : i < l.length) : (l.take (i + 1)).filter p = (l.take i).filter p ++ (if p (l.getD i default) = true then [l.getD i default] else []) := by
  have : l.take (i + 1) = l.take i ++ [l.getD i default] := by rw [List.take_add_one, List.getElem?_eq_getElem hi, List.getD_eq_getElem?_getD, List.getElem?_eq_getElem hi]; rfl
  rw [this, List.filter_append]
  congr 1
  generalize l.getD i default = y
  cases h : p y <;> simp [h]
theorem take_len {p : Ro → Bool} {l : List Ro} {i : Nat} (hi : i ≤ l.length) : ((l.take i).filter p).length ≤ i := by
  have := List.length_filter_le p (l.take i)
  have h2 : (l.take i).length = i := by rw [List.length_take]; omega
  omega
def L51_0 : SC := (.seq (.seq (.ops [⟨some 8, .mov (.t 7), none⟩, ⟨some 9, .mov (.t 0), none⟩, ⟨some 10, .len (.sl) (.t 9), none⟩, ⟨some 11, .bin (.lss) (.other) (.t 8) (.t 10), none⟩]) (.cond (.t 11) .skip (.exit 0))) (.seq (.block 1 (.seq (.ops [⟨some 14, .mov (.t 0), none⟩, ⟨some 15, .mov (.t 7), none⟩, ⟨some 16, .idxAddrSl 2 (.t 14) (.t 15), none⟩, ⟨some 17, .fieldAddr 0 (.t 16), none⟩, ⟨some 18, .load false 1 (.t 17), none⟩, ⟨some 19, .fieldAddr 0 (.t 3), none⟩, ⟨some 20, .load false 1 (.t 19), none⟩, ⟨some 21, .bin (.lss) (.str) (.t 18) (.t 20), none⟩]) (.cond (.t 21) (.ops [⟨some 22, .mov (.t 5), none⟩, ⟨some 23, .mov (.t 0), none⟩, ⟨some 24, .mov (.t 7), none⟩, ⟨some 25, .idxAddrSl 2 (.t 23) (.t 24), none⟩, ⟨some 26, .load true 2 (.t 25), none⟩, ⟨some 27, .buildSlice [.str [], .nilsl] 1 2 [(0, 2, .t 26)], none⟩, ⟨some 28, .append 2 40 (.t 22) (.t 27), none⟩, ⟨some 5, .mov (.t 28), none⟩]) (.ops [⟨some 29, .mov (.t 6), none⟩, ⟨some 30, .mov (.t 0), none⟩, ⟨some 31, .mov (.t 7), none⟩, ⟨some 32, .idxAddrSl 2 (.t 30) (.t 31), none⟩, ⟨some 33, .load true 2 (.t 32), none⟩, ⟨some 34, .buildSlice [.str [], .nilsl] 1 2 [(0, 2, .t 33)], none⟩, ⟨some 35, .append 2 40 (.t 29) (.t 34), none⟩, ⟨some 6, .mov (.t 35), none⟩])))) (.ops [⟨some 12, .mov (.t 7), none⟩, ⟨some 13, .bin (.add) (.other) (.t 12) (.c (.int (.i64) 1)), none⟩, ⟨some 7, .mov (.t 13), none⟩])))
def b51 : SC := (.seq (.ops [⟨some 3, .box (.t 1), none⟩, ⟨some 4, .mov (.c (.nilsl)), none⟩]) (.seq (.ops [⟨some 5, .mov (.c (.nilsl)), none⟩, ⟨some 6, .mov (.c (.nilsl)), none⟩]) (.seq (.seq (.ops [⟨some 7, .mov (.c (.int (.i64) 0)), none⟩]) (.block 0 (.loop L51_0))) (.seq (.ops [⟨some 36, .mov (.t 5), none⟩, ⟨some 37, .load true 2 (.t 3), none⟩, ⟨some 38, .buildSlice [.str [], .nilsl] 1 2 [(0, 2, .t 37)], none⟩, ⟨some 39, .append 2 40 (.t 36) (.t 38), none⟩, ⟨some 5, .mov (.t 39), none⟩]) (.seq (.ops [⟨some 40, .mov (.t 5), none⟩, ⟨some 41, .mov (.t 6), none⟩, ⟨some 42, .append 2 40 (.t 40) (.t 41), none⟩, ⟨some 4, .mov (.t 42), none⟩]) .ret)))))
theorem t51 : tab 51 = some ⟨43, [.tmp 4], b51⟩ := rfl
theorem rbat_with (t : List Ro) {z : Ro} {h : Heap} {V : AV} (hV : RAt h V t) (hv : VAt h t) (hxf : z.v.flat = true) (hl : t.length ≤ 100000000) : Runs (xcall X1 tab (.fn 51) [V, .agg [.str z.key, z.v]] h) fun v h' => Grow h h' ∧ OwR 2 encR h.next h' v (withR t z) := by
  refine Runs.intro fun K hK => ?_
  rw [w_fn rfl t51 (Nat.le_of_ble_eq_true rfl)]
  delta b51
  repeat' (first
    | simp (disch := first | exact qd | fail) only [WB, ↓WP, ↓WL, WR, WC, if_true, if_false, ite_true, ite_false, aop, ev, evs, readsA, List.replicate, numF, unA, resA, tupA, loadA, storeA, splice, fillA, kindsOk, plainEq, ↓reduceIte, Nat.reduceEqDiff, Nat.reduceLT, Int.reduceToNat, Int.reduceBEq, Int.reduceBNe, Nat.reduceAdd, Nat.reduceMul, Nat.reduceLeDiff, Int.reduceLT, Int.reduceSub, Int.reduceAdd, VA_fl, VA_cl, encR_def, chk_R, hxf, cells_of hxf]
    | ((first | refine atC ?_ ?_ | refine atG ?_ ?_ | refine atH ?_ ?_ | refine atP ?_ ?_) <;> intro hc <;> (try rw [hc]) <;> (try simp only [BD] at hc) <;> try (exfalso; omega)))
  all_goals try (first
    | (refine hK _ _ ?_; exact ⟨qg, OwC.le (Eq.mp (congrArg (OwR 2 encR _ _ _) (by (rw [List.take_of_length_le qo]; simp [withR]))) hO4) qo⟩; done))
  all_goals
    refine wloop (α := Nat × AV × AV) [0, 3] (fun x => [(5, x.2.1), (6, x.2.2), (7, .int .i64 (x.1 : Nat))]) (fun x H => OwR 2 encR (h.next + 1) H x.2.1 ((t.take x.1).filter fun y => lessA y.key z.key) ∧ OwR 2 encR (h.next + 1) H x.2.2 ((t.take x.1).filter fun y => !lessA y.key z.key) ∧ (own x.2.1 = 0 ∨ own x.2.1 ≠ own x.2.2) ∧ H.get h.next = some (.cells [.str z.key, z.v] false) ∧ h.next < H.next ∧ Grow h H ∧ x.1 ≤ t.length) (fun x => t.length - x.1) ?_ ((0, .nilsl, .nilsl)) ?_ ?_
    rotate_left
    · exact qf
    · (try dsimp only)
      exact ⟨OwC.nil, OwC.nil, .inl rfl, qs, ql, qg, by omega⟩
    intro x b1 H hI ih
    obtain ⟨i, o, q⟩ := x
    try dsimp only at hI
    obtain ⟨hO, hQ, hne, hgp, hpn, g, hi⟩ := hI
    have on := OwR.num hO
    have qn := OwR.num hQ
    have hfs := fun p q => take_s (p := p) (l := t) (i := i) q
    have hfl := take_len (p := fun y => lessA y.key z.key) (l := t) hi
    have hfq := take_len (p := fun y => !lessA y.key z.key) (l := t) hi
    try have gn := g.1
    refine w_unfold (by delta L51_0; rfl) ?_
    simp only [keeps_nil, keeps_cons, List.cons_append, List.nil_append, lk_cons, lk_nil, numF, Nat.reduceEqDiff, Nat.reduceAdd, Nat.zero_add, ↓reduceIte]
    repeat' (first
      | simp (disch := first | exact qd | fail) only [WB, ↓WP, ↓WL, WR, WC, if_true, if_false, ite_true, ite_false, aop, ev, evs, readsA, List.replicate, numF, unA, resA, tupA, loadA, storeA, splice, fillA, kindsOk, plainEq, ↓reduceIte, Nat.reduceEqDiff, Nat.reduceLT, Int.reduceToNat, Int.reduceBEq, Int.reduceBNe, Nat.reduceAdd, Nat.reduceMul, Nat.reduceLeDiff, Int.reduceLT, Int.reduceSub, Int.reduceAdd, VA_fl, VA_cl, encR_def, chk_R, hxf, cells_of hxf, hgp]
      | ((first | refine atC ?_ ?_ | refine atG ?_ ?_ | refine atH ?_ ?_ | refine atP ?_ ?_) <;> intro hc <;> (try rw [hc]) <;> (try simp only [BD] at hc) <;> try (exfalso; omega))
      | ((first
        | (refine Runs.call (OwR.push encR_len qo (hO.keep (fun j hj he => qs)) ql (a := t.getD i default) (ga_new rfl) rfl qo) ?_; rintro o2 H2 ⟨hO2, ha⟩; have on2 := OwR.num hO2)
        | (refine Runs.call (OwR.push encR_len qo (hQ.keep (fun j hj he => qs)) ql (a := t.getD i default) (ga_new rfl) rfl qo) ?_; rintro q2 H2 ⟨hQ2, ha⟩; have qn2 := OwR.num hQ2)
        | (refine Runs.call (OwR.push encR_len qo (hO.keep (fun j hj he => qs)) ql (a := z) (ga_new rfl) rfl qo) ?_; rintro o3 H3 ⟨hO3, ha⟩; have on3 := OwR.num hO3; have an3 := ha.1; (simp only [nx_alloc] at an3))
        | (refine Runs.call (OwR.cat encR_len qo hO3 ql (OwR.rd encR_len qo (hQ.keep (fun j hj he => qs))) ql) ?_; rintro o4 H4 ⟨hO4, ha⟩; have on4 := OwR.num hO4)
        | fail); all_goals ((try (have gn := gr.1; try simp only [nx_alloc, nx_set] at gn)); (try (have an := ha.num; try simp only [nx_alloc, nx_set, own_sl, own_nil] at an)); (try (have on := hO.num; try simp only [nx_alloc, nx_set] at on)); (try (have kn := hk.1; try simp only [nx_alloc, nx_set] at kn)); try have hB := hO.at)))
    all_goals try (first
      | exact ih ((i + 1, o2, q)) _ _ _ (by ((try dsimp only); omega)) (by exact qf) (by ((try dsimp only); (first | exact ⟨Eq.mp (congrArg (OwR 2 encR _ _ _) (by rw [hfs _ qo, if_pos hc])) hO2, Eq.mp (congrArg (OwR 2 encR _ _ _) (by rw [hfs _ qo, if_neg (by rw [hc]; decide), List.append_nil])) (hQ.keep (fun j hj he => qs)), by omega, qs, by omega, qg, by omega⟩ | exact ⟨Eq.mp (congrArg (OwR 2 encR _ _ _) (by rw [hfs _ qo, if_neg (by rw [hc]; decide), List.append_nil])) (hO.keep (fun j hj he => qs)), Eq.mp (congrArg (OwR 2 encR _ _ _) (by rw [hfs _ qo, if_pos (by rw [hc]; rfl)])) hQ2, by omega, qs, by omega, qg, by omega⟩ | fail)))
      | exact ih ((i + 1, o, q2)) _ _ _ (by ((try dsimp only); omega)) (by exact qf) (by ((try dsimp only); (first | exact ⟨Eq.mp (congrArg (OwR 2 encR _ _ _) (by rw [hfs _ qo, if_pos hc])) hO2, Eq.mp (congrArg (OwR 2 encR _ _ _) (by rw [hfs _ qo, if_neg (by rw [hc]; decide), List.append_nil])) (hQ.keep (fun j hj he => qs)), by omega, qs, by omega, qg, by omega⟩ | exact ⟨Eq.mp (congrArg (OwR 2 encR _ _ _) (by rw [hfs _ qo, if_neg (by rw [hc]; decide), List.append_nil])) (hO.keep (fun j hj he => qs)), Eq.mp (congrArg (OwR 2 encR _ _ _) (by rw [hfs _ qo, if_pos (by rw [hc]; rfl)])) hQ2, by omega, qs, by omega, qg, by omega⟩ | fail)))
      | (refine hK _ _ ?_; exact ⟨qg, OwC.le (Eq.mp (congrArg (OwR 2 encR _ _ _) (by (rw [List.take_of_length_le qo]; simp [withR]))) hO4) qo⟩; done))

theorem VO.le {n k : Nat} {H : Heap} {out : AV} {l : List Ro} (a : VO n H out l) (h : k ≤ n) : VO k H out l := fun x hx => ⟨OwC.le (a x hx).1 h, (a x hx).2⟩
theorem VO.fresh {n : Nat} {H H' : Heap} {out out' : AV} {l : List Ro} (a : VO n H out l) (g : Grow H H') (ho : own out' = 0 ∨ H.next < own out') : VO n H' out' l := fun x hx => by
  obtain ⟨h1, h3⟩ := a x hx
  have := OwC.num h1
  exact ⟨OwC.grow h1 g, by omega⟩
theorem VO.sub {n : Nat} {H : Heap} {out : AV} {l m : List Ro} (a : VO n H out l) (h : ∀ x ∈ m, x ∈ l) : VO n H out m := fun x hx => a x (h x hx)
/-- Values that can be copied. -/
def VR (m : List Ro) : Prop := ∀ x ∈ m, x.val.length ≤ 100000000
theorem may_VR {l : List Ro} (h : mayP (l.map Ro.en) = true) : VR l := fun x hx => by
  obtain ⟨i, hi, rfl⟩ := List.getElem_of_mem hx
  have := (okR_val (may_ok h i hi)).2.1
  rw [List.getD_eq_getElem?_getD, List.getElem?_eq_getElem hi] at this
  exact Nat.le_trans this (by decide)
theorem VR.get {l : List Ro} (h : VR l) {i : Nat} (hi : i < l.length) : (l.getD i default).val.length ≤ 100000000 := h _ (by rw [List.getD_eq_getElem?_getD, List.getElem?_eq_getElem hi]; exact List.getElem_mem hi)
def VB (l : List En) : Prop := ∀ x ∈ l, x.val.length ≤ 100000000
theorem VB.ro {l : List Ro} (h : VB (l.map Ro.en)) : ∀ x ∈ l, x.val.length ≤ 100000000 := fun x hx => h x.en (List.mem_map.2 ⟨x, hx, rfl⟩)
theorem VB.en {l : List Ro} (h : ∀ x ∈ l, x.val.length ≤ 100000000) : VB (l.map Ro.en) := fun x hx => by
  obtain ⟨y, hy, rfl⟩ := List.mem_map.1 hx
  exact h y hy
theorem VB.without {l : List En} (h : VB l) (k : Bs) : VB (withoutP l k) := fun x hx => h x (List.mem_filter.1 hx).1
theorem withR_mem {t : List Ro} {z x : Ro} (h : x ∈ withR t z) : x ∈ t ∨ x = z := by
  unfold withR at h
  rcases List.mem_append.1 h with h | h
  · exact .inl (List.mem_filter.1 h).1
  · rcases List.mem_cons.1 h with h | h
    · exact .inr h
    · exact .inl (List.mem_filter.1 h).1
theorem withR_len (t : List Ro) (z : Ro) : (withR t z).length = t.length + 1 := by
  have : ∀ t : List Ro, (t.filter fun y => lessA y.key z.key).length + (t.filter fun y => !lessA y.key z.key).length = t.length := fun t => by
    induction t with
    | nil => rfl
    | cons y t ih => simp only [List.filter_cons]; cases lessA y.key z.key <;> simp <;> omega
  unfold withR
  rw [List.length_append, List.length_cons]
  have := this t
  omega
theorem without_len {m m' : List Ro} {k : Bs} (h : m'.map Ro.en = withoutP (m.map Ro.en) k) : m'.length ≤ m.length := by
  have := congrArg List.length h
  rw [List.length_map] at this
  have h2 := List.length_filter_le (fun x => decide (x.key ≠ k)) (m.map Ro.en)
  rw [List.length_map] at h2
  unfold withoutP at this
  omega
theorem VO.with {n : Nat} {H H' : Heap} {out out' : AV} {m : List Ro} {z : Ro} (a : VO n H out m) (g : Grow H H') (ho : own out' = 0 ∨ H.next < own out') (h1 : OwB n H' z.v z.val) (h3 : own z.v = 0 ∨ own z.v ≠ own out') : VO n H' out' (withR m z) := fun x hx => by
  rcases withR_mem hx with hx | rfl
  · exact (a.fresh g ho) x hx
  · exact ⟨h1, h3⟩
theorem withR_nogo {m : List Ro} {z : Ro} (h : NoGo m) (hz : z.gone = false) : NoGo (withR m z) := fun x hx => by
  rcases withR_mem hx with hx | rfl
  · exact h x hx
  · exact hz
theorem withR_vb {m : List Ro} {z : Ro} (h : ∀ x ∈ m, x.val.length ≤ 100000000) (hz : z.val.length ≤ 100000000) : ∀ x ∈ withR m z, x.val.length ≤ 100000000 := fun x hx => by
  rcases withR_mem hx with hx | rfl
  · exact h x hx
  · exact hz
theorem fold_s {l : List Ro} {t : List En} {i : Nat} (hi : i < l.length) : (enN l (i + 1)).foldl stepP t = stepP ((enN l i).foldl stepP t) (l.getD i default).en := by
  rw [enN_s hi, List.foldl_append]; rfl
theorem step_gone {t : List En} {y : Ro} (h : y.gone = true) : stepP t y.en = withoutP t y.key := by unfold stepP; rw [if_pos (show y.en.gone = true from h)]; rfl
theorem step_row {t : List En} {y : Ro} (h : y.gone = false) : stepP t y.en = withP (withoutP t y.key) ⟨y.key, y.val, false⟩ := by unfold stepP; rw [if_neg (by show ¬ y.gone = true; rw [h]; decide)]; rfl
def L22_0 : SC := (.seq (.seq (.ops [⟨some 18, .mov (.t 7), none⟩, ⟨some 19, .mov (.t 1), none⟩, ⟨some 20, .len (.sl) (.t 19), none⟩, ⟨some 21, .bin (.lss) (.other) (.t 18) (.t 20), none⟩]) (.cond (.t 21) .skip (.exit 0))) (.seq (.block 1 (.seq (.ops [⟨some 24, .mov (.t 6), none⟩, ⟨some 25, .mov (.t 1), none⟩, ⟨some 26, .mov (.t 7), none⟩, ⟨some 27, .idxAddrSl 3 (.t 25) (.t 26), none⟩, ⟨some 28, .fieldAddr 0 (.t 27), none⟩, ⟨some 29, .load false 1 (.t 28), none⟩, ⟨some 30, .call 50 [.t 24, .t 29], none⟩, ⟨some 6, .mov (.t 30), none⟩]) (.seq (.ops [⟨some 31, .mov (.t 1), none⟩, ⟨some 32, .mov (.t 7), none⟩, ⟨some 33, .idxAddrSl 3 (.t 31) (.t 32), none⟩, ⟨some 34, .fieldAddr 2 (.t 33), none⟩, ⟨some 35, .load false 1 (.t 34), none⟩, ⟨some 36, .un (.not) (.t 35), none⟩]) (.cond (.t 36) (.drawOps [⟨some 37, .mov (.t 6), none⟩, ⟨some 38, .mov (.t 1), none⟩, ⟨some 39, .mov (.t 7), none⟩, ⟨some 40, .idxAddrSl 3 (.t 38) (.t 39), none⟩, ⟨some 41, .fieldAddr 0 (.t 40), none⟩, ⟨some 42, .load false 1 (.t 41), none⟩, ⟨some 43, .mov (.t 1), none⟩, ⟨some 44, .mov (.t 7), none⟩, ⟨some 45, .idxAddrSl 3 (.t 43) (.t 44), none⟩, ⟨some 46, .fieldAddr 1 (.t 45), none⟩, ⟨some 47, .load false 1 (.t 46), none⟩, ⟨some 48, .call 36 [.t 47], none⟩, ⟨some 49, .build [.str [], .nilsl] [(0, 1, .t 42), (1, 1, .t 48)], none⟩, ⟨some 50, .call 51 [.t 37, .t 49], none⟩, ⟨some 6, .mov (.t 50), none⟩] [(5, 11)]) .skip)))) (.ops [⟨some 22, .mov (.t 7), none⟩, ⟨some 23, .bin (.add) (.other) (.t 22) (.c (.int (.i64) 1)), none⟩, ⟨some 7, .mov (.t 23), none⟩])))
def b22 : SC := (.seq (.ops [⟨some 4, .mov (.c (.nilsl)), none⟩, ⟨some 5, .mov (.c (.int (.i64) 0)), none⟩]) (.seq (.seq (.ops [⟨some 8, .mov (.t 0), none⟩, ⟨some 9, .call 24 [.t 8], none⟩, ⟨some 10, .un (.not) (.t 9), none⟩, ⟨some 11, .mov (.t 10), none⟩, ⟨some 12, .mov (.t 1), some (11, false)⟩, ⟨some 13, .call 15 [.t 12], some (11, false)⟩, ⟨some 14, .un (.not) (.t 13), some (11, false)⟩, ⟨some 15, .pick (.t 11) (.c (.bool true)) (.t 14), none⟩]) (.cond (.t 15) (.seq (.ops [⟨some 4, .mov (.c (.nilsl)), none⟩, ⟨some 5, .mov (.c (.int (.i64) 2)), none⟩]) .ret) .skip)) (.seq (.ops [⟨some 16, .mov (.t 0), none⟩, ⟨some 17, .call 50 [.t 16, .c (.str [])], none⟩, ⟨some 6, .mov (.t 17), none⟩]) (.seq (.seq (.ops [⟨some 7, .mov (.c (.int (.i64) 0)), none⟩]) (.block 0 (.loop L22_0))) (.seq (.ops [⟨some 51, .mov (.t 6), none⟩, ⟨some 4, .mov (.t 51), none⟩, ⟨some 5, .mov (.c (.int (.i64) 0)), none⟩]) .ret)))))
theorem t22 : tab 22 = some ⟨52, [.tmp 4, .tmp 5], b22⟩ := rfl
theorem rbat_Apply (t l : List Ro) {h : Heap} {V W : AV} (hV : RAt h V t) (hv : VAt h t) (hg : NoGo t) (hW : CAt h W l) (hw : VAt h l) (hl : t.length + l.length ≤ 100000000) : Runs (xcall X1 tab (.fn 22) [V, W] h) fun v h' => Grow h h' ∧ ((¬ (mayP (t.map Ro.en) = true ∧ mayP (l.map Ro.en) = true) ∧ v = .tuple [.nilsl, .int .i64 2]) ∨ (mayP (t.map Ro.en) = true ∧ mayP (l.map Ro.en) = true ∧ ∃ o m, v = .tuple [o, .int .i64 0] ∧ OwR 2 encR h.next h' o m ∧ VO h.next h' o m ∧ NoGo m ∧ m.length ≤ t.length + l.length ∧ m.map Ro.en = (l.map Ro.en).foldl stepP (withoutP (t.map Ro.en) []))) := by
  refine Runs.intro fun K hK => ?_
  rw [w_fn rfl t22 (Nat.le_of_ble_eq_true rfl)]
  delta b22
  repeat' (first
    | simp (disch := first | exact qd | fail) only [WB, ↓WP, ↓WL, WR, WC, if_true, if_false, ite_true, ite_false, aop, ev, evs, readsA, List.replicate, numF, unA, resA, tupA, loadA, storeA, splice, fillA, kindsOk, plainEq, ↓reduceIte, Nat.reduceEqDiff, Nat.reduceLT, Int.reduceToNat, Int.reduceBEq, Int.reduceBNe, Nat.reduceAdd, Nat.reduceMul, Nat.reduceLeDiff, Int.reduceLT, Int.reduceSub, Int.reduceAdd, VA_ln, VA_fl, VA_cl, encC_def, chk_R]
    | ((first | refine atC ?_ ?_ | refine atG ?_ ?_ | refine atH ?_ ?_ | refine atP ?_ ?_) <;> intro hc <;> (try rw [hc]) <;> (try simp only [BD] at hc) <;> try (exfalso; omega))
    | ((first
      | (refine Runs.call (rbat_May t hV hv qo hg.at) ?_; rintro _ _ ⟨rfl, rfl⟩)
      | (refine Runs.call (rbat_MayChange l hW hw qo) ?_; rintro _ _ ⟨rfl, rfl⟩)
      | (refine Runs.call (rbat_without t hV hv hg qo (may_VR (by assumption))) ?_; rintro o0 H0 ⟨gr, m0, hO0, hva0, hng0, hm0⟩; have on0 := OwR.num hO0; have hfl0 := OwR.fl hO0; have hcl0 := cells_of hfl0; have hml0 := without_len hm0)
      | fail); all_goals ((try (have gn := gr.1; try simp only [nx_alloc, nx_set] at gn)); (try (have an := ha.num; try simp only [nx_alloc, nx_set, own_sl, own_nil] at an)); (try (have on := hO.num; try simp only [nx_alloc, nx_set] at on)); (try (have kn := hk.1; try simp only [nx_alloc, nx_set] at kn)); try have hB := hO.at)))
  all_goals try (first
    | (refine hK _ _ ?_; (first | exact ⟨qg, .inr ⟨by assumption, by assumption, o, m, rfl, hO, hva, hng, by omega, by rw [hm, show i = l.length by omega, enN_all]⟩⟩ | exact ⟨qg, .inl ⟨fun q => (by first | (rw [q.1] at hc; exact absurd hc (by decide)) | (rw [q.2] at hc; exact absurd hc (by decide)) | fail), rfl⟩⟩ | fail); done))
  all_goals
    refine wloop (α := Nat × AV × (List Ro)) [1] (fun x => [(6, x.2.1), (7, .int .i64 (x.1 : Nat))]) (fun x H => OwR 2 encR h.next H x.2.1 x.2.2 ∧ VO h.next H x.2.1 x.2.2 ∧ NoGo x.2.2 ∧ Grow h H ∧ x.1 ≤ l.length ∧ x.2.2.length ≤ t.length + x.1 ∧ VR x.2.2 ∧ x.2.2.map Ro.en = (enN l x.1).foldl stepP (withoutP (t.map Ro.en) [])) (fun x => l.length - x.1) ?_ ((0, o0, m0)) ?_ ?_
    rotate_left
    · exact qf
    · (try dsimp only)
      exact ⟨hO0, hva0, hng0, qg, by omega, by omega, VB.ro (by rw [hm0]; exact (VB.en (may_VR (by assumption))).without []), hm0⟩
    intro x b1 H hI ih
    obtain ⟨i, o, m⟩ := x
    try dsimp only at hI
    obtain ⟨hO, hva, hng, g, hi, hml, hvb, hm⟩ := hI
    have on := OwR.num hO
    have hfl := OwR.fl hO
    have hcl := cells_of hfl
    have hfs := fun q => fold_s (l := l) (i := i) (t := withoutP (t.map Ro.en) []) q
    have hvi : i < l.length → (l.getD i default).val.length ≤ 100000000 := fun q => VR.get (l := l) (may_VR (by assumption)) q
    try have gn := g.1
    refine w_unfold (by delta L22_0; rfl) ?_
    simp only [keeps_nil, keeps_cons, List.cons_append, List.nil_append, lk_cons, lk_nil, numF, Nat.reduceEqDiff, Nat.reduceAdd, Nat.zero_add, ↓reduceIte]
    repeat' (first
      | simp (disch := first | exact qd | fail) only [WB, ↓WP, ↓WL, WR, WC, if_true, if_false, ite_true, ite_false, aop, ev, evs, readsA, List.replicate, numF, unA, resA, tupA, loadA, storeA, splice, fillA, kindsOk, plainEq, ↓reduceIte, Nat.reduceEqDiff, Nat.reduceLT, Int.reduceToNat, Int.reduceBEq, Int.reduceBNe, Nat.reduceAdd, Nat.reduceMul, Nat.reduceLeDiff, Int.reduceLT, Int.reduceSub, Int.reduceAdd, VA_ln, VA_fl, VA_cl, encC_def, chk_R, hfl, hcl]
      | ((first | refine atC ?_ ?_ | refine atG ?_ ?_ | refine atH ?_ ?_ | refine atP ?_ ?_) <;> intro hc <;> (try rw [hc]) <;> (try simp only [BD] at hc) <;> try (exfalso; omega))
      | ((first
        | (refine Runs.call (rbat_May t hV hv qo hg.at) ?_; rintro _ _ ⟨rfl, rfl⟩)
        | (refine Runs.call (rbat_MayChange l hW hw qo) ?_; rintro _ _ ⟨rfl, rfl⟩)
        | (refine Runs.call (rbat_without t hV hv hg qo (may_VR (by assumption))) ?_; rintro o0 H0 ⟨gr, m0, hO0, hva0, hng0, hm0⟩; have on0 := OwR.num hO0; have hfl0 := OwR.fl hO0; have hcl0 := cells_of hfl0; have hml0 := without_len hm0)
        | (refine Runs.call (rbat_without m (OwR.rd encR_len qo hO) hva.va hng qo hvb) ?_; rintro o2 H2 ⟨gr, m2, hO2, hva2, hng2, hm2⟩; have on2 := OwR.num hO2; have hfl2 := OwR.fl hO2; have hcl2 := cells_of hfl2; have hml2 := without_len hm2)
        | (refine Runs.call (f0_Copy ((hw.get qo).grow qg) qo) ?_; rintro w1 H1 ⟨gr, hn1⟩; have hO1 := hn1.new.own (Nat.le_refl _); have on1 := hO1.num; have hf1 := hO1.fl; have hc1 := cells_of hf1)
        | (refine Runs.call (rbat_with m2 (z := ⟨(l.getD i default).key, w1, (l.getD i default).val, false⟩) (OwR.rd encR_len qo (hO2.grow qg)) (hva2.va.grow qg) hf1 qo) ?_; rintro o3 H3 ⟨gr, hO3⟩; have on3 := OwR.num hO3; have hfl3 := OwR.fl hO3; have hcl3 := cells_of hfl3)
        | fail); all_goals ((try (have gn := gr.1; try simp only [nx_alloc, nx_set] at gn)); (try (have an := ha.num; try simp only [nx_alloc, nx_set, own_sl, own_nil] at an)); (try (have on := hO.num; try simp only [nx_alloc, nx_set] at on)); (try (have kn := hk.1; try simp only [nx_alloc, nx_set] at kn)); try have hB := hO.at)))
    all_goals try (first
      | exact ih ((i + 1, o3, withR m2 ⟨(l.getD i default).key, w1, (l.getD i default).val, false⟩)) _ _ _ (by ((try dsimp only); omega)) (by exact qf) (by ((try dsimp only); (first | (have hW3 : OwB h.next H3 w1 (l.getD i default).val := OwC.le (OwC.grow hO1 qg) qo; exact ⟨OwC.le hO3 qo, VO.with (hva2.le qo) qg qo hW3 (by show own w1 = 0 ∨ own w1 ≠ own o3; omega), withR_nogo hng2 rfl, qg, by omega, by (rw [withR_len]; omega), withR_vb (VB.ro (by rw [hm2]; exact (VB.en hvb).without _)) (hvi qo), by (rw [hfs qo, step_row hc, withR_en, hm2, hm]; rfl)⟩) | exact ⟨OwC.le hO2 qo, hva2.le qo, hng2, qg, by omega, by omega, VB.ro (by rw [hm2]; exact (VB.en hvb).without _), by rw [hfs qo, step_gone hc, hm2, hm]⟩ | fail)))
      | exact ih ((i + 1, o2, m2)) _ _ _ (by ((try dsimp only); omega)) (by exact qf) (by ((try dsimp only); (first | (have hW3 : OwB h.next H3 w1 (l.getD i default).val := OwC.le (OwC.grow hO1 qg) qo; exact ⟨OwC.le hO3 qo, VO.with (hva2.le qo) qg qo hW3 (by show own w1 = 0 ∨ own w1 ≠ own o3; omega), withR_nogo hng2 rfl, qg, by omega, by (rw [withR_len]; omega), withR_vb (VB.ro (by rw [hm2]; exact (VB.en hvb).without _)) (hvi qo), by (rw [hfs qo, step_row hc, withR_en, hm2, hm]; rfl)⟩) | exact ⟨OwC.le hO2 qo, hva2.le qo, hng2, qg, by omega, by omega, VB.ro (by rw [hm2]; exact (VB.en hvb).without _), by rw [hfs qo, step_gone hc, hm2, hm]⟩ | fail)))
      | (refine hK _ _ ?_; (first | exact ⟨qg, .inr ⟨by assumption, by assumption, o, m, rfl, hO, hva, hng, by omega, by rw [hm, show i = l.length by omega, enN_all]⟩⟩ | exact ⟨qg, .inl ⟨fun q => (by first | (rw [q.1] at hc; exact absurd hc (by decide)) | (rw [q.2] at hc; exact absurd hc (by decide)) | fail), rfl⟩⟩ | fail); done))

def findP (l : List En) (k : Bs) : Option Bs := if mayP l = true then (l.find? fun x => decide (x.key = k)).map En.val else none
theorem find_s {p : En → Bool} {l : List Ro} {i : Nat} (hi : i < l.length) (h : (enN l i).find? p = none) (hp : p (l.getD i default).en = false) : (enN l (i + 1)).find? p = none := by
  rw [enN_s hi, List.find?_append, h, List.find?_cons, hp]; rfl
theorem find_at {p : En → Bool} {l : List Ro} {i : Nat} (hi : i < l.length) (h : (enN l i).find? p = none) (hp : p (l.getD i default).en = true) : (l.map Ro.en).find? p = some (l.getD i default).en := by
  have : l.map Ro.en = enN l (i + 1) ++ (l.drop (i + 1)).map Ro.en := by unfold enN; rw [← List.map_append, List.take_append_drop]
  rw [this, enN_s hi, List.append_assoc, List.find?_append, h, List.singleton_append, List.find?_cons, hp]; rfl
theorem findP_at {l : List Ro} {k : Bs} {i : Nat} (hm : mayP (l.map Ro.en) = true) (hi : i < l.length) (h : (enN l i).find? (fun x => decide (x.key = k)) = none) (hp : (l.getD i default).key = k) : findP (l.map Ro.en) k = some (l.getD i default).val := by
  unfold findP
  rw [if_pos hm, find_at hi h (by rw [decide_eq_true_eq]; exact hp)]; rfl
theorem findP_no {l : List Ro} {k : Bs} {i : Nat} (h : (enN l i).find? (fun x => decide (x.key = k)) = none) (hi : l.length ≤ i) : findP (l.map Ro.en) k = none := by
  unfold findP
  have : enN l i = l.map Ro.en := by unfold enN; rw [List.take_of_length_le hi]
  rw [← this, h]; split <;> rfl
theorem findP_not {l : List Ro} {k : Bs} (h : mayP (l.map Ro.en) = false) : findP (l.map Ro.en) k = none := by
  unfold findP
  rw [h]; rfl
def L29_0 : SC := (.seq (.seq (.ops [⟨some 7, .mov (.t 6), none⟩, ⟨some 8, .mov (.t 0), none⟩, ⟨some 9, .len (.sl) (.t 8), none⟩, ⟨some 10, .bin (.lss) (.other) (.t 7) (.t 9), none⟩, ⟨some 11, .mov (.t 10), none⟩, ⟨some 12, .mov (.t 0), some (11, true)⟩, ⟨some 13, .call 24 [.t 12], some (11, true)⟩, ⟨some 14, .pick (.t 11) (.t 13) (.c (.bool false)), none⟩]) (.cond (.t 14) .skip (.exit 0))) (.seq (.block 1 (.seq (.ops [⟨some 17, .mov (.t 0), none⟩, ⟨some 18, .mov (.t 6), none⟩, ⟨some 19, .idxAddrSl 2 (.t 17) (.t 18), none⟩, ⟨some 20, .fieldAddr 0 (.t 19), none⟩, ⟨some 21, .load false 1 (.t 20), none⟩, ⟨some 22, .mov (.t 1), none⟩, ⟨some 23, .bin (.eql) (.str) (.t 21) (.t 22), none⟩]) (.cond (.t 23) (.seq (.ops [⟨some 24, .mov (.t 0), none⟩, ⟨some 25, .mov (.t 6), none⟩, ⟨some 26, .idxAddrSl 2 (.t 24) (.t 25), none⟩, ⟨some 27, .fieldAddr 1 (.t 26), none⟩, ⟨some 28, .load false 1 (.t 27), none⟩, ⟨some 29, .call 36 [.t 28], none⟩, ⟨some 4, .mov (.t 29), none⟩, ⟨some 5, .mov (.c (.bool true)), none⟩]) .ret) .skip))) (.ops [⟨some 15, .mov (.t 6), none⟩, ⟨some 16, .bin (.add) (.other) (.t 15) (.c (.int (.i64) 1)), none⟩, ⟨some 6, .mov (.t 16), none⟩])))
def b29 : SC := (.seq (.ops [⟨some 4, .mov (.c (.nilsl)), none⟩, ⟨some 5, .mov (.c (.bool false)), none⟩]) (.seq (.seq (.ops [⟨some 6, .mov (.c (.int (.i64) 0)), none⟩]) (.block 0 (.loop L29_0))) (.seq (.ops [⟨some 4, .mov (.c (.nilsl)), none⟩, ⟨some 5, .mov (.c (.bool false)), none⟩]) .ret)))
theorem t29 : tab 29 = some ⟨30, [.tmp 4, .tmp 5], b29⟩ := rfl
theorem rbat_Find (t : List Ro) {k : Bs} {h : Heap} {V : AV} (hV : RAt h V t) (hv : VAt h t) (hg : NoGo t) (hl : t.length ≤ 100000000) : Runs (xcall X1 tab (.fn 29) [V, .str k] h) fun v h' => Grow h h' ∧ ((∃ w val, findP (t.map Ro.en) k = some val ∧ v = .tuple [w, .bool true] ∧ OwB h.next h' w val) ∨ (findP (t.map Ro.en) k = none ∧ v = .tuple [.nilsl, .bool false])) := by
  refine Runs.intro fun K hK => ?_
  rw [w_fn rfl t29 (Nat.le_of_ble_eq_true rfl)]
  delta b29
  repeat' (first
    | simp (disch := first | exact qd | fail) only [WB, ↓WP, ↓WL, WR, WC, if_true, if_false, ite_true, ite_false, aop, ev, evs, readsA, List.replicate, numF, unA, resA, tupA, loadA, storeA, splice, fillA, kindsOk, plainEq, ↓reduceIte, Nat.reduceEqDiff, Nat.reduceLT, Int.reduceToNat, Int.reduceBEq, Int.reduceBNe, Nat.reduceAdd, Nat.reduceMul, Nat.reduceLeDiff, Int.reduceLT, Int.reduceSub, Int.reduceAdd, VA_ln, VA_fl, VA_cl, encR_def, chk_R]
    | ((first | refine atC ?_ ?_ | refine atG ?_ ?_ | refine atH ?_ ?_ | refine atP ?_ ?_) <;> intro hc <;> (try rw [hc]) <;> (try simp only [BD] at hc) <;> try (exfalso; omega)))
  all_goals try (first
    | (refine hK _ _ ?_; (first | exact ⟨qg, .inl ⟨w1, _, findP_at (by assumption) qo hm hc, rfl, hO1⟩⟩ | exact ⟨qg, .inr ⟨findP_not hc, rfl⟩⟩ | exact ⟨qg, .inr ⟨findP_no hm qo, rfl⟩⟩ | fail); done))
  all_goals
    refine wloop (α := Nat) [0, 1] (fun x => [(6, .int .i64 (x : Nat))]) (fun x H => h = H ∧ x ≤ t.length ∧ (enN t x).find? (fun x => decide (x.key = k)) = none) (fun x => t.length - x) ?_ (0) ?_ ?_
    rotate_left
    · exact qf
    · (try dsimp only)
      exact ⟨rfl, by omega, rfl⟩
    intro i b1 H hI ih
    try dsimp only at hI
    obtain ⟨rfl, hi, hm⟩ := hI
    have hfs := fun q => find_s (p := fun x => decide (x.key = k)) (l := t) (i := i) q hm
    try have gn := g.1
    refine w_unfold (by delta L29_0; rfl) ?_
    simp only [keeps_nil, keeps_cons, List.cons_append, List.nil_append, lk_cons, lk_nil, numF, Nat.reduceEqDiff, Nat.reduceAdd, Nat.zero_add, ↓reduceIte]
    repeat' (first
      | simp (disch := first | exact qd | fail) only [WB, ↓WP, ↓WL, WR, WC, if_true, if_false, ite_true, ite_false, aop, ev, evs, readsA, List.replicate, numF, unA, resA, tupA, loadA, storeA, splice, fillA, kindsOk, plainEq, ↓reduceIte, Nat.reduceEqDiff, Nat.reduceLT, Int.reduceToNat, Int.reduceBEq, Int.reduceBNe, Nat.reduceAdd, Nat.reduceMul, Nat.reduceLeDiff, Int.reduceLT, Int.reduceSub, Int.reduceAdd, VA_ln, VA_fl, VA_cl, encR_def, chk_R]
      | ((first | refine atC ?_ ?_ | refine atG ?_ ?_ | refine atH ?_ ?_ | refine atP ?_ ?_) <;> intro hc <;> (try rw [hc]) <;> (try simp only [BD] at hc) <;> try (exfalso; omega))
      | ((first
        | (refine Runs.call (rbat_May t hV hv qo hg.at) ?_; rintro _ _ ⟨rfl, rfl⟩)
        | (refine Runs.call (f0_Copy (hv.get qo) (by have := VR.get (l := t) (i := i) (may_VR (by assumption)) qo; omega)) ?_; rintro w1 H1 ⟨gr, hn1⟩; have hO1 := hn1.new.own (Nat.le_refl _); have hf1 := hO1.fl; have hc1 := cells_of hf1)
        | fail); all_goals ((try (have gn := gr.1; try simp only [nx_alloc, nx_set] at gn)); (try (have an := ha.num; try simp only [nx_alloc, nx_set, own_sl, own_nil] at an)); (try (have on := hO.num; try simp only [nx_alloc, nx_set] at on)); (try (have kn := hk.1; try simp only [nx_alloc, nx_set] at kn)); try have hB := hO.at)))
    all_goals try (first
      | exact ih (i + 1) _ _ _ (by ((try dsimp only); omega)) (by exact qf) (by ((try dsimp only); exact ⟨rfl, by omega, hfs qo (by rw [decide_eq_false_iff_not]; exact hc)⟩))
      | (refine hK _ _ ?_; (first | exact ⟨qg, .inl ⟨w1, _, findP_at (by assumption) qo hm hc, rfl, hO1⟩⟩ | exact ⟨qg, .inr ⟨findP_not hc, rfl⟩⟩ | exact ⟨qg, .inr ⟨findP_no hm qo, rfl⟩⟩ | fail); done))
end Go.Proofs.Ytbcmdlaffjmfdaa.Ya

