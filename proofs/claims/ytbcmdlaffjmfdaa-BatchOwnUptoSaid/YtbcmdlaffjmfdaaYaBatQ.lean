/-
  Batch: the run of BatchOwn.
-/
import Derived.Test.YtbcmdlaffjmfdaaYaBatO
import Derived.Test.YtbcmdlaffjmfdaaYbL
import Derived.Test.YtbcmdlaffjmfdaaYbK
namespace Go.Proofs.Ytbcmdlaffjmfdaa.Ya
open Go.Ya Go.Ya.Bat
set_option linter.unusedVariables false
set_option linter.unusedSimpArgs false
set_option maxRecDepth 100000
set_option maxHeartbeats 8000000

/-- Values of one's own, with three 9s behind them. -/
def WV (H : Heap) (x : Ro) : Prop := ∃ w, x.v = .slice w 0 x.val.length (x.val.length + 3) false 1 ∧ WideAt H w x.val
def WO (n : Nat) (H : Heap) (out : AV) (m : List Ro) : Prop := ∀ x ∈ m, ∃ w, x.v = .slice w 0 x.val.length (x.val.length + 3) false 1 ∧ WideAt H w x.val ∧ n ≤ w ∧ own out ≠ w + 1 ∧ own out ≠ w + 2
theorem WO.nil {n : Nat} {H : Heap} {out : AV} : WO n H out [] := fun x hx => nomatch hx
theorem WO.step {n : Nat} {H H' : Heap} {out out' : AV} {l : List Ro} (a : WO n H out l) (hg : ∀ j, n ≤ j → j < H.next → j + 1 ≠ own out → H'.get j = H.get j) (ho : own out' = own out ∨ H.next < own out') : WO n H' out' l := fun x hx => by
  obtain ⟨w, e, hw, h1, h2, h3⟩ := a x hx
  have hm := Heap.byteAt_lt hw.2
  exact ⟨w, e, hw.keep (hg w qo qo qo) (hg (w + 1) qo qo qo), h1, by omega, by omega⟩
theorem WO.push {n : Nat} {H : Heap} {out : AV} {l : List Ro} {x : Ro} (a : WO n H out l) {w : Nat} (e : x.v = .slice w 0 x.val.length (x.val.length + 3) false 1) (hw : WideAt H w x.val) (h1 : n ≤ w) (h2 : own out ≠ w + 1) (h3 : own out ≠ w + 2) : WO n H out (l ++ [x]) := fun y hy => by
  rcases List.mem_append.1 hy with hy | hy
  · exact a y hy
  · simp only [List.mem_singleton] at hy
    subst hy; exact ⟨w, e, hw, h1, h2, h3⟩
theorem WO.grow {n : Nat} {H H' : Heap} {out : AV} {l : List Ro} (a : WO n H out l) (g : Grow H H') : ∀ x ∈ l, WV H' x := fun x hx => by
  obtain ⟨w, e, hw, _⟩ := a x hx
  exact ⟨w, e, hw.grow g⟩
theorem wv_at {H : Heap} {l : List Ro} (a : ∀ x ∈ l, WV H x) : VAt H l := fun x hx => by
  obtain ⟨w, e, hw⟩ := a x hx
  rw [e]; exact hw.at
theorem wv_get {H : Heap} {l : List Ro} (a : ∀ x ∈ l, WV H x) {i : Nat} (hi : i < l.length) : WV H (l.getD i default) := by
  rw [List.getD_eq_getElem?_getD, List.getElem?_eq_getElem hi]; exact a _ (List.getElem_mem hi)
theorem left_v {h : Heap} {x : Ro} {u : AV} {bs : Bs} (hx : WV h x) (hb : BytesAt h u bs) (e : x.val = bs) : Runs (xcall X1 tab (.fn 20) [x.v, u] h) fun v h' => v = .bool true ∧ h = h' := by
  subst e
  obtain ⟨w, e, hw⟩ := hx
  rw [e]
  exact f0_Left hw hb
/-- What can be spoiled: its block is known to its end, and is of bytes. -/
def Sp (n : Nat) (H : Heap) (v : AV) : Prop := v = .nilsl ∨ ∃ id len ex cs, v = .slice id 0 len len ex 1 ∧ n ≤ id ∧ H.get id = some (.cells (ints cs) false) ∧ cs.length = len ∧ (ex = true ∨ H.byteAt id = true)
theorem VX.sp {n : Nat} {H : Heap} {out : AV} {l : List Ro} (a : VX n H out l) : ∀ x ∈ l, Sp n H x.v ∧ (own x.v = 0 ∨ (n < own x.v ∧ own x.v ≠ own out)) := fun x hx => by
  obtain ⟨h1, h2⟩ := a.1 x hx
  have hn := OwC.num h1
  rcases h1 with ⟨e, _⟩ | ⟨b, len, cap, ex, rest, e, e1, e2, e3, e4, e5⟩
  · exact ⟨.inl e, .inl (by rw [e]; rfl)⟩
  · obtain ⟨k1, k2⟩ := a.2 x hx b 0 len cap ex 1 e
    subst k1
    have hr : rest = [] := List.eq_nil_of_length_eq_zero (by rw [List.length_append] at e4; omega)
    subst hr
    rw [List.append_nil] at e2
    refine ⟨.inr ⟨b, cap, ex, x.val, e, e1, e2, by simpa using e3, ?_⟩, ?_⟩
    · rcases k2 with k2 | k2
      · exact .inl k2
      · exact .inr k2.1
    · omega
theorem NewBytes.sp {h0 h : Heap} {v : AV} {bs : Bs} (hn : NewBytes h0 h v bs) {n : Nat} (hh : n ≤ h0.next) : Sp n h v := by
  rcases hn with ⟨e, _⟩ | ⟨id, cap, ex, e, e1, e2, e3, e4, e5⟩
  · exact .inl e
  · obtain rfl : cap = bs.length := by omega
    exact .inr ⟨id, bs.length, ex, bs, e, by omega, e4, rfl, e5⟩
theorem Sp.grow {n : Nat} {h h' : Heap} {v : AV} (s : Sp n h v) (g : Grow h h') : Sp n h' v := by
  rcases s with e | ⟨id, len, ex, cs, e, e1, e2, e3, e4⟩
  · exact .inl e
  · exact .inr ⟨id, len, ex, cs, e, e1, g.get e2, e3, e4.imp (fun q => q) g.byteAt⟩
theorem Sp.le {n k : Nat} {h : Heap} {v : AV} (s : Sp n h v) (hk : k ≤ n) : Sp k h v := by
  rcases s with e | ⟨id, len, ex, cs, e, e1, e2⟩
  · exact .inl e
  · exact .inr ⟨id, len, ex, cs, e, by omega, e2⟩
theorem spoil_sp {n : Nat} {h : Heap} {v : AV} (s : Sp n h v) (b : Int) : Runs (xcall X1 tab (.fn 31) [v, .int .u8 b] h) fun _ h' => h'.next = h.next ∧ (∀ j, j < n → h'.get j = h.get j) ∧ (∀ j, j + 1 ≠ own v → h'.get j = h.get j) ∧ ∀ u k, Sp k h u → Sp k h' u := by
  rcases s with rfl | ⟨id, len, ex, cs, rfl, e1, e2, rfl, e4⟩
  · have hk1 : spoilK 31 31 [.nilsl, .int .u8 b] h = some (undefA, h) := by simp [spoilK]
    exact ⟨_, _, by rw [xcall_fn, hkSpoil _ _ _ hk1], rfl, fun _ _ => rfl, fun _ _ => rfl, fun _ _ q => q⟩
  · have hk1 : spoilK 31 31 [.slice id 0 cs.length cs.length ex 1, .int .u8 b] h = some (undefA, h.set id (.cells (ints (cs.map (spoiled b))) false)) := by
      have h1 : 0 + cs.length ≤ (ints cs).length ∧ (ex = true ∨ (h.byteAt id = true ∧ 0 + cs.length = (ints cs).length)) := ⟨by simp, e4.imp (fun e => e) fun e => ⟨e, by simp⟩⟩
      have h2 : ((ints cs).drop 0).take cs.length = ints cs := by simp [List.take_of_length_le]
      have h3 : (ints cs).drop (0 + cs.length) = [] := List.drop_eq_nil_of_le (by simp)
      simp only [spoilK, if_true, e2, h1, h2, byteCells_ints, h3, List.take_zero, List.nil_append, List.append_nil]
      simp
    have hid := Heap.lt_of_get e2
    have hg : ∀ j, (h.set id (.cells (ints (cs.map (spoiled b))) false)).get j = if j = id then some (.cells (ints (cs.map (spoiled b))) false) else h.get j := fun j => Heap.get_set _ _ _ _ hid
    refine ⟨_, _, by rw [xcall_fn, hkSpoil _ _ _ hk1], by simp, fun j hj => by rw [hg, if_neg qo], fun j hj => by rw [hg, if_neg (by simp only [own_sl] at hj; omega)], fun u k q => ?_⟩
    rcases q with q | ⟨id', len', ex', cs', rfl, q1, q2, q3, q4⟩
    · exact .inl q
    · have hb : h.byteAt id' = true → (h.set id (.cells (ints (cs.map (spoiled b))) false)).byteAt id' = true := fun q => by
        obtain ⟨o, m1, m2⟩ := Heap.byteAt_mark q
        rw [Heap.byteAt_of (hg (id' + 1) ▸ if_neg (fun e => by rw [e, e2] at m1; cases m1; cases m2))]; exact q
      by_cases hi : id' = id
      · subst hi
        rw [e2] at q2
        have hc : ints cs = ints cs' := by injection q2 with q2; injection q2
        have hl := congrArg List.length hc
        simp only [ints_len] at hl
        exact .inr ⟨id', len', ex', cs.map (spoiled b), rfl, q1, by rw [hg, if_pos rfl], by rw [List.length_map]; omega, q4.imp (fun q => q) hb⟩
      · exact .inr ⟨id', len', ex', cs', rfl, q1, by rw [hg, if_neg hi]; exact q2, q3, q4.imp (fun q => q) hb⟩
theorem applyX_t {E : AR} {h : Heap} {t l : List Ro} (r : Runs E fun v h' => Grow h h' ∧ ((¬ (mayP (t.map Ro.en) = true ∧ mayP (l.map Ro.en) = true) ∧ v = .tuple [.nilsl, .int .i64 2]) ∨ (mayP (t.map Ro.en) = true ∧ mayP (l.map Ro.en) = true ∧ ∃ o m, v = .tuple [o, .int .i64 0] ∧ OwR 2 encR h.next h' o m ∧ VX h.next h' o m ∧ NoGo m ∧ m.length ≤ t.length + l.length ∧ m.map Ro.en = applyP (t.map Ro.en) (l.map Ro.en)))) :
    Runs E fun v h' => Grow h h' ∧ ∃ o m, v = .tuple [o, .int .i64 (errA t l)] ∧ OwR 2 encR h.next h' o m ∧ VX h.next h' o m ∧ m.length ≤ t.length + l.length := r.mono fun v h' ⟨g, q⟩ => by
  rcases q with ⟨q, rfl⟩ | ⟨q1, q2, o, m, rfl, a1, a2, a3, a4, a5⟩
  · exact ⟨g, .nilsl, [], by rw [errA, if_neg (show ¬ okA t l from q)], OwC.nil, VX.nil, Nat.zero_le _⟩
  · exact ⟨g, o, m, by rw [errA, if_pos ⟨q1, q2⟩], a1, a2, a4⟩
theorem betX_t {E : AR} {h : Heap} {t l : List Ro} (r : Runs E fun v h' => Grow h h' ∧ ((¬ (mayP (t.map Ro.en) = true ∧ mayP (l.map Ro.en) = true) ∧ v = .tuple [.nilsl, .int .i64 2]) ∨ (mayP (t.map Ro.en) = true ∧ mayP (l.map Ro.en) = true ∧ ∃ o m, v = .tuple [o, .int .i64 0] ∧ OwR 3 encC h.next h' o m ∧ VX h.next h' o m ∧ m.length ≤ t.length + l.length ∧ m.map Ro.en = betP (t.map Ro.en) (l.map Ro.en)))) :
    Runs E fun v h' => Grow h h' ∧ ∃ o m, v = .tuple [o, .int .i64 (errA t l)] ∧ OwR 3 encC h.next h' o m ∧ VX h.next h' o m ∧ m.length ≤ t.length + l.length := r.mono fun v h' ⟨g, q⟩ => by
  rcases q with ⟨q, rfl⟩ | ⟨q1, q2, o, m, rfl, a1, a2, a4, a5⟩
  · exact ⟨g, .nilsl, [], by rw [errA, if_neg (show ¬ okA t l from q)], OwC.nil, VX.nil, Nat.zero_le _⟩
  · exact ⟨g, o, m, by rw [errA, if_pos ⟨q1, q2⟩], a1, a2, a4⟩
def L30_0 : SC := (.seq (.seq (.ops [⟨some 5, .mov (.t 4), none⟩, ⟨some 6, .mov (.t 0), none⟩, ⟨some 7, .len (.sl) (.t 6), none⟩, ⟨some 8, .bin (.lss) (.other) (.t 5) (.t 7), none⟩]) (.cond (.t 8) .skip (.exit 0))) (.seq (.block 1 (.drawOps [⟨some 11, .mov (.t 3), none⟩, ⟨some 12, .mov (.t 0), none⟩, ⟨some 13, .mov (.t 4), none⟩, ⟨some 14, .idxAddrSl 2 (.t 12) (.t 13), none⟩, ⟨some 15, .fieldAddr 0 (.t 14), none⟩, ⟨some 16, .load false 1 (.t 15), none⟩, ⟨some 17, .mov (.t 0), none⟩, ⟨some 18, .mov (.t 4), none⟩, ⟨some 19, .idxAddrSl 2 (.t 17) (.t 18), none⟩, ⟨some 20, .fieldAddr 1 (.t 19), none⟩, ⟨some 21, .load false 1 (.t 20), none⟩, ⟨some 22, .call 9 [.t 21], none⟩, ⟨some 23, .build [.str [], .nilsl] [(0, 1, .t 16), (1, 1, .t 22)], none⟩, ⟨some 24, .buildSlice [.str [], .nilsl] 1 2 [(0, 2, .t 23)], none⟩, ⟨some 25, .append 2 40 (.t 11) (.t 24), none⟩, ⟨some 3, .mov (.t 25), none⟩] [(5, 11)])) (.ops [⟨some 9, .mov (.t 4), none⟩, ⟨some 10, .bin (.add) (.other) (.t 9) (.c (.int (.i64) 1)), none⟩, ⟨some 4, .mov (.t 10), none⟩])))
def b30 : SC := (.seq (.ops [⟨some 2, .mov (.c (.nilsl)), none⟩]) (.seq (.ops [⟨some 3, .mov (.c (.nilsl)), none⟩]) (.seq (.seq (.ops [⟨some 4, .mov (.c (.int (.i64) 0)), none⟩]) (.block 0 (.loop L30_0))) (.seq (.ops [⟨some 26, .mov (.t 3), none⟩, ⟨some 2, .mov (.t 26), none⟩]) .ret))))
theorem t30 : tab 30 = some ⟨27, [.tmp 2], b30⟩ := rfl
theorem law_own (t : List Ro) {h : Heap} {V : AV} (hV : RAt h V t) (hv : VAt h t) (hg : NoGo t) (hl : t.length ≤ 60) (hvl : ∀ x ∈ t, x.val.length ≤ 1048576) : Runs (xcall X1 tab (.fn 30) [V] h) fun v h' => Grow h h' ∧ ∃ m, OwR 2 encR h.next h' v m ∧ WO h.next h' v m ∧ NoGo m ∧ m.length = t.length ∧ m.map Ro.en = t.map Ro.en := by
  refine Runs.intro fun K hK => ?_
  rw [w_fn rfl t30 (Nat.le_of_ble_eq_true rfl)]
  delta b30
  repeat' (first
    | simp (disch := first | exact qd | fail) only [WB, ↓WP, ↓WL, WR, WC, if_true, if_false, ite_true, ite_false, aop, ev, evs, readsA, List.replicate, numF, unA, resA, tupA, loadA, storeA, splice, fillA, kindsOk, plainEq, ↓reduceIte, Nat.reduceEqDiff, Nat.reduceLT, Int.reduceToNat, Int.reduceBEq, Int.reduceBNe, Nat.reduceAdd, Nat.reduceMul, Nat.reduceLeDiff, Int.reduceLT, Int.reduceSub, Int.reduceAdd, VA_ln, VA_fl, VA_cl, encR_def, chk_R]
    | ((first | refine atC ?_ ?_ | refine atG ?_ ?_ | refine atH ?_ ?_ | refine atP ?_ ?_) <;> intro hc <;> (try rw [hc]) <;> (try simp only [BD] at hc) <;> try (exfalso; omega)))
  all_goals try (first
    | (refine hK _ _ ?_; exact ⟨qg, m, hO, hwo, hng, by omega, by (rw [hm, show i = t.length by omega, enN_all])⟩; done)
    | fail)
  all_goals
    refine wloop (α := Nat × AV × (List Ro)) [0] (fun x => [(3, x.2.1), (4, .int .i64 (x.1 : Nat))]) (fun x H => OwR 2 encR h.next H x.2.1 x.2.2 ∧ WO h.next H x.2.1 x.2.2 ∧ NoGo x.2.2 ∧ Grow h H ∧ x.1 ≤ t.length ∧ x.2.2.length = x.1 ∧ x.2.2.map Ro.en = enN t x.1) (fun x => t.length - x.1) ?_ ((0, .nilsl, [])) ?_ ?_
    rotate_left
    · exact qf
    · (try dsimp only)
      exact ⟨OwC.nil, WO.nil, (fun x hx => nomatch hx), qg, by omega, rfl, rfl⟩
    intro x b1 H hI ih
    obtain ⟨i, o, m⟩ := x
    try dsimp only at hI
    obtain ⟨hO, hwo, hng, g, hi, hml, hm⟩ := hI
    have on := OwR.num hO
    have hfl := OwR.fl hO
    have hcl := cells_of hfl
    have hfs := fun q => enN_s (l := t) (i := i) q
    have hvi : i < t.length → (t.getD i default).val.length ≤ 1048576 := fun q => hvl _ (by rw [List.getD_eq_getElem?_getD, List.getElem?_eq_getElem q]; exact List.getElem_mem q)
    have hgi := hg.at i
    try have gn := g.1
    refine w_unfold (by delta L30_0; rfl) ?_
    simp only [keeps_nil, keeps_cons, List.cons_append, List.nil_append, lk_cons, lk_nil, numF, Nat.reduceEqDiff, Nat.reduceAdd, Nat.zero_add, ↓reduceIte]
    repeat' (first
      | simp (disch := first | exact qd | fail) only [WB, ↓WP, ↓WL, WR, WC, if_true, if_false, ite_true, ite_false, aop, ev, evs, readsA, List.replicate, numF, unA, resA, tupA, loadA, storeA, splice, fillA, kindsOk, plainEq, ↓reduceIte, Nat.reduceEqDiff, Nat.reduceLT, Int.reduceToNat, Int.reduceBEq, Int.reduceBNe, Nat.reduceAdd, Nat.reduceMul, Nat.reduceLeDiff, Int.reduceLT, Int.reduceSub, Int.reduceAdd, VA_ln, VA_fl, VA_cl, encR_def, chk_R, hfl, hcl]
      | ((first | refine atC ?_ ?_ | refine atG ?_ ?_ | refine atH ?_ ?_ | refine atP ?_ ?_) <;> intro hc <;> (try rw [hc]) <;> (try simp only [BD] at hc) <;> try (exfalso; omega))
      | ((first
        | (refine Runs.call (f0_Wide ((hv.get qo).grow qg) qo) ?_; rintro _ H1 ⟨gr, w, rfl, hw0, hw1, hw⟩; have hwm := Heap.byteAt_lt hw.2)
        | (refine Runs.call (OwR.push encR_len qo (hO.keep (fun j hj he => qs)) ql (a := ⟨(t.getD i default).key, .slice w 0 (t.getD i default).val.length ((t.getD i default).val.length + 3) false 1, (t.getD i default).val, false⟩) (ga_new rfl) rfl qo) ?_; rintro o2 H2 ⟨hO2, ha⟩; have on2 := OwR.num hO2)
        | fail); all_goals ((try (have gn := gr.1; try simp only [nx_alloc, nx_set] at gn)); (try (have an := ha.num; try simp only [nx_alloc, nx_set, own_sl, own_nil] at an)); (try (have on := hO.num; try simp only [nx_alloc, nx_set] at on)); (try (have kn := hk.1; try simp only [nx_alloc, nx_set] at kn)); try have hB := hO.at)))
    all_goals try (first
      | exact ih ((i + 1, o2, m ++ [⟨(t.getD i default).key, .slice w 0 (t.getD i default).val.length ((t.getD i default).val.length + 3) false 1, (t.getD i default).val, false⟩])) _ _ _ (by ((try dsimp only); omega)) qf (by ((try dsimp only); (first | (exact ⟨hO2, WO.push (WO.step hwo (fun j hn hj he => qs) qo) rfl (hw.keep qs qs) qo qo qo, nogo_push hng rfl, qg, by omega, ql, by (rw [hfs qo, List.map_append, hm]; show _ ++ [(⟨_, _, false⟩ : En)] = _ ++ [(⟨_, _, (t.getD i default).gone⟩ : En)]; rw [hgi qo])⟩) | fail)))
      | (refine hK _ _ ?_; exact ⟨qg, m, hO, hwo, hng, by omega, by (rw [hm, show i = t.length by omega, enN_all])⟩; done)
      | fail)
def L32_0 : SC := (.seq (.seq (.ops [⟨some 6, .mov (.t 5), none⟩, ⟨some 7, .mov (.t 1), none⟩, ⟨some 8, .len (.sl) (.t 7), none⟩, ⟨some 9, .bin (.lss) (.other) (.t 6) (.t 8), none⟩]) (.cond (.t 9) .skip (.exit 0))) (.seq (.block 1 (.seq (.ops [⟨some 12, .mov (.t 0), none⟩, ⟨some 13, .mov (.t 5), none⟩, ⟨some 14, .idxAddrSl 2 (.t 12) (.t 13), none⟩, ⟨some 15, .fieldAddr 0 (.t 14), none⟩, ⟨some 16, .load false 1 (.t 15), none⟩, ⟨some 17, .mov (.t 1), none⟩, ⟨some 18, .mov (.t 5), none⟩, ⟨some 19, .idxAddrSl 2 (.t 17) (.t 18), none⟩, ⟨some 20, .fieldAddr 0 (.t 19), none⟩, ⟨some 21, .load false 1 (.t 20), none⟩, ⟨some 22, .bin (.neq) (.str) (.t 16) (.t 21), none⟩, ⟨some 23, .mov (.t 22), none⟩, ⟨some 24, .mov (.t 0), some (23, false)⟩, ⟨some 25, .mov (.t 5), some (23, false)⟩, ⟨some 26, .idxAddrSl 2 (.t 24) (.t 25), some (23, false)⟩, ⟨some 27, .fieldAddr 1 (.t 26), some (23, false)⟩, ⟨some 28, .load false 1 (.t 27), some (23, false)⟩, ⟨some 29, .mov (.t 1), some (23, false)⟩, ⟨some 30, .mov (.t 5), some (23, false)⟩, ⟨some 31, .idxAddrSl 2 (.t 29) (.t 30), some (23, false)⟩, ⟨some 32, .fieldAddr 1 (.t 31), some (23, false)⟩, ⟨some 33, .load false 1 (.t 32), some (23, false)⟩, ⟨some 34, .call 20 [.t 28, .t 33], some (23, false)⟩, ⟨some 35, .un (.not) (.t 34), some (23, false)⟩, ⟨some 36, .pick (.t 23) (.c (.bool true)) (.t 35), none⟩]) (.cond (.t 36) (.seq (.ops [⟨some 4, .mov (.c (.bool false)), none⟩]) .ret) .skip))) (.ops [⟨some 10, .mov (.t 5), none⟩, ⟨some 11, .bin (.add) (.other) (.t 10) (.c (.int (.i64) 1)), none⟩, ⟨some 5, .mov (.t 11), none⟩])))
def b32 : SC := (.seq (.ops [⟨some 4, .mov (.c (.bool false)), none⟩]) (.seq (.seq (.ops [⟨some 5, .mov (.c (.int (.i64) 0)), none⟩]) (.block 0 (.loop L32_0))) (.seq (.ops [⟨some 4, .mov (.c (.bool true)), none⟩]) .ret)))
theorem t32 : tab 32 = some ⟨37, [.tmp 4], b32⟩ := rfl
theorem law_left (m t : List Ro) {h : Heap} {A V : AV} (hA : RAt h A m) (hW : ∀ x ∈ m, WV h x) (hV : RAt h V t) (hv : VAt h t) (he : m.map Ro.en = t.map Ro.en) (hl : t.length ≤ 1000000) : Runs (xcall X1 tab (.fn 32) [A, V] h) fun v h' => v = .bool true ∧ h = h' := by
  refine Runs.intro fun K hK => ?_
  have hwa := wv_at hW
  have hlm : m.length = t.length := by have := congrArg List.length he; simpa using this
  rw [w_fn rfl t32 (Nat.le_of_ble_eq_true rfl)]
  delta b32
  repeat' (first
    | simp (disch := first | exact qd | fail) only [WB, ↓WP, ↓WL, WR, WC, if_true, if_false, ite_true, ite_false, aop, ev, evs, readsA, List.replicate, numF, unA, resA, tupA, loadA, storeA, splice, fillA, kindsOk, plainEq, ↓reduceIte, Nat.reduceEqDiff, Nat.reduceLT, Int.reduceToNat, Int.reduceBEq, Int.reduceBNe, Nat.reduceAdd, Nat.reduceMul, Nat.reduceLeDiff, Int.reduceLT, Int.reduceSub, Int.reduceAdd, VA_ln, VA_fl, VA_cl, encR_def, chk_R]
    | ((first | refine atC ?_ ?_ | refine atG ?_ ?_ | refine atH ?_ ?_ | refine atP ?_ ?_) <;> intro hc <;> (try rw [hc]) <;> (try simp only [BD] at hc) <;> try (exfalso; omega)))
  all_goals try (first
    | (refine hK _ _ ?_; (first | exact ⟨rfl, rfl⟩ | (exfalso; have q := (hei qo).1; exact hc q) | fail); done)
    | fail)
  all_goals
    refine wloop (α := Nat) [0, 1] (fun x => [(5, .int .i64 (x : Nat))]) (fun x H => h = H ∧ x ≤ t.length) (fun x => t.length - x) ?_ (0) ?_ ?_
    rotate_left
    · exact qf
    · (try dsimp only)
      exact ⟨rfl, by omega⟩
    intro i b1 H hI ih
    try dsimp only at hI
    obtain ⟨rfl, hi⟩ := hI
    have hei : i < t.length → (m.getD i default).key = (t.getD i default).key ∧ (m.getD i default).val = (t.getD i default).val := fun q => by
      have h1 := en_get (l := m) (i := i) qo
      have h2 := en_get (l := t) (i := i) q
      rw [he] at h1
      have h3 := h1.symm.trans h2
      exact ⟨congrArg En.key h3, congrArg En.val h3⟩
    try have gn := g.1
    refine w_unfold (by delta L32_0; rfl) ?_
    simp only [keeps_nil, keeps_cons, List.cons_append, List.nil_append, lk_cons, lk_nil, numF, Nat.reduceEqDiff, Nat.reduceAdd, Nat.zero_add, ↓reduceIte]
    repeat' (first
      | simp (disch := first | exact qd | fail) only [WB, ↓WP, ↓WL, WR, WC, if_true, if_false, ite_true, ite_false, aop, ev, evs, readsA, List.replicate, numF, unA, resA, tupA, loadA, storeA, splice, fillA, kindsOk, plainEq, ↓reduceIte, Nat.reduceEqDiff, Nat.reduceLT, Int.reduceToNat, Int.reduceBEq, Int.reduceBNe, Nat.reduceAdd, Nat.reduceMul, Nat.reduceLeDiff, Int.reduceLT, Int.reduceSub, Int.reduceAdd, VA_ln, VA_fl, VA_cl, encR_def, chk_R]
      | ((first | refine atC ?_ ?_ | refine atG ?_ ?_ | refine atH ?_ ?_ | refine atP ?_ ?_) <;> intro hc <;> (try rw [hc]) <;> (try simp only [BD] at hc) <;> try (exfalso; omega))
      | ((first
        | (refine Runs.call (left_v (wv_get hW (i := i) qo) (hv.get (i := i) qo) (hei qo).2) ?_; rintro _ _ ⟨rfl, rfl⟩)
        | fail); all_goals ((try (have gn := gr.1; try simp only [nx_alloc, nx_set] at gn)); (try (have an := ha.num; try simp only [nx_alloc, nx_set, own_sl, own_nil] at an)); (try (have on := hO.num; try simp only [nx_alloc, nx_set] at on)); (try (have kn := hk.1; try simp only [nx_alloc, nx_set] at kn)); try have hB := hO.at)))
    all_goals try (first
      | exact ih (i + 1) _ _ _ (by ((try dsimp only); omega)) qf (by ((try dsimp only); (first | (exact ⟨rfl, by omega⟩) | fail)))
      | (refine hK _ _ ?_; (first | exact ⟨rfl, rfl⟩ | (exfalso; have q := (hei qo).1; exact hc q) | fail); done)
      | fail)
def L7_0 : SC := (.seq (.seq (.ops [⟨some 43, .mov (.t 13), none⟩, ⟨some 44, .mov (.t 11), none⟩, ⟨some 45, .len (.sl) (.t 44), none⟩, ⟨some 46, .bin (.lss) (.other) (.t 43) (.t 45), none⟩, ⟨some 47, .mov (.t 46), none⟩, ⟨some 48, .mov (.t 12), some (47, true)⟩, ⟨some 49, .bin (.eql) (.other) (.t 48) (.c (.int (.i64) 0)), some (47, true)⟩, ⟨some 50, .pick (.t 47) (.t 49) (.c (.bool false)), none⟩]) (.cond (.t 50) .skip (.exit 0))) (.seq (.block 1 (.ops [⟨some 53, .mov (.t 11), none⟩, ⟨some 54, .mov (.t 13), none⟩, ⟨some 55, .idxAddrSl 2 (.t 53) (.t 54), none⟩, ⟨some 56, .fieldAddr 1 (.t 55), none⟩, ⟨some 57, .load false 1 (.t 56), none⟩, ⟨some 58, .mov (.t 2), none⟩, ⟨some 59, .bin (.or) (.other) (.t 58) (.c (.int (.u8) 1)), none⟩, ⟨some 60, .call 31 [.t 57, .t 59], none⟩])) (.ops [⟨some 51, .mov (.t 13), none⟩, ⟨some 52, .bin (.add) (.other) (.t 51) (.c (.int (.i64) 1)), none⟩, ⟨some 13, .mov (.t 52), none⟩])))
def L7_1 : SC := (.seq (.seq (.ops [⟨some 61, .mov (.t 14), none⟩, ⟨some 62, .mov (.t 9), none⟩, ⟨some 63, .len (.sl) (.t 62), none⟩, ⟨some 64, .bin (.lss) (.other) (.t 61) (.t 63), none⟩, ⟨some 65, .mov (.t 64), none⟩, ⟨some 66, .mov (.t 10), some (65, true)⟩, ⟨some 67, .bin (.eql) (.other) (.t 66) (.c (.int (.i64) 0)), some (65, true)⟩, ⟨some 68, .pick (.t 65) (.t 67) (.c (.bool false)), none⟩]) (.cond (.t 68) .skip (.exit 2))) (.seq (.block 3 (.ops [⟨some 71, .mov (.t 9), none⟩, ⟨some 72, .mov (.t 14), none⟩, ⟨some 73, .idxAddrSl 3 (.t 71) (.t 72), none⟩, ⟨some 74, .fieldAddr 1 (.t 73), none⟩, ⟨some 75, .load false 1 (.t 74), none⟩, ⟨some 76, .mov (.t 2), none⟩, ⟨some 77, .bin (.or) (.other) (.t 76) (.c (.int (.u8) 1)), none⟩, ⟨some 78, .call 31 [.t 75, .t 77], none⟩])) (.ops [⟨some 69, .mov (.t 14), none⟩, ⟨some 70, .bin (.add) (.other) (.t 69) (.c (.int (.i64) 1)), none⟩, ⟨some 14, .mov (.t 70), none⟩])))
def L7_2 : SC := (.seq (.seq (.ops [⟨some 79, .mov (.t 15), none⟩, ⟨some 80, .mov (.t 7), none⟩, ⟨some 81, .len (.sl) (.t 80), none⟩, ⟨some 82, .bin (.lss) (.other) (.t 79) (.t 81), none⟩]) (.cond (.t 82) .skip (.exit 4))) (.seq (.block 5 (.seq (.ops [⟨some 86, .mov (.t 7), none⟩, ⟨some 87, .mov (.t 7), none⟩, ⟨some 88, .mov (.t 15), none⟩, ⟨some 89, .idxAddrSl 2 (.t 87) (.t 88), none⟩, ⟨some 90, .fieldAddr 0 (.t 89), none⟩, ⟨some 91, .load false 1 (.t 90), none⟩, ⟨some 92, .call 28 [.t 86, .t 91], none⟩, ⟨some 85, .mov (.t 92), none⟩, ⟨some 93, .extract (.t 85) 0, none⟩, ⟨some 94, .extract (.t 85) 1, none⟩, ⟨some 16, .mov (.t 93), none⟩, ⟨some 17, .mov (.t 94), none⟩]) (.ops [⟨some 95, .mov (.t 16), none⟩, ⟨some 96, .mov (.t 2), none⟩, ⟨some 97, .bin (.or) (.other) (.t 96) (.c (.int (.u8) 1)), none⟩, ⟨some 98, .call 31 [.t 95, .t 97], none⟩]))) (.ops [⟨some 83, .mov (.t 15), none⟩, ⟨some 84, .bin (.add) (.other) (.t 83) (.c (.int (.i64) 1)), none⟩, ⟨some 15, .mov (.t 84), none⟩])))
def b7 : SC := (.seq (.ops [⟨some 6, .mov (.c (.bool false)), none⟩]) (.seq (.seq (.ops [⟨some 18, .mov (.t 0), none⟩, ⟨some 19, .len (.sl) (.t 18), none⟩, ⟨some 20, .bin (.gtr) (.other) (.t 19) (.c (.int (.i64) 60)), none⟩, ⟨some 21, .mov (.t 20), none⟩, ⟨some 22, .mov (.t 1), some (21, false)⟩, ⟨some 23, .len (.sl) (.t 22), some (21, false)⟩, ⟨some 24, .bin (.gtr) (.other) (.t 23) (.c (.int (.i64) 60)), some (21, false)⟩, ⟨some 25, .pick (.t 21) (.c (.bool true)) (.t 24), none⟩]) (.cond (.t 25) (.seq (.ops [⟨some 26, .call 8 [], none⟩, ⟨some 6, .mov (.t 26), none⟩]) .ret) .skip)) (.seq (.ops [⟨some 27, .mov (.t 0), none⟩, ⟨some 28, .call 30 [.t 27], none⟩, ⟨some 29, .mov (.t 1), none⟩, ⟨some 30, .call 30 [.t 29], none⟩, ⟨some 7, .mov (.t 28), none⟩, ⟨some 8, .mov (.t 30), none⟩]) (.seq (.ops [⟨some 32, .mov (.t 7), none⟩, ⟨some 33, .mov (.t 8), none⟩, ⟨some 34, .call 26 [.t 32, .t 33], none⟩, ⟨some 31, .mov (.t 34), none⟩, ⟨some 35, .extract (.t 31) 0, none⟩, ⟨some 36, .extract (.t 31) 1, none⟩, ⟨some 9, .mov (.t 35), none⟩, ⟨some 10, .mov (.t 36), none⟩]) (.seq (.ops [⟨some 38, .mov (.t 7), none⟩, ⟨some 39, .mov (.t 9), none⟩, ⟨some 40, .call 21 [.t 38, .t 39], none⟩, ⟨some 37, .mov (.t 40), none⟩, ⟨some 41, .extract (.t 37) 0, none⟩, ⟨some 42, .extract (.t 37) 1, none⟩, ⟨some 11, .mov (.t 41), none⟩, ⟨some 12, .mov (.t 42), none⟩]) (.seq (.seq (.ops [⟨some 13, .mov (.c (.int (.i64) 0)), none⟩]) (.block 0 (.loop L7_0))) (.seq (.seq (.ops [⟨some 14, .mov (.c (.int (.i64) 0)), none⟩]) (.block 2 (.loop L7_1))) (.seq (.seq (.ops [⟨some 15, .mov (.c (.int (.i64) 0)), none⟩]) (.block 4 (.loop L7_2))) (.seq (.ops [⟨some 99, .mov (.t 7), none⟩, ⟨some 100, .mov (.t 0), none⟩, ⟨some 101, .call 32 [.t 99, .t 100], none⟩, ⟨some 102, .mov (.t 101), none⟩, ⟨some 103, .mov (.t 8), some (102, true)⟩, ⟨some 104, .mov (.t 1), some (102, true)⟩, ⟨some 105, .call 32 [.t 103, .t 104], some (102, true)⟩, ⟨some 106, .pick (.t 102) (.t 105) (.c (.bool false)), none⟩, ⟨some 107, .mov (.t 106), none⟩, ⟨some 108, .call 8 [], some (107, true)⟩, ⟨some 109, .pick (.t 107) (.t 108) (.c (.bool false)), none⟩, ⟨some 6, .mov (.t 109), none⟩]) .ret)))))))))
theorem t7 : tab 7 = some ⟨110, [.tmp 6], b7⟩ := rfl
theorem find_sp {E : AR} {h : Heap} {o : Option (List Int)} (r : Runs E fun v h' => Grow h h' ∧ ((∃ w val, o = some val ∧ v = .tuple [w, .bool true] ∧ NewBytes h h' w val) ∨ (o = none ∧ v = .tuple [.nilsl, .bool false]))) :
    Runs E fun v h' => Grow h h' ∧ ∃ w ok, v = .tuple [w, .bool ok] ∧ Sp h.next h' w := r.mono fun v h' ⟨g, q⟩ => by
  rcases q with ⟨w, val, _, rfl, hn⟩ | ⟨_, rfl⟩
  · exact ⟨g, w, true, rfl, NewBytes.sp hn (Nat.le_refl _)⟩
  · exact ⟨g, .nilsl, false, rfl, .inl rfl⟩
theorem sp_get {n : Nat} {H : Heap} {l : List Ro} {P : Ro → Prop} (h : ∀ x ∈ l, Sp n H x.v ∧ P x) {i : Nat} (hi : i < l.length) : Sp n H (l.getD i default).v ∧ P (l.getD i default) := by
  rw [List.getD_eq_getElem?_getD, List.getElem?_eq_getElem hi]; exact h _ (List.getElem_mem hi)
theorem sp_flat {n : Nat} {H : Heap} {v : AV} (s : Sp n H v) : v.flat = true := by
  rcases s with rfl | ⟨id, len, ex, cs, rfl, _⟩ <;> rfl
theorem grow_sp {h0 h h' : Heap} {n : Nat} (g : Grow h0 h) (hn : h0.next ≤ n) (e : h'.next = h.next) (k : ∀ j, j < n → h'.get j = h.get j) : Grow h0 h' := ⟨by rw [e]; exact g.1, fun j hj => (k j qo).trans (g.2 j hj)⟩
theorem go_Own (t u : List Ro) {bb : Int} (hbb : 0 ≤ bb ∧ bb ≤ 255) {h : Heap} {V U : AV} (hV : RAt h V t) (hv : VAt h t) (hg : NoGo t) (hU : RAt h U u) (hu : VAt h u) (hgu : NoGo u) (hvt : ∀ x ∈ t, x.val.length ≤ 1048576) (hvu : ∀ x ∈ u, x.val.length ≤ 1048576) : Runs (xcall X1 tab (.fn 7) [V, U, .int .u8 bb] h) fun v h' => v = .bool true := by
  refine Runs.intro fun K hK => ?_
  rw [w_fn rfl t7 (Nat.le_of_ble_eq_true rfl)]
  delta b7
  repeat' (first
    | simp (disch := first | exact qd | fail) only [WB, ↓WP, ↓WL, WR, WC, if_true, if_false, ite_true, ite_false, aop, ev, evs, readsA, List.replicate, numF, unA, resA, tupA, loadA, storeA, splice, fillA, kindsOk, plainEq, ↓reduceIte, Nat.reduceEqDiff, Nat.reduceLT, Int.reduceToNat, Int.reduceBEq, Int.reduceBNe, Nat.reduceAdd, Nat.reduceMul, Nat.reduceLeDiff, Int.reduceLT, Int.reduceSub, Int.reduceAdd, VA_ln, VA_fl, VA_cl, encR_def, encC_def, chk_R]
    | ((first | refine atC ?_ ?_ | refine atG ?_ ?_ | refine atH ?_ ?_ | refine atP ?_ ?_) <;> intro hc <;> (try rw [hc]) <;> (try simp only [BD] at hc) <;> try (exfalso; omega))
    | ((first
      | (refine Runs.call (lives_r _) ?_; rintro _ _ ⟨rfl, rfl⟩)
      | (refine Runs.call (law_own t (hV.grow qg) (hv.grow qg) hg qo hvt) ?_; rintro a Ha ⟨gr, ma, hOa, hwa, hnga, hmla, hea⟩; have hRa := OwR.rd encR_len qo hOa; have hWa := hwa.grow (Grow.refl _); have hVa := wv_at hWa)
      | (refine Runs.call (law_own u (hU.grow qg) (hu.grow qg) hgu qo hvu) ?_; rintro b Hb ⟨gr, mb, hOb, hwb, hngb, hmlb, heb⟩; have hRb := OwR.rd encR_len qo hOb; have hWb := hwb.grow (Grow.refl _); have hVb := wv_at hWb; have gab := gr)
      | (refine Runs.call (betX_t (bat_BetweenX ma mb (hRa.grow qg) (hVa.grow qg) hnga (hRb.grow qg) (hVb.grow qg) hngb qo)) ?_; rintro v3 Hc ⟨gr, c, mc, rfl, hOc, hxc, hmlc⟩; have hRc := OwR.rd encC_len qo hOc; have hsc := hxc.sp; have onc := OwR.num hOc; have gbc := gr)
      | (refine Runs.call (applyX_t (bat_ApplyX ma mc (hRa.grow qg) (hVa.grow qg) hnga (hRc.grow qg) (hxc.va.grow qg) qo)) ?_; rintro v4 Hx ⟨gr, z, mx, rfl, hOx, hxx, hmlx⟩; have hsx := hxx.sp; have onx := OwR.num hOx; have gcx := gr)
      | fail); all_goals ((try (have gn := gr.1; try simp only [nx_alloc, nx_set] at gn)); (try (have an := ha.num; try simp only [nx_alloc, nx_set, own_sl, own_nil] at an)); (try (have on := hO.num; try simp only [nx_alloc, nx_set] at on)); (try (have kn := hk.1; try simp only [nx_alloc, nx_set] at kn)); try have hB := hO.at)))
  all_goals try (first
    | (refine hK _ _ ?_; (first | rfl | fail); done)
    | fail)
  all_goals
    refine wloop (α := Nat) [0, 1, 2, 7, 8, 9, 10, 11, 12] (fun x => [(13, .int .i64 (x : Nat))]) (fun x H => Grow Hb H ∧ OwR 2 encR Hc.next H z mx ∧ OwR 3 encC Hb.next H c mc ∧ (∀ r ∈ mx, Sp Hc.next H r.v ∧ (own r.v = 0 ∨ (Hc.next < own r.v ∧ own r.v ≠ own z))) ∧ (∀ r ∈ mc, Sp Hb.next H r.v ∧ (own r.v = 0 ∨ (Hb.next < own r.v ∧ own r.v ≠ own c))) ∧ x ≤ mx.length) (fun x => mx.length - x) ?_ (0) ?_ ?_
    rotate_left
    · exact qf
    · (try dsimp only)
      exact ⟨qg, hOx, hOc.grow qg, hsx, (fun r hr => ⟨(hsc r hr).1.grow qg, (hsc r hr).2⟩), by omega⟩
    intro i b1 H hI ih
    try dsimp only at hI
    obtain ⟨g, hOx1, hOc1, hsx1, hsc1, hi⟩ := hI
    have hRx1 := OwR.rd encR_len qo hOx1
    have hgx := fun q => sp_get hsx1 (i := i) q
    try have gn := g.1
    refine w_unfold (by delta L7_0; rfl) ?_
    simp only [keeps_nil, keeps_cons, List.cons_append, List.nil_append, lk_cons, lk_nil, numF, Nat.reduceEqDiff, Nat.reduceAdd, Nat.zero_add, ↓reduceIte]
    repeat' (first
      | simp (disch := first | exact qd | fail) only [WB, ↓WP, ↓WL, WR, WC, if_true, if_false, ite_true, ite_false, aop, ev, evs, readsA, List.replicate, numF, unA, resA, tupA, loadA, storeA, splice, fillA, kindsOk, plainEq, ↓reduceIte, Nat.reduceEqDiff, Nat.reduceLT, Int.reduceToNat, Int.reduceBEq, Int.reduceBNe, Nat.reduceAdd, Nat.reduceMul, Nat.reduceLeDiff, Int.reduceLT, Int.reduceSub, Int.reduceAdd, VA_ln, VA_fl, VA_cl, encR_def, encC_def, chk_R]
      | ((first | refine atC ?_ ?_ | refine atG ?_ ?_ | refine atH ?_ ?_ | refine atP ?_ ?_) <;> intro hc <;> (try rw [hc]) <;> (try simp only [BD] at hc) <;> try (exfalso; omega))
      | ((first
        | (refine Runs.call (lives_r _) ?_; rintro _ _ ⟨rfl, rfl⟩)
        | (refine Runs.call (law_own t (hV.grow qg) (hv.grow qg) hg qo hvt) ?_; rintro a Ha ⟨gr, ma, hOa, hwa, hnga, hmla, hea⟩; have hRa := OwR.rd encR_len qo hOa; have hWa := hwa.grow (Grow.refl _); have hVa := wv_at hWa)
        | (refine Runs.call (law_own u (hU.grow qg) (hu.grow qg) hgu qo hvu) ?_; rintro b Hb ⟨gr, mb, hOb, hwb, hngb, hmlb, heb⟩; have hRb := OwR.rd encR_len qo hOb; have hWb := hwb.grow (Grow.refl _); have hVb := wv_at hWb; have gab := gr)
        | (refine Runs.call (betX_t (bat_BetweenX ma mb (hRa.grow qg) (hVa.grow qg) hnga (hRb.grow qg) (hVb.grow qg) hngb qo)) ?_; rintro v3 Hc ⟨gr, c, mc, rfl, hOc, hxc, hmlc⟩; have hRc := OwR.rd encC_len qo hOc; have hsc := hxc.sp; have onc := OwR.num hOc; have gbc := gr)
        | (refine Runs.call (applyX_t (bat_ApplyX ma mc (hRa.grow qg) (hVa.grow qg) hnga (hRc.grow qg) (hxc.va.grow qg) qo)) ?_; rintro v4 Hx ⟨gr, z, mx, rfl, hOx, hxx, hmlx⟩; have hsx := hxx.sp; have onx := OwR.num hOx; have gcx := gr)
        | (refine Runs.call (spoil_sp (hgx qo).1 _) ?_; rintro _ H6 ⟨hn6, hk6, hl6, hs6⟩; have hg6 := (hgx qo).2)
        | fail); all_goals ((try (have gn := gr.1; try simp only [nx_alloc, nx_set] at gn)); (try (have an := ha.num; try simp only [nx_alloc, nx_set, own_sl, own_nil] at an)); (try (have on := hO.num; try simp only [nx_alloc, nx_set] at on)); (try (have kn := hk.1; try simp only [nx_alloc, nx_set] at kn)); try have hB := hO.at)))
    all_goals try (first
      | exact ih (i + 1) _ _ _ (by ((try dsimp only); omega)) qf (by ((try dsimp only); (first | (exact ⟨grow_sp g gbc.1 hn6 hk6, hOx1.keep (fun j hj he => hl6 j qo), hOc1.keep (fun j hj he => hk6 j qo), (fun r hr => ⟨hs6 _ _ (hsx1 r hr).1, (hsx1 r hr).2⟩), (fun r hr => ⟨hs6 _ _ (hsc1 r hr).1, (hsc1 r hr).2⟩), by omega⟩) | fail)))
      | (refine hK _ _ ?_; (first | rfl | fail); done)
      | fail)
  all_goals
    refine wloop (α := Nat) [0, 1, 2, 7, 8, 9, 10] (fun x => [(14, .int .i64 (x : Nat))]) (fun x H => Grow Hb H ∧ OwR 3 encC Hb.next H c mc ∧ (∀ r ∈ mc, Sp Hb.next H r.v ∧ (own r.v = 0 ∨ (Hb.next < own r.v ∧ own r.v ≠ own c))) ∧ x ≤ mc.length) (fun x => mc.length - x) ?_ (0) ?_ ?_
    rotate_left
    · exact qf
    · (try dsimp only)
      exact ⟨g, hOc1, hsc1, by omega⟩
    intro i b1 H hI ih
    try dsimp only at hI
    obtain ⟨g, hOc2, hsc2, hi⟩ := hI
    have hRc2 := OwR.rd encC_len qo hOc2
    have hgx2 := fun q => sp_get hsc2 (i := i) q
    try have gn := g.1
    refine w_unfold (by delta L7_1; rfl) ?_
    simp only [keeps_nil, keeps_cons, List.cons_append, List.nil_append, lk_cons, lk_nil, numF, Nat.reduceEqDiff, Nat.reduceAdd, Nat.zero_add, ↓reduceIte]
    repeat' (first
      | simp (disch := first | exact qd | fail) only [WB, ↓WP, ↓WL, WR, WC, if_true, if_false, ite_true, ite_false, aop, ev, evs, readsA, List.replicate, numF, unA, resA, tupA, loadA, storeA, splice, fillA, kindsOk, plainEq, ↓reduceIte, Nat.reduceEqDiff, Nat.reduceLT, Int.reduceToNat, Int.reduceBEq, Int.reduceBNe, Nat.reduceAdd, Nat.reduceMul, Nat.reduceLeDiff, Int.reduceLT, Int.reduceSub, Int.reduceAdd, VA_ln, VA_fl, VA_cl, encR_def, encC_def, chk_R]
      | ((first | refine atC ?_ ?_ | refine atG ?_ ?_ | refine atH ?_ ?_ | refine atP ?_ ?_) <;> intro hc <;> (try rw [hc]) <;> (try simp only [BD] at hc) <;> try (exfalso; omega))
      | ((first
        | (refine Runs.call (lives_r _) ?_; rintro _ _ ⟨rfl, rfl⟩)
        | (refine Runs.call (law_own t (hV.grow qg) (hv.grow qg) hg qo hvt) ?_; rintro a Ha ⟨gr, ma, hOa, hwa, hnga, hmla, hea⟩; have hRa := OwR.rd encR_len qo hOa; have hWa := hwa.grow (Grow.refl _); have hVa := wv_at hWa)
        | (refine Runs.call (law_own u (hU.grow qg) (hu.grow qg) hgu qo hvu) ?_; rintro b Hb ⟨gr, mb, hOb, hwb, hngb, hmlb, heb⟩; have hRb := OwR.rd encR_len qo hOb; have hWb := hwb.grow (Grow.refl _); have hVb := wv_at hWb; have gab := gr)
        | (refine Runs.call (betX_t (bat_BetweenX ma mb (hRa.grow qg) (hVa.grow qg) hnga (hRb.grow qg) (hVb.grow qg) hngb qo)) ?_; rintro v3 Hc ⟨gr, c, mc, rfl, hOc, hxc, hmlc⟩; have hRc := OwR.rd encC_len qo hOc; have hsc := hxc.sp; have onc := OwR.num hOc; have gbc := gr)
        | (refine Runs.call (applyX_t (bat_ApplyX ma mc (hRa.grow qg) (hVa.grow qg) hnga (hRc.grow qg) (hxc.va.grow qg) qo)) ?_; rintro v4 Hx ⟨gr, z, mx, rfl, hOx, hxx, hmlx⟩; have hsx := hxx.sp; have onx := OwR.num hOx; have gcx := gr)
        | (refine Runs.call (spoil_sp (hgx2 qo).1 _) ?_; rintro _ H7 ⟨hn7, hk7, hl7, hs7⟩; have hg7 := (hgx2 qo).2)
        | fail); all_goals ((try (have gn := gr.1; try simp only [nx_alloc, nx_set] at gn)); (try (have an := ha.num; try simp only [nx_alloc, nx_set, own_sl, own_nil] at an)); (try (have on := hO.num; try simp only [nx_alloc, nx_set] at on)); (try (have kn := hk.1; try simp only [nx_alloc, nx_set] at kn)); try have hB := hO.at)))
    all_goals try (first
      | exact ih (i + 1) _ _ _ (by ((try dsimp only); omega)) qf (by ((try dsimp only); (first | (exact ⟨grow_sp g (Nat.le_refl _) hn7 hk7, hOc2.keep (fun j hj he => hl7 j qo), (fun r hr => ⟨hs7 _ _ (hsc2 r hr).1, (hsc2 r hr).2⟩), by omega⟩) | fail)))
      | (refine hK _ _ ?_; (first | rfl | fail); done)
      | fail)
  all_goals
    refine wloop (α := Nat) [0, 1, 2, 7, 8] (fun x => [(15, .int .i64 (x : Nat))]) (fun x H => Grow Hb H ∧ x ≤ ma.length) (fun x => ma.length - x) ?_ (0) ?_ ?_
    rotate_left
    · exact qf
    · (try dsimp only)
      exact ⟨g, by omega⟩
    intro i b1 H hI ih
    try dsimp only at hI
    obtain ⟨g, hi⟩ := hI
    try have gn := g.1
    refine w_unfold (by delta L7_2; rfl) ?_
    simp only [keeps_nil, keeps_cons, List.cons_append, List.nil_append, lk_cons, lk_nil, numF, Nat.reduceEqDiff, Nat.reduceAdd, Nat.zero_add, ↓reduceIte]
    repeat' (first
      | simp (disch := first | exact qd | fail) only [WB, ↓WP, ↓WL, WR, WC, if_true, if_false, ite_true, ite_false, aop, ev, evs, readsA, List.replicate, numF, unA, resA, tupA, loadA, storeA, splice, fillA, kindsOk, plainEq, ↓reduceIte, Nat.reduceEqDiff, Nat.reduceLT, Int.reduceToNat, Int.reduceBEq, Int.reduceBNe, Nat.reduceAdd, Nat.reduceMul, Nat.reduceLeDiff, Int.reduceLT, Int.reduceSub, Int.reduceAdd, VA_ln, VA_fl, VA_cl, encR_def, encC_def, chk_R]
      | ((first | refine atC ?_ ?_ | refine atG ?_ ?_ | refine atH ?_ ?_ | refine atP ?_ ?_) <;> intro hc <;> (try rw [hc]) <;> (try simp only [BD] at hc) <;> try (exfalso; omega))
      | ((first
        | (refine Runs.call (lives_r _) ?_; rintro _ _ ⟨rfl, rfl⟩)
        | (refine Runs.call (law_own t (hV.grow qg) (hv.grow qg) hg qo hvt) ?_; rintro a Ha ⟨gr, ma, hOa, hwa, hnga, hmla, hea⟩; have hRa := OwR.rd encR_len qo hOa; have hWa := hwa.grow (Grow.refl _); have hVa := wv_at hWa)
        | (refine Runs.call (law_own u (hU.grow qg) (hu.grow qg) hgu qo hvu) ?_; rintro b Hb ⟨gr, mb, hOb, hwb, hngb, hmlb, heb⟩; have hRb := OwR.rd encR_len qo hOb; have hWb := hwb.grow (Grow.refl _); have hVb := wv_at hWb; have gab := gr)
        | (refine Runs.call (betX_t (bat_BetweenX ma mb (hRa.grow qg) (hVa.grow qg) hnga (hRb.grow qg) (hVb.grow qg) hngb qo)) ?_; rintro v3 Hc ⟨gr, c, mc, rfl, hOc, hxc, hmlc⟩; have hRc := OwR.rd encC_len qo hOc; have hsc := hxc.sp; have onc := OwR.num hOc; have gbc := gr)
        | (refine Runs.call (applyX_t (bat_ApplyX ma mc (hRa.grow qg) (hVa.grow qg) hnga (hRc.grow qg) (hxc.va.grow qg) qo)) ?_; rintro v4 Hx ⟨gr, z, mx, rfl, hOx, hxx, hmlx⟩; have hsx := hxx.sp; have onx := OwR.num hOx; have gcx := gr)
        | (refine Runs.call (find_sp (bat_Find ma (k := (ma.getD i default).key) (hRa.grow qg) (hVa.grow qg) hnga qo)) ?_; rintro _ H8 ⟨gr, w8, ok8, rfl, hs8⟩)
        | (refine Runs.call (spoil_sp hs8 _) ?_; rintro _ H9 ⟨hn9, hk9, hl9, hs9⟩)
        | (refine Runs.call (law_left ma t (hRa.grow qg) (hwa.grow qg) (hV.grow qg) (hv.grow qg) hea qo) ?_; rintro _ _ ⟨rfl, rfl⟩)
        | (refine Runs.call (law_left mb u (hRb.grow qg) (hwb.grow qg) (hU.grow qg) (hu.grow qg) heb qo) ?_; rintro _ _ ⟨rfl, rfl⟩)
        | fail); all_goals ((try (have gn := gr.1; try simp only [nx_alloc, nx_set] at gn)); (try (have an := ha.num; try simp only [nx_alloc, nx_set, own_sl, own_nil] at an)); (try (have on := hO.num; try simp only [nx_alloc, nx_set] at on)); (try (have kn := hk.1; try simp only [nx_alloc, nx_set] at kn)); try have hB := hO.at)))
    all_goals try (first
      | exact ih (i + 1) _ _ _ (by ((try dsimp only); omega)) qf (by ((try dsimp only); (first | (exact ⟨grow_sp qg g.1 hn9 hk9, by omega⟩) | fail)))
      | (refine hK _ _ ?_; (first | rfl | fail); done)
      | fail)
theorem run_Own (N : Nat) (hN : N ≤ 1048576) : ∀ h xs, (∀ l, AV.str l ∈ xs → l.length ≤ 9223372036854775807) → argsT Try.prog N h 5 Try.f7.params.toList xs → argsX Try.prog N 5 Try.f7.params.toList emptyHeap xs h →
    ∃ n h', acall X1 tab n (.fn 7) xs h = some (.bool true, h') ∨ (AV.bares xs = true ∧ acall X1 tab n (.fn 7) xs emptyHeap = some (.bool true, h')) := by
  intro h xs hs _ hx
  rw [Try.params7] at hx
  obtain ⟨V, _, h1, rfl, e1, hx⟩ := argsX_cons hx
  obtain ⟨U, _, h2, rfl, e2, hx⟩ := argsX_cons hx
  obtain ⟨y, _, h4, rfl, e4, hx⟩ := argsX_cons hx
  obtain ⟨rfl, rfl⟩ := argsX_nil hx
  obtain ⟨t, c1, q1, n1, g1⟩ := arg_row e1
  obtain ⟨u, c2, q2, n2, g2⟩ := arg_row e2
  obtain ⟨s, rfl, w4, rfl⟩ := argX_int Try.underlying5 e4
  obtain ⟨v, h', e, rfl⟩ := go_Own t u (wf_u8 w4) (c1.grow g2) (fun z hz => (q1 z hz).1.grow g2) (fun z hz => (q1 z hz).2.1) c2 (fun z hz => (q2 z hz).1) (fun z hz => (q2 z hz).2.1) (fun z hz => Nat.le_trans (q1 z hz).2.2.2.1 hN) (fun z hz => Nat.le_trans (q2 z hz).2.2.2.1 hN)
  exact ranX e
end Go.Proofs.Ytbcmdlaffjmfdaa.Ya

