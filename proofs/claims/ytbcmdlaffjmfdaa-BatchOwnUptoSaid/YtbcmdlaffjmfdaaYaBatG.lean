/-
  Batch: tables of the program: Find, Apply.
-/
import Derived.Test.YtbcmdlaffjmfdaaYaBatF
import Derived.Test.YtbcmdlaffjmfdaaYbL
namespace Go.Proofs.Ytbcmdlaffjmfdaa.Ya
open Go.Ya Go.Ya.Bat
set_option linter.unusedVariables false
set_option linter.unusedSimpArgs false
set_option maxRecDepth 100000
set_option maxHeartbeats 8000000

def b72 : SC := (.seq (.ops [⟨some 2, .mov (.c (.bool false)), none⟩]) (.seq (.ops [⟨some 3, .mov (.t 0), none⟩, ⟨some 4, .mov (.t 0), none⟩, ⟨some 5, .bin (.neq) (.other) (.t 3) (.t 4), none⟩, ⟨some 2, .mov (.t 5), none⟩]) .ret))
theorem t72 : tab 72 = some ⟨6, [.tmp 2], b72⟩ := rfl
theorem nan_int {a : Int} {h : Heap} : Runs (xcall X1 tab (.fn 72) [.int .i64 a] h) fun v h' => v = .bool false ∧ h = h' := by
  refine Runs.intro fun K hK => ?_
  rw [w_fn rfl t72 (Nat.le_of_ble_eq_true rfl)]
  delta b72
  repeat' (first
    | simp (disch := first | exact qd | fail) only [WB, ↓WP, ↓WL, WR, WC, if_true, if_false, ite_true, ite_false, aop, ev, evs, readsA, List.replicate, numF, unA, resA, tupA, loadA, storeA, splice, fillA, kindsOk, plainEq, ↓reduceIte, Nat.reduceEqDiff, Nat.reduceLT, Int.reduceToNat, Int.reduceBEq, Int.reduceBNe, Nat.reduceAdd, Nat.reduceMul, Nat.reduceLeDiff, Int.reduceLT, Int.reduceSub, Int.reduceAdd]
    | ((first | refine atC ?_ ?_ | refine atG ?_ ?_ | refine atH ?_ ?_ | refine atP ?_ ?_) <;> intro hc <;> (try rw [hc]) <;> (try simp only [BD] at hc) <;> try (exfalso; omega)))
  all_goals try (first
    | (refine hK _ _ ?_; exact ⟨by simp, rfl⟩; done)
    | fail)
def b68 : SC := (.seq (.ops [⟨some 4, .mov (.c (.int (.i64) 0)), none⟩]) (.seq (.ops [⟨some 7, .mov (.t 0), none⟩, ⟨some 8, .call 72 [.t 7], none⟩, ⟨some 5, .mov (.t 8), none⟩]) (.seq (.ops [⟨some 9, .mov (.t 1), none⟩, ⟨some 10, .call 72 [.t 9], none⟩, ⟨some 6, .mov (.t 10), none⟩]) (.seq (.seq (.ops [⟨some 11, .mov (.t 5), none⟩]) (.cond (.t 11) (.seq (.seq (.ops [⟨some 12, .mov (.t 6), none⟩]) (.cond (.t 12) (.seq (.ops [⟨some 4, .mov (.c (.int (.i64) 0)), none⟩]) .ret) .skip)) (.seq (.ops [⟨some 4, .mov (.c (.int (.i64) (-1))), none⟩]) .ret)) .skip)) (.seq (.seq (.ops [⟨some 13, .mov (.t 6), none⟩]) (.cond (.t 13) (.seq (.ops [⟨some 4, .mov (.c (.int (.i64) 1)), none⟩]) .ret) .skip)) (.seq (.seq (.ops [⟨some 14, .mov (.t 0), none⟩, ⟨some 15, .mov (.t 1), none⟩, ⟨some 16, .bin (.lss) (.other) (.t 14) (.t 15), none⟩]) (.cond (.t 16) (.seq (.ops [⟨some 4, .mov (.c (.int (.i64) (-1))), none⟩]) .ret) .skip)) (.seq (.seq (.ops [⟨some 17, .mov (.t 0), none⟩, ⟨some 18, .mov (.t 1), none⟩, ⟨some 19, .bin (.gtr) (.other) (.t 17) (.t 18), none⟩]) (.cond (.t 19) (.seq (.ops [⟨some 4, .mov (.c (.int (.i64) 1)), none⟩]) .ret) .skip)) (.seq (.ops [⟨some 4, .mov (.c (.int (.i64) 0)), none⟩]) .ret))))))))
theorem t68 : tab 68 = some ⟨20, [.tmp 4], b68⟩ := rfl
theorem cmp_int {a b : Int} {h : Heap} : Runs (xcall X1 tab (.fn 68) [.int .i64 a, .int .i64 b] h) fun v h' => h = h' ∧ ((a < b ∧ v = .int .i64 (-1)) ∨ (b < a ∧ v = .int .i64 1) ∨ (a = b ∧ v = .int .i64 0)) := by
  refine Runs.intro fun K hK => ?_
  rw [w_fn rfl t68 (Nat.le_of_ble_eq_true rfl)]
  delta b68
  repeat' (first
    | simp (disch := first | exact qd | fail) only [WB, ↓WP, ↓WL, WR, WC, if_true, if_false, ite_true, ite_false, aop, ev, evs, readsA, List.replicate, numF, unA, resA, tupA, loadA, storeA, splice, fillA, kindsOk, plainEq, ↓reduceIte, Nat.reduceEqDiff, Nat.reduceLT, Int.reduceToNat, Int.reduceBEq, Int.reduceBNe, Nat.reduceAdd, Nat.reduceMul, Nat.reduceLeDiff, Int.reduceLT, Int.reduceSub, Int.reduceAdd]
    | ((first | refine atC ?_ ?_ | refine atG ?_ ?_ | refine atH ?_ ?_ | refine atP ?_ ?_) <;> intro hc <;> (try rw [hc]) <;> (try simp only [BD] at hc) <;> try (exfalso; omega))
    | ((first
      | (refine Runs.call (nan_int) ?_; rintro _ _ ⟨rfl, rfl⟩)
      | fail); all_goals ((try (have gn := gr.1; try simp only [nx_alloc, nx_set] at gn)); (try (have an := ha.num; try simp only [nx_alloc, nx_set, own_sl, own_nil] at an)); (try (have on := hO.num; try simp only [nx_alloc, nx_set] at on)); (try (have kn := hk.1; try simp only [nx_alloc, nx_set] at kn)); try have hB := hO.at)))
  all_goals try (first
    | (refine hK _ _ ?_; (first | exact ⟨rfl, .inl ⟨by omega, rfl⟩⟩ | exact ⟨rfl, .inr (.inl ⟨by omega, rfl⟩)⟩ | exact ⟨rfl, .inr (.inr ⟨by omega, rfl⟩)⟩ | fail); done)
    | fail)
def b59 : SC := (.seq (.ops [⟨some 2, .box (.t 0), none⟩, ⟨some 3, .mov (.c (.bool false)), none⟩]) (.seq (.ops [⟨some 4, .fieldAddr 0 (.t 2), none⟩, ⟨some 5, .load false 1 (.t 4), none⟩, ⟨some 6, .load false 1 (.t 1), none⟩, ⟨some 7, .bin (.eql) (.str) (.t 5) (.t 6), none⟩, ⟨some 3, .mov (.t 7), none⟩]) .ret))
theorem t59 : tab 59 = some ⟨8, [.tmp 3], b59⟩ := rfl
theorem bat_Find1 {x : Ro} {k : Bs} {p : Nat} {h : Heap} (hxf : x.v.flat = true) (hgp : h.get p = some (.cells [.str k] false)) (hp : p < h.next) : Runs (xcall X1 tab (.fn 59) [.agg [.str x.key, x.v], .ptr p 0] h) fun v h' => v = .bool (decide (x.key = k)) ∧ Grow h h' := by
  refine Runs.intro fun K hK => ?_
  rw [w_fn rfl t59 (Nat.le_of_ble_eq_true rfl)]
  delta b59
  repeat' (first
    | simp (disch := first | exact qd | fail) only [WB, ↓WP, ↓WL, WR, WC, if_true, if_false, ite_true, ite_false, aop, ev, evs, readsA, List.replicate, numF, unA, resA, tupA, loadA, storeA, splice, fillA, kindsOk, plainEq, ↓reduceIte, Nat.reduceEqDiff, Nat.reduceLT, Int.reduceToNat, Int.reduceBEq, Int.reduceBNe, Nat.reduceAdd, Nat.reduceMul, Nat.reduceLeDiff, Int.reduceLT, Int.reduceSub, Int.reduceAdd, hxf, cells_of hxf, hgp]
    | ((first | refine atC ?_ ?_ | refine atG ?_ ?_ | refine atH ?_ ?_ | refine atP ?_ ?_) <;> intro hc <;> (try rw [hc]) <;> (try simp only [BD] at hc) <;> try (exfalso; omega)))
  all_goals try (first
    | (refine hK _ _ ?_; exact ⟨by (congr 1; exact Bool.eq_iff_iff.2 (by simp)), qg⟩; done)
    | fail)
def L58_0 : SC := (.seq (.ops [⟨some 9, .bin (.lss) (.other) (.t 8) (.t 7), none⟩]) (.seq (.cond (.t 9) .skip (.exit 0)) (.seq (.block 1 (.seq (.ops [⟨some 10, .mov (.t 8), none⟩, ⟨some 5, .mov (.t 10), none⟩]) (.seq (.ops [⟨some 11, .mov (.t 1), none⟩, ⟨some 12, .mov (.t 0), none⟩, ⟨some 13, .mov (.t 5), none⟩, ⟨some 14, .idxAddrSl 2 (.t 12) (.t 13), none⟩, ⟨some 15, .load true 2 (.t 14), none⟩, ⟨some 16, .callV (.t 11) [.t 15], none⟩]) (.cond (.t 16) (.seq (.ops [⟨some 17, .mov (.t 5), none⟩, ⟨some 4, .mov (.t 17), none⟩]) .ret) .skip)))) (.ops [⟨some 18, .bin (.add) (.other) (.t 8) (.c (.int (.i64) 1)), none⟩, ⟨some 8, .mov (.t 18), none⟩]))))
def b58 : SC := (.seq (.ops [⟨some 4, .mov (.c (.int (.i64) 0)), none⟩]) (.seq (.seq (.ops [⟨some 6, .mov (.t 0), none⟩, ⟨some 7, .len (.sl) (.t 6), none⟩, ⟨some 8, .mov (.c (.int (.i64) 0)), none⟩]) (.block 0 (.loop L58_0))) (.seq (.ops [⟨some 4, .mov (.c (.int (.i64) (-1))), none⟩]) .ret)))
theorem t58 : tab 58 = some ⟨19, [.tmp 4], b58⟩ := rfl
theorem bat_Index (t : List Ro) {k : Bs} {p : Nat} {h : Heap} {V : AV} (hV : RAt h V t) (hv : VAt h t) (hl : t.length ≤ 100000000) (hgp : h.get p = some (.cells [.str k] false)) (hp : p < h.next) : Runs (xcall X1 tab (.fn 58) [V, .func 59 [] [.ptr p 0]] h) fun v h' => Grow h h' ∧ ((∃ i : Nat, v = .int .i64 i ∧ i < t.length ∧ (enN t i).find? (fun x => decide (x.key = k)) = none ∧ (t.getD i default).key = k) ∨ (v = .int .i64 (-1) ∧ (t.map Ro.en).find? (fun x => decide (x.key = k)) = none)) := by
  refine Runs.intro fun K hK => ?_
  rw [w_fn rfl t58 (Nat.le_of_ble_eq_true rfl)]
  delta b58
  repeat' (first
    | simp (disch := first | exact qd | fail) only [WB, ↓WP, ↓WL, WR, WC, if_true, if_false, ite_true, ite_false, aop, ev, evs, readsA, List.replicate, numF, unA, resA, tupA, loadA, storeA, splice, fillA, kindsOk, plainEq, ↓reduceIte, Nat.reduceEqDiff, Nat.reduceLT, Int.reduceToNat, Int.reduceBEq, Int.reduceBNe, Nat.reduceAdd, Nat.reduceMul, Nat.reduceLeDiff, Int.reduceLT, Int.reduceSub, Int.reduceAdd, VA_ln, VA_fl, VA_cl, encR_def, chk_R]
    | ((first | refine atC ?_ ?_ | refine atG ?_ ?_ | refine atH ?_ ?_ | refine atP ?_ ?_) <;> intro hc <;> (try rw [hc]) <;> (try simp only [BD] at hc) <;> try (exfalso; omega)))
  all_goals try (first
    | (refine hK _ _ ?_; (first | exact ⟨qg, .inl ⟨i, rfl, by omega, hm, hc⟩⟩ | exact ⟨qg, .inr ⟨rfl, by (rw [← enN_all, ← show i = t.length by omega]; exact hm)⟩⟩ | fail); done)
    | fail)
  all_goals
    refine wloop (α := Nat) [0, 1, 7] (fun x => [(8, .int .i64 (x : Nat))]) (fun x H => Grow h H ∧ x ≤ t.length ∧ (enN t x).find? (fun x => decide (x.key = k)) = none) (fun x => t.length - x) ?_ (0) ?_ ?_
    rotate_left
    · exact qf
    · (try dsimp only)
      exact ⟨qg, by omega, rfl⟩
    intro i b1 H hI ih
    try dsimp only at hI
    obtain ⟨g, hi, hm⟩ := hI
    have hfs := fun q => find_s (p := fun x => decide (x.key = k)) (l := t) (i := i) q hm
    try have gn := g.1
    refine w_unfold (by delta L58_0; rfl) ?_
    simp only [keeps_nil, keeps_cons, List.cons_append, List.nil_append, lk_cons, lk_nil, numF, Nat.reduceEqDiff, Nat.reduceAdd, Nat.zero_add, ↓reduceIte]
    repeat' (first
      | simp (disch := first | exact qd | fail) only [WB, ↓WP, ↓WL, WR, WC, if_true, if_false, ite_true, ite_false, aop, ev, evs, readsA, List.replicate, numF, unA, resA, tupA, loadA, storeA, splice, fillA, kindsOk, plainEq, ↓reduceIte, Nat.reduceEqDiff, Nat.reduceLT, Int.reduceToNat, Int.reduceBEq, Int.reduceBNe, Nat.reduceAdd, Nat.reduceMul, Nat.reduceLeDiff, Int.reduceLT, Int.reduceSub, Int.reduceAdd, VA_ln, VA_fl, VA_cl, encR_def, chk_R]
      | ((first | refine atC ?_ ?_ | refine atG ?_ ?_ | refine atH ?_ ?_ | refine atP ?_ ?_) <;> intro hc <;> (try rw [hc]) <;> (try simp only [BD] at hc) <;> try (exfalso; omega))
      | ((first
        | (refine Runs.call (bat_Find1 (x := t.getD i default) (k := k) (hv.fl i qo) (by (simp (disch := first | (refine Asm.mk ?_; assumption) | omega | (simp only [nx_alloc, nx_set, own_sl, own_nil] <;> omega) | fail) only [ga_new, ga_old, gs_new, gs_old, nx_alloc, nx_set, g_get, app_get, pok_get, get_asm, id_eq, hgp]; first | done | fail)) qo) ?_; rintro _ _ ⟨rfl, gr⟩)
        | fail); all_goals ((try (have gn := gr.1; try simp only [nx_alloc, nx_set] at gn)); (try (have an := ha.num; try simp only [nx_alloc, nx_set, own_sl, own_nil] at an)); (try (have on := hO.num; try simp only [nx_alloc, nx_set] at on)); (try (have kn := hk.1; try simp only [nx_alloc, nx_set] at kn)); try have hB := hO.at)))
    all_goals try (first
      | exact ih (i + 1) _ _ _ (by ((try dsimp only); omega)) qf (by ((try dsimp only); (first | (exact ⟨qg, by omega, hfs qo (by rw [decide_eq_false_iff_not]; exact hc)⟩) | fail)))
      | (refine hK _ _ ?_; (first | exact ⟨qg, .inl ⟨i, rfl, by omega, hm, hc⟩⟩ | exact ⟨qg, .inr ⟨rfl, by (rw [← enN_all, ← show i = t.length by omega]; exact hm)⟩⟩ | fail); done)
      | fail)

theorem NewBytes.base {h0 h h' : Heap} {v : AV} {bs : List Int} (a : NewBytes h h' v bs) (hx : h0.next ≤ h.next) : NewBytes h0 h' v bs := by
  rcases a with a | ⟨id, cap, ex, e1, e2, e3, e4, e5⟩
  · exact .inl a
  · exact .inr ⟨id, cap, ex, e1, e2, e3, by omega, e5⟩
def b28 : SC := (.seq (.ops [⟨some 3, .box (.t 1), none⟩, ⟨some 4, .mov (.c (.nilsl)), none⟩, ⟨some 5, .mov (.c (.bool false)), none⟩]) (.seq (.ops [⟨some 7, .mov (.t 0), none⟩, ⟨some 8, .mkFunc 59 [] [.t 3], none⟩, ⟨some 9, .call 58 [.t 7, .t 8], none⟩, ⟨some 6, .mov (.t 9), none⟩]) (.seq (.seq (.ops [⟨some 10, .mov (.t 6), none⟩, ⟨some 11, .bin (.lss) (.other) (.t 10) (.c (.int (.i64) 0)), none⟩, ⟨some 12, .mov (.t 11), none⟩, ⟨some 13, .mov (.t 0), some (12, false)⟩, ⟨some 14, .call 23 [.t 13], some (12, false)⟩, ⟨some 15, .un (.not) (.t 14), some (12, false)⟩, ⟨some 16, .pick (.t 12) (.c (.bool true)) (.t 15), none⟩]) (.cond (.t 16) (.seq (.ops [⟨some 4, .mov (.c (.nilsl)), none⟩, ⟨some 5, .mov (.c (.bool false)), none⟩]) .ret) .skip)) (.seq (.ops [⟨some 17, .mov (.t 0), none⟩, ⟨some 18, .mov (.t 6), none⟩, ⟨some 19, .idxAddrSl 2 (.t 17) (.t 18), none⟩, ⟨some 20, .fieldAddr 1 (.t 19), none⟩, ⟨some 21, .load false 1 (.t 20), none⟩, ⟨some 22, .call 49 [.t 21], none⟩, ⟨some 4, .mov (.t 22), none⟩, ⟨some 5, .mov (.c (.bool true)), none⟩]) .ret))))
theorem t28 : tab 28 = some ⟨23, [.tmp 4, .tmp 5], b28⟩ := rfl
theorem bat_Find (t : List Ro) {k : Bs} {h : Heap} {V : AV} (hV : RAt h V t) (hv : VAt h t) (hg : NoGo t) (hl : t.length ≤ 100000000) : Runs (xcall X1 tab (.fn 28) [V, .str k] h) fun v h' => Grow h h' ∧ ((∃ w val, findP (t.map Ro.en) k = some val ∧ v = .tuple [w, .bool true] ∧ NewBytes h h' w val) ∨ (findP (t.map Ro.en) k = none ∧ v = .tuple [.nilsl, .bool false])) := by
  refine Runs.intro fun K hK => ?_
  rw [w_fn rfl t28 (Nat.le_of_ble_eq_true rfl)]
  delta b28
  repeat' (first
    | simp (disch := first | exact qd | fail) only [WB, ↓WP, ↓WL, WR, WC, if_true, if_false, ite_true, ite_false, aop, ev, evs, readsA, List.replicate, numF, unA, resA, tupA, loadA, storeA, splice, fillA, kindsOk, plainEq, ↓reduceIte, Nat.reduceEqDiff, Nat.reduceLT, Int.reduceToNat, Int.reduceBEq, Int.reduceBNe, Nat.reduceAdd, Nat.reduceMul, Nat.reduceLeDiff, Int.reduceLT, Int.reduceSub, Int.reduceAdd, VA_ln, VA_fl, VA_cl, encR_def, chk_R]
    | ((first | refine atC ?_ ?_ | refine atG ?_ ?_ | refine atH ?_ ?_ | refine atP ?_ ?_) <;> intro hc <;> (try rw [hc]) <;> (try simp only [BD] at hc) <;> try (exfalso; omega))
    | ((first
      | (refine Runs.call (bat_Index t (k := k) (p := h.next) (hV.grow qg) (hv.grow qg) qo qs ql) ?_; rintro _ _ ⟨gr, hix⟩; (rcases hix with ⟨i, rfl, hi, hm, hk⟩ | ⟨rfl, hno⟩))
      | (refine Runs.call (bat_May t (hV.grow qg) (hv.grow qg) qo hg.at) ?_; rintro _ _ ⟨rfl, gr⟩)
      | (refine Runs.call (bytes_Clone ((hv.get hi).grow qg) (by have := VR.get (may_VR (by assumption)) hi; omega)) ?_; rintro w1 H1 ⟨gr, hn1, hz⟩; have hO1 := hn1.own (Nat.le_refl _); have hf1 := hO1.fl; have hc1 := cells_of hf1)
      | fail); all_goals ((try (have gn := gr.1; try simp only [nx_alloc, nx_set] at gn)); (try (have an := ha.num; try simp only [nx_alloc, nx_set, own_sl, own_nil] at an)); (try (have on := hO.num; try simp only [nx_alloc, nx_set] at on)); (try (have kn := hk.1; try simp only [nx_alloc, nx_set] at kn)); try have hB := hO.at)))
  all_goals try (first
    | (refine hK _ _ ?_; (first | exact ⟨qg, .inl ⟨w1, _, findP_at (by assumption) hi hm hk, rfl, NewBytes.base hn1 qo⟩⟩ | exact ⟨qg, .inr ⟨findP_not hc, rfl⟩⟩ | exact ⟨qg, .inr ⟨by (unfold findP; rw [hno]; split <;> rfl), rfl⟩⟩ | fail); done)
    | fail)

theorem VO.stepN {n : Nat} {H H' : Heap} {out out' : AV} {l : List Ro} (a : VO n H out l) (hg : ∀ j, n ≤ j → j < H.next → j + 1 ≠ own out → H'.get j = H.get j) (ho : own out' = own out ∨ H.next < own out') : VO n H' out' l := fun x hx => by
  obtain ⟨h1, h3⟩ := a x hx
  have := OwC.num h1
  exact ⟨OwC.keep h1 fun j hj he => hg j qo hj qo, by omega⟩
/-- As VO; and each value's capacity is its length, and known, or told by the mark behind its block. -/
def XO (H : Heap) (out : AV) (l : List Ro) : Prop := ∀ x ∈ l, ∀ id o len cap ex e, x.v = .slice id o len cap ex e → cap = len ∧ (ex = true ∨ (H.byteAt id = true ∧ own out ≠ id + 2))
def VX (n : Nat) (H : Heap) (out : AV) (l : List Ro) : Prop := VO n H out l ∧ XO H out l
theorem VX.nil {n : Nat} {H : Heap} {out : AV} : VX n H out [] := ⟨(fun x hx => nomatch hx), fun x hx => nomatch hx⟩
theorem VX.va {n : Nat} {H : Heap} {out : AV} {l : List Ro} (a : VX n H out l) : VAt H l := a.1.va
theorem VX.stepN {n : Nat} {H H' : Heap} {out out' : AV} {l : List Ro} (a : VX n H out l) (hg : ∀ j, n ≤ j → j < H.next → j + 1 ≠ own out → H'.get j = H.get j) (ho : own out' = own out ∨ H.next < own out') : VX n H' out' l :=
  ⟨a.1.stepN hg ho, fun x hx id o len cap ex e q => by
    obtain ⟨h0, h1⟩ := a.2 x hx id o len cap ex e q
    refine ⟨h0, ?_⟩
    rcases h1 with h1 | ⟨h1, h2⟩
    · exact .inl h1
    · have hm := Heap.byteAt_lt h1
      have hn := OwC.num (a.1 x hx).1
      rw [q] at hn
      simp only [own_sl] at hn
      exact .inr ⟨by rw [Heap.byteAt_of (hg (id + 1) qo hm qo)]; exact h1, by omega⟩⟩
theorem VX.le {n k : Nat} {H : Heap} {out : AV} {l : List Ro} (a : VX n H out l) (h : k ≤ n) : VX k H out l := ⟨a.1.le h, a.2⟩
theorem VX.push {n : Nat} {H : Heap} {out : AV} {l : List Ro} {x : Ro} (a : VX n H out l) (h1 : OwB n H x.v x.val) (h3 : own x.v = 0 ∨ own x.v ≠ own out) (h4 : ∀ id o len cap ex e, x.v = .slice id o len cap ex e → cap = len ∧ (ex = true ∨ (H.byteAt id = true ∧ own out ≠ id + 2))) : VX n H out (l ++ [x]) :=
  ⟨a.1.push h1 h3, fun y hy => by
    rcases List.mem_append.1 hy with hy | hy
    · exact a.2 y hy
    · simp only [List.mem_singleton] at hy
      subst hy; exact h4⟩
theorem newX {h0 H1 H' : Heap} {w out : AV} {bs : Bs} (hn : NewBytes h0 H1 w bs) (hk : ∀ j, h0.next ≤ j → j < H1.next → H'.get j = H1.get j) (ho : own out = 0 ∨ own out ≤ h0.next ∨ H1.next < own out) : ∀ id o len cap ex e, w = .slice id o len cap ex e → cap = len ∧ (ex = true ∨ (H'.byteAt id = true ∧ own out ≠ id + 2)) := by
  intro id o len cap ex e q
  rcases hn with ⟨rfl, _⟩ | ⟨id', cap', ex', rfl, e1, e2, e3, e4, e5⟩
  · cases q
  · cases q
    refine ⟨by omega, ?_⟩
    rcases e5 with e5 | e5
    · exact .inl e5
    · have hm := Heap.byteAt_lt e5
      exact .inr ⟨by rw [Heap.byteAt_of (hk (id + 1) qo hm)]; exact e5, by omega⟩
theorem rowOf_g {y : Ro} (h : y.gone = true) : rowOf y.en = [] := if_pos h
theorem rowOf_r {y : Ro} (h : y.gone = false) : rowOf y.en = [⟨y.key, y.val, false⟩] := if_neg (by show ¬ y.gone = true; rw [h]; decide)
theorem pn1 : binA .neq .ptr .nilptr .nilptr = some (.bool false) := rfl
theorem pn2 {a b : Nat} : binA .neq .ptr (.ptr a b) .nilptr = some (.bool true) := rfl
theorem pe1 : binA .eql .ptr .nilptr .nilptr = some (.bool true) := rfl
theorem pe2 {a b : Nat} : binA .eql .ptr (.ptr a b) .nilptr = some (.bool false) := rfl
theorem cmp_r (a b : Bs) (h : Heap) : Runs (xcall X1 tab (.fn 67) [.str a, .str b] h) fun v h' => v = .int .i64 (cmpI a b) ∧ h = h' := Runs.eq (ofRun (n := 1) rfl)
def b46 : SC := (.seq (.ops [⟨some 4, .mov (.c (.int (.i64) 0)), none⟩]) (.seq (.ops [⟨some 5, .mov (.t 0), none⟩, ⟨some 6, .mov (.t 1), none⟩, ⟨some 7, .call 67 [.t 5, .t 6], none⟩, ⟨some 4, .mov (.t 7), none⟩]) .ret))
theorem t46 : tab 46 = some ⟨8, [.tmp 4], b46⟩ := rfl
theorem str_Compare {a b : Bs} {h : Heap} : Runs (xcall X1 tab (.fn 46) [.str a, .str b] h) fun v h' => v = .int .i64 (cmpI a b) ∧ h = h' := by
  refine Runs.intro fun K hK => ?_
  rw [w_fn rfl t46 (Nat.le_of_ble_eq_true rfl)]
  delta b46
  repeat' (first
    | simp (disch := first | exact qd | fail) only [WB, ↓WP, ↓WL, WR, WC, if_true, if_false, ite_true, ite_false, aop, ev, evs, readsA, List.replicate, numF, unA, resA, tupA, loadA, storeA, splice, fillA, kindsOk, plainEq, ↓reduceIte, Nat.reduceEqDiff, Nat.reduceLT, Int.reduceToNat, Int.reduceBEq, Int.reduceBNe, Nat.reduceAdd, Nat.reduceMul, Nat.reduceLeDiff, Int.reduceLT, Int.reduceSub, Int.reduceAdd]
    | ((first | refine atC ?_ ?_ | refine atG ?_ ?_ | refine atH ?_ ?_ | refine atP ?_ ?_) <;> intro hc <;> (try rw [hc]) <;> (try simp only [BD] at hc) <;> try (exfalso; omega))
    | ((first
      | (refine Runs.call (cmp_r _ _ _) ?_; rintro _ _ ⟨rfl, rfl⟩)
      | fail); all_goals ((try (have gn := gr.1; try simp only [nx_alloc, nx_set] at gn)); (try (have an := ha.num; try simp only [nx_alloc, nx_set, own_sl, own_nil] at an)); (try (have on := hO.num; try simp only [nx_alloc, nx_set] at on)); (try (have kn := hk.1; try simp only [nx_alloc, nx_set] at kn)); try have hB := hO.at)))
  all_goals try (first
    | (refine hK _ _ ?_; exact ⟨rfl, rfl⟩; done)
    | fail)
def b45 : SC := (.seq (.ops [⟨some 2, .box (.t 0), none⟩, ⟨some 3, .box (.t 1), none⟩, ⟨some 4, .mov (.c (.int (.i64) 0)), none⟩]) (.seq (.ops [⟨some 5, .fieldAddr 0 (.t 2), none⟩, ⟨some 6, .load false 1 (.t 5), none⟩, ⟨some 7, .fieldAddr 0 (.t 3), none⟩, ⟨some 8, .load false 1 (.t 7), none⟩, ⟨some 9, .call 46 [.t 6, .t 8], none⟩, ⟨some 4, .mov (.t 9), none⟩]) .ret))
theorem t45 : tab 45 = some ⟨10, [.tmp 4], b45⟩ := rfl
theorem bat_Apply1 {x y : Ro} {h : Heap} (hxf : x.v.flat = true) (hyf : y.v.flat = true) : Runs (xcall X1 tab (.fn 45) [.agg [.str x.key, x.v], .agg [.str y.key, y.v, .bool y.gone]] h) fun v h' => v = .int .i64 (cmpI x.key y.key) ∧ Grow h h' := by
  refine Runs.intro fun K hK => ?_
  rw [w_fn rfl t45 (Nat.le_of_ble_eq_true rfl)]
  delta b45
  repeat' (first
    | simp (disch := first | exact qd | fail) only [WB, ↓WP, ↓WL, WR, WC, if_true, if_false, ite_true, ite_false, aop, ev, evs, readsA, List.replicate, numF, unA, resA, tupA, loadA, storeA, splice, fillA, kindsOk, plainEq, ↓reduceIte, Nat.reduceEqDiff, Nat.reduceLT, Int.reduceToNat, Int.reduceBEq, Int.reduceBNe, Nat.reduceAdd, Nat.reduceMul, Nat.reduceLeDiff, Int.reduceLT, Int.reduceSub, Int.reduceAdd, hxf, cells_of hxf, hyf, cells_of hyf]
    | ((first | refine atC ?_ ?_ | refine atG ?_ ?_ | refine atH ?_ ?_ | refine atP ?_ ?_) <;> intro hc <;> (try rw [hc]) <;> (try simp only [BD] at hc) <;> try (exfalso; omega))
    | ((first
      | (refine Runs.call (str_Compare) ?_; rintro _ _ ⟨rfl, rfl⟩)
      | fail); all_goals ((try (have gn := gr.1; try simp only [nx_alloc, nx_set] at gn)); (try (have an := ha.num; try simp only [nx_alloc, nx_set, own_sl, own_nil] at an)); (try (have on := hO.num; try simp only [nx_alloc, nx_set] at on)); (try (have kn := hk.1; try simp only [nx_alloc, nx_set] at kn)); try have hB := hO.at)))
  all_goals try (first
    | (refine hK _ _ ?_; exact ⟨rfl, qg⟩; done)
    | fail)
def b48 : SC := (.seq (.ops [⟨some 6, .mov (.t 0), none⟩, ⟨some 5, .mov (.t 6), none⟩]) (.seq (.seq (.ops [⟨some 7, .mov (.t 1), none⟩, ⟨some 8, .bin (.neq) (.ptr) (.t 7) (.c (.nilptr)), none⟩]) (.cond (.t 8) (.ops [⟨some 9, .mov (.t 1), none⟩, ⟨some 10, .nilChk (.t 9), none⟩, ⟨some 11, .fieldAddr 0 (.t 10), none⟩, ⟨some 12, .load false 1 (.t 11), none⟩, ⟨some 13, .mov (.t 1), none⟩, ⟨some 14, .nilChk (.t 13), none⟩, ⟨some 15, .fieldAddr 1 (.t 14), none⟩, ⟨some 16, .load false 1 (.t 15), none⟩, ⟨some 17, .build [.str [], .nilsl] [(0, 1, .t 12), (1, 1, .t 16)], none⟩, ⟨some 18, .box (.t 17), none⟩, ⟨some 5, .mov (.t 18), none⟩]) .skip)) (.seq (.ops [⟨some 19, .mov (.t 1), none⟩, ⟨some 20, .bin (.eql) (.ptr) (.t 19) (.c (.nilptr)), none⟩, ⟨some 21, .mov (.t 20), none⟩, ⟨some 22, .mov (.t 1), some (21, false)⟩, ⟨some 23, .nilChk (.t 22), some (21, false)⟩, ⟨some 24, .fieldAddr 2 (.t 23), some (21, false)⟩, ⟨some 25, .load false 1 (.t 24), some (21, false)⟩, ⟨some 26, .un (.not) (.t 25), some (21, false)⟩, ⟨some 27, .pick (.t 21) (.c (.bool true)) (.t 26), none⟩]) (.cond (.t 27) (.drawOps [⟨some 28, .load false 1 (.t 2), none⟩, ⟨some 29, .mov (.t 5), none⟩, ⟨some 30, .nilChk (.t 29), none⟩, ⟨some 31, .fieldAddr 0 (.t 30), none⟩, ⟨some 32, .load false 1 (.t 31), none⟩, ⟨some 33, .mov (.t 5), none⟩, ⟨some 34, .nilChk (.t 33), none⟩, ⟨some 35, .fieldAddr 1 (.t 34), none⟩, ⟨some 36, .load false 1 (.t 35), none⟩, ⟨some 37, .call 49 [.t 36], none⟩, ⟨some 38, .build [.str [], .nilsl] [(0, 1, .t 32), (1, 1, .t 37)], none⟩, ⟨some 39, .buildSlice [.str [], .nilsl] 1 2 [(0, 2, .t 38)], none⟩, ⟨some 40, .append 2 40 (.t 28) (.t 39), none⟩, ⟨none, .store 1 (.t 2) (.t 40), none⟩] [(0, 9), (0, 11), (4, 9)]) .skip))))
theorem t48 : tab 48 = some ⟨41, [], b48⟩ := rfl
theorem bat_putR (t : List Ro) {m : List Ro} {h0 h : Heap} {V o : AV} {i p : Nat} (hV : RAt h0 V t) (hv : VAt h0 t) (g : Grow h0 h) (hp : h0.next ≤ p) (hpn : p < h.next) (hi : i < t.length) (hgp : h.get p = some (.cells [o] false)) (hO : OwR 2 encR (p + 1) h o m) (hva : VX (p + 1) h o m) (hm : m.length ≤ 100000000) (hvi : (t.getD i default).val.length ≤ 100000000) : Runs (xcall X1 tab (.fn 48) [.ptr (sid V) (soff V + i * 2), .nilptr, .ptr p 0] h) fun v h' => v = .tuple [] ∧ Grow h0 h' ∧ ∃ o' x, h'.get p = some (.cells [o'] false) ∧ p < h'.next ∧ OwR 2 encR (p + 1) h' o' (m ++ [x]) ∧ VX (p + 1) h' o' (m ++ [x]) ∧ x.en = ⟨(t.getD i default).key, (t.getD i default).val, false⟩ := by
  refine Runs.intro fun K hK => ?_
  have on := OwR.num hO
  have hfl := OwR.fl hO
  have hcl := cells_of hfl
  rw [w_fn rfl t48 (Nat.le_of_ble_eq_true rfl)]
  delta b48
  repeat' (first
    | simp (disch := first | exact qd | fail) only [WB, ↓WP, ↓WL, WR, WC, if_true, if_false, ite_true, ite_false, aop, ev, evs, readsA, List.replicate, numF, unA, resA, tupA, loadA, storeA, splice, fillA, kindsOk, plainEq, ↓reduceIte, Nat.reduceEqDiff, Nat.reduceLT, Int.reduceToNat, Int.reduceBEq, Int.reduceBNe, Nat.reduceAdd, Nat.reduceMul, Nat.reduceLeDiff, Int.reduceLT, Int.reduceSub, Int.reduceAdd, VA_ln, VA_fl, VA_cl, encR_def, chk_R, hgp, hfl, hcl, pn1, pn2, pe1, pe2]
    | ((first | refine atC ?_ ?_ | refine atG ?_ ?_ | refine atH ?_ ?_ | refine atP ?_ ?_) <;> intro hc <;> (try rw [hc]) <;> (try simp only [BD] at hc) <;> try (exfalso; omega))
    | ((first
      | (refine Runs.call (bytes_Clone ((hv.get hi).grow qg) qo) ?_; rintro w1 H1 ⟨gr, hn1, hz⟩; have hO1 := hn1.own (Nat.le_refl _); have on1 := hO1.num; have hf1 := hO1.fl; have hc1 := cells_of hf1)
      | (refine Runs.call (OwR.push encR_len qo (hO.keep (fun j hj he => qs)) ql (a := ⟨(t.getD i default).key, w1, (t.getD i default).val, false⟩) (ga_new rfl) rfl qo) ?_; rintro o2 H2 ⟨hO2, ha⟩; have on2 := OwR.num hO2; have hC2 : OwC 2 (p + 1) H2 o2 _ := hO2)
      | fail); all_goals ((try (have gn := gr.1; try simp only [nx_alloc, nx_set] at gn)); (try (have an := ha.num; try simp only [nx_alloc, nx_set, own_sl, own_nil] at an)); (try (have on := hO.num; try simp only [nx_alloc, nx_set] at on)); (try (have kn := hk.1; try simp only [nx_alloc, nx_set] at kn)); try have hB := hO.at)))
  all_goals try (first
    | (refine hK _ _ ?_; have hW : OwB (p + 1) (H2.set p (.cells [o2] false)) w1 (t.getD i default).val := OwC.le (OwC.keep hO1 (fun j hj he => qs)) qo; exact ⟨rfl, qg, o2, ⟨(t.getD i default).key, w1, (t.getD i default).val, false⟩, qs, by (simp only [nx_set]; omega), hO2.keep (fun j hj he => qs), VX.push (VX.stepN hva (fun j hn hj he => qs) qo) hW (by show own w1 = 0 ∨ own w1 ≠ own o2; omega) (newX hn1 (fun j h1 h2 => by ((try simp only [nx_alloc, nx_set] at h1); exact qs)) ql), rfl⟩; done)
    | fail)
theorem bat_putC (l : List Ro) {m : List Ro} {h0 h : Heap} {W o a0 : AV} {j p : Nat} (hW : CAt h0 W l) (hw : VAt h0 l) (g : Grow h0 h) (hp : h0.next ≤ p) (hpn : p < h.next) (hi : j < l.length) (hgp : h.get p = some (.cells [o] false)) (hO : OwR 2 encR (p + 1) h o m) (hva : VX (p + 1) h o m) (hm : m.length ≤ 100000000) (hvi : (l.getD j default).val.length ≤ 100000000) : Runs (xcall X1 tab (.fn 48) [a0, .ptr (sid W) (soff W + j * 3), .ptr p 0] h) fun v h' => v = .tuple [] ∧ Grow h0 h' ∧ ∃ o' m', h'.get p = some (.cells [o'] false) ∧ p < h'.next ∧ OwR 2 encR (p + 1) h' o' m' ∧ VX (p + 1) h' o' m' ∧ (NoGo m → NoGo m') ∧ m'.length ≤ m.length + 1 ∧ m'.map Ro.en = m.map Ro.en ++ rowOf (l.getD j default).en := by
  refine Runs.intro fun K hK => ?_
  have on := OwR.num hO
  have hfl := OwR.fl hO
  have hcl := cells_of hfl
  rw [w_fn rfl t48 (Nat.le_of_ble_eq_true rfl)]
  delta b48
  repeat' (first
    | simp (disch := first | exact qd | fail) only [WB, ↓WP, ↓WL, WR, WC, if_true, if_false, ite_true, ite_false, aop, ev, evs, readsA, List.replicate, numF, unA, resA, tupA, loadA, storeA, splice, fillA, kindsOk, plainEq, ↓reduceIte, Nat.reduceEqDiff, Nat.reduceLT, Int.reduceToNat, Int.reduceBEq, Int.reduceBNe, Nat.reduceAdd, Nat.reduceMul, Nat.reduceLeDiff, Int.reduceLT, Int.reduceSub, Int.reduceAdd, VA_ln, VA_fl, VA_cl, encC_def, chk_R, hgp, hfl, hcl, pn1, pn2, pe1, pe2]
    | ((first | refine atC ?_ ?_ | refine atG ?_ ?_ | refine atH ?_ ?_ | refine atP ?_ ?_) <;> intro hc <;> (try rw [hc]) <;> (try simp only [BD] at hc) <;> try (exfalso; omega))
    | ((first
      | (refine Runs.call (bytes_Clone ((hw.get hi).grow qg) qo) ?_; rintro w1 H1 ⟨gr, hn1, hz⟩; have hO1 := hn1.own (Nat.le_refl _); have on1 := hO1.num; (simp only [nx_alloc] at on1 hO1); have hf1 := hO1.fl; have hc1 := cells_of hf1)
      | (refine Runs.call (OwR.push encR_len qo (hO.keep (fun j hj he => qs)) ql (a := ⟨(l.getD j default).key, w1, (l.getD j default).val, false⟩) (ga_new rfl) rfl qo) ?_; rintro o2 H2 ⟨hO2, ha⟩; have on2 := OwR.num hO2; have hC2 : OwC 2 (p + 1) H2 o2 _ := hO2)
      | fail); all_goals ((try (have gn := gr.1; try simp only [nx_alloc, nx_set] at gn)); (try (have an := ha.num; try simp only [nx_alloc, nx_set, own_sl, own_nil] at an)); (try (have on := hO.num; try simp only [nx_alloc, nx_set] at on)); (try (have kn := hk.1; try simp only [nx_alloc, nx_set] at kn)); try have hB := hO.at)))
  all_goals try (first
    | (refine hK _ _ ?_; (first | (have hW : OwB (p + 1) (H2.set p (.cells [o2] false)) w1 (l.getD j default).val := OwC.le (OwC.keep hO1 (fun j hj he => qs)) ql; exact ⟨rfl, qg, o2, m ++ [⟨(l.getD j default).key, w1, (l.getD j default).val, false⟩], qs, by (simp only [nx_set]; omega), hO2.keep (fun j hj he => qs), VX.push (VX.stepN hva (fun j hn hj he => qs) qo) hW (by show own w1 = 0 ∨ own w1 ≠ own o2; omega) (newX hn1 (fun j h1 h2 => by ((try simp only [nx_alloc, nx_set] at h1); exact qs)) ql), (fun q => nogo_push q rfl), ql, by (rw [rowOf_r hc, List.map_append]; rfl)⟩) | exact ⟨rfl, qg, o, m, by (simp (disch := first | (refine Asm.mk ?_; assumption) | omega | (simp only [nx_alloc, nx_set, own_sl, own_nil] <;> omega) | fail) only [ga_new, ga_old, gs_new, gs_old, nx_alloc, nx_set, g_get, app_get, pok_get, get_asm, id_eq, hgp]; first | done | fail), ql, hO.keep (fun j hj he => qs), VX.stepN hva (fun j hn hj he => qs) qo, id, by omega, by (rw [rowOf_g hc, List.append_nil])⟩ | fail); done)
    | fail)
end Go.Proofs.Ytbcmdlaffjmfdaa.Ya

