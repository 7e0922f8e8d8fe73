/-
  Calls: what is told.
-/
import Derived.Test.YtpoccinfeekdhaaDoorYaCaW
import Derived.Test.YtpoccinfeekdhaaDoorYbL
namespace Go.Proofs.YtpoccinfeekdhaaDoor.Ya
open Go.Ya Go.Ya.Na
set_option linter.unusedVariables false
set_option linter.unusedSimpArgs false
set_option maxRecDepth 100000
set_option maxHeartbeats 8000000
theorem Rdr.by_ {lo : Nat} {h : Heap} {p : Nat} {s : List Int × Int} (f : Rdr lo h p s) : Bytes s.1 := by obtain ⟨_, _, _, _, hy, _⟩ := f; exact hy
theorem Rdr.other {lo : Nat} {H H' : Heap} {p : Nat} {s : List Int × Int} (f : Rdr lo H p s) (hp : lo ≤ p) (k : ∀ j, lo ≤ j → j ≤ p → H'.get j = H.get j) : Rdr lo H' p s := by
  obtain ⟨v, h1, h2, ⟨h3, h5⟩, h4⟩ := f
  refine ⟨v, (k p hp (Nat.le_refl _)).trans h1, ?_, ⟨h3, h5⟩, h4⟩
  rcases h2 with e | ⟨id, off, cap, ex, c, ro, rfl, e2, e3, e4⟩
  · exact .inl e
  · simp only [own_sl] at h3 h5
    exact .inr ⟨id, off, cap, ex, c, ro, rfl, e2, (k id qo qo).trans e3, e4⟩
theorem r_NumberP {lo : Nat} {h : Heap} {p : Nat} {s : List Int × Int} (f : Rdr lo h p s) : Runs (xcall X1 tab (.fn 40) [.ptr p 0] h) fun v h' => v = .int .u32 (rdN 4 s).1 ∧ Pok p h h' ∧ Rdr lo h' p (rdN 4 s).2 := by
  obtain ⟨n, l, e, hr⟩ := rdN_nat (k := 4) f.by_
  exact (r_Number f hr).mono fun v h' q => by rw [hr]; exact q
theorem r_GreatP {lo : Nat} {h : Heap} {p : Nat} {s : List Int × Int} (f : Rdr lo h p s) : Runs (xcall X1 tab (.fn 41) [.ptr p 0] h) fun v h' => v = .int .u64 (rdN 8 s).1 ∧ Pok p h h' ∧ Rdr lo h' p (rdN 8 s).2 := by
  obtain ⟨n, l, e, hr⟩ := rdN_nat (k := 8) f.by_
  exact (r_Great f hr).mono fun v h' q => by rw [hr]; exact q
theorem r_BytesP {lo : Nat} {h : Heap} {p : Nat} {s : List Int × Int} (f : Rdr lo h p s) : Runs (xcall X1 tab (.fn 43) [.ptr p 0, .int .i64 4096] h) fun v h' => NewBytes h h' v (rdB 4096 s).1 ∧ Pok p h h' ∧ Rdr lo h' p (rdB 4096 s).2 := by
  obtain ⟨n, l, e, hr⟩ := rdN_nat (k := 4) f.by_
  exact r_Bytes (most := 4096) f hr qo
def Two (p q : Nat) (h h' : Heap) : Prop := h.next ≤ h'.next ∧ ∀ j, j < h.next → j ≠ p → j ≠ q → h'.get j = h.get j
theorem Two.trans {p q : Nat} {h h1 h2 : Heap} (a : Two p q h h1) (b : Two p q h1 h2) : Two p q h h2 := ⟨Nat.le_trans a.1 b.1, fun j hj h3 h4 => (b.2 j (Nat.lt_of_lt_of_le hj a.1) h3 h4).trans (a.2 j hj h3 h4)⟩
theorem get_setq {H : Heap} {q : Nat} {ob : AObj} {j : Nat} (h : j ≠ q) : (H.set q ob).get j = H.get j := gs_old h
theorem t107 : tab 107 = some ⟨9, [], b107⟩ := rfl
theorem in_Number32 {lo : Nat} {h : Heap} {p q o : Nat} {s : List Int × Int} {cs cs2 : List AV} (f : Rdr lo h p s) (hlp : lo ≤ p) (hgq : h.get q = some (.cells cs false)) (ho : o < cs.length) (hq : q < lo ∨ p < q) (hcs : cs.take o ++ .int .u32 (rdN 4 s).1 :: cs.drop (o + 1) = cs2) : Runs (xcall X1 tab (.fn 107) [.agg [.ptr p 0], .ptr q o] h) fun v h' => h'.get q = some (.cells cs2 false) ∧ Rdr lo h' p (rdN 4 s).2 ∧ Two p q h h' := by
  refine Runs.intro fun K hK => ?_
  have hqlt := Heap.lt_of_get hgq
  have hplt := f.lt
  rw [w_fn rfl t107 (Nat.le_of_ble_eq_true rfl)]
  delta b107
  repeat' (first
    | simp (disch := first | exact qd | fail) only [WB, ↓WP, ↓WL, WR, WC, if_true, if_false, ite_true, ite_false, aop, ev, evs, readsA, List.replicate, numF, unA, resA, tupA, loadA, storeA, splice, fillA, kindsOk, plainEq, ↓reduceIte, Nat.reduceEqDiff, Nat.reduceLT, Int.reduceToNat, Int.reduceBEq, Int.reduceBNe, Nat.reduceAdd, Nat.reduceMul, Nat.reduceLeDiff, Int.reduceLT, Int.reduceSub, Int.reduceAdd]
    | ((first | refine atC ?_ ?_ | refine atG ?_ ?_ | refine atH ?_ ?_ | refine atP ?_ ?_) <;> intro hc <;> (try rw [hc]) <;> (try simp only [BD] at hc) <;> try (exfalso; omega))
    | ((first
      | (refine Runs.call (r_NumberP (f.grow qg)) ?_; rintro _ H1 ⟨rfl, k1, f1⟩; have hg1 : H1.get q = some (.cells cs false) := qs; have n1 := k1.1; (simp only [nx_alloc, nx_set] at n1))
      | fail); all_goals ((try (have gn := gr.1; try simp only [nx_alloc, nx_set] at gn)); (try (have an := ha.num; try simp only [nx_alloc, nx_set, own_sl, own_nil] at an)); (try (have on := hO.num; try simp only [nx_alloc, nx_set] at on)); (try (have kn := hk.1; try simp only [nx_alloc, nx_set] at kn)); try have hB := hO.at)))
  all_goals try (first
    | (refine hK _ _ ?_; (refine ⟨by rw [← hcs]; exact gs_new rfl qo, f1.other hlp (fun j h1 h2 => get_setq qo), ⟨by simp only [nx_set]; omega, fun j h1 h2 h3 => qs⟩⟩); done)
    | fail)
theorem great_in {lo : Nat} {h : Heap} {p q o : Nat} {s : List Int × Int} {cs cs2 : List AV} (f : Rdr lo h p s) (hlp : lo ≤ p) (hgq : h.get q = some (.cells cs false)) (ho : o < cs.length) (hq : q < lo ∨ p < q) (hcs : cs.take o ++ .int .u64 (rdN 8 s).1 :: cs.drop (o + 1) = cs2) : Runs (xcall X1 tab (.fn 52) [.iface 107 (.agg [.ptr p 0]), .ptr q o] h) fun v h' => h'.get q = some (.cells cs2 false) ∧ Rdr lo h' p (rdN 8 s).2 ∧ Two p q h h' := by
  refine Runs.intro fun K hK => ?_
  have hqlt := Heap.lt_of_get hgq
  have hplt := f.lt
  rw [w_fn rfl t52 (Nat.le_of_ble_eq_true rfl)]
  delta b52
  repeat' (first
    | simp (disch := first | exact qd | fail) only [WB, ↓WP, ↓WL, WR, WC, if_true, if_false, ite_true, ite_false, aop, ev, evs, readsA, List.replicate, numF, unA, resA, tupA, loadA, storeA, splice, fillA, kindsOk, plainEq, ↓reduceIte, Nat.reduceEqDiff, Nat.reduceLT, Int.reduceToNat, Int.reduceBEq, Int.reduceBNe, Nat.reduceAdd, Nat.reduceMul, Nat.reduceLeDiff, Int.reduceLT, Int.reduceSub, Int.reduceAdd, assertA]
    | ((first | refine atC ?_ ?_ | refine atG ?_ ?_ | refine atH ?_ ?_ | refine atP ?_ ?_) <;> intro hc <;> (try rw [hc]) <;> (try simp only [BD] at hc) <;> try (exfalso; omega))
    | ((first
      | (refine Runs.call (r_GreatP (f.grow qg)) ?_; rintro _ H1 ⟨rfl, k1, f1⟩; have hg1 : H1.get q = some (.cells cs false) := qs; have n1 := k1.1; (simp only [nx_alloc, nx_set] at n1))
      | fail); all_goals ((try (have gn := gr.1; try simp only [nx_alloc, nx_set] at gn)); (try (have an := ha.num; try simp only [nx_alloc, nx_set, own_sl, own_nil] at an)); (try (have on := hO.num; try simp only [nx_alloc, nx_set] at on)); (try (have kn := hk.1; try simp only [nx_alloc, nx_set] at kn)); try have hB := hO.at)))
  all_goals try (first
    | (refine hK _ _ ?_; (refine ⟨by rw [← hcs]; exact gs_new rfl qo, f1.other hlp (fun j h1 h2 => get_setq qo), ⟨by simp only [nx_set]; omega, fun j h1 h2 h3 => qs⟩⟩); done)
    | fail)
theorem NBt.two {lo hi p q : Nat} {H H' : Heap} {v : AV} {bs : List Int} (n : NBt lo hi H v bs) (t : Two p q H H') (h1 : p < lo) (h2 : q < lo) (h3 : hi ≤ H.next) : NBt lo hi H' v bs := n.keep fun j a b => t.2 j qo qo qo
theorem octets_in {lo : Nat} {h : Heap} {p q o : Nat} {s : List Int × Int} {cs : List AV} {cs2 : AV → List AV} (f : Rdr lo h p s) (hlp : lo ≤ p) (hgq : h.get q = some (.cells cs false)) (ho : o < cs.length) (hq : q < lo ∨ p < q) (hcs : ∀ v, cs.take o ++ v :: cs.drop (o + 1) = cs2 v) : Runs (xcall X1 tab (.fn 69) [.iface 107 (.agg [.ptr p 0]), .ptr q o] h) fun _ h' => ∃ v, h'.get q = some (.cells (cs2 v) false) ∧ Rdr lo h' p (rdB 4096 s).2 ∧ Two p q h h' ∧ NBt h.next h'.next h' v (rdB 4096 s).1 := by
  refine Runs.intro fun K hK => ?_
  have hqlt := Heap.lt_of_get hgq
  have hplt := f.lt
  rw [w_fn rfl t69 (Nat.le_of_ble_eq_true rfl)]
  delta b69
  repeat' (first
    | simp (disch := first | exact qd | fail) only [WB, ↓WP, ↓WL, WR, WC, if_true, if_false, ite_true, ite_false, aop, ev, evs, readsA, List.replicate, numF, unA, resA, tupA, loadA, storeA, splice, fillA, kindsOk, plainEq, ↓reduceIte, Nat.reduceEqDiff, Nat.reduceLT, Int.reduceToNat, Int.reduceBEq, Int.reduceBNe, Nat.reduceAdd, Nat.reduceMul, Nat.reduceLeDiff, Int.reduceLT, Int.reduceSub, Int.reduceAdd, assertA]
    | ((first | refine atC ?_ ?_ | refine atG ?_ ?_ | refine atH ?_ ?_ | refine atP ?_ ?_) <;> intro hc <;> (try rw [hc]) <;> (try simp only [BD] at hc) <;> try (exfalso; omega))
    | ((first
      | (refine Runs.call (r_BytesP (f.grow qg)) ?_; rintro v1 H1 ⟨hN, k1, f1⟩; have hg1 : H1.get q = some (.cells cs false) := qs; have n1 := k1.1; (simp only [nx_alloc, nx_set] at n1); have hb1 := NewBytes.at hN; have hn1 : NBt h.next H1.next H1 v1 (rdB 4096 s).1 := (NewBytes.nbt hN).le (by simp only [nx_alloc, nx_set]; omega))
      | fail); all_goals ((try (have gn := gr.1; try simp only [nx_alloc, nx_set] at gn)); (try (have an := ha.num; try simp only [nx_alloc, nx_set, own_sl, own_nil] at an)); (try (have on := hO.num; try simp only [nx_alloc, nx_set] at on)); (try (have kn := hk.1; try simp only [nx_alloc, nx_set] at kn)); try have hB := hO.at)))
  all_goals try (first
    | (refine hK _ _ ?_; (refine ⟨v1, by rw [← hcs]; exact gs_new rfl qo, f1.other hlp (fun j h1 h2 => get_setq qo), ⟨by simp only [nx_set]; omega, fun j h1 h2 h3 => qs⟩, ?_⟩; simp only [nx_set]; exact hn1.keep (fun j h1 h2 => get_setq qo)); done)
    | fail)
theorem text_in {lo : Nat} {h : Heap} {p q o : Nat} {s : List Int × Int} {cs cs2 : List AV} (f : Rdr lo h p s) (hlp : lo ≤ p) (hgq : h.get q = some (.cells cs false)) (ho : o < cs.length) (hq : q < lo ∨ p < q) {s0 : List Int} (hs : cs[o]? = some (.str s0)) (hcs : cs.take o ++ .str (rdB 4096 s).1 :: cs.drop (o + 1) = cs2) : Runs (xcall X1 tab (.fn 68) [.iface 107 (.agg [.ptr p 0]), .ptr q o] h) fun v h' => h'.get q = some (.cells cs2 false) ∧ Rdr lo h' p (rdB 4096 s).2 ∧ Two p q h h' := by
  refine Runs.intro fun K hK => ?_
  have hqlt := Heap.lt_of_get hgq
  have hplt := f.lt
  rw [w_fn rfl t68 (Nat.le_of_ble_eq_true rfl)]
  delta b68
  repeat' (first
    | simp (disch := first | exact qd | fail) only [WB, ↓WP, ↓WL, WR, WC, if_true, if_false, ite_true, ite_false, aop, ev, evs, readsA, List.replicate, numF, unA, resA, tupA, loadA, storeA, splice, fillA, kindsOk, plainEq, ↓reduceIte, Nat.reduceEqDiff, Nat.reduceLT, Int.reduceToNat, Int.reduceBEq, Int.reduceBNe, Nat.reduceAdd, Nat.reduceMul, Nat.reduceLeDiff, Int.reduceLT, Int.reduceSub, Int.reduceAdd, hs]
    | ((first | refine atC ?_ ?_ | refine atG ?_ ?_ | refine atH ?_ ?_ | refine atP ?_ ?_) <;> intro hc <;> (try rw [hc]) <;> (try simp only [BD] at hc) <;> try (exfalso; omega))
    | ((first
      | (refine Runs.call (octets_in (lo := lo) (p := p) (s := s) (q := h.next + 1) (o := 0) (cs := [.slice h.next 0 s0.length s0.length false 1]) (cs2 := fun v => [v]) (f.grow qg) hlp qs (by simp) (.inr qo) (fun v => rfl)) ?_; rintro _ H1 ⟨v1, hg1, f1, k1, hn1⟩; have n1 := k1.1; (simp only [nx_alloc, nx_set] at n1); have hgq1 : H1.get q = some (.cells cs false) := (k1.2 q (by simp only [nx_alloc, nx_set]; omega) qo qo).trans qs; have hb1 := hn1.at; have hfb1 := BytesAt.flat' hb1)
      | fail); all_goals ((try (have gn := gr.1; try simp only [nx_alloc, nx_set] at gn)); (try (have an := ha.num; try simp only [nx_alloc, nx_set, own_sl, own_nil] at an)); (try (have on := hO.num; try simp only [nx_alloc, nx_set] at on)); (try (have kn := hk.1; try simp only [nx_alloc, nx_set] at kn)); try have hB := hO.at)))
  all_goals try (first
    | (refine hK _ _ ?_; (refine ⟨by rw [← hcs]; exact gs_new rfl qo, f1.other hlp (fun j h1 h2 => get_setq qo), ⟨by simp only [nx_set]; omega, fun j h1 h2 h3 => (get_setq h3).trans ((k1.2 j (by simp only [nx_alloc, nx_set]; omega) h2 qo).trans qs)⟩⟩); done)
    | fail)
theorem handle_in {lo : Nat} {h : Heap} {p q o : Nat} {s : List Int × Int} {cs cs2 cs3 : List AV} (f : Rdr lo h p s) (hlp : lo ≤ p) (hgq : h.get q = some (.cells cs false)) (ho : o + 1 < cs.length) (hq : q < lo ∨ p < q) (hcs : cs.take o ++ .int .u32 (rdN 4 s).1 :: cs.drop (o + 1) = cs2) (hcs2 : cs2.take (o + 1) ++ .int .u32 (rdN 4 (rdN 4 s).2).1 :: cs2.drop (o + 1 + 1) = cs3) (hl2 : o + 1 < cs2.length) : Runs (xcall X1 tab (.fn 67) [.iface 107 (.agg [.ptr p 0]), .ptr q o] h) fun v h' => h'.get q = some (.cells cs3 false) ∧ Rdr lo h' p (rdN 4 (rdN 4 s).2).2 ∧ Two p q h h' := by
  refine Runs.intro fun K hK => ?_
  have hqlt := Heap.lt_of_get hgq
  have hplt := f.lt
  rw [w_fn rfl t67 (Nat.le_of_ble_eq_true rfl)]
  delta b67
  repeat' (first
    | simp (disch := first | exact qd | fail) only [WB, ↓WP, ↓WL, WR, WC, if_true, if_false, ite_true, ite_false, aop, ev, evs, readsA, List.replicate, numF, unA, resA, tupA, loadA, storeA, splice, fillA, kindsOk, plainEq, ↓reduceIte, Nat.reduceEqDiff, Nat.reduceLT, Int.reduceToNat, Int.reduceBEq, Int.reduceBNe, Nat.reduceAdd, Nat.reduceMul, Nat.reduceLeDiff, Int.reduceLT, Int.reduceSub, Int.reduceAdd, invA, findM, chkM]
    | ((first | refine atC ?_ ?_ | refine atG ?_ ?_ | refine atH ?_ ?_ | refine atP ?_ ?_) <;> intro hc <;> (try rw [hc]) <;> (try simp only [BD] at hc) <;> try (exfalso; omega))
    | ((first
      | (refine Runs.call (in_Number32 f hlp hgq qo hq hcs) ?_; rintro _ H1 ⟨hg1, f1, k1⟩; have hq1 := Heap.lt_of_get hg1)
      | (refine Runs.call (in_Number32 f1 hlp hg1 hl2 hq hcs2) ?_; rintro _ H2 ⟨hg2, f2, k2⟩)
      | fail); all_goals ((try (have gn := gr.1; try simp only [nx_alloc, nx_set] at gn)); (try (have an := ha.num; try simp only [nx_alloc, nx_set, own_sl, own_nil] at an)); (try (have on := hO.num; try simp only [nx_alloc, nx_set] at on)); (try (have kn := hk.1; try simp only [nx_alloc, nx_set] at kn)); try have hB := hO.at)))
  all_goals try (first
    | (refine hK _ _ ?_; exact ⟨hg2, f2, k1.trans k2⟩; done)
    | fail)
def fldZ (z : Cl) (s : List Int × Int) (dv : AV) : Cl :=
  if z.kind = 2 then { z with hi := (rdN 4 s).1, hg := (rdN 4 (rdN 4 s).2).1, size := (rdN 4 (rdN 4 (rdN 4 s).2).2).1 }
  else if z.kind = 3 ∨ z.kind = 7 ∨ z.kind = 8 ∨ z.kind = 9 ∨ z.kind = 10 then { z with hi := (rdN 4 s).1, hg := (rdN 4 (rdN 4 s).2).1, name := (rdB 4096 (rdN 4 (rdN 4 s).2).2).1 }
  else if z.kind = 4 then { z with hi := (rdN 4 s).1, hg := (rdN 4 (rdN 4 s).2).1, off := (rdN 4 (rdN 4 (rdN 4 s).2).2).1, size := (rdN 4 (rdN 4 (rdN 4 (rdN 4 s).2).2).2).1 }
  else if z.kind = 5 then { z with hi := (rdN 4 s).1, hg := (rdN 4 (rdN 4 s).2).1, off := (rdN 4 (rdN 4 (rdN 4 s).2).2).1, dv := dv, data := (rdB 4096 (rdN 4 (rdN 4 (rdN 4 s).2).2).2).1 }
  else if z.kind = 11 then { z with hi := (rdN 4 s).1, hg := (rdN 4 (rdN 4 s).2).1, name := (rdB 4096 (rdN 4 (rdN 4 s).2).2).1, ti := (rdN 4 (rdB 4096 (rdN 4 (rdN 4 s).2).2).2).1, tg := (rdN 4 (rdN 4 (rdB 4096 (rdN 4 (rdN 4 s).2).2).2).2).1, toName := (rdB 4096 (rdN 4 (rdN 4 (rdB 4096 (rdN 4 (rdN 4 s).2).2).2).2).2).1 }
  else { z with hi := (rdN 4 s).1, hg := (rdN 4 (rdN 4 s).2).1 }
def fldS (z : Cl) (s : List Int × Int) : List Int × Int :=
  if z.kind = 2 then (rdN 4 (rdN 4 (rdN 4 s).2).2).2
  else if z.kind = 3 ∨ z.kind = 7 ∨ z.kind = 8 ∨ z.kind = 9 ∨ z.kind = 10 then (rdB 4096 (rdN 4 (rdN 4 s).2).2).2
  else if z.kind = 4 then (rdN 4 (rdN 4 (rdN 4 (rdN 4 s).2).2).2).2
  else if z.kind = 5 then (rdB 4096 (rdN 4 (rdN 4 (rdN 4 s).2).2).2).2
  else if z.kind = 11 then (rdB 4096 (rdN 4 (rdN 4 (rdB 4096 (rdN 4 (rdN 4 s).2).2).2).2).2).2
  else (rdN 4 (rdN 4 s).2).2
theorem fields_in (z : Cl) {lo : Nat} {h : Heap} {p q : Nat} {s : List Int × Int} (f : Rdr lo h p s) (hlp : lo ≤ p) (hgq : h.get q = some (.cells [.int .u8 z.client, .int .u32 z.inc, .int .u64 z.seq, .int .u8 z.kind, .int .u32 z.hi, .int .u32 z.hg, .str z.name, .int .u32 z.ti, .int .u32 z.tg, .str z.toName, .int .u32 z.off, .int .u32 z.size, z.dv] false)) (hq : q < lo ∨ p < q) (hk : 0 ≤ z.kind ∧ z.kind ≤ 255) : Runs (xcall X1 tab (.fn 50) [.iface 107 (.agg [.ptr p 0]), .ptr q 0] h) fun v h' => (kindC z.kind = false ∧ v = .bool false ∧ h = h') ∨ (kindC z.kind = true ∧ v = .bool true ∧ ∃ dv, h'.get q = some (.cells [.int .u8 (fldZ z s dv).client, .int .u32 (fldZ z s dv).inc, .int .u64 (fldZ z s dv).seq, .int .u8 (fldZ z s dv).kind, .int .u32 (fldZ z s dv).hi, .int .u32 (fldZ z s dv).hg, .str (fldZ z s dv).name, .int .u32 (fldZ z s dv).ti, .int .u32 (fldZ z s dv).tg, .str (fldZ z s dv).toName, .int .u32 (fldZ z s dv).off, .int .u32 (fldZ z s dv).size, (fldZ z s dv).dv] false) ∧ Rdr lo h' p (fldS z s) ∧ Two p q h h' ∧ (z.kind = 5 → NBt h.next h'.next h' dv (rdB 4096 (rdN 4 (rdN 4 (rdN 4 s).2).2).2).1)) := by
  refine Runs.intro fun K hK => ?_
  have hqlt := Heap.lt_of_get hgq
  have hplt := f.lt
  rw [w_fn rfl t50 (Nat.le_of_ble_eq_true rfl)]
  delta b50
  repeat' (first
    | simp (disch := first | exact qd | fail) only [WB, ↓WP, ↓WL, WR, WC, if_true, if_false, ite_true, ite_false, aop, ev, evs, readsA, List.replicate, numF, unA, resA, tupA, loadA, storeA, splice, fillA, kindsOk, plainEq, ↓reduceIte, Nat.reduceEqDiff, Nat.reduceLT, Int.reduceToNat, Int.reduceBEq, Int.reduceBNe, Nat.reduceAdd, Nat.reduceMul, Nat.reduceLeDiff, Int.reduceLT, Int.reduceSub, Int.reduceAdd, invA, findM, chkM]
    | ((first | refine atC ?_ ?_ | refine atG ?_ ?_ | refine atH ?_ ?_ | refine atP ?_ ?_) <;> intro hc <;> (try rw [hc]) <;> (try simp only [BD] at hc) <;> try (exfalso; omega))
    | ((first
      | (refine Runs.call (handle_in (o := 4) (cs := [.int .u8 z.client, .int .u32 z.inc, .int .u64 z.seq, .int .u8 z.kind, .int .u32 z.hi, .int .u32 z.hg, .str z.name, .int .u32 z.ti, .int .u32 z.tg, .str z.toName, .int .u32 z.off, .int .u32 z.size, z.dv]) (cs3 := [.int .u8 z.client, .int .u32 z.inc, .int .u64 z.seq, .int .u8 z.kind, .int .u32 (rdN 4 s).1, .int .u32 (rdN 4 (rdN 4 s).2).1, .str z.name, .int .u32 z.ti, .int .u32 z.tg, .str z.toName, .int .u32 z.off, .int .u32 z.size, z.dv]) f hlp hgq (by simp) hq rfl rfl (by simp)) ?_; rintro _ H1 ⟨hg1, f1, kk⟩; have n1 := kk.1)
      | (refine Runs.call (in_Number32 (o := 11) (cs := [.int .u8 z.client, .int .u32 z.inc, .int .u64 z.seq, .int .u8 z.kind, .int .u32 (rdN 4 s).1, .int .u32 (rdN 4 (rdN 4 s).2).1, .str z.name, .int .u32 z.ti, .int .u32 z.tg, .str z.toName, .int .u32 z.off, .int .u32 z.size, z.dv]) (cs2 := [.int .u8 z.client, .int .u32 z.inc, .int .u64 z.seq, .int .u8 z.kind, .int .u32 (rdN 4 s).1, .int .u32 (rdN 4 (rdN 4 s).2).1, .str z.name, .int .u32 z.ti, .int .u32 z.tg, .str z.toName, .int .u32 z.off, .int .u32 (rdN 4 (rdN 4 (rdN 4 s).2).2).1, z.dv]) f1 hlp hg1 (by simp) hq rfl) ?_; rintro _ H2 ⟨hg2, f2, k2⟩; have kk := kk.trans k2; have n2 := k2.1)
      | (refine Runs.call (in_Number32 (o := 10) (cs := [.int .u8 z.client, .int .u32 z.inc, .int .u64 z.seq, .int .u8 z.kind, .int .u32 (rdN 4 s).1, .int .u32 (rdN 4 (rdN 4 s).2).1, .str z.name, .int .u32 z.ti, .int .u32 z.tg, .str z.toName, .int .u32 z.off, .int .u32 z.size, z.dv]) (cs2 := [.int .u8 z.client, .int .u32 z.inc, .int .u64 z.seq, .int .u8 z.kind, .int .u32 (rdN 4 s).1, .int .u32 (rdN 4 (rdN 4 s).2).1, .str z.name, .int .u32 z.ti, .int .u32 z.tg, .str z.toName, .int .u32 (rdN 4 (rdN 4 (rdN 4 s).2).2).1, .int .u32 z.size, z.dv]) f1 hlp hg1 (by simp) hq rfl) ?_; rintro _ H2 ⟨hg2, f2, k2⟩; have kk := kk.trans k2; have n2 := k2.1)
      | (refine Runs.call (in_Number32 (o := 11) (cs := [.int .u8 z.client, .int .u32 z.inc, .int .u64 z.seq, .int .u8 z.kind, .int .u32 (rdN 4 s).1, .int .u32 (rdN 4 (rdN 4 s).2).1, .str z.name, .int .u32 z.ti, .int .u32 z.tg, .str z.toName, .int .u32 (rdN 4 (rdN 4 (rdN 4 s).2).2).1, .int .u32 z.size, z.dv]) (cs2 := [.int .u8 z.client, .int .u32 z.inc, .int .u64 z.seq, .int .u8 z.kind, .int .u32 (rdN 4 s).1, .int .u32 (rdN 4 (rdN 4 s).2).1, .str z.name, .int .u32 z.ti, .int .u32 z.tg, .str z.toName, .int .u32 (rdN 4 (rdN 4 (rdN 4 s).2).2).1, .int .u32 (rdN 4 (rdN 4 (rdN 4 (rdN 4 s).2).2).2).1, z.dv]) f2 hlp hg2 (by simp) hq rfl) ?_; rintro _ H3 ⟨hg3, f3, k3⟩; have kk := kk.trans k3; have n3 := k3.1)
      | (refine Runs.call (octets_in (o := 12) (cs := [.int .u8 z.client, .int .u32 z.inc, .int .u64 z.seq, .int .u8 z.kind, .int .u32 (rdN 4 s).1, .int .u32 (rdN 4 (rdN 4 s).2).1, .str z.name, .int .u32 z.ti, .int .u32 z.tg, .str z.toName, .int .u32 (rdN 4 (rdN 4 (rdN 4 s).2).2).1, .int .u32 z.size, z.dv]) (cs2 := fun v => [.int .u8 z.client, .int .u32 z.inc, .int .u64 z.seq, .int .u8 z.kind, .int .u32 (rdN 4 s).1, .int .u32 (rdN 4 (rdN 4 s).2).1, .str z.name, .int .u32 z.ti, .int .u32 z.tg, .str z.toName, .int .u32 (rdN 4 (rdN 4 (rdN 4 s).2).2).1, .int .u32 z.size, v]) f2 hlp hg2 (by simp) hq (fun v => rfl)) ?_; rintro _ H3 ⟨v3, hg3, f3, k3, hn3⟩; have kk := kk.trans k3; have n3 := k3.1)
      | (refine Runs.call (text_in (o := 6) (s0 := z.name) (cs := [.int .u8 z.client, .int .u32 z.inc, .int .u64 z.seq, .int .u8 z.kind, .int .u32 (rdN 4 s).1, .int .u32 (rdN 4 (rdN 4 s).2).1, .str z.name, .int .u32 z.ti, .int .u32 z.tg, .str z.toName, .int .u32 z.off, .int .u32 z.size, z.dv]) (cs2 := [.int .u8 z.client, .int .u32 z.inc, .int .u64 z.seq, .int .u8 z.kind, .int .u32 (rdN 4 s).1, .int .u32 (rdN 4 (rdN 4 s).2).1, .str (rdB 4096 (rdN 4 (rdN 4 s).2).2).1, .int .u32 z.ti, .int .u32 z.tg, .str z.toName, .int .u32 z.off, .int .u32 z.size, z.dv]) f1 hlp hg1 (by simp) hq rfl rfl) ?_; rintro _ H2 ⟨hg2, f2, k2⟩; have kk := kk.trans k2; have n2 := k2.1)
      | (refine Runs.call (handle_in (o := 7) (cs := [.int .u8 z.client, .int .u32 z.inc, .int .u64 z.seq, .int .u8 z.kind, .int .u32 (rdN 4 s).1, .int .u32 (rdN 4 (rdN 4 s).2).1, .str (rdB 4096 (rdN 4 (rdN 4 s).2).2).1, .int .u32 z.ti, .int .u32 z.tg, .str z.toName, .int .u32 z.off, .int .u32 z.size, z.dv]) (cs3 := [.int .u8 z.client, .int .u32 z.inc, .int .u64 z.seq, .int .u8 z.kind, .int .u32 (rdN 4 s).1, .int .u32 (rdN 4 (rdN 4 s).2).1, .str (rdB 4096 (rdN 4 (rdN 4 s).2).2).1, .int .u32 (rdN 4 (rdB 4096 (rdN 4 (rdN 4 s).2).2).2).1, .int .u32 (rdN 4 (rdN 4 (rdB 4096 (rdN 4 (rdN 4 s).2).2).2).2).1, .str z.toName, .int .u32 z.off, .int .u32 z.size, z.dv]) f2 hlp hg2 (by simp) hq rfl rfl (by simp)) ?_; rintro _ H3 ⟨hg3, f3, k3⟩; have kk := kk.trans k3; have n3 := k3.1)
      | (refine Runs.call (text_in (o := 9) (s0 := z.toName) (cs := [.int .u8 z.client, .int .u32 z.inc, .int .u64 z.seq, .int .u8 z.kind, .int .u32 (rdN 4 s).1, .int .u32 (rdN 4 (rdN 4 s).2).1, .str (rdB 4096 (rdN 4 (rdN 4 s).2).2).1, .int .u32 (rdN 4 (rdB 4096 (rdN 4 (rdN 4 s).2).2).2).1, .int .u32 (rdN 4 (rdN 4 (rdB 4096 (rdN 4 (rdN 4 s).2).2).2).2).1, .str z.toName, .int .u32 z.off, .int .u32 z.size, z.dv]) (cs2 := [.int .u8 z.client, .int .u32 z.inc, .int .u64 z.seq, .int .u8 z.kind, .int .u32 (rdN 4 s).1, .int .u32 (rdN 4 (rdN 4 s).2).1, .str (rdB 4096 (rdN 4 (rdN 4 s).2).2).1, .int .u32 (rdN 4 (rdB 4096 (rdN 4 (rdN 4 s).2).2).2).1, .int .u32 (rdN 4 (rdN 4 (rdB 4096 (rdN 4 (rdN 4 s).2).2).2).2).1, .str (rdB 4096 (rdN 4 (rdN 4 (rdB 4096 (rdN 4 (rdN 4 s).2).2).2).2).2).1, .int .u32 z.off, .int .u32 z.size, z.dv]) f3 hlp hg3 (by simp) hq rfl rfl) ?_; rintro _ H4 ⟨hg4, f4, k4⟩; have kk := kk.trans k4; have n4 := k4.1)
      | fail); all_goals ((try (have gn := gr.1; try simp only [nx_alloc, nx_set] at gn)); (try (have an := ha.num; try simp only [nx_alloc, nx_set, own_sl, own_nil] at an)); (try (have on := hO.num; try simp only [nx_alloc, nx_set] at on)); (try (have kn := hk.1; try simp only [nx_alloc, nx_set] at kn)); try have hB := hO.at)))
  all_goals try (first
    | (refine hK _ _ ?_; (first | exact .inl ⟨by unfold kindC; rw [decide_eq_false qo], rfl, rfl⟩ | (refine .inr ⟨by unfold kindC; rw [decide_eq_true qo], rfl, z.dv, ?_, ?_, kk, ?_⟩; (unfold fldZ; (repeat (first | rw [if_pos qo] | rw [if_neg qo])); exact hg4); (unfold fldS; (repeat (first | rw [if_pos qo] | rw [if_neg qo])); exact f4); (intro q5; first | exact hn3.le qo | (exfalso; omega))) | (refine .inr ⟨by unfold kindC; rw [decide_eq_true qo], rfl, v3, ?_, ?_, kk, ?_⟩; (unfold fldZ; (repeat (first | rw [if_pos qo] | rw [if_neg qo])); exact hg3); (unfold fldS; (repeat (first | rw [if_pos qo] | rw [if_neg qo])); exact f3); (intro q5; first | exact hn3.le qo | (exfalso; omega))) | (refine .inr ⟨by unfold kindC; rw [decide_eq_true qo], rfl, z.dv, ?_, ?_, kk, ?_⟩; (unfold fldZ; (repeat (first | rw [if_pos qo] | rw [if_neg qo])); exact hg3); (unfold fldS; (repeat (first | rw [if_pos qo] | rw [if_neg qo])); exact f3); (intro q5; first | exact hn3.le qo | (exfalso; omega))) | (refine .inr ⟨by unfold kindC; rw [decide_eq_true qo], rfl, z.dv, ?_, ?_, kk, ?_⟩; (unfold fldZ; (repeat (first | rw [if_pos qo] | rw [if_neg qo])); exact hg2); (unfold fldS; (repeat (first | rw [if_pos qo] | rw [if_neg qo])); exact f2); (intro q5; first | exact hn3.le qo | (exfalso; omega))) | (refine .inr ⟨by unfold kindC; rw [decide_eq_true qo], rfl, z.dv, ?_, ?_, kk, ?_⟩; (unfold fldZ; (repeat (first | rw [if_pos qo] | rw [if_neg qo])); exact hg1); (unfold fldS; (repeat (first | rw [if_pos qo] | rw [if_neg qo])); exact f1); (intro q5; first | exact hn3.le qo | (exfalso; omega))) | fail); done)
    | fail)
end Go.Proofs.YtpoccinfeekdhaaDoor.Ya
