/-
  Calls: what is laid.
-/
import Derived.Test.YtpoccinfeekdhaaDoorYaXD
import Derived.Test.YtpoccinfeekdhaaDoorYbL
import Derived.Test.YtpoccinfeekdhaaDoorYaXT
import Derived.Test.YtpoccinfeekdhaaDoorYaXP
import Derived.Test.YtpoccinfeekdhaaDoorYaNam
namespace Go.Proofs.YtpoccinfeekdhaaDoor.Ya
open Go.Ya Go.Ya.Na
set_option linter.unusedVariables false
set_option linter.unusedSimpArgs false
set_option maxRecDepth 100000
set_option maxHeartbeats 8000000
structure Cl where
  client : Int
  inc : Int
  seq : Int
  kind : Int
  hi : Int
  hg : Int
  name : List Int
  ti : Int
  tg : Int
  toName : List Int
  off : Int
  size : Int
  dv : AV
  data : List Int
def ClAt (H : Heap) (z : Cl) : Prop := BytesAt H z.dv z.data ∧ Bytes z.data ∧ Bytes z.name ∧ Bytes z.toName ∧ z.data.length ≤ 2000000 ∧ z.name.length ≤ 2000000 ∧ z.toName.length ≤ 2000000
def ClOk (z : Cl) : Prop := (0 ≤ z.client ∧ z.client ≤ 255) ∧ (0 ≤ z.inc ∧ z.inc ≤ 4294967295) ∧ (0 ≤ z.seq ∧ z.seq ≤ 18446744073709551615) ∧ (0 ≤ z.kind ∧ z.kind ≤ 255) ∧ (0 ≤ z.hi ∧ z.hi ≤ 4294967295) ∧ (0 ≤ z.hg ∧ z.hg ≤ 4294967295) ∧ (0 ≤ z.ti ∧ z.ti ≤ 4294967295) ∧ (0 ≤ z.tg ∧ z.tg ≤ 4294967295) ∧ (0 ≤ z.off ∧ z.off ≤ 4294967295) ∧ (0 ≤ z.size ∧ z.size ≤ 4294967295)
theorem ClAt.grow {H H' : Heap} {z : Cl} (a : ClAt H z) (g : Grow H H') : ClAt H' z := ⟨a.1.grow g, a.2⟩
def Eqv (H H' : Heap) : Prop := H'.next = H.next ∧ ∀ j, H'.get j = H.get j
theorem Eqv.set {H : Heap} {q : Nat} {ob : AObj} (h : H.get q = some ob) : Eqv H (H.set q ob) := ⟨by simp, fun j => by
  by_cases e : j = q
  · subst e; rw [gs_new rfl (Heap.lt_of_get h), h]
  · rw [gs_old e]⟩
theorem Grow.eqv {g H H' : Heap} (a : Grow g H) (e : Eqv H H') : Grow g H' := ⟨by rw [e.1]; exact a.1, fun j hj => (e.2 j).trans (a.2 j hj)⟩
theorem Wr.eqv {n p : Nat} {H H' : Heap} {bs : List Int} (f : Wr n H p bs) (e : Eqv H H') : Wr n H' p bs := by
  obtain ⟨b, h1, h2, h3⟩ := f
  exact ⟨b, (e.2 _).trans h1, h2.keep (fun j _ _ => e.2 j), h3⟩
theorem Wf.eqv {p : Nat} {h H H' : Heap} (a : Wf p h H) (e : Eqv H H') : Wf p h H' := ⟨by rw [e.1]; exact a.1, fun b hb => by
  obtain ⟨⟨b1, e1, o1⟩, k1⟩ := a.2 b hb
  exact ⟨⟨b1, (e.2 _).trans e1, o1⟩, fun j h1 h2 h3 => (e.2 j).trans (k1 j h1 h2 h3)⟩⟩
theorem Wr.kept {n p : Nat} {h H : Heap} {bs : List Int} (f : Wr n h p bs) (g : Grow h H) {j : Nat} {ob : AObj} (hj : H.get j = some ob) (hn : h.next ≤ j) : ∀ H', Wf p H H' → H'.get j = some ob := fun H' w => by
  obtain ⟨b, h1, h2, h3, h4⟩ := f
  have hp := Heap.lt_of_get h1
  have on := h2.num
  exact Wf.get w (g.get h1) hj qo qo
theorem Wr.newer {n p : Nat} {h H : Heap} {bs xs : List Int} {v : AV} (f : Wr n h p bs) (g : Grow h H) (hv : BytesAt H v xs) (hn : v = .nilsl ∨ h.next < own v) : ∀ H', Wf p H H' → BytesAt H' v xs := fun H' w => by
  rcases hv with e | ⟨id, off, cap, ex, c, ro, rfl, e2, e3, e4⟩
  · exact .inl e
  · rcases hn with q | q
    · cases q
    · simp only [own_sl] at q
      exact .inr ⟨id, off, cap, ex, c, ro, rfl, e2, f.kept g e3 qo H' w, e4⟩
theorem BytesAt.mk0 {H : Heap} {id : Nat} {s : List Int} (h : H.get id = some (.cells (s.map (AV.int .u8)) false)) : BytesAt H (.slice id 0 s.length s.length false 1) s := .inr ⟨id, 0, _, _, _, _, rfl, Nat.le_refl _, h, by simp, by simp [ints, List.take_of_length_le]⟩
theorem splice_same {cs : List AV} {o : Nat} {v : AV} (h : cs[o]? = some v) : cs.take o ++ v :: cs.drop (o + 1) = cs := by
  have hl : o < cs.length := by
    rcases Nat.lt_or_ge o cs.length with q | q
    · exact q
    · rw [List.getElem?_eq_none q] at h; cases h
  rw [List.getElem?_eq_getElem hl] at h
  injection h with h
  rw [← h, ← List.drop_eq_getElem_cons hl, List.take_append_drop]
theorem t106 : tab 106 = some ⟨10, [], b106⟩ := rfl
theorem out_Number32 {h0 h : Heap} {p q o : Nat} {bs : List Int} {cs : List AV} (g : Grow h0 h) (f : Wr h0.next h p bs) (hgq : h.get q = some (.cells cs false)) (hl : bs.length ≤ 900000000) {n : Int} (ho : cs[o]? = some (.int .u32 n)) (n0 : 0 ≤ n) (n1 : n ≤ 4294967295) : Runs (xcall X1 tab (.fn 106) [.agg [.ptr p 0], .ptr q o] h) fun v h' => Grow h0 h' ∧ Wr h0.next h' p (bs ++ beL n 4) ∧ Wf p h h' := by
  refine Runs.intro fun K hK => ?_
  have hqlt := Heap.lt_of_get hgq
  have gn := g.1
  rw [w_fn rfl t106 (Nat.le_of_ble_eq_true rfl)]
  delta b106
  repeat' (first
    | simp (disch := first | exact qd | fail) only [WB, ↓WP, ↓WL, WR, WC, if_true, if_false, ite_true, ite_false, aop, ev, evs, readsA, List.replicate, numF, unA, resA, tupA, loadA, storeA, splice, fillA, kindsOk, plainEq, ↓reduceIte, Nat.reduceEqDiff, Nat.reduceLT, Int.reduceToNat, Int.reduceBEq, Int.reduceBNe, Nat.reduceAdd, Nat.reduceMul, Nat.reduceLeDiff, Int.reduceLT, Int.reduceSub, Int.reduceAdd, ho]
    | ((first | refine atC ?_ ?_ | refine atG ?_ ?_ | refine atH ?_ ?_ | refine atP ?_ ?_) <;> intro hc <;> (try rw [hc]) <;> (try simp only [BD] at hc) <;> try (exfalso; omega))
    | ((first
      | (refine Runs.call (w_Number (h0 := h0) qg (f.grow qg) n0 n1 qo) ?_; rintro _ H2 ⟨gr, f2, k2⟩)
      | fail); all_goals ((try (have gn := gr.1; try simp only [nx_alloc, nx_set] at gn)); (try (have an := ha.num; try simp only [nx_alloc, nx_set, own_sl, own_nil] at an)); (try (have on := hO.num; try simp only [nx_alloc, nx_set] at on)); (try (have kn := hk.1; try simp only [nx_alloc, nx_set] at kn)); try have hB := hO.at)))
  all_goals try (first
    | (refine hK _ _ ?_; exact ⟨gr, f2, (Wf.of (Grow.alloc _ _)).trans k2⟩; done)
    | fail)
theorem t52 : tab 52 = some ⟨24, [], b52⟩ := rfl
theorem t69 : tab 69 = some ⟨24, [], b69⟩ := rfl
theorem octets_out {h0 h : Heap} {p q o : Nat} {bs : List Int} {cs : List AV} (g : Grow h0 h) (f : Wr h0.next h p bs) (hgq : h.get q = some (.cells cs false)) (hl : bs.length ≤ 900000000) {v : AV} {xs : List Int} (ho : cs[o]? = some v) (hk : ∀ H', Wf p h H' → BytesAt H' v xs) (hx : xs.length ≤ 1000000000) : Runs (xcall X1 tab (.fn 69) [.iface 102 (.agg [.ptr p 0]), .ptr q o] h) fun v h' => Grow h0 h' ∧ Wr h0.next h' p (bs ++ encB xs) ∧ Wf p h h' := by
  refine Runs.intro fun K hK => ?_
  have hqlt := Heap.lt_of_get hgq
  have gn := g.1
  rw [w_fn rfl t69 (Nat.le_of_ble_eq_true rfl)]
  delta b69
  repeat' (first
    | simp (disch := first | exact qd | fail) only [WB, ↓WP, ↓WL, WR, WC, if_true, if_false, ite_true, ite_false, aop, ev, evs, readsA, List.replicate, numF, unA, resA, tupA, loadA, storeA, splice, fillA, kindsOk, plainEq, ↓reduceIte, Nat.reduceEqDiff, Nat.reduceLT, Int.reduceToNat, Int.reduceBEq, Int.reduceBNe, Nat.reduceAdd, Nat.reduceMul, Nat.reduceLeDiff, Int.reduceLT, Int.reduceSub, Int.reduceAdd, ho, assertA]
    | ((first | refine atC ?_ ?_ | refine atG ?_ ?_ | refine atH ?_ ?_ | refine atP ?_ ?_) <;> intro hc <;> (try rw [hc]) <;> (try simp only [BD] at hc) <;> try (exfalso; omega))
    | ((first
      | (refine Runs.call (w_Bytes (h0 := h0) qg (f.grow qg) (fun H' w => hk H' ((Wf.of qg).trans w)) hx qo) ?_; rintro _ H2 ⟨gr, f2, k2⟩)
      | fail); all_goals ((try (have gn := gr.1; try simp only [nx_alloc, nx_set] at gn)); (try (have an := ha.num; try simp only [nx_alloc, nx_set, own_sl, own_nil] at an)); (try (have on := hO.num; try simp only [nx_alloc, nx_set] at on)); (try (have kn := hk.1; try simp only [nx_alloc, nx_set] at kn)); try have hB := hO.at)))
  all_goals try (first
    | (refine hK _ _ ?_; exact ⟨gr, f2, (Wf.of qg).trans k2⟩; done)
    | fail)
theorem t68 : tab 68 = some ⟨15, [], b68⟩ := rfl
theorem text_out {h0 h : Heap} {p q o : Nat} {bs : List Int} {cs : List AV} (g : Grow h0 h) (f : Wr h0.next h p bs) (hq0 : h0.get q = some (.cells cs false)) (hgq : h.get q = some (.cells cs false)) (hl : bs.length ≤ 900000000) {s : List Int} (ho : cs[o]? = some (.str s)) (hx : s.length ≤ 1000000000) : Runs (xcall X1 tab (.fn 68) [.iface 102 (.agg [.ptr p 0]), .ptr q o] h) fun v h' => Grow h0 h' ∧ Wr h0.next h' p (bs ++ encB s) ∧ Wf p h h' := by
  refine Runs.intro fun K hK => ?_
  have hqlt := Heap.lt_of_get hgq
  have gn := g.1
  have hol := (List.getElem?_eq_some_iff.1 ho).1
  rw [w_fn rfl t68 (Nat.le_of_ble_eq_true rfl)]
  delta b68
  repeat' (first
    | simp (disch := first | exact qd | fail) only [WB, ↓WP, ↓WL, WR, WC, if_true, if_false, ite_true, ite_false, aop, ev, evs, readsA, List.replicate, numF, unA, resA, tupA, loadA, storeA, splice, fillA, kindsOk, plainEq, ↓reduceIte, Nat.reduceEqDiff, Nat.reduceLT, Int.reduceToNat, Int.reduceBEq, Int.reduceBNe, Nat.reduceAdd, Nat.reduceMul, Nat.reduceLeDiff, Int.reduceLT, Int.reduceSub, Int.reduceAdd, ho]
    | ((first | refine atC ?_ ?_ | refine atG ?_ ?_ | refine atH ?_ ?_ | refine atP ?_ ?_) <;> intro hc <;> (try rw [hc]) <;> (try simp only [BD] at hc) <;> try (exfalso; omega))
    | ((first
      | (refine Runs.call (octets_out (h0 := h0) (p := p) (bs := bs) (xs := s) (cs := [.slice h.next 0 s.length s.length false 1]) (o := 0) qg (f.grow qg) qs hl rfl (f.newer qg (BytesAt.mk0 qs) (.inr (by simp only [own_sl]; omega))) hx) ?_; rintro _ H2 ⟨gr, f2, k2⟩; have hg2 := gr.get hq0; have hb2 : BytesAt H2 (.slice h.next 0 s.length s.length false 1) s := (f.newer qg (BytesAt.mk0 qs) (.inr (by simp only [own_sl]; omega))) H2 k2; have hb4 : H2.get (h.next + 1) = some (.cells [.slice h.next 0 s.length s.length false 1] false) := (f.kept qg qs qo) H2 k2)
      | fail); all_goals ((try (have gn := gr.1; try simp only [nx_alloc, nx_set] at gn)); (try (have an := ha.num; try simp only [nx_alloc, nx_set, own_sl, own_nil] at an)); (try (have on := hO.num; try simp only [nx_alloc, nx_set] at on)); (try (have kn := hk.1; try simp only [nx_alloc, nx_set] at kn)); try have hB := hO.at)))
  all_goals try (first
    | (refine hK _ _ ?_; (rw [splice_same ho]; have e := Eqv.set hg2; exact ⟨Grow.eqv gr e, f2.eqv e, ((Wf.of qg).trans k2).eqv e⟩); done)
    | fail)
def kindC (k : Int) : Bool := decide (1 ≤ k ∧ k ≤ 12)
def tailK (z : Cl) : List Int := if z.kind = 2 then beL z.size 4 else if z.kind = 3 ∨ z.kind = 7 ∨ z.kind = 8 ∨ z.kind = 9 ∨ z.kind = 10 then encB z.name else if z.kind = 4 then beL z.off 4 ++ beL z.size 4 else if z.kind = 5 then beL z.off 4 ++ encB z.data else if z.kind = 11 then encB z.name ++ (beL z.ti 4 ++ beL z.tg 4) ++ encB z.toName else []
def tailC (z : Cl) : List Int := if 1 ≤ z.kind ∧ z.kind ≤ 12 then beL z.hi 4 ++ beL z.hg 4 ++ tailK z else []
def encC (z : Cl) : List Int := [] ++ beL z.client 4 ++ beL z.inc 4 ++ beL z.seq 8 ++ beL z.kind 4 ++ tailC z
theorem t67 : tab 67 = some ⟨20, [], b67⟩ := rfl
theorem handle_out {h0 h : Heap} {p q o : Nat} {bs : List Int} {cs : List AV} (g : Grow h0 h) (f : Wr h0.next h p bs) (hq0 : h0.get q = some (.cells cs false)) (hl : bs.length ≤ 800000000) {n m : Int} (ho1 : cs[o]? = some (.int .u32 n)) (ho2 : cs[o + 1]? = some (.int .u32 m)) (n0 : 0 ≤ n ∧ n ≤ 4294967295) (m0 : 0 ≤ m ∧ m ≤ 4294967295) : Runs (xcall X1 tab (.fn 67) [.iface 102 (.agg [.ptr p 0]), .ptr q o] h) fun v h' => Grow h0 h' ∧ Wr h0.next h' p (bs ++ beL n 4 ++ beL m 4) ∧ Wf p h h' := by
  refine Runs.intro fun K hK => ?_
  rw [w_fn rfl t67 (Nat.le_of_ble_eq_true rfl)]
  delta b67
  repeat' (first
    | simp (disch := first | exact qd | fail) only [WB, ↓WP, ↓WL, WR, WC, if_true, if_false, ite_true, ite_false, aop, ev, evs, readsA, List.replicate, numF, unA, resA, tupA, loadA, storeA, splice, fillA, kindsOk, plainEq, ↓reduceIte, Nat.reduceEqDiff, Nat.reduceLT, Int.reduceToNat, Int.reduceBEq, Int.reduceBNe, Nat.reduceAdd, Nat.reduceMul, Nat.reduceLeDiff, Int.reduceLT, Int.reduceSub, Int.reduceAdd, invA, findM, chkM]
    | ((first | refine atC ?_ ?_ | refine atG ?_ ?_ | refine atH ?_ ?_ | refine atP ?_ ?_) <;> intro hc <;> (try rw [hc]) <;> (try simp only [BD] at hc) <;> try (exfalso; omega))
    | ((first
      | (refine Runs.call (out_Number32 (h0 := h0) (cs := cs) (o := o) g f (g.get hq0) qo ho1 n0.1 n0.2) ?_; rintro _ H1 ⟨gr, f1, k1⟩)
      | (refine Runs.call (out_Number32 (h0 := h0) (cs := cs) (o := o + 1) gr f1 (gr.get hq0) (by simp only [List.length_append, beL_len]; omega) ho2 m0.1 m0.2) ?_; rintro _ H2 ⟨gr2, f2, k2⟩)
      | fail); all_goals ((try (have gn := gr.1; try simp only [nx_alloc, nx_set] at gn)); (try (have an := ha.num; try simp only [nx_alloc, nx_set, own_sl, own_nil] at an)); (try (have on := hO.num; try simp only [nx_alloc, nx_set] at on)); (try (have kn := hk.1; try simp only [nx_alloc, nx_set] at kn)); try have hB := hO.at)))
  all_goals try (first
    | (refine hK _ _ ?_; exact ⟨gr2, f2, k1.trans k2⟩; done)
    | fail)
theorem t50 : tab 50 = some ⟨97, [.tmp 4], b50⟩ := rfl
theorem fields_out (z : Cl) {h0 h : Heap} {p q : Nat} {bs : List Int} (g : Grow h0 h) (f : Wr h0.next h p bs) (hq0 : h0.get q = some (.cells [.int .u8 z.client, .int .u32 z.inc, .int .u64 z.seq, .int .u8 z.kind, .int .u32 z.hi, .int .u32 z.hg, .str z.name, .int .u32 z.ti, .int .u32 z.tg, .str z.toName, .int .u32 z.off, .int .u32 z.size, z.dv] false)) (hz : ClAt h0 z) (ho : ClOk z) (hl : bs.length ≤ 100000) : Runs (xcall X1 tab (.fn 50) [.iface 102 (.agg [.ptr p 0]), .ptr q 0] h) fun v h' => v = .bool (kindC z.kind) ∧ Grow h0 h' ∧ Wr h0.next h' p (bs ++ tailC z) ∧ Wf p h h' := by
  refine Runs.intro fun K hK => ?_
  obtain ⟨o1, o2, o3, o4, o5, o6, o7, o8, o9, o10⟩ := ho
  obtain ⟨hd, hyd, hyn, hyt, ld, ln, lt⟩ := hz
  have gr := g
  have hgq := g.get hq0
  have pn1 := padN_le z.name.length
  have pn2 := padN_le z.toName.length
  have pn3 := padN_le z.data.length
  rw [w_fn rfl t50 (Nat.le_of_ble_eq_true rfl)]
  delta b50
  repeat' (first
    | simp (disch := first | exact qd | fail) only [WB, ↓WP, ↓WL, WR, WC, if_true, if_false, ite_true, ite_false, aop, ev, evs, readsA, List.replicate, numF, unA, resA, tupA, loadA, storeA, splice, fillA, kindsOk, plainEq, ↓reduceIte, Nat.reduceEqDiff, Nat.reduceLT, Int.reduceToNat, Int.reduceBEq, Int.reduceBNe, Nat.reduceAdd, Nat.reduceMul, Nat.reduceLeDiff, Int.reduceLT, Int.reduceSub, Int.reduceAdd, invA, findM, chkM]
    | ((first | refine atC ?_ ?_ | refine atG ?_ ?_ | refine atH ?_ ?_ | refine atP ?_ ?_) <;> intro hc <;> (try rw [hc]) <;> (try simp only [BD] at hc) <;> try (exfalso; omega))
    | ((first
      | (refine Runs.call (handle_out (h0 := h0) (cs := [.int .u8 z.client, .int .u32 z.inc, .int .u64 z.seq, .int .u8 z.kind, .int .u32 z.hi, .int .u32 z.hg, .str z.name, .int .u32 z.ti, .int .u32 z.tg, .str z.toName, .int .u32 z.off, .int .u32 z.size, z.dv]) (o := 4) g f hq0 qo rfl rfl o5 o6) ?_; rintro _ H1 ⟨gr, f1, kk⟩; have hgq := gr.get hq0)
      | (refine Runs.call (out_Number32 (h0 := h0) (cs := [.int .u8 z.client, .int .u32 z.inc, .int .u64 z.seq, .int .u8 z.kind, .int .u32 z.hi, .int .u32 z.hg, .str z.name, .int .u32 z.ti, .int .u32 z.tg, .str z.toName, .int .u32 z.off, .int .u32 z.size, z.dv]) (o := 11) (by assumption) (by assumption) (gr.get hq0) (by simp only [List.length_append, beL_len, encB_len]; omega) rfl o10.1 o10.2) ?_; rintro _ _ ⟨gr, f2, k2⟩; have kk := kk.trans k2)
      | (refine Runs.call (out_Number32 (h0 := h0) (cs := [.int .u8 z.client, .int .u32 z.inc, .int .u64 z.seq, .int .u8 z.kind, .int .u32 z.hi, .int .u32 z.hg, .str z.name, .int .u32 z.ti, .int .u32 z.tg, .str z.toName, .int .u32 z.off, .int .u32 z.size, z.dv]) (o := 10) (by assumption) (by assumption) (gr.get hq0) (by simp only [List.length_append, beL_len, encB_len]; omega) rfl o9.1 o9.2) ?_; rintro _ _ ⟨gr, f2, k2⟩; have kk := kk.trans k2)
      | (refine Runs.call (text_out (h0 := h0) (cs := [.int .u8 z.client, .int .u32 z.inc, .int .u64 z.seq, .int .u8 z.kind, .int .u32 z.hi, .int .u32 z.hg, .str z.name, .int .u32 z.ti, .int .u32 z.tg, .str z.toName, .int .u32 z.off, .int .u32 z.size, z.dv]) (o := 6) (by assumption) (by assumption) hq0 (gr.get hq0) (by simp only [List.length_append, beL_len, encB_len]; omega) rfl qo) ?_; rintro _ _ ⟨gr, f2, k2⟩; have kk := kk.trans k2)
      | (refine Runs.call (text_out (h0 := h0) (cs := [.int .u8 z.client, .int .u32 z.inc, .int .u64 z.seq, .int .u8 z.kind, .int .u32 z.hi, .int .u32 z.hg, .str z.name, .int .u32 z.ti, .int .u32 z.tg, .str z.toName, .int .u32 z.off, .int .u32 z.size, z.dv]) (o := 9) (by assumption) (by assumption) hq0 (gr.get hq0) (by simp only [List.length_append, beL_len, encB_len]; omega) rfl qo) ?_; rintro _ _ ⟨gr, f2, k2⟩; have kk := kk.trans k2)
      | (refine Runs.call (handle_out (h0 := h0) (cs := [.int .u8 z.client, .int .u32 z.inc, .int .u64 z.seq, .int .u8 z.kind, .int .u32 z.hi, .int .u32 z.hg, .str z.name, .int .u32 z.ti, .int .u32 z.tg, .str z.toName, .int .u32 z.off, .int .u32 z.size, z.dv]) (o := 7) (by assumption) (by assumption) hq0 (by simp only [List.length_append, beL_len, encB_len]; omega) rfl rfl o7 o8) ?_; rintro _ _ ⟨gr, f2, k2⟩; have kk := kk.trans k2)
      | (refine Runs.call (octets_out (h0 := h0) (cs := [.int .u8 z.client, .int .u32 z.inc, .int .u64 z.seq, .int .u8 z.kind, .int .u32 z.hi, .int .u32 z.hg, .str z.name, .int .u32 z.ti, .int .u32 z.tg, .str z.toName, .int .u32 z.off, .int .u32 z.size, z.dv]) (o := 12) (by assumption) (by assumption) (gr.get hq0) (by simp only [List.length_append, beL_len, encB_len]; omega) rfl (Wr.entry (by assumption) (by assumption) hd) qo) ?_; rintro _ _ ⟨gr, f2, k2⟩; have kk := kk.trans k2)
      | fail); all_goals ((try (have gn := gr.1; try simp only [nx_alloc, nx_set] at gn)); (try (have an := ha.num; try simp only [nx_alloc, nx_set, own_sl, own_nil] at an)); (try (have on := hO.num; try simp only [nx_alloc, nx_set] at on)); (try (have kn := hk.1; try simp only [nx_alloc, nx_set] at kn)); try have hB := hO.at)))
  all_goals try (first
    | (refine hK _ _ ?_; (first | exact ⟨by unfold kindC; rw [decide_eq_false qo], g, by unfold tailC; rw [if_neg qo, List.append_nil]; exact f, Wf.of (Grow.refl _)⟩ | (refine ⟨by unfold kindC; rw [decide_eq_true qo], gr, ?_, kk⟩; unfold tailC tailK; rw [if_pos qo]; (repeat (first | rw [if_pos qo] | rw [if_neg qo])); (try simp only [← List.append_assoc, List.append_nil]); assumption) | fail); done)
    | fail)
theorem tailC_len (z : Cl) (h1 : padN z.name.length ≤ 3) (h2 : padN z.toName.length ≤ 3) (h3 : padN z.data.length ≤ 3) : (tailC z).length ≤ 100 + z.name.length + z.toName.length + z.data.length := by
  unfold tailC tailK
  repeat' split
  all_goals (simp only [List.length_append, beL_len, encB_len, List.length_nil]; omega)
theorem t30 : tab 30 = some ⟨33, [.tmp 2, .tmp 3], b30⟩ := rfl
theorem c_bare (z : Cl) {h : Heap} (hz : ClAt h z) (ho : ClOk z) : Runs (xcall X1 tab (.fn 30) [.agg [.int .u8 z.client, .int .u32 z.inc, .int .u64 z.seq, .int .u8 z.kind, .int .u32 z.hi, .int .u32 z.hg, .str z.name, .int .u32 z.ti, .int .u32 z.tg, .str z.toName, .int .u32 z.off, .int .u32 z.size, z.dv]] h) fun v h' => Grow h h' ∧ ∃ w, v = .tuple [w, .bool (kindC z.kind)] ∧ NewBytes h h' w (encC z) := by
  refine Runs.intro fun K hK => ?_
  have hz0 := hz
  have ho0 := ho
  obtain ⟨o1, o2, o3, o4, o5, o6, o7, o8, o9, o10⟩ := ho
  obtain ⟨hd, hyd, hyn, hyt, ld, ln, lt⟩ := hz
  have hfd := BytesAt.flat' hd
  have hcd := cells_of hfd
  have pn1 := padN_le z.name.length
  have pn2 := padN_le z.toName.length
  have pn3 := padN_le z.data.length
  rw [w_fn rfl t30 (Nat.le_of_ble_eq_true rfl)]
  delta b30
  repeat' (first
    | simp (disch := first | exact qd | fail) only [WB, ↓WP, ↓WL, WR, WC, if_true, if_false, ite_true, ite_false, aop, ev, evs, readsA, List.replicate, numF, unA, resA, tupA, loadA, storeA, splice, fillA, kindsOk, plainEq, ↓reduceIte, Nat.reduceEqDiff, Nat.reduceLT, Int.reduceToNat, Int.reduceBEq, Int.reduceBNe, Nat.reduceAdd, Nat.reduceMul, Nat.reduceLeDiff, Int.reduceLT, Int.reduceSub, Int.reduceAdd, hfd, hcd]
    | ((first | refine atC ?_ ?_ | refine atG ?_ ?_ | refine atH ?_ ?_ | refine atP ?_ ?_) <;> intro hc <;> (try rw [hc]) <;> (try simp only [BD] at hc) <;> try (exfalso; omega))
    | ((first
      | (refine Runs.call (w_Number (h0 := (h.alloc (.cells [.int .u8 z.client, .int .u32 z.inc, .int .u64 z.seq, .int .u8 z.kind, .int .u32 z.hi, .int .u32 z.hg, .str z.name, .int .u32 z.ti, .int .u32 z.tg, .str z.toName, .int .u32 z.off, .int .u32 z.size, z.dv] false))) (n := z.client) qg (Wr.new (Nat.le_refl _)) o1.1 qo (by simp)) ?_; rintro _ _ ⟨gr, f2, k2⟩)
      | (refine Runs.call (w_Number (h0 := (h.alloc (.cells [.int .u8 z.client, .int .u32 z.inc, .int .u64 z.seq, .int .u8 z.kind, .int .u32 z.hi, .int .u32 z.hg, .str z.name, .int .u32 z.ti, .int .u32 z.tg, .str z.toName, .int .u32 z.off, .int .u32 z.size, z.dv] false))) (n := z.inc) qg (by first | assumption | exact Wr.new (Nat.le_refl _)) o2.1 o2.2 (by simp only [List.length_append, List.length_nil, beL_len]; omega)) ?_; rintro _ _ ⟨gr, f2, k2⟩; have gq := gr)
      | (refine Runs.call (w_Great (h0 := (h.alloc (.cells [.int .u8 z.client, .int .u32 z.inc, .int .u64 z.seq, .int .u8 z.kind, .int .u32 z.hi, .int .u32 z.hg, .str z.name, .int .u32 z.ti, .int .u32 z.tg, .str z.toName, .int .u32 z.off, .int .u32 z.size, z.dv] false))) (n := z.seq) qg (by first | assumption | exact Wr.new (Nat.le_refl _)) o3.1 o3.2 (by simp only [List.length_append, List.length_nil, beL_len]; omega)) ?_; rintro _ _ ⟨gr, f2, k2⟩; have gq := gr)
      | (refine Runs.call (w_Number (h0 := (h.alloc (.cells [.int .u8 z.client, .int .u32 z.inc, .int .u64 z.seq, .int .u8 z.kind, .int .u32 z.hi, .int .u32 z.hg, .str z.name, .int .u32 z.ti, .int .u32 z.tg, .str z.toName, .int .u32 z.off, .int .u32 z.size, z.dv] false))) (n := z.kind) qg (by assumption) o4.1 qo (by simp only [List.length_append, List.length_nil, beL_len]; omega)) ?_; rintro _ _ ⟨gr, f2, k2⟩)
      | (refine Runs.call (fields_out z (h0 := (h.alloc (.cells [.int .u8 z.client, .int .u32 z.inc, .int .u64 z.seq, .int .u8 z.kind, .int .u32 z.hi, .int .u32 z.hg, .str z.name, .int .u32 z.ti, .int .u32 z.tg, .str z.toName, .int .u32 z.off, .int .u32 z.size, z.dv] false))) (q := h.next) (by assumption) (by assumption) (ga_new rfl) (hz0.grow (Grow.alloc _ _)) ho0 (by simp only [List.length_append, List.length_nil, beL_len]; omega)) ?_; rintro _ H8 ⟨rfl, gr, f8, k8⟩)
      | (refine Runs.call (w_Bare f8 (by have := tailC_len z pn1 pn2 pn3; simp only [List.length_append, List.length_nil, beL_len]; omega)) ?_; rintro w9 H9 ⟨gr9, hN9⟩)
      | fail); all_goals ((try (have gn := gr.1; try simp only [nx_alloc, nx_set] at gn)); (try (have an := ha.num; try simp only [nx_alloc, nx_set, own_sl, own_nil] at an)); (try (have on := hO.num; try simp only [nx_alloc, nx_set] at on)); (try (have kn := hk.1; try simp only [nx_alloc, nx_set] at kn)); try have hB := hO.at)))
  all_goals try (first
    | (refine hK _ _ ?_; exact ⟨(Grow.allocR (Grow.refl _) _).trans (gr.trans gr9), w9, rfl, NewBytes.le hN9 (Nat.le_of_lt (by have := gr.1; simp only [nx_alloc] at this; omega))⟩; done)
    | fail)
end Go.Proofs.YtpoccinfeekdhaaDoor.Ya
