/-
  Calls: the program.
-/
import Derived.Test.YtcfmccafbknleaaDoorYaCaP
import Derived.Test.YtcfmccafbknleaaDoorYbL
namespace Go.Proofs.YtcfmccafbknleaaDoor.Ya
open Go.Ya Go.Ya.Na
set_option linter.unusedVariables false
set_option linter.unusedSimpArgs false
set_option maxRecDepth 100000
set_option maxHeartbeats 8000000
theorem beL_by (n : Int) : ∀ k, Bytes (beL n k)
  | 0 => fun c h => by cases h
  | k + 1 => fun c h => by
    rcases List.mem_cons.1 h with rfl | h
    · unfold beB; omega
    · exact beL_by n k c h
theorem bytes_app {a b : List Int} (ha : Bytes a) (hb : Bytes b) : Bytes (a ++ b) := fun c hc => (List.mem_append.1 hc).elim (ha c) (hb c)
theorem encB_by {xs : List Int} (h : Bytes xs) : Bytes (encB xs) := bytes_app (bytes_app (beL_by _ _) h) fun c hc => by
  rw [List.mem_replicate] at hc
  omega
theorem encC_by {H : Heap} {z : Cl} (hz : ClAt H z) : Bytes (encC z) := by
  obtain ⟨hd, hyd, hyn, hyt, ld, ln, lt⟩ := hz
  have n := fun a b => beL_by a b
  have h1 := encB_by hyd
  have h2 := encB_by hyn
  have h3 := encB_by hyt
  rw [encC_eq]
  refine bytes_app (bytes_app (n _ _) (bytes_app (n _ _) (bytes_app (n _ _) (n _ _)))) ?_
  unfold tailC tailK
  repeat' split
  all_goals (repeat' (first | exact n _ _ | assumption | refine bytes_app ?_ ?_ | exact fun c h => nomatch h))
theorem if_s1 {p : Prop} [Decidable p] : (if p then some true else some false) = some (decide p) := by split <;> simp_all
theorem if_s2 {p q : Prop} [Decidable p] [Decidable q] : (if p then some (decide q) else some false) = some (decide (p ∧ q)) := by split <;> simp_all
theorem sameC_no {a c : Cl} (h : ¬ a.data = c.data) : sameC a c = false := decide_eq_false fun e => h e.2.2.2.2.2.2.2.2.2.2
theorem ClAt.cells {H : Heap} {z : Cl} (a : ClAt H z) : BytesAt H z.dv z.data := a.1
def errC (z : Cl) : Int := if mayC z = true then 0 else 2
def putC (z : Cl) : List Int := if mayC z = true then encC z else []
theorem mayC_of {z : Cl} (h1 : z.client < 4 ∧ 0 < z.inc ∧ 0 < z.seq) (h2 : wholeC z = true) (h3 : kindC z.kind = true) {t : Bool} (h4 : sameC (onlyC z) z = t) : mayC z = t := by
  unfold mayC
  rw [decide_eq_true h1, h2, h3, h4]; rfl
theorem mayC_no {z : Cl} (h : (¬ (z.client < 4 ∧ 0 < z.inc ∧ 0 < z.seq)) ∨ wholeC z = false ∨ kindC z.kind = false) : mayC z = false := by
  unfold mayC
  rcases h with h | h | h
  · rw [decide_eq_false h]; rfl
  · rw [h]; simp
  · rw [h]; simp
theorem mayC_b {z : Cl} {t : Bool} (x : Asm (mayC z = t)) : mayC z = t := x.out
theorem eq_head (a c : Cl) (hd : Asm (a.data = c.data)) : plainEq [.int .u8 a.client, .int .u32 a.inc, .int .u64 a.seq, .int .u8 a.kind, .int .u32 a.hi, .int .u32 a.hg, .int .u32 a.ti, .int .u32 a.tg, .str a.name, .str a.toName, .int .u32 a.off, .int .u32 a.size] [.int .u8 c.client, .int .u32 c.inc, .int .u64 c.seq, .int .u8 c.kind, .int .u32 c.hi, .int .u32 c.hg, .int .u32 c.ti, .int .u32 c.tg, .str c.name, .str c.toName, .int .u32 c.off, .int .u32 c.size] = some (sameC a c) := by
  have hd := hd.out
  simp only [plainEq, if_true]
  unfold sameC
  repeat' split
  all_goals (congr 1; symm; first | (refine decide_eq_true ?_; (repeat' apply And.intro) <;> assumption) | (refine decide_eq_false fun e => ?_; obtain ⟨e1, e2, e3, e4, ⟨e5, e6⟩, e7, ⟨e8, e9⟩, e10, e11, e12, e13⟩ := e; contradiction))
theorem t31 : tab 31 = some ⟨56, [.tmp 2], b31⟩ := rfl
theorem k_whole (z : Cl) {h : Heap} (hz : ClAt h z) (ho : ClOk z) : Runs (xcall X1 tab (.fn 31) [.agg [.int .u8 z.client, .int .u32 z.inc, .int .u64 z.seq, .int .u8 z.kind, .int .u32 z.hi, .int .u32 z.hg, .str z.name, .int .u32 z.ti, .int .u32 z.tg, .str z.toName, .int .u32 z.off, .int .u32 z.size, z.dv]] h) fun v h' => v = .bool (wholeC z) ∧ Grow h h' := by
  refine Runs.intro fun K hK => ?_
  have hz0 := hz
  have ho0 := ho
  obtain ⟨o1, o2, o3, o4, o5, o6, o7, o8, o9, o10⟩ := id ho
  obtain ⟨hd, hyd, hyn, hyt, ld, ln, lt⟩ := id hz
  have hfd := BytesAt.flat' hd
  have hcd := cells_of hfd
  rw [w_fn rfl t31 (Nat.le_of_ble_eq_true rfl)]
  delta b31
  repeat' (first
    | simp (disch := first | exact qd | fail) only [WB, ↓WP, ↓WL, WR, WC, if_true, if_false, ite_true, ite_false, aop, ev, evs, readsA, List.replicate, numF, unA, resA, tupA, loadA, storeA, splice, fillA, kindsOk, plainEq, ↓reduceIte, Nat.reduceEqDiff, Nat.reduceLT, Int.reduceToNat, Int.reduceBEq, Int.reduceBNe, Nat.reduceAdd, Nat.reduceMul, Nat.reduceLeDiff, Int.reduceLT, Int.reduceSub, Int.reduceAdd, hfd, hcd]
    | ((first | refine atC ?_ ?_ | refine atG ?_ ?_ | refine atH ?_ ?_ | refine atP ?_ ?_) <;> intro hc <;> (try rw [hc]) <;> (try simp only [BD] at hc) <;> try (exfalso; omega))
    | ((first
      | (refine Runs.call (name_Is z.name hyn _) ?_; rintro _ _ ⟨rfl, gr⟩)
      | (refine Runs.call (name_Is z.toName hyt _) ?_; rintro _ _ ⟨rfl, gr⟩)
      | fail); all_goals ((try (have gn := gr.1; try simp only [nx_alloc, nx_set] at gn)); (try (have an := ha.num; try simp only [nx_alloc, nx_set, own_sl, own_nil] at an)); (try (have on := hO.num; try simp only [nx_alloc, nx_set] at on)); (try (have kn := hk.1; try simp only [nx_alloc, nx_set] at kn)); try have hB := hO.at)))
  all_goals try (first
    | (refine hK _ _ ?_; (refine ⟨?_, qg⟩; congr 1; (unfold wholeC named; (repeat (first | rw [if_pos qo] | rw [if_neg qo]))); (first | done | rfl | (simp_all; done) | (simp_all; omega) | fail)); done)
    | fail)
theorem t35 : tab 35 = some ⟨24, [.cell 2 true 12], b35⟩ := rfl
theorem k_head (z : Cl) {h : Heap} (hz : BytesAt h z.dv z.data) : Runs (xcall X1 tab (.fn 35) [.agg [.int .u8 z.client, .int .u32 z.inc, .int .u64 z.seq, .int .u8 z.kind, .int .u32 z.hi, .int .u32 z.hg, .str z.name, .int .u32 z.ti, .int .u32 z.tg, .str z.toName, .int .u32 z.off, .int .u32 z.size, z.dv]] h) fun v h' => v = .agg [.int .u8 z.client, .int .u32 z.inc, .int .u64 z.seq, .int .u8 z.kind, .int .u32 z.hi, .int .u32 z.hg, .int .u32 z.ti, .int .u32 z.tg, .str z.name, .str z.toName, .int .u32 z.off, .int .u32 z.size] ∧ Grow h h' := by
  refine Runs.intro fun K hK => ?_
  have hfd := BytesAt.flat' hz
  have hcd := cells_of hfd
  rw [w_fn rfl t35 (Nat.le_of_ble_eq_true rfl)]
  delta b35
  repeat' (first
    | simp (disch := first | exact qd | fail) only [WB, ↓WP, ↓WL, WR, WC, if_true, if_false, ite_true, ite_false, aop, ev, evs, readsA, List.replicate, numF, unA, resA, tupA, loadA, storeA, splice, fillA, kindsOk, plainEq, ↓reduceIte, Nat.reduceEqDiff, Nat.reduceLT, Int.reduceToNat, Int.reduceBEq, Int.reduceBNe, Nat.reduceAdd, Nat.reduceMul, Nat.reduceLeDiff, Int.reduceLT, Int.reduceSub, Int.reduceAdd, hfd, hcd]
    | ((first | refine atC ?_ ?_ | refine atG ?_ ?_ | refine atH ?_ ?_ | refine atP ?_ ?_) <;> intro hc <;> (try rw [hc]) <;> (try simp only [BD] at hc) <;> try (exfalso; omega)))
  all_goals try (first
    | (refine hK _ _ ?_; exact ⟨rfl, qg⟩; done)
    | fail)
theorem t34 : tab 34 = some ⟨10, [.tmp 4], b34⟩ := rfl
theorem b_Equal {a b : AV} {x y : List Int} {h : Heap} (ha : BytesAt h a x) (hb : BytesAt h b y) : Runs (xcall X1 tab (.fn 34) [a, b] h) fun v h' => v = .bool (x == y) ∧ h = h' := by
  refine Runs.intro fun K hK => ?_
  rw [w_fn rfl t34 (Nat.le_of_ble_eq_true rfl)]
  delta b34
  repeat' (first
    | simp (disch := first | exact qd | fail) only [WB, ↓WP, ↓WL, WR, WC, if_true, if_false, ite_true, ite_false, aop, ev, evs, readsA, List.replicate, numF, unA, resA, tupA, loadA, storeA, splice, fillA, kindsOk, plainEq, ↓reduceIte, Nat.reduceEqDiff, Nat.reduceLT, Int.reduceToNat, Int.reduceBEq, Int.reduceBNe, Nat.reduceAdd, Nat.reduceMul, Nat.reduceLeDiff, Int.reduceLT, Int.reduceSub, Int.reduceAdd]
    | ((first | refine atC ?_ ?_ | refine atG ?_ ?_ | refine atH ?_ ?_ | refine atP ?_ ?_) <;> intro hc <;> (try rw [hc]) <;> (try simp only [BD] at hc) <;> try (exfalso; omega)))
  all_goals try (first
    | (refine hK _ _ ?_; exact ⟨rfl, rfl⟩; done)
    | fail)
theorem t15 : tab 15 = some ⟨19, [.tmp 4], b15⟩ := rfl
theorem k_Same (a c : Cl) {h : Heap} (ha : BytesAt h a.dv a.data) (hc0 : BytesAt h c.dv c.data) : Runs (xcall X1 tab (.fn 15) [.agg [.int .u8 a.client, .int .u32 a.inc, .int .u64 a.seq, .int .u8 a.kind, .int .u32 a.hi, .int .u32 a.hg, .str a.name, .int .u32 a.ti, .int .u32 a.tg, .str a.toName, .int .u32 a.off, .int .u32 a.size, a.dv], .agg [.int .u8 c.client, .int .u32 c.inc, .int .u64 c.seq, .int .u8 c.kind, .int .u32 c.hi, .int .u32 c.hg, .str c.name, .int .u32 c.ti, .int .u32 c.tg, .str c.toName, .int .u32 c.off, .int .u32 c.size, c.dv]] h) fun v h' => v = .bool (sameC a c) ∧ Grow h h' := by
  refine Runs.intro fun K hK => ?_
  have hfd := BytesAt.flat' ha
  have hcd := cells_of hfd
  have hfd2 := BytesAt.flat' hc0
  have hcd2 := cells_of hfd2
  rw [w_fn rfl t15 (Nat.le_of_ble_eq_true rfl)]
  delta b15
  repeat' (first
    | simp (disch := first | exact qd | fail) only [WB, ↓WP, ↓WL, WR, WC, if_true, if_false, ite_true, ite_false, aop, ev, evs, readsA, List.replicate, numF, unA, resA, tupA, loadA, storeA, splice, fillA, kindsOk, plainEq, ↓reduceIte, Nat.reduceEqDiff, Nat.reduceLT, Int.reduceToNat, Int.reduceBEq, Int.reduceBNe, Nat.reduceAdd, Nat.reduceMul, Nat.reduceLeDiff, Int.reduceLT, Int.reduceSub, Int.reduceAdd, hfd, hcd, hfd2, hcd2, ↓eq_head, Option.map_some]
    | ((first | refine atC ?_ ?_ | refine atG ?_ ?_ | refine atH ?_ ?_ | refine atP ?_ ?_) <;> intro hc <;> (try rw [hc]) <;> (try simp only [BD] at hc) <;> try (exfalso; omega))
    | ((first
      | (refine Runs.call (b_Equal (ha.grow qg) (hc0.grow qg)) ?_; rintro _ _ ⟨rfl, rfl⟩)
      | (refine Runs.call (k_head a (ha.grow qg)) ?_; rintro _ _ ⟨rfl, gr⟩)
      | (refine Runs.call (k_head c (hc0.grow qg)) ?_; rintro _ _ ⟨rfl, gr⟩)
      | fail); all_goals ((try (have gn := gr.1; try simp only [nx_alloc, nx_set] at gn)); (try (have an := ha.num; try simp only [nx_alloc, nx_set, own_sl, own_nil] at an)); (try (have on := hO.num; try simp only [nx_alloc, nx_set] at on)); (try (have kn := hk.1; try simp only [nx_alloc, nx_set] at kn)); try have hB := hO.at)))
  all_goals try (first
    | (refine hK _ _ ?_; (first | exact ⟨by rw [sameC_no (by assumption)], qg⟩ | exact ⟨rfl, qg⟩ | fail); done)
    | fail)
theorem t11 : tab 11 = some ⟨46, [.tmp 2], b11⟩ := rfl
theorem k_May (z : Cl) {h : Heap} (hz : ClAt h z) (ho : ClOk z) : Runs (xcall X1 tab (.fn 11) [.agg [.int .u8 z.client, .int .u32 z.inc, .int .u64 z.seq, .int .u8 z.kind, .int .u32 z.hi, .int .u32 z.hg, .str z.name, .int .u32 z.ti, .int .u32 z.tg, .str z.toName, .int .u32 z.off, .int .u32 z.size, z.dv]] h) fun v h' => v = .bool (mayC z) ∧ Grow h h' := by
  refine Runs.intro fun K hK => ?_
  have hz0 := hz
  have ho0 := ho
  obtain ⟨o1, o2, o3, o4, o5, o6, o7, o8, o9, o10⟩ := id ho
  obtain ⟨hd, hyd, hyn, hyt, ld, ln, lt⟩ := id hz
  have hfd := BytesAt.flat' hd
  have hcd := cells_of hfd
  have hyE := encC_by hz
  rw [w_fn rfl t11 (Nat.le_of_ble_eq_true rfl)]
  delta b11
  repeat' (first
    | simp (disch := first | exact qd | fail) only [WB, ↓WP, ↓WL, WR, WC, if_true, if_false, ite_true, ite_false, aop, ev, evs, readsA, List.replicate, numF, unA, resA, tupA, loadA, storeA, splice, fillA, kindsOk, plainEq, ↓reduceIte, Nat.reduceEqDiff, Nat.reduceLT, Int.reduceToNat, Int.reduceBEq, Int.reduceBNe, Nat.reduceAdd, Nat.reduceMul, Nat.reduceLeDiff, Int.reduceLT, Int.reduceSub, Int.reduceAdd, hfd, hcd, ne_eq]
    | ((first | refine atC ?_ ?_ | refine atG ?_ ?_ | refine atH ?_ ?_ | refine atP ?_ ?_) <;> intro hc <;> (try rw [hc]) <;> (try simp only [BD] at hc) <;> try (exfalso; omega))
    | ((first
      | (refine Runs.call (k_whole z (hz0.grow qg) ho0) ?_; rintro _ H1 ⟨rfl, gr⟩)
      | (refine Runs.call (c_bare z (hz0.grow qg) ho0) ?_; rintro _ H2 ⟨gr, w, rfl, hw⟩; have hwa := hw.at; have hle := encC_le (z := z))
      | (refine Runs.call (c_read (hwa.grow qg) hyE (by have := hle (by assumption) (by assumption); omega)) ?_; rintro _ H3 ⟨gr, z3, rfl, e3, hn3⟩; have hb3 := hn3.at; have hfd3 := BytesAt.flat' hb3; have hcd3 := cells_of hfd3; have h30 := read_enc ho0 (by assumption) (by assumption) []; rw [List.append_nil] at h30; have h3E : readE (encC z) = 0 := h30.2.1; have h3s := (e3 h3E).trans h30.1)
      | (refine Runs.call (k_Same z3 z (hb3.grow qg) (hd.grow qg)) ?_; rintro _ _ ⟨rfl, gr⟩)
      | fail); all_goals ((try (have gn := gr.1; try simp only [nx_alloc, nx_set] at gn)); (try (have an := ha.num; try simp only [nx_alloc, nx_set, own_sl, own_nil] at an)); (try (have on := hO.num; try simp only [nx_alloc, nx_set] at on)); (try (have kn := hk.1; try simp only [nx_alloc, nx_set] at kn)); try have hB := hO.at)))
  all_goals try (first
    | (refine hK _ _ ?_; (first | exact ⟨by rw [mayC_no (.inl qo)], qg⟩ | exact ⟨by rw [mayC_no (.inr (.inl (by assumption)))], qg⟩ | exact ⟨by rw [mayC_no (.inr (.inr (by assumption)))], qg⟩ | exact ⟨by rw [mayC_of qo (by assumption) (by assumption) (sameC_en h3s.symm rfl)], qg⟩ | fail); done)
    | fail)
theorem putC_no {z : Cl} (h : mayC z = false) : errC z = 2 ∧ putC z = [] := ⟨if_neg (by rw [h]; decide), if_neg (by rw [h]; decide)⟩
theorem putC_is {z : Cl} (h : mayC z = true) : errC z = 0 ∧ putC z = encC z := ⟨if_pos h, if_pos h⟩
theorem ok4 {s : List Int × Int} (hy : Bytes s.1) : 0 ≤ (rdN 4 s).1 ∧ (rdN 4 s).1 ≤ 4294967295 := by
  have := rdN_lt (k := 4) hy
  rw [p4] at this; omega
theorem nil_by : Bytes [] := fun c h => nomatch h
theorem fld_ok {z : Cl} {s : List Int × Int} {dv : AV} (ho : ClOk z) (hy : Bytes s.1) (h : Bytes z.data ∧ Bytes z.name ∧ Bytes z.toName ∧ z.data.length ≤ 4096 ∧ z.name.length ≤ 4096 ∧ z.toName.length ≤ 4096) : ClOk (fldZ z s dv) ∧ Bytes (fldZ z s dv).data ∧ Bytes (fldZ z s dv).name ∧ Bytes (fldZ z s dv).toName ∧ (fldZ z s dv).data.length ≤ 4096 ∧ (fldZ z s dv).name.length ≤ 4096 ∧ (fldZ z s dv).toName.length ≤ 4096 := by
  obtain ⟨o1, o2, o3, o4, o5, o6, o7, o8, o9, o10⟩ := ho
  obtain ⟨d1, d2, d3, d4, d5, d6⟩ := h
  have a1 := ok4 hy
  have y1 := rdN_by (k := 4) hy
  have a2 := ok4 y1
  have y2 := rdN_by (k := 4) y1
  have a3 := ok4 y2
  have y3 := rdN_by (k := 4) y2
  have a4 := ok4 y3
  have y4 := (rdB_by (most := 4096) y2).1
  have a5 := ok4 y4
  have y5 := rdN_by (k := 4) y4
  have a6 := ok4 y5
  have y6 := rdN_by (k := 4) y5
  have b1 := (rdB_by (most := 4096) y2).2
  have b2 := (rdB_by (most := 4096) y3).2
  have b3 := (rdB_by (most := 4096) y6).2
  unfold fldZ ClOk
  repeat' split
  all_goals (refine ⟨⟨?_, ?_, ?_, ?_, ?_, ?_, ?_, ?_, ?_, ?_⟩, ?_, ?_, ?_, ?_, ?_, ?_⟩ <;> first | assumption | exact rdB_len)
theorem readZ_ok {bs : List Int} (hy : Bytes bs) : ClOk (readZ bs) ∧ Bytes (readZ bs).data ∧ Bytes (readZ bs).name ∧ Bytes (readZ bs).toName ∧ (readZ bs).data.length ≤ 4096 ∧ (readZ bs).name.length ≤ 4096 ∧ (readZ bs).toName.length ≤ 4096 := by
  have y0 : Bytes (bs, (0 : Int)).1 := hy
  have y1 := rdN_by (k := 4) y0
  have y2 := rdN_by (k := 4) y1
  have y3 := rdN_by (k := 8) y2
  have y4 := rdN_by (k := 4) y3
  have a1 := ok4 y0
  have a2 := ok4 y1
  have a3 := rdN_lt (k := 8) y2
  rw [p8] at a3
  have a4 := ok4 y3
  refine fld_ok ?_ y4 ⟨nil_by, nil_by, nil_by, Nat.zero_le _, Nat.zero_le _, Nat.zero_le _⟩
  unfold hdZ ClOk zC
  dsimp only
  refine ⟨by omega, a2, by omega, by omega, by omega, by omega, by omega, by omega, by omega, by omega⟩
theorem z_of {z : Cl} {bs : List Int} (hy : Bytes bs) (e : z.en = (readZ bs).en) : ClOk z ∧ Bytes z.data ∧ Bytes z.name ∧ Bytes z.toName ∧ z.data.length ≤ 4096 ∧ z.name.length ≤ 4096 ∧ z.toName.length ≤ 4096 := by
  show ClOk z.en ∧ Bytes z.en.data ∧ Bytes z.en.name ∧ Bytes z.en.toName ∧ z.en.data.length ≤ 4096 ∧ z.en.name.length ≤ 4096 ∧ z.en.toName.length ≤ 4096
  rw [e]
  exact readZ_ok hy
theorem zC_at (h : Heap) : ClAt h zC := ⟨.inl ⟨rfl, rfl⟩, nil_by, nil_by, nil_by, Nat.zero_le _, Nat.zero_le _, Nat.zero_le _⟩
theorem zC_ok : ClOk zC := by unfold ClOk zC; decide
def GotR (h h' : Heap) (bs : List Int) (v : AV) : Prop := ∃ z, v = .tuple [.agg [.int .u8 z.client, .int .u32 z.inc, .int .u64 z.seq, .int .u8 z.kind, .int .u32 z.hi, .int .u32 z.hg, .str z.name, .int .u32 z.ti, .int .u32 z.tg, .str z.toName, .int .u32 z.off, .int .u32 z.size, z.dv], .int .i64 (getE bs)] ∧ z.en = getP bs ∧ NBt h.next h'.next h' z.dv z.data ∧ ClOk z ∧ ClAt h' z
theorem got_bad {h h' : Heap} {bs : List Int} {e : Int} (he : getE bs = e ∧ ¬ e = 0) : GotR h h' bs (.tuple [.agg [.int .u8 0, .int .u32 0, .int .u64 0, .int .u8 0, .int .u32 0, .int .u32 0, .str [], .int .u32 0, .int .u32 0, .str [], .int .u32 0, .int .u32 0, .nilsl], .int .i64 e]) := ⟨zC, by rw [he.1]; rfl, by unfold getP; rw [he.1, if_neg he.2]; rfl, .inl ⟨rfl, rfl⟩, zC_ok, zC_at _⟩
theorem got_ok {h h' : Heap} {bs : List Int} {z : Cl} (hy : Bytes bs) (he : getE bs = 0) (e : z.en = (readZ bs).en) (hn : NBt h.next h'.next h' z.dv z.data) : GotR h h' bs (.tuple [.agg [.int .u8 z.client, .int .u32 z.inc, .int .u64 z.seq, .int .u8 z.kind, .int .u32 z.hi, .int .u32 z.hg, .str z.name, .int .u32 z.ti, .int .u32 z.tg, .str z.toName, .int .u32 z.off, .int .u32 z.size, z.dv], .int .i64 0]) := by
  obtain ⟨a, b, c, d, e1, e2, e3⟩ := z_of hy e
  exact ⟨z, by rw [he], by unfold getP; rw [if_pos he]; exact e, hn, a, hn.at, b, c, d, by omega, by omega, by omega⟩
theorem hn9_of {lo hi lo2 hi2 : Nat} {H H' : Heap} {v : AV} {bs : List Int} (n : NBt lo hi H v bs) (k : ∀ j, lo ≤ j → j < hi → H'.get j = H.get j) (h1 : lo2 ≤ lo) (h2 : hi ≤ hi2) : NBt lo2 hi2 H' v bs := by
  rcases n with e | ⟨id, ex, e, e1, e2, e3, e4⟩
  · exact .inl e
  · exact .inr ⟨id, ex, e, by omega, by omega, (k id e1 e2).trans e3, e4.imp (fun q => q) fun q => ⟨by omega, by rw [Heap.byteAt_of (k (id + 1) qo q.1)]; exact q.2⟩⟩
theorem getE_long {bs : List Int} (h : 4096 < bs.length) : getE bs = 3 := if_pos h
theorem getE_err {bs : List Int} (h : ¬ 4096 < bs.length) (h1 : ¬ readE bs = 0) : getE bs = readE bs := by unfold getE; rw [if_neg h, if_pos h1]
theorem getE_no {bs : List Int} (h : ¬ 4096 < bs.length) (h1 : readE bs = 0) (h2 : ¬ ((rdN 4 (bs, 0)).1 < 4 ∧ mayC (readZ bs) = true)) : getE bs = 5 := by unfold getE; rw [if_neg h, if_neg (by rw [h1]; decide), if_neg h2]
theorem getE_ok {bs : List Int} (h : ¬ 4096 < bs.length) (h1 : readE bs = 0) (h2 : (rdN 4 (bs, 0)).1 < 4) (h3 : mayC (readZ bs) = true) : getE bs = 0 := by unfold getE; rw [if_neg h, if_neg (by rw [h1]; decide), if_pos ⟨h2, h3⟩]
theorem t7 : tab 7 = some ⟨15, [.tmp 2, .tmp 3], b7⟩ := rfl
theorem k_Put (z : Cl) {h : Heap} (hz : ClAt h z) (ho : ClOk z) : Runs (xcall X1 tab (.fn 7) [.agg [.int .u8 z.client, .int .u32 z.inc, .int .u64 z.seq, .int .u8 z.kind, .int .u32 z.hi, .int .u32 z.hg, .str z.name, .int .u32 z.ti, .int .u32 z.tg, .str z.toName, .int .u32 z.off, .int .u32 z.size, z.dv]] h) fun v h' => Grow h h' ∧ ∃ q, v = .tuple [q, .int .i64 (errC z)] ∧ NewBytes h h' q (putC z) := by
  refine Runs.intro fun K hK => ?_
  have hz0 := hz
  have ho0 := ho
  obtain ⟨o1, o2, o3, o4, o5, o6, o7, o8, o9, o10⟩ := id ho
  obtain ⟨hd, hyd, hyn, hyt, ld, ln, lt⟩ := id hz
  have hfd := BytesAt.flat' hd
  have hcd := cells_of hfd
  rw [w_fn rfl t7 (Nat.le_of_ble_eq_true rfl)]
  delta b7
  repeat' (first
    | simp (disch := first | exact qd | fail) only [WB, ↓WP, ↓WL, WR, WC, if_true, if_false, ite_true, ite_false, aop, ev, evs, readsA, List.replicate, numF, unA, resA, tupA, loadA, storeA, splice, fillA, kindsOk, plainEq, ↓reduceIte, Nat.reduceEqDiff, Nat.reduceLT, Int.reduceToNat, Int.reduceBEq, Int.reduceBNe, Nat.reduceAdd, Nat.reduceMul, Nat.reduceLeDiff, Int.reduceLT, Int.reduceSub, Int.reduceAdd, hfd, hcd]
    | ((first | refine atC ?_ ?_ | refine atG ?_ ?_ | refine atH ?_ ?_ | refine atP ?_ ?_) <;> intro hc <;> (try rw [hc]) <;> (try simp only [BD] at hc) <;> try (exfalso; omega))
    | ((first
      | (refine Runs.call (k_May z (hz0.grow qg) ho0) ?_; rintro _ H1 ⟨rfl, gr⟩)
      | (refine Runs.call (c_bare z (hz0.grow qg) ho0) ?_; rintro _ H2 ⟨gr, w, rfl, hw⟩; have hwa := hw.at; have hfw := BytesAt.flat' hwa; have hcw := cells_of hfw)
      | fail); all_goals ((try (have gn := gr.1; try simp only [nx_alloc, nx_set] at gn)); (try (have an := ha.num; try simp only [nx_alloc, nx_set, own_sl, own_nil] at an)); (try (have on := hO.num; try simp only [nx_alloc, nx_set] at on)); (try (have kn := hk.1; try simp only [nx_alloc, nx_set] at kn)); try have hB := hO.at)))
  all_goals try (first
    | (refine hK _ _ ?_; (first | (have q := putC_no (z := z) (by assumption); exact ⟨qg, .nilsl, by rw [q.1], by rw [q.2]; exact .inl ⟨rfl, rfl⟩⟩) | (have q := putC_is (z := z) (by assumption); exact ⟨qg, w, by rw [q.1], by rw [q.2]; exact NewBytes.le hw qo⟩) | fail); done)
    | fail)
theorem t9 : tab 9 = some ⟨30, [.cell 2 true 13, .tmp 3], b9⟩ := rfl
theorem k_Get {v : AV} {bs : List Int} {h : Heap} (hv : BytesAt h v bs) (hy : Bytes bs) (hl : bs.length ≤ 2000000) : Runs (xcall X1 tab (.fn 9) [v] h) fun v h' => Grow h h' ∧ GotR h h' bs v := by
  refine Runs.intro fun K hK => ?_
  have hfv := BytesAt.flat' hv
  have hcv := cells_of hfv
  rw [w_fn rfl t9 (Nat.le_of_ble_eq_true rfl)]
  delta b9
  repeat' (first
    | simp (disch := first | exact qd | fail) only [WB, ↓WP, ↓WL, WR, WC, if_true, if_false, ite_true, ite_false, aop, ev, evs, readsA, List.replicate, numF, unA, resA, tupA, loadA, storeA, splice, fillA, kindsOk, plainEq, ↓reduceIte, Nat.reduceEqDiff, Nat.reduceLT, Int.reduceToNat, Int.reduceBEq, Int.reduceBNe, Nat.reduceAdd, Nat.reduceMul, Nat.reduceLeDiff, Int.reduceLT, Int.reduceSub, Int.reduceAdd, hfv, hcv, ne_eq]
    | ((first | refine atC ?_ ?_ | refine atG ?_ ?_ | refine atH ?_ ?_ | refine atP ?_ ?_) <;> intro hc <;> (try rw [hc]) <;> (try simp only [BD] at hc) <;> try (exfalso; omega))
    | (obtain ⟨a1, a2, a3, a4, a5, a6, a7⟩ := z_of hy (e3 (by assumption)); have hme := mayC_en (e3 (by assumption)); refine Runs.call (k_May z3 ⟨hb3.grow qg, a2, a3, a4, by omega, by omega, by omega⟩ a1) ?_; rintro _ H4 ⟨rfl, gr⟩; have gn := gr.1; simp only [nx_alloc, nx_set] at gn; have hz4 : H4.get h.next = some (.cells [.int .u8 0, .int .u32 0, .int .u64 0, .int .u8 0, .int .u32 0, .int .u32 0, .str [], .int .u32 0, .int .u32 0, .str [], .int .u32 0, .int .u32 0, .nilsl] false) := qs)
    | ((first
      | (refine Runs.call (c_read (hv.grow qg) hy hl) ?_; rintro _ H3 ⟨gr, z3, rfl, e3, hn3⟩; have hb3 := hn3.at; have hfd3 := BytesAt.flat' hb3; have hcd3 := cells_of hfd3; have hz3 : H3.get h.next = some (.cells [.int .u8 0, .int .u32 0, .int .u64 0, .int .u8 0, .int .u32 0, .int .u32 0, .str [], .int .u32 0, .int .u32 0, .str [], .int .u32 0, .int .u32 0, .nilsl] false) := qs)
      | fail); all_goals ((try (have gn := gr.1; try simp only [nx_alloc, nx_set] at gn)); (try (have an := ha.num; try simp only [nx_alloc, nx_set, own_sl, own_nil] at an)); (try (have on := hO.num; try simp only [nx_alloc, nx_set] at on)); (try (have kn := hk.1; try simp only [nx_alloc, nx_set] at kn)); try have hB := hO.at)))
  all_goals try (first
    | (refine hK _ _ ?_; (first
        | exact ⟨qg, got_bad ⟨getE_long qo, by decide⟩⟩
        | exact ⟨qg, got_bad ⟨getE_err qo (by assumption), by assumption⟩⟩
        | exact ⟨qg, got_bad ⟨getE_no qo (by assumption) (fun q => by omega), by decide⟩⟩
        | (have hmf : mayC (readZ bs) = false := hme.symm.trans (by assumption); exact ⟨qg, got_bad ⟨getE_no qo (by assumption) (fun q => by rw [hmf] at q; exact absurd q.2 (by decide)), by decide⟩⟩)
        | (have hmt : mayC (readZ bs) = true := hme.symm.trans (by assumption); exact ⟨qg, got_ok hy (getE_ok qo (by assumption) qo hmt) (e3 (by assumption)) (hn9_of hn3 (fun j h1 h2 => by simp only [nx_alloc] at h1; (simp (disch := first | (refine Asm.mk ?_; assumption) | omega | (simp only [nx_alloc, nx_set, own_sl, own_nil] <;> omega) | fail) only [ga_new, ga_old, gs_new, gs_old, nx_alloc, nx_set, g_get, app_get, pok_get, get_asm, id_eq, ]; first | done | fail)) (by simp only [nx_alloc]; omega) (by simp only [nx_set]; omega))⟩)
        | fail); done)
    | fail)
end Go.Proofs.YtcfmccafbknleaaDoor.Ya
