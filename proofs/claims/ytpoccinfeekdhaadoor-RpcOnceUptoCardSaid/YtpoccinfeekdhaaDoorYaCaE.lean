/-
  Calls: the program.
-/
import Derived.Test.YtpoccinfeekdhaaDoorYaCaP
import Derived.Test.YtpoccinfeekdhaaDoorYbL
namespace Go.Proofs.YtpoccinfeekdhaaDoor.Ya
open Go.Ya Go.Ya.Na
set_option linter.unusedVariables false
set_option linter.unusedSimpArgs false
set_option maxRecDepth 100000
set_option maxHeartbeats 8000000
theorem beL_by (n : Int) : ∀ k, Bytes (beL n k)
  | 0 => fun c h => by cases h
  | k + 1 => fun c h => by
    rcases List.mem_cons.1 h with rfl | h
    · unfold beB; omega
    · exact beL_by n k c h
theorem bytes_app {a b : List Int} (ha : Bytes a) (hb : Bytes b) : Bytes (a ++ b) := fun c hc => (List.mem_append.1 hc).elim (ha c) (hb c)
theorem encB_by {xs : List Int} (h : Bytes xs) : Bytes (encB xs) := bytes_app (bytes_app (beL_by _ _) h) fun c hc => by
  rw [List.mem_replicate] at hc
  omega
theorem encC_by {H : Heap} {z : Cl} (hz : ClAt H z) : Bytes (encC z) := by
  obtain ⟨hd, hyd, hyn, hyt, ld, ln, lt⟩ := hz
  have n := fun a b => beL_by a b
  have h1 := encB_by hyd
  have h2 := encB_by hyn
  have h3 := encB_by hyt
  rw [encC_eq]
  refine bytes_app (bytes_app (n _ _) (bytes_app (n _ _) (bytes_app (n _ _) (n _ _)))) ?_
  unfold tailC tailK
  repeat' split
  all_goals (repeat' (first | exact n _ _ | assumption | refine bytes_app ?_ ?_ | exact fun c h => nomatch h))
theorem sameC_no {a c : Cl} (h : ¬ a.data = c.data) : sameC a c = false := decide_eq_false fun e => h e.2.2.2.2.2.2.2.2.2.2
theorem ClAt.cells {H : Heap} {z : Cl} (a : ClAt H z) : BytesAt H z.dv z.data := a.1
def errC (z : Cl) : Int := if mayC z = true then 0 else 2
def putC (z : Cl) : List Int := if mayC z = true then encC z else []
theorem mayC_of {z : Cl} (h1 : z.client < 4 ∧ 0 < z.inc ∧ 0 < z.seq) (h2 : wholeC z = true) (h3 : kindC z.kind = true) {t : Bool} (h4 : sameC (onlyC z) z = t) : mayC z = t := by
  unfold mayC
  rw [decide_eq_true h1, h2, h3, h4]; rfl
theorem mayC_no {z : Cl} (h : (¬ (z.client < 4 ∧ 0 < z.inc ∧ 0 < z.seq)) ∨ wholeC z = false ∨ kindC z.kind = false) : mayC z = false := by
  unfold mayC
  rcases h with h | h | h
  · rw [decide_eq_false h]; rfl
  · rw [h]; simp
  · rw [h]; simp
theorem eq_head (a c : Cl) (hd : Asm (a.data = c.data)) : plainEq [.int .u8 a.client, .int .u32 a.inc, .int .u64 a.seq, .int .u8 a.kind, .int .u32 a.hi, .int .u32 a.hg, .int .u32 a.ti, .int .u32 a.tg, .str a.name, .str a.toName, .int .u32 a.off, .int .u32 a.size] [.int .u8 c.client, .int .u32 c.inc, .int .u64 c.seq, .int .u8 c.kind, .int .u32 c.hi, .int .u32 c.hg, .int .u32 c.ti, .int .u32 c.tg, .str c.name, .str c.toName, .int .u32 c.off, .int .u32 c.size] = some (sameC a c) := by
  have hd := hd.out
  simp only [plainEq, if_true]
  unfold sameC
  repeat' split
  all_goals (congr 1; symm; first | (refine decide_eq_true ?_; (repeat' apply And.intro) <;> assumption) | (refine decide_eq_false fun e => ?_; obtain ⟨e1, e2, e3, e4, ⟨e5, e6⟩, e7, ⟨e8, e9⟩, e10, e11, e12, e13⟩ := e; contradiction))
theorem t29 : tab 29 = some ⟨56, [.tmp 2], b29⟩ := rfl
theorem k_whole (z : Cl) {h : Heap} (hz : ClAt h z) (ho : ClOk z) : Runs (xcall X1 tab (.fn 29) [.agg [.int .u8 z.client, .int .u32 z.inc, .int .u64 z.seq, .int .u8 z.kind, .int .u32 z.hi, .int .u32 z.hg, .str z.name, .int .u32 z.ti, .int .u32 z.tg, .str z.toName, .int .u32 z.off, .int .u32 z.size, z.dv]] h) fun v h' => v = .bool (wholeC z) ∧ Grow h h' := by
  refine Runs.intro fun K hK => ?_
  have hz0 := hz
  have ho0 := ho
  obtain ⟨o1, o2, o3, o4, o5, o6, o7, o8, o9, o10⟩ := id ho
  obtain ⟨hd, hyd, hyn, hyt, ld, ln, lt⟩ := id hz
  have hfd := BytesAt.flat' hd
  have hcd := cells_of hfd
  rw [w_fn rfl t29 (Nat.le_of_ble_eq_true rfl)]
  delta b29
  repeat' (first
    | simp (disch := first | exact qd | fail) only [WB, ↓WP, ↓WL, WR, WC, if_true, if_false, ite_true, ite_false, aop, ev, evs, readsA, List.replicate, numF, unA, resA, tupA, loadA, storeA, splice, fillA, kindsOk, plainEq, ↓reduceIte, Nat.reduceEqDiff, Nat.reduceLT, Int.reduceToNat, Int.reduceBEq, Int.reduceBNe, Nat.reduceAdd, Nat.reduceMul, Nat.reduceLeDiff, Int.reduceLT, Int.reduceSub, Int.reduceAdd, hfd, hcd]
    | ((first | refine atC ?_ ?_ | refine atG ?_ ?_ | refine atH ?_ ?_ | refine atP ?_ ?_) <;> intro hc <;> (try rw [hc]) <;> (try simp only [BD] at hc) <;> try (exfalso; omega))
    | ((first
      | (refine Runs.call (name_Is z.name hyn _) ?_; rintro _ _ ⟨rfl, gr⟩)
      | (refine Runs.call (name_Is z.toName hyt _) ?_; rintro _ _ ⟨rfl, gr⟩)
      | fail); all_goals ((try (have gn := gr.1; try simp only [nx_alloc, nx_set] at gn)); (try (have an := ha.num; try simp only [nx_alloc, nx_set, own_sl, own_nil] at an)); (try (have on := hO.num; try simp only [nx_alloc, nx_set] at on)); (try (have kn := hk.1; try simp only [nx_alloc, nx_set] at kn)); try have hB := hO.at)))
  all_goals try (first
    | (refine hK _ _ ?_; (refine ⟨?_, qg⟩; congr 1; (unfold wholeC named; (repeat (first | rw [if_pos qo] | rw [if_neg qo]))); (first | done | rfl | (simp_all; done) | (simp_all; omega) | fail)); done)
    | fail)
theorem t54 : tab 54 = some ⟨24, [.cell 2 true 12], b54⟩ := rfl
theorem k_head (z : Cl) {h : Heap} (hz : BytesAt h z.dv z.data) : Runs (xcall X1 tab (.fn 54) [.agg [.int .u8 z.client, .int .u32 z.inc, .int .u64 z.seq, .int .u8 z.kind, .int .u32 z.hi, .int .u32 z.hg, .str z.name, .int .u32 z.ti, .int .u32 z.tg, .str z.toName, .int .u32 z.off, .int .u32 z.size, z.dv]] h) fun v h' => v = .agg [.int .u8 z.client, .int .u32 z.inc, .int .u64 z.seq, .int .u8 z.kind, .int .u32 z.hi, .int .u32 z.hg, .int .u32 z.ti, .int .u32 z.tg, .str z.name, .str z.toName, .int .u32 z.off, .int .u32 z.size] ∧ Grow h h' := by
  refine Runs.intro fun K hK => ?_
  have hfd := BytesAt.flat' hz
  have hcd := cells_of hfd
  rw [w_fn rfl t54 (Nat.le_of_ble_eq_true rfl)]
  delta b54
  repeat' (first
    | simp (disch := first | exact qd | fail) only [WB, ↓WP, ↓WL, WR, WC, if_true, if_false, ite_true, ite_false, aop, ev, evs, readsA, List.replicate, numF, unA, resA, tupA, loadA, storeA, splice, fillA, kindsOk, plainEq, ↓reduceIte, Nat.reduceEqDiff, Nat.reduceLT, Int.reduceToNat, Int.reduceBEq, Int.reduceBNe, Nat.reduceAdd, Nat.reduceMul, Nat.reduceLeDiff, Int.reduceLT, Int.reduceSub, Int.reduceAdd, hfd, hcd]
    | ((first | refine atC ?_ ?_ | refine atG ?_ ?_ | refine atH ?_ ?_ | refine atP ?_ ?_) <;> intro hc <;> (try rw [hc]) <;> (try simp only [BD] at hc) <;> try (exfalso; omega)))
  all_goals try (first
    | (refine hK _ _ ?_; exact ⟨rfl, qg⟩; done)
    | fail)
theorem t53 : tab 53 = some ⟨10, [.tmp 4], b53⟩ := rfl
theorem b_Equal {a b : AV} {x y : List Int} {h : Heap} (ha : BytesAt h a x) (hb : BytesAt h b y) : Runs (xcall X1 tab (.fn 53) [a, b] h) fun v h' => v = .bool (x == y) ∧ h = h' := by
  refine Runs.intro fun K hK => ?_
  rw [w_fn rfl t53 (Nat.le_of_ble_eq_true rfl)]
  delta b53
  repeat' (first
    | simp (disch := first | exact qd | fail) only [WB, ↓WP, ↓WL, WR, WC, if_true, if_false, ite_true, ite_false, aop, ev, evs, readsA, List.replicate, numF, unA, resA, tupA, loadA, storeA, splice, fillA, kindsOk, plainEq, ↓reduceIte, Nat.reduceEqDiff, Nat.reduceLT, Int.reduceToNat, Int.reduceBEq, Int.reduceBNe, Nat.reduceAdd, Nat.reduceMul, Nat.reduceLeDiff, Int.reduceLT, Int.reduceSub, Int.reduceAdd]
    | ((first | refine atC ?_ ?_ | refine atG ?_ ?_ | refine atH ?_ ?_ | refine atP ?_ ?_) <;> intro hc <;> (try rw [hc]) <;> (try simp only [BD] at hc) <;> try (exfalso; omega)))
  all_goals try (first
    | (refine hK _ _ ?_; exact ⟨rfl, rfl⟩; done)
    | fail)
theorem t32 : tab 32 = some ⟨19, [.tmp 4], b32⟩ := rfl
theorem k_Same (a c : Cl) {h : Heap} (ha : BytesAt h a.dv a.data) (hc0 : BytesAt h c.dv c.data) : Runs (xcall X1 tab (.fn 32) [.agg [.int .u8 a.client, .int .u32 a.inc, .int .u64 a.seq, .int .u8 a.kind, .int .u32 a.hi, .int .u32 a.hg, .str a.name, .int .u32 a.ti, .int .u32 a.tg, .str a.toName, .int .u32 a.off, .int .u32 a.size, a.dv], .agg [.int .u8 c.client, .int .u32 c.inc, .int .u64 c.seq, .int .u8 c.kind, .int .u32 c.hi, .int .u32 c.hg, .str c.name, .int .u32 c.ti, .int .u32 c.tg, .str c.toName, .int .u32 c.off, .int .u32 c.size, c.dv]] h) fun v h' => v = .bool (sameC a c) ∧ Grow h h' := by
  refine Runs.intro fun K hK => ?_
  have hfd := BytesAt.flat' ha
  have hcd := cells_of hfd
  have hfd2 := BytesAt.flat' hc0
  have hcd2 := cells_of hfd2
  rw [w_fn rfl t32 (Nat.le_of_ble_eq_true rfl)]
  delta b32
  repeat' (first
    | simp (disch := first | exact qd | fail) only [WB, ↓WP, ↓WL, WR, WC, if_true, if_false, ite_true, ite_false, aop, ev, evs, readsA, List.replicate, numF, unA, resA, tupA, loadA, storeA, splice, fillA, kindsOk, plainEq, ↓reduceIte, Nat.reduceEqDiff, Nat.reduceLT, Int.reduceToNat, Int.reduceBEq, Int.reduceBNe, Nat.reduceAdd, Nat.reduceMul, Nat.reduceLeDiff, Int.reduceLT, Int.reduceSub, Int.reduceAdd, hfd, hcd, hfd2, hcd2, ↓eq_head, Option.map_some]
    | ((first | refine atC ?_ ?_ | refine atG ?_ ?_ | refine atH ?_ ?_ | refine atP ?_ ?_) <;> intro hc <;> (try rw [hc]) <;> (try simp only [BD] at hc) <;> try (exfalso; omega))
    | ((first
      | (refine Runs.call (b_Equal (ha.grow qg) (hc0.grow qg)) ?_; rintro _ _ ⟨rfl, rfl⟩)
      | (refine Runs.call (k_head a (ha.grow qg)) ?_; rintro _ _ ⟨rfl, gr⟩)
      | (refine Runs.call (k_head c (hc0.grow qg)) ?_; rintro _ _ ⟨rfl, gr⟩)
      | fail); all_goals ((try (have gn := gr.1; try simp only [nx_alloc, nx_set] at gn)); (try (have an := ha.num; try simp only [nx_alloc, nx_set, own_sl, own_nil] at an)); (try (have on := hO.num; try simp only [nx_alloc, nx_set] at on)); (try (have kn := hk.1; try simp only [nx_alloc, nx_set] at kn)); try have hB := hO.at)))
  all_goals try (first
    | (refine hK _ _ ?_; (first | exact ⟨by rw [sameC_no (by assumption)], qg⟩ | exact ⟨rfl, qg⟩ | fail); done)
    | fail)
theorem t16 : tab 16 = some ⟨46, [.tmp 2], b16⟩ := rfl
theorem k_May (z : Cl) {h : Heap} (hz : ClAt h z) (ho : ClOk z) : Runs (xcall X1 tab (.fn 16) [.agg [.int .u8 z.client, .int .u32 z.inc, .int .u64 z.seq, .int .u8 z.kind, .int .u32 z.hi, .int .u32 z.hg, .str z.name, .int .u32 z.ti, .int .u32 z.tg, .str z.toName, .int .u32 z.off, .int .u32 z.size, z.dv]] h) fun v h' => v = .bool (mayC z) ∧ Grow h h' := by
  refine Runs.intro fun K hK => ?_
  have hz0 := hz
  have ho0 := ho
  obtain ⟨o1, o2, o3, o4, o5, o6, o7, o8, o9, o10⟩ := id ho
  obtain ⟨hd, hyd, hyn, hyt, ld, ln, lt⟩ := id hz
  have hfd := BytesAt.flat' hd
  have hcd := cells_of hfd
  have hyE := encC_by hz
  rw [w_fn rfl t16 (Nat.le_of_ble_eq_true rfl)]
  delta b16
  repeat' (first
    | simp (disch := first | exact qd | fail) only [WB, ↓WP, ↓WL, WR, WC, if_true, if_false, ite_true, ite_false, aop, ev, evs, readsA, List.replicate, numF, unA, resA, tupA, loadA, storeA, splice, fillA, kindsOk, plainEq, ↓reduceIte, Nat.reduceEqDiff, Nat.reduceLT, Int.reduceToNat, Int.reduceBEq, Int.reduceBNe, Nat.reduceAdd, Nat.reduceMul, Nat.reduceLeDiff, Int.reduceLT, Int.reduceSub, Int.reduceAdd, hfd, hcd, ne_eq]
    | ((first | refine atC ?_ ?_ | refine atG ?_ ?_ | refine atH ?_ ?_ | refine atP ?_ ?_) <;> intro hc <;> (try rw [hc]) <;> (try simp only [BD] at hc) <;> try (exfalso; omega))
    | ((first
      | (refine Runs.call (k_whole z (hz0.grow qg) ho0) ?_; rintro _ H1 ⟨rfl, gr⟩)
      | (refine Runs.call (c_bare z (hz0.grow qg) ho0) ?_; rintro _ H2 ⟨gr, w, rfl, hw⟩; have hwa := hw.at; have hle := encC_le (z := z))
      | (refine Runs.call (c_read (hwa.grow qg) hyE (by have := hle (by assumption) (by assumption); omega)) ?_; rintro _ H3 ⟨gr, z3, rfl, e3, hn3⟩; have hb3 := hn3.at; have hfd3 := BytesAt.flat' hb3; have hcd3 := cells_of hfd3; have h30 := read_enc ho0 (by assumption) (by assumption) []; rw [List.append_nil] at h30; have h3E : readE (encC z) = 0 := h30.2.1; have h3s := (e3 h3E).trans h30.1)
      | (refine Runs.call (k_Same z3 z (hb3.grow qg) (hd.grow qg)) ?_; rintro _ _ ⟨rfl, gr⟩)
      | fail); all_goals ((try (have gn := gr.1; try simp only [nx_alloc, nx_set] at gn)); (try (have an := ha.num; try simp only [nx_alloc, nx_set, own_sl, own_nil] at an)); (try (have on := hO.num; try simp only [nx_alloc, nx_set] at on)); (try (have kn := hk.1; try simp only [nx_alloc, nx_set] at kn)); try have hB := hO.at)))
  all_goals try (first
    | (refine hK _ _ ?_; (first | exact ⟨by rw [mayC_no (.inl qo)], qg⟩ | exact ⟨by rw [mayC_no (.inr (.inl (by assumption)))], qg⟩ | exact ⟨by rw [mayC_no (.inr (.inr (by assumption)))], qg⟩ | exact ⟨by rw [mayC_of qo (by assumption) (by assumption) (sameC_en h3s.symm rfl)], qg⟩ | fail); done)
    | fail)
theorem putC_no {z : Cl} (h : mayC z = false) : errC z = 2 ∧ putC z = [] := ⟨if_neg (by rw [h]; decide), if_neg (by rw [h]; decide)⟩
theorem putC_is {z : Cl} (h : mayC z = true) : errC z = 0 ∧ putC z = encC z := ⟨if_pos h, if_pos h⟩
def GotR (h h' : Heap) (bs : List Int) (v : AV) : Prop := ∃ z, v = .tuple [.agg [.int .u8 z.client, .int .u32 z.inc, .int .u64 z.seq, .int .u8 z.kind, .int .u32 z.hi, .int .u32 z.hg, .str z.name, .int .u32 z.ti, .int .u32 z.tg, .str z.toName, .int .u32 z.off, .int .u32 z.size, z.dv], .int .i64 (getE bs)] ∧ z.en = getP bs ∧ NBt h.next h'.next h' z.dv z.data ∧ ClOk z ∧ ClAt h' z
theorem getE_long {bs : List Int} (h : 4096 < bs.length) : getE bs = 3 := if_pos h
theorem t21 : tab 21 = some ⟨15, [.tmp 2, .tmp 3], b21⟩ := rfl
theorem k_Put (z : Cl) {h : Heap} (hz : ClAt h z) (ho : ClOk z) : Runs (xcall X1 tab (.fn 21) [.agg [.int .u8 z.client, .int .u32 z.inc, .int .u64 z.seq, .int .u8 z.kind, .int .u32 z.hi, .int .u32 z.hg, .str z.name, .int .u32 z.ti, .int .u32 z.tg, .str z.toName, .int .u32 z.off, .int .u32 z.size, z.dv]] h) fun v h' => Grow h h' ∧ ∃ q, v = .tuple [q, .int .i64 (errC z)] ∧ NewBytes h h' q (putC z) := by
  refine Runs.intro fun K hK => ?_
  have hz0 := hz
  have ho0 := ho
  obtain ⟨o1, o2, o3, o4, o5, o6, o7, o8, o9, o10⟩ := id ho
  obtain ⟨hd, hyd, hyn, hyt, ld, ln, lt⟩ := id hz
  have hfd := BytesAt.flat' hd
  have hcd := cells_of hfd
  rw [w_fn rfl t21 (Nat.le_of_ble_eq_true rfl)]
  delta b21
  repeat' (first
    | simp (disch := first | exact qd | fail) only [WB, ↓WP, ↓WL, WR, WC, if_true, if_false, ite_true, ite_false, aop, ev, evs, readsA, List.replicate, numF, unA, resA, tupA, loadA, storeA, splice, fillA, kindsOk, plainEq, ↓reduceIte, Nat.reduceEqDiff, Nat.reduceLT, Int.reduceToNat, Int.reduceBEq, Int.reduceBNe, Nat.reduceAdd, Nat.reduceMul, Nat.reduceLeDiff, Int.reduceLT, Int.reduceSub, Int.reduceAdd, hfd, hcd]
    | ((first | refine atC ?_ ?_ | refine atG ?_ ?_ | refine atH ?_ ?_ | refine atP ?_ ?_) <;> intro hc <;> (try rw [hc]) <;> (try simp only [BD] at hc) <;> try (exfalso; omega))
    | ((first
      | (refine Runs.call (k_May z (hz0.grow qg) ho0) ?_; rintro _ H1 ⟨rfl, gr⟩)
      | (refine Runs.call (c_bare z (hz0.grow qg) ho0) ?_; rintro _ H2 ⟨gr, w, rfl, hw⟩; have hwa := hw.at; have hfw := BytesAt.flat' hwa; have hcw := cells_of hfw)
      | fail); all_goals ((try (have gn := gr.1; try simp only [nx_alloc, nx_set] at gn)); (try (have an := ha.num; try simp only [nx_alloc, nx_set, own_sl, own_nil] at an)); (try (have on := hO.num; try simp only [nx_alloc, nx_set] at on)); (try (have kn := hk.1; try simp only [nx_alloc, nx_set] at kn)); try have hB := hO.at)))
  all_goals try (first
    | (refine hK _ _ ?_; (first | (have q := putC_no (z := z) (by assumption); exact ⟨qg, .nilsl, by rw [q.1], by rw [q.2]; exact .inl ⟨rfl, rfl⟩⟩) | (have q := putC_is (z := z) (by assumption); exact ⟨qg, w, by rw [q.1], by rw [q.2]; exact NewBytes.le hw qo⟩) | fail); done)
    | fail)
end Go.Proofs.YtpoccinfeekdhaaDoor.Ya
