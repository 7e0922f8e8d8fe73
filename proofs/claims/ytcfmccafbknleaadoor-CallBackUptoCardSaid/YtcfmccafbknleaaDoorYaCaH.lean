/-
  Calls: the laws walked.
-/
import Derived.Test.YtcfmccafbknleaaDoorYaCaG
import Derived.Test.YtcfmccafbknleaaDoorYbL
namespace Go.Proofs.YtcfmccafbknleaaDoor.Ya
open Go.Ya Go.Ya.Na
set_option linter.unusedVariables false
set_option linter.unusedSimpArgs false
set_option maxRecDepth 100000
set_option maxHeartbeats 8000000
abbrev ownC (a : Cl) (w : AV) : Cl := { a with dv := w }
theorem same_asm {a c : Cl} (x : Asm (a.en = c.en)) : sameC a c = true := sameC_iff.2 x.out
theorem ClAt.own {h H : Heap} {a : Cl} {w : AV} (ha : ClAt h a) (hw : BytesAt H w a.data) : ClAt H (ownC a w) := ⟨hw, ha.2⟩
theorem put_asm {z : Cl} {l : List Int} (x : Asm (putC z = l)) : putC z = l := x.out
theorem err_asm {z : Cl} {e : Int} (x : Asm (errC z = e)) : errC z = e := x.out
theorem got0 {bs : List Int} (x : Asm (getE bs = 0)) : getE bs = 0 := x.out
theorem got4 {bs : List Int} (x : Asm (getE bs = 4)) : getE bs = 4 := x.out
theorem Grow.nxt {a b : Heap} (g : Grow a b) : a.next ≤ b.next := g.1
theorem of_got {z : Cl} {bs : List Int} (hy : Bytes bs) (h : getE bs = 0) (e : z.en = getP bs) : mayC z = true ∧ errC z = 0 ∧ putC z = bs := by
  obtain ⟨h1, h2, h3⟩ := get_inv hy h
  have h4 := e.trans h3
  have hm : mayC z = true := by rw [mayC_en h4]; exact h1
  refine ⟨hm, if_pos hm, ?_⟩
  unfold putC
  rw [if_pos hm, show encC z = encC z.en from rfl, h4]; exact h2
theorem of_bad {z : Cl} {bs : List Int} (h : ¬ getE bs = 0) (e : z.en = getP bs) : z.en = zC.en := by
  unfold getP at e
  rw [if_neg h] at e
  rw [e]; rfl
theorem t3 : tab 3 = some ⟨107, [.tmp 6], b3⟩ := rfl
def C4_86 : SC := (.seq (.ops [⟨some 86, .mov (.t 1), none⟩, ⟨some 87, .call 9 [.t 86], none⟩, ⟨some 85, .mov (.t 87), none⟩, ⟨some 88, .extract (.t 85) 0, none⟩, ⟨some 89, .extract (.t 85) 1, none⟩, ⟨some 18, .box (.c (.agg [.int (.u8) 0, .int (.u32) 0, .int (.u64) 0, .int (.u8) 0, .int (.u32) 0, .int (.u32) 0, .str [], .int (.u32) 0, .int (.u32) 0, .str [], .int (.u32) 0, .int (.u32) 0, .nilsl])), none⟩, ⟨none, .store 13 (.t 18) (.t 88), none⟩, ⟨some 19, .mov (.t 89), none⟩]) (.seq (.seq (.ops [⟨some 90, .mov (.t 19), none⟩, ⟨some 91, .bin (.neq) (.other) (.t 90) (.c (.int (.i64) 0)), none⟩]) (.cond (.t 91) (.seq (.ops [⟨some 92, .load true 13 (.t 18), none⟩, ⟨some 93, .build [.int (.u8) 0, .int (.u32) 0, .int (.u64) 0, .int (.u8) 0, .int (.u32) 0, .int (.u32) 0, .str [], .int (.u32) 0, .int (.u32) 0, .str [], .int (.u32) 0, .int (.u32) 0, .nilsl] [], none⟩, ⟨some 94, .call 14 [.t 92, .t 93], none⟩, ⟨some 95, .mov (.t 94), none⟩, ⟨some 96, .call 19 [], some (95, true)⟩, ⟨some 97, .pick (.t 95) (.t 96) (.c (.bool false)), none⟩, ⟨some 8, .mov (.t 97), none⟩]) .ret) .skip)) (.seq (.ops [⟨some 99, .load true 13 (.t 18), none⟩, ⟨some 100, .call 7 [.t 99], none⟩, ⟨some 98, .mov (.t 100), none⟩, ⟨some 101, .extract (.t 98) 0, none⟩, ⟨some 102, .extract (.t 98) 1, none⟩, ⟨some 20, .mov (.t 101), none⟩, ⟨some 21, .mov (.t 102), none⟩]) (.seq (.ops [⟨some 103, .mov (.t 21), none⟩, ⟨some 104, .bin (.eql) (.other) (.t 103) (.c (.int (.i64) 0)), none⟩, ⟨some 105, .mov (.t 104), none⟩, ⟨some 106, .mov (.t 20), some (105, true)⟩, ⟨some 107, .mov (.t 1), some (105, true)⟩, ⟨some 108, .call 13 [.t 106, .t 107], some (105, true)⟩, ⟨some 109, .pick (.t 105) (.t 108) (.c (.bool false)), none⟩, ⟨some 110, .mov (.t 109), none⟩, ⟨some 111, .load true 13 (.t 18), some (110, true)⟩, ⟨some 112, .call 11 [.t 111], some (110, true)⟩, ⟨some 113, .pick (.t 110) (.t 112) (.c (.bool false)), none⟩, ⟨some 114, .mov (.t 113), none⟩, ⟨some 115, .call 19 [], some (114, true)⟩, ⟨some 116, .pick (.t 114) (.t 115) (.c (.bool false)), none⟩, ⟨some 8, .mov (.t 116), none⟩]) .ret))))
def b4x : SC := (.seq (.ops [⟨some 4, .box (.t 0), none⟩, ⟨some 8, .mov (.c (.bool false)), none⟩]) (.seq (.ops [⟨some 23, .load true 13 (.t 4), none⟩, ⟨some 24, .call 7 [.t 23], none⟩, ⟨some 22, .mov (.t 24), none⟩, ⟨some 25, .extract (.t 22) 0, none⟩, ⟨some 26, .extract (.t 22) 1, none⟩, ⟨some 9, .mov (.t 25), none⟩, ⟨some 10, .mov (.t 26), none⟩]) (.seq (.seq (.ops [⟨some 27, .mov (.t 10), none⟩, ⟨some 28, .bin (.eql) (.other) (.t 27) (.c (.int (.i64) 0)), none⟩, ⟨some 29, .load true 13 (.t 4), none⟩, ⟨some 30, .call 11 [.t 29], none⟩, ⟨some 31, .bin (.neq) (.bool) (.t 28) (.t 30), none⟩]) (.cond (.t 31) (.seq (.ops [⟨some 8, .mov (.c (.bool false)), none⟩]) .ret) .skip)) (.seq (.seq (.ops [⟨some 32, .mov (.t 10), none⟩, ⟨some 33, .bin (.eql) (.other) (.t 32) (.c (.int (.i64) 0)), none⟩]) (.cond (.t 33) (.seq (.ops [⟨some 35, .mov (.t 9), none⟩, ⟨some 36, .call 9 [.t 35], none⟩, ⟨some 34, .mov (.t 36), none⟩, ⟨some 37, .extract (.t 34) 0, none⟩, ⟨some 38, .extract (.t 34) 1, none⟩, ⟨some 11, .box (.c (.agg [.int (.u8) 0, .int (.u32) 0, .int (.u64) 0, .int (.u8) 0, .int (.u32) 0, .int (.u32) 0, .str [], .int (.u32) 0, .int (.u32) 0, .str [], .int (.u32) 0, .int (.u32) 0, .nilsl])), none⟩, ⟨none, .store 13 (.t 11) (.t 37), none⟩, ⟨some 12, .mov (.t 38), none⟩]) (.seq (.seq (.ops [⟨some 39, .mov (.t 12), none⟩, ⟨some 40, .bin (.neq) (.other) (.t 39) (.c (.int (.i64) 0)), none⟩, ⟨some 41, .mov (.t 40), none⟩, ⟨some 42, .load true 13 (.t 11), some (41, false)⟩, ⟨some 43, .load true 13 (.t 4), some (41, false)⟩, ⟨some 44, .call 15 [.t 42, .t 43], some (41, false)⟩, ⟨some 45, .un (.not) (.t 44), some (41, false)⟩, ⟨some 46, .pick (.t 41) (.c (.bool true)) (.t 45), none⟩, ⟨some 47, .mov (.t 46), none⟩, ⟨some 48, .load true 13 (.t 11), some (47, false)⟩, ⟨some 49, .load true 13 (.t 4), some (47, false)⟩, ⟨some 50, .call 14 [.t 48, .t 49], some (47, false)⟩, ⟨some 51, .un (.not) (.t 50), some (47, false)⟩, ⟨some 52, .pick (.t 47) (.c (.bool true)) (.t 51), none⟩]) (.cond (.t 52) (.seq (.ops [⟨some 8, .mov (.c (.bool false)), none⟩]) .ret) .skip)) (.seq (.seq (.ops [⟨some 53, .mov (.t 3), none⟩, ⟨some 54, .bin (.geq) (.other) (.t 53) (.c (.int (.i64) 0)), none⟩, ⟨some 55, .mov (.t 54), none⟩, ⟨some 56, .mov (.t 3), some (55, true)⟩, ⟨some 57, .mov (.t 9), some (55, true)⟩, ⟨some 58, .len (.sl) (.t 57), some (55, true)⟩, ⟨some 59, .bin (.lss) (.other) (.t 56) (.t 58), some (55, true)⟩, ⟨some 60, .pick (.t 55) (.t 59) (.c (.bool false)), none⟩]) (.cond (.t 60) (.seq (.ops [⟨some 62, .mov (.t 9), none⟩, ⟨some 63, .mov (.t 3), none⟩, ⟨some 64, .slice 1 (.t 62) none (some (.t 63)) none, none⟩, ⟨some 65, .call 9 [.t 64], none⟩, ⟨some 61, .mov (.t 65), none⟩, ⟨some 66, .extract (.t 61) 0, none⟩, ⟨some 67, .extract (.t 61) 1, none⟩, ⟨some 13, .box (.c (.agg [.int (.u8) 0, .int (.u32) 0, .int (.u64) 0, .int (.u8) 0, .int (.u32) 0, .int (.u32) 0, .str [], .int (.u32) 0, .int (.u32) 0, .str [], .int (.u32) 0, .int (.u32) 0, .nilsl])), none⟩, ⟨none, .store 13 (.t 13) (.t 66), none⟩, ⟨some 14, .mov (.t 67), none⟩]) (.seq (.ops [⟨some 68, .mov (.t 14), none⟩, ⟨some 69, .bin (.neq) (.other) (.t 68) (.c (.int (.i64) 4)), none⟩]) (.cond (.t 69) (.seq (.ops [⟨some 8, .mov (.c (.bool false)), none⟩]) .ret) .skip))) .skip)) (.seq (.ops [⟨some 70, .mov (.t 9), none⟩, ⟨some 71, .call 20 [.t 70], none⟩, ⟨some 72, .mov (.t 2), none⟩, ⟨some 73, .append 1 1 (.t 71) (.t 72), none⟩, ⟨some 15, .mov (.t 73), none⟩]) (.seq (.ops [⟨some 75, .mov (.t 15), none⟩, ⟨some 76, .call 9 [.t 75], none⟩, ⟨some 74, .mov (.t 76), none⟩, ⟨some 77, .extract (.t 74) 0, none⟩, ⟨some 78, .extract (.t 74) 1, none⟩, ⟨some 16, .box (.c (.agg [.int (.u8) 0, .int (.u32) 0, .int (.u64) 0, .int (.u8) 0, .int (.u32) 0, .int (.u32) 0, .str [], .int (.u32) 0, .int (.u32) 0, .str [], .int (.u32) 0, .int (.u32) 0, .nilsl])), none⟩, ⟨none, .store 13 (.t 16) (.t 77), none⟩, ⟨some 17, .mov (.t 78), none⟩]) (.seq (.ops [⟨some 79, .mov (.t 17), none⟩, ⟨some 80, .bin (.eql) (.other) (.t 79) (.c (.int (.i64) 0)), none⟩, ⟨some 81, .mov (.t 2), none⟩, ⟨some 82, .len (.sl) (.t 81), none⟩, ⟨some 83, .bin (.eql) (.other) (.t 82) (.c (.int (.i64) 0)), none⟩, ⟨some 84, .bin (.neq) (.bool) (.t 80) (.t 83), none⟩]) (.cond (.t 84) (.seq (.ops [⟨some 8, .mov (.c (.bool false)), none⟩]) .ret) .skip))))))) .skip)) C4_86))))
theorem t4x : tab 4 = some ⟨117, [.tmp 8], b4x⟩ := rfl
theorem go_BackC {bs : List Int} {H : Heap} {B : AV} (hB : BytesAt H B bs) (hy : Bytes bs) (hlb : bs.length ≤ 1500000) {base : Nat → AV} {ov : List (Nat × AV)} (hf : Fits base ov [(1, B)]) {K : AR → Prop} (hK : ∀ v h', (fun v h' => v = .bool true) v h' → AtR K (some (v, h'))) : At (kRet [.tmp 8] K) (xcode X1 tab 4 none C4_86 (mk 117 base ov) H) := by
  rw [mk_fits hf]
  clear hf
  generalize lk base ov = base
  try dsimp only at hK
  delta C4_86
  repeat' (first
    | simp (disch := first | exact qd | fail) only [WB, ↓WP, ↓WL, WR, WC, if_true, if_false, ite_true, ite_false, aop, ev, evs, readsA, List.replicate, numF, unA, resA, tupA, loadA, storeA, splice, fillA, kindsOk, plainEq, ↓reduceIte, Nat.reduceEqDiff, Nat.reduceLT, Int.reduceToNat, Int.reduceBEq, Int.reduceBNe, Nat.reduceAdd, Nat.reduceMul, Nat.reduceLeDiff, Int.reduceLT, Int.reduceSub, Int.reduceAdd, put_asm, err_asm, mayC_b, got0, got4, same_asm, ne_eq]
    | ((first | refine atC ?_ ?_ | refine atG ?_ ?_ | refine atH ?_ ?_ | refine atP ?_ ?_) <;> intro hc <;> (try rw [hc]) <;> (try simp only [BD] at hc) <;> try (exfalso; omega))
    | (have q := of_bad (by assumption) e2; refine Runs.call (ref_Same z2 zC (hzd2.grow qg) (.inl ⟨rfl, rfl⟩)) ?_; rintro _ _ ⟨rfl, gr⟩)
    | (have q := of_got hy (by assumption) e2; have q1 := q.1; have q2 := q.2.1; have q3 := q.2.2; refine Runs.call (k_Put z2 (hz2.grow qg) hzo2) ?_; rintro _ H8 ⟨gr, w2, rfl, hw2⟩; have hw2a := NewBytes.at hw2; rw [q3] at hw2a)
    | ((first
      | (refine Runs.call (lives_r _) ?_; rintro _ _ ⟨rfl, rfl⟩)
      | (refine Runs.call (k_Get (hB.grow qg) hy qo) ?_; rintro _ H7 ⟨gr, z2, rfl, e2, hn2, hzo2, hz2⟩; have hzd2 := hz2.1; have hfz2 := BytesAt.flat' hzd2; have hcz2 := cells_of hfz2)
      | (refine Runs.call (f0_Same (hw2a.grow qg) (hB.grow qg)) ?_; rintro _ _ ⟨rfl, rfl⟩)
      | (refine Runs.call (k_May z2 (hz2.grow qg) hzo2) ?_; rintro _ _ ⟨rfl, gr⟩)
      | fail); all_goals ((try (have gn := gr.1; try simp only [nx_alloc, nx_set] at gn)); (try (have an := ha.num; try simp only [nx_alloc, nx_set, own_sl, own_nil] at an)); (try (have on := hO.num; try simp only [nx_alloc, nx_set] at on)); (try (have kn := hk.1; try simp only [nx_alloc, nx_set] at kn)); try have hB := hO.at)))
  all_goals try (first
    | (refine hK _ _ ?_; (first | rfl | fail); done)
    | fail)
theorem go_BackF (a : Cl) {bs ms : List Int} {cut : Int} {h : Heap} {B M : AV} (ha : ClAt h a) (oa : ClOk a) (hB : BytesAt h B bs) (hy : Bytes bs) (hlb : bs.length ≤ 1500000) (hM : BytesAt h M ms) (hym : Bytes ms) (hlm : ms.length ≤ 1500000) (hcut : -9223372036854775808 ≤ cut ∧ cut ≤ 9223372036854775807) (hm : mayC a = false) : Runs (xcall X1 tab (.fn 4) [.agg [.int .u8 a.client, .int .u32 a.inc, .int .u64 a.seq, .int .u8 a.kind, .int .u32 a.hi, .int .u32 a.hg, .str a.name, .int .u32 a.ti, .int .u32 a.tg, .str a.toName, .int .u32 a.off, .int .u32 a.size, a.dv], B, M, .int .i64 cut] h) fun v h' => v = .bool true := by
  refine Runs.intro fun K hK => ?_
  obtain ⟨had, hyd, hyn, hyt, ld, ln, lt⟩ := id ha
  have hfa := BytesAt.flat' had
  have hca := cells_of hfa
  have hea : errC a = 2 := if_neg (by rw [hm]; decide)
  have hpa : putC a = [] := if_neg (by rw [hm]; decide)
  rw [w_fn rfl t4x (Nat.le_of_ble_eq_true rfl)]
  delta b4x
  repeat' (first
    | simp (disch := first | exact qd | fail) only [WB, ↓WP, ↓WL, WR, WC, if_true, if_false, ite_true, ite_false, aop, ev, evs, readsA, List.replicate, numF, unA, resA, tupA, loadA, storeA, splice, fillA, kindsOk, plainEq, ↓reduceIte, Nat.reduceEqDiff, Nat.reduceLT, Int.reduceToNat, Int.reduceBEq, Int.reduceBNe, Nat.reduceAdd, Nat.reduceMul, Nat.reduceLeDiff, Int.reduceLT, Int.reduceSub, Int.reduceAdd, put_asm, err_asm, mayC_b, got0, got4, same_asm, ne_eq]
    | ((first | refine atC ?_ ?_ | refine atG ?_ ?_ | refine atH ?_ ?_ | refine atP ?_ ?_) <;> intro hc <;> (try rw [hc]) <;> (try simp only [BD] at hc) <;> try (exfalso; omega))
    | (refine go_BackC (B := B) ?_ hy hlb ?_ hK; exact hB.grow qg; exact qf)
    | ((first
      | (refine Runs.call (lives_r _) ?_; rintro _ _ ⟨rfl, rfl⟩)
      | (refine Runs.call (k_Put a (ha.grow qg) oa) ?_; rintro _ H1 ⟨gr, q1, rfl, hq1⟩; have hq1a := NewBytes.at hq1; rw [hpa] at hq1a)
      | (refine Runs.call (k_May a (ha.grow qg) oa) ?_; rintro _ _ ⟨rfl, gr⟩)
      | fail); all_goals ((try (have gn := gr.1; try simp only [nx_alloc, nx_set] at gn)); (try (have an := ha.num; try simp only [nx_alloc, nx_set, own_sl, own_nil] at an)); (try (have on := hO.num; try simp only [nx_alloc, nx_set] at on)); (try (have kn := hk.1; try simp only [nx_alloc, nx_set] at kn)); try have hB := hO.at)))
  all_goals try (first
    | (refine hK _ _ ?_; (first | rfl | fail); done)
    | fail)
theorem go_BackT0 (a : Cl) {bs ms : List Int} {cut : Int} {h : Heap} {B M : AV} (ha : ClAt h a) (oa : ClOk a) (hB : BytesAt h B bs) (hy : Bytes bs) (hlb : bs.length ≤ 1500000) (hM : BytesAt h M ms) (hym : Bytes ms) (hlm : ms.length ≤ 1500000) (hcut : -9223372036854775808 ≤ cut ∧ cut ≤ 9223372036854775807) (hm : mayC a = true) (hml : ms.length = 0) : Runs (xcall X1 tab (.fn 4) [.agg [.int .u8 a.client, .int .u32 a.inc, .int .u64 a.seq, .int .u8 a.kind, .int .u32 a.hi, .int .u32 a.hg, .str a.name, .int .u32 a.ti, .int .u32 a.tg, .str a.toName, .int .u32 a.off, .int .u32 a.size, a.dv], B, M, .int .i64 cut] h) fun v h' => v = .bool true := by
  refine Runs.intro fun K hK => ?_
  obtain ⟨had, hyd, hyn, hyt, ld, ln, lt⟩ := id ha
  have hfa := BytesAt.flat' had
  have hca := cells_of hfa
  have hea : errC a = 0 := if_pos hm
  have hpa : putC a = encC a := if_pos hm
  have hyP := encC_by ha
  have hlP := encC_le (mayC_parts hm).2.2.1 (mayC_parts hm).2.1
  have hx := get_enc oa hm
  have hx0 := hx.1
  have hx1 := hx.2
  have hyY := bytes_app hyP hym
  have hlY : (encC a ++ ms).length ≤ 2000000 := by rw [List.length_append]; omega
  clear hx
  have hgy0 : getE (encC a ++ ms) = 0 := by rw [List.eq_nil_of_length_eq_zero hml, List.append_nil]; exact hx0
  rw [w_fn rfl t4x (Nat.le_of_ble_eq_true rfl)]
  delta b4x
  repeat' (first
    | simp (disch := first | exact qd | fail) only [WB, ↓WP, ↓WL, WR, WC, if_true, if_false, ite_true, ite_false, aop, ev, evs, readsA, List.replicate, numF, unA, resA, tupA, loadA, storeA, splice, fillA, kindsOk, plainEq, ↓reduceIte, Nat.reduceEqDiff, Nat.reduceLT, Int.reduceToNat, Int.reduceBEq, Int.reduceBNe, Nat.reduceAdd, Nat.reduceMul, Nat.reduceLeDiff, Int.reduceLT, Int.reduceSub, Int.reduceAdd, put_asm, err_asm, mayC_b, got0, got4, same_asm, ne_eq]
    | ((first | refine atC ?_ ?_ | refine atG ?_ ?_ | refine atH ?_ ?_ | refine atP ?_ ?_) <;> intro hc <;> (try rw [hc]) <;> (try simp only [BD] at hc) <;> try (exfalso; omega))
    | (obtain ⟨c, rfl⟩ := Int.eq_ofNat_of_zero_le (show 0 ≤ cut by omega); have hyc := hyP.take c; have hgc := get_cut oa hm (c := c) qo; refine Runs.call (BytesAt.cutR hq1a (a := 0) (b := c) qg (.inr ⟨rfl, rfl⟩) (.inl rfl) qo qo) ?_; rintro vc _ ⟨rfl, hvc⟩; simp only [List.drop_zero] at hvc)
    | (refine go_BackC (B := B) ?_ hy hlb ?_ hK; exact hB.grow qg; exact qf)
    | ((first
      | (refine Runs.call (lives_r _) ?_; rintro _ _ ⟨rfl, rfl⟩)
      | (refine Runs.call (k_Put a (ha.grow qg) oa) ?_; rintro _ H1 ⟨gr, q1, rfl, hq1⟩; have hq1a := NewBytes.at hq1; rw [hpa] at hq1a)
      | (refine Runs.call (k_May a (ha.grow qg) oa) ?_; rintro _ _ ⟨rfl, gr⟩)
      | (refine Runs.call (k_Get (hq1a.grow qg) hyP qo) ?_; rintro _ H2 ⟨gr, z1, rfl, e1, hn1, hzo1, hz1⟩; have hzd1 := hz1.1; have hfz1 := BytesAt.flat' hzd1; have hcz1 := cells_of hfz1; have e1a := e1.trans hx1)
      | (refine Runs.call (k_Same z1 a (hzd1.grow qg) (had.grow qg)) ?_; rintro _ _ ⟨rfl, gr⟩)
      | (refine Runs.call (ref_Same z1 a (hzd1.grow qg) (had.grow qg)) ?_; rintro _ _ ⟨rfl, gr⟩)
      | (refine Runs.call (k_Get (hvc.grow qg) hyc (by rw [List.length_take]; omega)) ?_; rintro _ H3 ⟨gr, z3, rfl, e3, hn3, hzo3, hz3⟩; have hzd3 := hz3.1; have hfz3 := BytesAt.flat' hzd3; have hcz3 := cells_of hfz3)
      | (refine Runs.call (f0_Copy (hq1a.grow qg) qo) ?_; rintro v4 H4 ⟨gr, hN4⟩; have g4 : Grow h H4 := qg; have hO4 : OwB h.next H4 v4 (encC a) := NewBytes.own (FreshBytes.new hN4) (Grow.nxt qg))
      | (refine Runs.call (OwB.app hO4 g4.1 (hM.grow qg).src qo) ?_; rintro v5 H5 ⟨hO5, ha5⟩; have g5 : Grow h H5 := App.grow ha5 g4 (hO4.num.imp id And.left); have n5 := g5.1)
      | (refine Runs.call (k_Get (hO5.at.grow qg) hyY hlY) ?_; rintro _ H6 ⟨gr, z6, rfl, e6, hn6, hzo6, hz6⟩; have hzd6 := hz6.1; have hfz6 := BytesAt.flat' hzd6; have hcz6 := cells_of hfz6)
      | fail); all_goals ((try (have gn := gr.1; try simp only [nx_alloc, nx_set] at gn)); (try (have an := ha.num; try simp only [nx_alloc, nx_set, own_sl, own_nil] at an)); (try (have on := hO.num; try simp only [nx_alloc, nx_set] at on)); (try (have kn := hk.1; try simp only [nx_alloc, nx_set] at kn)); try have hB := hO.at)))
  all_goals try (first
    | (refine hK _ _ ?_; (first | rfl | fail); done)
    | fail)
theorem go_BackT1 (a : Cl) {bs ms : List Int} {cut : Int} {h : Heap} {B M : AV} (ha : ClAt h a) (oa : ClOk a) (hB : BytesAt h B bs) (hy : Bytes bs) (hlb : bs.length ≤ 1500000) (hM : BytesAt h M ms) (hym : Bytes ms) (hlm : ms.length ≤ 1500000) (hcut : -9223372036854775808 ≤ cut ∧ cut ≤ 9223372036854775807) (hm : mayC a = true) (hml : 0 < ms.length) : Runs (xcall X1 tab (.fn 4) [.agg [.int .u8 a.client, .int .u32 a.inc, .int .u64 a.seq, .int .u8 a.kind, .int .u32 a.hi, .int .u32 a.hg, .str a.name, .int .u32 a.ti, .int .u32 a.tg, .str a.toName, .int .u32 a.off, .int .u32 a.size, a.dv], B, M, .int .i64 cut] h) fun v h' => v = .bool true := by
  refine Runs.intro fun K hK => ?_
  obtain ⟨had, hyd, hyn, hyt, ld, ln, lt⟩ := id ha
  have hfa := BytesAt.flat' had
  have hca := cells_of hfa
  have hea : errC a = 0 := if_pos hm
  have hpa : putC a = encC a := if_pos hm
  have hyP := encC_by ha
  have hlP := encC_le (mayC_parts hm).2.2.1 (mayC_parts hm).2.1
  have hx := get_enc oa hm
  have hx0 := hx.1
  have hx1 := hx.2
  have hyY := bytes_app hyP hym
  have hlY : (encC a ++ ms).length ≤ 2000000 := by rw [List.length_append]; omega
  clear hx
  have hgyn : ¬ getE (encC a ++ ms) = 0 := get_more oa hm hml
  rw [w_fn rfl t4x (Nat.le_of_ble_eq_true rfl)]
  delta b4x
  repeat' (first
    | simp (disch := first | exact qd | fail) only [WB, ↓WP, ↓WL, WR, WC, if_true, if_false, ite_true, ite_false, aop, ev, evs, readsA, List.replicate, numF, unA, resA, tupA, loadA, storeA, splice, fillA, kindsOk, plainEq, ↓reduceIte, Nat.reduceEqDiff, Nat.reduceLT, Int.reduceToNat, Int.reduceBEq, Int.reduceBNe, Nat.reduceAdd, Nat.reduceMul, Nat.reduceLeDiff, Int.reduceLT, Int.reduceSub, Int.reduceAdd, put_asm, err_asm, mayC_b, got0, got4, same_asm, ne_eq]
    | ((first | refine atC ?_ ?_ | refine atG ?_ ?_ | refine atH ?_ ?_ | refine atP ?_ ?_) <;> intro hc <;> (try rw [hc]) <;> (try simp only [BD] at hc) <;> try (exfalso; omega))
    | (obtain ⟨c, rfl⟩ := Int.eq_ofNat_of_zero_le (show 0 ≤ cut by omega); have hyc := hyP.take c; have hgc := get_cut oa hm (c := c) qo; refine Runs.call (BytesAt.cutR hq1a (a := 0) (b := c) qg (.inr ⟨rfl, rfl⟩) (.inl rfl) qo qo) ?_; rintro vc _ ⟨rfl, hvc⟩; simp only [List.drop_zero] at hvc)
    | (refine go_BackC (B := B) ?_ hy hlb ?_ hK; exact hB.grow qg; exact qf)
    | ((first
      | (refine Runs.call (lives_r _) ?_; rintro _ _ ⟨rfl, rfl⟩)
      | (refine Runs.call (k_Put a (ha.grow qg) oa) ?_; rintro _ H1 ⟨gr, q1, rfl, hq1⟩; have hq1a := NewBytes.at hq1; rw [hpa] at hq1a)
      | (refine Runs.call (k_May a (ha.grow qg) oa) ?_; rintro _ _ ⟨rfl, gr⟩)
      | (refine Runs.call (k_Get (hq1a.grow qg) hyP qo) ?_; rintro _ H2 ⟨gr, z1, rfl, e1, hn1, hzo1, hz1⟩; have hzd1 := hz1.1; have hfz1 := BytesAt.flat' hzd1; have hcz1 := cells_of hfz1; have e1a := e1.trans hx1)
      | (refine Runs.call (k_Same z1 a (hzd1.grow qg) (had.grow qg)) ?_; rintro _ _ ⟨rfl, gr⟩)
      | (refine Runs.call (ref_Same z1 a (hzd1.grow qg) (had.grow qg)) ?_; rintro _ _ ⟨rfl, gr⟩)
      | (refine Runs.call (k_Get (hvc.grow qg) hyc (by rw [List.length_take]; omega)) ?_; rintro _ H3 ⟨gr, z3, rfl, e3, hn3, hzo3, hz3⟩; have hzd3 := hz3.1; have hfz3 := BytesAt.flat' hzd3; have hcz3 := cells_of hfz3)
      | (refine Runs.call (f0_Copy (hq1a.grow qg) qo) ?_; rintro v4 H4 ⟨gr, hN4⟩; have g4 : Grow h H4 := qg; have hO4 : OwB h.next H4 v4 (encC a) := NewBytes.own (FreshBytes.new hN4) (Grow.nxt qg))
      | (refine Runs.call (OwB.app hO4 g4.1 (hM.grow qg).src qo) ?_; rintro v5 H5 ⟨hO5, ha5⟩; have g5 : Grow h H5 := App.grow ha5 g4 (hO4.num.imp id And.left); have n5 := g5.1)
      | (refine Runs.call (k_Get (hO5.at.grow qg) hyY hlY) ?_; rintro _ H6 ⟨gr, z6, rfl, e6, hn6, hzo6, hz6⟩; have hzd6 := hz6.1; have hfz6 := BytesAt.flat' hzd6; have hcz6 := cells_of hfz6)
      | fail); all_goals ((try (have gn := gr.1; try simp only [nx_alloc, nx_set] at gn)); (try (have an := ha.num; try simp only [nx_alloc, nx_set, own_sl, own_nil] at an)); (try (have on := hO.num; try simp only [nx_alloc, nx_set] at on)); (try (have kn := hk.1; try simp only [nx_alloc, nx_set] at kn)); try have hB := hO.at)))
  all_goals try (first
    | (refine hK _ _ ?_; (first | rfl | fail); done)
    | fail)
theorem go_Back (a : Cl) {bs ms : List Int} {cut : Int} {h : Heap} {B M : AV} (ha : ClAt h a) (oa : ClOk a) (hB : BytesAt h B bs) (hy : Bytes bs) (hlb : bs.length ≤ 1500000) (hM : BytesAt h M ms) (hym : Bytes ms) (hlm : ms.length ≤ 1500000) (hcut : -9223372036854775808 ≤ cut ∧ cut ≤ 9223372036854775807) : Runs (xcall X1 tab (.fn 4) [.agg [.int .u8 a.client, .int .u32 a.inc, .int .u64 a.seq, .int .u8 a.kind, .int .u32 a.hi, .int .u32 a.hg, .str a.name, .int .u32 a.ti, .int .u32 a.tg, .str a.toName, .int .u32 a.off, .int .u32 a.size, a.dv], B, M, .int .i64 cut] h) fun v h' => v = .bool true := by
  cases hm : mayC a
  · exact go_BackF a ha oa hB hy hlb hM hym hlm hcut hm
  · rcases Nat.eq_zero_or_pos ms.length with hml | hml
    · exact go_BackT0 a ha oa hB hy hlb hM hym hlm hcut hm hml
    · exact go_BackT1 a ha oa hB hy hlb hM hym hlm hcut hm hml
theorem wf_u32 {i : Int} (h : wfInt .u32 i = true) : 0 ≤ i ∧ i ≤ 4294967295 := by
  simpa [wfInt, IntKind.signed, IntKind.bits, IntKind.min, IntKind.max] using h
theorem wf_u64 {i : Int} (h : wfInt .u64 i = true) : 0 ≤ i ∧ i ≤ 18446744073709551615 := by
  simpa [wfInt, IntKind.signed, IntKind.bits, IntKind.min, IntKind.max] using h
theorem wf_i64 {i : Int} (h : wfInt .i64 i = true) : -9223372036854775808 ≤ i ∧ i ≤ 9223372036854775807 := by
  simpa [wfInt, IntKind.signed, IntKind.bits, IntKind.min, IntKind.max] using h
theorem cells_hdl {N k : Nat} {h h' : Heap} {cs : List AV} (hx : cellsX Tryd.prog N (k + 2) 24 h cs h') : ∃ i g, cs = [.int .u32 i, .int .u32 g] ∧ (0 ≤ i ∧ i ≤ 4294967295) ∧ (0 ≤ g ∧ g ≤ 4294967295) ∧ h' = h := by
  obtain ⟨as6, hq, rfl⟩ := cellsX_struct Tryd.underlying24 hx
  obtain ⟨f1, r, m1, rfl, j1, hq⟩ := listX_cons hq
  obtain ⟨f2, r, m2, rfl, j2, hq⟩ := listX_cons hq
  obtain ⟨rfl, rfl⟩ := listX_nil hq
  obtain ⟨ino, rfl, w5, rfl⟩ := cellsX_int Tryd.underlying22 j1
  obtain ⟨gen, rfl, w6, rfl⟩ := cellsX_int Tryd.underlying22 j2
  exact ⟨ino, gen, rfl, wf_u32 w5, wf_u32 w6, rfl⟩
theorem arg_cl {N k : Nat} (hN : N ≤ 2000000) {h h' : Heap} {a : AV} (hx : argX Tryd.prog N (k + 4) 28 h a h') : ∃ z : Cl, a = .agg [.int .u8 z.client, .int .u32 z.inc, .int .u64 z.seq, .int .u8 z.kind, .int .u32 z.hi, .int .u32 z.hg, .str z.name, .int .u32 z.ti, .int .u32 z.tg, .str z.toName, .int .u32 z.off, .int .u32 z.size, z.dv] ∧ ClAt h' z ∧ ClOk z ∧ Grow h h' := by
  obtain ⟨ass, hl, rfl⟩ := argX_struct Tryd.underlying28 hx
  obtain ⟨c1, r, h1, rfl, e1, hl⟩ := listX_cons hl
  obtain ⟨c2, r, h2, rfl, e2, hl⟩ := listX_cons hl
  obtain ⟨c3, r, h3, rfl, e3, hl⟩ := listX_cons hl
  obtain ⟨c4, r, h4, rfl, e4, hl⟩ := listX_cons hl
  obtain ⟨c5, r, h5, rfl, e5, hl⟩ := listX_cons hl
  obtain ⟨c6, r, h6, rfl, e6, hl⟩ := listX_cons hl
  obtain ⟨c7, r, h7, rfl, e7, hl⟩ := listX_cons hl
  obtain ⟨c8, r, h8, rfl, e8, hl⟩ := listX_cons hl
  obtain ⟨c9, r, h9, rfl, e9, hl⟩ := listX_cons hl
  obtain ⟨c10, r, h10, rfl, e10, hl⟩ := listX_cons hl
  obtain ⟨c11, r, h11, rfl, e11, hl⟩ := listX_cons hl
  obtain ⟨rfl, rfl⟩ := listX_nil hl
  obtain ⟨client, rfl, w1, rfl⟩ := cellsX_int Tryd.underlying5 e1
  obtain ⟨inc, rfl, w2, rfl⟩ := cellsX_int Tryd.underlying22 e2
  obtain ⟨seq, rfl, w3, rfl⟩ := cellsX_int Tryd.underlying23 e3
  obtain ⟨kind, rfl, w4, rfl⟩ := cellsX_int Tryd.underlying5 e4
  obtain ⟨hi, hg, rfl, w5, w6, rfl⟩ := cells_hdl e5
  obtain ⟨name, rfl, w7, n7, rfl⟩ := cellsX_string Tryd.underlying9 e6
  obtain ⟨ti, tg, rfl, w8, w9, rfl⟩ := cells_hdl e7
  obtain ⟨toName, rfl, w10, n10, rfl⟩ := cellsX_string Tryd.underlying9 e8
  obtain ⟨off, rfl, w11, rfl⟩ := cellsX_int Tryd.underlying22 e9
  obtain ⟨size, rfl, w12, rfl⟩ := cellsX_int Tryd.underlying22 e10
  obtain ⟨dv, data, rfl, b1, b2, b3, g1⟩ := cells_bytes Tryd.underlying26 Tryd.underlying5 (by kernel_rfl) e11
  exact ⟨⟨client, inc, seq, kind, hi, hg, name, ti, tg, toName, off, size, dv, data⟩, rfl, ⟨b1, b2, wf_bytes w7, wf_bytes w10, Nat.le_trans b3 hN, Nat.le_trans n7 hN, Nat.le_trans n10 hN⟩,
    ⟨wf_u8 w1, wf_u32 w2, wf_u64 w3, wf_u8 w4, w5, w6, w8, w9, wf_u32 w11, wf_u32 w12⟩, g1⟩
theorem run_Back (N : Nat) (hN : N ≤ 1048576) : ∀ h xs, (∀ l, AV.str l ∈ xs → l.length ≤ 9223372036854775807) → argsT Tryd.prog N h 6 Tryd.f4.params.toList xs → argsX Tryd.prog N 6 Tryd.f4.params.toList emptyHeap xs h →
    ∃ n h', acall X1 tab n (.fn 4) xs h = some (.bool true, h') ∨ (AV.bares xs = true ∧ acall X1 tab n (.fn 4) xs emptyHeap = some (.bool true, h')) := by
  intro h xs hs _ hx
  rw [Tryd.params4] at hx
  obtain ⟨A, _, h1, rfl, e1, hx⟩ := argsX_cons hx
  obtain ⟨B, _, h2, rfl, e2, hx⟩ := argsX_cons hx
  obtain ⟨M, _, h3, rfl, e3, hx⟩ := argsX_cons hx
  obtain ⟨x, _, h4, rfl, e4, hx⟩ := argsX_cons hx
  obtain ⟨rfl, rfl⟩ := argsX_nil hx
  obtain ⟨a, rfl, a1, a2, g1⟩ := arg_cl qo e1
  obtain ⟨bs, b1, b2, b3, g2⟩ := arg_bytes Tryd.underlying26 Tryd.underlying5 (by kernel_rfl) e2
  obtain ⟨ms, c1, c2, c3, g3⟩ := arg_bytes Tryd.underlying26 Tryd.underlying5 (by kernel_rfl) e3
  obtain ⟨x, rfl, w1, rfl⟩ := argX_int Tryd.underlying3 e4
  obtain ⟨v, h', e, rfl⟩ := go_Back a (cut := x) ((a1.grow g2).grow g3) a2 (b1.grow g3) b2 qo c1 c2 qo (wf_i64 w1)
  exact ranX e
end Go.Proofs.YtcfmccafbknleaaDoor.Ya
