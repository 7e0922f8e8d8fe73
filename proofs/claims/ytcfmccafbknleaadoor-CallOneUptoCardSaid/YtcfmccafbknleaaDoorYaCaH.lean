/-
  Calls: the laws walked.
-/
import Derived.Test.YtcfmccafbknleaaDoorYaCaG
import Derived.Test.YtcfmccafbknleaaDoorYbL
namespace Go.Proofs.YtcfmccafbknleaaDoor.Ya
open Go.Ya Go.Ya.Na
set_option linter.unusedVariables false
set_option linter.unusedSimpArgs false
set_option maxRecDepth 100000
set_option maxHeartbeats 8000000
abbrev ownC (a : Cl) (w : AV) : Cl := { a with dv := w }
theorem ClAt.own {h H : Heap} {a : Cl} {w : AV} (ha : ClAt h a) (hw : BytesAt H w a.data) : ClAt H (ownC a w) := ⟨hw, ha.2⟩
theorem only_size {z : Cl} (h : ¬ z.kind = 2) (h2 : ¬ z.kind = 4) : (onlyC z).size = 0 := by
  unfold onlyC
  repeat' split
  all_goals first | rfl | contradiction
theorem only_off {z : Cl} (h : ¬ z.kind = 4) (h2 : ¬ z.kind = 5) : (onlyC z).off = 0 := by
  unfold onlyC
  repeat' split
  all_goals first | rfl | contradiction
theorem only_name {z : Cl} (h : ¬ named z.kind) (h2 : ¬ z.kind = 11) : (onlyC z).name = [] := by
  unfold onlyC
  repeat' split
  all_goals first | rfl | contradiction
theorem only_ti {z : Cl} (h : ¬ z.kind = 11) : (onlyC z).ti = 0 := by
  unfold onlyC
  repeat' split
  all_goals first | rfl | contradiction
theorem only_toName {z : Cl} (h : ¬ z.kind = 11) : (onlyC z).toName = [] := by
  unfold onlyC
  repeat' split
  all_goals first | rfl | contradiction
abbrev wsize (z : Cl) (k : Int) : Cl := { z with size := k }
abbrev woff (z : Cl) (k : Int) : Cl := { z with off := k }
abbrev wname (z : Cl) (s : List Int) : Cl := { z with name := s }
abbrev wti (z : Cl) (k : Int) : Cl := { z with ti := k }
abbrev wtoName (z : Cl) (s : List Int) : Cl := { z with toName := s }
theorem may_not {y : Cl} (h : ¬ (onlyC y).en = y.en) : mayC y = false := by
  cases e : mayC y
  · rfl
  · exact absurd (mayC_parts e).2.2.2 h
theorem one_a {z : Cl} {k : Int} (h : ¬ z.kind = 2) (h2 : ¬ z.kind = 4) (hk : ¬ k = 0) : mayC (wsize z k) = false := may_not fun e => hk ((congrArg Cl.size e).symm.trans (only_size (z := { z with size := k }) h h2))
theorem one_b {z : Cl} {k : Int} (h : ¬ z.kind = 4) (h2 : ¬ z.kind = 5) (hk : ¬ k = 0) : mayC (woff z k) = false := may_not fun e => hk ((congrArg Cl.off e).symm.trans (only_off (z := { z with off := k }) h h2))
theorem one_d {z : Cl} {s : List Int} (h : ¬ (z.kind = 3 ∨ (7 ≤ z.kind ∧ z.kind ≤ 11))) (hk : ¬ s = []) : mayC (wname z s) = false := may_not fun e => hk ((congrArg Cl.name e).symm.trans (only_name (z := { z with name := s }) (fun q => by have q : z.kind = 3 ∨ z.kind = 7 ∨ z.kind = 8 ∨ z.kind = 9 ∨ z.kind = 10 := q; omega) (show ¬ z.kind = 11 by omega)))
theorem one_e {z : Cl} {k : Int} (h : ¬ z.kind = 11) (hk : ¬ k = 0) : mayC (wti z k) = false := may_not fun e => hk ((congrArg Cl.ti e).symm.trans (only_ti (z := { z with ti := k }) h))
theorem one_f {z : Cl} {s : List Int} (h : ¬ z.kind = 11) (hk : ¬ s = []) : mayC (wtoName z s) = false := may_not fun e => hk ((congrArg Cl.toName e).symm.trans (only_toName (z := { z with toName := s }) h))
theorem t3 : tab 3 = some ⟨107, [.tmp 6], b3⟩ := rfl
def C5_72 : SC := (.seq (.seq (.ops [⟨some 72, .mov (.t 7), none⟩, ⟨some 73, .un (.not) (.t 72), none⟩, ⟨some 74, .mov (.t 73), none⟩, ⟨some 75, .load true 13 (.t 10), some (74, true)⟩, ⟨some 76, .call 11 [.t 75], some (74, true)⟩, ⟨some 77, .pick (.t 74) (.t 76) (.c (.bool false)), none⟩, ⟨some 78, .mov (.t 77), none⟩, ⟨some 79, .mov (.t 8), some (78, false)⟩, ⟨some 80, .un (.not) (.t 79), some (78, false)⟩, ⟨some 81, .mov (.t 80), some (78, false)⟩, ⟨some 82, .load true 13 (.t 11), some (81, true)⟩, ⟨some 83, .call 11 [.t 82], some (81, true)⟩, ⟨some 84, .pick (.t 81) (.t 83) (.c (.bool false)), some (78, false)⟩, ⟨some 85, .pick (.t 78) (.c (.bool true)) (.t 84), none⟩, ⟨some 86, .mov (.t 85), none⟩, ⟨some 87, .mov (.t 9), some (86, false)⟩, ⟨some 88, .un (.not) (.t 87), some (86, false)⟩, ⟨some 89, .mov (.t 88), some (86, false)⟩, ⟨some 90, .load true 13 (.t 12), some (89, true)⟩, ⟨some 91, .call 11 [.t 90], some (89, true)⟩, ⟨some 92, .pick (.t 89) (.t 91) (.c (.bool false)), some (86, false)⟩, ⟨some 93, .pick (.t 86) (.c (.bool true)) (.t 92), none⟩]) (.cond (.t 93) (.seq (.ops [⟨some 6, .mov (.c (.bool false)), none⟩]) .ret) .skip)) (.seq (.ops [⟨some 94, .fieldAddr 3 (.t 3), none⟩, ⟨some 95, .load false 1 (.t 94), none⟩, ⟨some 96, .bin (.eql) (.other) (.t 95) (.c (.int (.u8) 11)), none⟩, ⟨some 97, .mov (.t 96), none⟩, ⟨some 98, .load true 13 (.t 13), some (97, false)⟩, ⟨some 99, .call 11 [.t 98], some (97, false)⟩, ⟨some 100, .un (.not) (.t 99), some (97, false)⟩, ⟨some 101, .mov (.t 100), some (97, false)⟩, ⟨some 102, .load true 13 (.t 14), some (101, true)⟩, ⟨some 103, .call 11 [.t 102], some (101, true)⟩, ⟨some 104, .un (.not) (.t 103), some (101, true)⟩, ⟨some 105, .pick (.t 101) (.t 104) (.c (.bool false)), some (97, false)⟩, ⟨some 106, .pick (.t 97) (.c (.bool true)) (.t 105), none⟩, ⟨some 107, .mov (.t 106), none⟩, ⟨some 108, .call 19 [], some (107, true)⟩, ⟨some 109, .pick (.t 107) (.t 108) (.c (.bool false)), none⟩, ⟨some 6, .mov (.t 109), none⟩]) .ret))
def C5_56 : SC := (.seq (.drawOps [⟨some 56, .load true 13 (.t 3), none⟩, ⟨some 57, .load true 13 (.t 3), none⟩, ⟨some 58, .load true 13 (.t 3), none⟩, ⟨some 59, .load true 13 (.t 3), none⟩, ⟨some 60, .load true 13 (.t 3), none⟩, ⟨some 10, .box (.c (.agg [.int (.u8) 0, .int (.u32) 0, .int (.u64) 0, .int (.u8) 0, .int (.u32) 0, .int (.u32) 0, .str [], .int (.u32) 0, .int (.u32) 0, .str [], .int (.u32) 0, .int (.u32) 0, .nilsl])), none⟩, ⟨some 11, .box (.c (.agg [.int (.u8) 0, .int (.u32) 0, .int (.u64) 0, .int (.u8) 0, .int (.u32) 0, .int (.u32) 0, .str [], .int (.u32) 0, .int (.u32) 0, .str [], .int (.u32) 0, .int (.u32) 0, .nilsl])), none⟩, ⟨some 12, .box (.c (.agg [.int (.u8) 0, .int (.u32) 0, .int (.u64) 0, .int (.u8) 0, .int (.u32) 0, .int (.u32) 0, .str [], .int (.u32) 0, .int (.u32) 0, .str [], .int (.u32) 0, .int (.u32) 0, .nilsl])), none⟩, ⟨some 13, .box (.c (.agg [.int (.u8) 0, .int (.u32) 0, .int (.u64) 0, .int (.u8) 0, .int (.u32) 0, .int (.u32) 0, .str [], .int (.u32) 0, .int (.u32) 0, .str [], .int (.u32) 0, .int (.u32) 0, .nilsl])), none⟩, ⟨some 14, .box (.c (.agg [.int (.u8) 0, .int (.u32) 0, .int (.u64) 0, .int (.u8) 0, .int (.u32) 0, .int (.u32) 0, .str [], .int (.u32) 0, .int (.u32) 0, .str [], .int (.u32) 0, .int (.u32) 0, .nilsl])), none⟩, ⟨none, .store 13 (.t 10) (.t 56), none⟩, ⟨none, .store 13 (.t 11) (.t 57), none⟩, ⟨none, .store 13 (.t 12) (.t 58), none⟩, ⟨none, .store 13 (.t 13) (.t 59), none⟩, ⟨none, .store 13 (.t 14) (.t 60), none⟩] [(0, 5), (0, 6), (0, 7), (0, 8), (0, 9), (1, 5), (1, 6), (1, 7), (1, 8), (1, 9), (1, 10), (2, 5), (2, 6), (2, 7), (2, 8), (2, 9), (2, 10), (2, 11), (3, 5), (3, 6), (3, 7), (3, 8), (3, 9), (3, 10), (3, 11), (3, 12), (4, 5), (4, 6), (4, 7), (4, 8), (4, 9), (4, 10), (4, 11), (4, 12), (4, 13)]) (.seq (.ops [⟨some 61, .mov (.t 1), none⟩, ⟨some 62, .fieldAddr 11 (.t 10), none⟩, ⟨none, .store 1 (.t 62) (.t 61), none⟩]) (.seq (.ops [⟨some 63, .mov (.t 1), none⟩, ⟨some 64, .fieldAddr 10 (.t 11), none⟩, ⟨none, .store 1 (.t 64) (.t 63), none⟩]) (.seq (.ops [⟨some 65, .mov (.t 2), none⟩, ⟨some 66, .fieldAddr 6 (.t 12), none⟩, ⟨none, .store 1 (.t 66) (.t 65), none⟩]) (.seq (.ops [⟨some 67, .mov (.t 1), none⟩, ⟨some 68, .fieldAddr 7 (.t 13), none⟩, ⟨some 69, .fieldAddr 0 (.t 68), none⟩, ⟨none, .store 1 (.t 69) (.t 67), none⟩]) (.seq (.ops [⟨some 70, .mov (.t 2), none⟩, ⟨some 71, .fieldAddr 9 (.t 14), none⟩, ⟨none, .store 1 (.t 71) (.t 70), none⟩]) C5_72))))))
def b5x : SC := (.seq (.ops [⟨some 3, .box (.t 0), none⟩, ⟨some 6, .mov (.c (.bool false)), none⟩]) (.seq (.seq (.ops [⟨some 15, .load true 13 (.t 3), none⟩, ⟨some 16, .call 11 [.t 15], none⟩, ⟨some 17, .un (.not) (.t 16), none⟩, ⟨some 18, .mov (.t 17), none⟩, ⟨some 19, .mov (.t 1), some (18, false)⟩, ⟨some 20, .bin (.eql) (.other) (.t 19) (.c (.int (.u32) 0)), some (18, false)⟩, ⟨some 21, .pick (.t 18) (.c (.bool true)) (.t 20), none⟩, ⟨some 22, .mov (.t 21), none⟩, ⟨some 23, .mov (.t 2), some (22, false)⟩, ⟨some 24, .bin (.eql) (.str) (.t 23) (.c (.str [])), some (22, false)⟩, ⟨some 25, .pick (.t 22) (.c (.bool true)) (.t 24), none⟩]) (.cond (.t 25) (.seq (.ops [⟨some 26, .call 19 [], none⟩, ⟨some 6, .mov (.t 26), none⟩]) .ret) .skip)) (.seq (.ops [⟨some 27, .fieldAddr 3 (.t 3), none⟩, ⟨some 28, .load false 1 (.t 27), none⟩, ⟨some 29, .bin (.eql) (.other) (.t 28) (.c (.int (.u8) 2)), none⟩, ⟨some 30, .mov (.t 29), none⟩, ⟨some 31, .fieldAddr 3 (.t 3), some (30, false)⟩, ⟨some 32, .load false 1 (.t 31), some (30, false)⟩, ⟨some 33, .bin (.eql) (.other) (.t 32) (.c (.int (.u8) 4)), some (30, false)⟩, ⟨some 34, .pick (.t 30) (.c (.bool true)) (.t 33), none⟩, ⟨some 7, .mov (.t 34), none⟩]) (.seq (.ops [⟨some 35, .fieldAddr 3 (.t 3), none⟩, ⟨some 36, .load false 1 (.t 35), none⟩, ⟨some 37, .bin (.eql) (.other) (.t 36) (.c (.int (.u8) 4)), none⟩, ⟨some 38, .mov (.t 37), none⟩, ⟨some 39, .fieldAddr 3 (.t 3), some (38, false)⟩, ⟨some 40, .load false 1 (.t 39), some (38, false)⟩, ⟨some 41, .bin (.eql) (.other) (.t 40) (.c (.int (.u8) 5)), some (38, false)⟩, ⟨some 42, .pick (.t 38) (.c (.bool true)) (.t 41), none⟩, ⟨some 8, .mov (.t 42), none⟩]) (.seq (.ops [⟨some 43, .fieldAddr 3 (.t 3), none⟩, ⟨some 44, .load false 1 (.t 43), none⟩, ⟨some 45, .bin (.eql) (.other) (.t 44) (.c (.int (.u8) 3)), none⟩, ⟨some 46, .mov (.t 45), none⟩, ⟨some 47, .fieldAddr 3 (.t 3), some (46, false)⟩, ⟨some 48, .load false 1 (.t 47), some (46, false)⟩, ⟨some 49, .bin (.geq) (.other) (.t 48) (.c (.int (.u8) 7)), some (46, false)⟩, ⟨some 50, .mov (.t 49), some (46, false)⟩, ⟨some 51, .fieldAddr 3 (.t 3), some (50, true)⟩, ⟨some 52, .load false 1 (.t 51), some (50, true)⟩, ⟨some 53, .bin (.leq) (.other) (.t 52) (.c (.int (.u8) 11)), some (50, true)⟩, ⟨some 54, .pick (.t 50) (.t 53) (.c (.bool false)), some (46, false)⟩, ⟨some 55, .pick (.t 46) (.c (.bool true)) (.t 54), none⟩, ⟨some 9, .mov (.t 55), none⟩]) C5_56)))))
theorem t5x : tab 5 = some ⟨110, [.tmp 6], b5x⟩ := rfl
theorem go_OneD (a : Cl) {k : Int} {s : List Int} {H : Heap} {b7 b8 b9 : Bool} (ha : ClAt H a) (oa : ClOk a) (hk : 0 ≤ k ∧ k ≤ 4294967295) (hys : Bytes s) (hls : s.length ≤ 2000000) (q7 : b7 = false → mayC (wsize a k) = false) (q8 : b8 = false → mayC (woff a k) = false) (q9 : b9 = false → mayC (wname a s) = false) (q11 : ¬ a.kind = 11 → mayC (wti a k) = false) (q12 : ¬ a.kind = 11 → mayC (wtoName a s) = false) {q : Nat} (hq : H.get q = some (.cells [.int .u8 a.client, .int .u32 a.inc, .int .u64 a.seq, .int .u8 a.kind, .int .u32 a.hi, .int .u32 a.hg, .str a.name, .int .u32 a.ti, .int .u32 a.tg, .str a.toName, .int .u32 a.off, .int .u32 a.size, a.dv] false)) {p10 p11 p12 p13 p14 : Nat} (h10 : H.get p10 = some (.cells [.int .u8 (wsize a k).client, .int .u32 (wsize a k).inc, .int .u64 (wsize a k).seq, .int .u8 (wsize a k).kind, .int .u32 (wsize a k).hi, .int .u32 (wsize a k).hg, .str (wsize a k).name, .int .u32 (wsize a k).ti, .int .u32 (wsize a k).tg, .str (wsize a k).toName, .int .u32 (wsize a k).off, .int .u32 (wsize a k).size, (wsize a k).dv] false)) (h11 : H.get p11 = some (.cells [.int .u8 (woff a k).client, .int .u32 (woff a k).inc, .int .u64 (woff a k).seq, .int .u8 (woff a k).kind, .int .u32 (woff a k).hi, .int .u32 (woff a k).hg, .str (woff a k).name, .int .u32 (woff a k).ti, .int .u32 (woff a k).tg, .str (woff a k).toName, .int .u32 (woff a k).off, .int .u32 (woff a k).size, (woff a k).dv] false)) (h12 : H.get p12 = some (.cells [.int .u8 (wname a s).client, .int .u32 (wname a s).inc, .int .u64 (wname a s).seq, .int .u8 (wname a s).kind, .int .u32 (wname a s).hi, .int .u32 (wname a s).hg, .str (wname a s).name, .int .u32 (wname a s).ti, .int .u32 (wname a s).tg, .str (wname a s).toName, .int .u32 (wname a s).off, .int .u32 (wname a s).size, (wname a s).dv] false)) (h13 : H.get p13 = some (.cells [.int .u8 (wti a k).client, .int .u32 (wti a k).inc, .int .u64 (wti a k).seq, .int .u8 (wti a k).kind, .int .u32 (wti a k).hi, .int .u32 (wti a k).hg, .str (wti a k).name, .int .u32 (wti a k).ti, .int .u32 (wti a k).tg, .str (wti a k).toName, .int .u32 (wti a k).off, .int .u32 (wti a k).size, (wti a k).dv] false)) (h14 : H.get p14 = some (.cells [.int .u8 (wtoName a s).client, .int .u32 (wtoName a s).inc, .int .u64 (wtoName a s).seq, .int .u8 (wtoName a s).kind, .int .u32 (wtoName a s).hi, .int .u32 (wtoName a s).hg, .str (wtoName a s).name, .int .u32 (wtoName a s).ti, .int .u32 (wtoName a s).tg, .str (wtoName a s).toName, .int .u32 (wtoName a s).off, .int .u32 (wtoName a s).size, (wtoName a s).dv] false)) {base : Nat → AV} {ov : List (Nat × AV)} (hf : Fits base ov [(3, .ptr q 0), (7, .bool b7), (8, .bool b8), (9, .bool b9), (10, .ptr p10 0), (11, .ptr p11 0), (12, .ptr p12 0), (13, .ptr p13 0), (14, .ptr p14 0)]) {K : AR → Prop} (hK : ∀ v h', (fun v h' => v = .bool true) v h' → AtR K (some (v, h'))) : At (kRet [.tmp 6] K) (xcode X1 tab 5 none C5_72 (mk 110 base ov) H) := by
  rw [mk_fits hf]
  clear hf
  generalize lk base ov = base
  try dsimp only at hK
  obtain ⟨had, hyd, hyn, hyt, ld, ln, lt⟩ := id ha
  have hfa := BytesAt.flat' had
  have hca := cells_of hfa
  obtain ⟨oa1, oa2, oa3, oa4, oa5, oa6, oa7, oa8, oa9, oa10⟩ := id oa
  have hqlt := Heap.lt_of_get hq
  have hl10 := Heap.lt_of_get h10
  have hl11 := Heap.lt_of_get h11
  have hl12 := Heap.lt_of_get h12
  have hl13 := Heap.lt_of_get h13
  have hl14 := Heap.lt_of_get h14
  delta C5_72
  repeat' (first
    | simp (disch := first | exact qd | fail) only [WB, ↓WP, ↓WL, WR, WC, if_true, if_false, ite_true, ite_false, aop, ev, evs, readsA, List.replicate, numF, unA, resA, tupA, loadA, storeA, splice, fillA, kindsOk, plainEq, ↓reduceIte, Nat.reduceEqDiff, Nat.reduceLT, Int.reduceToNat, Int.reduceBEq, Int.reduceBNe, Nat.reduceAdd, Nat.reduceMul, Nat.reduceLeDiff, Int.reduceLT, Int.reduceSub, Int.reduceAdd, mayC_b, ne_eq]
    | ((first | refine atC ?_ ?_ | refine atG ?_ ?_ | refine atH ?_ ?_ | refine atP ?_ ?_) <;> intro hc <;> (try rw [hc]) <;> (try simp only [BD] at hc) <;> try (exfalso; omega))
    | ((first
      | (refine Runs.call (lives_r _) ?_; rintro _ _ ⟨rfl, rfl⟩)
      | (refine Runs.call (k_May (wsize a k) ⟨had.grow qg, hyd, hyn, hyt, ld, ln, lt⟩ ⟨oa1, oa2, oa3, oa4, oa5, oa6, oa7, oa8, oa9, hk⟩) ?_; rintro _ _ ⟨rfl, gr⟩; have qsize := q7 (by assumption))
      | (refine Runs.call (k_May (woff a k) ⟨had.grow qg, hyd, hyn, hyt, ld, ln, lt⟩ ⟨oa1, oa2, oa3, oa4, oa5, oa6, oa7, oa8, hk, oa10⟩) ?_; rintro _ _ ⟨rfl, gr⟩; have qoff := q8 (by assumption))
      | (refine Runs.call (k_May (wname a s) ⟨had.grow qg, hyd, hys, hyt, ld, hls, lt⟩ oa) ?_; rintro _ _ ⟨rfl, gr⟩; have qname := q9 (by assumption))
      | (refine Runs.call (k_May (wti a k) ⟨had.grow qg, hyd, hyn, hyt, ld, ln, lt⟩ ⟨oa1, oa2, oa3, oa4, oa5, oa6, hk, oa8, oa9, oa10⟩) ?_; rintro _ _ ⟨rfl, gr⟩; have qti := q11 (by assumption))
      | (refine Runs.call (k_May (wtoName a s) ⟨had.grow qg, hyd, hyn, hys, ld, ln, hls⟩ oa) ?_; rintro _ _ ⟨rfl, gr⟩; have qtoName := q12 (by assumption))
      | fail); all_goals ((try (have gn := gr.1; try simp only [nx_alloc, nx_set] at gn)); (try (have an := ha.num; try simp only [nx_alloc, nx_set, own_sl, own_nil] at an)); (try (have on := hO.num; try simp only [nx_alloc, nx_set] at on)); (try (have kn := hk.1; try simp only [nx_alloc, nx_set] at kn)); try have hB := hO.at)))
  all_goals try (first
    | (refine hK _ _ ?_; (first | rfl | fail); done)
    | fail)
theorem go_OneC (a : Cl) {k : Int} {s : List Int} {H : Heap} {b7 b8 b9 : Bool} (ha : ClAt H a) (oa : ClOk a) (hk : 0 ≤ k ∧ k ≤ 4294967295) (hys : Bytes s) (hls : s.length ≤ 2000000) (q7 : b7 = false → mayC (wsize a k) = false) (q8 : b8 = false → mayC (woff a k) = false) (q9 : b9 = false → mayC (wname a s) = false) (q11 : ¬ a.kind = 11 → mayC (wti a k) = false) (q12 : ¬ a.kind = 11 → mayC (wtoName a s) = false) {q : Nat} (hq : H.get q = some (.cells [.int .u8 a.client, .int .u32 a.inc, .int .u64 a.seq, .int .u8 a.kind, .int .u32 a.hi, .int .u32 a.hg, .str a.name, .int .u32 a.ti, .int .u32 a.tg, .str a.toName, .int .u32 a.off, .int .u32 a.size, a.dv] false)) {base : Nat → AV} {ov : List (Nat × AV)} (hf : Fits base ov [(1, .int .u32 k), (2, .str s), (3, .ptr q 0), (7, .bool b7), (8, .bool b8), (9, .bool b9)]) {K : AR → Prop} (hK : ∀ v h', (fun v h' => v = .bool true) v h' → AtR K (some (v, h'))) : At (kRet [.tmp 6] K) (xcode X1 tab 5 none C5_56 (mk 110 base ov) H) := by
  rw [mk_fits hf]
  clear hf
  generalize lk base ov = base
  try dsimp only at hK
  obtain ⟨had, hyd, hyn, hyt, ld, ln, lt⟩ := id ha
  have hfa := BytesAt.flat' had
  have hca := cells_of hfa
  obtain ⟨oa1, oa2, oa3, oa4, oa5, oa6, oa7, oa8, oa9, oa10⟩ := id oa
  have hqlt := Heap.lt_of_get hq
  delta C5_56
  repeat' (first
    | simp (disch := first | exact qd | fail) only [WB, ↓WP, ↓WL, WR, WC, if_true, if_false, ite_true, ite_false, aop, ev, evs, readsA, List.replicate, numF, unA, resA, tupA, loadA, storeA, splice, fillA, kindsOk, plainEq, ↓reduceIte, Nat.reduceEqDiff, Nat.reduceLT, Int.reduceToNat, Int.reduceBEq, Int.reduceBNe, Nat.reduceAdd, Nat.reduceMul, Nat.reduceLeDiff, Int.reduceLT, Int.reduceSub, Int.reduceAdd, mayC_b, ne_eq]
    | ((first | refine atC ?_ ?_ | refine atG ?_ ?_ | refine atH ?_ ?_ | refine atP ?_ ?_) <;> intro hc <;> (try rw [hc]) <;> (try simp only [BD] at hc) <;> try (exfalso; omega))
    | (refine go_OneD a (H := _) (b7 := b7) (b8 := b8) (b9 := b9) (q := q) (p10 := H.next) (p11 := H.next + 1) (p12 := H.next + 1 + 1) (p13 := H.next + 1 + 1 + 1) (p14 := H.next + 1 + 1 + 1 + 1) (ha.grow qg) oa hk hys hls q7 q8 q9 q11 q12 ?_ ?_ ?_ ?_ ?_ ?_ ?_ hK; exact qs; exact qs; exact qs; exact qs; exact qs; exact qs; exact qf))
  all_goals try (first
    | (refine hK _ _ ?_; (first | rfl | fail); done)
    | fail)
theorem go_One (a : Cl) {k : Int} {s : List Int} {h : Heap} (ha : ClAt h a) (oa : ClOk a) (hk : 0 ≤ k ∧ k ≤ 4294967295) (hys : Bytes s) (hls : s.length ≤ 2000000) : Runs (xcall X1 tab (.fn 5) [.agg [.int .u8 a.client, .int .u32 a.inc, .int .u64 a.seq, .int .u8 a.kind, .int .u32 a.hi, .int .u32 a.hg, .str a.name, .int .u32 a.ti, .int .u32 a.tg, .str a.toName, .int .u32 a.off, .int .u32 a.size, a.dv], .int .u32 k, .str s] h) fun v h' => v = .bool true := by
  refine Runs.intro fun K hK => ?_
  obtain ⟨had, hyd, hyn, hyt, ld, ln, lt⟩ := id ha
  have hfa := BytesAt.flat' had
  have hca := cells_of hfa
  obtain ⟨oa1, oa2, oa3, oa4, oa5, oa6, oa7, oa8, oa9, oa10⟩ := id oa
  rw [w_fn rfl t5x (Nat.le_of_ble_eq_true rfl)]
  delta b5x
  repeat' (first
    | simp (disch := first | exact qd | fail) only [WB, ↓WP, ↓WL, WR, WC, if_true, if_false, ite_true, ite_false, aop, ev, evs, readsA, List.replicate, numF, unA, resA, tupA, loadA, storeA, splice, fillA, kindsOk, plainEq, ↓reduceIte, Nat.reduceEqDiff, Nat.reduceLT, Int.reduceToNat, Int.reduceBEq, Int.reduceBNe, Nat.reduceAdd, Nat.reduceMul, Nat.reduceLeDiff, Int.reduceLT, Int.reduceSub, Int.reduceAdd, mayC_b, ne_eq]
    | ((first | refine atC ?_ ?_ | refine atG ?_ ?_ | refine atH ?_ ?_ | refine atP ?_ ?_) <;> intro hc <;> (try rw [hc]) <;> (try simp only [BD] at hc) <;> try (exfalso; omega))
    | (refine go_OneC a (b7 := true) (b8 := false) (b9 := false) (H := H1) (q := h.next) (ha.grow gH) oa hk hys hls ?_ ?_ ?_ ?_ ?_ hq1 ?_ hK; rotate_left 5; (focus simp only [keeps_nil, keeps_cons, fits_nil, fits_cons, List.cons_append, List.nil_append, lk_cons, lk_nil, numF, Nat.reduceEqDiff, Nat.reduceAdd, Nat.zero_add, ↓reduceIte, and_true, true_and, and_self]; done); (intro q; (try simp only [decide_eq_false_iff_not, beq_eq_false_iff_ne, ne_eq] at q); first | exact one_a (z := a) (k := k) (by  omega) (by  omega) (by  omega) | cases q); (intro q; (try simp only [decide_eq_false_iff_not, beq_eq_false_iff_ne, ne_eq] at q); first | exact one_b (z := a) (k := k) (by  omega) (by  omega) (by  omega) | cases q); (intro q; (try simp only [decide_eq_false_iff_not, beq_eq_false_iff_ne, ne_eq] at q); first | exact one_d (z := a) (s := s) (by  omega) (by assumption) | cases q); (intro q; exact one_e (z := a) (k := k) q (by  omega)); (intro q; exact one_f (z := a) (s := s) q (by assumption)))
    | (refine go_OneC a (b7 := true) (b8 := true) (b9 := false) (H := H1) (q := h.next) (ha.grow gH) oa hk hys hls ?_ ?_ ?_ ?_ ?_ hq1 ?_ hK; rotate_left 5; (focus simp only [keeps_nil, keeps_cons, fits_nil, fits_cons, List.cons_append, List.nil_append, lk_cons, lk_nil, numF, Nat.reduceEqDiff, Nat.reduceAdd, Nat.zero_add, ↓reduceIte, and_true, true_and, and_self]; done); (intro q; (try simp only [decide_eq_false_iff_not, beq_eq_false_iff_ne, ne_eq] at q); first | exact one_a (z := a) (k := k) (by  omega) (by  omega) (by  omega) | cases q); (intro q; (try simp only [decide_eq_false_iff_not, beq_eq_false_iff_ne, ne_eq] at q); first | exact one_b (z := a) (k := k) (by  omega) (by  omega) (by  omega) | cases q); (intro q; (try simp only [decide_eq_false_iff_not, beq_eq_false_iff_ne, ne_eq] at q); first | exact one_d (z := a) (s := s) (by  omega) (by assumption) | cases q); (intro q; exact one_e (z := a) (k := k) q (by  omega)); (intro q; exact one_f (z := a) (s := s) q (by assumption)))
    | (refine go_OneC a (b7 := false) (b8 := false) (b9 := true) (H := H1) (q := h.next) (ha.grow gH) oa hk hys hls ?_ ?_ ?_ ?_ ?_ hq1 ?_ hK; rotate_left 5; (focus simp only [keeps_nil, keeps_cons, fits_nil, fits_cons, List.cons_append, List.nil_append, lk_cons, lk_nil, numF, Nat.reduceEqDiff, Nat.reduceAdd, Nat.zero_add, ↓reduceIte, and_true, true_and, and_self]; done); (intro q; (try simp only [decide_eq_false_iff_not, beq_eq_false_iff_ne, ne_eq] at q); first | exact one_a (z := a) (k := k) (by  omega) (by  omega) (by  omega) | cases q); (intro q; (try simp only [decide_eq_false_iff_not, beq_eq_false_iff_ne, ne_eq] at q); first | exact one_b (z := a) (k := k) (by  omega) (by  omega) (by  omega) | cases q); (intro q; (try simp only [decide_eq_false_iff_not, beq_eq_false_iff_ne, ne_eq] at q); first | exact one_d (z := a) (s := s) (by  omega) (by assumption) | cases q); (intro q; exact one_e (z := a) (k := k) q (by  omega)); (intro q; exact one_f (z := a) (s := s) q (by assumption)))
    | (refine go_OneC a (b7 := false) (b8 := false) (b9 := (decide (a.kind ≤ 11))) (H := H1) (q := h.next) (ha.grow gH) oa hk hys hls ?_ ?_ ?_ ?_ ?_ hq1 ?_ hK; rotate_left 5; (focus simp only [keeps_nil, keeps_cons, fits_nil, fits_cons, List.cons_append, List.nil_append, lk_cons, lk_nil, numF, Nat.reduceEqDiff, Nat.reduceAdd, Nat.zero_add, ↓reduceIte, and_true, true_and, and_self]; done); (intro q; (try simp only [decide_eq_false_iff_not, beq_eq_false_iff_ne, ne_eq] at q); first | exact one_a (z := a) (k := k) (by  omega) (by  omega) (by  omega) | cases q); (intro q; (try simp only [decide_eq_false_iff_not, beq_eq_false_iff_ne, ne_eq] at q); first | exact one_b (z := a) (k := k) (by  omega) (by  omega) (by  omega) | cases q); (intro q; (try simp only [decide_eq_false_iff_not, beq_eq_false_iff_ne, ne_eq] at q); first | exact one_d (z := a) (s := s) (by  omega) (by assumption) | cases q); (intro q; exact one_e (z := a) (k := k) q (by  omega)); (intro q; exact one_f (z := a) (s := s) q (by assumption)))
    | (refine go_OneC a (b7 := false) (b8 := (a.kind == 5)) (b9 := false) (H := H1) (q := h.next) (ha.grow gH) oa hk hys hls ?_ ?_ ?_ ?_ ?_ hq1 ?_ hK; rotate_left 5; (focus simp only [keeps_nil, keeps_cons, fits_nil, fits_cons, List.cons_append, List.nil_append, lk_cons, lk_nil, numF, Nat.reduceEqDiff, Nat.reduceAdd, Nat.zero_add, ↓reduceIte, and_true, true_and, and_self]; done); (intro q; (try simp only [decide_eq_false_iff_not, beq_eq_false_iff_ne, ne_eq] at q); first | exact one_a (z := a) (k := k) (by  omega) (by  omega) (by  omega) | cases q); (intro q; (try simp only [decide_eq_false_iff_not, beq_eq_false_iff_ne, ne_eq] at q); first | exact one_b (z := a) (k := k) (by  omega) (by  omega) (by  omega) | cases q); (intro q; (try simp only [decide_eq_false_iff_not, beq_eq_false_iff_ne, ne_eq] at q); first | exact one_d (z := a) (s := s) (by  omega) (by assumption) | cases q); (intro q; exact one_e (z := a) (k := k) q (by  omega)); (intro q; exact one_f (z := a) (s := s) q (by assumption)))
    | ((first
      | (refine Runs.call (lives_r _) ?_; rintro _ _ ⟨rfl, rfl⟩)
      | (refine Runs.call (k_May a (ha.grow qg) oa) ?_; rintro _ H1 ⟨rfl, gr⟩; have hq1 : H1.get h.next = some (.cells [.int .u8 a.client, .int .u32 a.inc, .int .u64 a.seq, .int .u8 a.kind, .int .u32 a.hi, .int .u32 a.hg, .str a.name, .int .u32 a.ti, .int .u32 a.tg, .str a.toName, .int .u32 a.off, .int .u32 a.size, a.dv] false) := gr.get (ga_new rfl); have gH : Grow h H1 := qg)
      | fail); all_goals ((try (have gn := gr.1; try simp only [nx_alloc, nx_set] at gn)); (try (have an := ha.num; try simp only [nx_alloc, nx_set, own_sl, own_nil] at an)); (try (have on := hO.num; try simp only [nx_alloc, nx_set] at on)); (try (have kn := hk.1; try simp only [nx_alloc, nx_set] at kn)); try have hB := hO.at)))
  all_goals try (first
    | (refine hK _ _ ?_; (first | rfl | fail); done)
    | fail)
theorem wf_u32 {i : Int} (h : wfInt .u32 i = true) : 0 ≤ i ∧ i ≤ 4294967295 := by
  simpa [wfInt, IntKind.signed, IntKind.bits, IntKind.min, IntKind.max] using h
theorem wf_u64 {i : Int} (h : wfInt .u64 i = true) : 0 ≤ i ∧ i ≤ 18446744073709551615 := by
  simpa [wfInt, IntKind.signed, IntKind.bits, IntKind.min, IntKind.max] using h
theorem cells_hdl {N k : Nat} {h h' : Heap} {cs : List AV} (hx : cellsX Tryd.prog N (k + 2) 24 h cs h') : ∃ i g, cs = [.int .u32 i, .int .u32 g] ∧ (0 ≤ i ∧ i ≤ 4294967295) ∧ (0 ≤ g ∧ g ≤ 4294967295) ∧ h' = h := by
  obtain ⟨as6, hq, rfl⟩ := cellsX_struct Tryd.underlying24 hx
  obtain ⟨f1, r, m1, rfl, j1, hq⟩ := listX_cons hq
  obtain ⟨f2, r, m2, rfl, j2, hq⟩ := listX_cons hq
  obtain ⟨rfl, rfl⟩ := listX_nil hq
  obtain ⟨ino, rfl, w5, rfl⟩ := cellsX_int Tryd.underlying22 j1
  obtain ⟨gen, rfl, w6, rfl⟩ := cellsX_int Tryd.underlying22 j2
  exact ⟨ino, gen, rfl, wf_u32 w5, wf_u32 w6, rfl⟩
theorem arg_cl {N k : Nat} (hN : N ≤ 2000000) {h h' : Heap} {a : AV} (hx : argX Tryd.prog N (k + 4) 28 h a h') : ∃ z : Cl, a = .agg [.int .u8 z.client, .int .u32 z.inc, .int .u64 z.seq, .int .u8 z.kind, .int .u32 z.hi, .int .u32 z.hg, .str z.name, .int .u32 z.ti, .int .u32 z.tg, .str z.toName, .int .u32 z.off, .int .u32 z.size, z.dv] ∧ ClAt h' z ∧ ClOk z ∧ Grow h h' := by
  obtain ⟨ass, hl, rfl⟩ := argX_struct Tryd.underlying28 hx
  obtain ⟨c1, r, h1, rfl, e1, hl⟩ := listX_cons hl
  obtain ⟨c2, r, h2, rfl, e2, hl⟩ := listX_cons hl
  obtain ⟨c3, r, h3, rfl, e3, hl⟩ := listX_cons hl
  obtain ⟨c4, r, h4, rfl, e4, hl⟩ := listX_cons hl
  obtain ⟨c5, r, h5, rfl, e5, hl⟩ := listX_cons hl
  obtain ⟨c6, r, h6, rfl, e6, hl⟩ := listX_cons hl
  obtain ⟨c7, r, h7, rfl, e7, hl⟩ := listX_cons hl
  obtain ⟨c8, r, h8, rfl, e8, hl⟩ := listX_cons hl
  obtain ⟨c9, r, h9, rfl, e9, hl⟩ := listX_cons hl
  obtain ⟨c10, r, h10, rfl, e10, hl⟩ := listX_cons hl
  obtain ⟨c11, r, h11, rfl, e11, hl⟩ := listX_cons hl
  obtain ⟨rfl, rfl⟩ := listX_nil hl
  obtain ⟨client, rfl, w1, rfl⟩ := cellsX_int Tryd.underlying5 e1
  obtain ⟨inc, rfl, w2, rfl⟩ := cellsX_int Tryd.underlying22 e2
  obtain ⟨seq, rfl, w3, rfl⟩ := cellsX_int Tryd.underlying23 e3
  obtain ⟨kind, rfl, w4, rfl⟩ := cellsX_int Tryd.underlying5 e4
  obtain ⟨hi, hg, rfl, w5, w6, rfl⟩ := cells_hdl e5
  obtain ⟨name, rfl, w7, n7, rfl⟩ := cellsX_string Tryd.underlying9 e6
  obtain ⟨ti, tg, rfl, w8, w9, rfl⟩ := cells_hdl e7
  obtain ⟨toName, rfl, w10, n10, rfl⟩ := cellsX_string Tryd.underlying9 e8
  obtain ⟨off, rfl, w11, rfl⟩ := cellsX_int Tryd.underlying22 e9
  obtain ⟨size, rfl, w12, rfl⟩ := cellsX_int Tryd.underlying22 e10
  obtain ⟨dv, data, rfl, b1, b2, b3, g1⟩ := cells_bytes Tryd.underlying26 Tryd.underlying5 (by kernel_rfl) e11
  exact ⟨⟨client, inc, seq, kind, hi, hg, name, ti, tg, toName, off, size, dv, data⟩, rfl, ⟨b1, b2, wf_bytes w7, wf_bytes w10, Nat.le_trans b3 hN, Nat.le_trans n7 hN, Nat.le_trans n10 hN⟩,
    ⟨wf_u8 w1, wf_u32 w2, wf_u64 w3, wf_u8 w4, w5, w6, w8, w9, wf_u32 w11, wf_u32 w12⟩, g1⟩
theorem run_One (N : Nat) (hN : N ≤ 1048576) : ∀ h xs, (∀ l, AV.str l ∈ xs → l.length ≤ 9223372036854775807) → argsT Tryd.prog N h 6 Tryd.f5.params.toList xs → argsX Tryd.prog N 6 Tryd.f5.params.toList emptyHeap xs h →
    ∃ n h', acall X1 tab n (.fn 5) xs h = some (.bool true, h') ∨ (AV.bares xs = true ∧ acall X1 tab n (.fn 5) xs emptyHeap = some (.bool true, h')) := by
  intro h xs hs _ hx
  rw [Tryd.params5] at hx
  obtain ⟨A, _, h1, rfl, e1, hx⟩ := argsX_cons hx
  obtain ⟨K, _, h2, rfl, e2, hx⟩ := argsX_cons hx
  obtain ⟨S, _, h3, rfl, e3, hx⟩ := argsX_cons hx
  obtain ⟨rfl, rfl⟩ := argsX_nil hx
  obtain ⟨a, rfl, a1, a2, g1⟩ := arg_cl qo e1
  obtain ⟨k, rfl, w1, rfl⟩ := argX_int Tryd.underlying22 e2
  obtain ⟨s, rfl, w2, n2, rfl⟩ := argX_string Tryd.underlying9 e3
  obtain ⟨v, h', e, rfl⟩ := go_One a a1 a2 (wf_u32 w1) (wf_bytes w2) qo
  exact ranX e
end Go.Proofs.YtcfmccafbknleaaDoor.Ya
