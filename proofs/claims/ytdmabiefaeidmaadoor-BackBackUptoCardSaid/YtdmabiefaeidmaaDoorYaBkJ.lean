/-
  Replies: the law BackBack walked.
-/
import Derived.Test.YtdmabiefaeidmaaDoorYaBkI
import Derived.Test.YtdmabiefaeidmaaDoorYbL
namespace Go.Proofs.YtdmabiefaeidmaaDoor.Ya
open Go.Ya Go.Ya.Na
set_option linter.unusedVariables false
set_option linter.unusedSimpArgs false
set_option maxRecDepth 100000
set_option maxHeartbeats 8000000
theorem Grow.nxt {a b : Heap} (g : Grow a b) : a.next ≤ b.next := g.1
theorem beL_by (n : Int) : ∀ k, Bytes (beL n k)
  | 0 => fun c h => by cases h
  | k + 1 => fun c h => by
    rcases List.mem_cons.1 h with rfl | h
    · unfold beB; omega
    · exact beL_by n k c h
theorem put_asm {z : Bk} {l : List Int} (x : Asm (putB z = l)) : putB z = l := x.out
theorem err_asm {z : Bk} {e : Int} (x : Asm (errB z = e)) : errB z = e := x.out
theorem may_asm {z : Bk} {t : Bool} (x : Asm (mayB z = t)) : mayB z = t := x.out
theorem got0 {bs : List Int} {d : Hd} (x : Asm (gotE bs d = 0)) : gotE bs d = 0 := x.out
theorem got4 {bs : List Int} {d : Hd} (x : Asm (gotE bs d = 4)) : gotE bs d = 4 := x.out
theorem encB_by {xs : List Int} (h : Bytes xs) : Bytes (encB xs) := fun c hc => by
  unfold encB at hc
  rcases List.mem_append.1 hc with hc | hc
  · rcases List.mem_append.1 hc with hc | hc
    · exact beL_by _ _ c hc
    · exact h c hc
  · rw [List.mem_replicate] at hc
    omega
theorem encP_by {z : Bk} (hd : Bytes z.data) (hn : AllY z.names) : Bytes (encP z) := fun c hc => by
  rw [encP_eq] at hc
  simp only [List.mem_append, List.mem_flatMap] at hc
  rcases hc with hc | hc | hc | hc | hc | hc | hc | hc | hc | hc | hc | hc | hc | ⟨p, hp, hc⟩
  all_goals first | exact beL_by _ _ c hc | exact encB_by hd c hc | exact encB_by (hn _ (by assumption)) c hc
theorem got_enc0 {z : Bk} (ho : BkOk z) (hm : mayB z = true) {d : Hd} (hd : HdOk (encP z) d) : gotE (encP z) d = 0 ∧ gotP (encP z) d = z.en := by
  have hd' : HdOk (encP z ++ []) d := by rw [List.append_nil]; exact hd
  obtain ⟨h1, h2⟩ := got_enc ho hm hd'
  rw [List.append_nil] at h2
  have h3 := h2.2 rfl
  refine ⟨h3, ?_⟩
  unfold gotP
  rw [if_pos h3]; exact h1
theorem bytes_app {a b : List Int} (ha : Bytes a) (hb : Bytes b) : Bytes (a ++ b) := fun c hc => (List.mem_append.1 hc).elim (ha c) (hb c)
theorem of_got {z : Bk} {bs : List Int} {d : Hd} (hy : Bytes bs) (hd : HdOk bs d) (h : gotE bs d = 0) (e : z.en = gotP bs d) : mayB z = true ∧ errB z = 0 ∧ putB z = bs := by
  obtain ⟨h1, h2⟩ := got_inv hy hd h
  unfold gotP at e
  rw [if_pos h] at e
  have hm : mayB z = true := by rw [← may_en, e]; exact h2
  refine ⟨hm, if_pos hm, ?_⟩
  unfold putB
  rw [if_pos hm, show encP z = encP z.en from rfl, e]; exact h1
theorem of_bad {z : Bk} {bs : List Int} {d : Hd} (h : ¬ gotE bs d = 0) (e : z.en = gotP bs d) : z.en = zB.en := by
  unfold gotP at e
  rw [if_neg h] at e
  rw [e]; rfl
def C5_91 : SC := (.seq (.ops [⟨some 91, .mov (.t 1), none⟩, ⟨some 92, .call 6 [.t 91], none⟩, ⟨some 90, .mov (.t 92), none⟩, ⟨some 93, .extract (.t 90) 0, none⟩, ⟨some 94, .extract (.t 90) 1, none⟩, ⟨some 18, .box (.c (.agg [.int (.u8) 0, .int (.u32) 0, .int (.u64) 0, .int (.u8) 0, .int (.u32) 0, .int (.u32) 0, .bool false, .int (.u32) 0, .int (.u64) 0, .int (.u64) 0, .nilsl, .nilsl, .int (.u32) 0])), none⟩, ⟨none, .store 13 (.t 18) (.t 93), none⟩, ⟨some 19, .mov (.t 94), none⟩]) (.seq (.seq (.ops [⟨some 95, .mov (.t 19), none⟩, ⟨some 96, .bin (.neq) (.other) (.t 95) (.c (.int (.i64) 0)), none⟩]) (.cond (.t 96) (.seq (.ops [⟨some 97, .load true 13 (.t 18), none⟩, ⟨some 98, .build [.int (.u8) 0, .int (.u32) 0, .int (.u64) 0, .int (.u8) 0, .int (.u32) 0, .int (.u32) 0, .bool false, .int (.u32) 0, .int (.u64) 0, .int (.u64) 0, .nilsl, .nilsl, .int (.u32) 0] [], none⟩, ⟨some 99, .call 8 [.t 97, .t 98], none⟩, ⟨some 100, .mov (.t 99), none⟩, ⟨some 101, .call 9 [], some (100, true)⟩, ⟨some 102, .pick (.t 100) (.t 101) (.c (.bool false)), none⟩, ⟨some 8, .mov (.t 102), none⟩]) .ret) .skip)) (.seq (.ops [⟨some 104, .load true 13 (.t 18), none⟩, ⟨some 105, .call 11 [.t 104], none⟩, ⟨some 103, .mov (.t 105), none⟩, ⟨some 106, .extract (.t 103) 0, none⟩, ⟨some 107, .extract (.t 103) 1, none⟩, ⟨some 20, .mov (.t 106), none⟩, ⟨some 21, .mov (.t 107), none⟩]) (.seq (.ops [⟨some 108, .mov (.t 21), none⟩, ⟨some 109, .bin (.eql) (.other) (.t 108) (.c (.int (.i64) 0)), none⟩, ⟨some 110, .mov (.t 109), none⟩, ⟨some 111, .mov (.t 20), some (110, true)⟩, ⟨some 112, .mov (.t 1), some (110, true)⟩, ⟨some 113, .call 16 [.t 111, .t 112], some (110, true)⟩, ⟨some 114, .pick (.t 110) (.t 113) (.c (.bool false)), none⟩, ⟨some 115, .mov (.t 114), none⟩, ⟨some 116, .load true 13 (.t 18), some (115, true)⟩, ⟨some 117, .call 14 [.t 116], some (115, true)⟩, ⟨some 118, .pick (.t 115) (.t 117) (.c (.bool false)), none⟩, ⟨some 119, .mov (.t 118), none⟩, ⟨some 120, .call 9 [], some (119, true)⟩, ⟨some 121, .pick (.t 119) (.t 120) (.c (.bool false)), none⟩, ⟨some 8, .mov (.t 121), none⟩]) .ret))))
def b5 : SC := (.seq (.ops [⟨some 4, .box (.t 0), none⟩, ⟨some 8, .mov (.c (.bool false)), none⟩]) (.seq (.seq (.ops [⟨some 22, .fieldAddr 11 (.t 4), none⟩, ⟨some 23, .load false 1 (.t 22), none⟩, ⟨some 24, .len (.sl) (.t 23), none⟩, ⟨some 25, .bin (.gtr) (.other) (.t 24) (.c (.int (.i64) 100)), none⟩]) (.cond (.t 25) (.seq (.ops [⟨some 26, .call 9 [], none⟩, ⟨some 8, .mov (.t 26), none⟩]) .ret) .skip)) (.seq (.ops [⟨some 28, .load true 13 (.t 4), none⟩, ⟨some 29, .call 11 [.t 28], none⟩, ⟨some 27, .mov (.t 29), none⟩, ⟨some 30, .extract (.t 27) 0, none⟩, ⟨some 31, .extract (.t 27) 1, none⟩, ⟨some 9, .mov (.t 30), none⟩, ⟨some 10, .mov (.t 31), none⟩]) (.seq (.seq (.ops [⟨some 32, .mov (.t 10), none⟩, ⟨some 33, .bin (.eql) (.other) (.t 32) (.c (.int (.i64) 0)), none⟩, ⟨some 34, .load true 13 (.t 4), none⟩, ⟨some 35, .call 14 [.t 34], none⟩, ⟨some 36, .bin (.neq) (.bool) (.t 33) (.t 35), none⟩]) (.cond (.t 36) (.seq (.ops [⟨some 8, .mov (.c (.bool false)), none⟩]) .ret) .skip)) (.seq (.seq (.ops [⟨some 37, .mov (.t 10), none⟩, ⟨some 38, .bin (.eql) (.other) (.t 37) (.c (.int (.i64) 0)), none⟩]) (.cond (.t 38) (.seq (.ops [⟨some 40, .mov (.t 9), none⟩, ⟨some 41, .call 6 [.t 40], none⟩, ⟨some 39, .mov (.t 41), none⟩, ⟨some 42, .extract (.t 39) 0, none⟩, ⟨some 43, .extract (.t 39) 1, none⟩, ⟨some 11, .box (.c (.agg [.int (.u8) 0, .int (.u32) 0, .int (.u64) 0, .int (.u8) 0, .int (.u32) 0, .int (.u32) 0, .bool false, .int (.u32) 0, .int (.u64) 0, .int (.u64) 0, .nilsl, .nilsl, .int (.u32) 0])), none⟩, ⟨none, .store 13 (.t 11) (.t 42), none⟩, ⟨some 12, .mov (.t 43), none⟩]) (.seq (.seq (.ops [⟨some 44, .mov (.t 12), none⟩, ⟨some 45, .bin (.neq) (.other) (.t 44) (.c (.int (.i64) 0)), none⟩, ⟨some 46, .mov (.t 45), none⟩, ⟨some 47, .load true 13 (.t 11), some (46, false)⟩, ⟨some 48, .load true 13 (.t 4), some (46, false)⟩, ⟨some 49, .call 17 [.t 47, .t 48], some (46, false)⟩, ⟨some 50, .un (.not) (.t 49), some (46, false)⟩, ⟨some 51, .pick (.t 46) (.c (.bool true)) (.t 50), none⟩, ⟨some 52, .mov (.t 51), none⟩, ⟨some 53, .load true 13 (.t 11), some (52, false)⟩, ⟨some 54, .load true 13 (.t 4), some (52, false)⟩, ⟨some 55, .call 8 [.t 53, .t 54], some (52, false)⟩, ⟨some 56, .un (.not) (.t 55), some (52, false)⟩, ⟨some 57, .pick (.t 52) (.c (.bool true)) (.t 56), none⟩]) (.cond (.t 57) (.seq (.ops [⟨some 8, .mov (.c (.bool false)), none⟩]) .ret) .skip)) (.seq (.seq (.ops [⟨some 58, .mov (.t 3), none⟩, ⟨some 59, .bin (.geq) (.other) (.t 58) (.c (.int (.i64) 0)), none⟩, ⟨some 60, .mov (.t 59), none⟩, ⟨some 61, .mov (.t 3), some (60, true)⟩, ⟨some 62, .mov (.t 9), some (60, true)⟩, ⟨some 63, .len (.sl) (.t 62), some (60, true)⟩, ⟨some 64, .bin (.lss) (.other) (.t 61) (.t 63), some (60, true)⟩, ⟨some 65, .pick (.t 60) (.t 64) (.c (.bool false)), none⟩]) (.cond (.t 65) (.seq (.ops [⟨some 67, .mov (.t 9), none⟩, ⟨some 68, .mov (.t 3), none⟩, ⟨some 69, .slice 1 (.t 67) none (some (.t 68)) none, none⟩, ⟨some 70, .call 6 [.t 69], none⟩, ⟨some 66, .mov (.t 70), none⟩, ⟨some 71, .extract (.t 66) 0, none⟩, ⟨some 72, .extract (.t 66) 1, none⟩, ⟨some 13, .box (.c (.agg [.int (.u8) 0, .int (.u32) 0, .int (.u64) 0, .int (.u8) 0, .int (.u32) 0, .int (.u32) 0, .bool false, .int (.u32) 0, .int (.u64) 0, .int (.u64) 0, .nilsl, .nilsl, .int (.u32) 0])), none⟩, ⟨none, .store 13 (.t 13) (.t 71), none⟩, ⟨some 14, .mov (.t 72), none⟩]) (.seq (.ops [⟨some 73, .mov (.t 14), none⟩, ⟨some 74, .bin (.neq) (.other) (.t 73) (.c (.int (.i64) 4)), none⟩]) (.cond (.t 74) (.seq (.ops [⟨some 8, .mov (.c (.bool false)), none⟩]) .ret) .skip))) .skip)) (.seq (.ops [⟨some 75, .mov (.t 9), none⟩, ⟨some 76, .call 22 [.t 75], none⟩, ⟨some 77, .mov (.t 2), none⟩, ⟨some 78, .append 1 1 (.t 76) (.t 77), none⟩, ⟨some 15, .mov (.t 78), none⟩]) (.seq (.ops [⟨some 80, .mov (.t 15), none⟩, ⟨some 81, .call 6 [.t 80], none⟩, ⟨some 79, .mov (.t 81), none⟩, ⟨some 82, .extract (.t 79) 0, none⟩, ⟨some 83, .extract (.t 79) 1, none⟩, ⟨some 16, .box (.c (.agg [.int (.u8) 0, .int (.u32) 0, .int (.u64) 0, .int (.u8) 0, .int (.u32) 0, .int (.u32) 0, .bool false, .int (.u32) 0, .int (.u64) 0, .int (.u64) 0, .nilsl, .nilsl, .int (.u32) 0])), none⟩, ⟨none, .store 13 (.t 16) (.t 82), none⟩, ⟨some 17, .mov (.t 83), none⟩]) (.seq (.ops [⟨some 84, .mov (.t 17), none⟩, ⟨some 85, .bin (.eql) (.other) (.t 84) (.c (.int (.i64) 0)), none⟩, ⟨some 86, .mov (.t 2), none⟩, ⟨some 87, .len (.sl) (.t 86), none⟩, ⟨some 88, .bin (.eql) (.other) (.t 87) (.c (.int (.i64) 0)), none⟩, ⟨some 89, .bin (.neq) (.bool) (.t 85) (.t 88), none⟩]) (.cond (.t 89) (.seq (.ops [⟨some 8, .mov (.c (.bool false)), none⟩]) .ret) .skip))))))) .skip)) C5_91)))))
theorem t5 : tab 5 = some ⟨122, [.tmp 8], b5⟩ := rfl
theorem go_BackC {bs : List Int} {h H : Heap} {B : AV} (hB : BytesAt H B bs) (hy : Bytes bs) (hlb : bs.length ≤ 1500000) {base : Nat → AV} {ov : List (Nat × AV)} (hf : Fits base ov [(1, B)]) {K : AR → Prop} (hK : ∀ v h', (fun v h' => v = .bool true) v h' → AtR K (some (v, h'))) : At (kRet [.tmp 8] K) (xcode X1 tab 5 none C5_91 (mk 122 base ov) H) := by
  rw [mk_fits hf]
  clear hf
  generalize lk base ov = base
  try dsimp only at hK
  obtain ⟨d, hd⟩ := hd_ex hy
  delta C5_91
  repeat' (first
    | simp (disch := first | exact qd | fail) only [WB, ↓WP, ↓WL, WR, WC, if_true, if_false, ite_true, ite_false, aop, ev, evs, readsA, List.replicate, numF, unA, resA, tupA, loadA, storeA, splice, fillA, kindsOk, plainEq, ↓reduceIte, Nat.reduceEqDiff, Nat.reduceLT, Int.reduceToNat, Int.reduceBEq, Int.reduceBNe, Nat.reduceAdd, Nat.reduceMul, Nat.reduceLeDiff, Int.reduceLT, Int.reduceSub, Int.reduceAdd, put_asm, err_asm, may_asm, got0, got4, same_asm, ne_eq]
    | ((first | refine atC ?_ ?_ | refine atG ?_ ?_ | refine atH ?_ ?_ | refine atP ?_ ?_) <;> intro hc <;> (try rw [hc]) <;> (try simp only [BD] at hc) <;> try (exfalso; omega))
    | (have q := of_bad (by assumption) e2; refine Runs.call (ref_Same z2 zB (hz2.grow qg) (zB_at _)) ?_; rintro _ _ ⟨rfl, gr⟩)
    | (have q := of_got hy hd (by assumption) e2; have q1 := q.1; have q2 := q.2.1; have q3 := q.2.2; refine Runs.call (k_PutR z2 (hz2.grow qg) hzo2) ?_; rintro _ H8 ⟨gr, w2, rfl, hw2⟩; have hw2a := NewBytes.at hw2; rw [q3] at hw2a)
    | ((first
      | (refine Runs.call (lives_r _) ?_; rintro _ _ ⟨rfl, rfl⟩)
      | (refine Runs.call (k_GetR (hB.grow qg) hy qo hd) ?_; rintro _ H7 ⟨gr, z2, m2, rfl, e2, hn2, ho2, hm2, hm2b, hzo2, hz2⟩; have hzd2 := hz2.1; have hzn2 := hz2.2.1)
      | (refine Runs.call (f0_Same (hw2a.grow qg) (hB.grow qg)) ?_; rintro _ _ ⟨rfl, rfl⟩)
      | (refine Runs.call (k_May z2 (hz2.grow qg) hzo2) ?_; rintro _ _ ⟨rfl, gr⟩)
      | fail); all_goals ((try (have gn := gr.1; try simp only [nx_alloc, nx_set] at gn)); (try (have an := ha.num; try simp only [nx_alloc, nx_set, own_sl, own_nil] at an)); (try (have on := hO.num; try simp only [nx_alloc, nx_set] at on)); (try (have kn := hk.1; try simp only [nx_alloc, nx_set] at kn)); try have hB := hO.at)))
  all_goals try (first
    | (refine hK _ _ ?_; (first | rfl | fail); done)
    | fail)
theorem go_BackF (a : Bk) {bs ms : List Int} {cut : Int} {h : Heap} {B M : AV} (ha : BkAt h a) (oa : BkOk a) (hB : BytesAt h B bs) (hy : Bytes bs) (hlb : bs.length ≤ 1500000) (hM : BytesAt h M ms) (hym : Bytes ms) (hlm : ms.length ≤ 1500000) (hcut : -9223372036854775808 ≤ cut ∧ cut ≤ 9223372036854775807) (hm : mayB a = false) : Runs (xcall X1 tab (.fn 5) [.agg [.int .u8 a.client, .int .u32 a.inc, .int .u64 a.seq, .int .u8 a.status, .int .u32 a.ino, .int .u32 a.gen, .bool a.dir, .int .u32 a.size, .int .u64 a.change, .int .u64 a.before, a.dv, a.nv, .int .u32 a.boot], B, M, .int .i64 cut] h) fun v h' => v = .bool true := by
  refine Runs.intro fun K hK => ?_
  obtain ⟨had, han, hyd, hyn, hld, hln⟩ := id ha
  have hea : errB a = 2 := if_neg (by rw [hm]; decide)
  have hpa : putB a = [] := if_neg (by rw [hm]; decide)
  rw [w_fn rfl t5 (Nat.le_of_ble_eq_true rfl)]
  delta b5
  repeat' (first
    | simp (disch := first | exact qd | fail) only [WB, ↓WP, ↓WL, WR, WC, if_true, if_false, ite_true, ite_false, aop, ev, evs, readsA, List.replicate, numF, unA, resA, tupA, loadA, storeA, splice, fillA, kindsOk, plainEq, ↓reduceIte, Nat.reduceEqDiff, Nat.reduceLT, Int.reduceToNat, Int.reduceBEq, Int.reduceBNe, Nat.reduceAdd, Nat.reduceMul, Nat.reduceLeDiff, Int.reduceLT, Int.reduceSub, Int.reduceAdd, put_asm, err_asm, may_asm, got0, got4, same_asm, ne_eq]
    | ((first | refine atC ?_ ?_ | refine atG ?_ ?_ | refine atH ?_ ?_ | refine atP ?_ ?_) <;> intro hc <;> (try rw [hc]) <;> (try simp only [BD] at hc) <;> try (exfalso; omega))
    | (refine go_BackC (h := h) (B := B) ?_ hy hlb ?_ hK; exact hB.grow qg; exact qf)
    | ((first
      | (refine Runs.call (lives_r _) ?_; rintro _ _ ⟨rfl, rfl⟩)
      | (refine Runs.call (k_PutR a (ha.grow qg) oa) ?_; rintro _ H1 ⟨gr, q1, rfl, hq1⟩; have hq1a := NewBytes.at hq1; rw [hpa] at hq1a)
      | (refine Runs.call (k_May a (ha.grow qg) oa) ?_; rintro _ _ ⟨rfl, gr⟩)
      | fail); all_goals ((try (have gn := gr.1; try simp only [nx_alloc, nx_set] at gn)); (try (have an := ha.num; try simp only [nx_alloc, nx_set, own_sl, own_nil] at an)); (try (have on := hO.num; try simp only [nx_alloc, nx_set] at on)); (try (have kn := hk.1; try simp only [nx_alloc, nx_set] at kn)); try have hB := hO.at)))
  all_goals try (first
    | (refine hK _ _ ?_; (first | rfl | fail); done)
    | fail)
theorem go_BackT0 (a : Bk) {bs ms : List Int} {cut : Int} {h : Heap} {B M : AV} (ha : BkAt h a) (oa : BkOk a) (hB : BytesAt h B bs) (hy : Bytes bs) (hlb : bs.length ≤ 1500000) (hM : BytesAt h M ms) (hym : Bytes ms) (hlm : ms.length ≤ 1500000) (hcut : -9223372036854775808 ≤ cut ∧ cut ≤ 9223372036854775807) (hm : mayB a = true) (hml : ms.length = 0) : Runs (xcall X1 tab (.fn 5) [.agg [.int .u8 a.client, .int .u32 a.inc, .int .u64 a.seq, .int .u8 a.status, .int .u32 a.ino, .int .u32 a.gen, .bool a.dir, .int .u32 a.size, .int .u64 a.change, .int .u64 a.before, a.dv, a.nv, .int .u32 a.boot], B, M, .int .i64 cut] h) fun v h' => v = .bool true := by
  refine Runs.intro fun K hK => ?_
  obtain ⟨had, han, hyd, hyn, hld, hln⟩ := id ha
  have hea : errB a = 0 := if_pos hm
  have hpa : putB a = encP a := if_pos hm
  have hyP := encP_by hyd hyn
  have hlP := encP_le hm
  obtain ⟨dx, hdx⟩ := hd_ex hyP
  have hx := got_enc0 oa hm hdx
  have hx0 := hx.1
  have hx1 := hx.2
  have hyY := bytes_app hyP hym
  obtain ⟨dy, hdy⟩ := hd_ex hyY
  have hlY : (encP a ++ ms).length ≤ 2000000 := by rw [List.length_append]; omega
  have hgy := (got_enc oa hm hdy).2
  clear hx
  have hgy0 := hgy.2 (List.eq_nil_of_length_eq_zero hml)
  clear hgy
  rw [w_fn rfl t5 (Nat.le_of_ble_eq_true rfl)]
  delta b5
  repeat' (first
    | simp (disch := first | exact qd | fail) only [WB, ↓WP, ↓WL, WR, WC, if_true, if_false, ite_true, ite_false, aop, ev, evs, readsA, List.replicate, numF, unA, resA, tupA, loadA, storeA, splice, fillA, kindsOk, plainEq, ↓reduceIte, Nat.reduceEqDiff, Nat.reduceLT, Int.reduceToNat, Int.reduceBEq, Int.reduceBNe, Nat.reduceAdd, Nat.reduceMul, Nat.reduceLeDiff, Int.reduceLT, Int.reduceSub, Int.reduceAdd, put_asm, err_asm, may_asm, got0, got4, same_asm, ne_eq]
    | ((first | refine atC ?_ ?_ | refine atG ?_ ?_ | refine atH ?_ ?_ | refine atP ?_ ?_) <;> intro hc <;> (try rw [hc]) <;> (try simp only [BD] at hc) <;> try (exfalso; omega))
    | (obtain ⟨c, rfl⟩ := Int.eq_ofNat_of_zero_le (show 0 ≤ cut by omega); have hyc := hyP.take c; obtain ⟨dc, hdc⟩ := hd_ex hyc; have hgc := got_cut oa hm (c := c) qo hdc; refine Runs.call (BytesAt.cutR hq1a (a := 0) (b := c) qg (.inr ⟨rfl, rfl⟩) (.inl rfl) qo qo) ?_; rintro vc _ ⟨rfl, hvc⟩; simp only [List.drop_zero] at hvc)
    | (refine go_BackC (h := h) (B := B) ?_ hy hlb ?_ hK; exact hB.grow qg; exact qf)
    | ((first
      | (refine Runs.call (lives_r _) ?_; rintro _ _ ⟨rfl, rfl⟩)
      | (refine Runs.call (k_PutR a (ha.grow qg) oa) ?_; rintro _ H1 ⟨gr, q1, rfl, hq1⟩; have hq1a := NewBytes.at hq1; rw [hpa] at hq1a)
      | (refine Runs.call (k_May a (ha.grow qg) oa) ?_; rintro _ _ ⟨rfl, gr⟩)
      | (refine Runs.call (k_GetR (hq1a.grow qg) hyP qo hdx) ?_; rintro _ H2 ⟨gr, z1, m1, rfl, e1, hn1, ho1, hm1, hm1b, hzo1, hz1⟩; have hzd1 := hz1.1; have hzn1 := hz1.2.1; have e1a := e1.trans hx1)
      | (refine Runs.call (k_Same z1 a (hz1.grow qg) (ha.grow qg)) ?_; rintro _ _ ⟨rfl, gr⟩)
      | (refine Runs.call (ref_Same z1 a (hz1.grow qg) (ha.grow qg)) ?_; rintro _ _ ⟨rfl, gr⟩)
      | (refine Runs.call (k_GetR (hvc.grow qg) hyc (by rw [List.length_take]; omega) hdc) ?_; rintro _ H3 ⟨gr, z3, m3, rfl, e3, hn3, ho3, hm3, hm3b, hzo3, hz3⟩; have hzd3 := hz3.1; have hzn3 := hz3.2.1)
      | (refine Runs.call (f0_Copy (hq1a.grow qg) qo) ?_; rintro v4 H4 ⟨gr, hN4⟩; have g4 : Grow h H4 := qg; have hO4 : OwB h.next H4 v4 (encP a) := NewBytes.own (FreshBytes.new hN4) (Grow.nxt qg))
      | (refine Runs.call (OwB.app hO4 g4.1 (hM.grow qg).src qo) ?_; rintro v5 H5 ⟨hO5, ha5⟩; have g5 : Grow h H5 := App.grow ha5 g4 (hO4.num.imp id And.left); have n5 := g5.1)
      | (refine Runs.call (k_GetR (hO5.at.grow qg) hyY hlY hdy) ?_; rintro _ H6 ⟨gr, z6, m6, rfl, e6, hn6, ho6, hm6, hm6b, hzo6, hz6⟩; have hzd6 := hz6.1; have hzn6 := hz6.2.1)
      | fail); all_goals ((try (have gn := gr.1; try simp only [nx_alloc, nx_set] at gn)); (try (have an := ha.num; try simp only [nx_alloc, nx_set, own_sl, own_nil] at an)); (try (have on := hO.num; try simp only [nx_alloc, nx_set] at on)); (try (have kn := hk.1; try simp only [nx_alloc, nx_set] at kn)); try have hB := hO.at)))
  all_goals try (first
    | (refine hK _ _ ?_; (first | rfl | fail); done)
    | fail)
theorem go_BackT1 (a : Bk) {bs ms : List Int} {cut : Int} {h : Heap} {B M : AV} (ha : BkAt h a) (oa : BkOk a) (hB : BytesAt h B bs) (hy : Bytes bs) (hlb : bs.length ≤ 1500000) (hM : BytesAt h M ms) (hym : Bytes ms) (hlm : ms.length ≤ 1500000) (hcut : -9223372036854775808 ≤ cut ∧ cut ≤ 9223372036854775807) (hm : mayB a = true) (hml : 0 < ms.length) : Runs (xcall X1 tab (.fn 5) [.agg [.int .u8 a.client, .int .u32 a.inc, .int .u64 a.seq, .int .u8 a.status, .int .u32 a.ino, .int .u32 a.gen, .bool a.dir, .int .u32 a.size, .int .u64 a.change, .int .u64 a.before, a.dv, a.nv, .int .u32 a.boot], B, M, .int .i64 cut] h) fun v h' => v = .bool true := by
  refine Runs.intro fun K hK => ?_
  obtain ⟨had, han, hyd, hyn, hld, hln⟩ := id ha
  have hea : errB a = 0 := if_pos hm
  have hpa : putB a = encP a := if_pos hm
  have hyP := encP_by hyd hyn
  have hlP := encP_le hm
  obtain ⟨dx, hdx⟩ := hd_ex hyP
  have hx := got_enc0 oa hm hdx
  have hx0 := hx.1
  have hx1 := hx.2
  have hyY := bytes_app hyP hym
  obtain ⟨dy, hdy⟩ := hd_ex hyY
  have hlY : (encP a ++ ms).length ≤ 2000000 := by rw [List.length_append]; omega
  have hgy := (got_enc oa hm hdy).2
  clear hx
  have hgyn : ¬ gotE (encP a ++ ms) dy = 0 := fun q => by rw [hgy.1 q] at hml; cases hml
  clear hgy
  rw [w_fn rfl t5 (Nat.le_of_ble_eq_true rfl)]
  delta b5
  repeat' (first
    | simp (disch := first | exact qd | fail) only [WB, ↓WP, ↓WL, WR, WC, if_true, if_false, ite_true, ite_false, aop, ev, evs, readsA, List.replicate, numF, unA, resA, tupA, loadA, storeA, splice, fillA, kindsOk, plainEq, ↓reduceIte, Nat.reduceEqDiff, Nat.reduceLT, Int.reduceToNat, Int.reduceBEq, Int.reduceBNe, Nat.reduceAdd, Nat.reduceMul, Nat.reduceLeDiff, Int.reduceLT, Int.reduceSub, Int.reduceAdd, put_asm, err_asm, may_asm, got0, got4, same_asm, ne_eq]
    | ((first | refine atC ?_ ?_ | refine atG ?_ ?_ | refine atH ?_ ?_ | refine atP ?_ ?_) <;> intro hc <;> (try rw [hc]) <;> (try simp only [BD] at hc) <;> try (exfalso; omega))
    | (obtain ⟨c, rfl⟩ := Int.eq_ofNat_of_zero_le (show 0 ≤ cut by omega); have hyc := hyP.take c; obtain ⟨dc, hdc⟩ := hd_ex hyc; have hgc := got_cut oa hm (c := c) qo hdc; refine Runs.call (BytesAt.cutR hq1a (a := 0) (b := c) qg (.inr ⟨rfl, rfl⟩) (.inl rfl) qo qo) ?_; rintro vc _ ⟨rfl, hvc⟩; simp only [List.drop_zero] at hvc)
    | (refine go_BackC (h := h) (B := B) ?_ hy hlb ?_ hK; exact hB.grow qg; exact qf)
    | ((first
      | (refine Runs.call (lives_r _) ?_; rintro _ _ ⟨rfl, rfl⟩)
      | (refine Runs.call (k_PutR a (ha.grow qg) oa) ?_; rintro _ H1 ⟨gr, q1, rfl, hq1⟩; have hq1a := NewBytes.at hq1; rw [hpa] at hq1a)
      | (refine Runs.call (k_May a (ha.grow qg) oa) ?_; rintro _ _ ⟨rfl, gr⟩)
      | (refine Runs.call (k_GetR (hq1a.grow qg) hyP qo hdx) ?_; rintro _ H2 ⟨gr, z1, m1, rfl, e1, hn1, ho1, hm1, hm1b, hzo1, hz1⟩; have hzd1 := hz1.1; have hzn1 := hz1.2.1; have e1a := e1.trans hx1)
      | (refine Runs.call (k_Same z1 a (hz1.grow qg) (ha.grow qg)) ?_; rintro _ _ ⟨rfl, gr⟩)
      | (refine Runs.call (ref_Same z1 a (hz1.grow qg) (ha.grow qg)) ?_; rintro _ _ ⟨rfl, gr⟩)
      | (refine Runs.call (k_GetR (hvc.grow qg) hyc (by rw [List.length_take]; omega) hdc) ?_; rintro _ H3 ⟨gr, z3, m3, rfl, e3, hn3, ho3, hm3, hm3b, hzo3, hz3⟩; have hzd3 := hz3.1; have hzn3 := hz3.2.1)
      | (refine Runs.call (f0_Copy (hq1a.grow qg) qo) ?_; rintro v4 H4 ⟨gr, hN4⟩; have g4 : Grow h H4 := qg; have hO4 : OwB h.next H4 v4 (encP a) := NewBytes.own (FreshBytes.new hN4) (Grow.nxt qg))
      | (refine Runs.call (OwB.app hO4 g4.1 (hM.grow qg).src qo) ?_; rintro v5 H5 ⟨hO5, ha5⟩; have g5 : Grow h H5 := App.grow ha5 g4 (hO4.num.imp id And.left); have n5 := g5.1)
      | (refine Runs.call (k_GetR (hO5.at.grow qg) hyY hlY hdy) ?_; rintro _ H6 ⟨gr, z6, m6, rfl, e6, hn6, ho6, hm6, hm6b, hzo6, hz6⟩; have hzd6 := hz6.1; have hzn6 := hz6.2.1)
      | fail); all_goals ((try (have gn := gr.1; try simp only [nx_alloc, nx_set] at gn)); (try (have an := ha.num; try simp only [nx_alloc, nx_set, own_sl, own_nil] at an)); (try (have on := hO.num; try simp only [nx_alloc, nx_set] at on)); (try (have kn := hk.1; try simp only [nx_alloc, nx_set] at kn)); try have hB := hO.at)))
  all_goals try (first
    | (refine hK _ _ ?_; (first | rfl | fail); done)
    | fail)
theorem go_Back (a : Bk) {bs ms : List Int} {cut : Int} {h : Heap} {B M : AV} (ha : BkAt h a) (oa : BkOk a) (hB : BytesAt h B bs) (hy : Bytes bs) (hlb : bs.length ≤ 1500000) (hM : BytesAt h M ms) (hym : Bytes ms) (hlm : ms.length ≤ 1500000) (hcut : -9223372036854775808 ≤ cut ∧ cut ≤ 9223372036854775807) : Runs (xcall X1 tab (.fn 5) [.agg [.int .u8 a.client, .int .u32 a.inc, .int .u64 a.seq, .int .u8 a.status, .int .u32 a.ino, .int .u32 a.gen, .bool a.dir, .int .u32 a.size, .int .u64 a.change, .int .u64 a.before, a.dv, a.nv, .int .u32 a.boot], B, M, .int .i64 cut] h) fun v h' => v = .bool true := by
  cases hm : mayB a
  · exact go_BackF a ha oa hB hy hlb hM hym hlm hcut hm
  · rcases Nat.eq_zero_or_pos ms.length with hml | hml
    · exact go_BackT0 a ha oa hB hy hlb hM hym hlm hcut hm hml
    · exact go_BackT1 a ha oa hB hy hlb hM hym hlm hcut hm hml
theorem run_Back (N : Nat) (hN : N ≤ 1048576) : ∀ h xs, (∀ l, AV.str l ∈ xs → l.length ≤ 9223372036854775807) → argsT Tryd.prog N h 6 Tryd.f5.params.toList xs → argsX Tryd.prog N 6 Tryd.f5.params.toList emptyHeap xs h →
    ∃ n h', acall X1 tab n (.fn 5) xs h = some (.bool true, h') ∨ (AV.bares xs = true ∧ acall X1 tab n (.fn 5) xs emptyHeap = some (.bool true, h')) := by
  intro h xs hs _ hx
  rw [Tryd.params5] at hx
  obtain ⟨A, _, h1, rfl, e1, hx⟩ := argsX_cons hx
  obtain ⟨B, _, h2, rfl, e2, hx⟩ := argsX_cons hx
  obtain ⟨M, _, h3, rfl, e3, hx⟩ := argsX_cons hx
  obtain ⟨x, _, h4, rfl, e4, hx⟩ := argsX_cons hx
  obtain ⟨rfl, rfl⟩ := argsX_nil hx
  obtain ⟨a, rfl, a1, a2, g1⟩ := arg_bk qo e1
  obtain ⟨bs, b1, b2, b3, g2⟩ := arg_bytes Tryd.underlying22 Tryd.underlying5 (by kernel_rfl) e2
  obtain ⟨ms, c1, c2, c3, g3⟩ := arg_bytes Tryd.underlying22 Tryd.underlying5 (by kernel_rfl) e3
  obtain ⟨x, rfl, w1, rfl⟩ := argX_int Tryd.underlying3 e4
  obtain ⟨v, h', e, rfl⟩ := go_Back a (cut := x) ((a1.grow g2).grow g3) a2 (b1.grow g3) b2 qo c1 c2 qo (wf_i64 w1)
  exact ranX e
end Go.Proofs.YtdmabiefaeidmaaDoor.Ya
