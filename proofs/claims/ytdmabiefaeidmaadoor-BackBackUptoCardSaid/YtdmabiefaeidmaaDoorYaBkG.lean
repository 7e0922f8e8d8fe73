/-
  Replies: answers in one form; BackTells.
-/
import Derived.Test.YtdmabiefaeidmaaDoorYaBkF
import Derived.Test.YtdmabiefaeidmaaDoorYbL
namespace Go.Proofs.YtdmabiefaeidmaaDoor.Ya
open Go.Ya Go.Ya.Na
set_option linter.unusedVariables false
set_option linter.unusedSimpArgs false
set_option maxRecDepth 100000
set_option maxHeartbeats 8000000
def zB : Bk := ⟨0, 0, 0, 0, 0, 0, false, 0, 0, 0, .nilsl, .nilsl, 0, [], []⟩
def Bk.en (z : Bk) : Bk := { z with dv := .nilsl, nv := .nilsl }
theorem may_en (z : Bk) : mayB z.en = mayB z := rfl
theorem same_iff {a c : Bk} : sameB a c = true ↔ a.en = c.en := by
  unfold sameB
  rw [decide_eq_true_eq]
  cases a; cases c
  simp only [Bk.en, Bk.mk.injEq, true_and]
theorem same_asm {a c : Bk} (x : Asm (a.en = c.en)) : sameB a c = true := same_iff.2 x.out
def gotZ (d : Hd) : Bk := gotBk d .nilsl .nilsl
def gotE (bs : List Int) (d : Hd) : Int := if getE bs d = 0 then (if mayB (gotZ d) = true then 0 else 5) else getE bs d
def gotP (bs : List Int) (d : Hd) : Bk := if gotE bs d = 0 then gotZ d else zB
def errB (z : Bk) : Int := if mayB z = true then 0 else 2
def putB (z : Bk) : List Int := if mayB z = true then encP z else []
abbrev ownB (a : Bk) (w o : AV) : Bk := { a with dv := w, nv := o }
theorem BkAt.own {h H : Heap} {a : Bk} {w o : AV} (ha : BkAt h a) (hw : BytesAt H w a.data) (ho : TAt H o a.names) : BkAt H (ownB a w o) := ⟨hw, ho, ha.2.2⟩
theorem zB_at (h : Heap) : BkAt h zB := ⟨.inl ⟨rfl, rfl⟩, ⟨(fun r hr => nomatch hr), .inl ⟨rfl, rfl⟩⟩, (fun c hc => nomatch hc), (fun p hp => nomatch hp), Nat.zero_le _, Nat.zero_le _⟩
theorem zB_ok : BkOk zB := by unfold BkOk zB; decide
def GotR (h h' : Heap) (bs : List Int) (d : Hd) (v : AV) : Prop := ∃ z m, v = .tuple [.agg [.int .u8 z.client, .int .u32 z.inc, .int .u64 z.seq, .int .u8 z.status, .int .u32 z.ino, .int .u32 z.gen, .bool z.dir, .int .u32 z.size, .int .u64 z.change, .int .u64 z.before, z.dv, z.nv, .int .u32 z.boot], .int .i64 (gotE bs d)] ∧ z.en = gotP bs d ∧ NBt h.next m h' z.dv z.data ∧ OwR 1 encT m h' z.nv z.names ∧ h.next ≤ m ∧ m ≤ h'.next ∧ BkOk z ∧ BkAt h' z
theorem NBt.clip {lo hi : Nat} {H : Heap} {v : AV} {bs : List Int} (n : NBt lo hi H v bs) : NBt lo (min hi H.next) H v bs := by
  rcases n with e | ⟨id, ex, e, e1, e2, e3, e4⟩
  · exact .inl e
  · have := Heap.lt_of_get e3
    exact .inr ⟨id, ex, e, e1, by omega, e3, e4.imp (fun q => q) fun q => ⟨by have := Heap.byteAt_lt q.2; omega, q.2⟩⟩
theorem GotOk.r {h h' : Heap} {bs : List Int} {d : Hd} {v : AV} (hd : HdOk bs d) (hle : h.next ≤ h'.next) (g : GotOk h h' bs d v) : GotR h h' bs d v := by
  rcases g with ⟨e, rfl⟩ | ⟨e, dv, nv, m, hN, hO, hm, ⟨y, rfl⟩ | ⟨y, rfl⟩⟩
  · have e1 : gotE bs d = getE bs d := if_neg e
    have e2 : gotP bs d = zB := if_neg (by rw [e1]; exact e)
    exact ⟨zB, h.next, by rw [e1]; rfl, by rw [e2]; rfl, .inl ⟨rfl, rfl⟩, OwC.nil, Nat.le_refl _, hle, zB_ok, zB_at _⟩
  · have y' : ¬ mayB (gotZ d) = true := by rw [show mayB (gotZ d) = mayB (gotBk d dv nv) from rfl, y]; decide
    have e1 : gotE bs d = 5 := by unfold gotE; rw [if_pos e, if_neg y']
    have e2 : gotP bs d = zB := if_neg (by rw [e1]; decide)
    exact ⟨zB, h.next, by rw [e1]; rfl, by rw [e2]; rfl, .inl ⟨rfl, rfl⟩, OwC.nil, Nat.le_refl _, hle, zB_ok, zB_at _⟩
  · have y' : mayB (gotZ d) = true := y
    have e1 : gotE bs d = 0 := by unfold gotE; rw [if_pos e, if_pos y']
    have e2 : gotP bs d = gotZ d := if_pos e1
    have hl := (may_bd y').2.1
    have hl2 : d.n13 ≤ 32 := by
      have : (namesR d.s13 d.n13).1.length ≤ 32 := hl
      rwa [namesR_len] at this
    exact ⟨gotBk d dv nv, min m h'.next, by rw [e1]; rfl, by rw [e2]; rfl, hN.clip, OwC.le hO qo, by omega, by omega, gotBk_ok hd, gotBk_at hd hN (OwR.rd encT_len qo hO) qo⟩
theorem k_GetR {v : AV} {bs : List Int} {h : Heap} (hv : BytesAt h v bs) (hy : Bytes bs) (hl : bs.length ≤ 2000000) {d : Hd} (hd : HdOk bs d) : Runs (xcall X1 tab (.fn 6) [v] h) fun v h' => Grow h h' ∧ GotR h h' bs d v := (k_Get hv hy hl hd).mono fun v h' q => ⟨q.1, q.2.r hd q.1.1⟩
theorem k_PutR (z : Bk) {h : Heap} (hz : BkAt h z) (ho : BkOk z) : Runs (xcall X1 tab (.fn 11) [.agg [.int .u8 z.client, .int .u32 z.inc, .int .u64 z.seq, .int .u8 z.status, .int .u32 z.ino, .int .u32 z.gen, .bool z.dir, .int .u32 z.size, .int .u64 z.change, .int .u64 z.before, z.dv, z.nv, .int .u32 z.boot]] h) fun v h' => Grow h h' ∧ ∃ q, v = .tuple [q, .int .i64 (errB z)] ∧ NewBytes h h' q (putB z) := (k_Put z hz ho).mono fun v h' ⟨g, q, e, w⟩ => by
  refine ⟨g, q, e, ?_⟩
  unfold putB
  rcases w with ⟨y, rfl⟩ | ⟨y, w⟩
  · rw [if_neg (by rw [y]; decide)]; exact .inl ⟨rfl, rfl⟩
  · rw [if_pos y]; exact w
def b4 : SC := (.seq (.ops [⟨some 4, .box (.t 0), none⟩, ⟨some 5, .box (.t 1), none⟩, ⟨some 8, .mov (.c (.bool false)), none⟩]) (.seq (.seq (.ops [⟨some 19, .fieldAddr 11 (.t 4), none⟩, ⟨some 20, .load false 1 (.t 19), none⟩, ⟨some 21, .len (.sl) (.t 20), none⟩, ⟨some 22, .bin (.gtr) (.other) (.t 21) (.c (.int (.i64) 100)), none⟩, ⟨some 23, .mov (.t 22), none⟩, ⟨some 24, .fieldAddr 11 (.t 5), some (23, false)⟩, ⟨some 25, .load false 1 (.t 24), some (23, false)⟩, ⟨some 26, .len (.sl) (.t 25), some (23, false)⟩, ⟨some 27, .bin (.gtr) (.other) (.t 26) (.c (.int (.i64) 100)), some (23, false)⟩, ⟨some 28, .pick (.t 23) (.c (.bool true)) (.t 27), none⟩]) (.cond (.t 28) (.seq (.ops [⟨some 29, .call 9 [], none⟩, ⟨some 8, .mov (.t 29), none⟩]) .ret) .skip)) (.seq (.ops [⟨some 30, .load true 13 (.t 4), none⟩, ⟨some 9, .box (.c (.agg [.int (.u8) 0, .int (.u32) 0, .int (.u64) 0, .int (.u8) 0, .int (.u32) 0, .int (.u32) 0, .bool false, .int (.u32) 0, .int (.u64) 0, .int (.u64) 0, .nilsl, .nilsl, .int (.u32) 0])), none⟩, ⟨none, .store 13 (.t 9) (.t 30), none⟩]) (.seq (.ops [⟨some 31, .fieldAddr 10 (.t 4), none⟩, ⟨some 32, .load false 1 (.t 31), none⟩, ⟨some 33, .call 10 [.t 32], none⟩, ⟨some 34, .fieldAddr 10 (.t 9), none⟩, ⟨none, .store 1 (.t 34) (.t 33), none⟩]) (.seq (.ops [⟨some 35, .buildSlice [] 0 1 [], none⟩, ⟨some 36, .fieldAddr 11 (.t 4), none⟩, ⟨some 37, .load false 1 (.t 36), none⟩, ⟨some 38, .append 1 16 (.t 35) (.t 37), none⟩, ⟨some 39, .fieldAddr 11 (.t 9), none⟩, ⟨none, .store 1 (.t 39) (.t 38), none⟩]) (.seq (.ops [⟨some 40, .mov (.t 2), none⟩, ⟨some 41, .call 10 [.t 40], none⟩, ⟨some 10, .mov (.t 41), none⟩]) (.seq (.ops [⟨some 43, .load true 13 (.t 9), none⟩, ⟨some 44, .call 11 [.t 43], none⟩, ⟨some 42, .mov (.t 44), none⟩, ⟨some 45, .extract (.t 42) 0, none⟩, ⟨some 46, .extract (.t 42) 1, none⟩, ⟨some 11, .mov (.t 45), none⟩, ⟨some 12, .mov (.t 46), none⟩]) (.seq (.ops [⟨some 48, .load true 13 (.t 4), none⟩, ⟨some 49, .call 12 [.t 48], none⟩, ⟨some 47, .mov (.t 49), none⟩, ⟨some 50, .extract (.t 47) 0, none⟩, ⟨some 51, .extract (.t 47) 1, none⟩, ⟨some 13, .mov (.t 50), none⟩, ⟨some 14, .mov (.t 51), none⟩]) (.seq (.ops [⟨some 53, .mov (.t 10), none⟩, ⟨some 54, .call 6 [.t 53], none⟩, ⟨some 52, .mov (.t 54), none⟩, ⟨some 55, .extract (.t 52) 0, none⟩, ⟨some 56, .extract (.t 52) 1, none⟩, ⟨some 15, .box (.c (.agg [.int (.u8) 0, .int (.u32) 0, .int (.u64) 0, .int (.u8) 0, .int (.u32) 0, .int (.u32) 0, .bool false, .int (.u32) 0, .int (.u64) 0, .int (.u64) 0, .nilsl, .nilsl, .int (.u32) 0])), none⟩, ⟨none, .store 13 (.t 15) (.t 55), none⟩, ⟨some 16, .mov (.t 56), none⟩]) (.seq (.ops [⟨some 58, .mov (.t 2), none⟩, ⟨some 59, .call 13 [.t 58], none⟩, ⟨some 57, .mov (.t 59), none⟩, ⟨some 60, .extract (.t 57) 0, none⟩, ⟨some 61, .extract (.t 57) 1, none⟩, ⟨some 17, .box (.c (.agg [.int (.u8) 0, .int (.u32) 0, .int (.u64) 0, .int (.u8) 0, .int (.u32) 0, .int (.u32) 0, .bool false, .int (.u32) 0, .int (.u64) 0, .int (.u64) 0, .nilsl, .nilsl, .int (.u32) 0])), none⟩, ⟨none, .store 13 (.t 17) (.t 60), none⟩, ⟨some 18, .mov (.t 61), none⟩]) (.seq (.seq (.drawOps [⟨some 62, .load true 13 (.t 9), none⟩, ⟨some 63, .call 14 [.t 62], none⟩, ⟨some 64, .load true 13 (.t 4), none⟩, ⟨some 65, .call 15 [.t 64], none⟩, ⟨some 66, .bin (.neq) (.bool) (.t 63) (.t 65), none⟩, ⟨some 67, .mov (.t 66), none⟩, ⟨some 68, .mov (.t 11), some (67, false)⟩, ⟨some 69, .mov (.t 13), some (67, false)⟩, ⟨some 70, .call 16 [.t 68, .t 69], some (67, false)⟩, ⟨some 71, .un (.not) (.t 70), some (67, false)⟩, ⟨some 72, .pick (.t 67) (.c (.bool true)) (.t 71), none⟩, ⟨some 73, .mov (.t 72), none⟩, ⟨some 74, .mov (.t 12), some (73, false)⟩, ⟨some 75, .mov (.t 14), some (73, false)⟩, ⟨some 76, .bin (.neq) (.other) (.t 74) (.t 75), some (73, false)⟩, ⟨some 77, .pick (.t 73) (.c (.bool true)) (.t 76), none⟩, ⟨some 78, .mov (.t 77), none⟩, ⟨some 79, .load true 13 (.t 15), some (78, false)⟩, ⟨some 80, .load true 13 (.t 17), some (78, false)⟩, ⟨some 81, .call 8 [.t 79, .t 80], some (78, false)⟩, ⟨some 82, .un (.not) (.t 81), some (78, false)⟩, ⟨some 83, .pick (.t 78) (.c (.bool true)) (.t 82), none⟩, ⟨some 84, .mov (.t 83), none⟩, ⟨some 85, .mov (.t 16), some (84, false)⟩, ⟨some 86, .mov (.t 18), some (84, false)⟩, ⟨some 87, .bin (.neq) (.other) (.t 85) (.t 86), some (84, false)⟩, ⟨some 88, .pick (.t 84) (.c (.bool true)) (.t 87), none⟩] [(2, 1)]) (.cond (.t 88) (.seq (.ops [⟨some 8, .mov (.c (.bool false)), none⟩]) .ret) .skip)) (.seq (.drawOps [⟨some 89, .load true 13 (.t 4), none⟩, ⟨some 90, .load true 13 (.t 5), none⟩, ⟨some 91, .call 17 [.t 89, .t 90], none⟩, ⟨some 92, .load true 13 (.t 4), none⟩, ⟨some 93, .load true 13 (.t 5), none⟩, ⟨some 94, .call 8 [.t 92, .t 93], none⟩, ⟨some 95, .bin (.eql) (.bool) (.t 91) (.t 94), none⟩, ⟨some 96, .mov (.t 95), none⟩, ⟨some 97, .load true 13 (.t 4), some (96, true)⟩, ⟨some 98, .load true 13 (.t 9), some (96, true)⟩, ⟨some 99, .call 17 [.t 97, .t 98], some (96, true)⟩, ⟨some 100, .pick (.t 96) (.t 99) (.c (.bool false)), none⟩, ⟨some 101, .mov (.t 100), none⟩, ⟨some 102, .mov (.t 3), some (101, true)⟩, ⟨some 103, .call 18 [.t 102], some (101, true)⟩, ⟨some 104, .mov (.t 3), some (101, true)⟩, ⟨some 105, .call 19 [.t 104], some (101, true)⟩, ⟨some 106, .bin (.eql) (.other) (.t 103) (.t 105), some (101, true)⟩, ⟨some 107, .pick (.t 101) (.t 106) (.c (.bool false)), none⟩, ⟨some 108, .mov (.t 107), none⟩, ⟨some 109, .fieldAddr 10 (.t 9), some (108, true)⟩, ⟨some 110, .load false 1 (.t 109), some (108, true)⟩, ⟨some 111, .fieldAddr 10 (.t 4), some (108, true)⟩, ⟨some 112, .load false 1 (.t 111), some (108, true)⟩, ⟨some 113, .call 20 [.t 110, .t 112], some (108, true)⟩, ⟨some 114, .pick (.t 108) (.t 113) (.c (.bool false)), none⟩, ⟨some 115, .mov (.t 114), none⟩, ⟨some 116, .fieldAddr 11 (.t 9), some (115, true)⟩, ⟨some 117, .load false 1 (.t 116), some (115, true)⟩, ⟨some 118, .fieldAddr 11 (.t 4), some (115, true)⟩, ⟨some 119, .load false 1 (.t 118), some (115, true)⟩, ⟨some 120, .call 21 [.t 117, .t 119], some (115, true)⟩, ⟨some 121, .pick (.t 115) (.t 120) (.c (.bool false)), none⟩, ⟨some 122, .mov (.t 121), none⟩, ⟨some 123, .mov (.t 10), some (122, true)⟩, ⟨some 124, .mov (.t 2), some (122, true)⟩, ⟨some 125, .call 20 [.t 123, .t 124], some (122, true)⟩, ⟨some 126, .pick (.t 122) (.t 125) (.c (.bool false)), none⟩, ⟨some 127, .mov (.t 126), none⟩, ⟨some 128, .call 9 [], some (127, true)⟩, ⟨some 129, .pick (.t 127) (.t 128) (.c (.bool false)), none⟩, ⟨some 8, .mov (.t 129), none⟩] [(3, 2), (4, 2)]) .ret))))))))))))
theorem t4 : tab 4 = some ⟨130, [.tmp 8], b4⟩ := rfl
end Go.Proofs.YtdmabiefaeidmaaDoor.Ya
