/-
  Replies: answers in one form; BackTells.
-/
import Derived.Test.YtpoccinfeekdhaaDoorYaBkF
import Derived.Test.YtpoccinfeekdhaaDoorYbL
namespace Go.Proofs.YtpoccinfeekdhaaDoor.Ya.B
open Go.Ya Go.Ya.Na
set_option linter.unusedVariables false
set_option linter.unusedSimpArgs false
set_option maxRecDepth 100000
set_option maxHeartbeats 8000000
def zB : Bk := ⟨0, 0, 0, 0, 0, 0, false, 0, 0, 0, .nilsl, .nilsl, 0, [], []⟩
def Bk.en (z : Bk) : Bk := { z with dv := .nilsl, nv := .nilsl }
def gotZ (d : Hd) : Bk := gotBk d .nilsl .nilsl
def gotE (bs : List Int) (d : Hd) : Int := if getE bs d = 0 then (if mayB (gotZ d) = true then 0 else 5) else getE bs d
def gotP (bs : List Int) (d : Hd) : Bk := if gotE bs d = 0 then gotZ d else zB
def errB (z : Bk) : Int := if mayB z = true then 0 else 2
def putB (z : Bk) : List Int := if mayB z = true then encP z else []
abbrev ownB (a : Bk) (w o : AV) : Bk := { a with dv := w, nv := o }
theorem BkAt.own {h H : Heap} {a : Bk} {w o : AV} (ha : BkAt h a) (hw : BytesAt H w a.data) (ho : TAt H o a.names) : BkAt H (ownB a w o) := ⟨hw, ho, ha.2.2⟩
theorem zB_at (h : Heap) : BkAt h zB := ⟨.inl ⟨rfl, rfl⟩, ⟨(fun r hr => nomatch hr), .inl ⟨rfl, rfl⟩⟩, (fun c hc => nomatch hc), (fun p hp => nomatch hp), Nat.zero_le _, Nat.zero_le _⟩
theorem zB_ok : BkOk zB := by unfold BkOk zB; decide
def GotR (h h' : Heap) (bs : List Int) (d : Hd) (v : AV) : Prop := ∃ z m, v = .tuple [.agg [.int .u8 z.client, .int .u32 z.inc, .int .u64 z.seq, .int .u8 z.status, .int .u32 z.ino, .int .u32 z.gen, .bool z.dir, .int .u32 z.size, .int .u64 z.change, .int .u64 z.before, z.dv, z.nv, .int .u32 z.boot], .int .i64 (gotE bs d)] ∧ z.en = gotP bs d ∧ NBt h.next m h' z.dv z.data ∧ OwR 1 encT m h' z.nv z.names ∧ h.next ≤ m ∧ m ≤ h'.next ∧ BkOk z ∧ BkAt h' z
theorem GotOk.r {h h' : Heap} {bs : List Int} {d : Hd} {v : AV} (hd : HdOk bs d) (hle : h.next ≤ h'.next) (g : GotOk h h' bs d v) : GotR h h' bs d v := by
  rcases g with ⟨e, rfl⟩ | ⟨e, dv, nv, m, hN, hO, hm, ⟨y, rfl⟩ | ⟨y, rfl⟩⟩
  · have e1 : gotE bs d = getE bs d := if_neg e
    have e2 : gotP bs d = zB := if_neg (by rw [e1]; exact e)
    exact ⟨zB, h.next, by rw [e1]; rfl, by rw [e2]; rfl, .inl ⟨rfl, rfl⟩, OwC.nil, Nat.le_refl _, hle, zB_ok, zB_at _⟩
  · have y' : ¬ mayB (gotZ d) = true := by rw [show mayB (gotZ d) = mayB (gotBk d dv nv) from rfl, y]; decide
    have e1 : gotE bs d = 5 := by unfold gotE; rw [if_pos e, if_neg y']
    have e2 : gotP bs d = zB := if_neg (by rw [e1]; decide)
    exact ⟨zB, h.next, by rw [e1]; rfl, by rw [e2]; rfl, .inl ⟨rfl, rfl⟩, OwC.nil, Nat.le_refl _, hle, zB_ok, zB_at _⟩
  · have y' : mayB (gotZ d) = true := y
    have e1 : gotE bs d = 0 := by unfold gotE; rw [if_pos e, if_pos y']
    have e2 : gotP bs d = gotZ d := if_pos e1
    have hl := (may_bd y').2.1
    have hl2 : d.n13 ≤ 32 := by
      have : (namesR d.s13 d.n13).1.length ≤ 32 := hl
      rwa [namesR_len] at this
    exact ⟨gotBk d dv nv, min m h'.next, by rw [e1]; rfl, by rw [e2]; rfl, hN.clip, OwC.le hO qo, by omega, by omega, gotBk_ok hd, gotBk_at hd hN (OwR.rd encT_len qo hO) qo⟩
theorem k_GetR {v : AV} {bs : List Int} {h : Heap} (hv : BytesAt h v bs) (hy : Bytes bs) (hl : bs.length ≤ 2000000) {d : Hd} (hd : HdOk bs d) : Runs (xcall X1 tab (.fn 27) [v] h) fun v h' => Grow h h' ∧ GotR h h' bs d v := (k_Get hv hy hl hd).mono fun v h' q => ⟨q.1, q.2.r hd q.1.1⟩
theorem ref_PutR (z : Bk) {h : Heap} (hz : BkAt h z) (ho : BkOk z) : Runs (xcall X1 tab (.fn 9) [.agg [.int .u8 z.client, .int .u32 z.inc, .int .u64 z.seq, .int .u8 z.status, .int .u32 z.ino, .int .u32 z.gen, .bool z.dir, .int .u32 z.size, .int .u64 z.change, .int .u64 z.before, z.dv, z.nv, .int .u32 z.boot]] h) fun v h' => Grow h h' ∧ ∃ q, v = .tuple [q, .int .i64 (errB z)] ∧ OwB h.next h' q (putB z) := (ref_Put z hz ho).mono fun v h' ⟨g, q, e, w⟩ => by
  refine ⟨g, q, e, ?_⟩
  unfold putB
  rcases w with ⟨y, rfl⟩ | ⟨y, w⟩
  · rw [if_neg (by rw [y]; decide)]; exact OwC.nil
  · rw [if_pos y]; exact w
end Go.Proofs.YtpoccinfeekdhaaDoor.Ya.B
