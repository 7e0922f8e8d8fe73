/-
  Replies: what is answered is new memory; arguments.
-/
import Derived.Test.YtdmabiefaeidmaaDoorYaBkG
import Derived.Test.YtdmabiefaeidmaaDoorYbL
namespace Go.Proofs.YtdmabiefaeidmaaDoor.Ya
open Go.Ya Go.Ya.Na
set_option linter.unusedVariables false
set_option linter.unusedSimpArgs false
set_option maxRecDepth 100000
set_option maxHeartbeats 8000000
def Sl1 (lo hi : Nat) (H : Heap) (v : AV) (n : Nat) : Prop := (v = .nilsl ∧ n = 0) ∨ ∃ b cap ex cs, v = .slice b 0 n cap ex 1 ∧ lo ≤ b ∧ b < hi ∧ H.get b = some (.cells cs false) ∧ n ≤ cs.length
theorem Sl1.len {lo hi n : Nat} {H h : Heap} {v : AV} (s : Sl1 lo hi H v n) : Runs (lenS v h) fun v' h' => v' = .int .i64 (n : Nat) ∧ h = h' := by
  rcases s with ⟨rfl, rfl⟩ | ⟨b, cap, ex, cs, rfl, _⟩
  · exact Runs.of rfl ⟨rfl, rfl⟩
  · exact Runs.of rfl ⟨rfl, rfl⟩
theorem Sl1.of {lo hi : Nat} {H : Heap} {v : AV} {l : List Bs} (o : OwR 1 encT lo H v l) (hh : own v ≤ hi) : Sl1 lo hi H v l.length := by
  have he := enc_len encT_len l
  rcases o with ⟨e1, e2⟩ | ⟨b, len, cap, ex, rest, e0, e1, e2, e3, e4, e5⟩
  · exact .inl ⟨e1, by rw [e2] at he; simp at he; exact he.symm⟩
  · subst e0
    have e : len = l.length := by omega
    subst e
    simp only [own_sl] at hh
    exact .inr ⟨b, cap, ex, _, rfl, e1, by omega, e2, by rw [List.length_append]; omega⟩
theorem BkAt.keep {H H' : Heap} {z : Bk} {m : Nat} {n : Nat} (hz : BkAt H z) (hn : NBt n m H z.dv z.data) (ho : OwR 1 encT m H z.nv z.names) (k : ∀ j, n ≤ j → j < H.next → H'.get j = H.get j) (hm : n ≤ m := by omega) (hb : m ≤ H.next := by omega) : BkAt H' z :=
  ⟨(hn.keep (H' := H') fun j h1 h2 => k j h1 qo).at, OwR.rd encT_len qo (ho.keep (h' := H') fun j h1 h2 => k j (by have := OwR.num ho; omega) h1), hz.2.2⟩
def L3_0 : SC := (.seq (.seq (.ops [⟨some 30, .mov (.t 9), none⟩, ⟨some 31, .fieldAddr 11 (.t 5), none⟩, ⟨some 32, .load false 1 (.t 31), none⟩, ⟨some 33, .len (.sl) (.t 32), none⟩, ⟨some 34, .bin (.lss) (.other) (.t 30) (.t 33), none⟩]) (.cond (.t 34) .skip (.exit 0))) (.seq (.block 1 (.ops [⟨some 37, .fieldAddr 11 (.t 5), none⟩, ⟨some 38, .load false 1 (.t 37), none⟩, ⟨some 39, .mov (.t 9), none⟩, ⟨some 40, .idxAddrSl 1 (.t 38) (.t 39), none⟩, ⟨none, .store 1 (.t 40) (.c (.str [122])), none⟩])) (.ops [⟨some 35, .mov (.t 9), none⟩, ⟨some 36, .bin (.add) (.other) (.t 35) (.c (.int (.i64) 1)), none⟩, ⟨some 9, .mov (.t 36), none⟩])))
def b3 : SC := (.seq (.ops [⟨some 4, .mov (.c (.bool false)), none⟩]) (.seq (.ops [⟨some 13, .mov (.t 0), none⟩, ⟨some 14, .call 6 [.t 13], none⟩, ⟨some 12, .mov (.t 14), none⟩, ⟨some 15, .extract (.t 12) 0, none⟩, ⟨some 16, .extract (.t 12) 1, none⟩, ⟨some 5, .box (.c (.agg [.int (.u8) 0, .int (.u32) 0, .int (.u64) 0, .int (.u8) 0, .int (.u32) 0, .int (.u32) 0, .bool false, .int (.u32) 0, .int (.u64) 0, .int (.u64) 0, .nilsl, .nilsl, .int (.u32) 0])), none⟩, ⟨none, .store 13 (.t 5) (.t 15), none⟩, ⟨some 6, .mov (.t 16), none⟩]) (.seq (.ops [⟨some 18, .mov (.t 0), none⟩, ⟨some 19, .call 6 [.t 18], none⟩, ⟨some 17, .mov (.t 19), none⟩, ⟨some 20, .extract (.t 17) 0, none⟩, ⟨some 21, .extract (.t 17) 1, none⟩, ⟨some 7, .box (.c (.agg [.int (.u8) 0, .int (.u32) 0, .int (.u64) 0, .int (.u8) 0, .int (.u32) 0, .int (.u32) 0, .bool false, .int (.u32) 0, .int (.u64) 0, .int (.u64) 0, .nilsl, .nilsl, .int (.u32) 0])), none⟩, ⟨none, .store 13 (.t 7) (.t 20), none⟩, ⟨some 8, .mov (.t 21), none⟩]) (.seq (.seq (.ops [⟨some 22, .mov (.t 6), none⟩, ⟨some 23, .mov (.t 8), none⟩, ⟨some 24, .bin (.neq) (.other) (.t 22) (.t 23), none⟩]) (.cond (.t 24) (.seq (.ops [⟨some 4, .mov (.c (.bool false)), none⟩]) .ret) .skip)) (.seq (.ops [⟨some 25, .fieldAddr 10 (.t 5), none⟩, ⟨some 26, .load false 1 (.t 25), none⟩, ⟨some 27, .mov (.t 1), none⟩, ⟨some 28, .bin (.or) (.other) (.t 27) (.c (.int (.u8) 1)), none⟩, ⟨some 29, .call 7 [.t 26, .t 28], none⟩]) (.seq (.seq (.ops [⟨some 9, .mov (.c (.int (.i64) 0)), none⟩]) (.block 0 (.loop L3_0))) (.seq (.ops [⟨some 42, .mov (.t 0), none⟩, ⟨some 43, .call 6 [.t 42], none⟩, ⟨some 41, .mov (.t 43), none⟩, ⟨some 44, .extract (.t 41) 0, none⟩, ⟨some 45, .extract (.t 41) 1, none⟩, ⟨some 10, .box (.c (.agg [.int (.u8) 0, .int (.u32) 0, .int (.u64) 0, .int (.u8) 0, .int (.u32) 0, .int (.u32) 0, .bool false, .int (.u32) 0, .int (.u64) 0, .int (.u64) 0, .nilsl, .nilsl, .int (.u32) 0])), none⟩, ⟨none, .store 13 (.t 10) (.t 44), none⟩, ⟨some 11, .mov (.t 45), none⟩]) (.seq (.ops [⟨some 46, .mov (.t 11), none⟩, ⟨some 47, .mov (.t 6), none⟩, ⟨some 48, .bin (.eql) (.other) (.t 46) (.t 47), none⟩, ⟨some 49, .mov (.t 48), none⟩, ⟨some 50, .load true 13 (.t 7), some (49, true)⟩, ⟨some 51, .load true 13 (.t 10), some (49, true)⟩, ⟨some 52, .call 8 [.t 50, .t 51], some (49, true)⟩, ⟨some 53, .pick (.t 49) (.t 52) (.c (.bool false)), none⟩, ⟨some 54, .mov (.t 53), none⟩, ⟨some 55, .call 9 [], some (54, true)⟩, ⟨some 56, .pick (.t 54) (.t 55) (.c (.bool false)), none⟩, ⟨some 4, .mov (.t 56), none⟩]) .ret))))))))
theorem t3 : tab 3 = some ⟨57, [.tmp 4], b3⟩ := rfl
theorem txt_row {N k : Nat} {h h' : Heap} {cs : List AV} (hx : cellsX Tryd.prog N (k + 1) 9 h cs h') : ∃ x : Bs, cs = encT x ∧ Bytes x ∧ Grow h h' := by
  obtain ⟨key, rfl, w1, n1, rfl⟩ := cellsX_string Tryd.underlying9 hx
  exact ⟨key, rfl, wf_bytes w1, Grow.refl _⟩
theorem cells_txts {N k : Nat} {h h' : Heap} {cs : List AV} (hx : cellsX Tryd.prog N (k + 2) 29 h cs h') : ∃ v l, cs = [v] ∧ TAt h' v l ∧ AllY l ∧ l.length ≤ N ∧ Grow h h' := by
  have hc : Tryd.prog.cellsOf 9 = 1 := by kernel_rfl
  rcases cellsX_slice Tryd.underlying29 hx with ⟨rfl, rfl⟩ | ⟨len, ass, h1, e1, e2, e3, rfl, rfl⟩
  · exact ⟨.nilsl, [], rfl, ⟨(fun r hr => nomatch hr), .inl ⟨rfl, rfl⟩⟩, (fun x hx => nomatch hx), Nat.zero_le _, .refl _⟩
  · obtain ⟨l, rfl, rfl, q, g⟩ := list_rows (enc := encT) (Q := fun _ x => Bytes x) (fun q g => q) (fun hx => txt_row hx) len e1
    refine ⟨_, l, rfl, ?_, q, e2, g.trans (Grow.alloc _ _)⟩
    rw [hc]
    exact Rd.of_cells encT_len (ga_new rfl)
theorem wf_u32 {i : Int} (h : wfInt .u32 i = true) : 0 ≤ i ∧ i ≤ 4294967295 := by
  simpa [wfInt, IntKind.signed, IntKind.bits, IntKind.min, IntKind.max] using h
theorem wf_u64 {i : Int} (h : wfInt .u64 i = true) : 0 ≤ i ∧ i ≤ 18446744073709551615 := by
  simpa [wfInt, IntKind.signed, IntKind.bits, IntKind.min, IntKind.max] using h
theorem wf_i64 {i : Int} (h : wfInt .i64 i = true) : -9223372036854775808 ≤ i ∧ i ≤ 9223372036854775807 := by
  simpa [wfInt, IntKind.signed, IntKind.bits, IntKind.min, IntKind.max] using h
theorem arg_bk {N k : Nat} (hN : N ≤ 2000000) {h h' : Heap} {a : AV} (hx : argX Tryd.prog N (k + 4) 31 h a h') : ∃ z : Bk, a = .agg [.int .u8 z.client, .int .u32 z.inc, .int .u64 z.seq, .int .u8 z.status, .int .u32 z.ino, .int .u32 z.gen, .bool z.dir, .int .u32 z.size, .int .u64 z.change, .int .u64 z.before, z.dv, z.nv, .int .u32 z.boot] ∧ BkAt h' z ∧ BkOk z ∧ Grow h h' := by
  obtain ⟨ass, hl, rfl⟩ := argX_struct Tryd.underlying31 hx
  obtain ⟨c1, r, h1, rfl, e1, hl⟩ := listX_cons hl
  obtain ⟨c2, r, h2, rfl, e2, hl⟩ := listX_cons hl
  obtain ⟨c3, r, h3, rfl, e3, hl⟩ := listX_cons hl
  obtain ⟨c4, r, h4, rfl, e4, hl⟩ := listX_cons hl
  obtain ⟨c5, r, h5, rfl, e5, hl⟩ := listX_cons hl
  obtain ⟨c6, r, h6, rfl, e6, hl⟩ := listX_cons hl
  obtain ⟨c7, r, h7, rfl, e7, hl⟩ := listX_cons hl
  obtain ⟨c8, r, h8, rfl, e8, hl⟩ := listX_cons hl
  obtain ⟨c9, r, h9, rfl, e9, hl⟩ := listX_cons hl
  obtain ⟨rfl, rfl⟩ := listX_nil hl
  obtain ⟨client, rfl, w1, rfl⟩ := cellsX_int Tryd.underlying5 e1
  obtain ⟨inc, rfl, w2, rfl⟩ := cellsX_int Tryd.underlying23 e2
  obtain ⟨seq, rfl, w3, rfl⟩ := cellsX_int Tryd.underlying24 e3
  obtain ⟨status, rfl, w4, rfl⟩ := cellsX_int Tryd.underlying5 e4
  obtain ⟨as5, hp, rfl⟩ := cellsX_struct Tryd.underlying28 e5
  obtain ⟨d1, r, k1, rfl, i1, hp⟩ := listX_cons hp
  obtain ⟨d2, r, k2, rfl, i2, hp⟩ := listX_cons hp
  obtain ⟨d3, r, k3, rfl, i3, hp⟩ := listX_cons hp
  obtain ⟨d4, r, k4, rfl, i4, hp⟩ := listX_cons hp
  obtain ⟨rfl, rfl⟩ := listX_nil hp
  obtain ⟨as6, hq, rfl⟩ := cellsX_struct Tryd.underlying26 i1
  obtain ⟨f1, r, m1, rfl, j1, hq⟩ := listX_cons hq
  obtain ⟨f2, r, m2, rfl, j2, hq⟩ := listX_cons hq
  obtain ⟨rfl, rfl⟩ := listX_nil hq
  obtain ⟨ino, rfl, w5, rfl⟩ := cellsX_int Tryd.underlying23 j1
  obtain ⟨gen, rfl, w6, rfl⟩ := cellsX_int Tryd.underlying23 j2
  obtain ⟨dir, rfl, rfl⟩ := cellsX_bool Tryd.underlying4 i2
  obtain ⟨size, rfl, w7, rfl⟩ := cellsX_int Tryd.underlying23 i3
  obtain ⟨change, rfl, w8, rfl⟩ := cellsX_int Tryd.underlying24 i4
  obtain ⟨before, rfl, w9, rfl⟩ := cellsX_int Tryd.underlying24 e6
  obtain ⟨dv, data, rfl, b1, b2, b3, g1⟩ := cells_bytes Tryd.underlying22 Tryd.underlying5 (by kernel_rfl) e7
  obtain ⟨nv, names, rfl, t1, t2, t3, g2⟩ := cells_txts e8
  obtain ⟨boot, rfl, w10, rfl⟩ := cellsX_int Tryd.underlying23 e9
  exact ⟨⟨client, inc, seq, status, ino, gen, dir, size, change, before, dv, nv, boot, data, names⟩, rfl, ⟨b1.grow g2, t1, b2, t2, Nat.le_trans b3 hN, Nat.le_trans t3 hN⟩,
    ⟨wf_u8 w1, wf_u32 w2, wf_u64 w3, wf_u8 w4, wf_u32 w5, wf_u32 w6, wf_u32 w7, wf_u64 w8, wf_u64 w9, wf_u32 w10⟩, g1.trans g2⟩
end Go.Proofs.YtdmabiefaeidmaaDoor.Ya
