/-
  Replies: what is told of bytes.
-/
import Derived.Test.YtpoccinfeekdhaaDoorYaBkC
import Derived.Test.YtpoccinfeekdhaaDoorYbL
import Derived.Test.YtpoccinfeekdhaaDoorYaXP
namespace Go.Proofs.YtpoccinfeekdhaaDoor.Ya.B
open Go.Ya Go.Ya.Na
set_option linter.unusedVariables false
set_option linter.unusedSimpArgs false
set_option maxRecDepth 100000
set_option maxHeartbeats 8000000
theorem r_TruthE {lo : Nat} {h : Heap} {p : Nat} {s : List Int × Int} (f : Rdr lo h p s) {t : Bool} {s1 : List Int × Int} (e : rdT s = (t, s1)) : Runs (xcall X1 tab (.fn 42) [.ptr p 0] h) fun v h' => v = .bool t ∧ Pok p h h' ∧ Rdr lo h' p s1 := by
  have hy : Bytes s.1 := by obtain ⟨_, _, _, _, hy, _⟩ := f; exact hy
  obtain ⟨n, l, e1, hr⟩ := rdN_nat (k := 4) hy
  exact (r_Truth f hr).mono fun v h' q => by rw [e] at q; exact q
theorem r_BytesE {lo : Nat} {h : Heap} {p : Nat} {s : List Int × Int} (f : Rdr lo h p s) {most : Nat} (hm : most ≤ 1000000000) {xs : List Int} {s1 : List Int × Int} (e : rdB most s = (xs, s1)) : Runs (xcall X1 tab (.fn 43) [.ptr p 0, .int .i64 (most : Nat)] h) fun v h' => NewBytes h h' v xs ∧ Pok p h h' ∧ Rdr lo h' p s1 := by
  have hy : Bytes s.1 := by obtain ⟨_, _, _, _, hy, _⟩ := f; exact hy
  obtain ⟨n, l, e1, hr⟩ := rdN_nat (k := 4) hy
  exact (r_Bytes f hr hm).mono fun v h' q => by rw [e] at q; exact q
def namesR (s : List Int × Int) : Nat → List Bs × (List Int × Int)
  | 0 => ([], s)
  | k + 1 => ((namesR s k).1 ++ [(rdB 4096 (namesR s k).2).1], (rdB 4096 (namesR s k).2).2)
theorem namesR_len (s : List Int × Int) : ∀ k, (namesR s k).1.length = k
  | 0 => rfl
  | k + 1 => by show (_ ++ [_]).length = _; rw [List.length_append, namesR_len s k]; rfl
theorem namesR_by {s : List Int × Int} (hy : Bytes s.1) : ∀ k, Bytes (namesR s k).2.1 ∧ AllY (namesR s k).1
  | 0 => ⟨hy, fun p hp => nomatch hp⟩
  | k + 1 => by
    have ih := namesR_by hy k
    have hb := rdB_by (most := 4096) ih.1
    refine ⟨hb.1, fun p hp => ?_⟩
    rcases List.mem_append.1 hp with hp | hp
    · exact ih.2 p hp
    · simp only [List.mem_singleton] at hp; subst hp; exact hb.2
structure Hd where
  n1 : Nat
  n2 : Nat
  n3 : Nat
  n4 : Nat
  n5 : Nat
  n6 : Nat
  n7 : Nat
  t8 : Bool
  n9 : Nat
  n10 : Nat
  n11 : Nat
  data : List Int
  n13 : Nat
  s1 : List Int × Int
  s2 : List Int × Int
  s3 : List Int × Int
  s4 : List Int × Int
  s5 : List Int × Int
  s6 : List Int × Int
  s7 : List Int × Int
  s8 : List Int × Int
  s9 : List Int × Int
  s10 : List Int × Int
  s11 : List Int × Int
  s12 : List Int × Int
  s13 : List Int × Int
structure HdOk (bs : List Int) (d : Hd) : Prop where
  h1 : rdN 4 (bs, 0) = ((d.n1 : Int), d.s1)
  h2 : rdN 4 d.s1 = ((d.n2 : Int), d.s2)
  h3 : rdN 8 d.s2 = ((d.n3 : Int), d.s3)
  h4 : rdN 4 d.s3 = ((d.n4 : Int), d.s4)
  h5 : rdN 4 d.s4 = ((d.n5 : Int), d.s5)
  h6 : rdN 4 d.s5 = ((d.n6 : Int), d.s6)
  h7 : rdN 4 d.s6 = ((d.n7 : Int), d.s7)
  h8 : rdT d.s7 = (d.t8, d.s8)
  h9 : rdN 4 d.s8 = ((d.n9 : Int), d.s9)
  h10 : rdN 8 d.s9 = ((d.n10 : Int), d.s10)
  h11 : rdN 8 d.s10 = ((d.n11 : Int), d.s11)
  h12 : rdB 4096 d.s11 = (d.data, d.s12)
  h13 : rdN 4 d.s12 = ((d.n13 : Int), d.s13)
  b1 : d.n1 ≤ 4294967295
  b2 : d.n2 ≤ 4294967295
  b3 : d.n3 ≤ 18446744073709551615
  b4 : d.n4 ≤ 4294967295
  b5 : d.n5 ≤ 4294967295
  b6 : d.n6 ≤ 4294967295
  b7 : d.n7 ≤ 4294967295
  b9 : d.n9 ≤ 4294967295
  b10 : d.n10 ≤ 18446744073709551615
  b11 : d.n11 ≤ 18446744073709551615
  b13 : d.n13 ≤ 4294967295
  by13 : Bytes d.s13.1
  bydata : Bytes d.data
theorem rd4_ex {s : List Int × Int} (hy : Bytes s.1) : ∃ n : Nat, ∃ s1, rdN 4 s = ((n : Int), s1) ∧ n ≤ 4294967295 ∧ Bytes s1.1 := by
  obtain ⟨n, l, e, hr⟩ := rdN_nat (k := 4) hy
  have h1 := rdN_lt (k := 4) hy
  have h2 := rdN_by (k := 4) hy
  have hq : (256 : Int) ^ 4 = 4294967296 := by decide
  rw [hr, hq] at h1
  rw [hr] at h2
  simp only at h1
  exact ⟨n, _, hr, by omega, h2⟩
theorem rd8_ex {s : List Int × Int} (hy : Bytes s.1) : ∃ n : Nat, ∃ s1, rdN 8 s = ((n : Int), s1) ∧ n ≤ 18446744073709551615 ∧ Bytes s1.1 := by
  obtain ⟨n, l, e, hr⟩ := rdN_nat (k := 8) hy
  have h1 := rdN_lt (k := 8) hy
  have h2 := rdN_by (k := 8) hy
  have hq : (256 : Int) ^ 8 = 18446744073709551616 := by decide
  rw [hr, hq] at h1
  rw [hr] at h2
  simp only at h1
  exact ⟨n, _, hr, by omega, h2⟩
theorem hd_ex {bs : List Int} (hy : Bytes bs) : ∃ d, HdOk bs d := by
  obtain ⟨n1, s1, h1, b1, y1⟩ := rd4_ex (s := (bs, 0)) hy
  obtain ⟨n2, s2, h2, b2, y2⟩ := rd4_ex y1
  obtain ⟨n3, s3, h3, b3, y3⟩ := rd8_ex y2
  obtain ⟨n4, s4, h4, b4, y4⟩ := rd4_ex y3
  obtain ⟨n5, s5, h5, b5, y5⟩ := rd4_ex y4
  obtain ⟨n6, s6, h6, b6, y6⟩ := rd4_ex y5
  obtain ⟨n7, s7, h7, b7, y7⟩ := rd4_ex y6
  have y8 := rdT_by y7
  obtain ⟨n9, s9, h9, b9, y9⟩ := rd4_ex y8
  obtain ⟨n10, s10, h10, b10, y10⟩ := rd8_ex y9
  obtain ⟨n11, s11, h11, b11, y11⟩ := rd8_ex y10
  have y12 := rdB_by (most := 4096) y11
  obtain ⟨n13, s13, h13, b13, y13⟩ := rd4_ex y12.1
  exact ⟨⟨n1, n2, n3, n4, n5, n6, n7, (rdT s7).1, n9, n10, n11, (rdB 4096 s11).1, n13, s1, s2, s3, s4, s5, s6, s7, (rdT s7).2, s9, s10, s11, (rdB 4096 s11).2, s13⟩, ⟨h1, h2, h3, h4, h5, h6, h7, rfl, h9, h10, h11, rfl, h13, b1, b2, b3, b4, b5, b6, b7, b9, b10, b11, b13, y13, y12.2⟩⟩
def getE (bs : List Int) (d : Hd) : Int := if 4096 < bs.length then 3 else if 32 < d.n13 ∧ d.s13.2 = 0 then 3 else endE (namesR d.s13 d.n13).2
end Go.Proofs.YtpoccinfeekdhaaDoor.Ya.B
