/-
  Spans: the arguments.
-/
import Derived.Test.YtplbampjponnpaaYaSpanSpec
import Derived.Test.YtplbampjponnpaaYaArgs
namespace Go.Proofs.Ytplbampjponnpaa.Ya
open Go.Ya Go.Ya.Span
set_option linter.unusedVariables false
set_option linter.unusedSimpArgs false
set_option maxRecDepth 100000

theorem u32_of {n : Int} (h : wfInt .u32 n = true) : U32 n := by
  simpa [U32, wfInt, IntKind.signed, IntKind.bits, IntKind.min, IntKind.max] using h
theorem cells_sp {M k : Nat} {h h' : Heap} {cs : List AV} (hx : cellsX Try.prog M (k + 2) 25 h cs h') : ∃ s : Sp, cs = spA s ∧ U32 s.1 ∧ U32 s.2 ∧ h' = h := by
  obtain ⟨ass, hl, rfl⟩ := cellsX_struct Try.underlying25 hx
  obtain ⟨a, l, h1, rfl, e1, hl⟩ := listX_cons hl
  obtain ⟨b, l, h2, rfl, e2, hl⟩ := listX_cons hl
  obtain ⟨rfl, rfl⟩ := listX_nil hl
  obtain ⟨m, rfl, w1, rfl⟩ := cellsX_int Try.underlying23 e1
  obtain ⟨n, rfl, w2, rfl⟩ := cellsX_int Try.underlying23 e2
  exact ⟨(m, n), rfl, u32_of w1, u32_of w2, rfl⟩
theorem arg_span {M k : Nat} {h h' : Heap} {a : AV} (hx : argX Try.prog M (k + 2) 25 h a h') : ∃ s : Sp, a = .agg [.int .u32 s.1, .int .u32 s.2] ∧ U32 s.1 ∧ U32 s.2 ∧ h' = h := by
  unfold argX at hx
  rw [Try.underlying25] at hx
  obtain ⟨cs, rfl, hc⟩ := hx
  obtain ⟨s, rfl, e⟩ := cells_sp hc
  exact ⟨s, rfl, e⟩
theorem arg_u32 {M k : Nat} {h h' : Heap} {a : AV} (hx : argX Try.prog M (k + 1) 23 h a h') : ∃ n, a = .int .u32 n ∧ U32 n ∧ h' = h := by
  obtain ⟨n, rfl, w, rfl⟩ := argX_int Try.underlying23 hx
  exact ⟨n, rfl, u32_of w, rfl⟩
theorem list_sp {M k : Nat} {h h' : Heap} : ∀ {n : Nat} {ys : List (List AV)}, listX (cellsX Try.prog M (k + 2)) (List.replicate n 25) h ys h' → h' = h ∧ ∃ l : List Sp, l.length = n ∧ SpW l ∧ ys = l.map spA
  | 0, ys, hx => by
    obtain ⟨rfl, rfl⟩ := listX_nil hx
    exact ⟨rfl, [], rfl, fun s hs => (by cases hs), rfl⟩
  | n + 1, ys, hx => by
    obtain ⟨a, l, h1, rfl, e1, e2⟩ := listX_cons hx
    obtain ⟨s, rfl, w1, w2, rfl⟩ := cells_sp e1
    obtain ⟨hh', l', g1, g2, rfl⟩ := list_sp e2
    exact ⟨hh', s :: l', by simp [g1], fun x hx => by
      rcases List.mem_cons.1 hx with rfl | hx
      · exact ⟨w1, w2⟩
      · exact g2 x hx, rfl⟩
theorem arg_spans {M k : Nat} {h h' : Heap} {a : AV} (hx : argX Try.prog M (k + 3) 22 h a h') : ∃ l : List Sp, SpAt h' a l ∧ SpW l ∧ Grow h h' ∧ l.length ≤ M := by
  rcases argX_slice Try.underlying22 hx with ⟨rfl, rfl⟩ | ⟨len, ass, h1, e1, hN, _, rfl, rfl⟩
  · exact ⟨[], ⟨fun r hr => (by cases hr), .inl ⟨rfl, rfl⟩⟩, fun s hs => (by cases hs), Grow.refl _, Nat.zero_le _⟩
  · obtain ⟨rfl, l, rfl, w, rfl⟩ := list_sp e1
    have hc : Try.prog.cellsOf 25 = 2 := by kernel_rfl
    rw [hc]
    refine ⟨l, Rd.of_cells (fun s => rfl) (ga_new rfl), w, Grow.alloc _ _, hN⟩
end Go.Proofs.Ytplbampjponnpaa.Ya
