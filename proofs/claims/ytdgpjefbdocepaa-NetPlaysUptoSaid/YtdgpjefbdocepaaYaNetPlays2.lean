/-
  Net, law NetPlays: the arguments, and the run, whole.
-/
import Derived.Test.YtdgpjefbdocepaaYaNetPlays1
namespace Go.Proofs.Ytdgpjefbdocepaa.Ya
open Go.Ya
set_option linter.unusedVariables false
set_option linter.unusedSimpArgs false
set_option maxRecDepth 100000
set_option maxHeartbeats 8000000

/-- A row of the arguments is an act. -/
theorem act_row {h h' : Heap} {cs : List AV} (hx : cellsX Try.prog 1048576 4 40 h cs h') : ∃ a, ActAt h' cs a ∧ cs.length = 5 ∧ Grow h h' := by
  obtain ⟨l, hl, rfl⟩ := cellsX_struct Try.underlying40 hx
  obtain ⟨c1, _, h1, rfl, e1, hl⟩ := listX_cons hl
  obtain ⟨c2, _, h2, rfl, e2, hl⟩ := listX_cons hl
  obtain ⟨c3, _, h3, rfl, e3, hl⟩ := listX_cons hl
  obtain ⟨rfl, rfl⟩ := listX_nil hl
  obtain ⟨act, rfl, _, rfl⟩ := cellsX_int Try.underlying3 e1
  obtain ⟨k, rfl, _, rfl⟩ := cellsX_int Try.underlying3 e3
  obtain ⟨l2, hl2, rfl⟩ := cellsX_struct Try.underlying28 e2
  obtain ⟨d1, _, h4, rfl, e4, hl2⟩ := listX_cons hl2
  obtain ⟨d2, _, h5, rfl, e5, hl2⟩ := listX_cons hl2
  obtain ⟨d3, _, h6, rfl, e6, hl2⟩ := listX_cons hl2
  obtain ⟨rfl, rfl⟩ := listX_nil hl2
  obtain ⟨cl, rfl, _, rfl⟩ := cellsX_int Try.underlying3 e4
  obtain ⟨bk, rfl, rfl⟩ := cellsX_bool Try.underlying4 e5
  rcases cellsX_slice Try.underlying26 e6 with ⟨rfl, rfl⟩ | ⟨len, ys, h7, e7, hN, _, rfl, rfl⟩
  · exact ⟨⟨act, ⟨cl, bk, []⟩, k⟩, ⟨.nilsl, rfl, .inl ⟨rfl, rfl⟩, by simp⟩, rfl, .refl _⟩
  · obtain ⟨rfl, bs, hbl, _, e8⟩ := listX_ints Try.underlying5 e7
    have hc : Try.prog.cellsOf 5 = 1 := by kernel_rfl
    subst hbl
    refine ⟨⟨act, ⟨cl, bk, bs⟩, k⟩, ⟨.slice _ 0 bs.length bs.length false 1, by rw [hc]; rfl, .inr ⟨_, 0, bs.length, false, ys.flatten, true, rfl, Nat.le_refl _, by rw [Heap.get_alloc, if_pos rfl], by rw [e8]; simp, by rw [e8]; simp [ints, List.take_of_length_le]⟩, hN⟩, rfl, Grow.alloc _ _⟩
theorem ActAt.grow {h h' : Heap} {row : List AV} {a : Act} (ha : ActAt h row a) (g : Grow h h') : ActAt h' row a := by
  obtain ⟨v, e, hb, hn⟩ := ha
  exact ⟨v, e, hb.grow g, hn⟩
theorem act_rows : ∀ (n : Nat) {h h' : Heap} {ass : List (List AV)}, listX (cellsX Try.prog 1048576 4) (List.replicate n 40) h ass h' → ass.length = n ∧ Grow h h' ∧ ∀ row ∈ ass, row.length = 5 ∧ ∃ a, ActAt h' row a
  | 0, h, h', ass, hx => by
    obtain ⟨rfl, rfl⟩ := listX_nil hx
    exact ⟨rfl, .refl _, fun r hr => by cases hr⟩
  | n + 1, h, h', ass, hx => by
    obtain ⟨row, l, h1, rfl, e1, e2⟩ := listX_cons hx
    obtain ⟨a, q1, q2, q3⟩ := act_row e1
    obtain ⟨r1, r2, r3⟩ := act_rows n e2
    refine ⟨by simp [r1], q3.trans r2, fun x hx => ?_⟩
    rcases List.mem_cons.1 hx with rfl | hx
    · exact ⟨q2, a, q1.grow r2⟩
    · exact r3 x hx

theorem run4 : ∀ h xs, argsT Try.prog 1048576 h 5 Try.f4.params.toList xs → argsX Try.prog 1048576 5 Try.f4.params.toList emptyHeap xs h →
    ∃ n h', acall X1 tab n (.fn 4) xs h = some (.bool true, h') ∨ (AV.bares xs = true ∧ acall X1 tab n (.fn 4) xs emptyHeap = some (.bool true, h')) := by
  intro h xs _ hx
  rw [Try.params4] at hx
  obtain ⟨l, _, h1, rfl, hl, hx⟩ := argsX_cons hx
  obtain ⟨y, _, h2, rfl, hy, hx⟩ := argsX_cons hx
  obtain ⟨rfl, rfl⟩ := argsX_nil hx
  obtain ⟨by_, rfl, _, rfl⟩ := argX_int Try.underlying5 hy
  rcases argX_slice Try.underlying34 hl with ⟨rfl, rfl⟩ | ⟨len, ass, h3, e1, _, _, rfl, rfl⟩
  · obtain ⟨h', e⟩ := go4nil _ by_
    exact ranX e
  · obtain ⟨r1, r2, r3⟩ := act_rows len e1
    have hc : Try.prog.cellsOf 40 = 5 := by kernel_rfl
    rw [hc]
    have ha : ActsAt (h3.alloc (.cells ass.flatten true)) h3.next ass :=
      ⟨by simp, by rw [Heap.get_alloc, if_pos rfl], fun r hr => (r3 r hr).1, fun i row hi => by
        obtain ⟨a, q⟩ := (r3 row (List.mem_of_getElem? hi)).2
        exact ⟨a, q.grow (Grow.alloc _ _)⟩⟩
    obtain ⟨h', e⟩ := go4 ha r1 by_
    exact ranX e
end Go.Proofs.Ytdgpjefbdocepaa.Ya
