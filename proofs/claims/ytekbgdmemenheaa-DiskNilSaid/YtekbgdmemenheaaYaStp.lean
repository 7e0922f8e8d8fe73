/-
  What an act leaves of the heap; a loop over a function that yields.
-/
import Derived.Test.YtekbgdmemenheaaYaSim
namespace Go.Ya
set_option linter.unusedVariables false
set_option linter.unusedSimpArgs false

/-- What an act on an object of blocks F leaves of all else. -/
def Stp (h h' : Heap) (F F' : Nat → Prop) : Prop := h.next ≤ h'.next ∧ (∀ j, j < h.next → ¬ F j → h'.get j = h.get j) ∧ (∀ j, F' j → F j ∨ h.next ≤ j)
theorem Stp.of_grow {h h' : Heap} {F : Nat → Prop} (g : Grow h h') : Stp h h' F F := ⟨g.1, fun j hj _ => g.2 j hj, fun j hj => .inl hj⟩
theorem Stp.trans {h h' h2 : Heap} {F F' F2 : Nat → Prop} (s : Stp h h' F F') (t : Stp h' h2 F' F2) : Stp h h2 F F2 :=
  ⟨Nat.le_trans s.1 t.1, fun j hj hn => (t.2.1 j (Nat.lt_of_lt_of_le hj s.1) fun hf => (s.2.2 j hf).elim hn fun e => by omega).trans (s.2.1 j hj hn), fun j hj => by
    rcases t.2.2 j hj with e | e
    · exact s.2.2 j e
    · exact .inr (Nat.le_trans s.1 e)⟩
section
variable {X : Known} {SP : FuncId → Option SFunc}
theorem x_range {self : FuncId} {rd : Option Nat} {f : Opd} {params : List Nat} {assign bd : SC} {tm : List AV} {h h' : Heap} {g : FuncId} {first captured : List AV} {v : AV} {self' : Nat} {tm' : List AV} {ps' : List Nat} {as' bd' : SC} {st : LoopState} {pend : AExit}
    (hev : ev tm f = .func g first captured) (hrd : rdOk h rd = true) (hc : xcall X SP (.fn g) (first ++ [.yieldf h.next] ++ captured) (h.alloc (.loop self tm params assign bd .ready .normal)) = some (v, h'))
    (hg : h'.get h.next = some (.loop self' tm' ps' as' bd' st pend)) (hst : st ≠ .busy) : xcode X SP self rd (.rangeFunc f params assign bd) tm h = some (pend, tm, h'.set h.next (.loop self' tm' ps' as' bd' .exhausted pend)) := by
  rw [xcode_step]
  show code_range (xcall X SP) self rd f params assign bd tm h = _
  unfold code_range
  rw [hev, hrd]
  simp only [hc, hg, hst, if_false]
end
end Go.Ya
