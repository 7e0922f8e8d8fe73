/-
  Contracts of the library as what is known: a text's first rune; how often, and where, a slash stands in a text; texts joined.
-/
import Derived.Shelf.Unicode.DecodeAny
import Derived.Test.YtpoccinfeekdhaaDoorYbG
import Derived.Test.YtpoccinfeekdhaaDoorYbI
namespace Go.Ya
set_option linter.unusedVariables false
set_option linter.unusedSimpArgs false
open Go.Shelf Go.RowKit
section
variable {P : Program} {ρ : Ren} {μ : Mu} {h : Heap} {w w' : World}
theorem St.below (s : St P μ h w) (hb : Below w.heap.size w w') : St P μ h w' ∧ Fr μ h w μ h w' := by
  have hsame := hb.block
  have fr : Fr μ h w μ h w' := ⟨.refl _, hb.size, hb.os, hb.tape, hb.output, fun b hb _ => hsame b hb, fun b hb => .inl hb, Nat.le_refl _, fun _ _ h => h⟩
  refine ⟨⟨⟨fun id b base lim o e1 e2 => ?_, s.r.inj⟩, s.bd, s.mkd.sameH fun id b base lim c ro m g => hsame b (s.r.lt m g rfl), s.tb.fr fr⟩, fr⟩
  have ho := s.r.obj id b base lim o e1 e2
  cases hl : o.live with
  | true => exact ho.of_same (.refl _) (hsame b (s.r.lt e1 e2 hl))
  | false => cases o <;> first | trivial | simp [AObj.live] at hl
def decA (s : List Int) : Nat × Nat := Lib.decodeGo (toBA s)
theorem decode_width (st : ByteArray) (pos : Nat) : (Utf8.decode st pos).2 ≤ 4 := by
  rw [Lib.decode_at]
  unfold Lib.decodeN
  repeat' split
  all_goals simp
theorem decA_bound (s : List Int) : (decA s).1 ≤ 2147483647 ∧ (decA s).2 ≤ 4 := by
  unfold decA Lib.decodeGo
  split
  · exact ⟨by decide, by decide⟩
  · exact ⟨decode_bound _ _, decode_width _ _⟩
def decK (f : FuncId) : Known := fun g args h => if g = f then match args with | [.str a] => some (.tuple [.int .i32 (decA a).1, .int .i64 (decA a).2], h) | _ => none else none
theorem decK_ok (L : Go.Proofs.Lays.n197 P ρ) (e3 : P.globalNamed "unicode/utf8.first" = some (ρ.g 3)) (e4 : P.globalNamed "unicode/utf8.acceptRanges" = some (ρ.g 4)) {f : FuncId} (hf : ρ.f 197 = f) : XOk P (decK f) := by
  subst hf
  intro g args h v h' e μ w args' s hv
  unfold decK at e
  split at e
  · rename_i hg
    subst hg
    split at e
    · rename_i a
      cases e
      obtain ⟨l⟩ := args'
      cases hv with | cons _ x _ xs h1 h2 =>
      cases h2
      cases h1 with | str _ s1 e1 _ =>
      obtain ⟨_, _, t3, t4⟩ := s.tb _ _ e3 e4
      refine ⟨⟨_, L.f197, by kernel_rfl, by rw [show (Go.Proofs.Body.n197 ρ).name = "unicode/utf8.DecodeRuneInString" by kernel_rfl]; decide⟩, (Go.Proofs.Any.utf8_DecodeRuneInString L s1 w ⟨t3, t4⟩).mono fun e w' ⟨q1, q2⟩ => ?_⟩
      have hb := decA_bound (bytesOf s1)
      subst e1
      rw [show Lib.decodeGo s1 = decA (bytesOf s1) by unfold decA; rw [toBA_bytesOf]] at q1
      obtain ⟨k1, k2⟩ := s.below q2
      refine ⟨μ, _, q1, ?_, k1, k2⟩
      exact .tuple _ _ (.cons _ _ _ _ (.int _ _ (wf_of (by simp [IntKind.min, IntKind.signed, IntKind.bits]) (by simp [IntKind.max, IntKind.signed, IntKind.bits]; omega))) (.cons _ _ _ _ (.int _ _ (wf_nat (by omega))) .nil))
    · cases e
  · cases e
/-! ### a slash -/
end
end Go.Ya
