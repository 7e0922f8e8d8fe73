/-
  Xdr: the reader.
-/
import Derived.Test.YtndcokalnpnbgaaYaXdrSpec
namespace Go.Proofs.Ytndcokalnpnbgaa.Ya
open Go.Ya
set_option linter.unusedVariables false
set_option linter.unusedSimpArgs false
set_option maxRecDepth 100000

def R : XdrR X1 tab where
  toNumW := W.toNumW
  bk := 56
  bk1 := 58
  get := 50
  kx3 := fun f args h e => by rcases e with rfl | rfl | rfl <;> rfl
  s20 := rfl
  s21 := rfl
  s22 := rfl
  zero1 := 53
  idx := 57
  cont := 52
  zero := 45
  none_ := 47
  fine := 44
  fail := 43
  rdnum := 41
  rdNumber := 22
  rdGreat := 24
  rdTruth := 26
  rdBytes := 28
  rdError := 30
  rdEnd := 31
  newRd := 21
  clone2 := 40
  kx4 := fun f args h e => by rcases e with rfl | rfl | rfl | rfl | rfl | rfl | rfl | rfl | rfl | rfl | rfl | rfl | rfl | rfl | rfl | rfl <;> rfl
  s23 := rfl
  s24 := rfl
  s25 := rfl
  s26 := rfl
  s27 := rfl
  s28 := rfl
  s29 := rfl
  s30 := rfl
  s31 := rfl
  s32 := rfl
  s33 := rfl
  s34 := rfl
  s35 := rfl
  s36 := rfl
  s37 := rfl
  s38 := rfl

/-- What is told of a thing: is it this one, and what is left. -/
def rdThing (a : Thing) (s : List Int × Int) : Bool × (List Int × Int) :=
  if (a.what.tmod 4 == 0) = true then ((rdN 4 s).1 == IntKind.u32.wrap a.n, (rdN 4 s).2) else if (a.what.tmod 4 == 1) = true then ((rdN 8 s).1 == a.n, (rdN 8 s).2)
  else if (a.what.tmod 4 == 2) = true then ((rdT s).1 == a.is, (rdT s).2) else ((rdB a.b.length s).1 == a.b, (rdB a.b.length s).2)
def Inv33 (h0 h : Heap) (r : Nat) (s : List Int × Int) (F : Nat → Prop) : Prop := RAt h r s F ∧ (∀ j, F j → h0.next ≤ j) ∧ h0.next ≤ h.next ∧ ∀ j, j < h0.next → h.get j = h0.get j
theorem Inv33.step {h0 h h' : Heap} {r : Nat} {s s' : List Int × Int} {F : Nat → Prop} (v : Inv33 h0 h r s F) (f : RAt h' r s' F) (st : Stp h h' F F) : Inv33 h0 h' r s' F :=
  ⟨f, v.2.1, Nat.le_trans v.2.2.1 st.1, fun j hj => by rw [st.2.1 j (Nat.lt_of_lt_of_le hj v.2.2.1) (fun e => by have := v.2.1 j e; omega)]; exact v.2.2.2 j hj⟩
end Go.Proofs.Ytndcokalnpnbgaa.Ya
