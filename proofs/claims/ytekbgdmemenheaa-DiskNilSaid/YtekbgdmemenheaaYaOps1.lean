/-
  Operations, the first part: what the abstract machine does, the model does. Numbers, strings, comparisons, conversions, parts of values.
-/
import Derived.WalkKit
import Derived.Laws.StructEq
import Derived.Laws.Small
import Derived.Laws.BytesString
import Derived.Laws.BytesArg
import Derived.OpenShut
import Derived.Test.YtekbgdmemenheaaYaMem
namespace Go.Ya
set_option linter.unusedVariables false
set_option linter.unusedSimpArgs false

/-- An operation's end in the model, beside the abstract one. -/
def VDone (P : Program) (μ : Mu) (h : Heap) (w : World) (res : Result Value) (v : AV) (h' : Heap) : Prop :=
  ∃ μ' v' w', res = .ok v' w' ∧ V μ' v v' ∧ St P μ' h' w' ∧ Fr μ h w μ' h' w'
def UDone (P : Program) (μ : Mu) (h : Heap) (w : World) (res : Result Unit) (h' : Heap) : Prop :=
  ∃ μ' w', res = .ok () w' ∧ St P μ' h' w' ∧ Fr μ h w μ' h' w'

section
variable {P : Program} {μ : Mu} {h : Heap} {w : World}

theorem VDone.pure (s : St P μ h w) {v : AV} {v' : Value} {res : Result Value} (e : res = .ok v' w) (hv : V μ v v') : VDone P μ h w res v h :=
  ⟨μ, v', w, e, hv, s, .refl _ _ _⟩

theorem wf_wrap' (k : IntKind) (n : Int) : wfInt k (k.wrap n) = true := by
  have := wf_wrap k n
  simpa [Lit.wf, wfInt] using this
theorem wf_bounds {k : IntKind} {n : Int} (hw : wfInt k n = true) : k.min ≤ n ∧ n ≤ k.max := by simpa [wfInt] using hw
theorem wf_of {k : IntKind} {n : Int} (h1 : k.min ≤ n) (h2 : n ≤ k.max) : wfInt k n = true := by simp [wfInt, h1, h2]
theorem wf_nat {n : Nat} (hn : n ≤ 9223372036854775807) : wfInt .i64 (n : Int) = true := by
  refine wf_of ?_ ?_ <;> simp [IntKind.min, IntKind.max, IntKind.signed, IntKind.bits] <;> omega
theorem min_le_zero (k : IntKind) : k.min ≤ 0 := by cases k <;> simp [IntKind.min, IntKind.signed, IntKind.bits]
theorem zero_le_max (k : IntKind) : 0 ≤ k.max := by cases k <;> simp [IntKind.max, IntKind.signed, IntKind.bits]

theorem tmod_wf {k : IntKind} {a b : Int} (ha : wfInt k a = true) : wfInt k (a.tmod b) = true := by
  obtain ⟨h1, h2⟩ := wf_bounds ha
  have m0 := min_le_zero k
  have m1 := zero_le_max k
  have h3 : (a.tmod b).natAbs ≤ a.natAbs := by rw [Int.natAbs_tmod]; exact Nat.mod_le _ _
  rcases Int.le_total 0 a with h0 | h0
  · have l1 := Int.tmod_nonneg b h0
    exact wf_of (by omega) (by omega)
  · have l1 : 0 ≤ (-a).tmod b := Int.tmod_nonneg b (by omega)
    rw [Int.neg_tmod] at l1
    exact wf_of (by omega) (by omega)

theorem shr_wf {k : IntKind} {a : Int} (n : Nat) (ha : wfInt k a = true) : wfInt k (a.fdiv (2 ^ n)) = true := by
  obtain ⟨h1, h2⟩ := wf_bounds ha
  have m0 := min_le_zero k
  have m1 := zero_le_max k
  have hp : (0 : Int) < 2 ^ n := Int.pow_pos (by decide)
  rw [Int.fdiv_eq_ediv_of_nonneg _ (Int.le_of_lt hp)]
  rcases Int.le_total 0 a with h0 | h0
  · have l1 := Int.ediv_nonneg h0 (Int.le_of_lt hp)
    have l2 := Int.ediv_le_self (2 ^ n) h0
    exact wf_of (by omega) (by omega)
  · have l1 : a / 2 ^ n ≤ 0 := by
      have := Int.ediv_le_ediv hp h0
      simpa using this
    have l2 : a ≤ a / 2 ^ n := by
      rw [Int.le_ediv_iff_mul_le hp]
      have : (1 : Int) ≤ 2 ^ n := hp
      calc a * 2 ^ n ≤ a * 1 := Int.mul_le_mul_of_nonpos_left h0 this
        _ = a := Int.mul_one a
    exact wf_of (by omega) (by omega)

theorem min_wf {k : IntKind} {a b : Int} (c : Prop) [Decidable c] (ha : wfInt k a = true) (hb : wfInt k b = true) : wfInt k (if c then a else b) = true := by
  split <;> assumption

/-! ### strings -/
theorem bytesOf_len (s : ByteArray) : (bytesOf s).length = s.size := by simp [bytesOf]
theorem bytesOf_inj {s t : ByteArray} (e : bytesOf s = bytesOf t) : s = t := by
  obtain ⟨⟨s⟩⟩ := s
  obtain ⟨⟨t⟩⟩ := t
  simp only [bytesOf] at e
  have : s = t := by
    have hinj : Function.Injective (fun b : UInt8 => (b.toNat : Int)) := fun a b h => UInt8.toNat_inj.1 (Int.ofNat.inj h)
    exact List.map_inj_right (fun a b h => hinj h) |>.1 e
  rw [this]
theorem bytesOf_beq (s t : ByteArray) : (bytesOf s == bytesOf t) = (s.toList == t.toList) := by
  rw [ByteArray.toList_eq, ByteArray.toList_eq]
  by_cases e : s = t
  · subst e; simp
  · have h1 : bytesOf s ≠ bytesOf t := fun h => e (bytesOf_inj h)
    have h2 : s.data.toList ≠ t.data.toList := fun h => e (by obtain ⟨⟨s⟩⟩ := s; obtain ⟨⟨t⟩⟩ := t; simp at h; rw [h])
    rw [beq_eq_false_iff_ne.2 h1, beq_eq_false_iff_ne.2 h2]
theorem bytesOf_append (s t : ByteArray) : bytesOf (s ++ t) = bytesOf s ++ bytesOf t := by simp [bytesOf]
theorem bytesOf_wf (s : ByteArray) : ∀ n ∈ bytesOf s, wfInt .u8 n = true := by
  intro n hn
  simp only [bytesOf, List.mem_map] at hn
  obtain ⟨b, _, rfl⟩ := hn
  have := b.toNat_lt
  refine wf_of ?_ ?_ <;> simp [IntKind.min, IntKind.max, IntKind.signed, IntKind.bits] <;> omega
theorem less_bytes : ∀ (a b : List UInt8), lessA (a.map fun b => (b.toNat : Int)) (b.map fun b => (b.toNat : Int)) = Op.bytesLess a b
  | [], [] => rfl
  | _ :: _, [] => rfl
  | [], _ :: _ => rfl
  | x :: a, y :: b => by
    show (decide ((x.toNat : Int) < (y.toNat : Int)) || ((x.toNat : Int) == (y.toNat : Int)) && lessA (a.map fun b => (b.toNat : Int)) (b.map fun b => (b.toNat : Int))) = (decide (x < y) || (x == y && Op.bytesLess a b))
    rw [less_bytes a b]
    have e1 : decide ((x.toNat : Int) < (y.toNat : Int)) = decide (x < y) := by simp [UInt8.lt_iff_toNat_lt]
    have e2 : ((x.toNat : Int) == (y.toNat : Int)) = (x == y) := by
      by_cases e : x = y
      · subst e; simp
      · have : ¬ (x.toNat : Int) = y.toNat := fun h => e (UInt8.toNat_inj.1 (Int.ofNat.inj h))
        rw [beq_eq_false_iff_ne.2 this, beq_eq_false_iff_ne.2 e]
    rw [e1, e2]
theorem less_strings (s t : ByteArray) : lessA (bytesOf s) (bytesOf t) = Op.bytesLess s.toList t.toList := by
  rw [ByteArray.toList_eq, ByteArray.toList_eq]; exact less_bytes _ _

/-! ### two values -/
theorem binInt_sim (s : St P μ h w) (op : BinOp) (k : IntKind) (a b : Int) (ha : wfInt k a = true) (hb : wfInt k b = true) (hs : ¬ (op = .shl ∨ op = .shr)) (t : TypeId) {v : AV} (e : binInt op k a b = some v) :
    VDone P μ h w ((binOp op t (.int k a) (.int k b)).run P w) v h := by
  cases op with
  | add => cases e; exact VDone.pure s (v' := .int k (k.wrap (a + b))) (by simp [binOp, Op.intArith]) (.int _ _ (wf_wrap' _ _))
  | sub => cases e; exact VDone.pure s (v' := .int k (k.wrap (a - b))) (by simp [binOp, Op.intArith]) (.int _ _ (wf_wrap' _ _))
  | mul => cases e; exact VDone.pure s (v' := .int k (k.wrap (a * b))) (by simp [binOp, Op.intArith]) (.int _ _ (wf_wrap' _ _))
  | quo =>
    simp only [binInt] at e
    split at e
    · cases e
    · cases e; exact VDone.pure s (v' := .int k (k.wrap (a.tdiv b))) (by simp [binOp, Op.intDiv, *]) (.int _ _ (wf_wrap' _ _))
  | rem =>
    simp only [binInt] at e
    split at e
    · cases e
    · cases e; exact VDone.pure s (v' := .int k (a.tmod b)) (by simp [binOp, Op.intDiv, *]) (.int _ _ (tmod_wf ha))
  | and => cases e; exact VDone.pure s (v' := .int k (k.wrap (BitVec.ofInt k.bits a &&& BitVec.ofInt k.bits b).toNat)) (by simp only [binOp]; rw [if_neg (by simp)]; rfl) (.int _ _ (wf_wrap' _ _))
  | or => cases e; exact VDone.pure s (v' := .int k (k.wrap (BitVec.ofInt k.bits a ||| BitVec.ofInt k.bits b).toNat)) (by simp only [binOp]; rw [if_neg (by simp)]; rfl) (.int _ _ (wf_wrap' _ _))
  | xor => cases e; exact VDone.pure s (v' := .int k (k.wrap (BitVec.ofInt k.bits a ^^^ BitVec.ofInt k.bits b).toNat)) (by simp only [binOp]; rw [if_neg (by simp)]; rfl) (.int _ _ (wf_wrap' _ _))
  | andNot => cases e; exact VDone.pure s (v' := .int k (k.wrap (BitVec.ofInt k.bits a &&& ~~~ BitVec.ofInt k.bits b).toNat)) (by simp only [binOp]; rw [if_neg (by simp)]; rfl) (.int _ _ (wf_wrap' _ _))
  | shl => simp at hs
  | shr => simp at hs
  | eql => cases e; exact VDone.pure s (v' := .bool (a == b)) (by simp [binOp, Op.intCmp]) (.bool _)
  | neq => cases e; exact VDone.pure s (v' := .bool (a != b)) (by simp [binOp, Op.intCmp]) (.bool _)
  | lss => cases e; exact VDone.pure s (v' := .bool (decide (a < b))) (by simp [binOp, Op.intCmp]) (.bool _)
  | leq => cases e; exact VDone.pure s (v' := .bool (decide (a ≤ b))) (by simp [binOp, Op.intCmp]) (.bool _)
  | gtr => cases e; exact VDone.pure s (v' := .bool (decide (a > b))) (by simp [binOp, Op.intCmp]) (.bool _)
  | geq => cases e; exact VDone.pure s (v' := .bool (decide (a ≥ b))) (by simp [binOp, Op.intCmp]) (.bool _)

theorem shift_sim (s : St P μ h w) (op : BinOp) (k yk : IntKind) (a b : Int) (ha : wfInt k a = true) (hs : op = .shl ∨ op = .shr) (t : TypeId) {v : AV} (e : shiftInt op k a b = some v) :
    VDone P μ h w ((binOp op t (.int k a) (.int yk b)).run P w) v h := by
  unfold shiftInt at e
  split at e
  · cases e
  · rename_i hb
    rcases hs with rfl | rfl
    · cases e
      exact VDone.pure s (v' := .int k (k.wrap _)) (by simp only [binOp, Op.shift, hb, if_false]; rfl) (.int _ _ (wf_wrap' _ _))
    · cases e
      exact VDone.pure s (v' := .int k _) (by simp only [binOp, Op.shift, hb, if_false]; rfl) (.int _ _ (shr_wf _ ha))

theorem binStr_sim (s : St P μ h w) (op : BinOp) (a b : ByteArray) (ha : a.size ≤ 9223372036854775807) (hb : b.size ≤ 9223372036854775807) (t : TypeId) {v : AV} (e : binStr op (bytesOf a) (bytesOf b) = some v) :
    VDone P μ h w ((binOp op t (.string a) (.string b)).run P w) v h := by
  have hx : (binOp op t (.string a) (.string b)).run P w = (Op.stringOp op a b).run P w := by cases op <;> rfl
  rw [hx]
  cases op <;> simp only [binStr, Option.some.injEq, reduceCtorEq] at e
  · split at e
    · rename_i hle
      cases e
      rw [bytesOf_len, bytesOf_len] at hle
      have : ¬ (((a.size + b.size : Nat) : Int) > IntKind.i64.max) := by
        simp [IntKind.max, IntKind.signed, IntKind.bits]; omega
      refine VDone.pure s (v' := .string (a ++ b)) ?_ (.str _ _ (bytesOf_append a b) (by rw [ByteArray.size_append]; omega))
      simp only [Op.stringOp, this, if_false]; rfl
    · cases e
  all_goals (subst e; first
    | exact VDone.pure s (v' := .bool _) (by simp only [Op.stringOp]; rfl) (by rw [bytesOf_beq]; exact .bool _)
    | exact VDone.pure s (v' := .bool _) (by simp only [Op.stringOp]; rfl) (by rw [bne, bytesOf_beq]; exact .bool _)
    | exact VDone.pure s (v' := .bool _) (by simp only [Op.stringOp]; rfl) (by rw [less_strings, bytesOf_beq]; exact .bool _)
    | exact VDone.pure s (v' := .bool _) (by simp only [Op.stringOp]; rfl) (by rw [less_strings]; exact .bool _))

theorem eqKind_spec {t : TypeId} {k : EqK} (e : eqKind P t = k) : (k = .bool → P.underlying t = some .bool) ∧ (k = .ptr → ∃ x, P.underlying t = some (.pointer x)) ∧ (k = .sl → ∃ x, P.underlying t = some (.slice x)) ∧
    (k = .map → ∃ x y, P.underlying t = some (.map x y)) ∧ (k = .fn → ∃ x y z, P.underlying t = some (.func x y z)) ∧ (k = .iface → ∃ x, P.underlying t = some (.interface x)) := by
  unfold eqKind at e
  subst e
  cases P.underlying t with
  | none => simp
  | some d => cases d <;> simp

theorem nilEq_in {t : TypeId} {x y : AV} {x' y' : Value} {r : Bool} (e : nilEq (eqKind P t) x y = some r) (hx : V μ x x') (hy : V μ y y') (d : Nat) :
    (Op.equalIn (d + 1) t x' y').run P w = .ok r w := by
  have hk := eqKind_spec (P := P) (t := t) rfl
  obtain ⟨k1, k2, k3, k4, k5, k6⟩ := hk
  generalize eqKind P t = k at *
  unfold nilEq at e
  split at e <;> first
    | (cases e; done)
    | (simp only [Option.some.injEq] at e; subst e; cases hx; cases hy
       first
         | (have hu := k1 rfl; simp [Op.equalIn, run_underlying hu]; done)
         | (obtain ⟨_, hu⟩ := k2 rfl; simp [Op.equalIn, run_underlying hu]; done)
         | (obtain ⟨_, hu⟩ := k3 rfl; simp [Op.equalIn, run_underlying hu]; done)
         | (obtain ⟨_, _, hu⟩ := k4 rfl; simp [Op.equalIn, run_underlying hu]; done)
         | (obtain ⟨_, _, _, hu⟩ := k5 rfl; simp [Op.equalIn, run_underlying hu]; done)
         | (obtain ⟨_, hu⟩ := k6 rfl; simp [Op.equalIn, run_underlying hu]; done))
theorem nilEq_sim (s : St P μ h w) {t : TypeId} {x y : AV} {x' y' : Value} {r : Bool} (e : nilEq (eqKind P t) x y = some r) (hx : V μ x x') (hy : V μ y y') :
    (Op.equal t x' y').run P w = .ok r w := nilEq_in e hx hy 9999

/-- x op y where neither both are numbers nor both are strings. -/
theorem binNil_sim (s : St P μ h w) {op : BinOp} {t : TypeId} {x y : AV} {x' y' : Value} {v : AV}
    (e : (match (generalizing := false) op with
      | .eql => (nilEq (eqKind P t) x y).map .bool
      | .neq => (nilEq (eqKind P t) x y).map fun b => .bool !b
      | _ => none) = some v) (hx : V μ x x') (hy : V μ y y') (xo yo : Operand) :
    VDone P μ h w ((do eqGuard op t xo yo x' y'; binOp op t x' y' : Sem Value).run P w) v h := by
  have key : ∀ r, nilEq (eqKind P t) x y = some r → (eqGuard op t xo yo x' y').run P w = .ok () w ∧ (binOp .eql t x' y' = (do pure (.bool (← Op.equal t x' y')))) ∧ (binOp .neq t x' y' = (do pure (.bool (!(← Op.equal t x' y'))))) := by
    intro r hr
    unfold nilEq at hr
    split at hr <;> first
      | (cases hr; done)
      | (cases hx; cases hy; refine ⟨?_, rfl, rfl⟩; cases op <;> simp [eqGuard])
  cases op <;> simp only [Option.map_eq_some_iff, reduceCtorEq] at e
  · obtain ⟨r, hr, rfl⟩ := e
    obtain ⟨k1, k2, _⟩ := key r hr
    refine VDone.pure s (v' := .bool r) ?_ (.bool r)
    rw [Sem.run_bind, k1, Result.andThen_ok, k2]
    simp [nilEq_sim s hr hx hy]
  · obtain ⟨r, hr, rfl⟩ := e
    obtain ⟨k1, _, k3⟩ := key r hr
    refine VDone.pure s (v' := .bool !r) ?_ (.bool _)
    rw [Sem.run_bind, k1, Result.andThen_ok, k3]
    simp [nilEq_sim s hr hx hy]

theorem bin_sim (s : St P μ h w) {op : BinOp} {t : TypeId} {x y : AV} {x' y' : Value} {v : AV} (e : binA op (eqKind P t) x y = some v) (hx : V μ x x') (hy : V μ y y') (xo yo : Operand) :
    VDone P μ h w ((do eqGuard op t xo yo x' y'; binOp op t x' y' : Sem Value).run P w) v h := by
  unfold binA at e
  split at e
  · cases hx; cases hy
    have hg : ∀ (j k : IntKind) (a b : Int), (eqGuard op t xo yo (.int j a) (.int k b)).run P w = .ok () w := by intro j k a b; cases op <;> simp [eqGuard]
    rw [Sem.run_bind, hg, Result.andThen_ok]
    split at e
    · exact shift_sim s op _ _ _ _ ‹_› ‹_› t e
    · split at e
      · subst_vars; exact binInt_sim s op _ _ _ ‹_› ‹_› ‹_› t e
      · cases e
  · cases hx with | str _ a ha ha2 => cases hy with | str _ b hb hb2 =>
    subst ha; subst hb
    have hg : (eqGuard op t xo yo (.string a) (.string b)).run P w = .ok () w := by cases op <;> simp [eqGuard]
    rw [Sem.run_bind, hg, Result.andThen_ok]
    exact binStr_sim s op a b ha2 hb2 t e
  · exact binNil_sim s e hx hy xo yo

theorem un_sim (s : St P μ h w) {op : UnOp} {x v : AV} {x' : Value} (e : unA op x = some v) (hx : V μ x x') : VDone P μ h w ((Op.unary op x').run P w) v h := by
  unfold unA at e
  split at e
  · cases hx; cases e; exact VDone.pure s (v' := .int _ (IntKind.wrap _ _)) (by simp [Op.unary, Op.intArith]) (.int _ _ (wf_wrap' _ _))
  · cases hx; cases e; exact VDone.pure s (v' := .int _ (IntKind.wrap _ _)) (by simp only [Op.unary, Op.intBits]; rfl) (.int _ _ (wf_wrap' _ _))
  · cases hx; cases e; exact VDone.pure s (v' := .bool _) (by simp [Op.unary]) (.bool _)
  · cases e

end
end Go.Ya
