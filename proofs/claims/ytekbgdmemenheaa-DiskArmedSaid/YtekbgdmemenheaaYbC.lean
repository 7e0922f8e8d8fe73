/-
  The abstract machine: YaOps1, YaOps2, YaOps3, YaEq, YaOps4.
-/
import Derived.WalkKit
import Derived.Laws.StructEq
import Derived.Laws.Small
import Derived.Laws.BytesString
import Derived.Laws.BytesArg
import Derived.OpenShut
import Derived.Test.YtekbgdmemenheaaYbB
namespace Go.Ya
set_option linter.unusedVariables false
set_option linter.unusedSimpArgs false
def VDone (P : Program) (μ : Mu) (h : Heap) (w : World) (res : Result Value) (v : AV) (h' : Heap) : Prop :=
  ∃ μ' v' w', res = .ok v' w' ∧ V μ' v v' ∧ St P μ' h' w' ∧ Fr μ h w μ' h' w'
def UDone (P : Program) (μ : Mu) (h : Heap) (w : World) (res : Result Unit) (h' : Heap) : Prop :=
  ∃ μ' w', res = .ok () w' ∧ St P μ' h' w' ∧ Fr μ h w μ' h' w'
section
variable {P : Program} {μ : Mu} {h : Heap} {w : World}
theorem VDone.pure (s : St P μ h w) {v : AV} {v' : Value} {res : Result Value} (e : res = .ok v' w) (hv : V μ v v') : VDone P μ h w res v h :=
  ⟨μ, v', w, e, hv, s, .refl _ _ _⟩
theorem wf_wrap' (k : IntKind) (n : Int) : wfInt k (k.wrap n) = true := by
  have := wf_wrap k n
  simpa [Lit.wf, wfInt] using this
theorem wf_bounds {k : IntKind} {n : Int} (hw : wfInt k n = true) : k.min ≤ n ∧ n ≤ k.max := by simpa [wfInt] using hw
theorem wf_of {k : IntKind} {n : Int} (h1 : k.min ≤ n) (h2 : n ≤ k.max) : wfInt k n = true := by simp [wfInt, h1, h2]
theorem wf_nat {n : Nat} (hn : n ≤ 9223372036854775807) : wfInt .i64 (n : Int) = true := by
  refine wf_of ?_ ?_ <;> simp [IntKind.min, IntKind.max, IntKind.signed, IntKind.bits] <;> omega
theorem min_le_zero (k : IntKind) : k.min ≤ 0 := by cases k <;> simp [IntKind.min, IntKind.signed, IntKind.bits]
theorem zero_le_max (k : IntKind) : 0 ≤ k.max := by cases k <;> simp [IntKind.max, IntKind.signed, IntKind.bits]
theorem tmod_wf {k : IntKind} {a b : Int} (ha : wfInt k a = true) : wfInt k (a.tmod b) = true := by
  obtain ⟨h1, h2⟩ := wf_bounds ha
  have m0 := min_le_zero k
  have m1 := zero_le_max k
  have h3 : (a.tmod b).natAbs ≤ a.natAbs := by rw [Int.natAbs_tmod]; exact Nat.mod_le _ _
  rcases Int.le_total 0 a with h0 | h0
  · have l1 := Int.tmod_nonneg b h0
    exact wf_of (by omega) (by omega)
  · have l1 : 0 ≤ (-a).tmod b := Int.tmod_nonneg b (by omega)
    rw [Int.neg_tmod] at l1
    exact wf_of (by omega) (by omega)
theorem shr_wf {k : IntKind} {a : Int} (n : Nat) (ha : wfInt k a = true) : wfInt k (a.fdiv (2 ^ n)) = true := by
  obtain ⟨h1, h2⟩ := wf_bounds ha
  have m0 := min_le_zero k
  have m1 := zero_le_max k
  have hp : (0 : Int) < 2 ^ n := Int.pow_pos (by decide)
  rw [Int.fdiv_eq_ediv_of_nonneg _ (Int.le_of_lt hp)]
  rcases Int.le_total 0 a with h0 | h0
  · have l1 := Int.ediv_nonneg h0 (Int.le_of_lt hp)
    have l2 := Int.ediv_le_self (2 ^ n) h0
    exact wf_of (by omega) (by omega)
  · have l1 : a / 2 ^ n ≤ 0 := by
      have := Int.ediv_le_ediv hp h0
      simpa using this
    have l2 : a ≤ a / 2 ^ n := by
      rw [Int.le_ediv_iff_mul_le hp]
      have : (1 : Int) ≤ 2 ^ n := hp
      calc a * 2 ^ n ≤ a * 1 := Int.mul_le_mul_of_nonpos_left h0 this
        _ = a := Int.mul_one a
    exact wf_of (by omega) (by omega)
theorem min_wf {k : IntKind} {a b : Int} (c : Prop) [Decidable c] (ha : wfInt k a = true) (hb : wfInt k b = true) : wfInt k (if c then a else b) = true := by
  split <;> assumption
/-! ### strings -/
theorem bytesOf_len (s : ByteArray) : (bytesOf s).length = s.size := by simp [bytesOf]
theorem bytesOf_inj {s t : ByteArray} (e : bytesOf s = bytesOf t) : s = t := by
  obtain ⟨⟨s⟩⟩ := s
  obtain ⟨⟨t⟩⟩ := t
  simp only [bytesOf] at e
  have : s = t := by
    have hinj : Function.Injective (fun b : UInt8 => (b.toNat : Int)) := fun a b h => UInt8.toNat_inj.1 (Int.ofNat.inj h)
    exact List.map_inj_right (fun a b h => hinj h) |>.1 e
  rw [this]
theorem bytesOf_beq (s t : ByteArray) : (bytesOf s == bytesOf t) = (s.toList == t.toList) := by
  rw [ByteArray.toList_eq, ByteArray.toList_eq]
  by_cases e : s = t
  · subst e; simp
  · have h1 : bytesOf s ≠ bytesOf t := fun h => e (bytesOf_inj h)
    have h2 : s.data.toList ≠ t.data.toList := fun h => e (by obtain ⟨⟨s⟩⟩ := s; obtain ⟨⟨t⟩⟩ := t; simp at h; rw [h])
    rw [beq_eq_false_iff_ne.2 h1, beq_eq_false_iff_ne.2 h2]
theorem bytesOf_append (s t : ByteArray) : bytesOf (s ++ t) = bytesOf s ++ bytesOf t := by simp [bytesOf]
theorem bytesOf_wf (s : ByteArray) : ∀ n ∈ bytesOf s, wfInt .u8 n = true := by
  intro n hn
  simp only [bytesOf, List.mem_map] at hn
  obtain ⟨b, _, rfl⟩ := hn
  have := b.toNat_lt
  refine wf_of ?_ ?_ <;> simp [IntKind.min, IntKind.max, IntKind.signed, IntKind.bits] <;> omega
theorem less_bytes : ∀ (a b : List UInt8), lessA (a.map fun b => (b.toNat : Int)) (b.map fun b => (b.toNat : Int)) = Op.bytesLess a b
  | [], [] => rfl
  | _ :: _, [] => rfl
  | [], _ :: _ => rfl
  | x :: a, y :: b => by
    show (decide ((x.toNat : Int) < (y.toNat : Int)) || ((x.toNat : Int) == (y.toNat : Int)) && lessA (a.map fun b => (b.toNat : Int)) (b.map fun b => (b.toNat : Int))) = (decide (x < y) || (x == y && Op.bytesLess a b))
    rw [less_bytes a b]
    have e1 : decide ((x.toNat : Int) < (y.toNat : Int)) = decide (x < y) := by simp [UInt8.lt_iff_toNat_lt]
    have e2 : ((x.toNat : Int) == (y.toNat : Int)) = (x == y) := by
      by_cases e : x = y
      · subst e; simp
      · have : ¬ (x.toNat : Int) = y.toNat := fun h => e (UInt8.toNat_inj.1 (Int.ofNat.inj h))
        rw [beq_eq_false_iff_ne.2 this, beq_eq_false_iff_ne.2 e]
    rw [e1, e2]
theorem less_strings (s t : ByteArray) : lessA (bytesOf s) (bytesOf t) = Op.bytesLess s.toList t.toList := by
  rw [ByteArray.toList_eq, ByteArray.toList_eq]; exact less_bytes _ _
/-! ### two values -/
theorem binInt_sim (s : St P μ h w) (op : BinOp) (k : IntKind) (a b : Int) (ha : wfInt k a = true) (hb : wfInt k b = true) (hs : ¬ (op = .shl ∨ op = .shr)) (t : TypeId) {v : AV} (e : binInt op k a b = some v) :
    VDone P μ h w ((binOp op t (.int k a) (.int k b)).run P w) v h := by
  cases op with
  | add => cases e; exact VDone.pure s (v' := .int k (k.wrap (a + b))) (by simp [binOp, Op.intArith]) (.int _ _ (wf_wrap' _ _))
  | sub => cases e; exact VDone.pure s (v' := .int k (k.wrap (a - b))) (by simp [binOp, Op.intArith]) (.int _ _ (wf_wrap' _ _))
  | mul => cases e; exact VDone.pure s (v' := .int k (k.wrap (a * b))) (by simp [binOp, Op.intArith]) (.int _ _ (wf_wrap' _ _))
  | quo =>
    simp only [binInt] at e
    split at e
    · cases e
    · cases e; exact VDone.pure s (v' := .int k (k.wrap (a.tdiv b))) (by simp [binOp, Op.intDiv, *]) (.int _ _ (wf_wrap' _ _))
  | rem =>
    simp only [binInt] at e
    split at e
    · cases e
    · cases e; exact VDone.pure s (v' := .int k (a.tmod b)) (by simp [binOp, Op.intDiv, *]) (.int _ _ (tmod_wf ha))
  | and => cases e; exact VDone.pure s (v' := .int k (k.wrap (BitVec.ofInt k.bits a &&& BitVec.ofInt k.bits b).toNat)) (by simp only [binOp]; rw [if_neg (by simp)]; rfl) (.int _ _ (wf_wrap' _ _))
  | or => cases e; exact VDone.pure s (v' := .int k (k.wrap (BitVec.ofInt k.bits a ||| BitVec.ofInt k.bits b).toNat)) (by simp only [binOp]; rw [if_neg (by simp)]; rfl) (.int _ _ (wf_wrap' _ _))
  | xor => cases e; exact VDone.pure s (v' := .int k (k.wrap (BitVec.ofInt k.bits a ^^^ BitVec.ofInt k.bits b).toNat)) (by simp only [binOp]; rw [if_neg (by simp)]; rfl) (.int _ _ (wf_wrap' _ _))
  | andNot => cases e; exact VDone.pure s (v' := .int k (k.wrap (BitVec.ofInt k.bits a &&& ~~~ BitVec.ofInt k.bits b).toNat)) (by simp only [binOp]; rw [if_neg (by simp)]; rfl) (.int _ _ (wf_wrap' _ _))
  | shl => simp at hs
  | shr => simp at hs
  | eql => cases e; exact VDone.pure s (v' := .bool (a == b)) (by simp [binOp, Op.intCmp]) (.bool _)
  | neq => cases e; exact VDone.pure s (v' := .bool (a != b)) (by simp [binOp, Op.intCmp]) (.bool _)
  | lss => cases e; exact VDone.pure s (v' := .bool (decide (a < b))) (by simp [binOp, Op.intCmp]) (.bool _)
  | leq => cases e; exact VDone.pure s (v' := .bool (decide (a ≤ b))) (by simp [binOp, Op.intCmp]) (.bool _)
  | gtr => cases e; exact VDone.pure s (v' := .bool (decide (a > b))) (by simp [binOp, Op.intCmp]) (.bool _)
  | geq => cases e; exact VDone.pure s (v' := .bool (decide (a ≥ b))) (by simp [binOp, Op.intCmp]) (.bool _)
theorem shift_sim (s : St P μ h w) (op : BinOp) (k yk : IntKind) (a b : Int) (ha : wfInt k a = true) (hs : op = .shl ∨ op = .shr) (t : TypeId) {v : AV} (e : shiftInt op k a b = some v) :
    VDone P μ h w ((binOp op t (.int k a) (.int yk b)).run P w) v h := by
  unfold shiftInt at e
  split at e
  · cases e
  · rename_i hb
    rcases hs with rfl | rfl
    · cases e
      exact VDone.pure s (v' := .int k (k.wrap _)) (by simp only [binOp, Op.shift, hb, if_false]; rfl) (.int _ _ (wf_wrap' _ _))
    · cases e
      exact VDone.pure s (v' := .int k _) (by simp only [binOp, Op.shift, hb, if_false]; rfl) (.int _ _ (shr_wf _ ha))
theorem binStr_sim (s : St P μ h w) (op : BinOp) (a b : ByteArray) (ha : a.size ≤ 9223372036854775807) (hb : b.size ≤ 9223372036854775807) (t : TypeId) {v : AV} (e : binStr op (bytesOf a) (bytesOf b) = some v) :
    VDone P μ h w ((binOp op t (.string a) (.string b)).run P w) v h := by
  have hx : (binOp op t (.string a) (.string b)).run P w = (Op.stringOp op a b).run P w := by cases op <;> rfl
  rw [hx]
  cases op <;> simp only [binStr, Option.some.injEq, reduceCtorEq] at e
  · split at e
    · rename_i hle
      cases e
      rw [bytesOf_len, bytesOf_len] at hle
      have : ¬ (((a.size + b.size : Nat) : Int) > IntKind.i64.max) := by
        simp [IntKind.max, IntKind.signed, IntKind.bits]; omega
      refine VDone.pure s (v' := .string (a ++ b)) ?_ (.str _ _ (bytesOf_append a b) (by rw [ByteArray.size_append]; omega))
      simp only [Op.stringOp, this, if_false]; rfl
    · cases e
  all_goals (subst e; first
    | exact VDone.pure s (v' := .bool _) (by simp only [Op.stringOp]; rfl) (by rw [bytesOf_beq]; exact .bool _)
    | exact VDone.pure s (v' := .bool _) (by simp only [Op.stringOp]; rfl) (by rw [bne, bytesOf_beq]; exact .bool _)
    | exact VDone.pure s (v' := .bool _) (by simp only [Op.stringOp]; rfl) (by rw [less_strings, bytesOf_beq]; exact .bool _)
    | exact VDone.pure s (v' := .bool _) (by simp only [Op.stringOp]; rfl) (by rw [less_strings]; exact .bool _))
theorem eqKind_spec {t : TypeId} {k : EqK} (e : eqKind P t = k) : (k = .bool → P.underlying t = some .bool) ∧ (k = .ptr → ∃ x, P.underlying t = some (.pointer x)) ∧ (k = .sl → ∃ x, P.underlying t = some (.slice x)) ∧
    (k = .map → ∃ x y, P.underlying t = some (.map x y)) ∧ (k = .fn → ∃ x y z, P.underlying t = some (.func x y z)) ∧ (k = .iface → ∃ x, P.underlying t = some (.interface x)) := by
  unfold eqKind at e
  subst e
  cases P.underlying t with
  | none => simp
  | some d => cases d <;> simp
theorem nilEq_in {t : TypeId} {x y : AV} {x' y' : Value} {r : Bool} (e : nilEq (eqKind P t) x y = some r) (hx : V μ x x') (hy : V μ y y') (d : Nat) :
    (Op.equalIn (d + 1) t x' y').run P w = .ok r w := by
  have hk := eqKind_spec (P := P) (t := t) rfl
  obtain ⟨k1, k2, k3, k4, k5, k6⟩ := hk
  generalize eqKind P t = k at *
  unfold nilEq at e
  split at e <;> first
    | (cases e; done)
    | (simp only [Option.some.injEq] at e; subst e; cases hx; cases hy
       first
         | (have hu := k1 rfl; simp [Op.equalIn, run_underlying hu]; done)
         | (obtain ⟨_, hu⟩ := k2 rfl; simp [Op.equalIn, run_underlying hu]; done)
         | (obtain ⟨_, hu⟩ := k3 rfl; simp [Op.equalIn, run_underlying hu]; done)
         | (obtain ⟨_, _, hu⟩ := k4 rfl; simp [Op.equalIn, run_underlying hu]; done)
         | (obtain ⟨_, _, _, hu⟩ := k5 rfl; simp [Op.equalIn, run_underlying hu]; done)
         | (obtain ⟨_, hu⟩ := k6 rfl; simp [Op.equalIn, run_underlying hu]; done))
theorem nilEq_sim (s : St P μ h w) {t : TypeId} {x y : AV} {x' y' : Value} {r : Bool} (e : nilEq (eqKind P t) x y = some r) (hx : V μ x x') (hy : V μ y y') :
    (Op.equal t x' y').run P w = .ok r w := nilEq_in e hx hy 9999
theorem binNil_sim (s : St P μ h w) {op : BinOp} {t : TypeId} {x y : AV} {x' y' : Value} {v : AV}
    (e : (match (generalizing := false) op with
      | .eql => (nilEq (eqKind P t) x y).map .bool
      | .neq => (nilEq (eqKind P t) x y).map fun b => .bool !b
      | _ => none) = some v) (hx : V μ x x') (hy : V μ y y') (xo yo : Operand) :
    VDone P μ h w ((do eqGuard op t xo yo x' y'; binOp op t x' y' : Sem Value).run P w) v h := by
  have key : ∀ r, nilEq (eqKind P t) x y = some r → (eqGuard op t xo yo x' y').run P w = .ok () w ∧ (binOp .eql t x' y' = (do pure (.bool (← Op.equal t x' y')))) ∧ (binOp .neq t x' y' = (do pure (.bool (!(← Op.equal t x' y'))))) := by
    intro r hr
    unfold nilEq at hr
    split at hr <;> first
      | (cases hr; done)
      | (cases hx; cases hy; refine ⟨?_, rfl, rfl⟩; cases op <;> simp [eqGuard])
  cases op <;> simp only [Option.map_eq_some_iff, reduceCtorEq] at e
  · obtain ⟨r, hr, rfl⟩ := e
    obtain ⟨k1, k2, _⟩ := key r hr
    refine VDone.pure s (v' := .bool r) ?_ (.bool r)
    rw [Sem.run_bind, k1, Result.andThen_ok, k2]
    simp [nilEq_sim s hr hx hy]
  · obtain ⟨r, hr, rfl⟩ := e
    obtain ⟨k1, _, k3⟩ := key r hr
    refine VDone.pure s (v' := .bool !r) ?_ (.bool _)
    rw [Sem.run_bind, k1, Result.andThen_ok, k3]
    simp [nilEq_sim s hr hx hy]
theorem bin_sim (s : St P μ h w) {op : BinOp} {t : TypeId} {x y : AV} {x' y' : Value} {v : AV} (e : binA op (eqKind P t) x y = some v) (hx : V μ x x') (hy : V μ y y') (xo yo : Operand) :
    VDone P μ h w ((do eqGuard op t xo yo x' y'; binOp op t x' y' : Sem Value).run P w) v h := by
  unfold binA at e
  split at e
  · cases hx; cases hy
    have hg : ∀ (j k : IntKind) (a b : Int), (eqGuard op t xo yo (.int j a) (.int k b)).run P w = .ok () w := by intro j k a b; cases op <;> simp [eqGuard]
    rw [Sem.run_bind, hg, Result.andThen_ok]
    split at e
    · exact shift_sim s op _ _ _ _ ‹_› ‹_› t e
    · split at e
      · subst_vars; exact binInt_sim s op _ _ _ ‹_› ‹_› ‹_› t e
      · cases e
  · cases hx with | str _ a ha ha2 => cases hy with | str _ b hb hb2 =>
    subst ha; subst hb
    have hg : (eqGuard op t xo yo (.string a) (.string b)).run P w = .ok () w := by cases op <;> simp [eqGuard]
    rw [Sem.run_bind, hg, Result.andThen_ok]
    exact binStr_sim s op a b ha2 hb2 t e
  · exact binNil_sim s e hx hy xo yo
theorem un_sim (s : St P μ h w) {op : UnOp} {x v : AV} {x' : Value} (e : unA op x = some v) (hx : V μ x x') : VDone P μ h w ((Op.unary op x').run P w) v h := by
  unfold unA at e
  split at e
  · cases hx; cases e; exact VDone.pure s (v' := .int _ (IntKind.wrap _ _)) (by simp [Op.unary, Op.intArith]) (.int _ _ (wf_wrap' _ _))
  · cases hx; cases e; exact VDone.pure s (v' := .int _ (IntKind.wrap _ _)) (by simp only [Op.unary, Op.intBits]; rfl) (.int _ _ (wf_wrap' _ _))
  · cases hx; cases e; exact VDone.pure s (v' := .bool _) (by simp [Op.unary]) (.bool _)
  · cases e
end
end Go.Ya
namespace Go.Ya
set_option linter.unusedVariables false
set_option linter.unusedSimpArgs false
section
variable {P : Program} {μ : Mu} {h : Heap} {w : World}
theorem sz_run {t : TypeId} {n : Nat} (e : sz P t = some n) : (sizeOf t).run P w = .ok n w := by
  simp only [sz, Option.map_eq_some_iff] at e
  obtain ⟨i, hi, rfl⟩ := e
  simp [sizeOf, typeInfo, hi]
theorem aggr_run {t : TypeId} {b : Bool} (e : aggr? P t = some b) : (isAgg t).run P w = .ok b w := by
  unfold aggr? at e
  simp only [isAgg, underlying, Sem.run_bind, run_program, Result.andThen_ok]
  cases hu : P.underlying t with
  | none => rw [hu] at e; cases e
  | some d => rw [hu] at e; cases d <;> simp at e ⊢ <;> exact e
theorem und_run {t : TypeId} {d : TypeDesc} (e : P.underlying t = some d) : (underlying t).run P w = .ok d w := run_underlying (w := w) e
/-! ### strings and bytes -/
theorem byteCells_spec : ∀ {cs : List AV} {l : List Int} {vs : List Value}, byteCells cs = some l → Vs μ cs vs → vs = l.map (Value.int .u8) ∧ ∀ n ∈ l, wfInt .u8 n = true
  | [], l, vs, e, hv => by simp [byteCells] at e; subst e; cases hv; exact ⟨rfl, fun _ h => by cases h⟩
  | .int .u8 n :: rest, l, vs, e, hv => by
    simp only [byteCells, Option.map_eq_some_iff] at e
    obtain ⟨r, hr, rfl⟩ := e
    cases hv with | cons _ v _ vs' h1 h2 =>
    obtain ⟨e1, e2⟩ := byteCells_spec hr h2
    cases h1 with | int _ _ hw =>
    refine ⟨by rw [e1]; rfl, fun m hm => ?_⟩
    rcases List.mem_cons.1 hm with rfl | hm
    · exact hw
    · exact e2 m hm
  | .int .i8 _ :: _, _, _, e, _ => by simp [byteCells] at e
  | .int .i16 _ :: _, _, _, e, _ => by simp [byteCells] at e
  | .int .i32 _ :: _, _, _, e, _ => by simp [byteCells] at e
  | .int .i64 _ :: _, _, _, e, _ => by simp [byteCells] at e
  | .int .u16 _ :: _, _, _, e, _ => by simp [byteCells] at e
  | .int .u32 _ :: _, _, _, e, _ => by simp [byteCells] at e
  | .int .u64 _ :: _, _, _, e, _ => by simp [byteCells] at e
  | .bool _ :: _, _, _, e, _ => by simp [byteCells] at e
  | .str _ :: _, _, _, e, _ => by simp [byteCells] at e
  | .nilptr :: _, _, _, e, _ => by simp [byteCells] at e
  | .ptr _ _ :: _, _, _, e, _ => by simp [byteCells] at e
  | .nilsl :: _, _, _, e, _ => by simp [byteCells] at e
  | .slice .. :: _, _, _, e, _ => by simp [byteCells] at e
  | .nilmap :: _, _, _, e, _ => by simp [byteCells] at e
  | .map _ :: _, _, _, e, _ => by simp [byteCells] at e
  | .nilf :: _, _, _, e, _ => by simp [byteCells] at e
  | .func .. :: _, _, _, e, _ => by simp [byteCells] at e
  | .yieldf _ :: _, _, _, e, _ => by simp [byteCells] at e
  | .nilif :: _, _, _, e, _ => by simp [byteCells] at e
  | .iface .. :: _, _, _, e, _ => by simp [byteCells] at e
  | .meth .. :: _, _, _, e, _ => by simp [byteCells] at e
  | .agg _ :: _, _, _, e, _ => by simp [byteCells] at e
  | .tuple _ :: _, _, _, e, _ => by simp [byteCells] at e
theorem toNat_u8 {n : Int} (hw : wfInt .u8 n = true) : ((UInt8.ofNat n.toNat).toNat : Int) = n := by
  obtain ⟨h1, h2⟩ := wf_bounds hw
  simp [IntKind.min, IntKind.max, IntKind.signed, IntKind.bits] at h1 h2
  simp
  omega
theorem bytesOf_mk (l : List Int) (hw : ∀ n ∈ l, wfInt .u8 n = true) : bytesOf ⟨(l.map fun n => UInt8.ofNat n.toNat).toArray⟩ = l := by
  simp only [bytesOf, List.map_map]
  conv => rhs; rw [← List.map_id l]
  apply List.map_congr_left
  intro n hn
  exact toNat_u8 (hw n hn)
theorem first_sim (s : St P μ h w) {esz n : Nat} {x : AV} {x' : Value} {cs : List AV} (e : firstA h esz n x = some cs) (hx : V μ x x') (hn : ∀ m, lenA x = some m → n ≤ m) :
    ∃ vs, (Builtin.firstCells esz n x').run P w = .ok vs.toArray w ∧ Vs μ cs vs ∧ cs.all AV.flat = true := by
  unfold firstA at e
  split at e
  · cases hx; cases e; exact ⟨[], by simp [Builtin.firstCells], .nil, rfl⟩
  · rename_i id off len cap ex esz'
    split at e
    · subst_vars
      cases hx with | slice _ _ _ _ _ _ a cap' h1 h2 h3 h4 h5 h6 =>
      have hnl : n ≤ len := hn len rfl
      split at e
      · rename_i c ro hg
        split at e
        · rename_i hle
          cases e
          rcases h6 with h0 | ⟨b, base, lim, hm, rfl, hlim⟩
          · have hn0 : n = 0 := by omega
            subst hn0
            refine ⟨[], ?_, ?_, ?_⟩
            · simp only [Builtin.firstCells, Nat.zero_mul]
              simp [loadCells, loadCellsFrom]
            · simp; exact .nil
            · simp
          · obtain ⟨arr, t, fr, hb, _, _, h3, hf, _⟩ := readRow s hm hg
            obtain ⟨vs, hl, hv, hc⟩ := h3 off (n * esz') hle
            refine ⟨vs, ?_, hv, ?_⟩
            · simp only [Builtin.firstCells]
              exact run_loadCells b (base + off) (n * esz') vs hl hc
            · rw [List.all_eq_true] at hf ⊢
              exact fun x hx => hf x (List.mem_of_mem_drop (List.mem_of_mem_take hx))
        · cases e
      · cases e
    · cases e
  · split at e
    case isFalse => cases e
    cases e
    cases hx with | str l st hs hs2 =>
    subst hs
    refine ⟨((bytesOf st).take n).map (Value.int .u8), ?_, ?_, ?_⟩
    · simp only [Builtin.firstCells, Sem.run_pure]
      congr 1
      apply Array.toList_inj.1
      simp only [Array.toList_map, bytesOf]
      rw [← List.map_take]
      have : (st.extract 0 n).data.toList = st.data.toList.take n := by
        simp [ByteArray.data_extract]
      rw [this, List.map_map]; rfl
    · generalize hl : (bytesOf st).take n = l
      have hw : ∀ m ∈ l, wfInt .u8 m = true := by subst hl; exact fun m hm => bytesOf_wf st m (List.mem_of_mem_take hm)
      clear hl
      induction l with
      | nil => exact .nil
      | cons a l ih => exact .cons _ _ _ _ (.int _ _ (hw a (List.mem_cons_self))) (ih fun m hm => hw m (List.mem_cons_of_mem _ hm))
    · rw [List.all_eq_true]; intro x hx
      obtain ⟨a, _, rfl⟩ := List.mem_map.1 hx
      rfl
  · cases e
theorem bytesToStr_sim (s : St P μ h w) {src dst e : TypeId} (hs : P.underlying src = some (.slice e)) (hd : P.underlying dst = some .string) (he : isU8 P e = true) {x : AV} {x' : Value} {v : AV} {h' : Heap} (hx : V μ x x')
    (hr : (match (generalizing := false) x with
    | .nilsl => some (.str [], h)
    | .slice id off len cap ex esz =>
      match firstA h 1 len (.slice id off len cap ex esz) with
      | some cs => (byteCells cs).map fun s => (.str s, h)
      | none => none
    | _ => none : AR) = some (v, h')) : VDone P μ h w ((convert src dst x').run P w) v h' := by
  have he' : P.underlying e = some (.int .u8) := by
    unfold isU8 at he; split at he
    · assumption
    · cases he
  cases x with
  | nilsl =>
    cases hx; cases hr
    refine VDone.pure s (v' := .string .empty) ?_ (.str _ _ rfl (by decide))
    rw [run_convert_bytes_string w src dst e none 0 0 hs he' hd]; simp [Conv.bytesToString]
  | slice id off len cap ex esz =>
    simp only at hr
    split at hr
    · rename_i cs hf
      simp only [Option.map_eq_some_iff] at hr
      obtain ⟨l, hl, hr⟩ := hr
      cases hr
      obtain ⟨vs, hrun, hv, _⟩ := first_sim s hf hx (fun m hm => by simp [lenA] at hm; omega)
      obtain ⟨rfl, hw⟩ := byteCells_spec hl hv
      cases hx with | slice _ _ _ _ _ _ a cap' h1 h2 h3 h4 h5 h6 =>
      refine VDone.pure s (v' := .string ⟨(l.map fun n => UInt8.ofNat n.toNat).toArray⟩) ?_ (.str _ _ (bytesOf_mk l hw) ?_)
      · rw [run_convert_bytes_string w src dst e _ len cap' hs he' hd]
        simp only [Builtin.firstCells, Nat.mul_one] at hrun
        rw [run_bytesToString w a len cap' l hrun, foldl_push_bytes]
        simp [ByteArray.empty, ByteArray.emptyWithCapacity]
        rfl
      · have := hv.len
        have hlen : cs.length = len := by
          simp only [firstA] at hf
          split at hf
          · split at hf
            · split at hf
              · cases hf; simp; omega
              · cases hf
            · cases hf
          · cases hf
        simp only [List.length_map] at this
        simp only [ByteArray.size]
        simp; omega
    · cases hr
  | _ => simp at hr
theorem strToBytes_sim (s : St P μ h w) {src dst e : TypeId} (hs : P.underlying src = some .string) (hd : P.underlying dst = some (.slice e)) (he : isU8 P e = true) {x : AV} {x' : Value} {v : AV} {h' : Heap} (hx : V μ x x')
    (hr : (match (generalizing := false) x with
    | .str s => some (.slice h.next 0 s.length s.length false 1, h.alloc (.cells (s.map (AV.int .u8)) false))
    | _ => none : AR) = some (v, h')) : VDone P μ h w ((convert src dst x').run P w) v h' := by
  have he' : P.underlying e = some (.int .u8) := by
    unfold isU8 at he; split at he
    · assumption
    · cases he
  cases x with
  | str l =>
    cases hr
    cases hx with | str l st hst hsz =>
    subst hst
    generalize hcap : (Question.appendCap st.size 0 e).cut (w.tape w.drawn (.appendCap st.size 0 e)) = cap
    have hc1 : st.size ≤ cap := by subst hcap; simp [Question.cut]
    have hc2 : cap ≤ 9223372036854775807 := by
      subst hcap; simp only [Question.cut]
      have : w.tape w.drawn (.appendCap st.size 0 e) % (2 ^ 63 - st.size) < 2 ^ 63 - st.size := Nat.mod_lt _ (by omega)
      omega
    generalize hcs : ((st.data.map fun b => Value.int .u8 b.toNat) ++ Array.replicate (cap - st.size) (Value.int .u8 0)) = cs
    have hsize : cs.size = cap := by subst hcs; simp; change st.size + _ = _; omega
    have htake : Vs μ ((bytesOf st).map (AV.int .u8)) (cs.toList.take ((bytesOf st).map (AV.int .u8)).length) := by
      subst hcs
      have e1 : ((st.data.map fun b => Value.int .u8 b.toNat) ++ Array.replicate (cap - st.size) (Value.int .u8 0)).toList.take ((bytesOf st).map (AV.int .u8)).length = (bytesOf st).map (Value.int .u8) := by
        rw [List.length_map, bytesOf_len]
        simp [bytesOf, Function.comp_def]
      rw [e1]
      have hw := bytesOf_wf st
      generalize bytesOf st = l at hw
      induction l with
      | nil => exact .nil
      | cons a l ih => exact .cons _ _ _ _ (.int _ _ (hw a (List.mem_cons_self))) (ih fun m hm => hw m (List.mem_cons_of_mem _ hm))
    have hflat : ((bytesOf st).map (AV.int .u8)).all AV.flat = true := by simp [AV.flat]
    -- the new block bears a mark one past its end
    have hn : μ h.next = none := s.bd _ (Nat.le_refl _)
    have hrun : (convert src dst (.string st)).run P w = .ok (.slice (some ⟨w.heap.size, 0, none⟩) st.size cap) ((w.drew.alloc (.cells cs e)).freeze ⟨w.heap.size, cap, none⟩ 1) := by
      simp only [convert, Sem.run_bind, und_run hs, und_run hd, und_run he', Result.andThen_ok, Conv.stringToBytes, run_choose, Question.forced, Bool.false_eq_true, if_false, hcap, run_newRow]
      simp only [World.drew_eq, hcs, markStringish, Sem.run_bind, run_shape, Result.andThen_ok]
      have : (w.drew.alloc (.cells cs e)).shape? w.heap.size = some (e, cap) := by
        have := alloc_new w.drew (.cells cs e)
        simp only [World.size_drew] at this
        simp only [World.shape?, this, hsize]
      simp only [World.size_drew, this, run_freeze, Result.andThen_ok, Sem.run_pure]
    have hfrz : ((w.drew.alloc (.cells cs e)).freeze ⟨w.heap.size, cap, none⟩ 1) = w.drew.alloc (.cells cs e (cap, cap + 1)) := by
      simp only [World.freeze]
      show ({ (w.drew.alloc (.cells cs e)) with heap := _ } : World) = _
      have hh : (w.drew.alloc (.cells cs e)).heap = w.heap.push (.cells cs e) := rfl
      simp only [show ¬ ((1 : Nat) = 0) by omega, if_false]
      have : (w.drew.alloc (.cells cs e)).heap.modify w.heap.size (fun
          | .cells c elem (lo, hi) => .cells c elem (if lo == hi then (cap, cap + 1) else (min lo cap, max hi (cap + 1)))
          | o => o) = w.heap.push (.cells cs e (cap, cap + 1)) := by
        rw [hh]
        apply Array.ext_getElem?
        intro i
        rw [Array.getElem?_modify]
        by_cases hi : w.heap.size = i
        · subst hi; simp
        · rw [if_neg hi]
          simp only [Array.getElem?_push]
          rw [if_neg (Ne.symm hi), if_neg (Ne.symm hi)]
      rw [show (w.drew.alloc (.cells cs e (cap, cap + 1))) = { w.drew with heap := w.heap.push (.cells cs e (cap, cap + 1)) } from rfl]
      rw [← this]
      rfl
    rw [hfrz] at hrun
    have hA := s.drew.r.alloc (.cells ((bytesOf st).map (AV.int .u8)) false) (.cells cs e (cap, cap + 1)) cap hn
      ⟨cs, e, (cap, cap + 1), alloc_new w.drew _, by omega, by simp [bytesOf_len]; exact hc1, fun j a ha => by
        obtain ⟨v, ev', hv'⟩ := htake.get ha
        have hj : j < ((bytesOf st).map (AV.int .u8)).length := by
          rcases Nat.lt_or_ge j ((bytesOf st).map (AV.int .u8)).length with h' | h'
          · exact h'
          · rw [List.getElem?_eq_none h'] at ha; cases ha
        rw [List.getElem?_take, if_pos hj] at ev'
        exact ⟨v, by simpa using ev', hv'.mono (.add hn), List.all_eq_true.1 hflat a (List.mem_of_getElem? ha)⟩, fun _ j hj h' => by simp only at h'; omega⟩
    refine ⟨_, _, _, hrun, ?_, ⟨hA.1, fun id hid => ?_, s.drew.mkd.alloc s.drew.r _ rfl _ _, s.drew.tb.fr hA.2⟩, (Fr.drew μ h w).trans hA.2⟩
    · rw [bytesOf_len]
      exact .slice h.next 0 st.size st.size false 1 _ cap (Nat.le_refl _) hc1 (fun h' => by cases h') (by omega) hc2 (.inr ⟨w.heap.size, 0, cap, muAdd_same _ _ _, rfl, by omega⟩)
    · simp only [Heap.next_alloc] at hid
      rw [muAdd_ne _ _ _ _ (by omega)]
      exact s.bd id (by omega)
  | _ => simp at hr
/-! ### parts -/
theorem part_sim {t : TypeId} {b : Bool} {n off : Nat} {cs : List AV} {cs' : Array Value} (hb : aggr? P t = some b) (hn : sz P t = some n) (hv : Vs μ cs cs'.toList) (hf : cs.all AV.flat = true) {v : AV}
    (e : (if b then some (.agg ((cs.drop off).take n)) else cs[off]?) = some v) : ∃ v', (part t cs' off).run P w = .ok v' w ∧ V μ v v' := by
  simp only [part, Sem.run_bind, aggr_run hb, Result.andThen_ok]
  cases b with
  | true =>
    simp only [if_true] at e ⊢
    cases e
    refine ⟨.agg (cs'.extract off (off + n)), by simp [sz_run hn], .agg _ _ ?_ ?_⟩
    · rw [Array.toList_extract]
      simp only [List.extract_eq_take_drop]
      rw [show off + n - off = n by omega]
      exact (hv.drop off).take n
    · rw [List.all_eq_true] at hf ⊢
      exact fun x hx => hf x (List.mem_of_mem_drop (List.mem_of_mem_take hx))
  | false =>
    simp only [Bool.false_eq_true, if_false] at e ⊢
    obtain ⟨v', e', hv'⟩ := hv.get e
    rw [Array.getElem?_toList] at e'
    exact ⟨v', by rw [e']; rfl, hv'⟩
theorem field_sim (s : St P μ h w) {t : TypeId} {f : Nat} {fs : Array Field} {fl : Field} {b : Bool} {n : Nat} (ht : P.underlying t = some (.struct fs)) (hfl : fs[f]? = some fl) (hb : aggr? P fl.type = some b) (hn : sz P fl.type = some n)
    {x : AV} {x' : Value} (hx : V μ x x') {v : AV} {h' : Heap}
    (hr : (match (generalizing := false) x with
    | .agg cs => if b then some (.agg ((cs.drop fl.offset).take n), h) else (cs[fl.offset]?).map fun v => (v, h)
    | _ => none : AR) = some (v, h')) : VDone P μ h w ((Instr.field t x' f).run P w) v h' := by
  cases x with
  | agg cs =>
    cases hx with | agg cs cs' hv hf =>
    have e1 : (if b then some (.agg ((cs.drop fl.offset).take n)) else cs[fl.offset]?) = some v ∧ h' = h := by
      cases b with
      | true => simp at hr ⊢; exact ⟨hr.1, hr.2.symm⟩
      | false =>
        simp only [Bool.false_eq_true, if_false, Option.map_eq_some_iff] at hr ⊢
        obtain ⟨a, ha, hr⟩ := hr; cases hr; exact ⟨ha, rfl⟩
    obtain ⟨e1, rfl⟩ := e1
    obtain ⟨v', hrun, hv'⟩ := part_sim (w := w) hb hn hv hf e1
    refine VDone.pure s (v' := v') ?_ hv'
    simp only [Instr.field, Sem.run_bind, und_run ht, Result.andThen_ok, hfl, asAgg, Sem.run_pure]
    exact hrun
  | _ => simp at hr
theorem extract_sim (s : St P μ h w) {x : AV} {x' : Value} {i : Nat} (hx : V μ x x') {v : AV} {h' : Heap}
    (hr : (match (generalizing := false) x with
    | .tuple vs => (vs[i]?).map fun v => (v, h)
    | _ => none : AR) = some (v, h')) : VDone P μ h w ((Instr.extract x' i).run P w) v h' := by
  cases x with
  | tuple vs =>
    cases hx with | tuple vs vs' hv =>
    simp only [Option.map_eq_some_iff] at hr
    obtain ⟨a, ha, hr⟩ := hr; cases hr
    obtain ⟨v', e', hv'⟩ := hv.get ha
    rw [Array.getElem?_toList] at e'
    exact VDone.pure s (v' := v') (by simp [Instr.extract, e']) hv'
  | _ => simp at hr
end
end Go.Ya
namespace Go.Ya
set_option linter.unusedVariables false
set_option linter.unusedSimpArgs false
section
variable {P : Program} {μ : Mu} {h : Heap} {w : World}
inductive VO (μ : Mu) : Option AV → Option Value → Prop
  | none : VO μ none none
  | some (a : AV) (v : Value) : V μ a v → VO μ (some a) (some v)
theorem cOpt_sound {tm : List AV} {a : Act} (ht : Vs μ tm a.tmps.toList) {x : Option Operand} {s : Option Opd} (e : cOpt x = some s) : VO μ (s.map (ev tm)) (x.map a.eval) := by
  cases x with
  | none => simp [cOpt] at e; subst e; exact .none
  | some x =>
    simp only [cOpt, Option.map_eq_some_iff] at e
    obtain ⟨y, hy, rfl⟩ := e
    exact .some _ _ (cOpd_sound ht hy)
theorem sliceBoundA_sim {x : AV} {x' : Value} {y y' n : Nat} (hy : y ≤ y') (e : sliceBoundA x y = some n) (hx : V μ x x') (code : BoundsCode) : (Instr.sliceBound x' y' code).run P w = .ok n w ∧ n ≤ y := by
  cases x <;> simp only [sliceBoundA, reduceCtorEq] at e
  split at e
  · rename_i hi
    cases e
    cases hx
    refine ⟨?_, by omega⟩
    simp only [Instr.sliceBound, asIntOf, Sem.run_bind, Sem.run_pure, Result.andThen_ok]
    rw [if_pos (by omega)]; rfl
  · cases e
theorem bounds_sim {len cap cap' : Nat} {lo hi mx : Option AV} {lo' hi' mx' : Option Value} {l hh m : Nat} (hlc : len ≤ cap) (hcc : cap ≤ cap') (e : boundsA len cap lo hi mx = some (l, hh, m))
    (h1 : VO μ lo lo') (h2 : VO μ hi hi') (h3 : VO μ mx mx') (b : Bool) :
    (Instr.sliceBounds b len cap' lo' hi' mx').run P w = .ok (l, hh, if mx.isSome then m else cap') w ∧ l ≤ hh ∧ hh ≤ m ∧ m ≤ cap ∧ (mx.isSome = false → m = cap) := by
  unfold boundsA at e
  cases h3 with
  | none =>
    simp only at e
    cases h2 with
    | none =>
      simp only at e
      cases h1 with
      | none =>
        simp only [Option.some.injEq, Prod.mk.injEq] at e
        obtain ⟨rfl, rfl, rfl⟩ := e
        exact ⟨by simp [Instr.sliceBounds], by omega, hlc, by omega, fun _ => rfl⟩
      | some x x' hx =>
        simp only at e
        cases hb : sliceBoundA x len with
        | none => rw [hb] at e; cases e
        | some n =>
          rw [hb] at e
          simp only [Option.some.injEq, Prod.mk.injEq] at e
          obtain ⟨rfl, rfl, rfl⟩ := e
          obtain ⟨r1, r2⟩ := sliceBoundA_sim (P := P) (w := w) (Nat.le_refl _) hb hx .sliceB
          exact ⟨by simp [Instr.sliceBounds, r1], r2, hlc, by omega, fun _ => rfl⟩
    | some y y' hy =>
      simp only at e
      cases hb2 : sliceBoundA y cap with
      | none => rw [hb2] at e; cases e
      | some n2 =>
        rw [hb2] at e
        obtain ⟨q1, q2⟩ := sliceBoundA_sim (P := P) (w := w) hcc hb2 hy (if b then .sliceAcap else .sliceAlen)
        cases h1 with
        | none =>
          simp only [Option.some.injEq, Prod.mk.injEq] at e
          obtain ⟨rfl, rfl, rfl⟩ := e
          exact ⟨by simp [Instr.sliceBounds, q1], by omega, q2, by omega, fun _ => rfl⟩
        | some x x' hx =>
          simp only at e
          cases hb : sliceBoundA x n2 with
          | none => rw [hb] at e; cases e
          | some n =>
            rw [hb] at e
            simp only [Option.some.injEq, Prod.mk.injEq] at e
            obtain ⟨rfl, rfl, rfl⟩ := e
            obtain ⟨r1, r2⟩ := sliceBoundA_sim (P := P) (w := w) (Nat.le_refl _) hb hx .sliceB
            exact ⟨by simp [Instr.sliceBounds, q1, r1], r2, q2, by omega, fun _ => rfl⟩
  | some z z' hz =>
    simp only at e
    cases hb3 : sliceBoundA z cap with
    | none => rw [hb3] at e; cases e
    | some n3 =>
      rw [hb3] at e
      obtain ⟨p1, p2⟩ := sliceBoundA_sim (P := P) (w := w) hcc hb3 hz (if b then .slice3Acap else .slice3Alen)
      cases h2 with
      | none => simp at e
      | some y y' hy =>
        simp only at e
        cases hb2 : sliceBoundA y n3 with
        | none => rw [hb2] at e; cases e
        | some n2 =>
          rw [hb2] at e
          obtain ⟨q1, q2⟩ := sliceBoundA_sim (P := P) (w := w) (Nat.le_refl _) hb2 hy .slice3B
          cases h1 with
          | none =>
            simp only [Option.some.injEq, Prod.mk.injEq] at e
            obtain ⟨rfl, rfl, rfl⟩ := e
            exact ⟨by simp [Instr.sliceBounds, p1, q1], by omega, q2, p2, fun h => by cases h⟩
          | some x x' hx =>
            simp only at e
            cases hb : sliceBoundA x n2 with
            | none => rw [hb] at e; cases e
            | some n =>
              rw [hb] at e
              simp only [Option.some.injEq, Prod.mk.injEq] at e
              obtain ⟨rfl, rfl, rfl⟩ := e
              obtain ⟨r1, r2⟩ := sliceBoundA_sim (P := P) (w := w) (Nat.le_refl _) hb hx .slice3C
              exact ⟨by simp [Instr.sliceBounds, p1, q1, r1], r2, q2, p2, fun h => by cases h⟩
theorem slice_sim (s : St P μ h w) {t e : TypeId} {esz : Nat} (ht : P.underlying t = some (.slice e)) (hs : sz P e = some esz) {x : AV} {x' : Value} (hx : V μ x x') {lo hi mx : Option AV} {lo' hi' mx' : Option Value}
    (h1 : VO μ lo lo') (h2 : VO μ hi hi') (h3 : VO μ mx mx') {v : AV} (hr : sliceA esz x lo hi mx = some v) : VDone P μ h w ((Instr.sliceAt t x' lo' hi' mx').run P w) v h := by
  have hat : (Instr.sliceAt t x' lo' hi' mx').run P w = (Instr.slice t x' lo' hi' mx').run P w := by
    simp [Instr.sliceAt, und_run ht]
  rw [hat]
  cases x with
  | nilsl =>
    cases hx
    simp only [sliceA, Option.map_eq_some_iff] at hr
    obtain ⟨⟨l, hh, m⟩, hb, rfl⟩ := hr
    obtain ⟨r1, r2, r3, r4, r5⟩ := bounds_sim (P := P) (w := w) (Nat.le_refl _) (Nat.le_refl 0) hb h1 h2 h3 true
    refine VDone.pure s (v' := .slice none 0 0) ?_ .nilsl
    have hm : m = 0 := by omega
    have hl : l = 0 := by omega
    have hhh : hh = 0 := by omega
    subst hm; subst hl; subst hhh
    simp [Instr.slice, und_run ht, r1, sz_run hs]
  | slice id off len cap ex esz' =>
    simp only [sliceA] at hr
    split at hr
    · subst_vars
      split at hr
      · rename_i l hh m hb
        cases hr
        cases hx with | slice _ _ _ _ _ _ a cap' g1 g2 g3 g4 g5 g6 =>
        obtain ⟨r1, r2, r3, r4, r5⟩ := bounds_sim (P := P) (w := w) g1 g2 hb h1 h2 h3 true
        generalize hm' : (if mx.isSome then m else cap') = m' at r1
        have hmm : m ≤ m' := by
          cases hq : mx.isSome with
          | true => rw [hq, if_pos rfl] at hm'; omega
          | false => rw [hq] at hm'; simp at hm'; have := r5 hq; omega
        have hmc : m' ≤ cap' := by
          cases hq : mx.isSome with
          | true => rw [hq, if_pos rfl] at hm'; omega
          | false => rw [hq] at hm'; simp at hm'; omega
        refine VDone.pure s (v' := .slice (some (if m' = l then a else a.add (l * esz'))) (hh - l) (m' - l)) ?_ ?_
        · simp only [Instr.slice, Sem.run_bind, und_run ht, Result.andThen_ok, r1, sz_run hs, Sem.run_pure]
          congr 1
          split <;> rfl
        · refine .slice id _ _ _ _ esz' _ _ (by omega) (by omega) (fun hex => ?_) g4 (by omega) ?_
          · cases hq : mx.isSome with
            | true => rw [hq, if_pos rfl] at hm'; omega
            | false =>
              rw [hq] at hm' hex
              simp at hm' hex
              have := r5 hq
              have := g3 hex
              omega
          · by_cases hml : m' = l
            · exact .inl (by omega)
            · right
              rw [if_neg hml]
              rcases g6 with h0 | ⟨b, base, lim, e1, rfl, e3⟩
              · omega
              · refine ⟨b, base, lim, e1, by rw [add0]; congr 1; omega, ?_⟩
                have : (l + (m' - l)) * esz' ≤ cap' * esz' := Nat.mul_le_mul_right _ (by omega)
                rw [Nat.add_mul] at this
                omega
      · cases hr
    · cases hr
  | _ => simp [sliceA] at hr
theorem sliceArr_sim (s : St P μ h w) {t e : TypeId} {n esz : Nat} (ht : P.underlying t = some (.array n e) ∨ ∃ arr, P.underlying t = some (.pointer arr) ∧ P.underlying arr = some (.array n e)) (hs : sz P e = some esz) (hpos : 0 < esz) {x : AV} {x' : Value} (hx : V μ x x')
    {lo hi mx : Option AV} {lo' hi' mx' : Option Value} (h1 : VO μ lo lo') (h2 : VO μ hi hi') (h3 : VO μ mx mx') {v : AV} {h' : Heap}
    (hr : (match (generalizing := false) x with
    | .ptr id off =>
      match boundsA n n lo hi mx, h.get id with
      | some (l, hh, m), some (.cells c _) => if off + n * esz ≤ c.length then some (.slice id (off + l * esz) (hh - l) (m - l) true esz, h) else none
      | _, _ => none
    | _ => none : AR) = some (v, h')) (hn63 : n ≤ 9223372036854775807) : VDone P μ h w ((Instr.sliceAt t x' lo' hi' mx').run P w) v h' := by
  cases x with
  | ptr id off =>
    simp only at hr
    split at hr
    · rename_i l hh m c ro hb hg
      split at hr
      · rename_i hle
        cases hr
        cases hx with | ptr _ _ b base lim hm =>
        obtain ⟨r1, r2, r3, r4, r5⟩ := bounds_sim (P := P) (w := w) (Nat.le_refl _) (Nat.le_refl n) hb h1 h2 h3 false
        have hmm : (if mx.isSome then m else n) = m := by
          cases hq : mx.isSome with
          | true => rfl
          | false => simp [r5 hq]
        rw [hmm] at r1
        obtain ⟨arr, tt, fr, hbk, q1, q2, _⟩ := s.r.obj id b base lim _ hm hg
        refine VDone.pure s (v' := .slice (some (if m = l then ⟨b, base + off, none⟩ else (⟨b, base + off, none⟩ : Addr).add (l * esz))) (hh - l) (m - l)) ?_ ?_
        · rcases ht with ht | ⟨ar, ht, har⟩
          · simp only [Instr.sliceAt, Sem.run_bind, und_run ht, Result.andThen_ok, Instr.sureAddr, Sem.run_pure, r1, sz_run hs]
          · simp only [Instr.sliceAt, Sem.run_bind, und_run ht, Result.andThen_ok, Instr.slice, asAddr, Sem.run_pure, und_run har, r1, sz_run hs]
        · refine .slice id _ _ _ _ esz _ _ (by omega) (Nat.le_refl _) (fun _ => rfl) hpos (by omega) ?_
          by_cases hml : m = l
          · exact .inl (by omega)
          · right
            rw [if_neg hml]
            refine ⟨b, base, lim, hm, by rw [add0]; congr 1; omega, ?_⟩
            have : (l + (m - l)) * esz ≤ n * esz := Nat.mul_le_mul_right _ (by omega)
            rw [Nat.add_mul] at this
            omega
      · cases hr
    · cases hr
  | _ => simp at hr
theorem bytes_extract (st : ByteArray) (l r : Nat) : bytesOf (st.extract l r) = ((bytesOf st).drop l).take (r - l) := by
  simp only [bytesOf, ByteArray.data_extract, Array.toList_extract, List.extract_eq_take_drop, List.map_take, List.map_drop]
theorem sliceStr_sim (s : St P μ h w) {t : TypeId} (ht : P.underlying t = some .string) {x : AV} {x' : Value} (hx : V μ x x') {lo hi : Option AV} {lo' hi' : Option Value} (h1 : VO μ lo lo') (h2 : VO μ hi hi') {v : AV} {h' : Heap}
    (hr : (match (generalizing := false) x with
    | .str s =>
      match boundsA s.length s.length lo hi none with
      | some (l, hh, _) => some (.str ((s.drop l).take (hh - l)), h)
      | none => none
    | _ => none : AR) = some (v, h')) : VDone P μ h w ((Instr.sliceAt t x' lo' hi' none).run P w) v h' := by
  cases x with
  | str sl =>
    simp only at hr
    split at hr
    · rename_i l hh m hb
      cases hr
      cases hx with | str _ st hst hsz =>
      subst hst
      rw [bytesOf_len] at hb
      obtain ⟨r1, r2, r3, r4, r5⟩ := bounds_sim (P := P) (w := w) (Nat.le_refl _) (Nat.le_refl _) hb h1 h2 .none false
      refine VDone.pure s (v' := .string (st.extract l hh)) ?_ (.str _ _ (bytes_extract st l hh) ?_)
      · simp [Instr.sliceAt, und_run ht, Instr.slice, r1]
      · simp [ByteArray.size_extract]; omega
    · cases hr
  | _ => simp at hr
/-! ### addresses -/
theorem fieldAddr_sim (s : St P μ h w) {t : TypeId} {f : Nat} {fs : Array Field} {fl : Field} {n : Nat} (ht : P.underlying t = some (.struct fs)) (hfl : fs[f]? = some fl) (hn : sz P fl.type = some n) (h0 : ¬ n = 0)
    {x : AV} {x' : Value} (hx : V μ x x') {v : AV} {h' : Heap}
    (hr : (match (generalizing := false) x with
    | .ptr id o => some (.ptr id (o + fl.offset), h)
    | _ => none : AR) = some (v, h')) : VDone P μ h w ((Instr.fieldAt t x' f).run P w) v h' := by
  cases x with
  | ptr id o =>
    cases hr
    cases hx with | ptr _ _ b base lim hm =>
    refine VDone.pure s (v' := .pointer (some ⟨b, base + (o + fl.offset), none⟩)) ?_ (.ptr _ _ _ _ _ hm)
    simp only [Instr.fieldAt, Sem.run_bind, und_run ht, Result.andThen_ok, hfl, Instr.sureAddr, Sem.run_pure, fieldPlace, sz_run hn, h0, if_false, add0, Nat.add_assoc]
  | _ => simp at hr
theorem idxSl_sim (s : St P μ h w) {t e : TypeId} {esz : Nat} (ht : P.underlying t = some (.slice e)) (hs : sz P e = some esz) {x i : AV} {x' i' : Value} (hx : V μ x x') (hi : V μ i i') {v : AV} {h' : Heap}
    (hr : (match (generalizing := false) x, i with
    | .slice id off len _ _ esz', .int _ i => if esz = esz' ∧ 0 ≤ i ∧ i < len then some (.ptr id (off + i.toNat * esz), h) else none
    | _, _ => none : AR) = some (v, h')) : VDone P μ h w ((Instr.indexAt t x' i').run P w) v h' := by
  cases x with
  | slice id off len cap ex esz' =>
    cases i with
    | int k n =>
      simp only at hr
      split at hr
      · rename_i hc
        obtain ⟨rfl, c1, c2⟩ := hc
        cases hr
        cases hi
        cases hx with | slice _ _ _ _ _ _ a cap' g1 g2 g3 g4 g5 g6 =>
        rcases g6 with h0 | ⟨b, base, lim, e1, rfl, e3⟩
        · omega
        · refine VDone.pure s (v' := .pointer (some ⟨b, base + (off + n.toNat * esz), none⟩)) ?_ (.ptr _ _ _ _ _ e1)
          simp only [Instr.indexAt, asIntOf, Sem.run_bind, und_run ht, Result.andThen_ok, Sem.run_pure, sz_run hs, add0, Nat.add_assoc]
          rw [if_pos ⟨c1, c2⟩]
          simp [sz_run hs]
      · cases hr
    | _ => simp at hr
  | _ => simp at hr
theorem idxAddrArr_sim (s : St P μ h w) {t e : TypeId} {len esz : Nat} (ht : P.underlying t = some (.array len e)) (hs : sz P e = some esz) {x i : AV} {x' i' : Value} (hx : V μ x x') (hi : V μ i i') {v : AV} {h' : Heap}
    (hr : (match (generalizing := false) x, i with
    | .ptr id off, .int _ i => if 0 ≤ i ∧ i < len then some (.ptr id (off + i.toNat * esz), h) else none
    | _, _ => none : AR) = some (v, h')) : VDone P μ h w ((Instr.indexAt t x' i').run P w) v h' := by
  cases x with
  | ptr id off =>
    cases i with
    | int k n =>
      simp only at hr
      split at hr
      · rename_i hc
        cases hr
        cases hi
        cases hx with | ptr _ _ b base lim hm =>
        refine VDone.pure s (v' := .pointer (some ⟨b, base + (off + n.toNat * esz), none⟩)) ?_ (.ptr _ _ _ _ _ hm)
        simp only [Instr.indexAt, asIntOf, Sem.run_bind, und_run ht, Result.andThen_ok, Sem.run_pure, Instr.sureAddr, sz_run hs, add0, Nat.add_assoc]
        rw [if_pos hc]
        simp [sz_run hs]
      · cases hr
    | _ => simp at hr
  | _ => simp at hr
theorem idxArr_sim (s : St P μ h w) {t e : TypeId} {b : Bool} {len esz : Nat} (ht : P.underlying t = some (.array len e)) (hb : aggr? P e = some b) (hs : sz P e = some esz) {x i : AV} {x' i' : Value} (hx : V μ x x') (hi : V μ i i') {v : AV} {h' : Heap}
    (hr : (match (generalizing := false) x, i with
    | .agg cs, .int _ i =>
      if 0 ≤ i ∧ i < len then
        (if b then some (.agg ((cs.drop (i.toNat * esz)).take esz), h) else (cs[i.toNat * esz]?).map fun v => (v, h))
      else none
    | _, _ => none : AR) = some (v, h')) : VDone P μ h w ((Instr.index t x' i').run P w) v h' := by
  cases x with
  | agg cs =>
    cases i with
    | int k n =>
      simp only at hr
      split at hr
      · rename_i hc
        cases hi
        cases hx with | agg _ cs' hv hf =>
        have e1 : (if b then some (.agg ((cs.drop (n.toNat * esz)).take esz)) else cs[n.toNat * esz]?) = some v ∧ h' = h := by
          cases b with
          | true => simp at hr ⊢; exact ⟨hr.1, hr.2.symm⟩
          | false =>
            simp only [Bool.false_eq_true, if_false, Option.map_eq_some_iff] at hr ⊢
            obtain ⟨a, ha, hr⟩ := hr; cases hr; exact ⟨ha, rfl⟩
        obtain ⟨e1, rfl⟩ := e1
        obtain ⟨v', hrun, hv'⟩ := part_sim (w := w) hb hs hv hf e1
        refine VDone.pure s (v' := v') ?_ hv'
        simp only [Instr.index, asIntOf, Sem.run_bind, und_run ht, Result.andThen_ok, Sem.run_pure]
        rw [if_pos hc]
        simp only [Sem.run_bind, sz_run hs, Result.andThen_ok]
        exact hrun
      · cases hr
    | _ => simp at hr
  | _ => simp at hr
theorem idxStr_sim (s : St P μ h w) {t : TypeId} (ht : P.underlying t = some .string) {x i : AV} {x' i' : Value} (hx : V μ x x') (hi : V μ i i') {v : AV} {h' : Heap}
    (hr : (match (generalizing := false) x, i with
    | .str s, .int _ i => if 0 ≤ i then (s[i.toNat]?).map fun b => (.int .u8 b, h) else none
    | _, _ => none : AR) = some (v, h')) : VDone P μ h w ((Instr.index t x' i').run P w) v h' := by
  cases x with
  | str sl =>
    cases i with
    | int k n =>
      simp only at hr
      split at hr
      · rename_i hc
        simp only [Option.map_eq_some_iff] at hr
        obtain ⟨b, hb, hr⟩ := hr
        cases hr
        cases hi
        cases hx with | str _ st hst hsz =>
        subst hst
        have hw := bytesOf_wf st b (List.mem_of_getElem? hb)
        have hlt : n.toNat < st.size := by
          rcases Nat.lt_or_ge n.toNat st.size with h' | h'
          · exact h'
          · rw [List.getElem?_eq_none (by rw [bytesOf_len]; exact h')] at hb; cases hb
        have hbv : ((st[n.toNat]'hlt).toNat : Int) = b := by
          simp only [bytesOf, List.getElem?_map, Option.map_eq_some_iff] at hb
          obtain ⟨u, hu, rfl⟩ := hb
          have : st[n.toNat]'hlt = u := by
            rw [Array.getElem?_toList] at hu
            obtain ⟨_, hu'⟩ := Array.getElem?_eq_some_iff.1 hu
            exact hu'
          rw [this]
        refine VDone.pure s (v' := .int .u8 b) ?_ (.int _ _ hw)
        simp only [Instr.index, asIntOf, Sem.run_bind, und_run ht, Result.andThen_ok, Sem.run_pure]
        rw [if_pos hc]
        have : st[n.toNat]? = some (st[n.toNat]'hlt) := by simp [hlt]
        rw [this]
        simp only [Sem.run_pure]
        rw [hbv]
      · cases hr
    | _ => simp at hr
  | _ => simp at hr
end
end Go.Ya
namespace Go.Ya
set_option linter.unusedVariables false
set_option linter.unusedSimpArgs false
def plain1 : AV → AV → Option Bool
  | .bool a, .bool b => some (a == b)
  | .int j a, .int k b => if j = k then some (a == b) else none
  | .str a, .str b => some (a == b)
  | _, _ => none
theorem plainEq_cons (x y : AV) (xs ys : List AV) : plainEq (x :: xs) (y :: ys) = (match plain1 x y with | some true => plainEq xs ys | r => r) := by
  cases x <;> cases y <;> simp only [plainEq, plain1]
  case bool.bool a b => cases a <;> cases b <;> rfl
  case int.int j a k b =>
    by_cases h : j = k
    · by_cases h2 : a = b
      · simp [h, h2]
      · simp [h, h2]
    · simp [h]
  case str.str a b =>
    by_cases h2 : a = b
    · simp [h2]
    · simp [h2]
theorem plainEq_append : ∀ {a b c d : List AV}, a.length = b.length → plainEq (a ++ c) (b ++ d) = (match plainEq a b with | some true => plainEq c d | r => r)
  | [], [], c, d, _ => rfl
  | x :: a, y :: b, c, d, h => by
    rw [List.cons_append, List.cons_append, plainEq_cons, plainEq_cons, plainEq_append (by simpa using h)]
    rcases plain1 x y with _ | _ | _ <;> rfl
theorem kindsOk_append : ∀ {k1 k2 : List Nat} {l : List AV}, kindsOk (k1 ++ k2) l = true → kindsOk k1 (l.take k1.length) = true ∧ kindsOk k2 (l.drop k1.length) = true ∧ k1.length ≤ l.length
  | [], k2, l, h => ⟨rfl, by simpa using h, by simp⟩
  | k :: k1, k2, [], h => by cases k with | zero => simp [kindsOk] at h | succ k => simp [kindsOk] at h
  | k :: k1, k2, v :: l, h => by
    rw [List.cons_append, kindsOk, Bool.and_eq_true] at h
    obtain ⟨h1, h2, h3⟩ := kindsOk_append h.2
    refine ⟨?_, by simpa using h2, by simpa using h3⟩
    rw [List.length_cons, List.take_succ_cons, kindsOk, Bool.and_eq_true]
    exact ⟨h.1, h1⟩
theorem kindsOk_len : ∀ {ks : List Nat} {l : List AV}, kindsOk ks l = true → l.length = ks.length
  | [], [], _ => rfl
  | k :: ks, v :: l, h => by
    rw [kindsOk, Bool.and_eq_true] at h
    simp [kindsOk_len h.2]
def Cov (b : Bool) (x : AV) (xs : List AV) : Prop := (b = true ∧ x = .agg xs) ∨ (b = false ∧ xs = [x])
section
variable {P : Program} {μ : Mu}
theorem plainTy_flat {d : Nat} {t : TypeId} {ks : List Nat} (e : plainTy P (d + 1) t = some ks) (ha : aggr? P t = some false) : (P.underlying t = some .bool ∧ ks = [0]) ∨ (∃ k, P.underlying t = some (.int k) ∧ ks = [1]) ∨ (P.underlying t = some .string ∧ ks = [2]) := by
  simp only [plainTy] at e
  split at e
  · cases e; exact .inl ⟨‹_›, rfl⟩
  · cases e; exact .inr (.inl ⟨_, ‹_›, rfl⟩)
  · cases e; exact .inr (.inr ⟨‹_›, rfl⟩)
  · rename_i h; simp [aggr?, h] at ha
  · rename_i h; simp [aggr?, h] at ha
  · cases e
theorem eq_flat {d : Nat} {t : TypeId} {ks : List Nat} {x y : AV} {x' y' : Value} {w : World} {r : Bool} (D : Nat) (e : plainTy P (d + 1) t = some ks) (ha : aggr? P t = some false) (hx : V μ x x') (hy : V μ y y') (kx : kindsOk ks [x] = true) (ky : kindsOk ks [y] = true)
    (hr : plainEq [x] [y] = some r) : (Op.equalIn (D + 1) t x' y').run P w = .ok r w := by
  rw [plainEq_cons] at hr
  have hr : plain1 x y = some r := by
    cases hp : plain1 x y with
    | none => rw [hp] at hr; cases hr
    | some b => rw [hp] at hr; cases b <;> exact hr
  rcases plainTy_flat e ha with ⟨hu, rfl⟩ | ⟨k0, hu, rfl⟩ | ⟨hu, rfl⟩ <;>
    cases x <;> simp [kindsOk, kindOk] at kx <;> cases y <;> simp [kindsOk, kindOk] at ky <;> cases hx <;> cases hy
  · cases hr; rw [run_equalIn_bool' _ _ _ _ _ hu]
  · rename_i j a k b _ _
    simp only [plain1] at hr
    split at hr
    · subst_vars; cases hr; rw [run_equalIn_int _ _ _ _ _ _ _ hu]
    · cases hr
  · rename_i a b _ _ _ _ _ _
    simp only [plain1] at hr
    cases hr
    subst_vars
    rw [run_equalIn_string _ _ _ _ _ hu, bytesOf_beq]
theorem eq_struct {D d : Nat} (ih : ∀ {t : TypeId} {ks : List Nat} {b : Bool} {x y : AV} {x' y' : Value} {xs ys : List AV} {w : World} {r : Bool}, plainTy P d t = some ks → aggr? P t = some b → V μ x x' → V μ y y' → Cov b x xs → Cov b y ys →
      kindsOk ks xs = true → kindsOk ks ys = true → plainEq xs ys = some r → (Op.equalIn D t x' y').run P w = .ok r w) :
    ∀ {fs : List Field} {off : Nat} {ks : List Nat} {xs ys : List AV} {xs' ys' : Array Value} {w : World} {r : Bool}, plainFs P (plainTy P d) off fs = some ks → Vs μ xs xs'.toList → Vs μ ys ys'.toList → xs.all AV.flat = true → ys.all AV.flat = true →
      kindsOk ks (xs.drop off) = true → kindsOk ks (ys.drop off) = true → plainEq (xs.drop off) (ys.drop off) = some r → (Op.eqFields D xs' ys' fs).run P w = .ok r w
  | [], off, ks, xs, ys, xs', ys', w, r, e, hx, hy, fx, fy, kx, ky, hr => by
    simp only [plainFs, Option.some.injEq] at e
    subst e
    have h1 := kindsOk_len kx
    have h2 := kindsOk_len ky
    rw [List.length_nil, List.length_eq_zero_iff] at h1 h2
    rw [h1, h2] at hr
    cases hr
    simp [Op.eqFields]
  | f :: fs, off, ks, xs, ys, xs', ys', w, r, e, hx, hy, fx, fy, kx, ky, hr => by
    simp only [plainFs] at e
    split at e
    case h_2 => cases e
    rename_i k1 n b hk hn hb
    split at e
    case isFalse => cases e
    rename_i hc
    obtain ⟨hc1, hc2, hc3⟩ := hc
    simp only [Option.map_eq_some_iff] at e
    obtain ⟨k2, e2, rfl⟩ := e
    obtain ⟨x1, x2, x3⟩ := kindsOk_append kx
    obtain ⟨y1, y2, y3⟩ := kindsOk_append ky
    rw [List.drop_drop] at x2 y2
    have hsp : ∀ l : List AV, l.drop off = (l.drop off).take k1.length ++ l.drop (off + k1.length) := fun l => by rw [← List.drop_drop, List.take_append_drop]
    rw [hsp xs, hsp ys, plainEq_append (by rw [kindsOk_len x1, kindsOk_len y1])] at hr
    -- the part
    have part_of : ∀ {l : List AV} {l' : Array Value}, Vs μ l l'.toList → l.all AV.flat = true → kindsOk k1 ((l.drop off).take k1.length) = true → ∃ v v', (part f.type l' f.offset).run P w = .ok v' w ∧ V μ v v' ∧ Cov b v ((l.drop off).take k1.length) := by
      intro l l' hl hf hk'
      cases b with
      | true =>
        obtain ⟨v', q1, q2⟩ := part_sim (w := w) hb hn hl hf (off := f.offset) (v := .agg ((l.drop f.offset).take n)) rfl
        exact ⟨_, v', q1, q2, .inl ⟨rfl, by rw [hc1, hc2]⟩⟩
      | false =>
        have h1 : k1.length = 1 := by
          cases d with
          | zero => simp [plainTy] at hk
          | succ d => rcases plainTy_flat hk hb with ⟨_, rfl⟩ | ⟨_, _, rfl⟩ | ⟨_, rfl⟩ <;> rfl
        have hl1 := kindsOk_len hk'
        rw [h1] at hl1 ⊢
        obtain ⟨v, hv⟩ := List.length_eq_one_iff.1 hl1
        have hv2 : l[off]? = some v := by
          have : ((l.drop off).take 1)[0]? = some v := by rw [hv]; rfl
          rw [List.getElem?_take] at this
          simpa using this
        obtain ⟨v', q1, q2⟩ := part_sim (w := w) hb hn hl hf (off := f.offset) (v := v) (by rw [hc1]; simpa using hv2)
        exact ⟨v, v', q1, q2, .inr ⟨rfl, hv⟩⟩
    obtain ⟨vx, vx', px, qx, cx⟩ := part_of hx fx x1
    obtain ⟨vy, vy', py, qy, cy⟩ := part_of hy fy y1
    simp only [Op.eqFields, ne_eq, hc3, not_false_eq_true, if_true, Sem.run_bind, px, py, Result.andThen_ok]
    cases hq : plainEq ((xs.drop off).take k1.length) ((ys.drop off).take k1.length) with
    | none => rw [hq] at hr; cases hr
    | some q =>
      rw [hq] at hr
      rw [ih hk hb qx qy cx cy x1 y1 hq, Result.andThen_ok]
      cases q with
      | false => cases hr; simp
      | true =>
        simp only [Bool.not_true, Bool.false_eq_true, if_false]
        exact eq_struct ih e2 hx hy fx fy x2 y2 hr
def eqElems (D : Nat) (e : TypeId) (n : Nat) (xs ys : Array Value) : List Nat → Sem Bool
  | [] => pure true
  | i :: l => do
    let a ← part e xs (i * n)
    let b ← part e ys (i * n)
    let r ← Op.equalIn D e a b
    if (!r) = true then pure false else eqElems D e n xs ys l
theorem run_equalIn_array (w : World) (D : Nat) {t e : TypeId} {len n : Nat} (xs ys : Array Value) (ht : P.underlying t = some (.array len e)) (hn : sz P e = some n) :
    (Op.equalIn (D + 1) t (.agg xs) (.agg ys)).run P w = (eqElems D e n xs ys (List.range' 0 len)).run P w := by
  simp only [Op.equalIn, Sem.run_bind, und_run ht, Result.andThen_ok, sz_run hn, Std.Legacy.Range.forIn_eq_forIn_range', Std.Legacy.Range.size, Nat.sub_zero, Nat.add_one_sub_one, Nat.div_one]
  generalize List.range' 0 len = fs
  clear ht
  induction fs generalizing w with
  | nil => simp [eqElems]
  | cons f fs ih =>
    simp only [List.forIn_cons, eqElems, Sem.run_bind, Sem.run_ite]
    generalize (part e xs (f * n)).run P w = r1
    cases r1 with
    | ok a w1 =>
      simp only [Result.andThen_ok]
      generalize (part e ys (f * n)).run P w1 = r2
      cases r2 with
      | ok b w2 =>
        simp only [Result.andThen_ok]
        generalize (Op.equalIn D e a b).run P w2 = r3
        cases r3 with
        | ok r w3 =>
          cases r
          · simp only [Result.andThen_ok, Bool.not_false, if_true, Sem.run_pure]
          · simp only [Result.andThen_ok, Bool.not_true, Bool.false_eq_true, if_false, Sem.run_pure]
            exact ih w3
        | halt x w3 => simp [Result.andThen]
      | halt x w2 => simp [Result.andThen]
    | halt x w1 => simp [Result.andThen]
theorem eq_array {D d : Nat} {e : TypeId} {k1 : List Nat} {b : Bool} {n : Nat} (hk : plainTy P d e = some k1) (hb : aggr? P e = some b) (hn : sz P e = some n) (hc1 : k1.length = n)
    (ih : ∀ {x y : AV} {x' y' : Value} {xs ys : List AV} {w : World} {r : Bool}, V μ x x' → V μ y y' → Cov b x xs → Cov b y ys →
      kindsOk k1 xs = true → kindsOk k1 ys = true → plainEq xs ys = some r → (Op.equalIn D e x' y').run P w = .ok r w) :
    ∀ {m i : Nat} {xs ys : List AV} {xs' ys' : Array Value} {w : World} {r : Bool}, Vs μ xs xs'.toList → Vs μ ys ys'.toList → xs.all AV.flat = true → ys.all AV.flat = true →
      kindsOk (List.replicate m k1).flatten (xs.drop (i * n)) = true → kindsOk (List.replicate m k1).flatten (ys.drop (i * n)) = true → plainEq (xs.drop (i * n)) (ys.drop (i * n)) = some r → (eqElems D e n xs' ys' (List.range' i m)).run P w = .ok r w
  | 0, i, xs, ys, xs', ys', w, r, hx, hy, fx, fy, kx, ky, hr => by
    have h1 := kindsOk_len kx
    have h2 := kindsOk_len ky
    rw [List.replicate_zero, List.flatten_nil, List.length_nil, List.length_eq_zero_iff] at h1 h2
    rw [h1, h2] at hr
    cases hr
    simp [eqElems]
  | m + 1, i, xs, ys, xs', ys', w, r, hx, hy, fx, fy, kx, ky, hr => by
    rw [List.replicate_succ, List.flatten_cons] at kx ky
    obtain ⟨x1, x2, x3⟩ := kindsOk_append kx
    obtain ⟨y1, y2, y3⟩ := kindsOk_append ky
    have hin : i * n + k1.length = (i + 1) * n := by rw [hc1, Nat.succ_mul]
    rw [List.drop_drop, hin] at x2 y2
    have hsp : ∀ l : List AV, l.drop (i * n) = (l.drop (i * n)).take k1.length ++ l.drop ((i + 1) * n) := fun l => by rw [← hin, ← List.drop_drop, List.take_append_drop]
    rw [hsp xs, hsp ys, plainEq_append (by rw [kindsOk_len x1, kindsOk_len y1])] at hr
    have part_of : ∀ {l : List AV} {l' : Array Value}, Vs μ l l'.toList → l.all AV.flat = true → kindsOk k1 ((l.drop (i * n)).take k1.length) = true → ∃ v v', (part e l' (i * n)).run P w = .ok v' w ∧ V μ v v' ∧ Cov b v ((l.drop (i * n)).take k1.length) := by
      intro l l' hl hf hk'
      cases b with
      | true =>
        obtain ⟨v', q1, q2⟩ := part_sim (w := w) hb hn hl hf (off := i * n) (v := .agg ((l.drop (i * n)).take n)) rfl
        exact ⟨_, v', q1, q2, .inl ⟨rfl, by rw [hc1]⟩⟩
      | false =>
        have h1 : k1.length = 1 := by
          cases d with
          | zero => simp [plainTy] at hk
          | succ d => rcases plainTy_flat hk hb with ⟨_, rfl⟩ | ⟨_, _, rfl⟩ | ⟨_, rfl⟩ <;> rfl
        have hl1 := kindsOk_len hk'
        rw [h1] at hl1 ⊢
        obtain ⟨v, hv⟩ := List.length_eq_one_iff.1 hl1
        have hv2 : l[i * n]? = some v := by
          have : ((l.drop (i * n)).take 1)[0]? = some v := by rw [hv]; rfl
          rw [List.getElem?_take] at this
          simpa using this
        obtain ⟨v', q1, q2⟩ := part_sim (w := w) hb hn hl hf (off := i * n) (v := v) (by simpa using hv2)
        exact ⟨v, v', q1, q2, .inr ⟨rfl, hv⟩⟩
    obtain ⟨vx, vx', px, qx, cx⟩ := part_of hx fx x1
    obtain ⟨vy, vy', py, qy, cy⟩ := part_of hy fy y1
    rw [List.range'_succ]
    simp only [eqElems, Sem.run_bind, px, py, Result.andThen_ok]
    cases hq : plainEq ((xs.drop (i * n)).take k1.length) ((ys.drop (i * n)).take k1.length) with
    | none => rw [hq] at hr; cases hr
    | some q =>
      rw [hq] at hr
      rw [ih qx qy cx cy x1 y1 hq, Result.andThen_ok]
      cases q with
      | false => cases hr; simp
      | true =>
        simp only [Bool.not_true, Bool.false_eq_true, if_false]
        exact eq_array hk hb hn hc1 ih hx hy fx fy x2 y2 hr
theorem eq_sim : ∀ (d : Nat) {D : Nat} {t : TypeId} {ks : List Nat} {b : Bool} {x y : AV} {x' y' : Value} {xs ys : List AV} {w : World} {r : Bool}, plainTy P d t = some ks → d ≤ D → aggr? P t = some b → V μ x x' → V μ y y' → Cov b x xs → Cov b y ys →
    kindsOk ks xs = true → kindsOk ks ys = true → plainEq xs ys = some r → (Op.equalIn D t x' y').run P w = .ok r w
  | 0, _, _, _, _, _, _, _, _, _, _, _, _, e, _, _, _, _, _, _, _, _, _ => by simp [plainTy] at e
  | d + 1, 0, _, _, _, _, _, _, _, _, _, _, _, _, h, _, _, _, _, _, _, _, _ => by omega
  | d + 1, D + 1, t, ks, b, x, y, x', y', xs, ys, w, r, e, hd, hb, hx, hy, cx, cy, kx, ky, hr => by
    cases b with
    | false =>
      rcases cx with ⟨h, _⟩ | ⟨_, rfl⟩
      · cases h
      rcases cy with ⟨h, _⟩ | ⟨_, rfl⟩
      · cases h
      exact eq_flat D e hb hx hy kx ky hr
    | true =>
      rcases cx with ⟨_, rfl⟩ | ⟨h, _⟩
      case inr => cases h
      rcases cy with ⟨_, rfl⟩ | ⟨h, _⟩
      case inr => cases h
      cases hx with | agg _ xs' hvx hfx => cases hy with | agg _ ys' hvy hfy =>
      simp only [plainTy] at e
      split at e
      · rename_i h; simp [aggr?, h] at hb
      · rename_i h; simp [aggr?, h] at hb
      · rename_i h; simp [aggr?, h] at hb
      · rename_i fs hu
        split at e
        case isTrue => cases e
        rename_i hst
        have hfo : P.fieldsOf t = fs := by simp [Program.fieldsOf, hu]
        rw [run_equalIn_struct w D t xs' ys' (by rw [hfo]; exact hu) (by simpa using hst), hfo]
        exact eq_struct (d := d) (fun e hb hx hy cx cy kx ky hr => eq_sim d e (by omega) hb hx hy cx cy kx ky hr) e hvx hvy hfx hfy (by simpa using kx) (by simpa using ky) (by simpa using hr)
      · rename_i len el hu
        split at e
        case h_2 => cases e
        rename_i k1 n b' hk hn hb'
        split at e
        case isFalse => cases e
        rename_i hc
        cases e
        rw [run_equalIn_array w D xs' ys' hu hn]
        exact eq_array hk hb' hn hc (fun hx hy cx cy kx ky hr => eq_sim d hk (by omega) hb' hx hy cx cy kx ky hr) (i := 0) hvx hvy hfx hfy (by simpa using kx) (by simpa using ky) (by simpa using hr)
      · cases e
end
end Go.Ya
namespace Go.Ya
set_option linter.unusedVariables false
set_option linter.unusedSimpArgs false
section
variable {P : Program} {μ : Mu} {h : Heap} {w : World}
/-! ### zeros -/
theorem zeroA_spec {t : TypeId} {z : AV} (e : zeroA P t = some z) (μ : Mu) : ∃ i zv, P.info? t = some i ∧ i.zero = some zv ∧ V μ z zv := by
  unfold zeroA at e
  cases hi : P.info? t with
  | none => rw [hi] at e; cases e
  | some i =>
    rw [hi] at e; simp only at e
    cases hz : i.zero with
    | none => rw [hz] at e; cases e
    | some zv => rw [hz] at e; exact ⟨i, zv, rfl, hz, cVal_sound μ zv z e⟩
theorem zero_run {t : TypeId} {i : TypeInfo} {zv : Value} (hi : P.info? t = some i) (hz : i.zero = some zv) : (zeroValue t).run P w = .ok zv w := by
  simp [zeroValue, typeInfo, hi, hz]
theorem rep_get {α : Type} (l : List α) : ∀ (m i : Nat), (List.replicate m l).flatten[i]? = if i < m * l.length then l[i % l.length]? else none
  | 0, i => by simp
  | m + 1, i => by
    rw [List.replicate_succ, List.flatten_cons]
    by_cases h1 : i < l.length
    · rw [List.getElem?_append_left h1, if_pos (by rw [Nat.add_mul]; omega), Nat.mod_eq_of_lt h1]
    · rw [List.getElem?_append_right (by omega), rep_get l m]
      have e1 : (m + 1) * l.length = m * l.length + l.length := by rw [Nat.add_mul, Nat.one_mul]
      have e2 : i % l.length = (i - l.length) % l.length := Nat.mod_eq_sub_mod (by omega)
      rw [e1, e2]
      by_cases h2 : i < m * l.length + l.length
      · rw [if_pos h2, if_pos (by omega)]
      · rw [if_neg h2, if_neg (by omega)]
theorem rep_range (zero : Array Value) (m n : Nat) (hn : n = m * zero.size) (hpos : 0 < zero.size) : ((Array.range n).map (zero[· % zero.size]!)).toList = (List.replicate m zero.toList).flatten := by
  apply List.ext_getElem?
  intro i
  rw [rep_get]
  simp only [Array.toList_map, Array.toList_range, List.getElem?_map, Array.length_toList]
  by_cases h1 : i < m * zero.size
  · rw [if_pos h1]
    have h2 : i % zero.size < zero.size := Nat.mod_lt _ hpos
    rw [List.getElem?_range (by omega)]
    simp [h2]
  · rw [if_neg h1]
    simp; omega
theorem flat_rep {l : List AV} (hf : l.all AV.flat = true) (m : Nat) : (List.replicate m l).flatten.all AV.flat = true := by
  rw [List.all_eq_true] at hf ⊢
  intro x hx
  obtain ⟨y, hy, hxy⟩ := List.mem_flatten.1 hx
  rw [(List.mem_replicate.1 hy).2] at hxy
  exact hf x hxy
/-! ### read, write -/
theorem load_sim (s : St P μ h w) {t : TypeId} {b : Bool} {n : Nat} (hb : aggr? P t = some b) (hn : sz P t = some n) {x : AV} {x' : Value} (hx : V μ x x') {v : AV} {h' : Heap}
    (hr : (match (generalizing := false) x with
    | .ptr id off => (loadA h b n id off).map fun v => (v, h)
    | _ => none : AR) = some (v, h')) : VDone P μ h w ((Instr.loadAt t x').run P w) v h' := by
  cases x with
  | ptr id off =>
    simp only [Option.map_eq_some_iff] at hr
    obtain ⟨a, ha, hr⟩ := hr
    cases hr
    cases hx with | ptr _ _ b base lim hm =>
    obtain ⟨v', hrun, hv⟩ := loadA_sim s hm ha hb hn
    exact VDone.pure s (v' := v') (by simp only [Instr.loadAt, Instr.sureAddr, Sem.run_bind, Sem.run_pure, Result.andThen_ok]; exact hrun) hv
  | _ => simp at hr
theorem store_sim (s : St P μ h w) {t : TypeId} {n : Nat} (hn : sz P t = some n) {x y : AV} {x' y' : Value} (hx : V μ x x') (hy : V μ y y') {v : AV} {h' : Heap}
    (hr : (match (generalizing := false) x with
    | .ptr id off =>
      let vs := y.cells
      if vs.length = n ∧ vs.all AV.flat then (storeA h id off vs).map fun h' => (undefA, h') else none
    | _ => none : AR) = some (v, h')) : UDone P μ h w ((Instr.storeAt t x' y').run P w) h' ∧ v = undefA := by
  cases x with
  | ptr id off =>
    simp only at hr
    split at hr
    · rename_i hc
      obtain ⟨c1, c2⟩ := hc
      simp only [Option.map_eq_some_iff] at hr
      obtain ⟨a, ha, hr⟩ := hr
      cases hr
      cases hx with | ptr _ _ b base lim hm =>
      have hcv := hy.cells
      obtain ⟨w', hrun, st', fr, _⟩ := storeA_sim s hm ha hcv c2
      refine ⟨⟨μ, w', ?_, st', fr⟩, rfl⟩
      have hl : y'.cells.size = n := by have := hcv.len; simp at this; omega
      simp only [Instr.storeAt, Instr.sureAddr, Sem.run_bind, Sem.run_pure, Result.andThen_ok, storeVar, sz_run hn, hl, ne_eq, not_true_eq_false, if_false]
      simpa using hrun
    · cases hr
  | _ => simp at hr
/-! ### make -/
theorem box_sim (s : St P μ h w) (t : TypeId) {x : AV} {x' : Value} (hx : V μ x x') {v : AV} {h' : Heap}
    (hr : (if x.cells.all AV.flat then some (.ptr h.next 0, h.alloc (.cells x.cells false)) else none : AR) = some (v, h')) : VDone P μ h w ((Instr.box t x').run P w) v h' := by
  split at hr
  · cases hr
    obtain ⟨h1, h2⟩ := alloc_sim' s t hx.cells ‹_›
    refine ⟨_, .pointer (some ⟨w.heap.size, 0, none⟩), _, ?_, ?_, h1, h2⟩
    · simp [Instr.box, newVar, run_newRow]
    · exact .ptr h.next 0 w.heap.size 0 _ (muAdd_same _ _ _)
  · cases hr
theorem foldl_set (off : Nat) : ∀ (l : List Value) (k : Nat) (arr : Array Value), off + k + l.length ≤ arr.size →
    ((l.zipIdx k).foldl (fun (cs : Array Value) (p : Value × Nat) => cs.setIfInBounds (off + p.2) p.1) arr).size = arr.size ∧
    ∀ j, ((l.zipIdx k).foldl (fun (cs : Array Value) (p : Value × Nat) => cs.setIfInBounds (off + p.2) p.1) arr)[j]? = if off + k ≤ j ∧ j < off + k + l.length then l[j - (off + k)]? else arr[j]?
  | [], k, arr, _ => ⟨rfl, fun j => by rw [if_neg (by simp only [List.length_nil]; omega)]; rfl⟩
  | v :: l, k, arr, hle => by
    simp only [List.length_cons] at hle
    obtain ⟨h1, h2⟩ := foldl_set off l (k + 1) (arr.setIfInBounds (off + k) v) (by simp; omega)
    simp only [List.zipIdx_cons, List.foldl_cons]
    refine ⟨by simpa using h1, fun j => ?_⟩
    rw [h2 j]
    by_cases c1 : off + (k + 1) ≤ j ∧ j < off + (k + 1) + l.length
    · rw [if_pos c1, if_pos (by simp only [List.length_cons]; omega), show j - (off + k) = (j - (off + (k + 1))) + 1 by omega]; rfl
    · rw [if_neg c1]
      by_cases c2 : j = off + k
      · subst c2
        rw [if_pos (by simp only [List.length_cons]; omega)]
        simp [show off + k < arr.size by omega]
      · rw [if_neg (by simp only [List.length_cons]; omega), Array.getElem?_setIfInBounds_ne (by omega)]
theorem fill_sim {tm : List AV} {a : Act} (ht : Vs μ tm a.tmps.toList) (place : Nat → Option (Nat × Nat)) : ∀ (parts : List (Nat × Operand)) (ps : List (Nat × Nat × Opd)) (cells : List AV) (cells' : Array Value) (out : List AV),
    cParts place parts = some ps → Vs μ cells cells'.toList → fillA cells tm ps = some out → cells.all AV.flat = true →
    ∃ out', Instr.fill place cells' (parts.map fun p => (p.1, a.eval p.2)) = some out' ∧ Vs μ out out'.toList ∧ out.all AV.flat = true ∧ out.length = cells.length
  | [], ps, cells, cells', out, e1, hv, e2, hf => by
    simp [cParts] at e1; subst e1
    simp [fillA] at e2; subst e2
    exact ⟨cells', rfl, hv, hf, rfl⟩
  | (i, x) :: parts, ps, cells, cells', out, e1, hv, e2, hf => by
    simp only [cParts] at e1
    split at e1
    · rename_i off size sx l hp hx hl
      cases e1
      simp only [fillA] at e2
      split at e2
      · rename_i hc
        obtain ⟨c1, c2, c3⟩ := hc
        have hxv := (cOpd_sound ht hx).cells
        have hxl := hxv.len
        have hcl := hv.len
        simp only [Array.length_toList] at hxl hcl
        have hfold := foldl_set off (a.eval x).cells.toList 0 cells' (by simp; omega)
        generalize hF : (((a.eval x).cells.toList.zipIdx 0).foldl (fun (cs : Array Value) (p : Value × Nat) => cs.setIfInBounds (off + p.2) p.1) cells') = F at hfold
        obtain ⟨f1, f2⟩ := hfold
        have hvF : Vs μ (splice cells off (ev tm sx).cells) F.toList := by
          refine Vs.of_get (by rw [splice_len _ _ _ (by omega)]; simp [f1, hcl]) fun j u v g1 g2 => ?_
          rw [splice_get _ _ _ (by omega)] at g1
          rw [Array.getElem?_toList, f2 j] at g2
          simp only [Array.length_toList, Nat.add_zero] at g2
          by_cases cj : off ≤ j ∧ j < off + (ev tm sx).cells.length
          · rw [if_pos cj] at g1
            rw [if_pos (by omega)] at g2
            obtain ⟨v', e', hv'⟩ := hxv.get g1
            rw [e'] at g2; cases g2; exact hv'
          · rw [if_neg cj] at g1
            rw [if_neg (by omega)] at g2
            obtain ⟨v', e', hv'⟩ := hv.get g1
            rw [Array.getElem?_toList, g2] at e'; cases e'; exact hv'
        have hfF : (splice cells off (ev tm sx).cells).all AV.flat = true := by
          rw [List.all_eq_true]
          intro y hy
          unfold splice at hy
          simp only [List.mem_append] at hy
          rcases hy with (hy | hy) | hy
          · exact List.all_eq_true.1 hf y (List.mem_of_mem_take hy)
          · exact List.all_eq_true.1 c3 y hy
          · exact List.all_eq_true.1 hf y (List.mem_of_mem_drop hy)
        obtain ⟨out', o1, o2, o3, o4⟩ := fill_sim ht place parts l _ F out hl hvF e2 hfF
        refine ⟨out', ?_, o2, o3, by rw [o4, splice_len _ _ _ (by omega)]⟩
        simp only [List.map_cons, Instr.fill, hp]
        rw [if_neg (by simp; omega)]
        have : (a.eval x).cells.zipIdx.foldl (fun cs (c, j) => cs.setIfInBounds (off + j) c) cells' = F := by
          rw [← hF, ← Array.foldl_toList, Array.toList_zipIdx]
        rw [this]
        exact o1
      · cases e2
    · cases e1
theorem buildStruct_sim (s : St P μ h w) {tm : List AV} {a : Act} (ht : Vs μ tm a.tmps.toList) {t : TypeId} {fs : Array Field} {z : AV} {parts : Array (Nat × Operand)} {ps : List (Nat × Nat × Opd)} (hz : zeroA P t = some z) (hu : P.underlying t = some (.struct fs))
    (hp : cParts (fun (i : Nat) => (fs[i]?).bind fun (f : Field) => (sz P f.type).map fun n => (f.offset, n)) parts.toList = some ps) (hall : fs.toList.all (fun (f : Field) => (sz P f.type).isSome) = true) (hzf : z.cells.all AV.flat = true) {v : AV} {h' : Heap}
    (hr : ((fillA z.cells tm ps).map fun cs => (.agg cs, h) : AR) = some (v, h')) : VDone P μ h w ((Instr.build t (parts.map fun (i, x) => (i, a.eval x))).run P w) v h' := by
  simp only [Option.map_eq_some_iff] at hr
  obtain ⟨cs, hcs, hr⟩ := hr
  cases hr
  obtain ⟨i, zv, hi, hzv, hV⟩ := zeroA_spec hz μ
  -- the places of the fields
  have hpl : ∀ (l : List Field), l.all (fun f => (sz P f.type).isSome) = true → (l.mapM (fun (f : Field) => (do pure (f.offset, ← sizeOf f.type) : Sem (Nat × Nat)))).run P w = .ok (l.map fun (f : Field) => (f.offset, (sz P f.type).getD 0)) w := by
    intro l
    induction l with
    | nil => intro _; simp
    | cons f l ih =>
      intro hl
      simp only [List.all_cons, Bool.and_eq_true] at hl
      obtain ⟨n, hn⟩ := Option.isSome_iff_exists.1 hl.1
      simp only [List.mapM_cons, Sem.run_bind, sz_run hn, Result.andThen_ok, Sem.run_pure, ih hl.2, List.map_cons, hn, Option.getD_some]
  have hpa : (fs.mapM (fun (f : Field) => (do pure (f.offset, ← sizeOf f.type) : Sem (Nat × Nat)))).run P w = .ok (fs.map fun (f : Field) => (f.offset, (sz P f.type).getD 0)) w := by
    rw [Array.mapM_eq_mapM_toList, Sem.run_map, hpl fs.toList hall, Result.andThen_ok]
    congr 1
    apply Array.toList_inj.1
    simp
  have hplace : (fun (i : Nat) => (fs.map fun (f : Field) => (f.offset, (sz P f.type).getD 0))[i]?) = (fun (i : Nat) => (fs[i]?).bind fun (f : Field) => (sz P f.type).map fun n => (f.offset, n)) := by
    funext j
    rw [Array.getElem?_map]
    cases hj : fs[j]? with
    | none => rfl
    | some f =>
      have := List.all_eq_true.1 hall f (by rw [← Array.getElem?_toList] at hj; exact List.mem_of_getElem? hj)
      obtain ⟨n, hn⟩ := Option.isSome_iff_exists.1 this
      simp [hn]
  obtain ⟨out', o1, o2, o3, _⟩ := fill_sim (μ := μ) ht (fun (i : Nat) => (fs[i]?).bind fun (f : Field) => (sz P f.type).map fun n => (f.offset, n)) parts.toList ps z.cells zv.cells cs hp hV.cells hcs hzf
  refine VDone.pure s (v' := .agg out') ?_ (.agg _ _ o2 o3)
  simp only [Instr.build, Sem.run_bind, zero_run hi hzv, Result.andThen_ok, und_run hu, hpa, hplace, Array.toList_map]
  rw [o1]; rfl
theorem buildArr_sim (s : St P μ h w) {tm : List AV} {a : Act} (ht : Vs μ tm a.tmps.toList) {t e : TypeId} {len n : Nat} {z : AV} {parts : Array (Nat × Operand)} {ps : List (Nat × Nat × Opd)} (hz : zeroA P t = some z) (hu : P.underlying t = some (.array len e)) (hn : sz P e = some n)
    (hp : cParts (fun i => some (i * n, n)) parts.toList = some ps) (hzf : z.cells.all AV.flat = true) {v : AV} {h' : Heap}
    (hr : ((fillA z.cells tm ps).map fun cs => (.agg cs, h) : AR) = some (v, h')) : VDone P μ h w ((Instr.build t (parts.map fun (i, x) => (i, a.eval x))).run P w) v h' := by
  simp only [Option.map_eq_some_iff] at hr
  obtain ⟨cs, hcs, hr⟩ := hr
  cases hr
  obtain ⟨i, zv, hi, hzv, hV⟩ := zeroA_spec hz μ
  obtain ⟨out', o1, o2, o3, _⟩ := fill_sim (μ := μ) ht (fun i => some (i * n, n)) parts.toList ps z.cells zv.cells cs hp hV.cells hcs hzf
  refine VDone.pure s (v' := .agg out') ?_ (.agg _ _ o2 o3)
  simp only [Instr.build, Sem.run_bind, zero_run hi hzv, Result.andThen_ok, und_run hu, sz_run hn, Array.toList_map]
  rw [o1]; rfl
theorem buildSlice_sim (s : St P μ h w) {tm : List AV} {a : Act} (ht : Vs μ tm a.tmps.toList) {t e : TypeId} {len n : Nat} {z : AV} {parts : Array (Nat × Operand)} {ps : List (Nat × Nat × Opd)} (hz : zeroA P e = some z) (hu : P.underlying t = some (.slice e)) (hn : sz P e = some n)
    (hp : cParts (fun i => some (i * n, n)) parts.toList = some ps) (hzl : z.cells.length = n) (hpos : 0 < n) (hlim : len * n ≤ 2 ^ 24) (hzf : z.cells.all AV.flat = true) {v : AV} {h' : Heap}
    (hr : ((fillA ((List.replicate len z.cells).flatten) tm ps).map fun cs => (.slice h.next 0 len len true n, h.alloc (.cells cs false)) : AR) = some (v, h')) :
    VDone P μ h w ((Instr.buildSlice t len (parts.map fun (i, x) => (i, a.eval x))).run P w) v h' := by
  simp only [Option.map_eq_some_iff] at hr
  obtain ⟨cs, hcs, hr⟩ := hr
  cases hr
  obtain ⟨i, zv, hi, hzv, hV⟩ := zeroA_spec hz μ
  have hzs : zv.cells.size = n := by have := hV.cells.len; simp at this; omega
  have hlen : (List.replicate len z.cells).flatten.length = len * n := by simp [hzl]
  -- the row of zeros
  have hzero : ∃ zc : Array Value, ((len * n = 0 ∧ zc = #[]) ∨ (¬ len * n = 0 ∧ zc = zv.cells)) ∧
      Vs μ ((List.replicate len z.cells).flatten) ((Array.range (len * n)).map (zc[· % zc.size]!)).toList := by
    by_cases h0 : len * n = 0
    · refine ⟨#[], .inl ⟨h0, rfl⟩, ?_⟩
      have : len = 0 := by
        rcases Nat.mul_eq_zero.1 h0 with h | h <;> omega
      subst this; simp; exact .nil
    · refine ⟨zv.cells, .inr ⟨h0, rfl⟩, ?_⟩
      rw [rep_range zv.cells len (len * n) (by rw [hzs]) (by omega)]
      exact hV.cells.flatRep len
  obtain ⟨zc, hz1, hz2⟩ := hzero
  obtain ⟨out', o1, o2, o3, o4⟩ := fill_sim (μ := μ) ht (fun i => some (i * n, n)) parts.toList ps _ _ cs hp hz2 hcs (flat_rep hzf len)
  have hal := alloc_sim' s e (cs := cs) (cs' := out'.toList) o2 o3
  rw [show out'.toList.toArray = out' from rfl] at hal
  obtain ⟨h1, h2⟩ := hal
  refine ⟨_, .slice (some ⟨w.heap.size, 0, none⟩) len len, _, ?_, ?_, h1, h2⟩
  · simp only [Instr.buildSlice, Sem.run_bind, und_run hu, Result.andThen_ok, sz_run hn]
    rw [if_neg (by omega)]
    rcases hz1 with ⟨h0, rfl⟩ | ⟨h0, rfl⟩
    · rw [if_pos h0]
      simp only [Sem.run_bind, Sem.run_pure, Result.andThen_ok, Array.toList_map, o1]
      rw [run_newRow]; rfl
    · rw [if_neg h0]
      simp only [Sem.run_bind, Sem.run_pure, Result.andThen_ok, zero_run hi hzv, Array.toList_map, o1]
      rw [run_newRow]; rfl
  · have hl16 : len ≤ 2 ^ 24 := Nat.le_trans (Nat.le_mul_of_pos_right _ hpos) hlim
    refine .slice h.next 0 len len true n _ len (Nat.le_refl _) (Nat.le_refl _) (fun _ => rfl) hpos (by omega) (.inr ⟨w.heap.size, 0, _, muAdd_same _ _ _, rfl, ?_⟩)
    rw [o4, hlen]; omega
theorem makeSlice_sim (s : St P μ h w) {t e : TypeId} {i : TypeInfo} {z : AV} (hu : P.underlying t = some (.slice e)) (hi : P.info? e = some i) (hz : zeroA P e = some z) (hzl : z.cells.length = i.size) (hpos : 0 < i.size) (hzf : z.cells.all AV.flat = true)
    {x y : AV} {x' y' : Value} (hx : V μ x x') (hy : V μ y y') {v : AV} {h' : Heap}
    (hr : (match (generalizing := false) x, y with
    | .int .i64 l, .int .i64 c =>
      if 0 ≤ l ∧ l ≤ c ∧ i.bytes * c ≤ 140737488355328 ∧ c ≤ 140737488355328 then
        some (.slice h.next 0 l.toNat c.toNat true i.size, h.alloc (.cells ((List.replicate c.toNat z.cells).flatten) false))
      else none
    | _, _ => none : AR) = some (v, h')) : VDone P μ h w ((Instr.makeSlice t x' y').run P w) v h' := by
  have hxy : ∃ l c, x = .int .i64 l ∧ y = .int .i64 c := by
    split at hr
    · exact ⟨_, _, rfl, rfl⟩
    · cases hr
  obtain ⟨l, c, rfl, rfl⟩ := hxy
  · simp only at hr
    split at hr
    · rename_i hc
      obtain ⟨c1, c2, c3, c4⟩ := hc
      cases hr
      cases hx; cases hy
      obtain ⟨i', zv, hi', hzv, hV⟩ := zeroA_spec hz μ
      rw [hi] at hi'; cases hi'
      have hzs : zv.cells.size = i.size := by have := hV.cells.len; simp at this; omega
      have wl : IntKind.i64.wrap l = l := IntWalk.i64_in _ (by omega)
      have wc : IntKind.i64.wrap c = c := IntWalk.i64_in _ (by omega)
      have hzero : ∃ zc : Array Value, ((c.toNat * i.size = 0 ∧ zc = #[]) ∨ (¬ c.toNat * i.size = 0 ∧ zc = zv.cells)) ∧
          Vs μ ((List.replicate c.toNat z.cells).flatten) ((Array.range (c.toNat * i.size)).map (zc[· % zc.size]!)).toList := by
        by_cases h0 : c.toNat * i.size = 0
        · refine ⟨#[], .inl ⟨h0, rfl⟩, ?_⟩
          have : c.toNat = 0 := by
            rcases Nat.mul_eq_zero.1 h0 with h | h <;> omega
          rw [this]; simp; exact .nil
        · refine ⟨zv.cells, .inr ⟨h0, rfl⟩, ?_⟩
          rw [rep_range zv.cells c.toNat (c.toNat * i.size) (by rw [hzs]) (by omega)]
          exact hV.cells.flatRep c.toNat
      obtain ⟨zc, hz1, hz2⟩ := hzero
      have hal := alloc_sim' s e hz2 (flat_rep hzf c.toNat)
      obtain ⟨h1, h2⟩ := hal
      refine ⟨_, .slice (some ⟨w.heap.size, 0, none⟩) l.toNat c.toNat, _, ?_, ?_, h1, h2⟩
      · have hb : (i.bytes : Int) * c ≤ 281474976710656 := by omega
        simp only [Instr.makeSlice, Sem.run_bind, und_run hu, Result.andThen_ok, asInt, asIntOf, Sem.run_pure, typeInfo, run_program, hi, wl, wc]
        rw [if_neg (by simp; omega)]
        simp only [Sem.run_bind, Sem.run_pure, Result.andThen_ok, run_askRoom, sz_run (P := P) (w := w) (t := e) (n := i.size) (by simp [sz, hi])]
        rcases hz1 with ⟨h0, rfl⟩ | ⟨h0, rfl⟩
        · rw [if_pos h0]
          simp only [Sem.run_bind, Sem.run_pure, Result.andThen_ok, run_newRow]
        · rw [if_neg h0]
          simp only [Sem.run_bind, Sem.run_pure, Result.andThen_ok, zero_run hi hzv, run_newRow]
      · refine .slice h.next 0 l.toNat c.toNat true i.size _ c.toNat (by omega) (Nat.le_refl _) (fun _ => rfl) hpos (by omega) (.inr ⟨w.heap.size, 0, _, muAdd_same _ _ _, rfl, ?_⟩)
        simp [hzl]
    · cases hr
end
end Go.Ya
