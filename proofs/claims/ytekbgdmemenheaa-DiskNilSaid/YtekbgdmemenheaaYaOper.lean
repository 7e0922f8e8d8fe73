/-
  One operation of a region, with calls; a region whose order is fixed.
-/
import Derived.CallsIn
import Derived.OrdersIn
import Derived.RangeFuncCalls
import Derived.Test.YtekbgdmemenheaaYaOps8
namespace Go.Ya
set_option linter.unusedVariables false
set_option linter.unusedSimpArgs false

def F (r : Option Nat) : Fence := { Fence.wide with round := r }

/-- What a call leaves. -/
def RetR (P : Program) (μ : Mu) (h : Heap) (w : World) (v : AV) (h' : Heap) (e : Ending) (w' : World) : Prop :=
  ∃ μ' v', e = .returned v' ∧ V μ' v v' ∧ St P μ' h' w' ∧ Fr μ h w μ' h' w'

/-- Calls of a depth do what the abstract calls do. -/
def SimCall (P : Program) (call : Tgt → List AV → Heap → AR) : Prop :=
  (∀ f args h v h', call (.fn f) args h = some (v, h') → ∀ μ w (args' : Array Value), St P μ h w → Vs μ args args'.toList →
    (∃ fn, P.funcs[f]? = some fn ∧ fn.body.isNone = false ∧ fn.name ≠ "runtime.NumGoroutine") ∧ Calls P f args' w (RetR P μ h w v h')) ∧
  (∀ id args h v h', call (.yield id) args h = some (v, h') → ∀ μ w (args' : Array Value) b base lim, St P μ h w → Vs μ args args'.toList → μ id = some (b, base, lim) →
    ∃ f tmps asg body, (Instr.yield b args').run P w = .ok (.round b f tmps asg body) w ∧ RoundIn Fence.wide 0 P b f tmps asg body w (RetR P μ h w v h'))

section
variable {P : Program} {μ : Mu} {h : Heap} {w : World}

theorem F_fn (r : Option Nat) (f : FuncId) : (F r).fn f := trivial
theorem F_depth (r : Option Nat) : (F r).depth = none := rfl

theorem calls_F {f : FuncId} {args : Array Value} {R : Ending → World → Prop} (r : Option Nat) (n : Nat) (hc : Calls P f args w R) : CallsIn (F r) n P f args w R := by
  have h0 : CallsIn Fence.wide n P f args w R := callsIn_wide.2 hc
  cases r with
  | none => exact h0
  | some l => exact h0.inRound l

theorem round_F {l f : Nat} {tmps : Array Value} {asg body : Code} {R : Ending → World → Prop} (r : Option Nat) (hc : RoundIn Fence.wide 0 P l f tmps asg body w R) : RoundIn (F r) 0 P l f tmps asg body w R := by
  cases r with
  | none => exact hc
  | some k => exact hc

theorem put_sim {tm : List AV} {a : Act} (ht : Vs μ tm a.tmps.toList) (dst : Option Nat) {v : AV} {v' : Value} (hv : V μ v v') : Vs μ (putT tm dst v) (a.put dst v').tmps.toList := by
  cases dst with
  | none => exact ht
  | some d =>
    simp only [putT, Act.put, Array.toList_setIfInBounds]
    exact ht.set d hv

theorem wanted_sim {tm : List AV} {a : Act} (ht : Vs μ tm a.tmps.toList) {ops : Array Oper} {o : Oper} {so : SOper} (hc : cOper P ops o = some so) : Region.wanted o (yielded ops a.tmps) = wantedA tm so.guard := by
  unfold cOper at hc
  split at hc
  · cases hc
  · split at hc
    · cases hc
      rename_i hg
      simp [Region.wanted, hg, wantedA]
    · rename_i j want hg
      split at hc
      · rename_i t hd
        cases hc
        simp only [Region.wanted, hg, wantedA, yielded, hd, Option.bind_some]
        rw [← Array.getElem?_toList]
        cases e : tm[t]? with
        | none =>
          have : a.tmps.toList[t]? = none := by
            rw [List.getElem?_eq_none_iff] at e ⊢; rw [← ht.len]; exact e
          rw [this]; rfl
        | some x =>
          obtain ⟨v, e', hv⟩ := ht.get e
          rw [e']
          cases hv with
          | bool b => simp
          | _ => rfl
      · cases hc

theorem cOper_op {ops : Array Oper} {o : Oper} {so : SOper} (hc : cOper P ops o = some so) : cOp P o.op = some so.op ∧ so.dst = o.dst := by
  unfold cOper at hc
  split at hc
  · cases hc
  · rename_i s hs
    split at hc
    · cases hc; exact ⟨hs, rfl⟩
    · split at hc
      · cases hc; exact ⟨hs, rfl⟩
      · cases hc

theorem semAt_eq {o : Oper} {sop : SOp} (hc : cOp P o.op = some sop) (r : Option Nat) (ρ : Operand → Value) : o.semAt r ρ = execOp ρ o := by
  unfold Oper.semAt
  cases r with
  | none => rfl
  | some l =>
    cases ho : o.op <;> first
      | rfl
      | (rw [ho] at hc; simp [cOp] at hc)

theorem call_op {op : Op} {sop : SOp} (hc : cOp P op = some sop) (hn : sop.isCall = true) : ∃ c, op = .call c := by
  cases op with
  | call c => exact ⟨c, rfl⟩
  | next it b =>
    exfalso
    cases b with
    | false => simp [cOp] at hc
    | true =>
      simp only [cOp, Option.map_eq_some_iff] at hc
      obtain ⟨_, _, rfl⟩ := hc
      simp [SOp.isCall] at hn
  | _ =>
    exfalso
    simp only [cOp] at hc
    (repeat' split at hc) <;> first
      | (cases hc; done)
      | (cases hc; simp [SOp.isCall] at hn; done)
      | (simp only [Option.map_eq_some_iff] at hc; obtain ⟨_, _, rfl⟩ := hc; simp [SOp.isCall] at hn; done)

/-- A box of a constant, in whatever heap. -/
theorem constBox_run {μ : Mu} {tm : List AV} {a : Act} {w : World} (ht : Vs μ tm a.tmps.toList) {o : Oper} {x : AV} (hc : cOp P o.op = some (.box (.c x))) :
    ∃ t c', Vs μ x.cells c' ∧ (execOp a.eval o).run P w = .ok (.value (.pointer (some ⟨w.heap.size, 0, none⟩))) (w.alloc (.cells c'.toArray t)) := by
  have boxed : ∀ (e : TypeId) (v : Value), V μ x v → ∃ c', Vs μ x.cells c' ∧ (Instr.box e v).run P w = .ok (.pointer (some ⟨w.heap.size, 0, none⟩)) (w.alloc (.cells c'.toArray e)) := fun e v hv =>
    ⟨v.cells.toList, hv.cells, by simp [Instr.box, newVar, run_newRow]⟩
  cases ho : o.op with
  | alloc e =>
    rw [ho] at hc
    simp only [cOp] at hc
    split at hc
    · rename_i z hz
      cases hc
      obtain ⟨i, zv, hi, hzv, hV⟩ := zeroA_spec hz μ
      obtain ⟨c', h1, h2⟩ := boxed e zv hV
      refine ⟨e, c', h1, ?_⟩
      have he : (Instr.alloc e true (.tuple #[])).run P w = (Instr.box e zv).run P w := by
        simp [Instr.alloc, Instr.box, zero_run hi hzv]
      rw [← he] at h2
      simp [execOp, ho, h2]
    · cases hc
  | box e y =>
    rw [ho] at hc
    simp only [cOp, Option.map_eq_some_iff] at hc
    obtain ⟨z, hz, e2⟩ := hc
    cases e2
    obtain ⟨c', h1, h2⟩ := boxed e (a.eval y) (cOpd_sound ht hz)
    exact ⟨e, c', h1, by simp [execOp, ho, h2]⟩
  | call c =>
    exfalso
    rw [ho] at hc
    simp only [cOp, cCall] at hc
    (repeat' split at hc) <;> first
      | (cases hc; done)
      | (simp only [Option.map_eq_some_iff] at hc; obtain ⟨_, _, e⟩ := hc; cases e; done)
  | next it b =>
    exfalso
    rw [ho] at hc
    cases b with
    | false => simp [cOp] at hc
    | true =>
      simp only [cOp, Option.map_eq_some_iff] at hc
      obtain ⟨_, _, e⟩ := hc
      cases e
  | _ =>
    exfalso
    rw [ho] at hc
    simp only [cOp] at hc
    (repeat' split at hc) <;> first
      | (cases hc; done)
      | (simp only [Option.map_eq_some_iff] at hc; obtain ⟨_, _, e⟩ := hc; cases e; done)

/-- One operation: what the abstract machine does with it, the model does. -/
theorem oper_sim {call : Tgt → List AV → Heap → AR} (hcall : SimCall P call) (s : St P μ h w) {tm : List AV} {a : Act} (ht : Vs μ tm a.tmps.toList) {o : Oper} {sop : SOp} (hc : cOp P o.op = some sop) {v : AV} {h' : Heap} (hr : aop call tm h sop = some (v, h'))
    (r : Option Nat) {K : Act → World → Prop} {Q : Exit → Act → World → Prop} (hK : ∀ μ' v' w', V μ' v v' → St P μ' h' w' → Fr μ h w μ' h' w' → K (a.put o.dst v') w') :
    o.wpIn (F r) 0 P a w K Q := by
  refine ⟨fun f _ => F_fn r f, ?_⟩
  rw [show (F r).round = r from rfl, semAt_eq hc]
  cases hnc : sop.isCall with
  | false =>
    obtain ⟨μ', v', w', e, hv, s', f'⟩ := op_sim s ht hc hnc hr
    rcases e with e | ⟨e, rfl⟩
    · rw [e]; exact hK μ' v' w' hv s' f'
    · rw [e]; exact hK μ' undef w' hv s' f'
  | true =>
    obtain ⟨c, ho⟩ := call_op hc hnc
    rw [ho] at hc
    simp only [cOp] at hc
    have hexec : (execOp a.eval o).run P w = (resolve a.eval c o.type >>= fun d => invoke d.target d.args : Sem Next).run P w := by
      simp [execOp, ho]
    rw [hexec]
    -- a call of a function with a body
    have fin : ∀ (f : FuncId) (args : List AV) (args' : Array Value) (fst : Array Value) (cap' : Array Value), call (.fn f) args h = some (v, h') → Vs μ args args'.toList →
        (resolve a.eval c o.type).run P w = .ok { target := .fn (.func f) cap', args := fst } w → fst ++ cap' = args' →
        o.uponIn (F r) 0 P a K Q ((resolve a.eval c o.type >>= fun d => invoke d.target d.args : Sem Next).run P w) := by
      intro f args args' fst cap' hcl hv hres happ
      obtain ⟨⟨fn, hf, hb, hnm⟩, hcalls⟩ := hcall.1 f args h v h' hcl μ w args' s hv
      have hinv : (invoke (.fn (.func f) cap') fst).run P w = .ok (.enter f args') w := by
        have hnm' : (fn.name == "runtime.NumGoroutine") = false := beq_eq_false_iff_ne.2 hnm
        simp only [invoke, callFunc, Sem.run_bind, run_program, Result.andThen_ok, hf, hnm', hb, Bool.false_eq_true, if_false, happ]
        rfl
      rw [Sem.run_bind, hres, Result.andThen_ok, hinv, Oper.uponIn_enter]
      refine ⟨fun hd => by simp [F_depth] at hd, (calls_F r 0 hcalls).mono fun e w' hR => ?_⟩
      obtain ⟨μ', v', rfl, hv', s', f'⟩ := hR
      exact hK μ' v' w' hv' s' f'
    cases hcal : c.callee with
    | builtin b =>
      exfalso
      simp only [cCall, hcal] at hc
      (repeat' split at hc) <;> first
        | (cases hc; done)
        | (cases hc; simp [SOp.isCall] at hnc; done)
        | (simp only [Option.map_eq_some_iff] at hc; obtain ⟨_, _, rfl⟩ := hc; simp [SOp.isCall] at hnc; done)
    | invoke x m => simp [cCall, hcal] at hc
    | value fo =>
      have hV : ∀ x y, fo = x → cOpd x = some y → True := fun _ _ _ _ => trivial
      cases fo with
      | func f =>
        simp only [cCall, hcal, Option.map_eq_some_iff] at hc
        obtain ⟨ss, hss, rfl⟩ := hc
        simp only [aop] at hr
        refine fin f _ (c.args.map a.eval) (#[] ++ c.args.map a.eval) #[] hr (by rw [Array.toList_map]; exact cOpds_sound ht hss) ?_ (by simp)
        simp [resolve, hcal, Act.eval, Deferred.ofValue]
      | _ =>
        simp only [cCall, hcal] at hc
        split at hc
        · rename_i ax ss hax hss
          cases hc
          simp only [aop] at hr
          have hxv := cOpd_sound ht hax
          split at hr
          · rename_i f first captured he
            rw [he] at hxv
            generalize hq : a.eval _ = q at hxv
            cases hxv with | func _ _ _ x' y' v1 v2 =>
            refine fin f _ (x' ++ c.args.map a.eval ++ y') (x' ++ c.args.map a.eval) y' hr ?_ ?_ rfl
            · rw [Array.toList_append, Array.toList_append, Array.toList_map]
              exact (v1.append (cOpds_sound ht hss)).append v2
            · simp [resolve, hcal, hq, Deferred.ofValue]
          · rename_i l he
            rw [he] at hxv
            generalize hq : a.eval _ = q at hxv
            cases hxv with | yieldf _ b base lim hm =>
            obtain ⟨f, tmps, asg, body, hy, hround⟩ := hcall.2 l _ h v h' hr μ w (c.args.map a.eval) b base lim s (by rw [Array.toList_map]; exact cOpds_sound ht hss) hm
            have hres : (resolve a.eval c o.type).run P w = .ok { target := .fn (.yield b) #[], args := c.args.map a.eval } w := by
              simp [resolve, hcal, hq, Deferred.ofValue]
            rw [Sem.run_bind, hres, Result.andThen_ok]
            simp only [invoke, hy]
            rw [Oper.uponIn_round]
            refine ⟨fun hd => by simp [F_depth] at hd, (round_F r hround).mono fun e w' hR => ?_⟩
            obtain ⟨μ', v', rfl, hv', s', f'⟩ := hR
            exact hK μ' v' w' hv' s' f'
          · cases hr
        · cases hc

/-- A region in the order of its text. -/
theorem aops_sim {call : Tgt → List AV → Heap → AR} (hcall : SimCall P call) {ops : Array Oper} (r : Option Nat) : ∀ (l : List Oper) (k : Nat) (sl : List SOper) (tm : List AV) (h : Heap) (tm' : List AV) (h' : Heap) (μ : Mu) (a : Act) (w : World),
    (∀ j, j < l.length → ops[k + j]? = l[j]?) → cOpers P ops l = some sl → aops call sl tm h = some (tm', h') → St P μ h w → Vs μ tm a.tmps.toList →
    ∀ {Q : Exit → Act → World → Prop}, (∀ μ' a' w', Vs μ' tm' a'.tmps.toList → St P μ' h' w' → Fr μ h w μ' h' w' → a'.defers = a.defers → Q .normal a' w') →
    wpOpsIn (F r) 0 P ops Q (List.range' k l.length) a w
  | [], k, sl, tm, h, tm', h', μ, a, w, _, hc, hr, s, ht, Q, hQ => by
    simp [cOpers] at hc; subst hc
    simp [aops] at hr
    obtain ⟨rfl, rfl⟩ := hr
    exact hQ μ a w ht s (.refl _ _ _) rfl
  | o :: l, k, sl, tm, h, tm', h', μ, a, w, hidx, hc, hr, s, ht, Q, hQ => by
    simp only [cOpers] at hc
    split at hc
    · rename_i so sl' hso hsl
      cases hc
      have hk : ops[k]? = some o := by simpa using hidx 0 (by simp)
      have hidx' : ∀ j, j < l.length → ops[k + 1 + j]? = l[j]? := fun j hj => by
        have := hidx (j + 1) (by simp; omega)
        rw [show k + 1 + j = k + (j + 1) by omega]; simpa using this
      rw [List.length_cons, List.range'_succ]
      simp only [wpOpsIn, hk]
      obtain ⟨hop, hdst⟩ := cOper_op hso
      simp only [aops] at hr
      rw [wanted_sim ht hso]
      by_cases hw : wantedA tm so.guard = true
      · rw [if_pos hw] at hr ⊢
        split at hr
        · rename_i v h1 hv
          refine oper_sim hcall s ht hop hv r fun μ' v' w' hv' s' f' => ?_
          have ht' : Vs μ' (putT tm so.dst v) (a.put o.dst v').tmps.toList := by rw [hdst]; exact put_sim (ht.mono f'.le) o.dst hv'
          refine aops_sim hcall r l (k + 1) sl' _ h1 tm' h' μ' _ w' hidx' hsl hr s' ht' fun μ'' a' w'' q1 q2 q3 q4 => hQ μ'' a' w'' q1 q2 (f'.trans q3) ?_
          rw [q4]; cases o.dst <;> rfl
        · cases hr
      · rw [if_neg hw] at hr ⊢
        refine ⟨fun f _ => F_fn r f, ?_⟩
        have ht' : Vs μ (putT tm so.dst undefA) (a.put o.dst undef).tmps.toList := by rw [hdst]; exact put_sim ht o.dst (.tuple [] #[] .nil)
        refine aops_sim hcall r l (k + 1) sl' _ h tm' h' μ _ w hidx' hsl hr s ht' fun μ'' a' w'' q1 q2 q3 q4 => hQ μ'' a' w'' q1 q2 q3 ?_
        rw [q4]; cases o.dst <;> rfl
    · cases hc

end
end Go.Ya
