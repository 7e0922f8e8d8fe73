/-
  The abstract machine: YaOper, YaCode, YaCall.
-/
import Derived.CallsIn
import Derived.OrdersIn
import Derived.RangeFuncCalls
import Derived.LoopNIn
import Derived.RangeFuncNested
import Derived.RangeFuncLeaves
import Derived.Test.YtekbgdmemenheaaYbD
namespace Go.Ya
set_option linter.unusedVariables false
set_option linter.unusedSimpArgs false
def F (r : Option Nat) : Fence := { Fence.wide with round := r }
def RetR (P : Program) (μ : Mu) (h : Heap) (w : World) (v : AV) (h' : Heap) (e : Ending) (w' : World) : Prop :=
  ∃ μ' v', e = .returned v' ∧ V μ' v v' ∧ St P μ' h' w' ∧ Fr μ h w μ' h' w'
def SimCall (P : Program) (call : Tgt → List AV → Heap → AR) : Prop :=
  (∀ f args h v h', call (.fn f) args h = some (v, h') → ∀ μ w (args' : Array Value), St P μ h w → Vs μ args args'.toList →
    (∃ fn, P.funcs[f]? = some fn ∧ fn.body.isNone = false ∧ fn.name ≠ "runtime.NumGoroutine") ∧ Calls P f args' w (RetR P μ h w v h')) ∧
  (∀ id args h v h', call (.yield id) args h = some (v, h') → ∀ μ w (args' : Array Value) b base lim, St P μ h w → Vs μ args args'.toList → μ id = some (b, base, lim) →
    ∃ f tmps asg body, (Instr.yield b args').run P w = .ok (.round b f tmps asg body) w ∧ RoundIn Fence.wide 0 P b f tmps asg body w (RetR P μ h w v h'))
section
variable {P : Program} {μ : Mu} {h : Heap} {w : World}
theorem F_fn (r : Option Nat) (f : FuncId) : (F r).fn f := trivial
theorem F_depth (r : Option Nat) : (F r).depth = none := rfl
theorem calls_F {f : FuncId} {args : Array Value} {R : Ending → World → Prop} (r : Option Nat) (n : Nat) (hc : Calls P f args w R) : CallsIn (F r) n P f args w R := by
  have h0 : CallsIn Fence.wide n P f args w R := callsIn_wide.2 hc
  cases r with
  | none => exact h0
  | some l => exact h0.inRound l
theorem round_F {l f : Nat} {tmps : Array Value} {asg body : Code} {R : Ending → World → Prop} (r : Option Nat) (hc : RoundIn Fence.wide 0 P l f tmps asg body w R) : RoundIn (F r) 0 P l f tmps asg body w R := by
  cases r with
  | none => exact hc
  | some k => exact hc
theorem put_sim {tm : List AV} {a : Act} (ht : Vs μ tm a.tmps.toList) (dst : Option Nat) {v : AV} {v' : Value} (hv : V μ v v') : Vs μ (putT tm dst v) (a.put dst v').tmps.toList := by
  cases dst with
  | none => exact ht
  | some d =>
    simp only [putT, Act.put, Array.toList_setIfInBounds]
    exact ht.set d hv
theorem wanted_sim {tm : List AV} {a : Act} (ht : Vs μ tm a.tmps.toList) {ops : Array Oper} {o : Oper} {so : SOper} (hc : cOper P ops o = some so) : Region.wanted o (yielded ops a.tmps) = wantedA tm so.guard := by
  unfold cOper at hc
  split at hc
  · cases hc
  · split at hc
    · cases hc
      rename_i hg
      simp [Region.wanted, hg, wantedA]
    · rename_i j want hg
      split at hc
      · rename_i t hd
        cases hc
        simp only [Region.wanted, hg, wantedA, yielded, hd, Option.bind_some]
        rw [← Array.getElem?_toList]
        cases e : tm[t]? with
        | none =>
          have : a.tmps.toList[t]? = none := by
            rw [List.getElem?_eq_none_iff] at e ⊢; rw [← ht.len]; exact e
          rw [this]; rfl
        | some x =>
          obtain ⟨v, e', hv⟩ := ht.get e
          rw [e']
          cases hv with
          | bool b => simp
          | _ => rfl
      · cases hc
theorem cOper_op {ops : Array Oper} {o : Oper} {so : SOper} (hc : cOper P ops o = some so) : cOpR P ops o.op = some so.op ∧ so.dst = o.dst := by
  unfold cOper at hc
  split at hc
  · cases hc
  · rename_i s hs
    split at hc
    · cases hc; exact ⟨hs, rfl⟩
    · split at hc
      · cases hc; exact ⟨hs, rfl⟩
      · cases hc
theorem semAt_eq {o : Oper} {sop : SOp} (hc : cOp P o.op = some sop) (r : Option Nat) (ρ : Operand → Value) : o.semAt r ρ = execOp ρ o := by
  unfold Oper.semAt
  cases r with
  | none => rfl
  | some l =>
    cases ho : o.op <;> first
      | rfl
      | (rw [ho] at hc; simp [cOp] at hc)
theorem call_op {op : Op} {sop : SOp} (hc : cOp P op = some sop) (hn : sop.isCall = true) : ∃ c, op = .call c := by
  cases op with
  | call c => exact ⟨c, rfl⟩
  | next it b =>
    exfalso
    cases b with
    | false => simp [cOp] at hc
    | true =>
      simp only [cOp, Option.map_eq_some_iff] at hc
      obtain ⟨_, _, rfl⟩ := hc
      simp [SOp.isCall] at hn
  | _ =>
    exfalso
    simp only [cOp] at hc
    (repeat' split at hc) <;> first
      | (cases hc; done)
      | (cases hc; simp [SOp.isCall] at hn; done)
      | (simp only [Option.map_eq_some_iff] at hc; obtain ⟨_, _, rfl⟩ := hc; simp [SOp.isCall] at hn; done)
theorem constBox_run {μ : Mu} {tm : List AV} {a : Act} {w : World} (ht : Vs μ tm a.tmps.toList) {o : Oper} {x : AV} (hc : cOp P o.op = some (.box (.c x))) :
    ∃ t c', Vs μ x.cells c' ∧ (execOp a.eval o).run P w = .ok (.value (.pointer (some ⟨w.heap.size, 0, none⟩))) (w.alloc (.cells c'.toArray t)) := by
  have boxed : ∀ (e : TypeId) (v : Value), V μ x v → ∃ c', Vs μ x.cells c' ∧ (Instr.box e v).run P w = .ok (.pointer (some ⟨w.heap.size, 0, none⟩)) (w.alloc (.cells c'.toArray e)) := fun e v hv =>
    ⟨v.cells.toList, hv.cells, by simp [Instr.box, newVar, run_newRow]⟩
  cases ho : o.op with
  | alloc e =>
    rw [ho] at hc
    simp only [cOp] at hc
    split at hc
    · rename_i z hz
      cases hc
      obtain ⟨i, zv, hi, hzv, hV⟩ := zeroA_spec hz μ
      obtain ⟨c', h1, h2⟩ := boxed e zv hV
      refine ⟨e, c', h1, ?_⟩
      have he : (Instr.alloc e true (.tuple #[])).run P w = (Instr.box e zv).run P w := by
        simp [Instr.alloc, Instr.box, zero_run hi hzv]
      rw [← he] at h2
      simp [execOp, ho, h2]
    · cases hc
  | box e y =>
    rw [ho] at hc
    simp only [cOp, Option.map_eq_some_iff] at hc
    obtain ⟨z, hz, e2⟩ := hc
    cases e2
    obtain ⟨c', h1, h2⟩ := boxed e (a.eval y) (cOpd_sound ht hz)
    exact ⟨e, c', h1, by simp [execOp, ho, h2]⟩
  | call c =>
    exfalso
    rw [ho] at hc
    simp only [cOp, cCall] at hc
    (repeat' split at hc) <;> first
      | (cases hc; done)
      | (simp only [Option.map_eq_some_iff] at hc; obtain ⟨_, _, e⟩ := hc; cases e; done)
  | next it b =>
    exfalso
    rw [ho] at hc
    cases b with
    | false => simp [cOp] at hc
    | true =>
      simp only [cOp, Option.map_eq_some_iff] at hc
      obtain ⟨_, _, e⟩ := hc
      cases e
  | _ =>
    exfalso
    rw [ho] at hc
    simp only [cOp] at hc
    (repeat' split at hc) <;> first
      | (cases hc; done)
      | (simp only [Option.map_eq_some_iff] at hc; obtain ⟨_, _, e⟩ := hc; cases e; done)
theorem meth_run {P : Program} {w : World} {t : TypeId} {v' : Value} {m : String} {f : FuncId} (hm : methOf P m t = some (f, none)) : (method (P.types.size + Made.depth) t v' m).run P w = .ok (f, v') w := by
  unfold methOf at hm
  obtain ⟨n, hn⟩ : ∃ n, P.types.size + Made.depth = n + 1 := ⟨P.types.size + 99, rfl⟩
  rw [hn]
  cases hi : P.info? t with
  | none => simp [hi] at hm
  | some i =>
    cases hf : i.methods.find? (·.name == m) with
    | none => simp [hi, hf] at hm
    | some mm =>
      simp only [hi, hf] at hm
      split at hm
      · rename_i hp
        have hp' : mm.path.toList = [] := List.isEmpty_iff.1 hp
        cases hfn : mm.func with
        | none => simp [hfn] at hm
        | some p =>
          obtain ⟨g, pr⟩ := p
          cases hu : P.underlying t with
          | none => cases pr <;> simp [hfn, hu] at hm
          | some d =>
            have hti : (typeInfo t : Sem TypeInfo).run P w = .ok i w := by simp [typeInfo, hi]
            simp only [method, Sem.run_bind, hti, Result.andThen_ok, hf, hp', follow, Sem.run_pure, hfn, receiverAt, und_run hu]
            rw [hfn, hu] at hm
            cases d <;> cases pr <;> simp only [reduceCtorEq, Option.some.injEq, Prod.mk.injEq, and_true] at hm <;> first
              | (subst hm; simp [Place.get]; done)
              | (split at hm <;> simp at hm; done)
              | (simp at hm; done)
      · cases hm
theorem wrapnil_run {P : Program} {w : World} {ts : Array TypeId} {t : TypeId} {a : Addr} {x y : ByteArray} : (Builtin.ssaWrapNilChk_ ts t #[.pointer (some a), .string x, .string y]).run P w = .ok (.pointer (some a)) w := rfl
theorem meth_runD {P : Program} {w : World} {t : TypeId} {m : String} {f : FuncId} {b : Bool} {n : Nat} (hm : methOf P m t = some (f, some (b, n))) (a : Addr) : ∃ e, aggr? P e = some b ∧ sz P e = some n ∧ (method (P.types.size + Made.depth) t (.pointer (some a)) m).run P w = ((loadVar e a : Sem Value).run P w).andThen fun r w => .ok (f, r) w := by
  unfold methOf at hm
  obtain ⟨n', hn⟩ : ∃ n, P.types.size + Made.depth = n + 1 := ⟨P.types.size + 99, rfl⟩
  rw [hn]
  cases hi : P.info? t with
  | none => simp [hi] at hm
  | some i =>
    cases hf : i.methods.find? (·.name == m) with
    | none => simp [hi, hf] at hm
    | some mm =>
      simp only [hi, hf] at hm
      split at hm
      · rename_i hp
        have hp' : mm.path.toList = [] := List.isEmpty_iff.1 hp
        have hpe : mm.path.isEmpty = true := by simpa [Array.isEmpty_iff] using hp'
        cases hfn : mm.func with
        | none => simp [hfn] at hm
        | some p =>
          obtain ⟨g, pr⟩ := p
          cases hu : P.underlying t with
          | none => cases pr <;> simp [hfn, hu] at hm
          | some d =>
            rw [hfn, hu] at hm
            cases d <;> cases pr <;> simp only [reduceCtorEq, Option.some.injEq, Prod.mk.injEq, and_false] at hm
            rename_i e
            cases ha : aggr? P e with
            | none => simp [ha] at hm
            | some b1 =>
            cases hs : sz P e with
            | none => simp [ha, hs] at hm
            | some n1 =>
            simp only [ha, hs, Option.some.injEq, Prod.mk.injEq] at hm
            obtain ⟨rfl, rfl, rfl⟩ := hm
            refine ⟨e, ha, hs, ?_⟩
            have hti : (typeInfo t : Sem TypeInfo).run P w = .ok i w := by simp [typeInfo, hi]
            simp only [method, Sem.run_bind, hti, Result.andThen_ok, hf, hp', hpe, if_true, follow, Sem.run_pure, hfn, receiverAt, und_run hu, Place.get, strVal, wrapnil_run, asAddr]
      · cases hm
theorem ahead_run {P : Program} {w : World} {t : TypeId} {v' : Value} {m : String} {f : FuncId} (hm : methOf P m t = some (f, none)) : (nilAhead (P.types.size + Made.depth) t v' m).run P w = .ok (some false) w := by
  unfold methOf at hm
  obtain ⟨n, hn⟩ : ∃ n, P.types.size + Made.depth = n + 1 := ⟨P.types.size + 99, rfl⟩
  rw [hn]
  cases hi : P.info? t with
  | none => simp [hi] at hm
  | some i =>
    cases hf : i.methods.find? (·.name == m) with
    | none => simp [hi, hf] at hm
    | some mm =>
      simp only [hi, hf] at hm
      split at hm
      · rename_i hp
        have hp' : mm.path.toList = [] := List.isEmpty_iff.1 hp
        cases hfn : mm.func with
        | none => simp [hfn] at hm
        | some p =>
          obtain ⟨g, pr⟩ := p
          cases hu : P.underlying t with
          | none => cases pr <;> simp [hfn, hu] at hm
          | some d =>
            have hti : (typeInfo t : Sem TypeInfo).run P w = .ok i w := by simp [typeInfo, hi]
            simp only [nilAhead, Sem.run_bind, hti, Result.andThen_ok, hf, hp', followBlind, Sem.run_pure, hfn]
            rw [hfn, hu] at hm
            cases pr with
            | true => simp
            | false =>
              simp only [Sem.run_bind, und_run hu, Result.andThen_ok]
              cases d <;> simp only [reduceCtorEq, Option.some.injEq, Prod.mk.injEq, and_true] at hm <;> first
                | (simp; done)
                | (split at hm <;> simp at hm; done)
                | (simp at hm; done)
      · cases hm
theorem ahead_runD {P : Program} {w : World} {t : TypeId} {m : String} {f : FuncId} {q : Bool × Nat} (hm : methOf P m t = some (f, some q)) (a : Addr) : (nilAhead (P.types.size + Made.depth) t (.pointer (some a)) m).run P w = .ok (some false) w := by
  unfold methOf at hm
  obtain ⟨n, hn⟩ : ∃ n, P.types.size + Made.depth = n + 1 := ⟨P.types.size + 99, rfl⟩
  rw [hn]
  cases hi : P.info? t with
  | none => simp [hi] at hm
  | some i =>
    cases hf : i.methods.find? (·.name == m) with
    | none => simp [hi, hf] at hm
    | some mm =>
      simp only [hi, hf] at hm
      split at hm
      · rename_i hp
        have hp' : mm.path.toList = [] := List.isEmpty_iff.1 hp
        cases hfn : mm.func with
        | none => simp [hfn] at hm
        | some p =>
          obtain ⟨g, pr⟩ := p
          cases hu : P.underlying t with
          | none => cases pr <;> simp [hfn, hu] at hm
          | some d =>
            have hti : (typeInfo t : Sem TypeInfo).run P w = .ok i w := by simp [typeInfo, hi]
            simp only [nilAhead, Sem.run_bind, hti, Result.andThen_ok, hf, hp', followBlind, Sem.run_pure, hfn]
            rw [hfn, hu] at hm
            cases pr with
            | true => simp
            | false =>
              simp only [Sem.run_bind, und_run hu, Result.andThen_ok]
              cases d <;> first | (simp; done) | (simp at hm; done)
      · cases hm
theorem oper_sim {call : Tgt → List AV → Heap → AR} (hcall : SimCall P call) (s : St P μ h w) {tm : List AV} {a : Act} (ht : Vs μ tm a.tmps.toList) {ops : Array Oper} {o : Oper} {sop : SOp} (hc : cOpR P ops o.op = some sop) {v : AV} {h' : Heap} (hr : aop call tm h sop = some (v, h'))
    (r : Option Nat) {K : Act → World → Prop} {Q : Exit → Act → World → Prop} (hK : ∀ μ' v' w', V μ' v v' → St P μ' h' w' → Fr μ h w μ' h' w' → K (a.put o.dst v') w') :
    o.wpIn (F r) 0 P a w K Q := by
  refine ⟨fun f _ => F_fn r f, ?_⟩
  rcases cOpR_spec hc with hc | ⟨m, t, ho, rfl⟩
  rotate_left
  · have hsem : o.semAt (F r).round a.eval = execOp a.eval o := by
      unfold Oper.semAt
      cases (F r).round with
      | none => rfl
      | some l => simp only [ho]
    rw [hsem]
    have hv := cOpd_sound ht (show cOpd (.tmp t) = some (.t t) from rfl)
    simp only [aop, chkM] at hr
    split at hr
    · rename_i m' ty v0 he
      rw [he] at hv
      generalize hq : a.eval (.tmp t) = q at hv
      cases hv with | meth _ _ x' hx =>
      cases hx with | iface _ _ v' hv0 =>
      split at hr
      · rename_i hmm
        subst hmm
        have fin : (nilAhead (P.types.size + Made.depth) ty v' m').run P w = .ok (some false) w → v = .meth m' (.iface ty v0) → h' = h → o.uponIn (F r) 0 P a K Q ((execOp a.eval o).run P w) := by
          intro hn e1 e2
          subst e1; subst e2
          have he : (execOp a.eval o).run P w = .ok (.value (.func (.method m') #[.iface ty v'] #[])) w := by
            simp [execOp, ho, hq, hn]
          rw [he]
          exact hK μ _ w (.meth _ _ _ (.iface _ _ _ hv0)) s (.refl _ _ _)
        split at hr
        · rename_i f hf
          cases hr
          exact fin (ahead_run (methTbl_find hf)) rfl rfl
        · rename_i f b hf
          split at hr
          · rename_i id off
            cases hr
            cases hv0 with | ptr _ _ b0 base lim hmu =>
            exact fin (ahead_runD (methTbl_find hf) _) rfl rfl
          · cases hr
        · cases hr
      · cases hr
    · cases hr
  rw [show (F r).round = r from rfl, semAt_eq hc]
  cases hnc : sop.isCall with
  | false =>
    obtain ⟨μ', v', w', e, hv, s', f'⟩ := op_sim s ht hc hnc hr
    rcases e with e | ⟨e, rfl⟩
    · rw [e]; exact hK μ' v' w' hv s' f'
    · rw [e]; exact hK μ' undef w' hv s' f'
  | true =>
    obtain ⟨c, ho⟩ := call_op hc hnc
    rw [ho] at hc
    simp only [cOp] at hc
    have hexec : (execOp a.eval o).run P w = (resolve a.eval c o.type >>= fun d => invoke d.target d.args : Sem Next).run P w := by
      simp [execOp, ho]
    rw [hexec]
    -- a call of a function with a body
    have fin : ∀ (f : FuncId) (args : List AV) (args' : Array Value) (fst : Array Value) (cap' : Array Value), call (.fn f) args h = some (v, h') → Vs μ args args'.toList →
        (resolve a.eval c o.type).run P w = .ok { target := .fn (.func f) cap', args := fst } w → fst ++ cap' = args' →
        o.uponIn (F r) 0 P a K Q ((resolve a.eval c o.type >>= fun d => invoke d.target d.args : Sem Next).run P w) := by
      intro f args args' fst cap' hcl hv hres happ
      obtain ⟨⟨fn, hf, hb, hnm⟩, hcalls⟩ := hcall.1 f args h v h' hcl μ w args' s hv
      have hinv : (invoke (.fn (.func f) cap') fst).run P w = .ok (.enter f args') w := by
        have hnm' : (fn.name == "runtime.NumGoroutine") = false := beq_eq_false_iff_ne.2 hnm
        simp only [invoke, callFunc, Sem.run_bind, run_program, Result.andThen_ok, hf, hnm', hb, Bool.false_eq_true, if_false, happ]
        rfl
      rw [Sem.run_bind, hres, Result.andThen_ok, hinv, Oper.uponIn_enter]
      refine ⟨fun hd => by simp [F_depth] at hd, (calls_F r 0 hcalls).mono fun e w' hR => ?_⟩
      obtain ⟨μ', v', rfl, hv', s', f'⟩ := hR
      exact hK μ' v' w' hv' s' f'
    cases hcal : c.callee with
    | builtin b =>
      exfalso
      simp only [cCall, hcal] at hc
      (repeat' split at hc) <;> first
        | (cases hc; done)
        | (cases hc; simp [SOp.isCall] at hnc; done)
        | (simp only [Option.map_eq_some_iff] at hc; obtain ⟨_, _, rfl⟩ := hc; simp [SOp.isCall] at hnc; done)
    | invoke x m =>
      simp only [cCall, hcal] at hc
      split at hc
      · rename_i ax ss hax hss
        cases hc
        simp only [aop, invA] at hr
        have hxv := cOpd_sound ht hax
        split at hr
        · rename_i t v0 he
          rw [he] at hxv
          generalize hq : a.eval x = q at hxv
          cases hxv with | iface _ _ v' hv0 =>
          have hres : (resolve a.eval c o.type).run P w = .ok { target := .fn (.method m) #[], args := #[.iface t v'] ++ c.args.map a.eval } w := by
            simp [resolve, hcal, hq]
          have finM : ∀ (f : FuncId) (r0 : AV) (r' : Value), V μ r0 r' → call (.fn f) (r0 :: evs tm ss) h = some (v, h') → (method (P.types.size + Made.depth) t v' m).run P w = .ok (f, r') w →
              o.uponIn (F r) 0 P a K Q ((resolve a.eval c o.type >>= fun d => invoke d.target d.args : Sem Next).run P w) := by
            intro f r0 r' hvr hcl hm
            have hvs : Vs μ (r0 :: evs tm ss) (#[r'] ++ c.args.map a.eval).toList := by
              rw [Array.toList_append, Array.toList_map]
              exact .cons _ _ _ _ hvr (cOpds_sound ht hss)
            obtain ⟨⟨fn, hf, hb, hnm⟩, hcalls⟩ := hcall.1 f _ h v h' hcl μ w _ s hvs
            have hinv : (invoke (.fn (.method m) #[]) (#[.iface t v'] ++ c.args.map a.eval)).run P w = .ok (.enter f (#[r'] ++ c.args.map a.eval)) w := by
              have hnm' : (fn.name == "runtime.NumGoroutine") = false := beq_eq_false_iff_ne.2 hnm
              have e0 : (#[Value.iface t v'] ++ c.args.map a.eval)[0]? = some (.iface t v') := by rw [Array.getElem?_append_left (by simp)]; rfl
              have e1 : (#[Value.iface t v'] ++ c.args.map a.eval).extract 1 (#[Value.iface t v'] ++ c.args.map a.eval).size = c.args.map a.eval := by
                apply Array.toList_inj.1
                simp [List.take_of_length_le]
              simp only [invoke, e0, e1, callMethod, callFunc, Sem.run_bind, run_program, Result.andThen_ok, hm, hf, hnm', hb, Bool.false_eq_true, if_false]
              rfl
            rw [Sem.run_bind, hres, Result.andThen_ok, hinv, Oper.uponIn_enter]
            refine ⟨fun hd => by simp [F_depth] at hd, (calls_F r 0 hcalls).mono fun e w' hR => ?_⟩
            obtain ⟨μ', v1, rfl, hv1, s', f'⟩ := hR
            exact hK μ' v1 w' hv1 s' f'
          split at hr
          · rename_i f hm
            exact finM f v0 v' hv0 hr (meth_run (methTbl_find hm))
          · rename_i f b n hm
            split at hr
            · rename_i id off
              split at hr
              · rename_i r0 hl
                cases hv0 with | ptr _ _ b0 base lim hmu =>
                obtain ⟨e, hag, hsz, hmr⟩ := meth_runD (P := P) (w := w) (methTbl_find hm) ⟨b0, base + off, none⟩
                obtain ⟨r', hr', hvr⟩ := loadA_sim s hmu hl hag hsz
                exact finM f r0 r' hvr hr (by rw [hmr, hr']; rfl)
              · cases hr
            · cases hr
          · cases hr
        · cases hr
      · cases hc
    | value fo =>
      have hV : ∀ x y, fo = x → cOpd x = some y → True := fun _ _ _ _ => trivial
      cases fo with
      | func f =>
        simp only [cCall, hcal, Option.map_eq_some_iff] at hc
        obtain ⟨ss, hss, rfl⟩ := hc
        simp only [aop] at hr
        refine fin f _ (c.args.map a.eval) (#[] ++ c.args.map a.eval) #[] hr (by rw [Array.toList_map]; exact cOpds_sound ht hss) ?_ (by simp)
        simp [resolve, hcal, Act.eval, Deferred.ofValue]
      | _ =>
        simp only [cCall, hcal] at hc
        split at hc
        · rename_i ax ss hax hss
          cases hc
          simp only [aop] at hr
          have hxv := cOpd_sound ht hax
          split at hr
          · rename_i f first captured he
            rw [he] at hxv
            generalize hq : a.eval _ = q at hxv
            cases hxv with | func _ _ _ x' y' v1 v2 =>
            refine fin f _ (x' ++ c.args.map a.eval ++ y') (x' ++ c.args.map a.eval) y' hr ?_ ?_ rfl
            · rw [Array.toList_append, Array.toList_append, Array.toList_map]
              exact (v1.append (cOpds_sound ht hss)).append v2
            · simp [resolve, hcal, hq, Deferred.ofValue]
          · rename_i l he
            rw [he] at hxv
            generalize hq : a.eval _ = q at hxv
            cases hxv with | yieldf _ b base lim hm =>
            obtain ⟨f, tmps, asg, body, hy, hround⟩ := hcall.2 l _ h v h' hr μ w (c.args.map a.eval) b base lim s (by rw [Array.toList_map]; exact cOpds_sound ht hss) hm
            have hres : (resolve a.eval c o.type).run P w = .ok { target := .fn (.yield b) #[], args := c.args.map a.eval } w := by
              simp [resolve, hcal, hq, Deferred.ofValue]
            rw [Sem.run_bind, hres, Result.andThen_ok]
            simp only [invoke, hy]
            rw [Oper.uponIn_round]
            refine ⟨fun hd => by simp [F_depth] at hd, (round_F r hround).mono fun e w' hR => ?_⟩
            obtain ⟨μ', v', rfl, hv', s', f'⟩ := hR
            exact hK μ' v' w' hv' s' f'
          · cases hr
        · cases hc
theorem aops_sim {call : Tgt → List AV → Heap → AR} (hcall : SimCall P call) {ops : Array Oper} (r : Option Nat) : ∀ (l : List Oper) (k : Nat) (sl : List SOper) (tm : List AV) (h : Heap) (tm' : List AV) (h' : Heap) (μ : Mu) (a : Act) (w : World),
    (∀ j, j < l.length → ops[k + j]? = l[j]?) → cOpers P ops l = some sl → aops call sl tm h = some (tm', h') → St P μ h w → Vs μ tm a.tmps.toList →
    ∀ {Q : Exit → Act → World → Prop}, (∀ μ' a' w', Vs μ' tm' a'.tmps.toList → St P μ' h' w' → Fr μ h w μ' h' w' → a'.defers = a.defers → Q .normal a' w') →
    wpOpsIn (F r) 0 P ops Q (List.range' k l.length) a w
  | [], k, sl, tm, h, tm', h', μ, a, w, _, hc, hr, s, ht, Q, hQ => by
    simp [cOpers] at hc; subst hc
    simp [aops] at hr
    obtain ⟨rfl, rfl⟩ := hr
    exact hQ μ a w ht s (.refl _ _ _) rfl
  | o :: l, k, sl, tm, h, tm', h', μ, a, w, hidx, hc, hr, s, ht, Q, hQ => by
    simp only [cOpers] at hc
    split at hc
    · rename_i so sl' hso hsl
      cases hc
      have hk : ops[k]? = some o := by simpa using hidx 0 (by simp)
      have hidx' : ∀ j, j < l.length → ops[k + 1 + j]? = l[j]? := fun j hj => by
        have := hidx (j + 1) (by simp; omega)
        rw [show k + 1 + j = k + (j + 1) by omega]; simpa using this
      rw [List.length_cons, List.range'_succ]
      simp only [wpOpsIn, hk]
      obtain ⟨hop, hdst⟩ := cOper_op hso
      simp only [aops] at hr
      rw [wanted_sim ht hso]
      by_cases hw : wantedA tm so.guard = true
      · rw [if_pos hw] at hr ⊢
        split at hr
        · rename_i v h1 hv
          refine oper_sim hcall s ht hop hv r fun μ' v' w' hv' s' f' => ?_
          have ht' : Vs μ' (putT tm so.dst v) (a.put o.dst v').tmps.toList := by rw [hdst]; exact put_sim (ht.mono f'.le) o.dst hv'
          refine aops_sim hcall r l (k + 1) sl' _ h1 tm' h' μ' _ w' hidx' hsl hr s' ht' fun μ'' a' w'' q1 q2 q3 q4 => hQ μ'' a' w'' q1 q2 (f'.trans q3) ?_
          rw [q4]; cases o.dst <;> rfl
        · cases hr
      · rw [if_neg hw] at hr ⊢
        refine ⟨fun f _ => F_fn r f, ?_⟩
        have ht' : Vs μ (putT tm so.dst undefA) (a.put o.dst undef).tmps.toList := by rw [hdst]; exact put_sim ht o.dst (.tuple [] #[] .nil)
        refine aops_sim hcall r l (k + 1) sl' _ h tm' h' μ _ w hidx' hsl hr s ht' fun μ'' a' w'' q1 q2 q3 q4 => hQ μ'' a' w'' q1 q2 q3 ?_
        rw [q4]; cases o.dst <;> rfl
    · cases hc
end
end Go.Ya
namespace Go.Ya
set_option linter.unusedVariables false
set_option linter.unusedSimpArgs false
section
variable {P : Program} {μ : Mu} {h : Heap} {w : World}
theorem St.junk (s : St P μ h w) (ob : Obj) : St P μ h (w.alloc ob) ∧ Fr μ h w μ h (w.alloc ob) := by
  have hold : ∀ b, b < w.heap.size → (w.alloc ob).heap[b]? = w.heap[b]? := fun b hb => by
    simp only [World.alloc, Array.getElem?_push]; rw [if_neg (by omega)]
  have fr : Fr μ h w μ h (w.alloc ob) := ⟨.refl μ, by simp, rfl, rfl, rfl, fun b hb _ => hold b hb, fun b hb => .inl hb, Nat.le_refl _, fun _ _ h => h⟩
  refine ⟨⟨⟨fun id b base lim o e1 e2 => ?_, s.r.inj⟩, s.bd, s.mkd.sameH fun id b base lim c ro m g => hold b (s.r.lt m g rfl), s.tb.fr fr⟩, ⟨.refl μ, by simp, rfl, rfl, rfl, fun b hb _ => hold b hb, fun b hb => .inl hb, Nat.le_refl _, fun _ _ h => h⟩⟩
  cases hlv : o.live with
  | true => exact (s.r.obj id b base lim o e1 e2).of_same (.refl μ) (hold b (s.r.lt e1 e2 hlv))
  | false => cases o <;> first | trivial | simp [AObj.live] at hlv
theorem not_live_deferred (s : St P μ h w) {r : Nat} {x : Option (List Deferred)} (hr : w.heap[r]? = some (.deferred x)) {id base lim : Nat} {o : AObj} (e1 : μ id = some (r, base, lim)) (e2 : h.get id = some o) : o.live = false := by
  have := s.r.obj id r base lim o e1 e2
  cases o with
  | cells c ro => obtain ⟨_, _, _, hb, _⟩ := this; rw [hr] at hb; cases hb
  | map es => obtain ⟨_, _, hb, _⟩ := this; rw [hr] at hb; cases hb
  | striter s pos => obtain ⟨_, hb, _⟩ := this; rw [hr] at hb; cases hb
  | loop => obtain ⟨_, hb, _⟩ := this; rw [hr] at hb; cases hb
  | dead => rfl
theorem live_of_owned {o : AObj} (ho : o.owned = true) : o.live = true := by cases o <;> first | rfl | simp [AObj.owned] at ho
theorem not_own_deferred (s : St P μ h w) {r : Nat} {x : Option (List Deferred)} (hr : w.heap[r]? = some (.deferred x)) : ¬ Own μ h.get r := by
  rintro ⟨id, base, lim, o, e1, e2, e3⟩
  have := not_live_deferred s hr e1 e2
  rw [live_of_owned e3] at this; cases this
theorem St.shut (s : St P μ h w) {r : Nat} {x : Option (List Deferred)} (hr : w.heap[r]? = some (.deferred x)) (ob : Obj) : St P μ h (w.putObj r ob) := by
  refine ⟨⟨fun id b base lim o e1 e2 => ?_, s.r.inj⟩, s.bd, s.mkd.sameH fun id b base lim c ro m g => by
    have hne : b ≠ r := fun e => by subst e; have := not_live_deferred s hr m g; cases this
    exact World.putObj_heap_other hne, s.tb.put hr (fun _ _ _ e => nomatch e) (by simp) (fun b hb => World.putObj_heap_other hb)⟩
  cases hlv : o.live with
  | true =>
    have hne : b ≠ r := fun e => by subst e; have := not_live_deferred s hr e1 e2; rw [this] at hlv; cases hlv
    exact (s.r.obj id b base lim o e1 e2).of_same (.refl μ) (World.putObj_heap_other hne)
  | false => cases o <;> first | trivial | simp [AObj.live] at hlv
def Marks (B : Nat) (w : World) : List Deferred → Prop
  | [] => True
  | d :: ds => (∃ r, d.target = .collected r ∧ B ≤ r ∧ w.heap[r]? = some (.deferred (some [])) ∧ (∀ d' ∈ ds, d'.target ≠ .collected r)) ∧ Marks B w ds
theorem Marks.keep {B : Nat} {w w' : World} : ∀ {ds : List Deferred}, Marks B w ds → (∀ r : Nat, w.heap[r]? = some (Obj.deferred (some [])) → w'.heap[r]? = some (Obj.deferred (some []))) → Marks B w' ds
  | [], _, _ => trivial
  | d :: ds, ⟨⟨r, h1, h2, h3, h4⟩, h⟩, hk => ⟨⟨r, h1, h2, hk r h3, h4⟩, h.keep hk⟩
theorem Marks.lt {B : Nat} {w : World} : ∀ {ds : List Deferred}, Marks B w ds → ∀ d ∈ ds, ∀ r, d.target = .collected r → r < w.heap.size
  | d₀ :: ds, ⟨⟨r₀, h1, h2, h3, h4⟩, h⟩, d, hd, r, hr => by
    rcases List.mem_cons.1 hd with rfl | hd
    · rw [h1] at hr; cases hr
      exact (Array.getElem?_eq_some_iff.1 h3).1
    · exact h.lt d hd r hr
theorem Fr.marks {μ' : Mu} {h' : Heap} {w' : World} (s : St P μ h w) (f : Fr μ h w μ' h' w') {B : Nat} {ds : List Deferred} (hm : Marks B w ds) : Marks B w' ds :=
  hm.keep fun r hr => by
    rw [f.same r (Array.getElem?_eq_some_iff.1 hr).1 (not_own_deferred s hr)]; exact hr
def AExit.to : AExit → Exit
  | .normal => .normal
  | .exit id => .exit id
  | .ret => .ret
def CodeR (P : Program) (μ : Mu) (h : Heap) (w : World) (B : Nat) (e : AExit) (tm' : List AV) (h' : Heap) (e' : Exit) (a' : Act) (w' : World) : Prop :=
  e' = e.to ∧ ∃ μ', Vs μ' tm' a'.tmps.toList ∧ St P μ' h' w' ∧ Fr μ h w μ' h' w' ∧ Marks B w' a'.defers
theorem CodeR.after {μ₁ : Mu} {h₁ : Heap} {w₁ : World} {B : Nat} {e : AExit} {tm' : List AV} {h' : Heap} {e' : Exit} {a' : Act} {w' : World} (f : Fr μ h w μ₁ h₁ w₁) (c : CodeR P μ₁ h₁ w₁ B e tm' h' e' a' w') : CodeR P μ h w B e tm' h' e' a' w' := by
  obtain ⟨he, μ', q1, q2, q3, q4⟩ := c
  exact ⟨he, μ', q1, q2, f.trans q3, q4⟩
def RdR (μ : Mu) : Option Nat → Option Nat → Prop
  | none, none => True
  | some id, some l => ∃ base lim, μ id = some (l, base, lim)
  | _, _ => False
theorem RdR.mono {ν : Mu} (hl : Le μ ν) {rd r : Option Nat} (hr : RdR μ rd r) : RdR ν rd r := by
  cases rd <;> cases r <;> first | trivial | (obtain ⟨base, lim, e⟩ := hr; exact ⟨base, lim, hl _ _ e⟩) | exact hr
def SimDraw (P : Program) (call : Tgt → List AV → Heap → AR) : Prop :=
  ∀ (id : Nat) (ops : Array Oper) (l : List SOper) (chk : List (Nat × Nat)), cOpers P ops ops.toList = some l → edgesOk ops.toList = true → drawOk (befores ops.toList) l = true → drawChk (befores ops.toList) l = chk →
    ∀ tm h tm' h' lg, aopsLog call l tm h = some (tm', h', lg) → chkLog lg chk = true → ∀ μ (a : Act) w, St P μ h w → Vs μ tm a.tmps.toList → ∀ (r : Option Nat) (Q : Exit → Act → World → Prop),
      (∀ μ' a' w', Vs μ' tm' a'.tmps.toList → St P μ' h' w' → Fr μ h w μ' h' w' → a'.defers = a.defers → Q .normal a' w') → (Code.region id ops true).wpIn (F r) 0 P Q a w
theorem log_of_ops {call : Tgt → List AV → Heap → AR} : ∀ {l : List SOper} {tm : List AV} {h : Heap} {tm' : List AV} {h' : Heap}, aops call l tm h = some (tm', h') → ∃ lg, aopsLog call l tm h = some (tm', h', lg)
  | [], tm, h, tm', h', e => by simp [aops] at e; exact ⟨[], by simp [aopsLog, e]⟩
  | o :: l, tm, h, tm', h', e => by
    simp only [aops, aopsLog] at e ⊢
    split at e
    · rename_i hw
      rw [if_pos hw]
      split at e
      · rename_i v h1 hv
        obtain ⟨lg, hlg⟩ := log_of_ops e
        exact ⟨_, by rw [hlg]⟩
      · cases e
    · rename_i hw
      rw [if_neg hw]
      obtain ⟨lg, hlg⟩ := log_of_ops e
      exact ⟨_, by rw [hlg]⟩
theorem loopObj (s : St P μ h w) {id b base lim f : Nat} {tmps : List AV} {ps : List Nat} {asg body : SC} {st : LoopState} {pend : AExit} (hm : μ id = some (b, base, lim)) (hg : h.get id = some (.loop f tmps ps asg body st pend)) :
    ∃ l : Loop, w.heap[b]? = some (.loop l) ∧ Vs μ tmps l.tmps.toList ∧ l.params.toList = ps ∧ cCode P l.assign = some asg ∧ cCode P l.body = some body ∧ l.state = st ∧ l.pending = pend.jump := by
  obtain ⟨l, h1, _, h3⟩ := s.r.obj id b base lim _ hm hg
  exact ⟨l, h1, h3⟩
theorem loopPut (s : St P μ h w) {id b base lim f : Nat} {tmps : List AV} {ps : List Nat} {asg body : SC} {st : LoopState} {pend : AExit} (hm : μ id = some (b, base, lim)) (hg : h.get id = some (.loop f tmps ps asg body st pend)) (l : Loop) (hl : w.heap[b]? = some (.loop l))
    (f' : Nat) (st' : LoopState) (pend' : AExit) (l' : Loop) (e1 : l'.tmps = l.tmps) (e2 : l'.params = l.params) (e3 : l'.assign = l.assign) (e4 : l'.body = l.body) (e5 : l'.state = st') (e6 : l'.pending = pend'.jump) :
    St P μ (h.set id (.loop f' tmps ps asg body st' pend')) (w.putObj b (.loop l')) ∧ Fr μ h w μ (h.set id (.loop f' tmps ps asg body st' pend')) (w.putObj b (.loop l')) := by
  obtain ⟨l0, h1, _, q1, q2, q3, q4, q5, q6⟩ := s.r.obj id b base lim _ hm hg
  rw [hl] at h1; cases h1
  have hb : b < w.heap.size := (Array.getElem?_eq_some_iff.1 hl).1
  have := s.r.write (w' := w.putObj b (.loop l')) hm hg rfl (o' := .loop f' tmps ps asg body st' pend') rfl (by simp) rfl rfl rfl (fun j hj => World.putObj_heap_other hj)
    ⟨l', World.putObj_heap_same hb, rfl, by rw [e1]; exact q1, by rw [e2]; exact q2, by rw [e3]; exact q3, by rw [e4]; exact q4, e5, e6⟩
  exact ⟨⟨this.1, s.bd, s.mkd.write s.r hm hg rfl (o' := .loop f' tmps ps asg body st' pend') rfl (fun j hj => World.putObj_heap_other hj) (fun _ _ e => by cases e), s.tb.fr this.2⟩, this.2⟩
theorem RetR.of {v : AV} {h' : Heap} {e : Ending} {w' : World} (x : RetR P μ h w v h' e w') : ∃ μ' v', e = .returned v' ∧ V μ' v v' ∧ St P μ' h' w' ∧ Fr μ h w μ' h' w' := x
theorem acode_sim {call : Tgt → List AV → Heap → AR} (hcall : SimCall P call) (hdraw : SimDraw P call) (self : FuncId) (B : Nat) : ∀ (n : Nat) (c : Code) (sc : SC), cCode P c = some sc → ∀ (rd r : Option Nat) (tm : List AV) (h : Heap) (e : AExit) (tm' : List AV) (h' : Heap), acode call self rd n sc tm h = some (e, tm', h') →
    ∀ (μ : Mu) (a : Act) (w : World), St P μ h w → Vs μ tm a.tmps.toList → RdR μ rd r → Marks B w a.defers → B ≤ w.heap.size → c.wpIn (F r) 0 P (CodeR P μ h w B e tm' h') a w := by
  intro n
  induction n using Nat.strongRecOn with
  | _ n ihn =>
  cases n with
  | zero => intro c sc _ rd r tm h e tm' h' hr; simp [acode] at hr
  | succ n =>
    have ih := ihn n (Nat.lt_succ_self n)
    intro c
    cases c with
    | skip =>
      intro sc hc rd r tm h e tm' h' hr μ a w s ht hrd hmk hB
      simp [cCode] at hc; subst hc
      simp [acode] at hr
      obtain ⟨rfl, rfl, rfl⟩ := hr
      exact wpIn_skip ⟨rfl, μ, ht, s, .refl _ _ _, hmk⟩
    | region id ops draw =>
      intro sc hc rd r tm h e tm' h' hr μ a w s ht hrd hmk hB
      simp only [cCode] at hc
      split at hc
      · cases hc
      · rename_i l hl
        have plain : ∀ tm₁ h₁, aops call l tm h = some (tm₁, h₁) → draw = false → (Code.region id ops draw).wpIn (F r) 0 P (CodeR P μ h w B .normal tm₁ h₁) a w := by
          intro tm₁ h₁ ha hd
          subst hd
          refine wpIn_region ?_
          rw [List.range_eq_range']
          exact aops_sim hcall r ops.toList 0 l tm h tm₁ h₁ μ a w (fun j hj => by simp) hl ha s ht fun μ' a' w' q1 q2 q3 q4 => ⟨rfl, μ', q1, q2, q3, by rw [q4]; exact q3.marks s hmk⟩
        split at hc
        · rename_i hd
          split at hc
          · rename_i hok
            simp only [Bool.and_eq_true] at hok
            subst hd
            have drawn : ∀ tm₁ h₁ lg, aopsLog call l tm h = some (tm₁, h₁, lg) → chkLog lg (drawChk (befores ops.toList) l) = true → (Code.region id ops true).wpIn (F r) 0 P (CodeR P μ h w B .normal tm₁ h₁) a w := by
              intro tm₁ h₁ lg ha hck
              exact hdraw id ops l _ hl hok.1 hok.2 rfl tm h tm₁ h₁ lg ha hck μ a w s ht r _ fun μ' a' w' q1 q2 q3 q4 => ⟨rfl, μ', q1, q2, q3, by rw [q4]; exact q3.marks s hmk⟩
            split at hc
            · rename_i hnil
              cases hc
              simp only [acode] at hr
              split at hr
              · rename_i tm₁ h₁ ha
                cases hr
                obtain ⟨lg, hlg⟩ := log_of_ops ha
                exact drawn _ _ lg hlg (by rw [hnil]; rfl)
              · cases hr
            · cases hc
              simp only [acode] at hr
              split at hr
              · rename_i tm₁ h₁ lg ha
                split at hr
                · rename_i hck
                  cases hr
                  exact drawn _ _ lg ha hck
                · cases hr
              · cases hr
          · cases hc
        · rename_i hd
          cases hc
          simp only [acode] at hr
          split at hr
          · rename_i tm₁ h₁ ha
            cases hr
            exact plain _ _ ha (by simpa using hd)
          · cases hr
    | seq x y =>
      intro sc hc rd r tm h e tm' h' hr μ a w s ht hrd hmk hB
      simp only [cCode] at hc
      split at hc
      · rename_i sx sy hx hy
        cases hc
        simp only [acode] at hr
        refine wpIn_seq ?_
        split at hr
        · rename_i tm₁ h₁ ha
          refine wpIn_mono (ih x sx hx rd r tm h .normal tm₁ h₁ ha μ a w s ht hrd hmk hB) ?_
          rintro e₁ a₁ w₁ ⟨rfl, μ₁, q1, q2, q3, q4⟩
          simp only [AExit.to, Exit.then]
          exact wpIn_mono (ih y sy hy rd r tm₁ h₁ e tm' h' hr μ₁ a₁ w₁ q2 q1 (hrd.mono q3.le) q4 (Nat.le_trans hB q3.size)) fun _ _ _ hq => hq.after q3
        · rename_i hne
          refine wpIn_mono (ih x sx hx rd r tm h e tm' h' hr μ a w s ht hrd hmk hB) ?_
          rintro e₁ a₁ w₁ ⟨rfl, rest⟩
          cases e with
          | normal => exact absurd hr (hne _ _)
          | exit id => exact ⟨rfl, rest⟩
          | ret => exact ⟨rfl, rest⟩
      · cases hc
    | cond c x y =>
      intro sc hc rd r tm h e tm' h' hr μ a w s ht hrd hmk hB
      simp only [cCode] at hc
      split at hc
      · rename_i sc' sx sy hcc hx hy
        cases hc
        simp only [acode] at hr
        have hv := cOpd_sound ht hcc
        split at hr
        · rename_i he
          rw [he] at hv
          generalize hq : a.eval c = q at hv
          cases hv
          exact wpIn_cond_true hq (ih x sx hx rd r tm h e tm' h' hr μ a w s ht hrd hmk hB)
        · rename_i he
          rw [he] at hv
          generalize hq : a.eval c = q at hv
          cases hv
          exact wpIn_cond_false hq (ih y sy hy rd r tm h e tm' h' hr μ a w s ht hrd hmk hB)
        · cases hr
      · cases hc
    | block id b =>
      intro sc hc rd r tm h e tm' h' hr μ a w s ht hrd hmk hB
      simp only [cCode, Option.map_eq_some_iff] at hc
      obtain ⟨sb, hb, rfl⟩ := hc
      simp only [acode] at hr
      refine wpIn_block ?_
      split at hr
      · rename_i id' tm₁ h₁ ha
        simp only [Option.some.injEq, Prod.mk.injEq] at hr
        obtain ⟨he, rfl, rfl⟩ := hr
        refine wpIn_mono (ih b sb hb rd r tm h (.exit id') tm₁ h₁ ha μ a w s ht hrd hmk hB) ?_
        rintro e₁ a₁ w₁ ⟨rfl, rest⟩
        simp only [AExit.to, Exit.inBlock]
        subst he
        split
        · exact ⟨rfl, rest⟩
        · exact ⟨rfl, rest⟩
      · rename_i hne
        refine wpIn_mono (ih b sb hb rd r tm h e tm' h' hr μ a w s ht hrd hmk hB) ?_
        rintro e₁ a₁ w₁ ⟨rfl, rest⟩
        cases e with
        | normal => exact ⟨rfl, rest⟩
        | exit id => exact absurd hr (hne _ _ _)
        | ret => exact ⟨rfl, rest⟩
    | loop b =>
      intro sc hc rd r tm h e tm' h' hr μ a w s ht hrd hmk hB
      simp only [cCode, Option.map_eq_some_iff] at hc
      obtain ⟨sb, hb, rfl⟩ := hc
      -- rounds
      have key : ∀ (m : Nat), m ≤ n + 1 → ∀ (tm : List AV) (h : Heap), acode call self rd m (.loop sb) tm h = some (e, tm', h') → ∀ (μ : Mu) (a : Act) (w : World), St P μ h w → Vs μ tm a.tmps.toList → RdR μ rd r → Marks B w a.defers → B ≤ w.heap.size →
          ∀ (Q : Exit → Act → World → Prop), (∀ e' a' w', CodeR P μ h w B e tm' h' e' a' w' → Q e' a' w') → Code.roundsIn (F r) 0 P b Q m a w := by
        intro m
        induction m with
        | zero => intro _ tm h hr; simp [acode] at hr
        | succ m ihm =>
          intro hle tm h hr μ a w s ht hrd hmk hB Q hQ
          simp only [acode] at hr
          rw [roundsIn_succ]
          have ihm' := ihn m (by omega)
          split at hr
          · rename_i tm₁ h₁ ha
            refine wpIn_mono (ihm' b sb hb rd r tm h .normal tm₁ h₁ ha μ a w s ht hrd hmk hB) ?_
            rintro e₁ a₁ w₁ ⟨rfl, μ₁, q1, q2, q3, q4⟩
            simp only [AExit.to, Exit.then]
            exact ihm (by omega) tm₁ h₁ hr μ₁ a₁ w₁ q2 q1 (hrd.mono q3.le) q4 (Nat.le_trans hB q3.size) Q fun e' a' w' hc => hQ e' a' w' (hc.after q3)
          · rename_i hne
            refine wpIn_mono (ihm' b sb hb rd r tm h e tm' h' hr μ a w s ht hrd hmk hB) ?_
            rintro e₁ a₁ w₁ ⟨rfl, rest⟩
            cases e with
            | normal => exact absurd hr (hne _ _)
            | exit id => exact hQ _ _ _ ⟨rfl, rest⟩
            | ret => exact hQ _ _ _ ⟨rfl, rest⟩
      exact wpIn_loop_rounds (n + 1) (key (n + 1) (Nat.le_refl _) tm h hr μ a w s ht hrd hmk hB _ fun _ _ _ hc => hc)
    | exit id =>
      intro sc hc rd r tm h e tm' h' hr μ a w s ht hrd hmk hB
      simp [cCode] at hc; subst hc
      simp [acode] at hr
      obtain ⟨rfl, rfl, rfl⟩ := hr
      exact wpIn_exit ⟨rfl, μ, ht, s, .refl _ _ _, hmk⟩
    | ret =>
      intro sc hc rd r tm h e tm' h' hr μ a w s ht hrd hmk hB
      simp [cCode] at hc; subst hc
      simp [acode] at hr
      obtain ⟨rfl, rfl, rfl⟩ := hr
      exact wpIn_ret ⟨rfl, μ, ht, s, .refl _ _ _, hmk⟩
    | rangeFunc g ps asg body =>
      intro sc hc rd r tm h e tm' h' hr μ a w s ht hrd hmk hB
      simp only [cCode] at hc
      split at hc
      case h_2 => cases hc
      rename_i sg sa sb hg hsa hsb
      cases hc
      simp only [acode] at hr
      split at hr
      case h_2 => cases hr
      rename_i gf first captured hev hrdk
      split at hr
      case h_2 => cases hr
      rename_i v0 h₁ hcl
      split at hr
      case h_2 => cases hr
      rename_i f1 t1 p1 a1 b1 st1 pend hget
      split at hr
      case isTrue => cases hr
      rename_i hbusy
      cases hr
      have hxv := cOpd_sound ht hg
      rw [hev] at hxv
      generalize hq : a.eval g = q at hxv
      cases hxv with | func _ _ _ x' y' v1 v2 =>
      -- what the statement lays
      refine wpIn_rangeFunc fun fn _ => ?_
      -- the record, at an outermost loop and in a round
      have entry : ∃ (l : Nat) (mark : List Deferred) (w₁ : World) (rec : Loop), (Instr.enterLoop fn a.tmps ps asg body r).run P w = .ok (l, mark) (w₁.alloc (.loop rec)) ∧ l = w₁.heap.size ∧
          rec.state = .ready ∧ rec.pending = none ∧ rec.tmps = a.tmps ∧ rec.params = ps ∧ rec.assign = asg ∧ rec.body = body ∧ St P μ h w₁ ∧ Fr μ h w μ h w₁ ∧ Marks B w₁ (mark ++ a.defers) := by
        cases r with
        | none =>
          obtain ⟨s₁, f₁⟩ := s.junk (.deferred (some []))
          refine ⟨w.heap.size + 1, [{ target := .collected w.heap.size, args := #[] }], w.alloc (.deferred (some [])), _, run_enterLoop_outer fn a.tmps ps asg body, by simp, rfl, rfl, rfl, rfl, rfl, rfl, s₁, f₁, ?_⟩
          refine ⟨⟨w.heap.size, rfl, hB, alloc_new w _, fun d' hd' he => ?_⟩, f₁.marks s hmk⟩
          have := hmk.lt d' hd' _ he
          omega
        | some l0 =>
          cases rd with
          | none => exact hrd.elim
          | some id0 =>
            obtain ⟨base, lim, hm0⟩ := hrd
            simp only [rdOk] at hrdk
            split at hrdk
            · rename_i hg0
              obtain ⟨rec0, hl0, _⟩ := loopObj s hm0 hg0
              exact ⟨w.heap.size, [], w, _, run_enterLoop_inner hl0 fn a.tmps ps asg body, rfl, rfl, rfl, rfl, rfl, rfl, rfl, s, .refl _ _ _, hmk⟩
            · cases hrdk
      obtain ⟨l, mark, w₁, rec, hent, hl, e1, e2, e3, e4, e5, e6, s₁, f₁, hmk₁⟩ := entry
      have hobj := allocObj_sim s₁ (.loop self tm ps.toList sa sb .ready .normal) (.loop rec) rfl ⟨rec, alloc_new w₁ _, rfl, by rw [e3]; exact ht.mono (.add (s₁.bd _ (Nat.le_refl _))), by rw [e4], by rw [e5]; exact hsa, by rw [e6]; exact hsb, e1, by rw [e2]; rfl⟩
      obtain ⟨s₂, f₂⟩ := hobj
      have hmu : muAdd μ h.next (w₁.heap.size, 0, 0) h.next = some (w₁.heap.size, 0, 0) := muAdd_same _ _ _
      have hyv : V (muAdd μ h.next (w₁.heap.size, 0, 0)) (.yieldf h.next) (.func (.yield l) #[] #[]) := by rw [hl]; exact .yieldf _ _ _ _ hmu
      have hargs : Vs (muAdd μ h.next (w₁.heap.size, 0, 0)) (first ++ [.yieldf h.next] ++ captured) ((x' ++ #[Value.func (.yield l) #[] #[]]) ++ y').toList := by
        rw [Array.toList_append, Array.toList_append]
        exact ((v1.mono f₂.le).append (.cons _ _ _ _ hyv .nil)).append (v2.mono f₂.le)
      obtain ⟨⟨gfn, hgf, hgb, hgn⟩, hcalls⟩ := hcall.1 gf _ _ v0 h₁ hcl _ _ _ s₂ hargs
      have hgn' : (gfn.name == "runtime.NumGoroutine") = false := beq_eq_false_iff_ne.2 hgn
      refine ⟨l, mark, w₁.alloc (.loop rec), { target := .fn (.func gf) y', args := x' ++ #[Value.func (.yield l) #[] #[]] }, w₁.alloc (.loop rec), gf, (x' ++ #[Value.func (.yield l) #[] #[]]) ++ y', w₁.alloc (.loop rec), hent, ?_, fun f' _ => F_fn r f', ?_, fun hd => by simp [F_depth] at hd, ?_⟩
      · simp only [resolve, rangeCall, hq, Deferred.ofValue, Sem.run_pure]
        simp [Act.eval]
      · simp only [invoke, callFunc, Sem.run_bind, run_program, Result.andThen_ok, hgf, hgn', hgb, Bool.false_eq_true, if_false]
        rfl
      · refine (calls_F r 0 hcalls).mono fun en w₃ hR => ?_
        obtain ⟨μ₃, v', rfl, hv', s₃, f₃⟩ := hR
        have hm₃ := f₃.le _ _ hmu
        obtain ⟨rec₃, hl₃, q1, q2, q3, q4, q5, q6⟩ := loopObj s₃ hm₃ hget
        have hput := loopPut s₃ hm₃ hget rec₃ hl₃ f1 .exhausted e { rec₃ with state := .exhausted } rfl rfl rfl rfl rfl q6
        have hne : rec₃.state ≠ .busy := by rw [q5]; exact hbusy
        have hend := run_endLoop (P := P) hl₃ hne
        have fall : Fr μ h w μ₃ (h₁.set h.next (.loop f1 t1 p1 a1 b1 .exhausted e)) (w₃.putObj w₁.heap.size (.loop { rec₃ with state := .exhausted })) := f₁.trans (f₂.trans (f₃.trans hput.2))
        have mall : Marks B (w₃.putObj w₁.heap.size (.loop { rec₃ with state := .exhausted })) (mark ++ a.defers) := (f₂.trans (f₃.trans hput.2)).marks s₁ hmk₁
        have hpost : CodeR P μ h w B e tm (h₁.set h.next (.loop f1 t1 p1 a1 b1 .exhausted e)) e.to { a with defers := mark ++ a.defers } (w₃.putObj w₁.heap.size (.loop { rec₃ with state := .exhausted })) :=
          ⟨rfl, μ₃, ht.mono fall.le, hput.1, fall, mall⟩
        refine ⟨rec₃.pending, w₃.putObj w₁.heap.size (.loop { rec₃ with state := .exhausted }), by rw [hl]; exact hend, ?_⟩
        rw [q6] at hpost ⊢
        cases e with
        | normal => exact hpost
        | exit id => exact wpIn_exit hpost
        | ret => exact wpIn_ret hpost
    | _ => intro sc hc; simp [cCode] at hc
end
end Go.Ya
namespace Go.Ya
set_option linter.unusedVariables false
set_option linter.unusedSimpArgs false
def Conv (P : Program) (SP : FuncId → Option SFunc) : Prop := ∀ f sf, SP f = some sf → ∃ fn, P.funcs[f]? = some fn ∧ cFunc P fn = some sf
section
variable {P : Program} {μ : Mu} {h : Heap} {w : World}
def resM (tmps : Array Value) : ResultVar → Sem Value
  | .tmp t => pure (tmps.getD t undef)
  | .cell a t => do loadVar t (← asAddr (tmps.getD a undef))
theorem res_sim (s : St P μ h w) {tm : List AV} {tmps : Array Value} (ht : Vs μ tm tmps.toList) : ∀ (rs : List ResultVar) (srs : List SRes) (vs : List AV), cRess P rs = some srs → resA tm h srs = some vs →
    ∃ vs', (rs.mapM (resM tmps)).run P w = .ok vs' w ∧ Vs μ vs vs'
  | [], srs, vs, e1, e2 => by
    simp [cRess] at e1; subst e1
    simp [resA] at e2; subst e2
    exact ⟨[], by simp, .nil⟩
  | r :: rs, srs, vs, e1, e2 => by
    have hgd : ∀ t, V μ (tm.getD t undefA) (tmps.getD t undef) := fun t => by
      have := ht.getD t
      simpa [Array.getD_eq_getD_getElem?, List.getD_eq_getElem?_getD] using this
    simp only [cRess] at e1
    split at e1
    · rename_i sr l hsr hl
      cases e1
      cases r with
      | tmp t =>
        simp [cRes] at hsr; subst hsr
        simp only [resA, Option.map_eq_some_iff] at e2
        obtain ⟨vs2, he, rfl⟩ := e2
        obtain ⟨vs', h1, h2⟩ := res_sim s ht rs l vs2 hl he
        refine ⟨tmps.getD t undef :: vs', ?_, .cons _ _ _ _ (hgd t) h2⟩
        simp only [List.mapM_cons, resM, Sem.run_bind, Sem.run_pure, Result.andThen_ok, h1]
      | cell a t =>
        simp only [cRes] at hsr
        split at hsr
        · rename_i b n hb hn
          cases hsr
          simp only [resA] at e2
          have hav := hgd a
          split at e2
          · rename_i id off he
            rw [he] at hav
            generalize hq : tmps.getD a undef = q at hav
            cases hav with | ptr _ _ bb base lim hm =>
            split at e2
            · rename_i v hv
              simp only [Option.map_eq_some_iff] at e2
              obtain ⟨vs2, he2, rfl⟩ := e2
              obtain ⟨vs', h1, h2⟩ := res_sim s ht rs l vs2 hl he2
              obtain ⟨v', hrun, hvv⟩ := loadA_sim s hm hv hb hn
              refine ⟨v' :: vs', ?_, .cons _ _ _ _ hvv h2⟩
              simp only [List.mapM_cons, resM, Sem.run_bind, hq, asAddr, Sem.run_pure, Result.andThen_ok, hrun, h1]
            · cases e2
          · cases e2
        · cases hsr
    · cases e1
theorem results_sim (s : St P μ h w) {tm : List AV} {a : Act} (ht : Vs μ tm a.tmps.toList) {fn : Func} {srs : List SRes} {vs : List AV} (e1 : cRess P fn.results.toList = some srs) (e2 : resA tm h srs = some vs) :
    ∃ v', (results fn a.tmps).run P w = .ok v' w ∧ V μ (tupA vs) v' := by
  obtain ⟨vs', h1, h2⟩ := res_sim s ht _ _ _ e1 e2
  have hrun : (fn.results.mapM (resM a.tmps)).run P w = .ok vs'.toArray w := by
    rw [Array.mapM_eq_mapM_toList, Sem.run_map, h1]; rfl
  have hdef : results fn a.tmps = (fn.results.mapM (resM a.tmps) >>= fun vs => pure (if h : vs.size = 1 then vs[0] else .tuple vs)) := rfl
  refine ⟨if h : vs'.toArray.size = 1 then vs'.toArray[0] else .tuple vs'.toArray, ?_, ?_⟩
  · rw [hdef, Sem.run_bind, hrun]; rfl
  · cases h2 with
    | nil => exact .tuple _ _ .nil
    | cons x v xs vs1 q1 q2 =>
      cases q2 with
      | nil => simpa [tupA] using q1
      | cons y u ys vs2 q3 q4 =>
        simp only [tupA]
        rw [dif_neg (by simp)]
        exact .tuple _ _ (.cons _ _ _ _ q1 (.cons _ _ _ _ q3 q4))
theorem leaves_marks {fn : Func} {tmps : Array Value} {R : Ending → World → Prop} {B : Nat} : ∀ (ds : List Deferred) (h : Heap) (μ : Mu) (w : World), Marks B w ds → St P μ h w →
    (∀ w', St P μ h w' → w'.heap.size = w.heap.size → w'.os = w.os → w'.tape = w.tape → w'.output = w.output → (∀ b, b < B → w'.heap[b]? = w.heap[b]?) → ∃ v, (results fn tmps).run P w' = .ok v w' ∧ R (.returned v) w') →
    LeavesInM Fence.wide 0 P fn tmps R ds .returning w
  | [], h, μ, w, _, s, hres => by
    obtain ⟨v, h1, h2⟩ := hres w s rfl rfl rfl rfl fun _ _ => rfl
    exact ⟨v, h1, h2⟩
  | d :: ds, h, μ, w, hm, s, hres => by
    obtain ⟨⟨r, h1, h2, h3, h4⟩, hms⟩ := hm
    have htake := run_takeDeferred (P := P) h3
    refine ⟨by simp, .inl ⟨r, _, h1, htake, ?_⟩⟩
    refine leaves_marks ds h μ _ ?_ (s.shut h3 _) fun w' s' q1 q2 q3 q4 q5 => hres w' s' (by rw [q1]; simp) q2 q3 q4 fun b hb => by
      rw [q5 b hb, World.putObj_heap_other (by omega)]
    -- the other marks are other blocks
    have key : ∀ (ds : List Deferred), Marks B w ds → (∀ d' ∈ ds, d'.target ≠ .collected r) → Marks B (w.putObj r (.deferred none)) ds := by
      intro ds
      induction ds with
      | nil => intro _ _; trivial
      | cons d' ds ih =>
        rintro ⟨⟨r', k1, k2, k3, k4⟩, kk⟩ hne
        have : r' ≠ r := fun e => hne d' List.mem_cons_self (by rw [k1, e])
        exact ⟨⟨r', k1, k2, by rw [World.putObj_heap_other this]; exact k3, k4⟩, ih kk fun d'' hd => hne d'' (List.mem_cons_of_mem _ hd)⟩
    exact key ds hms h4
theorem zip_sim : ∀ (ps : List Nat) (args : List AV) (args' : List Value) (tm : List AV) (tmps : Array Value) (tm' : List AV), zipSet tm ps args = some tm' → Vs μ tm tmps.toList → Vs μ args args' →
    ps.length = args'.length ∧ Vs μ tm' ((ps.zip args').foldl (fun (tmps : Array Value) (p : Nat × Value) => tmps.setIfInBounds p.1 p.2) tmps).toList
  | [], args, args', tm, tmps, tm', e, ht, ha => by
    cases ha with
    | nil => simp [zipSet] at e; subst e; exact ⟨rfl, ht⟩
    | cons => simp [zipSet] at e
  | p :: ps, args, args', tm, tmps, tm', e, ht, ha => by
    cases ha with
    | nil => simp [zipSet] at e
    | cons a v as vs h1 h2 =>
      simp only [zipSet] at e
      obtain ⟨q1, q2⟩ := zip_sim ps as vs (tm.set p a) (tmps.setIfInBounds p v) tm' e (by rw [Array.toList_setIfInBounds]; exact ht.set p h1) h2
      exact ⟨by simp [q1], by simpa using q2⟩
def XOk (P : Program) (X : Known) : Prop := ∀ f args h v h', X f args h = some (v, h') → ∀ μ w (args' : Array Value), St P μ h w → Vs μ args args'.toList →
    (∃ fn, P.funcs[f]? = some fn ∧ fn.body.isNone = false ∧ fn.name ≠ "runtime.NumGoroutine") ∧ Calls P f args' w (RetR P μ h w v h')
theorem XOk.none (P : Program) : XOk P fun _ _ _ => Option.none := fun _ _ _ _ _ e => by cases e
theorem acall_sim {X : Known} (hX : XOk P X) {SP : FuncId → Option SFunc} (hSP : Conv P SP) (hdraw : ∀ call, SimCall P call → SimDraw P call) : ∀ n, SimCall P (acall X SP n) := by
  intro n
  induction n with
  | zero => exact ⟨fun f args h v h' hr => by simp [acall] at hr, fun id args h v h' hr => by simp [acall] at hr⟩
  | succ n ih =>
    have hd := hdraw _ ih
    refine ⟨fun f args h v h' hr μ w args' s ha => ?_, fun id args h v h' hr μ w args' b base lim s ha hm => ?_⟩
    · simp only [acall] at hr
      cases hx : X f args h with
      | some r =>
        rw [hx] at hr
        cases hr
        exact hX f args h v h' hx μ w args' s ha
      | none =>
      rw [hx] at hr
      simp only at hr
      cases hsf : SP f with
      | none => rw [hsf] at hr; cases hr
      | some sf =>
      rw [hsf] at hr
      simp only at hr
      obtain ⟨fn, hf, hcf⟩ := hSP f sf hsf
      unfold cFunc at hcf
      split at hcf
      · cases hcf
      · rename_i body hb
        split at hcf
        · rename_i sc srs hsc hsrs
          split at hcf
          · cases hcf
          · rename_i hnm
            cases hcf
            refine ⟨⟨fn, hf, by simp [hb], hnm⟩, ?_⟩
            refine callsIn_wide.1 (callsIn_of_wp_marks (n := 0) hf hb trivial ?_)
            have hargs : Vs μ (args ++ List.replicate (fn.ntmps - args.length) undefA) (args' ++ Array.replicate (fn.ntmps - args'.size) undef).toList := by
              have hl := ha.len
              simp only [Array.length_toList] at hl
              rw [Array.toList_append, Array.toList_replicate, hl]
              exact ha.append (.replicate _ (.tuple [] #[] .nil))
            -- what is asked behind the body
            have fin : ∀ e tm' h₁, (e = .normal ∨ e = .ret) → (resA tm' h₁ srs).map (fun vs => (tupA vs, h₁)) = some (v, h') → acode (acall X SP n) f none n sc (args ++ List.replicate (fn.ntmps - args.length) undefA) h = some (e, tm', h₁) →
                body.wpIn Fence.wide 0 P (bodyPostM Fence.wide 0 P fn (RetR P μ h w v h')) { tmps := args' ++ Array.replicate (fn.ntmps - args'.size) undef, defers := [] } w := by
              intro e tm' h₁ he hres hac
              simp only [Option.map_eq_some_iff] at hres
              obtain ⟨vs, hvs, hvv⟩ := hres
              cases hvv
              have := acode_sim ih hd f w.heap.size n body sc hsc none none _ h e tm' h' hac μ { tmps := args' ++ Array.replicate (fn.ntmps - args'.size) undef, defers := [] } w s hargs trivial trivial (Nat.le_refl _)
              refine wpIn_mono this ?_
              rintro e₁ a₁ w₁ ⟨rfl, μ₁, q1, q2, q3, q4⟩
              have hlv : LeavesInM Fence.wide 0 P fn a₁.tmps (RetR P μ h w (tupA vs) h') a₁.defers .returning w₁ := by
                refine leaves_marks a₁.defers h' μ₁ w₁ q4 q2 fun w' s' k1 k2 k3 k4 k5 => ?_
                obtain ⟨v', r1, r2⟩ := results_sim s' q1 hsrs hvs
                refine ⟨v', r1, μ₁, v', rfl, r2, s', ⟨q3.le, by rw [k1]; exact q3.size, k2.trans q3.os, k3.trans q3.tape, k4.trans q3.output, fun b hb hn => ?_, q3.own, q3.nx, q3.dom⟩⟩
                rw [k5 b hb]; exact q3.same b hb hn
              rcases he with rfl | rfl <;> exact hlv
            split at hr
            · rename_i tm' h₁ hac
              exact fin .normal _ _ (.inl rfl) hr hac
            · rename_i tm' h₁ hac
              exact fin .ret _ _ (.inr rfl) hr hac
            · cases hr
        · cases hcf
    · simp only [acall] at hr
      split at hr
      case h_2 => cases hr
      rename_i f tmps params asg body pe0 hg
      split at hr
      case h_1 => cases hr
      rename_i tm hz
      split at hr
      case h_2 => cases hr
      rename_i tm₁ h₁ hasg
      split at hr
      case h_2 => cases hr
      rename_i f1 t1 p1 a1 b1 pe1 hg1
      split at hr
      case h_2 => cases hr
      rename_i e tm₂ h₂ hbody
      split at hr
      case h_2 => cases hr
      rename_i f2 t2 p2 a2 b2 st2 pe2 hg2
      obtain ⟨rec, hl, r1, r2, r3, r4, r5, r6⟩ := loopObj s hm hg
      obtain ⟨z1, z2⟩ := zip_sim params args args'.toList tmps rec.tmps tm hz r1 ha
      have hsz : args'.size = rec.params.size := by
        have : rec.params.toList.length = args'.toList.length := by rw [r2]; exact z1
        simpa using this.symm
      have hy := run_yield (P := P) hl hsz
      refine ⟨rec.fn, _, rec.assign, rec.body, hy, ?_⟩
      have htm : Vs μ tm ((rec.params.zip args').foldl (fun tmps (t, a) => tmps.setIfInBounds t a) rec.tmps).toList := by
        have : (rec.params.zip args').foldl (fun tmps (t, a) => tmps.setIfInBounds t a) rec.tmps = (params.zip args'.toList).foldl (fun (tmps : Array Value) (p : Nat × Value) => tmps.setIfInBounds p.1 p.2) rec.tmps := by
          rw [← Array.foldl_toList, Array.toList_zip, r2]
        rw [this]; exact z2
      refine roundIn_of_wpIn trivial ?_
      have hrd : RdR μ (some id) (some b) := ⟨base, lim, hm⟩
      have hA := acode_sim ih hd f w.heap.size n rec.assign asg r3 (some id) (some b) tm h .normal tm₁ h₁ hasg μ { tmps := (rec.params.zip args').foldl (fun tmps (t, a) => tmps.setIfInBounds t a) rec.tmps, defers := [] } w s htm hrd trivial (Nat.le_refl _)
      refine wpIn_mono (F := Fence.wide.inRound b) hA ?_
      rintro e₁ ac₁ w₁ ⟨rfl, μ₁, q1, q2, q3, q4⟩
      simp only [AExit.to, Exit.then]
      have hm₁ := q3.le _ _ hm
      obtain ⟨rec1, hl1, t1', t2', t3', t4', t5', t6'⟩ := loopObj q2 hm₁ hg1
      have hput := loopPut q2 hm₁ hg1 rec1 hl1 f1 .busy pe1 { rec1 with state := .busy } rfl rfl rfl rfl rfl t6'
      refine ⟨_, run_beginRound hl1 t5', ?_⟩
      have hrd₁ : RdR μ₁ (some id) (some b) := ⟨base, lim, hm₁⟩
      have hB := acode_sim ih hd f w.heap.size n rec.body body r4 (some id) (some b) tm₁ (h₁.set id (.loop f1 t1 p1 a1 b1 .busy pe1)) e tm₂ h₂ hbody μ₁ { tmps := ac₁.tmps, defers := ac₁.defers } _ hput.1 q1 hrd₁ (hput.2.marks q2 q4) (by simpa using q3.size)
      refine wpIn_mono (F := Fence.wide.inRound b) hB ?_
      rintro e₂ ac₂ w₂ ⟨rfl, μ₂, u1, u2, u3, u4⟩
      have hm₂ := u3.le _ _ hm₁
      obtain ⟨rec2, hl2, _, _, _, _, _, _⟩ := loopObj u2 hm₂ hg2
      have fall := q3.trans (hput.2.trans u3)
      have done : ∀ (jump : Option Code), jump = e.jump → some (if e = .normal then (.bool true, h₂.set id (.loop f2 t2 p2 a2 b2 .ready .normal)) else (.bool false, h₂.set id (.loop f2 t2 p2 a2 b2 .done e))) = some (v, h') →
          ∃ v' w', (Instr.endRound b jump).run P w₂ = .ok v' w' ∧ RetR P μ h w v h' (.returned v') w' := by
        intro jump hj hv
        have hput2 := fun st pe (hp : pe.jump = jump) => loopPut u2 hm₂ hg2 rec2 hl2 f2 st pe { rec2 with state := st, pending := jump } rfl rfl rfl rfl rfl hp.symm
        refine ⟨_, _, run_endRound jump hl2, ?_⟩
        subst hj
        cases e with
        | normal =>
          simp only [if_true, Option.some.injEq, Prod.mk.injEq] at hv
          obtain ⟨rfl, rfl⟩ := hv
          have := hput2 .ready .normal rfl
          exact ⟨μ₂, _, rfl, .bool true, this.1, fall.trans this.2⟩
        | exit k =>
          simp only [reduceCtorEq, if_false, Option.some.injEq, Prod.mk.injEq] at hv
          obtain ⟨rfl, rfl⟩ := hv
          have := hput2 .done (.exit k) rfl
          exact ⟨μ₂, _, rfl, .bool false, this.1, fall.trans this.2⟩
        | ret =>
          simp only [reduceCtorEq, if_false, Option.some.injEq, Prod.mk.injEq] at hv
          obtain ⟨rfl, rfl⟩ := hv
          have := hput2 .done .ret rfl
          exact ⟨μ₂, _, rfl, .bool false, this.1, fall.trans this.2⟩
      have hr' : some (if e = .normal then (AV.bool true, h₂.set id (.loop f2 t2 p2 a2 b2 .ready .normal)) else (.bool false, h₂.set id (.loop f2 t2 p2 a2 b2 .done e))) = some (v, h') := by
        rw [← hr]; split <;> rfl
      cases e with
      | normal => exact done none rfl hr'
      | exit k => exact done (some (.exit k)) rfl hr'
      | ret => exact done (some .ret) rfl hr'
end
end Go.Ya
