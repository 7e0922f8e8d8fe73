/-
  Calls: the abstract call, whatever its depth, is the model's.
-/
import Derived.Test.YtekbgdmemenheaaYaCode
namespace Go.Ya
set_option linter.unusedVariables false
set_option linter.unusedSimpArgs false

/-- The abstract program is the conversion of the loaded one. -/
def Conv (P : Program) (SP : FuncId → Option SFunc) : Prop := ∀ f sf, SP f = some sf → ∃ fn, P.funcs[f]? = some fn ∧ cFunc P fn = some sf

section
variable {P : Program} {μ : Mu} {h : Heap} {w : World}

def resM (tmps : Array Value) : ResultVar → Sem Value
  | .tmp t => pure (tmps.getD t undef)
  | .cell a t => do loadVar t (← asAddr (tmps.getD a undef))

theorem res_sim (s : St P μ h w) {tm : List AV} {tmps : Array Value} (ht : Vs μ tm tmps.toList) : ∀ (rs : List ResultVar) (srs : List SRes) (vs : List AV), cRess P rs = some srs → resA tm h srs = some vs →
    ∃ vs', (rs.mapM (resM tmps)).run P w = .ok vs' w ∧ Vs μ vs vs'
  | [], srs, vs, e1, e2 => by
    simp [cRess] at e1; subst e1
    simp [resA] at e2; subst e2
    exact ⟨[], by simp, .nil⟩
  | r :: rs, srs, vs, e1, e2 => by
    have hgd : ∀ t, V μ (tm.getD t undefA) (tmps.getD t undef) := fun t => by
      have := ht.getD t
      simpa [Array.getD_eq_getD_getElem?, List.getD_eq_getElem?_getD] using this
    simp only [cRess] at e1
    split at e1
    · rename_i sr l hsr hl
      cases e1
      cases r with
      | tmp t =>
        simp [cRes] at hsr; subst hsr
        simp only [resA, Option.map_eq_some_iff] at e2
        obtain ⟨vs2, he, rfl⟩ := e2
        obtain ⟨vs', h1, h2⟩ := res_sim s ht rs l vs2 hl he
        refine ⟨tmps.getD t undef :: vs', ?_, .cons _ _ _ _ (hgd t) h2⟩
        simp only [List.mapM_cons, resM, Sem.run_bind, Sem.run_pure, Result.andThen_ok, h1]
      | cell a t =>
        simp only [cRes] at hsr
        split at hsr
        · rename_i b n hb hn
          cases hsr
          simp only [resA] at e2
          have hav := hgd a
          split at e2
          · rename_i id off he
            rw [he] at hav
            generalize hq : tmps.getD a undef = q at hav
            cases hav with | ptr _ _ bb base lim hm =>
            split at e2
            · rename_i v hv
              simp only [Option.map_eq_some_iff] at e2
              obtain ⟨vs2, he2, rfl⟩ := e2
              obtain ⟨vs', h1, h2⟩ := res_sim s ht rs l vs2 hl he2
              obtain ⟨v', hrun, hvv⟩ := loadA_sim s hm hv hb hn
              refine ⟨v' :: vs', ?_, .cons _ _ _ _ hvv h2⟩
              simp only [List.mapM_cons, resM, Sem.run_bind, hq, asAddr, Sem.run_pure, Result.andThen_ok, hrun, h1]
            · cases e2
          · cases e2
        · cases hsr
    · cases e1

theorem results_sim (s : St P μ h w) {tm : List AV} {a : Act} (ht : Vs μ tm a.tmps.toList) {fn : Func} {srs : List SRes} {vs : List AV} (e1 : cRess P fn.results.toList = some srs) (e2 : resA tm h srs = some vs) :
    ∃ v', (results fn a.tmps).run P w = .ok v' w ∧ V μ (tupA vs) v' := by
  obtain ⟨vs', h1, h2⟩ := res_sim s ht _ _ _ e1 e2
  have hrun : (fn.results.mapM (resM a.tmps)).run P w = .ok vs'.toArray w := by
    rw [Array.mapM_eq_mapM_toList, Sem.run_map, h1]; rfl
  have hdef : results fn a.tmps = (fn.results.mapM (resM a.tmps) >>= fun vs => pure (if h : vs.size = 1 then vs[0] else .tuple vs)) := rfl
  refine ⟨if h : vs'.toArray.size = 1 then vs'.toArray[0] else .tuple vs'.toArray, ?_, ?_⟩
  · rw [hdef, Sem.run_bind, hrun]; rfl
  · cases h2 with
    | nil => exact .tuple _ _ .nil
    | cons x v xs vs1 q1 q2 =>
      cases q2 with
      | nil => simpa [tupA] using q1
      | cons y u ys vs2 q3 q4 =>
        simp only [tupA]
        rw [dif_neg (by simp)]
        exact .tuple _ _ (.cons _ _ _ _ q1 (.cons _ _ _ _ q3 q4))

/-- On the way out: the marks are come to. -/
theorem leaves_marks {fn : Func} {tmps : Array Value} {R : Ending → World → Prop} {B : Nat} : ∀ (ds : List Deferred) (h : Heap) (μ : Mu) (w : World), Marks B w ds → St P μ h w →
    (∀ w', St P μ h w' → w'.heap.size = w.heap.size → w'.os = w.os → w'.tape = w.tape → w'.output = w.output → (∀ b, b < B → w'.heap[b]? = w.heap[b]?) → ∃ v, (results fn tmps).run P w' = .ok v w' ∧ R (.returned v) w') →
    LeavesInM Fence.wide 0 P fn tmps R ds .returning w
  | [], h, μ, w, _, s, hres => by
    obtain ⟨v, h1, h2⟩ := hres w s rfl rfl rfl rfl fun _ _ => rfl
    exact ⟨v, h1, h2⟩
  | d :: ds, h, μ, w, hm, s, hres => by
    obtain ⟨⟨r, h1, h2, h3, h4⟩, hms⟩ := hm
    have htake := run_takeDeferred (P := P) h3
    refine ⟨by simp, .inl ⟨r, _, h1, htake, ?_⟩⟩
    refine leaves_marks ds h μ _ ?_ (s.shut h3 _) fun w' s' q1 q2 q3 q4 q5 => hres w' s' (by rw [q1]; simp) q2 q3 q4 fun b hb => by
      rw [q5 b hb, World.putObj_heap_other (by omega)]
    -- the other marks are other blocks
    have key : ∀ (ds : List Deferred), Marks B w ds → (∀ d' ∈ ds, d'.target ≠ .collected r) → Marks B (w.putObj r (.deferred none)) ds := by
      intro ds
      induction ds with
      | nil => intro _ _; trivial
      | cons d' ds ih =>
        rintro ⟨⟨r', k1, k2, k3, k4⟩, kk⟩ hne
        have : r' ≠ r := fun e => hne d' List.mem_cons_self (by rw [k1, e])
        exact ⟨⟨r', k1, k2, by rw [World.putObj_heap_other this]; exact k3, k4⟩, ih kk fun d'' hd => hne d'' (List.mem_cons_of_mem _ hd)⟩
    exact key ds hms h4

theorem zip_sim : ∀ (ps : List Nat) (args : List AV) (args' : List Value) (tm : List AV) (tmps : Array Value) (tm' : List AV), zipSet tm ps args = some tm' → Vs μ tm tmps.toList → Vs μ args args' →
    ps.length = args'.length ∧ Vs μ tm' ((ps.zip args').foldl (fun (tmps : Array Value) (p : Nat × Value) => tmps.setIfInBounds p.1 p.2) tmps).toList
  | [], args, args', tm, tmps, tm', e, ht, ha => by
    cases ha with
    | nil => simp [zipSet] at e; subst e; exact ⟨rfl, ht⟩
    | cons => simp [zipSet] at e
  | p :: ps, args, args', tm, tmps, tm', e, ht, ha => by
    cases ha with
    | nil => simp [zipSet] at e
    | cons a v as vs h1 h2 =>
      simp only [zipSet] at e
      obtain ⟨q1, q2⟩ := zip_sim ps as vs (tm.set p a) (tmps.setIfInBounds p v) tm' e (by rw [Array.toList_setIfInBounds]; exact ht.set p h1) h2
      exact ⟨by simp [q1], by simpa using q2⟩

/-- What is known holds. -/
def XOk (P : Program) (X : Known) : Prop := ∀ f args h v h', X f args h = some (v, h') → ∀ μ w (args' : Array Value), St P μ h w → Vs μ args args'.toList →
    (∃ fn, P.funcs[f]? = some fn ∧ fn.body.isNone = false ∧ fn.name ≠ "runtime.NumGoroutine") ∧ Calls P f args' w (RetR P μ h w v h')
theorem XOk.none (P : Program) : XOk P fun _ _ _ => Option.none := fun _ _ _ _ _ e => by cases e

theorem acall_sim {X : Known} (hX : XOk P X) {SP : FuncId → Option SFunc} (hSP : Conv P SP) (hdraw : ∀ call, SimCall P call → SimDraw P call) : ∀ n, SimCall P (acall X SP n) := by
  intro n
  induction n with
  | zero => exact ⟨fun f args h v h' hr => by simp [acall] at hr, fun id args h v h' hr => by simp [acall] at hr⟩
  | succ n ih =>
    have hd := hdraw _ ih
    refine ⟨fun f args h v h' hr μ w args' s ha => ?_, fun id args h v h' hr μ w args' b base lim s ha hm => ?_⟩
    · simp only [acall] at hr
      cases hx : X f args h with
      | some r =>
        rw [hx] at hr
        cases hr
        exact hX f args h v h' hx μ w args' s ha
      | none =>
      rw [hx] at hr
      simp only at hr
      cases hsf : SP f with
      | none => rw [hsf] at hr; cases hr
      | some sf =>
      rw [hsf] at hr
      simp only at hr
      obtain ⟨fn, hf, hcf⟩ := hSP f sf hsf
      unfold cFunc at hcf
      split at hcf
      · cases hcf
      · rename_i body hb
        split at hcf
        · rename_i sc srs hsc hsrs
          split at hcf
          · cases hcf
          · rename_i hnm
            cases hcf
            refine ⟨⟨fn, hf, by simp [hb], hnm⟩, ?_⟩
            refine callsIn_wide.1 (callsIn_of_wp_marks (n := 0) hf hb trivial ?_)
            have hargs : Vs μ (args ++ List.replicate (fn.ntmps - args.length) undefA) (args' ++ Array.replicate (fn.ntmps - args'.size) undef).toList := by
              have hl := ha.len
              simp only [Array.length_toList] at hl
              rw [Array.toList_append, Array.toList_replicate, hl]
              exact ha.append (.replicate _ (.tuple [] #[] .nil))
            -- what is asked behind the body
            have fin : ∀ e tm' h₁, (e = .normal ∨ e = .ret) → (resA tm' h₁ srs).map (fun vs => (tupA vs, h₁)) = some (v, h') → acode (acall X SP n) f none n sc (args ++ List.replicate (fn.ntmps - args.length) undefA) h = some (e, tm', h₁) →
                body.wpIn Fence.wide 0 P (bodyPostM Fence.wide 0 P fn (RetR P μ h w v h')) { tmps := args' ++ Array.replicate (fn.ntmps - args'.size) undef, defers := [] } w := by
              intro e tm' h₁ he hres hac
              simp only [Option.map_eq_some_iff] at hres
              obtain ⟨vs, hvs, hvv⟩ := hres
              cases hvv
              have := acode_sim ih hd f w.heap.size n body sc hsc none none _ h e tm' h' hac μ { tmps := args' ++ Array.replicate (fn.ntmps - args'.size) undef, defers := [] } w s hargs trivial trivial (Nat.le_refl _)
              refine wpIn_mono this ?_
              rintro e₁ a₁ w₁ ⟨rfl, μ₁, q1, q2, q3, q4⟩
              have hlv : LeavesInM Fence.wide 0 P fn a₁.tmps (RetR P μ h w (tupA vs) h') a₁.defers .returning w₁ := by
                refine leaves_marks a₁.defers h' μ₁ w₁ q4 q2 fun w' s' k1 k2 k3 k4 k5 => ?_
                obtain ⟨v', r1, r2⟩ := results_sim s' q1 hsrs hvs
                refine ⟨v', r1, μ₁, v', rfl, r2, s', ⟨q3.le, by rw [k1]; exact q3.size, k2.trans q3.os, k3.trans q3.tape, k4.trans q3.output, fun b hb hn => ?_, q3.own, q3.nx, q3.dom⟩⟩
                rw [k5 b hb]; exact q3.same b hb hn
              rcases he with rfl | rfl <;> exact hlv
            split at hr
            · rename_i tm' h₁ hac
              exact fin .normal _ _ (.inl rfl) hr hac
            · rename_i tm' h₁ hac
              exact fin .ret _ _ (.inr rfl) hr hac
            · cases hr
        · cases hcf
    · simp only [acall] at hr
      split at hr
      case h_2 => cases hr
      rename_i f tmps params asg body pe0 hg
      split at hr
      case h_1 => cases hr
      rename_i tm hz
      split at hr
      case h_2 => cases hr
      rename_i tm₁ h₁ hasg
      split at hr
      case h_2 => cases hr
      rename_i f1 t1 p1 a1 b1 pe1 hg1
      split at hr
      case h_2 => cases hr
      rename_i e tm₂ h₂ hbody
      split at hr
      case h_2 => cases hr
      rename_i f2 t2 p2 a2 b2 st2 pe2 hg2
      obtain ⟨rec, hl, r1, r2, r3, r4, r5, r6⟩ := loopObj s hm hg
      obtain ⟨z1, z2⟩ := zip_sim params args args'.toList tmps rec.tmps tm hz r1 ha
      have hsz : args'.size = rec.params.size := by
        have : rec.params.toList.length = args'.toList.length := by rw [r2]; exact z1
        simpa using this.symm
      have hy := run_yield (P := P) hl hsz
      refine ⟨rec.fn, _, rec.assign, rec.body, hy, ?_⟩
      have htm : Vs μ tm ((rec.params.zip args').foldl (fun tmps (t, a) => tmps.setIfInBounds t a) rec.tmps).toList := by
        have : (rec.params.zip args').foldl (fun tmps (t, a) => tmps.setIfInBounds t a) rec.tmps = (params.zip args'.toList).foldl (fun (tmps : Array Value) (p : Nat × Value) => tmps.setIfInBounds p.1 p.2) rec.tmps := by
          rw [← Array.foldl_toList, Array.toList_zip, r2]
        rw [this]; exact z2
      refine roundIn_of_wpIn trivial ?_
      have hrd : RdR μ (some id) (some b) := ⟨base, lim, hm⟩
      have hA := acode_sim ih hd f w.heap.size n rec.assign asg r3 (some id) (some b) tm h .normal tm₁ h₁ hasg μ { tmps := (rec.params.zip args').foldl (fun tmps (t, a) => tmps.setIfInBounds t a) rec.tmps, defers := [] } w s htm hrd trivial (Nat.le_refl _)
      refine wpIn_mono (F := Fence.wide.inRound b) hA ?_
      rintro e₁ ac₁ w₁ ⟨rfl, μ₁, q1, q2, q3, q4⟩
      simp only [AExit.to, Exit.then]
      have hm₁ := q3.le _ _ hm
      obtain ⟨rec1, hl1, t1', t2', t3', t4', t5', t6'⟩ := loopObj q2 hm₁ hg1
      have hput := loopPut q2 hm₁ hg1 rec1 hl1 f1 .busy pe1 { rec1 with state := .busy } rfl rfl rfl rfl rfl t6'
      refine ⟨_, run_beginRound hl1 t5', ?_⟩
      have hrd₁ : RdR μ₁ (some id) (some b) := ⟨base, lim, hm₁⟩
      have hB := acode_sim ih hd f w.heap.size n rec.body body r4 (some id) (some b) tm₁ (h₁.set id (.loop f1 t1 p1 a1 b1 .busy pe1)) e tm₂ h₂ hbody μ₁ { tmps := ac₁.tmps, defers := ac₁.defers } _ hput.1 q1 hrd₁ (hput.2.marks q2 q4) (by simpa using q3.size)
      refine wpIn_mono (F := Fence.wide.inRound b) hB ?_
      rintro e₂ ac₂ w₂ ⟨rfl, μ₂, u1, u2, u3, u4⟩
      have hm₂ := u3.le _ _ hm₁
      obtain ⟨rec2, hl2, _, _, _, _, _, _⟩ := loopObj u2 hm₂ hg2
      have fall := q3.trans (hput.2.trans u3)
      have done : ∀ (jump : Option Code), jump = e.jump → some (if e = .normal then (.bool true, h₂.set id (.loop f2 t2 p2 a2 b2 .ready .normal)) else (.bool false, h₂.set id (.loop f2 t2 p2 a2 b2 .done e))) = some (v, h') →
          ∃ v' w', (Instr.endRound b jump).run P w₂ = .ok v' w' ∧ RetR P μ h w v h' (.returned v') w' := by
        intro jump hj hv
        have hput2 := fun st pe (hp : pe.jump = jump) => loopPut u2 hm₂ hg2 rec2 hl2 f2 st pe { rec2 with state := st, pending := jump } rfl rfl rfl rfl rfl hp.symm
        refine ⟨_, _, run_endRound jump hl2, ?_⟩
        subst hj
        cases e with
        | normal =>
          simp only [if_true, Option.some.injEq, Prod.mk.injEq] at hv
          obtain ⟨rfl, rfl⟩ := hv
          have := hput2 .ready .normal rfl
          exact ⟨μ₂, _, rfl, .bool true, this.1, fall.trans this.2⟩
        | exit k =>
          simp only [reduceCtorEq, if_false, Option.some.injEq, Prod.mk.injEq] at hv
          obtain ⟨rfl, rfl⟩ := hv
          have := hput2 .done (.exit k) rfl
          exact ⟨μ₂, _, rfl, .bool false, this.1, fall.trans this.2⟩
        | ret =>
          simp only [reduceCtorEq, if_false, Option.some.injEq, Prod.mk.injEq] at hv
          obtain ⟨rfl, rfl⟩ := hv
          have := hput2 .done .ret rfl
          exact ⟨μ₂, _, rfl, .bool false, this.1, fall.trans this.2⟩
      have hr' : some (if e = .normal then (AV.bool true, h₂.set id (.loop f2 t2 p2 a2 b2 .ready .normal)) else (.bool false, h₂.set id (.loop f2 t2 p2 a2 b2 .done e))) = some (v, h') := by
        rw [← hr]; split <;> rfl
      cases e with
      | normal => exact done none rfl hr'
      | exit k => exact done (some (.exit k)) rfl hr'
      | ret => exact done (some .ret) rfl hr'
end
end Go.Ya
