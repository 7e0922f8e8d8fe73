/-
  All operations together, but calls of functions.
-/
import Derived.Test.YtekbgdmemenheaaYaOps7
import Derived.Test.YtekbgdmemenheaaYaEq
import Derived.Test.YtekbgdmemenheaaYaMap
namespace Go.Ya
set_option linter.unusedVariables false
set_option linter.unusedSimpArgs false

def OpDone (P : Program) (μ : Mu) (h : Heap) (w : World) (res : Result Next) (v : AV) (h' : Heap) : Prop :=
  ∃ μ' v' w', (res = .ok (.value v') w' ∨ (res = .ok .skip w' ∧ v' = undef)) ∧ V μ' v v' ∧ St P μ' h' w' ∧ Fr μ h w μ' h' w'

def SOp.isCall : SOp → Bool
  | .call .. | .callV .. => true
  | _ => false

section
variable {P : Program} {μ : Mu} {h : Heap} {w : World}

theorem VDone.op {x : Sem Value} {v : AV} {h' : Heap} (d : VDone P μ h w (x.run P w) v h') : OpDone P μ h w ((x >>= fun r => Pure.pure (Next.value r) : Sem Next).run P w) v h' := by
  obtain ⟨μ', v', w', e, hv, s, f⟩ := d
  exact ⟨μ', v', w', .inl (by simp [e]), hv, s, f⟩
theorem UDone.op {x : Sem Unit} {h' : Heap} (d : UDone P μ h w (x.run P w) h') : OpDone P μ h w ((x >>= fun _ => Pure.pure Next.skip : Sem Next).run P w) undefA h' := by
  obtain ⟨μ', w', e, s, f⟩ := d
  exact ⟨μ', undef, w', .inr ⟨by simp [e], rfl⟩, .tuple [] #[] .nil, s, f⟩
theorem OpDone.same (s : St P μ h w) {v : AV} {v' : Value} {res : Result Next} (e : res = .ok (.value v') w) (hv : V μ v v') : OpDone P μ h w res v h := ⟨μ, v', w, .inl e, hv, s, .refl _ _ _⟩

theorem builtin_sim (s : St P μ h w) {tm : List AV} {a : Act} (ht : Vs μ tm a.tmps.toList) {call : Tgt → List AV → Heap → AR} {c : Call} {b : Builtin} (hb : c.callee = .builtin b) {sop : SOp} (hc : cCall P c = some sop) {v : AV} {h' : Heap} (hr : aop call tm h sop = some (v, h')) (ty : TypeId) :
    OpDone P μ h w ((resolve a.eval c ty >>= fun d => invoke d.target d.args : Sem Next).run P w) v h' := by
  have hres : (resolve a.eval c ty >>= fun d => invoke d.target d.args : Sem Next).run P w = (builtin b c.argTypes ty (c.args.map fun | .const _ => true | _ => false) (c.args.map a.eval)).run P w := by
    simp only [resolve, hb, Sem.run_bind, Sem.run_pure, Result.andThen_ok, invoke]
    rfl
  rw [hres]
  simp only [cCall, hb] at hc
  have hargs : ∀ l, c.args.toList = l → c.args.map a.eval = (l.map a.eval).toArray := fun l hl => by
    apply Array.toList_inj.1; simp [hl]
  have hats : ∀ l, c.argTypes.toList = l → c.argTypes = l.toArray := fun l hl => by
    apply Array.toList_inj.1; simp [hl]
  split at hc
  · -- append
    rename_i t u x y e1 e2
    rw [hargs _ e2, hats _ e1]
    cases g1 : P.underlying t with
    | none => simp [g1] at hc
    | some td =>
    cases g2 : P.underlying u with
    | none => simp [g1, g2] at hc
    | some ut =>
    cases g3 : cOpd x with
    | none => simp [g1, g2, g3] at hc
    | some ax =>
    cases g4 : cOpd y with
    | none => simp [g1, g2, g3, g4] at hc
    | some ay =>
    cases td <;> simp only [g1, g2, g3, g4, reduceCtorEq] at hc
    rename_i e
    cases g5 : P.info? e with
    | none => simp [g5] at hc
    | some i =>
    cases g6 : zeroA P e with
    | none => simp [g5, g6] at hc
    | some z =>
    simp only [g5, g6] at hc
    split at hc
    · rename_i hcond
      obtain ⟨c1, c2, c3, c4, c5⟩ := hcond
      cases hc
      simp only [aop] at hr
      obtain ⟨i', zv, hi', hz, hV⟩ := zeroA_spec g6 μ
      rw [g5] at hi'; cases hi'
      have hzs : zv.cells.size = i.size := by have := hV.cells.len; simp at this; omega
      exact (append_sim s g1 g2 (fun k hk => by subst hk; simp [notInt] at c1) g5 hz hzs c2 (fun h8 => by
        have h9 := c5.resolve_left (fun e => e h8)
        unfold AV.zeroU8 at h9
        split at h9
        · cases hV; rfl
        · cases h9) (cOpd_sound ht g3) (cOpd_sound ht g4) hr).op
    · cases hc
  · -- copy
    rename_i t ts x y e1 e2
    rw [hargs _ e2, hats _ e1]
    cases g1 : P.underlying t with
    | none => simp [g1] at hc
    | some td =>
    cases g3 : cOpd x with
    | none => simp [g1, g3] at hc
    | some ax =>
    cases g4 : cOpd y with
    | none => simp [g1, g3, g4] at hc
    | some ay =>
    cases td <;> simp only [g1, g3, g4, reduceCtorEq] at hc
    rename_i e
    simp only [Option.map_eq_some_iff] at hc
    obtain ⟨n, hn, rfl⟩ := hc
    simp only [aop] at hr
    exact (copy_sim (st := t) s g1 hn (cOpd_sound ht g3) (cOpd_sound ht g4) hr _ (by simp)).op
  · -- clear
    rename_i t x e1 e2
    rw [hargs _ e2, hats _ e1]
    cases g1 : P.underlying t with
    | none => simp [g1] at hc
    | some td =>
    cases g3 : cOpd x with
    | none => simp [g1, g3] at hc
    | some ax =>
    cases td <;> simp only [g1, g3, reduceCtorEq] at hc
    rename_i e
    cases g5 : zeroA P e with
    | none => simp [g5] at hc
    | some z =>
    cases g6 : sz P e with
    | none => simp [g5, g6] at hc
    | some n =>
    simp only [g5, g6] at hc
    split at hc
    · rename_i hcond
      cases hc
      simp only [aop] at hr
      exact (clear_sim s g1 g5 hcond.1 hcond.2 (cOpd_sound ht g3) hr).op
    · cases hc
  · -- len
    rename_i t ts x xs e1 e2
    rw [hargs _ e2, hats _ e1]
    cases g1 : P.underlying t with
    | none => simp [g1] at hc
    | some td =>
    cases td <;> simp only [g1, reduceCtorEq, Option.map_eq_some_iff] at hc
    · obtain ⟨ax, g3, rfl⟩ := hc
      simp only [aop] at hr
      exact (len_sim s (.inl ⟨rfl, g1⟩) (cOpd_sound ht g3) hr _ (by simp) (xs.map a.eval) (fun id es h1 h2 => by rw [h1] at hr; simp at hr)).op
    · rename_i arr
      cases g2 : P.underlying arr with
      | none => simp [g2] at hc
      | some ad =>
      cases ad <;> simp only [g2, reduceCtorEq] at hc
      split at hc
      · cases hc
        simp only [aop] at hr
        cases hr
        refine (VDone.pure s (v' := .int .i64 _) ?_ (.int _ _ (wf_nat ‹_›))).op
        simp [Builtin.len_, und_run g1, und_run g2, goInt]
      · cases hc
    · obtain ⟨ax, g3, rfl⟩ := hc
      simp only [aop] at hr
      exact (len_sim s (.inr (.inl ⟨rfl, _, g1⟩)) (cOpd_sound ht g3) hr _ (by simp) (xs.map a.eval) (fun id es h1 h2 => by rw [h1] at hr; simp at hr)).op
    · split at hc
      · cases hc
        simp only [aop] at hr
        cases hr
        refine (VDone.pure s (v' := .int .i64 _) ?_ (.int _ _ (wf_nat ‹_›))).op
        simp [Builtin.len_, und_run g1, goInt]
      · cases hc
  · -- cap
    rename_i t ts x xs e1 e2
    rw [hargs _ e2, hats _ e1]
    cases g1 : P.underlying t with
    | none => simp [g1] at hc
    | some td =>
    cases td <;> simp only [g1, reduceCtorEq, Option.map_eq_some_iff] at hc
    obtain ⟨ax, g3, rfl⟩ := hc
    simp only [aop] at hr
    exact (cap_sim s g1 (cOpd_sound ht g3) hr _ (by simp) (xs.map a.eval)).op
  · -- min
    rename_i ts x ys e2
    rw [hargs _ e2]
    cases g3 : cOpd x with
    | none => simp [g3] at hc
    | some ax =>
    cases g4 : cOpds ys with
    | none => simp [g3, g4] at hc
    | some ay =>
    simp only [g3, g4, Option.some.injEq] at hc
    subst hc
    simp only [aop, Option.map_eq_some_iff] at hr
    obtain ⟨r, hr, e⟩ := hr
    cases e
    have := min_sim s _ _ _ _ _ hr (cOpd_sound ht g3) (cOpds_sound ht g4)
    simp only [List.map_cons]
    exact VDone.op (x := Builtin.min_ c.argTypes ty (a.eval x :: List.map a.eval ys).toArray) (by simpa [Builtin.min_] using this)
  · -- max
    rename_i ts x ys e2
    rw [hargs _ e2]
    cases g3 : cOpd x with
    | none => simp [g3] at hc
    | some ax =>
    cases g4 : cOpds ys with
    | none => simp [g3, g4] at hc
    | some ay =>
    simp only [g3, g4, Option.some.injEq] at hc
    subst hc
    simp only [aop, Option.map_eq_some_iff] at hr
    obtain ⟨r, hr, e⟩ := hr
    cases e
    have := max_sim s _ _ _ _ _ hr (cOpd_sound ht g3) (cOpds_sound ht g4)
    simp only [List.map_cons]
    exact VDone.op (x := Builtin.max_ c.argTypes ty (a.eval x :: List.map a.eval ys).toArray) (by simpa [Builtin.max_] using this)
  · cases hc

/-- Every operation but a call of a function. -/
theorem op_sim (s : St P μ h w) {tm : List AV} {a : Act} (ht : Vs μ tm a.tmps.toList) {call : Tgt → List AV → Heap → AR} {o : Oper} {sop : SOp} (hc : cOp P o.op = some sop) (hnc : sop.isCall = false) {v : AV} {h' : Heap} (hr : aop call tm h sop = some (v, h')) :
    OpDone P μ h w ((execOp a.eval o).run P w) v h' := by
  cases ho : o.op with
  | move x =>
    rw [ho] at hc
    simp only [cOp, Option.map_eq_some_iff] at hc
    obtain ⟨y, hy, rfl⟩ := hc
    simp only [aop] at hr; cases hr
    exact .same s (v' := a.eval x) (by simp [execOp, ho]) (cOpd_sound ht hy)
  | assign x =>
    rw [ho] at hc
    simp only [cOp, Option.map_eq_some_iff] at hc
    obtain ⟨y, hy, rfl⟩ := hc
    simp only [aop] at hr; cases hr
    exact .same s (v' := a.eval x) (by simp [execOp, ho]) (cOpd_sound ht hy)
  | pick c x y =>
    rw [ho] at hc
    simp only [cOp] at hc
    split at hc
    · rename_i c' x' y' h1 h2 h3
      cases hc
      simp only [aop] at hr
      have hcv := cOpd_sound ht h1
      split at hr
      · rename_i he
        rw [he] at hcv
        cases hr
        generalize hq : a.eval c = q at hcv
        cases hcv
        exact .same s (v' := a.eval x) (by simp [execOp, ho, asBool, hq]) (cOpd_sound ht h2)
      · rename_i he
        rw [he] at hcv
        cases hr
        generalize hq : a.eval c = q at hcv
        cases hcv
        exact .same s (v' := a.eval y) (by simp [execOp, ho, asBool, hq]) (cOpd_sound ht h3)
      · cases hr
    · cases hc
  | alloc e =>
    rw [ho] at hc
    simp only [cOp] at hc
    split at hc
    · rename_i z hz
      cases hc
      simp only [aop, ev] at hr
      obtain ⟨i, zv, hi, hzv, hV⟩ := zeroA_spec hz μ
      have := box_sim s e hV hr
      have he : (Instr.alloc e true (.tuple #[])).run P w = (Instr.box e zv).run P w := by
        simp [Instr.alloc, Instr.box, zero_run hi hzv]
      rw [← he] at this
      simpa [execOp, ho] using this.op
    · cases hc
  | box e x =>
    rw [ho] at hc
    simp only [cOp, Option.map_eq_some_iff] at hc
    obtain ⟨y, hy, rfl⟩ := hc
    simp only [aop] at hr
    simpa [execOp, ho] using (box_sim s e (cOpd_sound ht hy) hr).op
  | build t parts =>
    rw [ho] at hc
    simp only [cOp] at hc
    cases g1 : zeroA P t with
    | none => simp [g1] at hc
    | some z =>
    cases g2 : P.underlying t with
    | none => simp [g1, g2] at hc
    | some td =>
    cases td <;> simp only [g1, g2, reduceCtorEq] at hc
    · rename_i len e
      cases g3 : sz P e with
      | none => simp [g3] at hc
      | some n =>
      simp only [g3] at hc
      cases g4 : cParts (fun i => some (i * n, n)) parts.toList with
      | none => simp [g4] at hc
      | some ps =>
      simp only [g4] at hc
      split at hc
      · cases hc
        simp only [aop] at hr
        simpa [execOp, ho] using (buildArr_sim s ht g1 g2 g3 g4 ‹_› hr).op
      · cases hc
    · rename_i fs
      split at hc
      · rename_i ps g4
        split at hc
        · rename_i hcond
          cases hc
          simp only [aop] at hr
          simpa [execOp, ho] using (buildStruct_sim s ht g1 g2 g4 hcond.1 hcond.2 hr).op
        · cases hc
      · cases hc
  | buildSlice t len parts =>
    rw [ho] at hc
    simp only [cOp] at hc
    cases g2 : P.underlying t with
    | none => simp [g2] at hc
    | some td =>
    cases td <;> simp only [g2, reduceCtorEq] at hc
    rename_i e
    cases g1 : zeroA P e with
    | none => simp [g1] at hc
    | some z =>
    cases g3 : sz P e with
    | none => simp [g1, g3] at hc
    | some n =>
    simp only [g1, g3] at hc
    cases g4 : cParts (fun i => some (i * n, n)) parts.toList with
    | none => simp [g4] at hc
    | some ps =>
    simp only [g4] at hc
    split at hc
    · rename_i hcond
      obtain ⟨c1, c2, c3, c4⟩ := hcond
      cases hc
      simp only [aop] at hr
      simpa [execOp, ho] using (buildSlice_sim s ht g1 g2 g3 g4 c1 c2 c3 c4 hr).op
    · cases hc
  | load t x =>
    rw [ho] at hc
    simp only [cOp] at hc
    split at hc
    · rename_i b n y h1 h2 h3
      cases hc
      simp only [aop] at hr
      simpa [execOp, ho] using (load_sim s h1 h2 (cOpd_sound ht h3) hr).op
    · cases hc
  | store t x y =>
    rw [ho] at hc
    simp only [cOp] at hc
    split at hc
    · rename_i n x' y' h1 h2 h3
      cases hc
      simp only [aop] at hr
      obtain ⟨d, rfl⟩ := store_sim s h1 (cOpd_sound ht h2) (cOpd_sound ht h3) hr
      simpa [execOp, ho] using d.op
    · cases hc
  | nilCheck x =>
    rw [ho] at hc
    simp only [cOp, Option.map_eq_some_iff] at hc
    obtain ⟨y, hy, rfl⟩ := hc
    simp only [aop] at hr
    obtain ⟨v', hrun, hv, rfl⟩ := nilChk_sim s (cOpd_sound ht hy) hr
    exact .same s (hrun o a.eval x ho rfl) hv
  | binOp op t x y yt =>
    rw [ho] at hc
    simp only [cOp] at hc
    cases g1 : cOpd x with
    | none => simp [g1] at hc
    | some x' =>
    cases g2 : cOpd y with
    | none => simp [g1, g2] at hc
    | some y' =>
    simp only [g1, g2] at hc
    have main : sop = .bin op (eqKind P t) x' y' → OpDone P μ h w ((execOp a.eval o).run P w) v h' := by
      intro e
      subst e
      simp only [aop, Option.map_eq_some_iff] at hr
      obtain ⟨r, hr, e⟩ := hr
      cases e
      simpa [execOp, ho] using (bin_sim s hr (cOpd_sound ht g1) (cOpd_sound ht g2) x y).op
    have eqs : (∃ b, aggr? P t = some b ∧ b = true) → (match plainTy P 8 t, P.eqGuardType P.depth t with
        | some ks, false => (match (generalizing := false) op with
          | .eql => some (.eqAgg false ks x' y')
          | .neq => some (.eqAgg true ks x' y')
          | _ => none)
        | _, _ => none) = some sop → OpDone P μ h w ((execOp a.eval o).run P w) v h' := by
      rintro ⟨b, hb, rfl⟩ hc
      split at hc
      case h_2 => cases hc
      rename_i ks hk hg
      have hx := cOpd_sound ht g1
      have hy := cOpd_sound ht g2
      split at hc
      case h_3 => cases hc
      all_goals
        cases hc
        simp only [aop] at hr
        split at hr
        case h_2 => cases hr
        rename_i ca cb q1 q2
        split at hr
        case isFalse => cases hr
        rename_i hk2
        rw [Bool.and_eq_true] at hk2
        simp only [Option.map_eq_some_iff] at hr
        obtain ⟨r, hr, e⟩ := hr
        cases e
        rw [q1] at hx; rw [q2] at hy
        have key : (Op.equalIn 10000 t (a.eval x) (a.eval y)).run P w = .ok r w := eq_sim 8 hk (by omega) hb hx hy (.inl ⟨rfl, rfl⟩) (.inl ⟨rfl, rfl⟩) hk2.1 hk2.2 hr
        refine .same s (v' := .bool _) ?_ (.bool _)
        obtain ⟨vx, ex⟩ : ∃ vx, a.eval x = vx := ⟨_, rfl⟩
        obtain ⟨vy, ey⟩ : ∃ vy, a.eval y = vy := ⟨_, rfl⟩
        rw [ex] at hx key
        rw [ey] at hy key
        cases hx; cases hy
        first
          | (have ho2 : o.op = Op.binOp BinOp.eql t x y yt := by assumption
             simp [execOp, ho2, ex, ey, run_eqGuard_agg w _ t x y _ _ hg, run_eql_struct, run_neq_struct, key])
          | (have ho2 : o.op = Op.binOp BinOp.neq t x y yt := by assumption
             simp [execOp, ho2, ex, ey, run_eqGuard_agg w _ t x y _ _ hg, run_eql_struct, run_neq_struct, key]
             done)
    split at hc
    · rename_i fs hu
      exact eqs ⟨true, by simp [aggr?, hu], rfl⟩ hc
    · rename_i n e hu
      exact eqs ⟨true, by simp [aggr?, hu], rfl⟩ hc
    · cases hc; exact main rfl
    · cases hc
  | unOp op t x =>
    rw [ho] at hc
    simp only [cOp, Option.map_eq_some_iff] at hc
    obtain ⟨y, hy, rfl⟩ := hc
    simp only [aop, Option.map_eq_some_iff] at hr
    obtain ⟨r, hr, e⟩ := hr
    cases e
    simpa [execOp, ho] using (un_sim s hr (cOpd_sound ht hy)).op
  | convert src dst x =>
    rw [ho] at hc
    simp only [cOp] at hc
    split at hc
    · rename_i k0 k y h1 h2 h3
      cases hc
      simp only [aop] at hr
      split at hr
      · rename_i k1 n he
        cases hr
        have hv := cOpd_sound ht h3
        rw [he] at hv
        generalize hq : a.eval x = q at hv
        cases hv
        refine .same s (v' := .int k (k.wrap n)) ?_ (.int _ _ (wf_wrap' _ _))
        simp [execOp, ho, convert, und_run h1, und_run h2, hq, Conv.intToInt]
      · cases hr
    · rename_i y h1 h2 h3
      cases hc
      simp only [aop] at hr
      split at hr
      · rename_i l he
        cases hr
        have hv := cOpd_sound ht h3
        rw [he] at hv
        refine .same s (v' := a.eval x) ?_ hv
        generalize hq : a.eval x = q at hv
        cases hv
        simp [execOp, ho, convert, und_run h1, und_run h2, hq]
      · cases hr
    · rename_i e y h1 h2 h3
      split at hc
      · cases hc
        simp only [aop] at hr
        simpa [execOp, ho] using (strToBytes_sim s h1 h2 ‹_› (cOpd_sound ht h3) hr).op
      · cases hc
    · rename_i e y h1 h2 h3
      split at hc
      · cases hc
        simp only [aop] at hr
        simpa [execOp, ho] using (bytesToStr_sim s h1 h2 ‹_› (cOpd_sound ht h3) hr).op
      · cases hc
    · cases hc
  | makeInterface t x =>
    rw [ho] at hc
    simp only [cOp] at hc
    split at hc
    · cases hc
    · rename_i d hni hd
      simp only [Option.map_eq_some_iff] at hc
      obtain ⟨y, hy, rfl⟩ := hc
      simp only [aop] at hr; cases hr
      refine .same s (v' := .iface t (a.eval x)) ?_ (.iface _ _ _ (cOpd_sound ht hy))
      have : (Instr.makeInterface t (a.eval x)).run P w = .ok (.iface t (a.eval x)) w := by
        simp only [Instr.makeInterface, Sem.run_bind, und_run hd, Result.andThen_ok]
        cases d <;> first | (exact absurd rfl (hni _)) | rfl
      simp [execOp, ho, this]
    · cases hc
  | makeFunc fn first captured =>
    rw [ho] at hc
    simp only [cOp] at hc
    split at hc
    · rename_i f x y h2 h3
      cases hc
      simp only [aop] at hr; cases hr
      refine .same s (v' := .func (.func f) (first.map a.eval) (captured.map a.eval)) (by simp [execOp, ho, Instr.makeFunc]) (.func _ _ _ _ _ ?_ ?_)
      · rw [Array.toList_map]; exact cOpds_sound ht h2
      · rw [Array.toList_map]; exact cOpds_sound ht h3
    · cases hc
  | makeSlice t l c =>
    rw [ho] at hc
    simp only [cOp] at hc
    cases g2 : P.underlying t with
    | none => simp [g2] at hc
    | some td =>
    cases td <;> simp only [g2, reduceCtorEq] at hc
    rename_i e
    split at hc
    · rename_i i z x y h1 h2 h3 h4
      split at hc
      · rename_i hcond
        obtain ⟨c1, c2, c3, c4⟩ := hcond
        cases hc
        simp only [aop] at hr
        simpa [execOp, ho] using (makeSlice_sim s g2 h1 h2 c1 c2 c4 (cOpd_sound ht h3) (cOpd_sound ht h4) hr).op
      · cases hc
    · cases hc
  | slice t x lo hi mx =>
    rw [ho] at hc
    simp only [cOp] at hc
    cases g1 : cOpd x with
    | none => simp [g1] at hc
    | some x' =>
    cases g2 : cOpt lo with
    | none => simp [g1, g2] at hc
    | some lo' =>
    cases g3 : cOpt hi with
    | none => simp [g1, g2, g3] at hc
    | some hi' =>
    cases g4 : cOpt mx with
    | none => simp [g1, g2, g3, g4] at hc
    | some mx' =>
    simp only [g1, g2, g3, g4] at hc
    have q1 := cOpd_sound ht g1
    have q2 := cOpt_sound ht g2
    have q3 := cOpt_sound ht g3
    have q4 := cOpt_sound ht g4
    cases g5 : P.underlying t with
    | none => simp [g5] at hc
    | some td =>
    cases td <;> simp only [g5, reduceCtorEq] at hc
    · split at hc
      · cases hc
      · rename_i hmx
        cases hc
        simp only [aop] at hr
        have hmx' : mx = none := by
          cases mx with
          | none => rfl
          | some m =>
            simp only [cOpt, Option.map_eq_some_iff] at g4
            obtain ⟨_, _, rfl⟩ := g4
            simp at hmx
        subst hmx'
        simpa [execOp, ho] using (sliceStr_sim s g5 q1 q2 q3 hr).op
    · rename_i arr
      cases g6 : P.underlying arr with
      | none => simp [g6] at hc
      | some ad =>
      cases ad <;> simp only [g6, reduceCtorEq] at hc
      rename_i n e
      cases g7 : sz P e with
      | none => simp [g7] at hc
      | some k =>
      simp only [g7] at hc
      split at hc
      · rename_i hcond
        cases hc
        simp only [aop] at hr
        simpa [execOp, ho] using (sliceArr_sim s (.inr ⟨arr, g5, g6⟩) g7 hcond.1 q1 q2 q3 q4 hr hcond.2).op
      · cases hc
    · rename_i e
      cases g7 : sz P e with
      | none => simp [g7] at hc
      | some k =>
      simp only [g7, Option.some.injEq] at hc
      subst hc
      simp only [aop, Option.map_eq_some_iff] at hr
      obtain ⟨r, hr, e⟩ := hr
      cases e
      simpa [execOp, ho] using (slice_sim s g5 g7 q1 q2 q3 q4 hr).op
    · rename_i n e
      cases g7 : sz P e with
      | none => simp [g7] at hc
      | some k =>
      simp only [g7] at hc
      split at hc
      · rename_i hcond
        cases hc
        simp only [aop] at hr
        simpa [execOp, ho] using (sliceArr_sim s (.inl g5) g7 hcond.1 q1 q2 q3 q4 hr hcond.2).op
      · cases hc
  | fieldAddr t x f =>
    rw [ho] at hc
    simp only [cOp] at hc
    split at hc
    · rename_i fs y h1 h2
      split at hc
      · rename_i fl h3
        split at hc
        · rename_i n h4
          split at hc
          · cases hc
          · cases hc
            simp only [aop] at hr
            simpa [execOp, ho] using (fieldAddr_sim s h1 h3 h4 ‹_› (cOpd_sound ht h2) hr).op
        · cases hc
      · cases hc
    · cases hc
  | field t x f =>
    rw [ho] at hc
    simp only [cOp] at hc
    split at hc
    · rename_i fs y h1 h2
      split at hc
      · rename_i fl h3
        split at hc
        · rename_i b n h4 h5
          cases hc
          simp only [aop] at hr
          simpa [execOp, ho] using (field_sim s h1 h3 h4 h5 (cOpd_sound ht h2) hr).op
        · cases hc
      · cases hc
    · cases hc
  | indexAddr t x i =>
    rw [ho] at hc
    simp only [cOp] at hc
    split at hc
    · rename_i x' i' h1 h2
      split at hc
      · rename_i len e h3
        simp only [Option.map_eq_some_iff] at hc
        obtain ⟨n, hn, rfl⟩ := hc
        simp only [aop] at hr
        simpa [execOp, ho] using (idxAddrArr_sim s h3 hn (cOpd_sound ht h1) (cOpd_sound ht h2) hr).op
      · rename_i e h3
        simp only [Option.map_eq_some_iff] at hc
        obtain ⟨n, hn, rfl⟩ := hc
        simp only [aop] at hr
        simpa [execOp, ho] using (idxSl_sim s h3 hn (cOpd_sound ht h1) (cOpd_sound ht h2) hr).op
      · cases hc
    · cases hc
  | index t x i =>
    rw [ho] at hc
    simp only [cOp] at hc
    split at hc
    · rename_i x' i' h1 h2
      split at hc
      · rename_i len e h3
        split at hc
        · rename_i b n h4 h5
          cases hc
          simp only [aop] at hr
          simpa [execOp, ho] using (idxArr_sim s h3 h4 h5 (cOpd_sound ht h1) (cOpd_sound ht h2) hr).op
        · cases hc
      · rename_i h3
        cases hc
        simp only [aop] at hr
        simpa [execOp, ho] using (idxStr_sim s h3 (cOpd_sound ht h1) (cOpd_sound ht h2) hr).op
      · cases hc
    · cases hc
  | range t x =>
    rw [ho] at hc
    simp only [cOp] at hc
    split at hc
    · rename_i y h1 h2
      cases hc
      simp only [aop] at hr
      simpa [execOp, ho] using (rangeStr_sim s h1 (cOpd_sound ht h2) hr).op
    · cases hc
  | next it b =>
    rw [ho] at hc
    cases b with
    | false => simp [cOp] at hc
    | true =>
      simp only [cOp, Option.map_eq_some_iff] at hc
      obtain ⟨y, hy, rfl⟩ := hc
      simp only [aop] at hr
      simpa [execOp, ho] using (nextStr_sim s o.type (cOpd_sound ht hy) hr).op
  | extract t i =>
    rw [ho] at hc
    simp only [cOp, Option.map_eq_some_iff] at hc
    obtain ⟨y, hy, rfl⟩ := hc
    simp only [aop] at hr
    simpa [execOp, ho] using (extract_sim s (cOpd_sound ht hy) hr).op
  | call c =>
    rw [ho] at hc
    simp only [cOp] at hc
    cases hcal : c.callee with
    | builtin b => simpa [execOp, ho] using builtin_sim s ht hcal hc hr o.type
    | invoke x m => simp [cCall, hcal] at hc
    | value f =>
      cases f with
      | func f =>
        simp only [cCall, hcal, Option.map_eq_some_iff] at hc
        obtain ⟨_, _, rfl⟩ := hc
        simp [SOp.isCall] at hnc
      | _ =>
        simp only [cCall, hcal] at hc
        split at hc
        · cases hc; simp [SOp.isCall] at hnc
        · cases hc
  | lookup t m k ok =>
    rw [ho] at hc
    simp only [cOp] at hc
    split at hc
    · rename_i kt et a' b' h1 h2 h3
      split at hc
      · rename_i z hz
        split at hc
        · rename_i sk hsk
          cases hc
          simp only [aop] at hr
          unfold keyTy at hsk
          split at hsk
          · rename_i kd hkd
            cases hsk
            simpa [execOp, ho] using (lookup_sim s h1 hz hkd (sk := false) rfl (cOpd_sound ht h2) (cOpd_sound ht h3) hr).op
          · rename_i hkd
            cases hsk
            simpa [execOp, ho] using (lookup_sim s h1 hz hkd (sk := true) rfl (cOpd_sound ht h2) (cOpd_sound ht h3) hr).op
          · cases hsk
        · cases hc
      · cases hc
    · cases hc
  | mapUpdate t m k x =>
    rw [ho] at hc
    simp only [cOp] at hc
    split at hc
    · rename_i kt et a' b' c' h1 h2 h3 h4
      split at hc
      · rename_i sk hsk
        cases hc
        simp only [aop] at hr
        unfold keyTy at hsk
        split at hsk
        · rename_i kd hkd
          cases hsk
          obtain ⟨rfl, d⟩ := mapUpdate_sim s h1 hkd (sk := false) rfl (cOpd_sound ht h2) (cOpd_sound ht h3) (cOpd_sound ht h4) hr
          simpa [execOp, ho] using d.op
        · rename_i hkd
          cases hsk
          obtain ⟨rfl, d⟩ := mapUpdate_sim s h1 hkd (sk := true) rfl (cOpd_sound ht h2) (cOpd_sound ht h3) (cOpd_sound ht h4) hr
          simpa [execOp, ho] using d.op
        · cases hsk
      · cases hc
    · cases hc
  | makeMap t r =>
    rw [ho] at hc
    simp only [cOp] at hc
    split at hc
    · cases hc
      simp only [aop] at hr
      cases hr
      simpa [execOp, ho] using (mkMap_sim s (t := t)).op
    · rename_i kd n kt et hu
      cases hc
      simp only [aop] at hr
      cases hr
      simpa [execOp, ho, Act.eval] using (mkMap_hint s (kd := kd) (n := n) hu).op
    · cases hc
  | _ => rw [ho] at hc; simp [cOp] at hc

end
end Go.Ya
