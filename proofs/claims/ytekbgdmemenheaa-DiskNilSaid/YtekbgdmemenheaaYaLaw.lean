/-
  A law: from the abstract run, for every argument that is one, the whole of what a row asks behind the call.
-/
import Derived.JoinedCond
import Derived.Carry
import Derived.ChangeSame
import Derived.Test.YtekbgdmemenheaaYaTake
namespace Go.Ya
set_option linter.unusedVariables false
set_option linter.unusedSimpArgs false
open Go.ChangeShapes Go.WideShapes Go.RowKit

/-- No block yet. -/
def emptyHeap : Heap := ⟨0, .nil⟩

/-- One argument, as a value. -/
def argT (P : Program) (N : Nat) (h : Heap) (k : Nat) (t : TypeId) (a : AV) : Prop :=
  match P.underlying t with
  | some (.struct _) => ∃ cs, a = .agg cs ∧ isT P N h k t cs
  | some (.array _ _) => ∃ cs, a = .agg cs ∧ isT P N h k t cs
  | _ => isT P N h k t [a]
def argsT (P : Program) (N : Nat) (h : Heap) (k : Nat) : List TypeId → List AV → Prop
  | [], [] => True
  | t :: ts, a :: as => argT P N h k t a ∧ argsT P N h k ts as
  | _, _ => False

/-- The same, to the letter. -/
def argX (P : Program) (N : Nat) (k : Nat) (t : TypeId) (h : Heap) (a : AV) (h' : Heap) : Prop :=
  match P.underlying t with
  | some (.struct _) => ∃ cs, a = .agg cs ∧ cellsX P N k t h cs h'
  | some (.array _ _) => ∃ cs, a = .agg cs ∧ cellsX P N k t h cs h'
  | _ => cellsX P N k t h [a] h'
def argsX (P : Program) (N : Nat) (k : Nat) : List TypeId → Heap → List AV → Heap → Prop
  | [], h, [], h' => h' = h
  | t :: ts, h, a :: as, h' => ∃ h1, argX P N k t h a h1 ∧ argsX P N k ts h1 as h'
  | _, _, _, _ => False

theorem argT.ext {P : Program} {N : Nat} {h h' : Heap} (hx : Ext h h') {k : Nat} {t : TypeId} {a : AV} (hh : argT P N h k t a) : argT P N h' k t a := by
  unfold argT at hh ⊢
  cases hu : P.underlying t with
  | none => rw [hu] at hh; exact isT.ext hx hh
  | some d =>
    rw [hu] at hh
    cases d <;> first
      | exact isT.ext hx hh
      | (obtain ⟨cs, e, hc⟩ := hh; exact ⟨cs, e, hc.ext hx⟩)

section
variable {H : Type} {enc : TypeId × Value → H} {P : Program} {N : Nat} {W : World} {base : Nat}

theorem trodAll_len {w : World} {b : Nat} {sp : Nat → Bool} {hd : Bool} : ∀ {ts : List TypeId} {vs : List Value} {ds : List (DataW H)} {ps : List MemPlace}, DataW.TrodAll enc P w b sp hd ts vs ds ps → ds.length = ts.length
  | [], _, _, _, h => by obtain ⟨rfl, rfl, rfl⟩ := trodAll_nil h; rfl
  | t :: ts, _, _, _, h => by
    obtain ⟨v, vs, d, ds, p, q, rfl, rfl, rfl, _, h2⟩ := trodAll_cons h
    simp [trodAll_len h2]

theorem take_arg {k : Nat} {t : TypeId} {v : Value} {d : DataW H} {ps : List MemPlace} (hv : Value.okWide P W .any base t v) (hd : DataW.Trod enc P W 0 (fun _ => true) true t v d ps) (hi : inTy P k t = true) (hb : bulk d ≤ N)
    {μ : Mu} {h : Heap} (s : St P μ h W) (no : NoOwn μ h) : ∃ μ' h' a, Le μ μ' ∧ Ext h h' ∧ St P μ' h' W ∧ NoOwn μ' h' ∧ V μ' a v ∧ argT P N h' k t a ∧ argX P N k t h a h' := by
  obtain ⟨fuel, hd⟩ := hd
  obtain ⟨μ', h', acs, l, x, s', no', vs, fl, it, cx⟩ := take_cells k t _ fuel _ hd hi hb μ h s no
  cases k with
  | zero => exact it.elim
  | succ k =>
    cases hu : P.underlying t with
    | none => simp [inTy, hu] at hi
    | some ds =>
      cases ds <;> try (simp [inTy, hu] at hi; done)
      case struct fs =>
        unfold Value.okWide at hv
        rw [hu] at hv
        obtain ⟨cs, rfl, _, _⟩ := hv
        exact ⟨μ', h', .agg acs, l, x, s', no', .agg acs cs vs fl, by unfold argT; rw [hu]; exact ⟨acs, rfl, it⟩, by unfold argX; rw [hu]; exact ⟨acs, rfl, cx⟩⟩
      case array m e =>
        unfold Value.okWide at hv
        rw [hu] at hv
        obtain ⟨cs, rfl, _, _⟩ := hv
        exact ⟨μ', h', .agg acs, l, x, s', no', .agg acs cs vs fl, by unfold argT; rw [hu]; exact ⟨acs, rfl, it⟩, by unfold argX; rw [hu]; exact ⟨acs, rfl, cx⟩⟩
      all_goals
        have hnc : v.cells.toList = [v] := by
          cases v <;> first | rfl | (simp [Value.okWide, Cell.okWide, Cell.ok, hu] at hv)
        rw [hnc] at vs
        match acs, vs, it, cx with
        | [a], .cons _ _ _ _ hva _, it, cx => exact ⟨μ', h', a, l, x, s', no', hva, by unfold argT; rw [hu]; exact it, by unfold argX; rw [hu]; exact cx⟩

theorem take_args {k : Nat} : ∀ {ts : List TypeId} {vs : List Value} {ds : List (DataW H)} {ps : List MemPlace}, (∀ (j : Nat) t v, ts[j]? = some t → vs[j]? = some v → Value.okWide P W .any base t v) →
    DataW.TrodAll enc P W 0 (fun _ => true) true ts vs ds ps → (∀ t ∈ ts, inTy P k t = true) → bulks ds ≤ N → ∀ {μ : Mu} {h : Heap}, St P μ h W → NoOwn μ h →
    ∃ μ' h' as, Le μ μ' ∧ Ext h h' ∧ St P μ' h' W ∧ NoOwn μ' h' ∧ Vs μ' as vs ∧ argsT P N h' k ts as ∧ argsX P N k ts h as h'
  | [], _, _, _, _, hA, _, _, μ, h, s, no => by
    obtain ⟨rfl, rfl, rfl⟩ := trodAll_nil hA
    exact ⟨μ, h, [], .refl _, .refl _, s, no, .nil, trivial, rfl⟩
  | t :: ts, _, _, _, hv, hA, hi, hb, μ, h, s, no => by
    obtain ⟨v, vs, d, ds, p, q, rfl, rfl, rfl, h1, h2⟩ := trodAll_cons hA
    simp only [bulks] at hb
    obtain ⟨μ1, h', a, l1, x1, s1, n1, v1, t1, c1⟩ := take_arg (N := N) (hv 0 t v rfl rfl) h1 (hi t List.mem_cons_self) (by omega) s no
    obtain ⟨μ2, h'', as, l2, x2, s2, n2, v2, t2, c2⟩ := take_args (fun j t' v' e1 e2 => hv (j + 1) t' v' (by simpa using e1) (by simpa using e2)) h2 (fun t' ht' => hi t' (List.mem_cons_of_mem _ ht')) (by omega) s1 n1
    exact ⟨μ2, h'', a :: as, l1.trans l2, x1.trans x2, s2, n2, .cons _ _ _ _ (v1.mono l2) v2, ⟨t1.ext x2, t2⟩, ⟨h', c1, c2⟩⟩

/-- Behind a call that turned nothing old: what a row asks. -/
theorem post_still {f : Func} {s : ChangeSpec} {apart fresh handsOn again : Bool} {W' : World} {args : Array Value} {v : Value} {ds gs : List (DataW H)} {before pa pv : List MemPlace}
    (hW : DataW.Whole enc P f.params.toList s.vars apart W args.toList ds gs before)
    (hres : ∀ (b : Nat) (sp : Nat → Bool) (hd : Bool), DataW.TrodAll enc P W' b sp hd f.resultTypes.toList (v.resultList f.resultTypes.size) (s.fn H (ds ++ gs)).results [])
    (hargs : ∀ sp : Nat → Bool, (∀ p ∈ before, sp p.block = true) → DataW.TrodAll enc P W' 0 sp true f.params.toList args.toList (s.fn H (ds ++ gs)).args pa)
    (hvars : ∀ sp : Nat → Bool, (∀ p ∈ before, sp p.block = true) → DataW.TrodVars enc P W' sp s.vars (s.fn H (ds ++ gs)).vars pv)
    (hps : before = pa ++ pv) (hk : W.keptBut W' (· ∈ before)) (hfz : ∀ p ∈ before, ∀ b off, p = .cell b off → W'.frozen? ⟨b, off, none⟩ = W.frozen? ⟨b, off, none⟩)
    (hok : ∀ (j : Nat) (t : TypeId) (r : Value), f.resultTypes[j]? = some t → (v.resultList f.resultTypes.size)[j]? = some r → Value.okWide P W' .any 0 t r) :
    s.post enc P f apart fresh handsOn again W args v W' := by
  have hold : ∀ p ∈ before, (fun b => decide (b < W.heap.size)) p.block = true := fun p hp => by simpa using hW.lt p hp
  refine ⟨ds, gs, before, [], pa, pv, hW, hres _ _ _, hargs _ hold, hvars _ hold, World.keptBut_mono (fun p hp => ⟨hp, ?_⟩) hk, fun _ => ?_⟩
  · rw [hps, List.mem_append] at hp
    exact Or.inr hp
  · obtain ⟨_, _, _, _, _, hz, hn⟩ := hW
    refine ⟨hok, _, _, ([] ++ pa) ++ pv, ⟨[] ++ pa, pv, trodAll_append (hargs _ (fun _ _ => rfl)) (hres _ _ _), hvars _ (fun _ _ => rfl), rfl, ?_, ?_⟩, ?_⟩
    · intro b off hp
      have hp' : MemPlace.cell b off ∈ before := by rw [hps]; simpa using hp
      rw [hfz _ hp' b off rfl]
      exact hz b off hp'
    · intro ha
      have := hn ha
      rw [hps] at this
      simpa using this
    · intro p hp _
      rw [hps]
      simpa using hp

/-- All arguments read behind the call as before. -/
theorem still_args {W' : World} (hl : laidOutB P = true) {sp : Nat → Bool} (hbel : Below W.heap.size W W') : ∀ {ts : List TypeId} {vs : List Value} {ds : List (DataW H)} {ps : List MemPlace},
    (∀ t ∈ ts, P.readableRec t = true ∧ t < P.types.size) → DataW.TrodAll enc P W 0 (fun _ => true) true ts vs ds ps → (∀ p ∈ ps, p.block < W.heap.size) → (∀ p ∈ ps, sp p.block = true) →
    DataW.TrodAll enc P W' 0 sp true ts vs ds ps
  | [], _, _, _, _, h, _, _ => by
    obtain ⟨rfl, rfl, rfl⟩ := trodAll_nil h
    exact rfl
  | t :: ts, _, _, _, ht, h, hlt, hsp => by
    obtain ⟨v, vs, d, ds, p, q, rfl, rfl, rfl, h1, h2⟩ := trodAll_cons h
    have h0 := ht t List.mem_cons_self
    exact ⟨p, q, WideElems.Trod_stays hl h0.1 h0.2 h1 (fun x hx => hbel.same (hlt x (by simp [hx]))) (fun x hx => hsp x (by simp [hx])),
      still_args hl hbel (fun t' ht' => ht t' (List.mem_cons_of_mem _ ht')) h2 (fun x hx => hlt x (by simp [hx])) (fun x hx => hsp x (by simp [hx])), rfl⟩
end

mutual
/-- Nothing in it lies in the heap. -/
def AV.bare : AV → Bool
  | .ptr .. | .slice .. | .map _ | .yieldf _ => false
  | .func _ a b => AV.bares a && AV.bares b
  | .iface _ v => AV.bare v
  | .agg l => AV.bares l
  | .tuple l => AV.bares l
  | _ => true
def AV.bares : List AV → Bool
  | [] => true
  | a :: as => AV.bare a && AV.bares as
end
mutual
theorem V.bare {μ ν : Mu} : ∀ {a : AV} {v : Value}, V μ a v → a.bare = true → V ν a v
  | _, _, .bool b, _ => .bool b
  | _, _, .int k n h, _ => .int k n h
  | _, _, .str l s h h2, _ => .str l s h h2
  | _, _, .nilptr, _ => .nilptr
  | _, _, .ptr .., e => by simp [AV.bare] at e
  | _, _, .nilsl, _ => .nilsl
  | _, _, .slice .., e => by simp [AV.bare] at e
  | _, _, .nilmap, _ => .nilmap
  | _, _, .map .., e => by simp [AV.bare] at e
  | _, _, .nilf, _ => .nilf
  | _, _, .func f x y x' y' h1 h2, e => by
    simp [AV.bare] at e
    exact .func f x y x' y' (Vs.bare h1 e.1) (Vs.bare h2 e.2)
  | _, _, .yieldf .., e => by simp [AV.bare] at e
  | _, _, .nilif, _ => .nilif
  | _, _, .iface t v v' h, e => .iface t v v' (V.bare h (by simpa [AV.bare] using e))
  | _, _, .agg cs cs' h h2, e => .agg cs cs' (Vs.bare h (by simpa [AV.bare] using e)) h2
  | _, _, .tuple vs vs' h, e => .tuple vs vs' (Vs.bare h (by simpa [AV.bare] using e))
theorem Vs.bare {μ ν : Mu} : ∀ {as : List AV} {vs : List Value}, Vs μ as vs → AV.bares as = true → Vs ν as vs
  | _, _, .nil, _ => .nil
  | _, _, .cons a v as vs h1 h2, e => by
    simp [AV.bares] at e
    exact .cons a v as vs (V.bare h1 e.1) (Vs.bare h2 e.2)
end

theorem St.empty (P : Program) (w : World) : St P (fun _ => none) emptyHeap w :=
  ⟨⟨fun id b base lim o e => (by cases e), fun id id' b base lim b' base' lim' o o' _ e => (by cases e)⟩, fun _ _ => rfl, fun _ _ _ _ _ _ _ e => by cases e⟩

/-- What a call with bare arguments and a bare answer says at no memory it says at every memory. -/
theorem forget {P : Program} {X : Known} (hX : XOk P X) {SP : FuncId → Option SFunc} (hSP : Conv P SP) (hmix : P.follows .mixedOrders = true) {n : Nat} {f : FuncId} {args : List AV} {v : AV} {h' : Heap}
    (hr : acall X SP n (.fn f) args emptyHeap = some (v, h')) (ha : AV.bares args = true) (hv : v.bare = true) (h : Heap) (μ : Mu) (w : World) (args' : Array Value) (s : St P μ h w) (hvs : Vs μ args args'.toList) :
    (∃ fn, P.funcs[f]? = some fn ∧ fn.body.isNone = false ∧ fn.name ≠ "runtime.NumGoroutine") ∧ Calls P f args' w (RetR P μ h w v h) := by
  obtain ⟨h1, h2⟩ := (acall_calls hX hSP hmix n).1 f args emptyHeap v h' hr (fun _ => none) w args' (.empty P w) (hvs.bare ha)
  refine ⟨h1, h2.mono fun e w' ⟨μ', v', he, hv', _, fr⟩ => ?_⟩
  have hsame : ∀ b, b < w.heap.size → w'.heap[b]? = w.heap[b]? := fun b hb => fr.same b hb (by rintro ⟨id, _, _, _, e, _⟩; cases e)
  refine ⟨μ, v', he, hv'.bare hv, ⟨⟨fun id b base lim o e1 e2 => ?_, s.r.inj⟩, s.bd, s.mkd.sameH fun id b base lim c ro m g => hsame b (s.r.lt m g rfl)⟩, ⟨.refl _, fr.size, fr.os, fr.tape, fr.output, fun b hb _ => hsame b hb, fun b hb => .inl hb, Nat.le_refl _, fun _ _ h => h⟩⟩
  have ho := s.r.obj id b base lim o e1 e2
  cases hl : o.live with
  | true => exact ho.of_same (.refl _) (hsame b (s.r.lt e1 e2 hl))
  | false => cases o <;> first | trivial | simp [AObj.live] at hl

/-- Calls of which the answer is known once and for all. -/
def knownBare (l : List (FuncId × List AV × AV)) : Known := fun f args h =>
  match l.find? fun x => x.1 == f && AV.beqs x.2.1 args with
  | some x => some (x.2.2, h)
  | none => none

/-- THE LAW. 'run': for every argument that is one, the abstract call says true. -/
theorem contract {H : Type} {enc : TypeId × Value → H} {P : Program} {X : Known} (hX : XOk P X) {SP : FuncId → Option SFunc} (hSP : Conv P SP) (hmix : P.follows .mixedOrders = true) (hl : laidOutB P = true) {f : FuncId} {fn : Func} {tb : TypeId} {s : ChangeSpec} (N k : Nat)
    (hts : ∀ t ∈ fn.params.toList, (inTy P k t && P.readableRec t && decide (t < P.types.size)) = true) (hres : fn.resultTypes = #[tb]) (htb : P.underlying tb = some .bool) (hvars : s.vars = [])
    (hs : ∀ ds : List (DataW H), ds.length = fn.params.toList.length → (s.fn H ds).results = [.lit (.bool true)] ∧ (s.fn H ds).args = ds ∧ (s.fn H ds).vars = [])
    (run : ∀ h as, argsT P N h k fn.params.toList as → argsX P N k fn.params.toList emptyHeap as h → ∃ n h', acall X SP n (.fn f) as h = some (.bool true, h') ∨ (AV.bares as = true ∧ acall X SP n (.fn f) as emptyHeap = some (.bool true, h')))
    {apart fresh handsOn again : Bool} {W : World} {base : Nat} {args : Array Value} {ds gs : List (DataW H)} {before : List MemPlace}
    (hval : ∀ (j : Nat) t v, fn.params[j]? = some t → args[j]? = some v → Value.okWide P W .any base t v)
    (hW : DataW.Whole enc P fn.params.toList s.vars apart W args.toList ds gs before) (hb : bulks ds ≤ N) :
    Calls P f args W fun e W' => ∃ v, e = .returned v ∧ s.post enc P fn apart fresh handsOn again W args v W' := by
  have hW' := hW
  obtain ⟨p, q, hA, hV, rfl, hfz, hnd⟩ := hW
  rw [hvars] at hV
  obtain ⟨rfl, rfl⟩ := trodVars_none hV
  have hts' : ∀ t ∈ fn.params.toList, (inTy P k t = true ∧ P.readableRec t = true) ∧ t < P.types.size := fun t ht => by simpa using hts t ht
  have s0 := St.empty P W
  have n0 : NoOwn (fun _ => none) emptyHeap := by rintro b ⟨id, _, _, _, e, _⟩; cases e
  obtain ⟨μ, h, as, _, _, st, no, hvs, hargs, hargx⟩ := take_args (N := N) (fun j t v e1 e2 => hval j t v (by simpa using e1) (by simpa using e2)) hA (fun t ht => (hts' t ht).1.1) hb s0 n0
  obtain ⟨n, h', hrun⟩ := run h as hargs hargx
  have hcalls : ∃ h'', Calls P f args W (RetR P μ h W (.bool true) h'') := by
    rcases hrun with hrun | ⟨hba, hrun⟩
    · exact ⟨h', ((acall_calls hX hSP hmix n).1 f as h _ h' hrun μ W args st hvs).2⟩
    · exact ⟨h, (forget hX hSP hmix hrun hba rfl h μ W args st hvs).2⟩
  obtain ⟨h'', hcalls⟩ := hcalls
  refine hcalls.mono fun e W' ⟨μ', v', he, hv, _, fr⟩ => ?_
  subst he
  cases hv
  have hbel : Below W.heap.size W W' := ⟨fr.os, fr.tape, fr.output, fr.size, fun b hb => fr.same b hb (no b)⟩
  have hlen : ds.length = fn.params.toList.length := trodAll_len hA
  obtain ⟨r1, r2, r3⟩ := hs (ds ++ []) (by simpa using hlen)
  have hlt := hW'.lt
  refine ⟨_, rfl, post_still (pa := p) (pv := []) hW' (fun b sp hd => ?_) (fun sp hsp => ?_) (fun sp hsp => ?_) rfl (hbel.frame _) (fun x hx b off e => ?_) ?_⟩
  · rw [r1, hres]
    exact trodAll_cons_mk (shut_bool htb _) trodAll_mk0
  · rw [r2, List.append_nil]
    exact still_args hl hbel (fun t ht => ⟨(hts' t ht).1.2, (hts' t ht).2⟩) hA (fun x hx => hlt x (by simp [hx])) (fun x hx => hsp x (by simp [hx]))
  · rw [r3, hvars]
    exact rfl
  · subst e
    exact hbel.frozen (hlt _ hx)
  · exact ok_one hres rfl (okWide_bool_mk htb _)
theorem knownBare_ok {P : Program} {X : Known} (hX : XOk P X) {SP : FuncId → Option SFunc} (hSP : Conv P SP) (hmix : P.follows .mixedOrders = true) {l : List (FuncId × List AV × AV)}
    (hl : ∀ x ∈ l, AV.bares x.2.1 = true ∧ x.2.2.bare = true ∧ ∃ n, (acall X SP n (.fn x.1) x.2.1 emptyHeap).map (·.1) = some x.2.2) : XOk P (knownBare l) := by
  intro f args h v h' e μ w args' s hvs
  unfold knownBare at e
  split at e
  · rename_i x hx
    cases e
    have hm := List.mem_of_find?_eq_some hx
    have hp := List.find?_some hx
    simp only [Bool.and_eq_true, beq_iff_eq] at hp
    obtain ⟨rfl, hb⟩ := hp
    have := AV.beqs_eq _ _ hb
    subst this
    obtain ⟨h1, h2, n, h3⟩ := hl x hm
    obtain ⟨⟨v, h'⟩, h4, h5⟩ := Option.map_eq_some_iff.1 h3
    cases h5
    exact forget hX hSP hmix h4 h1 h2 h μ w args' s hvs
  · cases e

/-- Known by one or by the other. -/
def orK (X Y : Known) : Known := fun f args h => match X f args h with
  | some r => some r
  | none => Y f args h
theorem XOk.or {P : Program} {X Y : Known} (hX : XOk P X) (hY : XOk P Y) : XOk P (orK X Y) := by
  intro f args h v h' e
  unfold orK at e
  split at e
  · rename_i r hr; cases e; exact hX f args h v h' hr
  · exact hY f args h v h' e
end Go.Ya
