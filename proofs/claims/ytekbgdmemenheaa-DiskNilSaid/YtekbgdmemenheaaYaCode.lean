/-
  Control, calls, ranges over functions: what the abstract run answers, the model's calls answer.
-/
import Derived.LoopNIn
import Derived.RangeFuncNested
import Derived.RangeFuncLeaves
import Derived.Test.YtekbgdmemenheaaYaOper
namespace Go.Ya
set_option linter.unusedVariables false
set_option linter.unusedSimpArgs false
section
variable {P : Program} {μ : Mu} {h : Heap} {w : World}

/-- A block that no abstract block lies in. -/
theorem St.junk (s : St P μ h w) (ob : Obj) : St P μ h (w.alloc ob) ∧ Fr μ h w μ h (w.alloc ob) := by
  have hold : ∀ b, b < w.heap.size → (w.alloc ob).heap[b]? = w.heap[b]? := fun b hb => by
    simp only [World.alloc, Array.getElem?_push]; rw [if_neg (by omega)]
  refine ⟨⟨⟨fun id b base lim o e1 e2 => ?_, s.r.inj⟩, s.bd, s.mkd.sameH fun id b base lim c ro m g => hold b (s.r.lt m g rfl)⟩, ⟨.refl μ, by simp, rfl, rfl, rfl, fun b hb _ => hold b hb, fun b hb => .inl hb, Nat.le_refl _, fun _ _ h => h⟩⟩
  cases hlv : o.live with
  | true => exact (s.r.obj id b base lim o e1 e2).of_same (.refl μ) (hold b (s.r.lt e1 e2 hlv))
  | false => cases o <;> first | trivial | simp [AObj.live] at hlv

/-- A block for deferred calls belongs to no abstract block. -/
theorem not_live_deferred (s : St P μ h w) {r : Nat} {x : Option (List Deferred)} (hr : w.heap[r]? = some (.deferred x)) {id base lim : Nat} {o : AObj} (e1 : μ id = some (r, base, lim)) (e2 : h.get id = some o) : o.live = false := by
  have := s.r.obj id r base lim o e1 e2
  cases o with
  | cells c ro => obtain ⟨_, _, _, hb, _⟩ := this; rw [hr] at hb; cases hb
  | map es => obtain ⟨_, _, hb, _⟩ := this; rw [hr] at hb; cases hb
  | striter s pos => obtain ⟨_, hb, _⟩ := this; rw [hr] at hb; cases hb
  | loop => obtain ⟨_, hb, _⟩ := this; rw [hr] at hb; cases hb
  | dead => rfl
theorem live_of_owned {o : AObj} (ho : o.owned = true) : o.live = true := by cases o <;> first | rfl | simp [AObj.owned] at ho
theorem not_own_deferred (s : St P μ h w) {r : Nat} {x : Option (List Deferred)} (hr : w.heap[r]? = some (.deferred x)) : ¬ Own μ h.get r := by
  rintro ⟨id, base, lim, o, e1, e2, e3⟩
  have := not_live_deferred s hr e1 e2
  rw [live_of_owned e3] at this; cases this

theorem St.shut (s : St P μ h w) {r : Nat} {x : Option (List Deferred)} (hr : w.heap[r]? = some (.deferred x)) (ob : Obj) : St P μ h (w.putObj r ob) := by
  refine ⟨⟨fun id b base lim o e1 e2 => ?_, s.r.inj⟩, s.bd, s.mkd.sameH fun id b base lim c ro m g => by
    have hne : b ≠ r := fun e => by subst e; have := not_live_deferred s hr m g; cases this
    exact World.putObj_heap_other hne⟩
  cases hlv : o.live with
  | true =>
    have hne : b ≠ r := fun e => by subst e; have := not_live_deferred s hr e1 e2; rw [this] at hlv; cases hlv
    exact (s.r.obj id b base lim o e1 e2).of_same (.refl μ) (World.putObj_heap_other hne)
  | false => cases o <;> first | trivial | simp [AObj.live] at hlv

/-- The marks among the deferred calls: blocks of the call's own. -/
def Marks (B : Nat) (w : World) : List Deferred → Prop
  | [] => True
  | d :: ds => (∃ r, d.target = .collected r ∧ B ≤ r ∧ w.heap[r]? = some (.deferred (some [])) ∧ (∀ d' ∈ ds, d'.target ≠ .collected r)) ∧ Marks B w ds

theorem Marks.keep {B : Nat} {w w' : World} : ∀ {ds : List Deferred}, Marks B w ds → (∀ r : Nat, w.heap[r]? = some (Obj.deferred (some [])) → w'.heap[r]? = some (Obj.deferred (some []))) → Marks B w' ds
  | [], _, _ => trivial
  | d :: ds, ⟨⟨r, h1, h2, h3, h4⟩, h⟩, hk => ⟨⟨r, h1, h2, hk r h3, h4⟩, h.keep hk⟩
theorem Marks.lt {B : Nat} {w : World} : ∀ {ds : List Deferred}, Marks B w ds → ∀ d ∈ ds, ∀ r, d.target = .collected r → r < w.heap.size
  | d₀ :: ds, ⟨⟨r₀, h1, h2, h3, h4⟩, h⟩, d, hd, r, hr => by
    rcases List.mem_cons.1 hd with rfl | hd
    · rw [h1] at hr; cases hr
      exact (Array.getElem?_eq_some_iff.1 h3).1
    · exact h.lt d hd r hr

theorem Fr.marks {μ' : Mu} {h' : Heap} {w' : World} (s : St P μ h w) (f : Fr μ h w μ' h' w') {B : Nat} {ds : List Deferred} (hm : Marks B w ds) : Marks B w' ds :=
  hm.keep fun r hr => by
    rw [f.same r (Array.getElem?_eq_some_iff.1 hr).1 (not_own_deferred s hr)]; exact hr

def AExit.to : AExit → Exit
  | .normal => .normal
  | .exit id => .exit id
  | .ret => .ret

/-- What a piece of code leaves. -/
def CodeR (P : Program) (μ : Mu) (h : Heap) (w : World) (B : Nat) (e : AExit) (tm' : List AV) (h' : Heap) (e' : Exit) (a' : Act) (w' : World) : Prop :=
  e' = e.to ∧ ∃ μ', Vs μ' tm' a'.tmps.toList ∧ St P μ' h' w' ∧ Fr μ h w μ' h' w' ∧ Marks B w' a'.defers

theorem CodeR.after {μ₁ : Mu} {h₁ : Heap} {w₁ : World} {B : Nat} {e : AExit} {tm' : List AV} {h' : Heap} {e' : Exit} {a' : Act} {w' : World} (f : Fr μ h w μ₁ h₁ w₁) (c : CodeR P μ₁ h₁ w₁ B e tm' h' e' a' w') : CodeR P μ h w B e tm' h' e' a' w' := by
  obtain ⟨he, μ', q1, q2, q3, q4⟩ := c
  exact ⟨he, μ', q1, q2, f.trans q3, q4⟩

/-- The round that the code stands in. -/
def RdR (μ : Mu) : Option Nat → Option Nat → Prop
  | none, none => True
  | some id, some l => ∃ base lim, μ id = some (l, base, lim)
  | _, _ => False
theorem RdR.mono {ν : Mu} (hl : Le μ ν) {rd r : Option Nat} (hr : RdR μ rd r) : RdR ν rd r := by
  cases rd <;> cases r <;> first | trivial | (obtain ⟨base, lim, e⟩ := hr; exact ⟨base, lim, hl _ _ e⟩) | exact hr

/-- Regions that draw their order, as the abstract machine takes them. -/
def SimDraw (P : Program) (call : Tgt → List AV → Heap → AR) : Prop :=
  ∀ (id : Nat) (ops : Array Oper) (l : List SOper) (chk : List (Nat × Nat)), cOpers P ops ops.toList = some l → edgesOk ops.toList = true → drawOk (befores ops.toList) l = true → drawChk (befores ops.toList) l = chk →
    ∀ tm h tm' h' lg, aopsLog call l tm h = some (tm', h', lg) → chkLog lg chk = true → ∀ μ (a : Act) w, St P μ h w → Vs μ tm a.tmps.toList → ∀ (r : Option Nat) (Q : Exit → Act → World → Prop),
      (∀ μ' a' w', Vs μ' tm' a'.tmps.toList → St P μ' h' w' → Fr μ h w μ' h' w' → a'.defers = a.defers → Q .normal a' w') → (Code.region id ops true).wpIn (F r) 0 P Q a w

theorem log_of_ops {call : Tgt → List AV → Heap → AR} : ∀ {l : List SOper} {tm : List AV} {h : Heap} {tm' : List AV} {h' : Heap}, aops call l tm h = some (tm', h') → ∃ lg, aopsLog call l tm h = some (tm', h', lg)
  | [], tm, h, tm', h', e => by simp [aops] at e; exact ⟨[], by simp [aopsLog, e]⟩
  | o :: l, tm, h, tm', h', e => by
    simp only [aops, aopsLog] at e ⊢
    split at e
    · rename_i hw
      rw [if_pos hw]
      split at e
      · rename_i v h1 hv
        obtain ⟨lg, hlg⟩ := log_of_ops e
        exact ⟨_, by rw [hlg]⟩
      · cases e
    · rename_i hw
      rw [if_neg hw]
      obtain ⟨lg, hlg⟩ := log_of_ops e
      exact ⟨_, by rw [hlg]⟩

theorem loopObj (s : St P μ h w) {id b base lim f : Nat} {tmps : List AV} {ps : List Nat} {asg body : SC} {st : LoopState} {pend : AExit} (hm : μ id = some (b, base, lim)) (hg : h.get id = some (.loop f tmps ps asg body st pend)) :
    ∃ l : Loop, w.heap[b]? = some (.loop l) ∧ Vs μ tmps l.tmps.toList ∧ l.params.toList = ps ∧ cCode P l.assign = some asg ∧ cCode P l.body = some body ∧ l.state = st ∧ l.pending = pend.jump := by
  obtain ⟨l, h1, _, h3⟩ := s.r.obj id b base lim _ hm hg
  exact ⟨l, h1, h3⟩

/-- A loop's record is written. -/
theorem loopPut (s : St P μ h w) {id b base lim f : Nat} {tmps : List AV} {ps : List Nat} {asg body : SC} {st : LoopState} {pend : AExit} (hm : μ id = some (b, base, lim)) (hg : h.get id = some (.loop f tmps ps asg body st pend)) (l : Loop) (hl : w.heap[b]? = some (.loop l))
    (f' : Nat) (st' : LoopState) (pend' : AExit) (l' : Loop) (e1 : l'.tmps = l.tmps) (e2 : l'.params = l.params) (e3 : l'.assign = l.assign) (e4 : l'.body = l.body) (e5 : l'.state = st') (e6 : l'.pending = pend'.jump) :
    St P μ (h.set id (.loop f' tmps ps asg body st' pend')) (w.putObj b (.loop l')) ∧ Fr μ h w μ (h.set id (.loop f' tmps ps asg body st' pend')) (w.putObj b (.loop l')) := by
  obtain ⟨l0, h1, _, q1, q2, q3, q4, q5, q6⟩ := s.r.obj id b base lim _ hm hg
  rw [hl] at h1; cases h1
  have hb : b < w.heap.size := (Array.getElem?_eq_some_iff.1 hl).1
  have := s.r.write (w' := w.putObj b (.loop l')) hm hg rfl (o' := .loop f' tmps ps asg body st' pend') rfl (by simp) rfl rfl rfl (fun j hj => World.putObj_heap_other hj)
    ⟨l', World.putObj_heap_same hb, rfl, by rw [e1]; exact q1, by rw [e2]; exact q2, by rw [e3]; exact q3, by rw [e4]; exact q4, e5, e6⟩
  exact ⟨⟨this.1, s.bd, s.mkd.write s.r hm hg rfl (o' := .loop f' tmps ps asg body st' pend') rfl (fun j hj => World.putObj_heap_other hj) fun _ _ e => by cases e⟩, this.2⟩

theorem RetR.of {v : AV} {h' : Heap} {e : Ending} {w' : World} (x : RetR P μ h w v h' e w') : ∃ μ' v', e = .returned v' ∧ V μ' v v' ∧ St P μ' h' w' ∧ Fr μ h w μ' h' w' := x

/-- Code. -/
theorem acode_sim {call : Tgt → List AV → Heap → AR} (hcall : SimCall P call) (hdraw : SimDraw P call) (self : FuncId) (B : Nat) : ∀ (n : Nat) (c : Code) (sc : SC), cCode P c = some sc → ∀ (rd r : Option Nat) (tm : List AV) (h : Heap) (e : AExit) (tm' : List AV) (h' : Heap), acode call self rd n sc tm h = some (e, tm', h') →
    ∀ (μ : Mu) (a : Act) (w : World), St P μ h w → Vs μ tm a.tmps.toList → RdR μ rd r → Marks B w a.defers → B ≤ w.heap.size → c.wpIn (F r) 0 P (CodeR P μ h w B e tm' h') a w := by
  intro n
  induction n using Nat.strongRecOn with
  | _ n ihn =>
  cases n with
  | zero => intro c sc _ rd r tm h e tm' h' hr; simp [acode] at hr
  | succ n =>
    have ih := ihn n (Nat.lt_succ_self n)
    intro c
    cases c with
    | skip =>
      intro sc hc rd r tm h e tm' h' hr μ a w s ht hrd hmk hB
      simp [cCode] at hc; subst hc
      simp [acode] at hr
      obtain ⟨rfl, rfl, rfl⟩ := hr
      exact wpIn_skip ⟨rfl, μ, ht, s, .refl _ _ _, hmk⟩
    | region id ops draw =>
      intro sc hc rd r tm h e tm' h' hr μ a w s ht hrd hmk hB
      simp only [cCode] at hc
      split at hc
      · cases hc
      · rename_i l hl
        have plain : ∀ tm₁ h₁, aops call l tm h = some (tm₁, h₁) → draw = false → (Code.region id ops draw).wpIn (F r) 0 P (CodeR P μ h w B .normal tm₁ h₁) a w := by
          intro tm₁ h₁ ha hd
          subst hd
          refine wpIn_region ?_
          rw [List.range_eq_range']
          exact aops_sim hcall r ops.toList 0 l tm h tm₁ h₁ μ a w (fun j hj => by simp) hl ha s ht fun μ' a' w' q1 q2 q3 q4 => ⟨rfl, μ', q1, q2, q3, by rw [q4]; exact q3.marks s hmk⟩
        split at hc
        · rename_i hd
          split at hc
          · rename_i hok
            simp only [Bool.and_eq_true] at hok
            subst hd
            have drawn : ∀ tm₁ h₁ lg, aopsLog call l tm h = some (tm₁, h₁, lg) → chkLog lg (drawChk (befores ops.toList) l) = true → (Code.region id ops true).wpIn (F r) 0 P (CodeR P μ h w B .normal tm₁ h₁) a w := by
              intro tm₁ h₁ lg ha hck
              exact hdraw id ops l _ hl hok.1 hok.2 rfl tm h tm₁ h₁ lg ha hck μ a w s ht r _ fun μ' a' w' q1 q2 q3 q4 => ⟨rfl, μ', q1, q2, q3, by rw [q4]; exact q3.marks s hmk⟩
            split at hc
            · rename_i hnil
              cases hc
              simp only [acode] at hr
              split at hr
              · rename_i tm₁ h₁ ha
                cases hr
                obtain ⟨lg, hlg⟩ := log_of_ops ha
                exact drawn _ _ lg hlg (by rw [hnil]; rfl)
              · cases hr
            · cases hc
              simp only [acode] at hr
              split at hr
              · rename_i tm₁ h₁ lg ha
                split at hr
                · rename_i hck
                  cases hr
                  exact drawn _ _ lg ha hck
                · cases hr
              · cases hr
          · cases hc
        · rename_i hd
          cases hc
          simp only [acode] at hr
          split at hr
          · rename_i tm₁ h₁ ha
            cases hr
            exact plain _ _ ha (by simpa using hd)
          · cases hr
    | seq x y =>
      intro sc hc rd r tm h e tm' h' hr μ a w s ht hrd hmk hB
      simp only [cCode] at hc
      split at hc
      · rename_i sx sy hx hy
        cases hc
        simp only [acode] at hr
        refine wpIn_seq ?_
        split at hr
        · rename_i tm₁ h₁ ha
          refine wpIn_mono (ih x sx hx rd r tm h .normal tm₁ h₁ ha μ a w s ht hrd hmk hB) ?_
          rintro e₁ a₁ w₁ ⟨rfl, μ₁, q1, q2, q3, q4⟩
          simp only [AExit.to, Exit.then]
          exact wpIn_mono (ih y sy hy rd r tm₁ h₁ e tm' h' hr μ₁ a₁ w₁ q2 q1 (hrd.mono q3.le) q4 (Nat.le_trans hB q3.size)) fun _ _ _ hq => hq.after q3
        · rename_i hne
          refine wpIn_mono (ih x sx hx rd r tm h e tm' h' hr μ a w s ht hrd hmk hB) ?_
          rintro e₁ a₁ w₁ ⟨rfl, rest⟩
          cases e with
          | normal => exact absurd hr (hne _ _)
          | exit id => exact ⟨rfl, rest⟩
          | ret => exact ⟨rfl, rest⟩
      · cases hc
    | cond c x y =>
      intro sc hc rd r tm h e tm' h' hr μ a w s ht hrd hmk hB
      simp only [cCode] at hc
      split at hc
      · rename_i sc' sx sy hcc hx hy
        cases hc
        simp only [acode] at hr
        have hv := cOpd_sound ht hcc
        split at hr
        · rename_i he
          rw [he] at hv
          generalize hq : a.eval c = q at hv
          cases hv
          exact wpIn_cond_true hq (ih x sx hx rd r tm h e tm' h' hr μ a w s ht hrd hmk hB)
        · rename_i he
          rw [he] at hv
          generalize hq : a.eval c = q at hv
          cases hv
          exact wpIn_cond_false hq (ih y sy hy rd r tm h e tm' h' hr μ a w s ht hrd hmk hB)
        · cases hr
      · cases hc
    | block id b =>
      intro sc hc rd r tm h e tm' h' hr μ a w s ht hrd hmk hB
      simp only [cCode, Option.map_eq_some_iff] at hc
      obtain ⟨sb, hb, rfl⟩ := hc
      simp only [acode] at hr
      refine wpIn_block ?_
      split at hr
      · rename_i id' tm₁ h₁ ha
        simp only [Option.some.injEq, Prod.mk.injEq] at hr
        obtain ⟨he, rfl, rfl⟩ := hr
        refine wpIn_mono (ih b sb hb rd r tm h (.exit id') tm₁ h₁ ha μ a w s ht hrd hmk hB) ?_
        rintro e₁ a₁ w₁ ⟨rfl, rest⟩
        simp only [AExit.to, Exit.inBlock]
        subst he
        split
        · exact ⟨rfl, rest⟩
        · exact ⟨rfl, rest⟩
      · rename_i hne
        refine wpIn_mono (ih b sb hb rd r tm h e tm' h' hr μ a w s ht hrd hmk hB) ?_
        rintro e₁ a₁ w₁ ⟨rfl, rest⟩
        cases e with
        | normal => exact ⟨rfl, rest⟩
        | exit id => exact absurd hr (hne _ _ _)
        | ret => exact ⟨rfl, rest⟩
    | loop b =>
      intro sc hc rd r tm h e tm' h' hr μ a w s ht hrd hmk hB
      simp only [cCode, Option.map_eq_some_iff] at hc
      obtain ⟨sb, hb, rfl⟩ := hc
      -- rounds
      have key : ∀ (m : Nat), m ≤ n + 1 → ∀ (tm : List AV) (h : Heap), acode call self rd m (.loop sb) tm h = some (e, tm', h') → ∀ (μ : Mu) (a : Act) (w : World), St P μ h w → Vs μ tm a.tmps.toList → RdR μ rd r → Marks B w a.defers → B ≤ w.heap.size →
          ∀ (Q : Exit → Act → World → Prop), (∀ e' a' w', CodeR P μ h w B e tm' h' e' a' w' → Q e' a' w') → Code.roundsIn (F r) 0 P b Q m a w := by
        intro m
        induction m with
        | zero => intro _ tm h hr; simp [acode] at hr
        | succ m ihm =>
          intro hle tm h hr μ a w s ht hrd hmk hB Q hQ
          simp only [acode] at hr
          rw [roundsIn_succ]
          have ihm' := ihn m (by omega)
          split at hr
          · rename_i tm₁ h₁ ha
            refine wpIn_mono (ihm' b sb hb rd r tm h .normal tm₁ h₁ ha μ a w s ht hrd hmk hB) ?_
            rintro e₁ a₁ w₁ ⟨rfl, μ₁, q1, q2, q3, q4⟩
            simp only [AExit.to, Exit.then]
            exact ihm (by omega) tm₁ h₁ hr μ₁ a₁ w₁ q2 q1 (hrd.mono q3.le) q4 (Nat.le_trans hB q3.size) Q fun e' a' w' hc => hQ e' a' w' (hc.after q3)
          · rename_i hne
            refine wpIn_mono (ihm' b sb hb rd r tm h e tm' h' hr μ a w s ht hrd hmk hB) ?_
            rintro e₁ a₁ w₁ ⟨rfl, rest⟩
            cases e with
            | normal => exact absurd hr (hne _ _)
            | exit id => exact hQ _ _ _ ⟨rfl, rest⟩
            | ret => exact hQ _ _ _ ⟨rfl, rest⟩
      exact wpIn_loop_rounds (n + 1) (key (n + 1) (Nat.le_refl _) tm h hr μ a w s ht hrd hmk hB _ fun _ _ _ hc => hc)
    | exit id =>
      intro sc hc rd r tm h e tm' h' hr μ a w s ht hrd hmk hB
      simp [cCode] at hc; subst hc
      simp [acode] at hr
      obtain ⟨rfl, rfl, rfl⟩ := hr
      exact wpIn_exit ⟨rfl, μ, ht, s, .refl _ _ _, hmk⟩
    | ret =>
      intro sc hc rd r tm h e tm' h' hr μ a w s ht hrd hmk hB
      simp [cCode] at hc; subst hc
      simp [acode] at hr
      obtain ⟨rfl, rfl, rfl⟩ := hr
      exact wpIn_ret ⟨rfl, μ, ht, s, .refl _ _ _, hmk⟩
    | rangeFunc g ps asg body =>
      intro sc hc rd r tm h e tm' h' hr μ a w s ht hrd hmk hB
      simp only [cCode] at hc
      split at hc
      case h_2 => cases hc
      rename_i sg sa sb hg hsa hsb
      cases hc
      simp only [acode] at hr
      split at hr
      case h_2 => cases hr
      rename_i gf first captured hev hrdk
      split at hr
      case h_2 => cases hr
      rename_i v0 h₁ hcl
      split at hr
      case h_2 => cases hr
      rename_i f1 t1 p1 a1 b1 st1 pend hget
      split at hr
      case isTrue => cases hr
      rename_i hbusy
      cases hr
      have hxv := cOpd_sound ht hg
      rw [hev] at hxv
      generalize hq : a.eval g = q at hxv
      cases hxv with | func _ _ _ x' y' v1 v2 =>
      -- what the statement lays
      refine wpIn_rangeFunc fun fn _ => ?_
      -- the record, at an outermost loop and in a round
      have entry : ∃ (l : Nat) (mark : List Deferred) (w₁ : World) (rec : Loop), (Instr.enterLoop fn a.tmps ps asg body r).run P w = .ok (l, mark) (w₁.alloc (.loop rec)) ∧ l = w₁.heap.size ∧
          rec.state = .ready ∧ rec.pending = none ∧ rec.tmps = a.tmps ∧ rec.params = ps ∧ rec.assign = asg ∧ rec.body = body ∧ St P μ h w₁ ∧ Fr μ h w μ h w₁ ∧ Marks B w₁ (mark ++ a.defers) := by
        cases r with
        | none =>
          obtain ⟨s₁, f₁⟩ := s.junk (.deferred (some []))
          refine ⟨w.heap.size + 1, [{ target := .collected w.heap.size, args := #[] }], w.alloc (.deferred (some [])), _, run_enterLoop_outer fn a.tmps ps asg body, by simp, rfl, rfl, rfl, rfl, rfl, rfl, s₁, f₁, ?_⟩
          refine ⟨⟨w.heap.size, rfl, hB, alloc_new w _, fun d' hd' he => ?_⟩, f₁.marks s hmk⟩
          have := hmk.lt d' hd' _ he
          omega
        | some l0 =>
          cases rd with
          | none => exact hrd.elim
          | some id0 =>
            obtain ⟨base, lim, hm0⟩ := hrd
            simp only [rdOk] at hrdk
            split at hrdk
            · rename_i hg0
              obtain ⟨rec0, hl0, _⟩ := loopObj s hm0 hg0
              exact ⟨w.heap.size, [], w, _, run_enterLoop_inner hl0 fn a.tmps ps asg body, rfl, rfl, rfl, rfl, rfl, rfl, rfl, s, .refl _ _ _, hmk⟩
            · cases hrdk
      obtain ⟨l, mark, w₁, rec, hent, hl, e1, e2, e3, e4, e5, e6, s₁, f₁, hmk₁⟩ := entry
      have hobj := allocObj_sim s₁ (.loop self tm ps.toList sa sb .ready .normal) (.loop rec) rfl ⟨rec, alloc_new w₁ _, rfl, by rw [e3]; exact ht.mono (.add (s₁.bd _ (Nat.le_refl _))), by rw [e4], by rw [e5]; exact hsa, by rw [e6]; exact hsb, e1, by rw [e2]; rfl⟩
      obtain ⟨s₂, f₂⟩ := hobj
      have hmu : muAdd μ h.next (w₁.heap.size, 0, 0) h.next = some (w₁.heap.size, 0, 0) := muAdd_same _ _ _
      have hyv : V (muAdd μ h.next (w₁.heap.size, 0, 0)) (.yieldf h.next) (.func (.yield l) #[] #[]) := by rw [hl]; exact .yieldf _ _ _ _ hmu
      have hargs : Vs (muAdd μ h.next (w₁.heap.size, 0, 0)) (first ++ [.yieldf h.next] ++ captured) ((x' ++ #[Value.func (.yield l) #[] #[]]) ++ y').toList := by
        rw [Array.toList_append, Array.toList_append]
        exact ((v1.mono f₂.le).append (.cons _ _ _ _ hyv .nil)).append (v2.mono f₂.le)
      obtain ⟨⟨gfn, hgf, hgb, hgn⟩, hcalls⟩ := hcall.1 gf _ _ v0 h₁ hcl _ _ _ s₂ hargs
      have hgn' : (gfn.name == "runtime.NumGoroutine") = false := beq_eq_false_iff_ne.2 hgn
      refine ⟨l, mark, w₁.alloc (.loop rec), { target := .fn (.func gf) y', args := x' ++ #[Value.func (.yield l) #[] #[]] }, w₁.alloc (.loop rec), gf, (x' ++ #[Value.func (.yield l) #[] #[]]) ++ y', w₁.alloc (.loop rec), hent, ?_, fun f' _ => F_fn r f', ?_, fun hd => by simp [F_depth] at hd, ?_⟩
      · simp only [resolve, rangeCall, hq, Deferred.ofValue, Sem.run_pure]
        simp [Act.eval]
      · simp only [invoke, callFunc, Sem.run_bind, run_program, Result.andThen_ok, hgf, hgn', hgb, Bool.false_eq_true, if_false]
        rfl
      · refine (calls_F r 0 hcalls).mono fun en w₃ hR => ?_
        obtain ⟨μ₃, v', rfl, hv', s₃, f₃⟩ := hR
        have hm₃ := f₃.le _ _ hmu
        obtain ⟨rec₃, hl₃, q1, q2, q3, q4, q5, q6⟩ := loopObj s₃ hm₃ hget
        have hput := loopPut s₃ hm₃ hget rec₃ hl₃ f1 .exhausted e { rec₃ with state := .exhausted } rfl rfl rfl rfl rfl q6
        have hne : rec₃.state ≠ .busy := by rw [q5]; exact hbusy
        have hend := run_endLoop (P := P) hl₃ hne
        have fall : Fr μ h w μ₃ (h₁.set h.next (.loop f1 t1 p1 a1 b1 .exhausted e)) (w₃.putObj w₁.heap.size (.loop { rec₃ with state := .exhausted })) := f₁.trans (f₂.trans (f₃.trans hput.2))
        have mall : Marks B (w₃.putObj w₁.heap.size (.loop { rec₃ with state := .exhausted })) (mark ++ a.defers) := (f₂.trans (f₃.trans hput.2)).marks s₁ hmk₁
        have hpost : CodeR P μ h w B e tm (h₁.set h.next (.loop f1 t1 p1 a1 b1 .exhausted e)) e.to { a with defers := mark ++ a.defers } (w₃.putObj w₁.heap.size (.loop { rec₃ with state := .exhausted })) :=
          ⟨rfl, μ₃, ht.mono fall.le, hput.1, fall, mall⟩
        refine ⟨rec₃.pending, w₃.putObj w₁.heap.size (.loop { rec₃ with state := .exhausted }), by rw [hl]; exact hend, ?_⟩
        rw [q6] at hpost ⊢
        cases e with
        | normal => exact hpost
        | exit id => exact wpIn_exit hpost
        | ret => exact wpIn_ret hpost
    | _ => intro sc hc; simp [cCode] at hc
end
end Go.Ya
