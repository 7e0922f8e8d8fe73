/-
  The abstract machine without fuel: what it comes to with enough of it; and its equations.
-/
import Derived.Test.YtekbgdmemenheaaYaFast
namespace Go.Ya
set_option linter.unusedVariables false
set_option linter.unusedSimpArgs false

/-- c' answers all that c answers. -/
def Sub (c c' : Tgt → List AV → Heap → AR) : Prop := ∀ t args h r, c t args h = some r → c' t args h = some r
theorem Sub.refl (c : Tgt → List AV → Heap → AR) : Sub c c := fun _ _ _ _ e => e

section
variable {c c' : Tgt → List AV → Heap → AR}
theorem aop_mono (hs : Sub c c') {tm : List AV} {h : Heap} {o : SOp} {r : AV × Heap} (e : aop c tm h o = some r) : aop c' tm h o = some r := by
  cases o with
  | call f args => exact hs _ _ _ _ e
  | callV x args =>
    simp only [aop] at e ⊢
    split at e
    · exact hs _ _ _ _ e
    · exact hs _ _ _ _ e
    · cases e
  | _ => exact e
theorem aops_mono (hs : Sub c c') : ∀ {l : List SOper} {tm : List AV} {h : Heap} {r : List AV × Heap}, aops c l tm h = some r → aops c' l tm h = some r
  | [], tm, h, r, e => e
  | o :: l, tm, h, r, e => by
    unfold aops at e ⊢
    split
    · rename_i hw
      rw [if_pos hw] at e
      cases ho : aop c tm h o.op with
      | none => rw [ho] at e; cases e
      | some p =>
        rw [ho] at e
        rw [aop_mono hs ho]
        exact aops_mono hs e
    · rename_i hw
      rw [if_neg hw] at e
      exact aops_mono hs e
theorem aopsLog_mono (hs : Sub c c') : ∀ {l : List SOper} {tm : List AV} {h : Heap} {r : List AV × Heap × List (Option Nat × Heap × Heap)}, aopsLog c l tm h = some r → aopsLog c' l tm h = some r
  | [], tm, h, r, e => e
  | o :: l, tm, h, r, e => by
    unfold aopsLog at e ⊢
    split
    · rename_i hw
      rw [if_pos hw] at e
      cases ho : aop c tm h o.op with
      | none => rw [ho] at e; cases e
      | some p =>
        rw [ho] at e
        rw [aop_mono hs ho]
        simp only at e ⊢
        cases hl : aopsLog c l (putT tm o.dst p.1) p.2 with
        | none => rw [hl] at e; cases e
        | some q => rw [aopsLog_mono hs hl]; rw [hl] at e; exact e
    · rename_i hw
      rw [if_neg hw] at e
      cases hl : aopsLog c l (putT tm o.dst undefA) h with
      | none => rw [hl] at e; cases e
      | some q => rw [aopsLog_mono hs hl]; rw [hl] at e; exact e

theorem acode_succ (call : Tgt → List AV → Heap → AR) (self : FuncId) (rd : Option Nat) (n : Nat) (cd : SC) (tm : List AV) (h : Heap) :
    acode call self rd (n + 1) cd tm h = acodeStep call self rd (acode call self rd n) cd tm h := by
  have e : acodeF call self rd n = acode call self rd n := by funext cd tm h; exact acodeF_eq call self rd n cd tm h
  rw [← acodeF_eq]
  show acodeStep call self rd (acodeF call self rd n) cd tm h = _
  rw [e]

def SubC (k k' : SC → List AV → Heap → AOut) : Prop := ∀ cd tm h r, k cd tm h = some r → k' cd tm h = some r

theorem acodeStep_mono (hs : Sub c c') {k k' : SC → List AV → Heap → AOut} (hk : SubC k k') {self : FuncId} {rd : Option Nat} {cd : SC} {tm : List AV} {h : Heap} {r : AExit × List AV × Heap}
    (e : acodeStep c self rd k cd tm h = some r) : acodeStep c' self rd k' cd tm h = some r := by
  cases cd with
  | skip => exact e
  | exit id => exact e
  | ret => exact e
  | ops l =>
    simp only [acodeStep, code_ops, aopsF_eq] at e ⊢
    cases hl : aops c l tm h with
    | none => rw [hl] at e; cases e
    | some q => rw [aops_mono hs hl]; rw [hl] at e; exact e
  | drawOps l chk =>
    simp only [acodeStep, code_draw] at e ⊢
    cases hl : aopsLog c l tm h with
    | none => rw [hl] at e; cases e
    | some q => rw [aopsLog_mono hs hl]; rw [hl] at e; exact e
  | seq a b =>
    simp only [acodeStep] at e ⊢
    cases ha : k a tm h with
    | none => rw [ha] at e; cases e
    | some q =>
      rw [ha] at e; rw [hk _ _ _ _ ha]
      obtain ⟨x, tm', h'⟩ := q
      cases x <;> simp only [code_then] at e ⊢ <;> first | exact e | exact hk _ _ _ _ e
  | loop b =>
    simp only [acodeStep] at e ⊢
    cases ha : k b tm h with
    | none => rw [ha] at e; cases e
    | some q =>
      rw [ha] at e; rw [hk _ _ _ _ ha]
      obtain ⟨x, tm', h'⟩ := q
      cases x <;> simp only [code_then] at e ⊢ <;> first | exact e | exact hk _ _ _ _ e
  | cond x a b =>
    simp only [acodeStep, code_cond] at e ⊢
    split at e
    · exact hk _ _ _ _ e
    · exact hk _ _ _ _ e
    · cases e
  | block id b =>
    simp only [acodeStep] at e ⊢
    cases ha : k b tm h with
    | none => rw [ha] at e; cases e
    | some q => rw [ha] at e; rw [hk _ _ _ _ ha]; exact e
  | rangeFunc f ps asg body =>
    simp only [acodeStep, code_range] at e ⊢
    split
    · rename_i g first captured hf hrd
      rw [hf, hrd] at e
      simp only at e
      cases hc : c (.fn g) (first ++ [.yieldf h.next] ++ captured) (h.alloc (.loop self tm ps asg body .ready .normal)) with
      | none => rw [hc] at e; cases e
      | some q => rw [hs _ _ _ _ hc]; rw [hc] at e; exact e
    · rename_i hne
      split at e
      · rename_i g first captured hf hrd
        exact absurd hrd (hne g first captured hf)
      · cases e

theorem acode_mono (hs : Sub c c') (self : FuncId) (rd : Option Nat) : ∀ n m, n ≤ m → SubC (acode c self rd n) (acode c' self rd m)
  | 0, _, _, _, _, _, _, e => by simp [acode] at e
  | n + 1, 0, h, _, _, _, _, _ => by omega
  | n + 1, m + 1, h, cd, tm, hp, r, e => by
    rw [acode_succ] at e ⊢
    exact acodeStep_mono hs (acode_mono hs self rd n m (by omega)) e
end

section
variable {X : Known} {SP : FuncId → Option SFunc}
theorem acall_succ (n : Nat) (t : Tgt) (args : List AV) (h : Heap) : acall X SP (n + 1) t args h = acallStep X SP n (acall X SP n) t args h := by
  rw [← acallF_eq, ← acallF_eq]; rfl

/-- One yield, of one meaning of code. -/
theorem yieldF_mono {k k' : FuncId → SC → List AV → Heap → AOut} (hk : ∀ f, SubC (k f) (k' f)) {l : Nat} {args : List AV} {h : Heap} {r : AV × Heap} (e : yieldF k l args h = some r) : yieldF k' l args h = some r := by
  unfold yieldF at e
  split at e
  case h_2 => cases e
  rename_i f tmps params asg body p hg
  split at e
  case h_1 => cases e
  rename_i tm hz
  split at e
  case h_2 => cases e
  rename_i tm₁ h₁ hc
  split at e
  case h_2 => cases e
  rename_i f' t' p' a' b' pe' hg1
  split at e
  case h_2 => cases e
  rename_i x tm₂ h₂ hb
  unfold yieldF
  rw [hg]
  simp only [hz]
  rw [hk _ _ _ _ _ hc]
  simp only [hg1]
  rw [hk _ _ _ _ _ hb]
  exact e

theorem acall_mono : ∀ n m, n ≤ m → Sub (acall X SP n) (acall X SP m)
  | 0, _, _, _, _, _, _, e => by simp [acall] at e
  | n + 1, 0, h, _, _, _, _, _ => by omega
  | n + 1, m + 1, hnm, t, args, h, r, e => by
    have ih := acall_mono n m (by omega)
    rw [acall_succ] at e ⊢
    cases t with
    | fn f =>
      simp only [acallStep] at e ⊢
      cases hx : X f args h with
      | some q => rw [hx] at e; exact e
      | none =>
        rw [hx] at e
        simp only at e ⊢
        cases hf : SP f with
        | none => rw [hf] at e; cases e
        | some fn =>
          rw [hf] at e
          simp only [fnF, acodeF_eq] at e ⊢
          cases hc : acode (acall X SP n) f none n fn.body (args ++ List.replicate (fn.ntmps - args.length) undefA) h with
          | none => rw [hc] at e; cases e
          | some q => rw [acode_mono ih f none n m (by omega) _ _ _ _ hc]; rw [hc] at e; exact e
    | yield l =>
      simp only [acallStep] at e ⊢
      refine yieldF_mono (fun f => ?_) e
      intro cd tm h r e
      rw [acodeF_eq] at e ⊢
      exact acode_mono ih f (some l) n m (by omega) _ _ _ _ e

/-- What a family of growing answers comes to. -/
noncomputable def lim {α : Type} (g : Nat → Option α) : Option α := open Classical in if h : ∃ n, (g n).isSome = true then g h.choose else none
theorem lim_iff {α : Type} {g : Nat → Option α} (hm : ∀ n m, n ≤ m → ∀ r, g n = some r → g m = some r) (r : α) : lim g = some r ↔ ∃ n, g n = some r := by
  unfold lim
  split
  · rename_i h
    refine ⟨fun e => ⟨_, e⟩, fun ⟨n, e⟩ => ?_⟩
    obtain ⟨q, hq⟩ := Option.isSome_iff_exists.1 h.choose_spec
    have h1 := hm _ (max h.choose n) (by omega) _ hq
    have h2 := hm _ (max h.choose n) (by omega) _ e
    rw [hq, ← h1, h2]
  · rename_i h
    exact ⟨fun e => (by cases e), fun ⟨n, e⟩ => absurd ⟨n, by rw [e]; rfl⟩ h⟩

noncomputable def xcall (X : Known) (SP : FuncId → Option SFunc) : Tgt → List AV → Heap → AR := fun t args h => lim fun n => acall X SP n t args h
noncomputable def xcode (X : Known) (SP : FuncId → Option SFunc) (self : FuncId) (rd : Option Nat) : SC → List AV → Heap → AOut := fun cd tm h => lim fun n => acode (acall X SP n) self rd n cd tm h

theorem xcall_iff {t : Tgt} {args : List AV} {h : Heap} {r : AV × Heap} : xcall X SP t args h = some r ↔ ∃ n, acall X SP n t args h = some r :=
  lim_iff (fun n m hnm r e => acall_mono n m hnm _ _ _ _ e) r
theorem xcode_iff {self : FuncId} {rd : Option Nat} {cd : SC} {tm : List AV} {h : Heap} {r : AExit × List AV × Heap} : xcode X SP self rd cd tm h = some r ↔ ∃ n, acode (acall X SP n) self rd n cd tm h = some r :=
  lim_iff (fun n m hnm r e => acode_mono (acall_mono n m hnm) self rd n m hnm _ _ _ _ e) r
theorem sub_x (n : Nat) : Sub (acall X SP n) (xcall X SP) := fun _ _ _ _ e => xcall_iff.2 ⟨n, e⟩
theorem subC_x (self : FuncId) (rd : Option Nat) (n m : Nat) : SubC (acode (acall X SP n) self rd m) (xcode X SP self rd) := fun _ _ _ _ e =>
  xcode_iff.2 ⟨max n m, acode_mono (acall_mono n (max n m) (by omega)) self rd m (max n m) (by omega) _ _ _ _ e⟩

theorem aop_x {tm : List AV} {h : Heap} {o : SOp} {r : AV × Heap} (e : aop (xcall X SP) tm h o = some r) : ∃ n, aop (acall X SP n) tm h o = some r := by
  cases o with
  | call f args => exact xcall_iff.1 e
  | callV x args =>
    simp only [aop] at e ⊢
    split at e
    · exact xcall_iff.1 e
    · exact xcall_iff.1 e
    · cases e
  | _ => exact ⟨0, e⟩
theorem aops_x : ∀ {l : List SOper} {tm : List AV} {h : Heap} {r : List AV × Heap}, aops (xcall X SP) l tm h = some r → ∃ n, aops (acall X SP n) l tm h = some r
  | [], tm, h, r, e => ⟨0, e⟩
  | o :: l, tm, h, r, e => by
    unfold aops at e
    split at e
    · rename_i hw
      split at e
      · rename_i v h' ho
        obtain ⟨n, hn⟩ := aop_x ho
        obtain ⟨m, hm⟩ := aops_x e
        refine ⟨max n m, ?_⟩
        unfold aops
        rw [if_pos hw, aop_mono (acall_mono n (max n m) (by omega)) hn]
        exact aops_mono (acall_mono m (max n m) (by omega)) hm
      · cases e
    · rename_i hw
      obtain ⟨m, hm⟩ := aops_x e
      refine ⟨m, ?_⟩
      unfold aops
      rw [if_neg hw]
      exact hm
theorem aopsLog_x : ∀ {l : List SOper} {tm : List AV} {h : Heap} {r : List AV × Heap × List (Option Nat × Heap × Heap)}, aopsLog (xcall X SP) l tm h = some r → ∃ n, aopsLog (acall X SP n) l tm h = some r
  | [], tm, h, r, e => ⟨0, e⟩
  | o :: l, tm, h, r, e => by
    unfold aopsLog at e
    split at e
    · rename_i hw
      split at e
      · rename_i v h' ho
        obtain ⟨n, hn⟩ := aop_x ho
        split at e
        · rename_i a b lg hl
          obtain ⟨m, hm⟩ := aopsLog_x hl
          refine ⟨max n m, ?_⟩
          unfold aopsLog
          rw [if_pos hw, aop_mono (acall_mono n (max n m) (by omega)) hn]
          simp only
          rw [aopsLog_mono (acall_mono m (max n m) (by omega)) hm]
          exact e
        · cases e
      · cases e
    · rename_i hw
      split at e
      · rename_i a b lg hl
        obtain ⟨m, hm⟩ := aopsLog_x hl
        refine ⟨m, ?_⟩
        unfold aopsLog
        rw [if_neg hw, hm]
        exact e
      · cases e

/-- Code, by its parts. -/
theorem xcode_step (self : FuncId) (rd : Option Nat) (cd : SC) (tm : List AV) (h : Heap) : xcode X SP self rd cd tm h = acodeStep (xcall X SP) self rd (xcode X SP self rd) cd tm h := by
  apply Option.ext
  intro r
  constructor
  · intro e
    obtain ⟨n, hn⟩ := xcode_iff.1 e
    cases n with
    | zero => simp [acode] at hn
    | succ n =>
      rw [acode_succ] at hn
      exact acodeStep_mono (sub_x (n + 1)) (subC_x self rd (n + 1) n) hn
  · intro e
    have key : ∃ n m, acodeStep (acall X SP n) self rd (acode (acall X SP n) self rd m) cd tm h = some r := by
      cases cd with
      | skip => exact ⟨0, 0, e⟩
      | exit id => exact ⟨0, 0, e⟩
      | ret => exact ⟨0, 0, e⟩
      | ops l =>
        simp only [acodeStep, code_ops, aopsF_eq] at e ⊢
        split at e
        · rename_i a b hl
          obtain ⟨n, hn⟩ := aops_x hl
          exact ⟨n, 0, by rw [hn]; exact e⟩
        · cases e
      | drawOps l chk =>
        simp only [acodeStep, code_draw] at e ⊢
        split at e
        · rename_i a b lg hl
          obtain ⟨n, hn⟩ := aopsLog_x hl
          exact ⟨n, 0, by rw [hn]; exact e⟩
        · cases e
      | seq a b =>
        simp only [acodeStep] at e ⊢
        cases ha : xcode X SP self rd a tm h with
        | none => rw [ha] at e; cases e
        | some q =>
          rw [ha] at e
          obtain ⟨n, hn⟩ := xcode_iff.1 ha
          obtain ⟨x, tm', h'⟩ := q
          cases x with
          | normal =>
            obtain ⟨m, hm⟩ := xcode_iff.1 (show xcode X SP self rd b tm' h' = some r from e)
            refine ⟨max n m, max n m, ?_⟩
            rw [acode_mono (acall_mono n (max n m) (by omega)) self rd n (max n m) (by omega) _ _ _ _ hn]
            exact acode_mono (acall_mono m (max n m) (by omega)) self rd m (max n m) (by omega) _ _ _ _ hm
          | exit id => exact ⟨n, n, by rw [hn]; exact e⟩
          | ret => exact ⟨n, n, by rw [hn]; exact e⟩
      | loop b =>
        simp only [acodeStep] at e ⊢
        cases ha : xcode X SP self rd b tm h with
        | none => rw [ha] at e; cases e
        | some q =>
          rw [ha] at e
          obtain ⟨n, hn⟩ := xcode_iff.1 ha
          obtain ⟨x, tm', h'⟩ := q
          cases x with
          | normal =>
            obtain ⟨m, hm⟩ := xcode_iff.1 (show xcode X SP self rd (.loop b) tm' h' = some r from e)
            refine ⟨max n m, max n m, ?_⟩
            rw [acode_mono (acall_mono n (max n m) (by omega)) self rd n (max n m) (by omega) _ _ _ _ hn]
            exact acode_mono (acall_mono m (max n m) (by omega)) self rd m (max n m) (by omega) _ _ _ _ hm
          | exit id => exact ⟨n, n, by rw [hn]; exact e⟩
          | ret => exact ⟨n, n, by rw [hn]; exact e⟩
      | cond x a b =>
        simp only [acodeStep, code_cond] at e ⊢
        split at e
        · obtain ⟨n, hn⟩ := xcode_iff.1 e; exact ⟨n, n, by simpa using hn⟩
        · obtain ⟨n, hn⟩ := xcode_iff.1 e; exact ⟨n, n, by simpa using hn⟩
        · cases e
      | block id b =>
        simp only [acodeStep] at e ⊢
        cases ha : xcode X SP self rd b tm h with
        | none => rw [ha] at e; cases e
        | some q =>
          rw [ha] at e
          obtain ⟨n, hn⟩ := xcode_iff.1 ha
          exact ⟨n, n, by rw [hn]; exact e⟩
      | rangeFunc f ps asg body =>
        simp only [acodeStep, code_range] at e ⊢
        split at e
        · rename_i g first captured hf hrd
          cases hc : xcall X SP (.fn g) (first ++ [.yieldf h.next] ++ captured) (h.alloc (.loop self tm ps asg body .ready .normal)) with
          | none => rw [hc] at e; cases e
          | some q =>
            rw [hc] at e
            obtain ⟨n, hn⟩ := xcall_iff.1 hc
            exact ⟨n, 0, by rw [hn]; exact e⟩
        · cases e
    obtain ⟨n, m, hk⟩ := key
    refine xcode_iff.2 ⟨max n m + 1, ?_⟩
    rw [acode_succ]
    exact acodeStep_mono (acall_mono n _ (by omega)) (acode_mono (acall_mono n _ (by omega)) self rd m _ (by omega)) hk

theorem xcall_fn (f : FuncId) (args : List AV) (h : Heap) : xcall X SP (.fn f) args h = (match X f args h with
    | some r => some r
    | none => match SP f with
      | none => none
      | some fn => retA fn (xcode X SP f none fn.body (args ++ List.replicate (fn.ntmps - args.length) undefA) h)) := by
  apply Option.ext
  intro r
  constructor
  · intro e
    obtain ⟨n, hn⟩ := xcall_iff.1 e
    cases n with
    | zero => simp [acall] at hn
    | succ n =>
      rw [acall_succ] at hn
      simp only [acallStep] at hn
      cases hx : X f args h with
      | some q => rw [hx] at hn; exact hn
      | none =>
        rw [hx] at hn
        simp only at hn ⊢
        cases hf : SP f with
        | none => rw [hf] at hn; cases hn
        | some fn =>
          rw [hf] at hn
          simp only [fnF, acodeF_eq] at hn ⊢
          cases hc : acode (acall X SP n) f none n fn.body (args ++ List.replicate (fn.ntmps - args.length) undefA) h with
          | none => rw [hc] at hn; cases hn
          | some q => rw [subC_x f none n n _ _ _ _ hc]; rw [hc] at hn; exact hn
  · intro e
    cases hx : X f args h with
    | some q => rw [hx] at e; exact xcall_iff.2 ⟨1, by rw [acall_succ]; simp only [acallStep, hx]; exact e⟩
    | none =>
      rw [hx] at e
      simp only at e
      cases hf : SP f with
      | none => rw [hf] at e; cases e
      | some fn =>
        rw [hf] at e
        simp only at e
        cases hc : xcode X SP f none fn.body (args ++ List.replicate (fn.ntmps - args.length) undefA) h with
        | none => rw [hc] at e; cases e
        | some q =>
          obtain ⟨n, hn⟩ := xcode_iff.1 hc
          refine xcall_iff.2 ⟨n + 1, ?_⟩
          rw [acall_succ]
          simp only [acallStep, hx, hf, fnF, acodeF_eq, hn]
          rw [hc] at e
          exact e

theorem xcall_yield (l : Nat) (args : List AV) (h : Heap) : xcall X SP (.yield l) args h = yieldF (fun f => xcode X SP f (some l)) l args h := by
  apply Option.ext
  intro r
  constructor
  · intro e
    obtain ⟨n, hn⟩ := xcall_iff.1 e
    cases n with
    | zero => simp [acall] at hn
    | succ n =>
      rw [acall_succ] at hn
      simp only [acallStep] at hn
      refine yieldF_mono (fun f => ?_) hn
      intro cd tm h r e
      rw [acodeF_eq] at e
      exact subC_x f (some l) n n _ _ _ _ e
  · intro e
    have key : ∃ n, yieldF (fun f => acode (acall X SP n) f (some l) n) l args h = some r := by
      unfold yieldF at e
      split at e
      case h_2 => cases e
      rename_i f tmps params asg body p hg
      split at e
      case h_1 => cases e
      rename_i tm hz
      split at e
      case h_2 => cases e
      rename_i tm₁ h₁ hc
      obtain ⟨n, hn⟩ := xcode_iff.1 hc
      split at e
      case h_2 => cases e
      rename_i f' t' p' a' b' pe' hg1
      split at e
      case h_2 => cases e
      rename_i x tm₂ h₂ hb
      obtain ⟨m, hm⟩ := xcode_iff.1 hb
      refine ⟨max n m, ?_⟩
      unfold yieldF
      rw [hg]
      simp only [hz]
      rw [acode_mono (acall_mono n (max n m) (by omega)) f (some l) n (max n m) (by omega) _ _ _ _ hn]
      simp only [hg1]
      rw [acode_mono (acall_mono m (max n m) (by omega)) f (some l) m (max n m) (by omega) _ _ _ _ hm]
      exact e
    obtain ⟨n, hn⟩ := key
    refine xcall_iff.2 ⟨n + 1, ?_⟩
    rw [acall_succ]
    simp only [acallStep]
    refine yieldF_mono (fun f => ?_) hn
    intro cd tm h r e
    rw [acodeF_eq]
    exact e
end
end Go.Ya
