/-
  Regions that draw their order: the game. Whatever operation comes up next, what is there fits the text's order.
-/
import Derived.Test.YtndcokalnpnbgaaYaDraw2
namespace Go.Ya
set_option linter.unusedVariables false
set_option linter.unusedSimpArgs false
open Classical

def left (listed : Array Bool) : Nat := listed.toList.countP (! ·)

theorem left_set {listed : Array Bool} {i : Nat} (h : i < listed.size) (hf : listed[i] = false) : left listed = left (listed.setIfInBounds i true) + 1 := by
  unfold left
  rw [Array.toList_setIfInBounds]
  generalize hl : listed.toList = l
  have hi : i < l.length := by rw [← hl]; simpa using h
  have hv : l[i]'hi = false := by
    have : listed.toList[i]? = some false := by rw [Array.getElem?_toList]; simp [h, hf]
    rw [hl, List.getElem?_eq_getElem hi] at this
    exact Option.some.inj this
  clear hl hf h listed
  induction l generalizing i with
  | nil => simp at hi
  | cons x l ih =>
    cases i with
    | zero => simp at hv; subst hv; simp
    | succ i =>
      simp only [List.set_cons_succ, List.countP_cons]
      have := ih (i := i) (by simpa using hi) (by simpa using hv)
      omega
theorem left_zero {listed : Array Bool} (h : left listed = 0) (i : Nat) (hi : i < listed.size) : listed.getD i false = true := by
  unfold left at h
  rw [List.countP_eq_zero] at h
  have hm : listed[i] ∈ listed.toList := by simp
  have := h _ hm
  simp at this
  simp [Array.getD_eq_getD_getElem?, hi, this]

theorem cOpers_get {P : Program} {ops : Array Oper} : ∀ {l : List Oper} {sl : List SOper}, cOpers P ops l = some sl → sl.length = l.length ∧ ∀ (i : Nat) (o : Oper), l[i]? = some o → ∃ so, sl[i]? = some so ∧ cOper P ops o = some so
  | [], sl, e => by simp [cOpers] at e; subst e; exact ⟨rfl, fun i o h => by simp at h⟩
  | x :: l, sl, e => by
    simp only [cOpers] at e
    split at e
    · rename_i s sl' hs hsl
      cases e
      obtain ⟨h1, h2⟩ := cOpers_get hsl
      refine ⟨by simp [h1], fun i o ho => ?_⟩
      cases i with
      | zero => simp at ho; subst ho; exact ⟨s, rfl, hs⟩
      | succ i => simpa using h2 i o (by simpa using ho)
    · cases e

theorem chk_log {lg : List (Option Nat × Heap × Heap)} : ∀ {chk : List (Nat × Nat)}, chkLog lg chk = true → ∀ i q, (i, q) ∈ chk → ∀ id h1 h2 r hq hq', lg[i]? = some (some id, h1, h2) → lg[q]? = some (r, hq, hq') → hq.get id = hq'.get id
  | [], _, i, q, h => by cases h
  | (i', q') :: chk, hc, i, q, hm => by
    intro id h1 h2 r hq hq' e1 e2
    simp only [chkLog, Bool.and_eq_true] at hc
    rcases List.mem_cons.1 hm with e | hm
    · cases e
      rw [e1, e2] at hc
      exact sameObj_eq hc.1
    · exact chk_log hc.2 i q hm id h1 h2 r hq hq' e1 e2

section
variable {P : Program} {call : Tgt → List AV → Heap → AR}

theorem draw_sim (hmix : P.follows .mixedOrders = true) (hcall : SimCall P call) : SimDraw P call := by
  intro id ops l chk hcv hedge hdraw hchk tm h tm' h' lg hlog hck μ₀ a₀ w₀ s₀ ht₀ r Q hQ
  obtain ⟨T, H, val, t0, h0, t1, h1, tr⟩ := trace_of hlog
  obtain ⟨hlen, hget⟩ := cOpers_get hcv
  have hlen : l.length = ops.size := by simpa using hlen
  have hgo : ∀ i o, ops[i]? = some o → ∃ so, l[i]? = some so ∧ cOper P ops o = some so := fun i o ho => hget i o (by simpa using ho)
  have hol : ∀ i so, l[i]? = some so → ∃ o, ops[i]? = some o ∧ cOper P ops o = some so := fun i so hso => by
    have hi : i < ops.size := by
      rw [← hlen]
      rcases Nat.lt_or_ge i l.length with h' | h'
      · exact h'
      · rw [List.getElem?_eq_none h'] at hso; cases hso
    obtain ⟨so', e1, e2⟩ := hgo i ops[i] (Array.getElem?_eq_getElem hi)
    rw [hso] at e1; cases e1
    exact ⟨ops[i], Array.getElem?_eq_getElem hi, e2⟩
  have hT : ∀ i o, l[i]? = some o → T (i + 1) = putT (T i) o.dst (val i) := fun i o ho => (tr.step i o ho).1
  -- what is not heavy leaves the heap
  have hH : ∀ i o, l[i]? = some o → o.op.class ≠ .heavy → H (i + 1) = H i := fun i o ho hc => by
    rcases (tr.step i o ho).2 with ⟨_, ha, _⟩ | ⟨_, _, ha, _⟩
    · exact (aop_local call (h2 := H i) hc ha fun _ _ _ _ => rfl).2
    · exact ha
  -- over a stretch
  have hstretch : ∀ (a b : Nat), a ≤ b → b ≤ l.length → (∀ j o, a ≤ j → j < b → l[j]? = some o → o.op.class ≠ .heavy) → H b = H a := by
    intro a b hab
    induction b with
    | zero => intro _ _; have : a = 0 := by omega
              subst this; rfl
    | succ b ih =>
      intro hb hn
      by_cases e : a = b + 1
      · subst e; rfl
      · have hbl : b < l.length := by omega
        rw [hH b l[b] (List.getElem?_eq_getElem hbl) (hn b _ (by omega) (by omega) (List.getElem?_eq_getElem hbl))]
        exact ih (by omega) (by omega) fun j o h1 h2 h3 => hn j o h1 (by omega) h3
  have hstretchId : ∀ (id a b : Nat), a ≤ b → b ≤ l.length → (∀ j o, a ≤ j → j < b → l[j]? = some o → o.op.class = .heavy → (H j).get id = (H (j + 1)).get id) → (H b).get id = (H a).get id := by
    intro id a b hab
    induction b with
    | zero => intro _ _; have : a = 0 := by omega
              subst this; rfl
    | succ b ih =>
      intro hb hn
      by_cases e : a = b + 1
      · subst e; rfl
      · have hbl : b < l.length := by omega
        have hob := List.getElem?_eq_getElem hbl
        have hstep : (H (b + 1)).get id = (H b).get id := by
          by_cases hc : (l[b]).op.class = .heavy
          · exact (hn b _ (by omega) (by omega) hob hc).symm
          · rw [hH b _ hob hc]
        rw [hstep]
        exact ih (by omega) (by omega) fun j o h1 h2 h3 h4 => hn j o h1 (by omega) h3 h4
  refine wpIn_region_any hmix ?_
  rw [World.drew_eq]
  have game : ∀ (fuel : Nat) (listed : Array Bool) (μ : Mu) (a : Act) (w : World) (k : Nat), left listed = fuel → listed.size = ops.size →
      (∀ i j, listed.getD i false = true → j ∈ (befores ops.toList).getD i [] → listed.getD j false = true) →
      k ≤ l.length → (∀ j o, l[j]? = some o → o.op.class = .heavy → (listed.getD j false = true ↔ j < k)) → St P μ (H k) w →
      Vs μ (Cur l val (fun j => listed.getD j false = true) tm l.length) a.tmps.toList → Fr μ₀ h w₀ μ (H k) w → a.defers = a₀.defers →
      wpAnyIn (F r) 0 P .any ops Q fuel listed a w := by
    intro fuel
    induction fuel with
    | zero =>
      intro listed μ a w k hleft hsz hclosed hk hheavy s hv hfr hdf
      have hall : ∀ j, j < l.length → listed.getD j false = true := fun j hj => left_zero hleft j (by omega)
      refine ⟨?_, ?_⟩
      · rw [List.eq_nil_iff_forall_not_mem]
        intro j hj
        rw [mem_ready] at hj
        obtain ⟨q1, o, q2, _⟩ := hj
        have hjl : j < l.length := by rw [hlen]; exact (Array.getElem?_eq_some_iff.1 q2).1
        have hx := hall j hjl
        have hsz' : j < listed.size := by omega
        simp [Array.getD_eq_getD_getElem?, hsz'] at q1 hx
        rw [q1] at hx; cases hx
      · have hT' := cur_all (val := val) (X := fun j => listed.getD j false = true) t0 hT hall l.length (Nat.le_refl _)
        rw [hT', t1] at hv
        have hHk : H l.length = H k := hstretch k l.length hk (Nat.le_refl _) fun j o q1 q2 q3 hc => by
          have := (hheavy j o q3 hc).1 (hall j q2)
          omega
        rw [← hHk, h1] at s hfr
        exact hQ μ a w hv s hfr hdf
    | succ fuel ih =>
      intro listed μ a w k hleft hsz hclosed hk hheavy s hv hfr hdf
      refine ⟨fun hnil => ?_, fun i hi => ?_⟩
      · -- something is ready
        exfalso
        have hall : ∀ j, j < ops.size → listed.getD j false = true := by
          intro j
          induction j using Nat.strongRecOn with
          | _ j ihj =>
            intro hj
            cases hx : listed.getD j false with
            | true => rfl
            | false =>
              have hm : j ∈ Region.ready .any ops listed := by
                rw [mem_ready]
                refine ⟨?_, ops[j], by simp [hj], fun e he hb => ?_⟩
                · have hsz' : j < listed.size := by omega
                  simp [Array.getD_eq_getD_getElem?, hsz'] at hx ⊢
                  exact hx
                · have := edges_lt hedge (i := j) (o := ops[j]) (by simp [hj]) e (by simpa using he) hb
                  exact ihj e.on this (by omega)
              rw [hnil] at hm
              cases hm
        have : left listed = 0 := by
          unfold left
          rw [List.countP_eq_zero]
          intro x hx
          obtain ⟨j, hj, rfl⟩ := List.mem_iff_getElem.1 hx
          have hjs : j < listed.size := by simpa using hj
          have := hall j (by omega)
          simp [Array.getD_eq_getD_getElem?, hjs] at this
          simp [this]
        omega
      · rw [mem_ready] at hi
        obtain ⟨hni, o, ho, hedges⟩ := hi
        obtain ⟨so, hso, hcso⟩ := hgo i o ho
        have hil : i < l.length := by rw [hlen]; exact (Array.getElem?_eq_some_iff.1 ho).1
        have his : i < listed.size := by omega
        have hnx : listed.getD i false = false := by
          simp [Array.getD_eq_getD_getElem?, his] at hni ⊢; exact hni
        have hli : listed[i] = false := by
          simp [Array.getD_eq_getD_getElem?, his] at hni; exact hni
        -- what stands before is done
        have hpred : ∀ j, j ∈ (befores ops.toList).getD i [] → listed.getD j false = true := by
          intro j hj
          obtain ⟨e, he, hb, hx⟩ := befores_mem hedge (i := i) (o := o) (by simpa using ho) hj
          have hon := hedges e (by simpa using he) hb
          rcases hx with rfl | hx
          · exact hon
          · exact hclosed e.on j hon hx
        -- two that are in order
        have hord : ∀ j, ordered (befores ops.toList) i j = true → (j < i → listed.getD j false = true) ∧ (i < j → listed.getD j false = false) := by
          intro j hj
          unfold ordered at hj
          rw [List.contains_iff_mem] at hj
          refine ⟨fun hlt => ?_, fun hlt => ?_⟩
          · rw [Nat.max_eq_left (by omega), Nat.min_eq_right (by omega)] at hj
            exact hpred j hj
          · rw [Nat.max_eq_right (by omega), Nat.min_eq_left (by omega)] at hj
            cases hx : listed.getD j false with
            | false => rfl
            | true => rw [hclosed j i hx hj] at hnx; cases hnx
        -- temporaries that are named
        have hnames : ∀ t ∈ so.names, (Cur l val (fun j => listed.getD j false = true) tm l.length)[t]? = (T i)[t]? := by
          intro t ht
          have hwr : ∀ j o', j ≠ i → l[j]? = some o' → o'.dst = some t → ordered (befores ops.toList) i j = true := by
            intro j o' hne ho' hd
            cases hx : ordered (befores ops.toList) i j with
            | true => rfl
            | false => exact absurd ht ((draw_apart hdraw hso ho' (Ne.symm hne) hx).2 t hd)
          rw [cur_stay l.length (Nat.le_of_lt hil) fun j o' q1 q2 q3 q4 q5 => by
            by_cases e : j = i
            · subst e; rw [hnx] at q4; cases q4
            · have := (hord j (hwr j o' e q3 q5)).2 (by omega)
              rw [this] at q4; cases q4]
          exact (cur_get t0 hT (Nat.le_of_lt hil) fun j o' q1 q2 q3 => (hord j (hwr j o' (by omega) q2 q3)).1 q1).1
        have hnop : ∀ t ∈ so.op.names, (Cur l val (fun j => listed.getD j false = true) tm l.length)[t]? = (T i)[t]? := fun t ht => hnames t (by simp [SOper.names, ht])
        have hng : wantedA (Cur l val (fun j => listed.getD j false = true) tm l.length) so.guard = wantedA (T i) so.guard := wanted_eq fun t ww hg => hnames t (by simp [SOper.names, hg])
        obtain ⟨hop, hdst⟩ := cOper_op hcso
        -- the next position
        have next : ∀ (μ' : Mu) (v' : Value) (w' : World) (k' : Nat), k' ≤ l.length → (∀ j o', l[j]? = some o' → o'.op.class = .heavy → ((listed.setIfInBounds i true).getD j false = true ↔ j < k')) → V μ' (val i) v' → St P μ' (H k') w' → Fr μ (H k) w μ' (H k') w' →
            wpAnyIn (F r) 0 P .any ops Q fuel (listed.setIfInBounds i true) (a.put o.dst v') w' := by
          intro μ' v' w' k' hk' hheavy' hv' s' f'
          have hgd : ∀ j, ((listed.setIfInBounds i true).getD j false = true) ↔ (listed.getD j false = true ∨ j = i) := by
            intro j
            by_cases e : i = j
            · subst e; simp [his]
            · rw [getD_set_ne false e]; simp [Ne.symm e]
          refine ih _ μ' _ w' k' ?_ (by simpa using hsz) ?_ hk' hheavy' s' ?_ (hfr.trans f') (by rw [← hdf]; cases o.dst <;> rfl)
          · have := left_set his hli; omega
          · intro p q hp hq
            rw [hgd] at hp ⊢
            rcases hp with hp | rfl
            · exact .inl (hclosed p q hp hq)
            · exact .inl (hpred q hq)
          · have hfun : (fun j => (listed.setIfInBounds i true).getD j false = true) = (fun j => listed.getD j false = true ∨ j = i) := funext fun j => propext (hgd j)
            rw [hfun, cur_add hso (by simp [hnx]) (fun j o' q1 q2 q3 d hd hd' => by
              cases hx : ordered (befores ops.toList) i j with
              | true => rw [(hord j hx).2 q1] at q3; cases q3
              | false =>
                have := (draw_apart hdraw hso q2 (by omega) hx).2 d hd'
                exact this (by simp [SOper.names, hd])) l.length hil]
            rw [hdst]
            exact put_sim (hv.mono f'.le) o.dst hv'
        -- nothing heavy stands between
        have hkH : so.op.class = .heavy → H i = H k ∧ ∀ j o', l[j]? = some o' → o'.op.class = .heavy → ((listed.setIfInBounds i true).getD j false = true ↔ j < i + 1) := by
          intro hc
          have hboth : ∀ j o', j ≠ i → l[j]? = some o' → o'.op.class = .heavy → ordered (befores ops.toList) i j = true := by
            intro j o' hne ho' hc'
            cases hx : ordered (befores ops.toList) i j with
            | true => rfl
            | false => exact absurd ⟨hc, hc'⟩ (draw_apart hdraw hso ho' (Ne.symm hne) hx).1
          have hki : k ≤ i := by
            rcases Nat.lt_or_ge i k with hlt | hge
            · have := (hheavy i so hso hc).2 hlt
              rw [hnx] at this; cases this
            · exact hge
          refine ⟨hstretch k i hki (by omega) fun j o' q1 q2 q3 hc' => ?_, fun j o' q3 hc' => ?_⟩
          · have hx := (hord j (hboth j o' (by omega) q3 hc')).1 q2
            have := (hheavy j o' q3 hc').1 hx
            omega
          · by_cases e : j = i
            · subst e; simp [his]
            · rw [getD_set_ne false (Ne.symm e)]
              have hoo := hord j (hboth j o' e q3 hc')
              rcases Nat.lt_or_ge j i with hlt | hge
              · rw [hoo.1 hlt]; simp; omega
              · rw [hoo.2 (by omega)]; simp; omega
        have hlight : so.op.class ≠ .heavy → ∀ j o', l[j]? = some o' → o'.op.class = .heavy → ((listed.setIfInBounds i true).getD j false = true ↔ j < k) := by
          intro hc j o' q3 hc'
          have e : j ≠ i := fun e => by subst e; rw [hso] at q3; cases q3; exact hc hc'
          rw [getD_set_ne false (Ne.symm e)]
          exact hheavy j o' q3 hc'
        unfold wpOpIn
        rw [ho]
        simp only []
        rw [wanted_sim hv hcso, hng]
        rcases (tr.step i so hso).2 with ⟨hw, ha, hlg⟩ | ⟨hw, hval, hHi, hlg⟩
        · rw [if_pos hw]
          have ha' : aop call (Cur l val (fun j => listed.getD j false = true) tm l.length) (H i) so.op = some (val i, H (i + 1)) := by rw [aop_eq hnop]; exact ha
          by_cases hc : so.op.class = .heavy
          · obtain ⟨e1, e2⟩ := hkH hc
            rw [e1] at ha'
            exact oper_sim hcall s hv hop ha' r fun μ' v' w' hv' s' f' => next μ' v' w' (i + 1) (by omega) e2 hv' s' f'
          · have hloc := aop_local call (h2 := H k) hc ha' fun hcr id hid hsome => by
              rw [reads_eq hnop] at hid
              rw [hid] at hlg
              have hsame : ∀ j o', j ≠ i → l[j]? = some o' → o'.op.class = .heavy → ordered (befores ops.toList) i j = false → (H j).get id = (H (j + 1)).get id := by
                intro j o' hne ho' hc' hx
                have hm := chk_mem hso ho' (Ne.symm hne) hx hcr hc'
                rw [hchk] at hm
                rcases (tr.step j o' ho').2 with ⟨_, _, hl2⟩ | ⟨_, _, hh, _⟩
                · exact chk_log hck i j hm id _ _ _ _ _ hlg hl2
                · rw [hh]
              rcases Nat.le_total k i with hki | hki
              · refine (hstretchId id k i hki (by omega) fun j o' q1 q2 q3 q4 => ?_).symm
                refine hsame j o' (by omega) q3 q4 ?_
                cases hx : ordered (befores ops.toList) i j with
                | false => rfl
                | true =>
                  have := (hheavy j o' q3 q4).1 ((hord j hx).1 q2)
                  omega
              · refine hstretchId id i k hki hk fun j o' q1 q2 q3 q4 => ?_
                have hne : j ≠ i := fun e => by subst e; rw [hso] at q3; cases q3; exact hc q4
                refine hsame j o' hne q3 q4 ?_
                cases hx : ordered (befores ops.toList) i j with
                | false => rfl
                | true =>
                  have q5 := (hheavy j o' q3 q4).2 q2
                  rw [(hord j hx).2 (by omega)] at q5; cases q5
            exact oper_sim hcall s hv hop hloc.1 r fun μ' v' w' hv' s' f' => next μ' v' w' k hk (hlight hc) hv' s' f'
        · rw [if_neg (by rw [hw]; simp)]
          refine ⟨fun f _ => F_fn r f, ?_⟩
          by_cases hc : so.op.class = .heavy
          · obtain ⟨e1, e2⟩ := hkH hc
            refine next μ undef w (i + 1) (by omega) e2 (by rw [hval]; exact .tuple [] #[] .nil) ?_ ?_
            · rw [hHi, e1]; exact s
            · rw [hHi, e1]; exact .refl _ _ _
          · exact next μ undef w k hk (hlight hc) (by rw [hval]; exact .tuple [] #[] .nil) s (.refl _ _ _)
  have start := s₀.drew
  refine game ops.size (Array.replicate ops.size false) μ₀ a₀ w₀.drew 0 ?_ (by simp) ?_ (by omega) ?_ (by rw [h0]; exact start) ?_ (by rw [h0]; exact Fr.drew μ₀ h w₀) rfl
  · unfold left; rw [Array.toList_replicate, List.countP_replicate]; simp
  · intro i j hi; simp [Array.getD_eq_getD_getElem?, Array.getElem?_replicate] at hi
    split at hi <;> simp at hi
  · intro j o ho hc
    simp [Array.getD_eq_getD_getElem?, Array.getElem?_replicate]
    split <;> simp
  · have : Cur l val (fun j => (Array.replicate ops.size false).getD j false = true) tm l.length = tm := by
      have key : ∀ n, Cur l val (fun j => (Array.replicate ops.size false).getD j false = true) tm n = tm := by
        intro n
        induction n with
        | zero => rfl
        | succ n ih =>
          rw [cur_succ, if_neg, ih]
          simp [Array.getD_eq_getD_getElem?, Array.getElem?_replicate]
          split <;> simp
      exact key _
    rw [this]; exact ht₀

/-- What the abstract call answers, the model's call answers. -/
theorem acall_calls {X : Known} (hX : XOk P X) {SP : FuncId → Option SFunc} (hSP : Conv P SP) (hmix : P.follows .mixedOrders = true) (n : Nat) : SimCall P (acall X SP n) :=
  acall_sim hX hSP (fun _ hc => draw_sim hmix hc) n

end
end Go.Ya
