/-
  A range over a map whose rounds lay rows of 64 bytes into a slice: known, whatever the order in which the entries come.
-/
import Derived.Maps.RangeRun
import Derived.Test.YtekbgdmemenheaaYbG
import Derived.Test.YtekbgdmemenheaaYbI
namespace Go.Ya
set_option linter.unusedVariables false
set_option linter.unusedSimpArgs false
section
variable {P : Program} {μ ν : Mu} {h g : Heap} {w w' : World}
def addDead : Heap → Nat → Heap
  | h, 0 => h
  | h, k + 1 => (addDead h k).alloc .dead
theorem addDead_next (h : Heap) : ∀ k, (addDead h k).next = h.next + k
  | 0 => rfl
  | k + 1 => by show ((addDead h k).alloc .dead).next = _; rw [Heap.next_alloc, addDead_next h k]; omega
theorem addDead_get (h : Heap) : ∀ k id, (addDead h k).get id = if h.next ≤ id ∧ id < h.next + k then some .dead else h.get id
  | 0, id => by rw [if_neg (by omega)]; rfl
  | k + 1, id => by
    show ((addDead h k).alloc .dead).get id = _
    rw [Heap.get_alloc, addDead_next, addDead_get h k]
    by_cases e : id = h.next + k
    · rw [if_pos e, if_pos (by omega)]
    · rw [if_neg e]
      by_cases e2 : h.next ≤ id ∧ id < h.next + k
      · rw [if_pos e2, if_pos (by omega)]
      · rw [if_neg e2, if_neg (by omega)]
def upd : List (Nat × List AV) → List AV → List AV
  | [], cs => cs
  | (k, b) :: D, cs => splice (upd D cs) (k * 64) b
theorem upd_len {cs : List AV} {n : Nat} (hc : n * 64 ≤ cs.length) : ∀ {D : List (Nat × List AV)}, (∀ e ∈ D, e.1 < n ∧ e.2.length = 64) → (upd D cs).length = cs.length
  | [], _ => rfl
  | (k, b) :: D, hD => by
    have ih := upd_len hc (D := D) fun e he => hD e (List.mem_cons_of_mem _ he)
    have h0 := hD (k, b) (by simp)
    have h1 : k < n := h0.1
    have h2 : b.length = 64 := h0.2
    show (splice _ _ _).length = _
    rw [splice_len _ _ _ (by rw [ih, h2]; omega), ih]
theorem upd_get {cs : List AV} {n : Nat} (hc : n * 64 ≤ cs.length) (j : Nat) : ∀ {D : List (Nat × List AV)}, (∀ e ∈ D, e.1 < n ∧ e.2.length = 64) → (upd D cs)[j]? = match D.find? (fun e => e.1 == j / 64) with | some e => e.2[j % 64]? | none => cs[j]?
  | [], _ => rfl
  | (k, b) :: D, hD => by
    have hD' : ∀ e ∈ D, e.1 < n ∧ e.2.length = 64 := fun e he => hD e (List.mem_cons_of_mem _ he)
    have ih := upd_get hc j hD'
    have h0 := hD (k, b) (by simp)
    have h1 : k < n := h0.1
    have h2 : b.length = 64 := h0.2
    have hl := upd_len hc hD'
    show (splice _ _ _)[j]? = _
    rw [splice_get _ _ _ (by rw [hl, h2]; omega), List.find?_cons, h2]
    by_cases e : k = j / 64
    · rw [if_pos (by omega), show ((k, b).1 == j / 64) = true by simpa using e]
      dsimp only
      congr 1; omega
    · rw [if_neg (by omega), show ((k, b).1 == j / 64) = false by simpa using e]
      exact ih
theorem find_eq {D E : List (Nat × List AV)} (hD : (D.map (·.1)).Nodup) (hE : (E.map (·.1)).Nodup) (hm : ∀ e, e ∈ D ↔ e ∈ E) (q : Nat) : D.find? (fun e => e.1 == q) = E.find? (fun e => e.1 == q) := by
  have uniq : ∀ {l : List (Nat × List AV)}, (l.map (·.1)).Nodup → ∀ e ∈ l, e.1 = q → l.find? (fun e => e.1 == q) = some e := by
    intro l
    induction l with
    | nil => intro _ e he; cases he
    | cons a l ih =>
      intro hn e he heq
      rw [List.map_cons, List.nodup_cons] at hn
      rw [List.find?_cons]
      rcases List.mem_cons.1 he with rfl | he
      · rw [show (e.1 == q) = true by simpa using heq]
      · have : ¬ a.1 = q := fun h => hn.1 (by rw [h, ← heq]; exact List.mem_map.2 ⟨e, he, rfl⟩)
        rw [show (a.1 == q) = false by simpa using this]
        exact ih hn.2 e he heq
  cases hf : E.find? (fun e => e.1 == q) with
  | some e =>
    have h1 := List.mem_of_find?_eq_some hf
    have h2 := List.find?_some hf
    exact uniq hD e ((hm e).2 h1) (by simpa using h2)
  | none =>
    rw [List.find?_eq_none] at hf ⊢
    exact fun e he => hf e ((hm e).1 he)
theorem upd_perm {cs : List AV} {n : Nat} (hc : n * 64 ≤ cs.length) {D E : List (Nat × List AV)} (hD : ∀ e ∈ D, e.1 < n ∧ e.2.length = 64) (hE : ∀ e ∈ E, e.1 < n ∧ e.2.length = 64) (nD : (D.map (·.1)).Nodup) (nE : (E.map (·.1)).Nodup) (hm : ∀ e, e ∈ D ↔ e ∈ E) : upd D cs = upd E cs :=
  List.ext_getElem? fun j => by rw [upd_get hc j hD, upd_get hc j hE, find_eq nD nE hm]
def prs : List (AV × AV) → Option (List (Nat × List AV))
  | [] => some []
  | (.int .i64 k, .agg b) :: r => if 0 ≤ k ∧ b.length = 64 ∧ b.all AV.flat = true then (prs r).map ((k.toNat, b) :: ·) else none
  | _ :: _ => none
theorem prs_get : ∀ {es : List (AV × AV)} {ps : List (Nat × List AV)}, prs es = some ps → ∀ (i : Nat) (k v : AV), es[i]? = some (k, v) → ∃ (q : Nat) (b : List AV), k = .int .i64 (q : Nat) ∧ v = .agg b ∧ ps[i]? = some (q, b) ∧ b.length = 64 ∧ b.all AV.flat = true
  | [], _, _, i, k, v, e => by simp at e
  | (k0, v0) :: r, ps, hp, i, k, v, e => by
    unfold prs at hp
    split at hp
    · rename_i h; cases h
    · rename_i k1 b1 r1 heq
      cases heq
      split at hp
      · rename_i hk
        simp only [Option.map_eq_some_iff] at hp
        obtain ⟨ps', hp', rfl⟩ := hp
        cases i with
        | zero =>
          simp only [List.getElem?_cons_zero, Option.some.injEq, Prod.mk.injEq] at e
          obtain ⟨rfl, rfl⟩ := e
          exact ⟨k1.toNat, b1, by rw [Int.toNat_of_nonneg hk.1], rfl, rfl, hk.2.1, hk.2.2⟩
        | succ i => exact prs_get hp' i k v (by simpa using e)
      · cases hp
    · cases hp
theorem prs_len : ∀ {es : List (AV × AV)} {ps : List (Nat × List AV)}, prs es = some ps → ps.length = es.length
  | [], _, hp => by cases hp; rfl
  | (k0, v0) :: r, ps, hp => by
    unfold prs at hp
    split at hp
    · rename_i h; cases h
    · rename_i k1 b1 r1 heq
      cases heq
      split at hp
      · simp only [Option.map_eq_some_iff] at hp
        obtain ⟨ps', hp', rfl⟩ := hp
        rw [List.length_cons, List.length_cons, prs_len hp']
      · cases hp
    · cases hp
theorem pT_len (tm : List AV) (d : Option Nat) (v : AV) : (putT tm d v).length = tm.length := by cases d <;> simp [putT]
theorem pT_get {tm : List AV} {d i : Nat} {v : AV} (hd : d < tm.length) : (putT tm (some d) v).getD i undefA = if d = i then v else tm.getD i undefA := by
  unfold putT
  simp only [List.getD_eq_getElem?_getD, List.getElem?_set]
  split
  · rename_i e
    subst e
    simp [hd]
  · rfl
theorem pT_none (tm : List AV) (v : AV) : putT tm none v = tm := rfl
abbrev A0 : List SOper := [⟨some 3, .load false 1 (.t 0), none⟩, ⟨some 4, .nilChk (.t 3), none⟩, ⟨some 5, .fieldAddr 2 (.t 4), none⟩, ⟨some 6, .load false 1 (.t 5), none⟩]
abbrev A2 (zs : List AV) : List SOper := [⟨some 11, .extract (.t 10) 0, none⟩, ⟨some 12, .extract (.t 10) 1, none⟩, ⟨some 2, .box (.c (.agg zs)), none⟩, ⟨some 1, .mov (.t 11), none⟩, ⟨none, .store 64 (.t 2) (.t 12), none⟩]
abbrev A3 : List SOper := [⟨some 13, .load false 1 (.t 0), none⟩, ⟨some 14, .nilChk (.t 13), none⟩, ⟨some 15, .fieldAddr 0 (.t 14), none⟩, ⟨some 16, .load false 1 (.t 15), none⟩, ⟨some 17, .mov (.t 1), none⟩, ⟨some 18, .load true 64 (.t 2), none⟩, ⟨some 19, .idxAddrSl 64 (.t 16) (.t 17), none⟩, ⟨none, .store 64 (.t 19) (.t 18), none⟩]
theorem splice_all {zs b : List AV} (h : zs.length = b.length) : splice zs 0 b = b := by
  unfold splice
  rw [List.take_zero, List.nil_append, Nat.zero_add, List.drop_of_length_le (by omega), List.append_nil]
theorem eval2 {call : Tgt → List AV → Heap → AR} {tm : List AV} {g : Heap} {q : Nat} {b zs : List AV} (hl : tm.length = 22) (h10 : tm.getD 10 undefA = .tuple [.int .i64 (q : Nat), .agg b]) (hb : b.length = 64) (hf : b.all AV.flat = true) (hz : zs.length = 64) (hzf : zs.all AV.flat = true) :
    ∃ tm', aops call (A2 zs) tm g = some (tm', (g.alloc (.cells zs false)).set g.next (.cells b false)) ∧ tm'.length = 22 ∧ tm'.getD 0 undefA = tm.getD 0 undefA ∧ tm'.getD 7 undefA = tm.getD 7 undefA ∧ tm'.getD 1 undefA = .int .i64 (q : Nat) ∧ tm'.getD 2 undefA = .ptr g.next 0 := by
  have hg : (g.alloc (.cells zs false)).get g.next = some (.cells zs false) := by rw [Heap.get_alloc, if_pos rfl]
  refine ⟨_, by simp only [aops, wantedA, if_true, aop, ev, h10, storeA, hg, hz, hzf, hb, hf, AV.cells, pT_get, pT_len, hl, Nat.reduceLT, Nat.reduceEqDiff, if_false, Option.map_some, List.getElem?_cons_zero, List.getElem?_cons_succ, Bool.false_eq_true, Nat.zero_add, ↓reduceIte, splice_all (hz.trans hb.symm), and_self, Nat.le_refl]; rfl, ?_, ?_, ?_, ?_, ?_⟩
  all_goals simp only [pT_get, pT_len, pT_none, hl, Nat.reduceLT, Nat.reduceEqDiff, ↓reduceIte]
theorem eval3 {call : Tgt → List AV → Heap → AR} {tm : List AV} {g : Heap} {q c d x L n cap : Nat} {ex ro ro' rx : Bool} {b cs rest : List AV} (hl : tm.length = 22) (h0 : tm.getD 0 undefA = .ptr c 0) (h1 : tm.getD 1 undefA = .int .i64 (q : Nat)) (h2 : tm.getD 2 undefA = .ptr x 0)
    (hc : g.get c = some (.cells [.ptr d 0] ro)) (hd : g.get d = some (.cells (.slice L 0 n cap ex 64 :: rest) ro')) (hx : g.get x = some (.cells b rx)) (hL : g.get L = some (.cells cs false)) (hb : b.length = 64) (hf : b.all AV.flat = true) (hq : q < n) (hn : n * 64 ≤ cs.length) :
    ∃ tm', aops call A3 tm g = some (tm', g.set L (.cells (splice cs (q * 64) b) false)) ∧ tm'.length = 22 ∧ tm'.getD 0 undefA = .ptr c 0 ∧ tm'.getD 7 undefA = tm.getD 7 undefA := by
  have e1 : (b.drop 0).take 64 = b := by rw [List.drop_zero, List.take_of_length_le (by omega)]
  have e2 : (64 : Nat) = 64 ∧ (0 : Int) ≤ (q : Nat) ∧ ((q : Nat) : Int) < (n : Nat) := by omega
  have e3 : q * 64 + 64 ≤ cs.length := by omega
  have e4 : 0 + 64 ≤ b.length := by omega
  refine ⟨_, by simp only [aops, wantedA, if_true, aop, ev, h0, h1, h2, hc, hd, hx, hL, loadA, storeA, e1, e2, e3, e4, hb, hf, AV.cells, pT_get, pT_len, hl, Nat.reduceLT, Nat.reduceEqDiff, if_false, Option.map_some, List.getElem?_cons_zero, List.getElem?_cons_succ, Bool.false_eq_true, Nat.zero_add, Int.toNat_natCast, Nat.le_refl, ↓reduceIte, and_self]; rfl, ?_, ?_, ?_⟩
  all_goals simp only [pT_get, pT_len, pT_none, hl, h0, Nat.reduceLT, Nat.reduceEqDiff, ↓reduceIte]
/-! ### the model's side -/
theorem putB_old {w : World} {r : Nat} {ob : Obj} {b : Nat} (hb : b ≠ r) : (ChangeMaps.setBlock w r ob).heap[b]? = w.heap[b]? := by
  simp only [ChangeMaps.setBlock]; rw [Array.getElem?_setIfInBounds_ne (Ne.symm hb)]
theorem putB_size {w : World} {r : Nat} {ob : Obj} : (ChangeMaps.setBlock w r ob).heap.size = w.heap.size := by simp [ChangeMaps.setBlock]
theorem putB_new {w : World} {r : Nat} {ob : Obj} (hr : r < w.heap.size) : (ChangeMaps.setBlock w r ob).heap[r]? = some ob := by
  simp only [ChangeMaps.setBlock]; rw [Array.getElem?_setIfInBounds_self_of_lt hr]
theorem St.putB (s : St P μ h w) {r : Nat} {o ob : Obj} (hr : w.heap[r]? = some o) (ho : ∀ a t f, o ≠ .cells a t f) (hn : ∀ id base lim o', μ id = some (r, base, lim) → h.get id = some o' → o'.live = false) : St P μ h (ChangeMaps.setBlock w r ob) := by
  refine ⟨⟨fun id b base lim o' e1 e2 => ?_, s.r.inj⟩, s.bd, s.mkd.sameH fun id b base lim c ro m g => putB_old fun e => ?_, s.tb.put hr ho (by rw [putB_size]; exact Nat.le_refl _) (fun b hb => putB_old hb)⟩
  · cases hlv : o'.live with
    | true =>
      have hne : b ≠ r := fun e => by subst e; have := hn id base lim o' e1 e2; rw [this] at hlv; cases hlv
      exact (s.r.obj id b base lim o' e1 e2).of_same (.refl μ) (putB_old hne)
    | false => cases o' <;> first | trivial | simp [AObj.live] at hlv
  · subst e; have := hn id base lim _ m g; cases this
theorem Fr.putB (f : Fr μ h w ν g w') {r : Nat} {ob : Obj} (hr : w.heap.size ≤ r) : Fr μ h w ν g (ChangeMaps.setBlock w' r ob) :=
  ⟨f.le, by rw [putB_size]; exact f.size, f.os, f.tape, f.output, fun b hb hn => (putB_old (by omega)).trans (f.same b hb hn), f.own, f.nx, f.dom⟩
theorem op_step {call : Tgt → List AV → Heap → AR} (hcall : SimCall P call) {ops : Array Oper} {o : Oper} {so : SOper} {i : Nat} (hi : ops[i]? = some o) (hc : cOper P ops o = some so) (hg : so.guard = none) (s : St P μ h w) {tm : List AV} {a : Act} (ht : Vs μ tm a.tmps.toList) {v : AV} {h' : Heap} (hr : aop call tm h so.op = some (v, h')) {rest : List Nat} {Q : Exit → Act → World → Prop}
    (k : ∀ μ' a' w', Vs μ' (putT tm so.dst v) a'.tmps.toList → St P μ' h' w' → Fr μ h w μ' h' w' → a'.defers = a.defers → wpOpsIn (F none) 0 P ops Q rest a' w') : wpOpsIn (F none) 0 P ops Q (i :: rest) a w := by
  simp only [wpOpsIn, hi]
  obtain ⟨hop, hdst⟩ := cOper_op hc
  rw [wanted_sim ht hc, if_pos (by rw [hg]; rfl)]
  exact oper_sim hcall s ht hop hr none fun μ' v' w' hv' s' f' => k μ' _ w' (by rw [hdst]; exact put_sim (ht.mono f'.le) o.dst hv') s' f' (by cases o.dst <;> rfl)
theorem raw_step {ops : Array Oper} {o : Oper} {i : Nat} (hi : ops[i]? = some o) (hg : o.guard = none) (hne : ∀ c, o.op ≠ .defer c) {a : Act} {v : Value} (hr : (execOp a.eval o).run P w = .ok (.value v) w') {rest : List Nat} {Q : Exit → Act → World → Prop} (k : wpOpsIn (F none) 0 P ops Q rest (a.put o.dst v) w') : wpOpsIn (F none) 0 P ops Q (i :: rest) a w := by
  simp only [wpOpsIn, hi]
  rw [if_pos (by simp [Region.wanted, hg])]
  refine ⟨fun f _ => F_fn none f, ?_⟩
  rw [Oper.semAt_eq _ _ _ hne, hr]
  exact k
structure HG (h : Heap) (L m : Nat) (cs : List AV) (D : List (Nat × List AV)) (g : Heap) : Prop where
  nx : g.next = h.next + 1 + D.length
  at_ : ∀ id, g.get id = if h.next ≤ id ∧ id < h.next + 1 + D.length then some .dead else if id = m then some .dead else if id = L then some (.cells (upd D cs) false) else h.get id
theorem dom_eq {h0 : Heap} {w0 : World} (f : Fr μ h0 w0 ν g w) {id : Nat} (hid : id < h0.next) : ν id = μ id := by
  cases e : μ id with
  | none => exact f.dom id hid e
  | some x => exact f.le id x e
theorem HG.free {h0 : Heap} {w0 : World} {L m bm base lim r : Nat} {cs cs0 : List AV} {es : List (AV × AV)} {D : List (Nat × List AV)} (G : HG h0 L m cs D g) (s0 : St P μ h0 w0) (s : St P ν g w) (f : Fr μ h0 w0 ν g w) (hm : μ m = some (bm, base, lim)) (hgm : h0.get m = some (.map es)) (hgL : h0.get L = some (.cells cs0 false)) (hLm : L ≠ m)
    (hr : w0.heap.size ≤ r) {b : Nat} (hb : b = bm ∨ b = r) : ∀ id base lim o, ν id = some (b, base, lim) → g.get id = some o → o.live = false := by
  intro id base1 lim1 o e1 e2
  rw [G.at_] at e2
  split at e2
  · cases e2; rfl
  · rename_i h1
    split at e2
    · cases e2; rfl
    · rename_i h2
      have hid : id < h0.next := by
        rcases Nat.lt_or_ge id h0.next with q | q
        · exact q
        · have hg0 : g.get id = some o := by rw [G.at_, if_neg h1, if_neg h2]; exact e2
          have := Heap.lt_of_get hg0
          rw [G.nx] at this
          exact absurd ⟨q, this⟩ h1
      rw [dom_eq f hid] at e1
      have key : ∀ o', h0.get id = some o' → o'.live = true → False := fun o' k1 k2 => by
        rcases hb with rfl | rfl
        · exact s0.r.inj m id b base lim b base1 lim1 _ o' (Ne.symm h2) hm e1 hgm k1 rfl k2 rfl
        · have := s0.r.lt e1 k1 k2
          omega
      cases hlv : o.live with
      | false => rfl
      | true =>
        split at e2
        · rename_i h3
          subst h3
          exact (key _ hgL rfl).elim
        · exact (key o e2 hlv).elim
theorem HG.notown {h0 : Heap} {w0 : World} {L m bm base lim r : Nat} {cs cs0 : List AV} {es : List (AV × AV)} {D : List (Nat × List AV)} (G : HG h0 L m cs D g) (s0 : St P μ h0 w0) (s : St P ν g w) (f : Fr μ h0 w0 ν g w) (hm : μ m = some (bm, base, lim)) (hgm : h0.get m = some (.map es)) (hgL : h0.get L = some (.cells cs0 false)) (hLm : L ≠ m)
    (hr : w0.heap.size ≤ r) {b : Nat} (hb : b = bm ∨ b = r) : ¬ Own ν g.get b := by
  rintro ⟨id, base1, lim1, o, e1, e2, e3⟩
  have := G.free s0 s f hm hgm hgL hLm hr hb id base1 lim1 o e1 e2
  rw [live_of_owned e3] at this; cases this
theorem St.revive (s : St P ν g w) {m bm base lim clock : Nat} {es : List (AV × AV)} {es' : Array MapEntry} (hd : g.get m = some .dead) (hm : ν m = some (bm, base, lim)) (hb : w.heap[bm]? = some (.map es' clock)) (hp : PairsR ν es es'.toList) (hst : Stampd es' clock)
    (hn : ∀ id base lim o, ν id = some (bm, base, lim) → g.get id = some o → o.live = false) : St P ν (g.set m (.map es)) w := by
  have hlt := Heap.lt_of_get hd
  have hget : ∀ id, (g.set m (.map es)).get id = if id = m then some (.map es) else g.get id := fun id => Heap.get_set _ _ _ _ hlt
  refine ⟨⟨fun id b base1 lim1 o e1 e2 => ?_, fun i j b base1 lim1 b' base' lim' o o' hne e1 e2 g1 g2 h1 h2 e => ?_⟩, fun id hid => s.bd id (by simpa using hid), fun id e b base1 lim1 c ro q1 q2 => ?_, fun g3 g4 e3 e4 => ?_⟩
  · rw [hget] at e2
    split at e2
    · rename_i h1
      subst h1
      cases e2
      rw [hm] at e1
      cases e1
      exact ⟨es', clock, hb, hp, hst⟩
    · exact s.r.obj id b base1 lim1 o e1 e2
  · subst e
    rw [hget] at g1 g2
    split at g1
    · rename_i k1
      subst k1
      rw [hm] at e1
      cases e1
      rw [if_neg (Ne.symm hne)] at g2
      rw [hn j _ _ o' e2 g2] at h2; cases h2
    · split at g2
      · rename_i k2
        subst k2
        rw [hm] at e2
        cases e2
        have := hn i _ _ o e1 g1
        rw [live_of_owned h1] at this; cases this
      · exact s.r.inj i j b base1 lim1 b base' lim' o o' hne e1 e2 g1 g2 h1 h2 rfl
  · have e' := Heap.byteAt_set hlt rfl e
    rw [hget] at q2
    split at q2
    · cases q2
    · exact s.mkd id e' b base1 lim1 c ro q1 q2
  · obtain ⟨x1, ⟨o3, o4⟩, x3, x4⟩ := s.tb g3 g4 e3 e4
    have own : ∀ b, (b = g3 ∨ b = g4) → ¬ Own ν (g.set m (.map es)).get b := by
      rintro b hbb ⟨id, base1, lim1, o, k1, k2, k3⟩
      rw [hget] at k2
      split at k2
      · rename_i k
        subst k
        rw [hm] at k1
        cases k1
        have nocell : ∀ {x : Value} {i : Nat}, w.cell? ⟨bm, i, none⟩ = some x → False := fun {x i} e => by
          simp only [World.cell?, hb] at e
          cases e
        rcases hbb with rfl | rfl
        · exact nocell (x3 0 (by omega))
        · exact nocell (x4 0 (by omega)).1
      · rcases hbb with rfl | rfl
        · exact o3 ⟨id, base1, lim1, o, k1, k2, k3⟩
        · exact o4 ⟨id, base1, lim1, o, k1, k2, k3⟩
    exact ⟨x1, ⟨own g3 (.inl rfl), own g4 (.inr rfl)⟩, x3, x4⟩
theorem PairsR.mono {μ ν : Mu} (hl : Le μ ν) : ∀ {es : List (AV × AV)} {l : List MapEntry}, PairsR μ es l → PairsR ν es l
  | [], [], _ => trivial
  | [], _ :: _, h => by simp [PairsR] at h
  | (k, v) :: es, [], h => by simp [PairsR] at h
  | (k, v) :: es, e :: l, ⟨a, b, c⟩ => ⟨a.mono hl, b.mono hl, PairsR.mono hl c⟩
theorem PairsR.get {μ : Mu} : ∀ {es : List (AV × AV)} {l : List MapEntry}, PairsR μ es l → ∀ {i : Nat} {e : MapEntry}, l[i]? = some e → ∃ k v, es[i]? = some (k, v) ∧ V μ k e.key ∧ V μ v e.val
  | [], [], _, i, e, h => by simp at h
  | [], _ :: _, h, _, _, _ => by simp [PairsR] at h
  | (k, v) :: es, [], h, _, _, _ => by simp [PairsR] at h
  | (k, v) :: es, e0 :: l, ⟨a, b, c⟩, 0, e, h => by
    simp only [List.getElem?_cons_zero, Option.some.injEq] at h
    subst h
    exact ⟨k, v, rfl, a, b⟩
  | (k, v) :: es, e0 :: l, ⟨a, b, c⟩, i + 1, e, h => by
    obtain ⟨k', v', h1, h2⟩ := PairsR.get c (i := i) (e := e) (by simpa using h)
    exact ⟨k', v', by simpa using h1, h2⟩
theorem PairsR.len {μ : Mu} : ∀ {es : List (AV × AV)} {l : List MapEntry}, PairsR μ es l → es.length = l.length
  | [], [], _ => rfl
  | [], _ :: _, h => by simp [PairsR] at h
  | (k, v) :: es, [], h => by simp [PairsR] at h
  | (k, v) :: es, e :: l, ⟨a, b, c⟩ => by rw [List.length_cons, List.length_cons, PairsR.len c]
structure FlushAt (P : Program) (f fE : FuncId) where
  fn : Func
  hf : P.funcs[f]? = some fn
  i0 : Nat
  i1 : Nat
  i2 : Nat
  i3 : Nat
  i4 : Nat
  o0 : Oper
  o1 : Oper
  o2 : Oper
  o3 : Oper
  oR : Oper
  oN : Oper
  oX : Oper
  oE : Oper
  p0 : Oper
  p1 : Oper
  p2 : Oper
  p3 : Oper
  p4 : Oper
  q0 : Oper
  q1 : Oper
  R3 : Array Oper
  tM : TypeId
  kt : TypeId
  et : TypeId
  zs : List AV
  hb : fn.body = some (((Code.region i0 #[o0, o1, o2, o3, oR] false).seq (Code.block 0 (Code.loop ((Code.region i1 #[oN, oX] false).seq ((Code.cond (.tmp 9) .skip (.exit 0)).seq (Code.block 1 ((Code.region i2 #[oE, p0, p1, p2, p3, p4] false).seq (Code.region i3 R3 true)))))))).seq (Code.region i4 #[q0, q1] false))
  hn : fn.ntmps = 22
  hres : fn.results = #[]
  hname : fn.name ≠ "runtime.NumGoroutine"
  c0 : cOpers P #[o0, o1, o2, o3, oR] [o0, o1, o2, o3] = some A0
  cR : oR.op = .range tM (.tmp 6) ∧ oR.dst = some 7 ∧ oR.guard = none
  cN : oN.op = .next (.tmp 7) false ∧ oN.dst = some 8 ∧ oN.guard = none
  cX : cOper P #[oN, oX] oX = some ⟨some 9, .extract (.t 8) 0, none⟩
  cE : oE.op = .entry (.tmp 7) ∧ oE.dst = some 10 ∧ oE.guard = none
  c2 : cOpers P #[oE, p0, p1, p2, p3, p4] [p0, p1, p2, p3, p4] = some (A2 zs)
  c3 : cOpers P R3 R3.toList = some A3 ∧ edgesOk R3.toList = true ∧ drawOk (befores R3.toList) A3 = true ∧ drawChk (befores R3.toList) A3 = []
  c4 : cOpers P #[q0, q1] [q0, q1] = some [⟨some 20, .load false 1 (.t 0), none⟩, ⟨some 21, .call fE [.t 20], none⟩]
  hz : zs.length = 64 ∧ zs.all AV.flat = true
  uM : P.underlying tM = some (.map kt et)
def flushH (h : Heap) (d L m n cap : Nat) (ex : Bool) (ps : List (Nat × List AV)) (cs : List AV) (l gn wk : AV) : Heap :=
  ((addDead (h.set L (.cells (upd ps cs) false)) (ps.length + 1)).alloc (.map [])).set d (.cells [.slice L 0 n cap ex 64, .nilsl, .map (h.next + ps.length + 1), l, gn, wk] false)
def flushOk (d L c n : Nat) (ps : List (Nat × List AV)) (cs : List AV) : Bool := decide (n * 64 ≤ cs.length ∧ (∀ e ∈ ps, e.1 < n) ∧ (ps.map (·.1)).Nodup ∧ L ≠ d ∧ L ≠ c ∧ d ≠ c)
def flushK (f : FuncId) : Known := fun g args h => if g = f then match args with
  | [.ptr c 0] => match h.get c with
    | some (.cells [.ptr d 0] false) => match h.get d with
      | some (.cells [.slice L 0 n cap ex 64, q, .map m, l, gn, wk] false) => match h.get L with
        | some (.cells cs false) => match h.get m with
          | some (.map es) => match prs es with
            | some ps => if flushOk d L c n ps cs = true then some (undefA, flushH h d L m n cap ex ps cs l gn wk) else none
            | none => none
          | _ => none
        | _ => none
      | _ => none
    | _ => none
  | _ => none else none
def EmptyOk (P : Program) (fE : FuncId) : Prop := ∀ (g : Heap) (d : Nat) (lv q mv l gn wk : AV), g.get d = some (.cells [lv, q, mv, l, gn, wk] false) → lv.flat = true → l.flat = true → gn.flat = true → wk.flat = true →
  ∃ call, SimCall P call ∧ ∃ g', call (.fn fE) [.ptr d 0] g = some (undefA, g') ∧ g'.next = g.next + 1 ∧ ∀ id, g'.get id = if id = d then some (.cells [lv, .nilsl, .map g.next, l, gn, wk] false) else if id = g.next then some (.map []) else g.get id
theorem prs_all : ∀ {es : List (AV × AV)} {ps : List (Nat × List AV)}, prs es = some ps → ∀ e ∈ ps, e.2.length = 64 ∧ e.2.all AV.flat = true := fun {es ps} hp e he => by
  obtain ⟨i, hi, rfl⟩ := List.mem_iff_getElem.1 he
  have hl := prs_len hp
  obtain ⟨q, b, _, _, h3, h4, h5⟩ := prs_get hp i es[i].1 es[i].2 (List.getElem?_eq_getElem (by omega))
  rw [List.getElem?_eq_getElem hi] at h3
  rw [Option.some.inj h3]
  exact ⟨h4, h5⟩
structure Ctx (P : Program) (μ : Mu) (h : Heap) (w : World) (c d L m n cap : Nat) (ex : Bool) (cs : List AV) (q l gn wk : AV) (es : List (AV × AV)) (ps : List (Nat × List AV)) (bm base lim clock : Nat) (es' : Array MapEntry) : Prop where
  s : St P μ h w
  hc : h.get c = some (.cells [.ptr d 0] false)
  hd : h.get d = some (.cells [.slice L 0 n cap ex 64, q, .map m, l, gn, wk] false)
  hL : h.get L = some (.cells cs false)
  hm : h.get m = some (.map es)
  hmu : μ m = some (bm, base, lim)
  hb : w.heap[bm]? = some (.map es' clock)
  hp : PairsR μ es es'.toList
  hst : Stampd es' clock
  hps : prs es = some ps
  h1 : n * 64 ≤ cs.length
  h2 : ∀ e ∈ ps, e.1 < n
  h3 : (ps.map (·.1)).Nodup
  h4 : L ≠ d
  h5 : L ≠ c
  h6 : d ≠ c
structure LI (P : Program) (μ : Mu) (h : Heap) (w : World) (c L m : Nat) (cs : List AV) (ps : List (Nat × List AV)) (bm clock r : Nat) (es' : Array MapEntry) (D : List (Nat × List AV)) (tm : List AV) (g : Heap) (ν : Mu) (seen : Array Nat) (a' : Act) (w' : World) : Prop where
  G : HG h L m cs D g
  hD : ∀ e ∈ D, e ∈ ps
  nD : (D.map (·.1)).Nodup
  tl : tm.length = 22
  t0 : tm.getD 0 undefA = .ptr c 0
  t7 : tm.getD 7 undefA = .ptr h.next 0
  V : Vs ν tm a'.tmps.toList
  s : St P ν g w'
  f : Fr μ h w ν g w'
  df : a'.defers = []
  it : ν h.next = some (r, 0, 0)
  hr : w'.heap[r]? = some (.mapIter (some bm) clock seen clock)
  hb : w'.heap[bm]? = some (.map es' clock)
  sn : ∀ (i : Nat) (e : MapEntry) (pr : Nat × List AV), es'.toList[i]? = some e → ps[i]? = some pr → (seen.contains e.born = true ↔ pr ∈ D)
section
variable {c d L m n cap : Nat} {ex : Bool} {cs : List AV} {q l gn wk : AV} {es : List (AV × AV)} {ps : List (Nat × List AV)} {bm base lim clock r : Nat} {es' : Array MapEntry} {f fE : FuncId} {call : Tgt → List AV → Heap → AR}
theorem Ctx.hLm (X : Ctx P μ h w c d L m n cap ex cs q l gn wk es ps bm base lim clock es') : L ≠ m := fun e => by
  have := X.hL
  rw [e, X.hm] at this; cases this
theorem Ctx.hdm (X : Ctx P μ h w c d L m n cap ex cs q l gn wk es ps bm base lim clock es') : d ≠ m := fun e => by
  have := X.hd
  rw [e, X.hm] at this; cases this
theorem Ctx.hcm (X : Ctx P μ h w c d L m n cap ex cs q l gn wk es ps bm base lim clock es') : c ≠ m := fun e => by
  have := X.hc
  rw [e, X.hm] at this; cases this
theorem keepB (X : Ctx P μ h w c d L m n cap ex cs q l gn wk es ps bm base lim clock es') (hrw : w.heap.size ≤ r) {D : List (Nat × List AV)} {g g2 : Heap} {ν ν2 : Mu} {w1 w2 : World} (G : HG h L m cs D g) (s : St P ν g w1) (f0 : Fr μ h w ν g w1) (f : Fr ν g w1 ν2 g2 w2) {b : Nat} (hb : b = bm ∨ b = r) {o : Obj} (ho : w1.heap[b]? = some o) : w2.heap[b]? = some o :=
  (f.same b (Array.getElem?_eq_some_iff.1 ho).1 (G.notown X.s s f0 X.hmu X.hm X.hL X.hLm hrw hb)).trans ho
theorem putSt {tm : List AV} {a : Act} (ht : Vs ν tm a.tmps.toList) (i : Nat) {v : AV} {v' : Value} (hv : V ν v v') : Vs ν (putT tm (some i) v) (a.put (some i) v').tmps.toList := put_sim ht (some i) hv
theorem HG.next (X : Ctx P μ h w c d L m n cap ex cs q l gn wk es ps bm base lim clock es') {D : List (Nat × List AV)} {g g2 : Heap} {b zs : List AV} {k : Nat} (G : HG h L m cs D g) (hz : zs.length = 64)
    (e : g2 = (((g.alloc (.cells zs false)).set g.next (.cells b false)).set L (.cells (splice (upd D cs) (k * 64) b) false)).set g.next .dead) : HG h L m cs ((k, b) :: D) g2 := by
  subst e
  have hLn := Heap.lt_of_get X.hL
  have hn1 : (g.alloc (.cells zs false)).next = g.next + 1 := Heap.next_alloc _ _
  have hgn := G.nx
  refine ⟨by simp only [Heap.next_set, Heap.next_alloc, List.length_cons]; omega, fun id => ?_⟩
  rw [Heap.get_set _ _ _ _ (by simp only [Heap.next_set, Heap.next_alloc]; omega), Heap.get_set _ _ _ _ (by simp only [Heap.next_set, Heap.next_alloc]; omega), Heap.get_set _ _ _ _ (by simp only [Heap.next_alloc]; omega), Heap.get_alloc, List.length_cons]
  by_cases h1 : id = g.next
  · rw [if_pos h1, if_pos (by omega)]
  · rw [if_neg h1]
    by_cases h2 : id = L
    · have := X.hLm
      rw [if_pos h2, if_neg (by omega), if_neg (by omega), if_pos h2]; rfl
    · rw [if_neg h2, if_neg h1, if_neg h1, G.at_]
      by_cases h3 : h.next ≤ id ∧ id < h.next + 1 + D.length
      · rw [if_pos h3, if_pos (by omega)]
      · rw [if_neg h3, if_neg (show ¬ (h.next ≤ id ∧ id < h.next + 1 + (D.length + 1)) by omega), if_neg h2, if_neg h2]
theorem slot {ν : Mu} {tm : List AV} {a : Act} (ht : Vs ν tm a.tmps.toList) (i : Nat) : V ν (tm.getD i undefA) (a.eval (.tmp i)) := by
  rw [Act.eval_tmp]; exact ht.getD i
theorem slot_ptr {ν : Mu} {tm : List AV} {a : Act} (ht : Vs ν tm a.tmps.toList) {i id b lim : Nat} (e : tm.getD i undefA = .ptr id 0) (hm : ν id = some (b, 0, lim)) : a.eval (.tmp i) = .pointer (some ⟨b, 0, none⟩) := by
  have hv := slot ht i
  rw [e] at hv
  generalize a.eval (.tmp i) = x at hv
  cases hv with | ptr _ _ b' base' lim' h1 => rw [hm] at h1; cases h1; rfl
theorem slot_bool {ν : Mu} {tm : List AV} {a : Act} (ht : Vs ν tm a.tmps.toList) {i : Nat} {t : Bool} (e : tm.getD i undefA = .bool t) : a.eval (.tmp i) = .bool t := by
  have hv := slot ht i
  rw [e] at hv
  generalize a.eval (.tmp i) = x at hv
  cases hv with | bool => rfl
theorem nodup_idx {α : Type} {l : List α} (hn : l.Nodup) {i j : Nat} {x : α} (h1 : l[i]? = some x) (h2 : l[j]? = some x) : i = j := by
  obtain ⟨hi, e1⟩ := List.getElem?_eq_some_iff.1 h1
  obtain ⟨hj, e2⟩ := List.getElem?_eq_some_iff.1 h2
  exact (List.getElem_inj hn).1 (e1.trans e2.symm)
theorem nodup_inj {l : List (Nat × List AV)} (hn : (l.map (·.1)).Nodup) {x y : Nat × List AV} (hx : x ∈ l) (hy : y ∈ l) (e : x.1 = y.1) : x = y := by
  obtain ⟨i, hi, rfl⟩ := List.mem_iff_getElem.1 hx
  obtain ⟨j, hj, rfl⟩ := List.mem_iff_getElem.1 hy
  have h1 : (l.map (·.1))[i]? = some l[j].1 := by rw [List.getElem?_map, List.getElem?_eq_getElem hi]; simp [e]
  have h2 : (l.map (·.1))[j]? = some l[j].1 := by rw [List.getElem?_map, List.getElem?_eq_getElem hj]; rfl
  have := nodup_idx hn h1 h2
  subst this; rfl
theorem idx_eq {l : List MapEntry} (hn : (l.map (·.born)).Nodup) {i j : Nat} {x y : MapEntry} (h1 : l[i]? = some x) (h2 : l[j]? = some y) (e : x.born = y.born) : i = j :=
  nodup_idx hn (x := x.born) (by rw [List.getElem?_map, h1]; rfl) (by rw [List.getElem?_map, h2, e]; rfl)
theorem LI.round (X : Ctx P μ h w c d L m n cap ex cs q l gn wk es ps bm base lim clock es') (hrw : w.heap.size ≤ r) (hcall : SimCall P call) (hdraw : SimDraw P call) (Z : FlushAt P f fE) {D : List (Nat × List AV)} {tm : List AV} {g : Heap} {ν : Mu} {seen : Array Nat} {a : Act} {w1 : World}
    (I : LI P μ h w c L m cs ps bm clock r es' D tm g ν seen a w1) {J : Act → World → Prop} {Q : Exit → Act → World → Prop}
    (hQ : ∀ tm' ν' a' w', LI P μ h w c L m cs ps bm clock r es' D tm' g ν' seen a' w' → (∀ pr ∈ ps, pr ∈ D) → Q .normal a' w')
    (hJ : ∀ D' tm' g' ν' seen' a' w', LI P μ h w c L m cs ps bm clock r es' D' tm' g' ν' seen' a' w' → (leftOf es' seen').size < (leftOf es' seen).size → J a' w') :
    ((Code.region Z.i1 #[Z.oN, Z.oX] false).seq ((Code.cond (.tmp 9) .skip (.exit 0)).seq (Code.block 1 ((Code.region Z.i2 #[Z.oE, Z.p0, Z.p1, Z.p2, Z.p3, Z.p4] false).seq (Code.region Z.i3 Z.R3 true))))).wpIn (F none) 0 P (Exit.then J (Exit.inBlock 0 Q)) a w1 := by
  have hpl := X.hp.len
  have hpsl := prs_len X.hps
  refine wpIn_seq ?_
  refine wpIn_region ?_
  show wpOpsIn _ _ _ _ _ [0, 1] _ _
  have hev := slot_ptr I.V I.t7 I.it
  have law := run_next_at (P := P) w1 Z.oN.type r bm clock clock seen es' clock I.hr I.hb X.hst.1 (Nat.le_refl _)
  rcases law with ⟨hz0, hrun⟩ | ⟨e, he, w2, hal, hrun⟩
  · refine raw_step (w' := w1) (v := .tuple #[.bool false]) rfl Z.cN.2.2 (fun c => by rw [Z.cN.1]; exact fun h => nomatch h) (by simp [execOp, Z.cN.1, hev, hrun, Result.andThen]) ?_
    rw [Z.cN.2.1]
    have ht1 := putSt I.V 8 (V.tuple [.bool false] #[.bool false] (.cons _ _ _ _ (.bool false) .nil))
    refine op_step hcall (i := 1) rfl Z.cX rfl I.s ht1 (v := .bool false) (h' := g) (by simp only [aop, ev, pT_get, I.tl, Nat.reduceLT, ↓reduceIte]; rfl) fun ν3 a3 w3 ht3 s3 f3 d3 => ?_
    show Exit.then _ _ .normal a3 w3
    simp only [Exit.then]
    have h9 := slot_bool (i := 9) (t := false) ht3 (by simp only [pT_get, pT_len, I.tl, Nat.reduceLT, ↓reduceIte])
    refine wpIn_seq ?_
    refine wpIn_cond_false h9 ?_
    refine wpIn_exit ?_
    show Exit.inBlock 0 Q (.exit 0) a3 w3
    simp only [Exit.inBlock, if_true]
    have all := all_seen es' seen hz0
    refine hQ _ ν3 a3 w3 ⟨I.G, I.hD, I.nD, by simp only [pT_len, I.tl], by simp only [pT_get, pT_len, I.tl, Nat.reduceLT, Nat.reduceEqDiff, ↓reduceIte, I.t0], by simp only [pT_get, pT_len, I.tl, Nat.reduceLT, Nat.reduceEqDiff, ↓reduceIte, I.t7], ht3, s3, I.f.trans f3, d3.trans I.df, f3.le _ _ I.it, keepB X hrw I.G I.s I.f f3 (.inr rfl) I.hr, keepB X hrw I.G I.s I.f f3 (.inl rfl) I.hb, I.sn⟩ fun pr hpr => ?_
    obtain ⟨i, hi, rfl⟩ := List.mem_iff_getElem.1 hpr
    have hi' : i < es'.toList.length := by omega
    exact (I.sn i es'.toList[i] ps[i] (List.getElem?_eq_getElem hi') (List.getElem?_eq_getElem hi)).1 (all _ (List.getElem_mem hi'))
  · obtain ⟨hem, hns⟩ := mem_left he
    obtain ⟨i, hi, rfl⟩ := List.mem_iff_getElem.1 hem
    have hei := List.getElem?_eq_getElem hi
    obtain ⟨k, v, hk1, hk2, hk3⟩ := (X.hp.mono I.f.le).get hei
    obtain ⟨qk, b, rfl, rfl, hpr, hbl, hbf⟩ := prs_get X.hps i k v hk1
    have hprm : (qk, b) ∈ ps := List.mem_of_getElem? hpr
    have hnD : (qk, b) ∉ D := fun hin => by
      have := (I.sn i _ _ hei hpr).2 hin
      rw [hns] at this; cases this
    have hqn : qk < n := X.h2 _ hprm
    have hsz1 : r < w2.heap.size := by
      have := (Array.getElem?_eq_some_iff.1 I.hr).1
      rcases hal with rfl | rfl <;> exact this
    have s2 : St P ν g w2 := by rcases hal with rfl | rfl; exact I.s; exact I.s.drew
    have f2 : Fr μ h w ν g w2 := by rcases hal with rfl | rfl; exact I.f; exact I.f.trans (Fr.drew _ _ _)
    have hr2 : w2.heap[r]? = some (.mapIter (some bm) clock seen clock) := by rcases hal with rfl | rfl <;> exact I.hr
    have hb2 : w2.heap[bm]? = some (.map es' clock) := by rcases hal with rfl | rfl <;> exact I.hb
    have hrb : bm ≠ r := fun e => by
      have := (Array.getElem?_eq_some_iff.1 X.hb).1
      omega
    refine raw_step (w' := ChangeMaps.setBlock w2 r (.mapIter (some bm) clock (seen.push es'.toList[i].born) clock)) (v := .tuple #[.bool true, es'.toList[i].key, es'.toList[i].val]) rfl Z.cN.2.2 (fun c => by rw [Z.cN.1]; exact fun h => nomatch h) (by simp [execOp, Z.cN.1, hev, hrun, Result.andThen]) ?_
    rw [Z.cN.2.1]
    have s3 := s2.putB (ob := .mapIter (some bm) clock (seen.push es'.toList[i].born) clock) hr2 (fun _ _ _ h => nomatch h) (I.G.free X.s s2 f2 X.hmu X.hm X.hL X.hLm hrw (.inr rfl))
    have f3 := f2.putB (ob := .mapIter (some bm) clock (seen.push es'.toList[i].born) clock) hrw
    have hr3 : (ChangeMaps.setBlock w2 r (.mapIter (some bm) clock (seen.push es'.toList[i].born) clock)).heap[r]? = _ := putB_new hsz1
    have hb3 : (ChangeMaps.setBlock w2 r (.mapIter (some bm) clock (seen.push es'.toList[i].born) clock)).heap[bm]? = _ := (putB_old hrb).trans hb2
    generalize ChangeMaps.setBlock w2 r (.mapIter (some bm) clock (seen.push es'.toList[i].born) clock) = w3 at s3 f3 hr3 hb3 ⊢
    have ht1 := putSt I.V 8 (V.tuple [.bool true, .int .i64 (qk : Nat), .agg b] #[.bool true, es'.toList[i].key, es'.toList[i].val] (.cons _ _ _ _ (.bool true) (.cons _ _ _ _ hk2 (.cons _ _ _ _ hk3 .nil))))
    refine op_step hcall (i := 1) rfl Z.cX rfl s3 ht1 (v := .bool true) (h' := g) (by simp only [aop, ev, pT_get, I.tl, Nat.reduceLT, ↓reduceIte]; rfl) fun ν4 a4 w4 ht4 s4 f4 d4 => ?_
    show Exit.then _ _ .normal a4 w4
    simp only [Exit.then]
    have h9 := slot_bool (i := 9) (t := true) ht4 (by simp only [pT_get, pT_len, I.tl, Nat.reduceLT, ↓reduceIte])
    refine wpIn_seq ?_
    refine wpIn_cond_true h9 ?_
    refine wpIn_skip ?_
    show Exit.then _ _ .normal a4 w4
    simp only [Exit.then]
    refine wpIn_block ?_
    refine wpIn_seq ?_
    refine wpIn_region ?_
    show wpOpsIn _ _ _ _ _ (0 :: List.range' 1 [Z.p0, Z.p1, Z.p2, Z.p3, Z.p4].length) _ _
    have hr4 := keepB X hrw I.G s3 f3 f4 (.inr rfl) hr3
    have hb4 := keepB X hrw I.G s3 f3 f4 (.inl rfl) hb3
    have f04 := f3.trans f4
    have hev4 := slot_ptr (i := 7) ht4 (by simp only [pT_get, pT_len, I.tl, Nat.reduceLT, Nat.reduceEqDiff, ↓reduceIte, I.t7]) (f4.le _ _ I.it)
    have hent := run_entry_at (P := P) w4 r bm clock seen es' clock es'.toList[i] hr4 hb4 hem X.hst.2
    refine raw_step (w' := w4) (v := .tuple #[es'.toList[i].key, es'.toList[i].val]) rfl Z.cE.2.2 (fun c => by rw [Z.cE.1]; exact fun h => nomatch h) (by simp [execOp, Z.cE.1, hev4, hent, Result.andThen]) ?_
    rw [Z.cE.2.1]
    have ht5 := putSt ht4 10 (V.tuple [.int .i64 (qk : Nat), .agg b] #[es'.toList[i].key, es'.toList[i].val] (.cons _ _ _ _ (hk2.mono f4.le) (.cons _ _ _ _ (hk3.mono f4.le) .nil)))
    obtain ⟨tm6, e6, l6, t60, t67, t61, t62⟩ := eval2 (call := call) (g := g) (q := qk) (b := b) (zs := Z.zs) (tm := putT (putT (putT tm (some 8) (.tuple [.bool true, .int .i64 (qk : Nat), .agg b])) (some 9) (.bool true)) (some 10) (.tuple [.int .i64 (qk : Nat), .agg b])) (by simp only [pT_len, I.tl]) (by simp only [pT_get, pT_len, I.tl, Nat.reduceLT, ↓reduceIte]) hbl hbf Z.hz.1 Z.hz.2
    simp only [pT_get, pT_len, I.tl, Nat.reduceLT, Nat.reduceEqDiff, ↓reduceIte, I.t0, I.t7] at t60 t67
    refine aops_sim hcall none [Z.p0, Z.p1, Z.p2, Z.p3, Z.p4] 1 (A2 Z.zs) _ g tm6 _ ν4 _ w4 (fun j hj => ?_) Z.c2 e6 s4 ht5 fun ν6 a6 w6 ht6 s6 f6 d6 => ?_
    · have : j = 0 ∨ j = 1 ∨ j = 2 ∨ j = 3 ∨ j = 4 := by simp only [List.length_cons, List.length_nil] at hj; omega
      rcases this with rfl | rfl | rfl | rfl | rfl <;> rfl
    show Exit.then _ _ .normal a6 w6
    simp only [Exit.then]
    -- the row is laid
    have hgn := I.G.nx
    have hLlt := Heap.lt_of_get X.hL
    have hclt := Heap.lt_of_get X.hc
    have hdlt := Heap.lt_of_get X.hd
    have gget : ∀ id, id < h.next → ((g.alloc (.cells Z.zs false)).set g.next (.cells b false)).get id = g.get id := fun id hid => by
      rw [Heap.get_set _ _ _ _ (by rw [Heap.next_alloc]; omega), if_neg (by omega), Heap.get_alloc, if_neg (by omega)]
    have gc : g.get c = some (.cells [.ptr d 0] false) := by rw [I.G.at_, if_neg (by omega), if_neg X.hcm, if_neg (Ne.symm X.h5)]; exact X.hc
    have gd : g.get d = some (.cells [.slice L 0 n cap ex 64, q, .map m, l, gn, wk] false) := by rw [I.G.at_, if_neg (by omega), if_neg X.hdm, if_neg (Ne.symm X.h4)]; exact X.hd
    have gL : g.get L = some (.cells (upd D cs) false) := by rw [I.G.at_, if_neg (by omega), if_neg X.hLm, if_pos rfl]
    have hDall : ∀ e ∈ D, e.1 < n ∧ e.2.length = 64 := fun e he => ⟨X.h2 e (I.hD e he), (prs_all X.hps e (I.hD e he)).1⟩
    obtain ⟨tm7, e7, l7, t70, t77⟩ := eval3 (call := call) (tm := tm6) (g := (g.alloc (.cells Z.zs false)).set g.next (.cells b false)) (q := qk) (c := c) (d := d) (x := g.next) (L := L) (n := n) (cap := cap) (ex := ex) (b := b) (cs := upd D cs) (rest := [q, .map m, l, gn, wk]) (ro := false) (ro' := false) (rx := false) l6 t60 t61 t62 ((gget c hclt).trans gc) ((gget d hdlt).trans gd) (by rw [Heap.get_set _ _ _ _ (by rw [Heap.next_alloc]; omega), if_pos rfl]) ((gget L hLlt).trans gL) hbl hbf hqn (by rw [upd_len X.h1 hDall]; exact X.h1)
    obtain ⟨lg, hlg⟩ := log_of_ops e7
    refine hdraw Z.i3 Z.R3 A3 [] Z.c3.1 Z.c3.2.1 Z.c3.2.2.1 Z.c3.2.2.2 tm6 _ tm7 _ lg hlg rfl ν6 a6 w6 s6 ht6 none _ fun ν7 a7 w7 ht7 s7 f7 d7 => ?_
    show Exit.inBlock 1 _ .normal a7 w7
    simp only [Exit.inBlock, Exit.then]
    obtain ⟨s8, f8⟩ := s7.kill (id := g.next) (by simp only [Heap.next_set, Heap.next_alloc]; omega)
    have G8 := HG.next X (k := qk) (b := b) (zs := Z.zs) I.G Z.hz.1 rfl
    have hr7 := keepB X hrw I.G s4 f04 (f6.trans (f7.trans f8)) (.inr rfl) hr4
    have hb7 := keepB X hrw I.G s4 f04 (f6.trans (f7.trans f8)) (.inl rfl) hb4
    have hD8 : ∀ e ∈ (qk, b) :: D, e ∈ ps := fun e he => by
      rcases List.mem_cons.1 he with rfl | he
      · exact hprm
      · exact I.hD e he
    refine hJ ((qk, b) :: D) tm7 _ ν7 (seen.push es'.toList[i].born) a7 w7 ⟨G8, hD8, ?_, l7, t70, t77.trans t67, ht7, s8, f04.trans (f6.trans (f7.trans f8)), ?_, f7.le _ _ (f6.le _ _ (f4.le _ _ I.it)), hr7, hb7, ?_⟩ (left_shrinks es' seen _ he)
    · rw [List.map_cons, List.nodup_cons]
      refine ⟨fun hin => ?_, I.nD⟩
      obtain ⟨e1, he1, he2⟩ := List.mem_map.1 hin
      have : e1 = (qk, b) := nodup_inj X.h3 (I.hD e1 he1) hprm he2
      exact hnD (this ▸ he1)
    · rw [d7, d6]
      exact (show _ = a4.defers from rfl).trans (d4.trans I.df)
    · intro i2 e2 pr2 k1 k2
      rw [contains_push, Bool.or_eq_true, I.sn i2 e2 pr2 k1 k2, beq_iff_eq, List.mem_cons]
      constructor
      · rintro (k | k)
        · exact .inr k
        · have h2 := List.mem_of_getElem? k1
          have e12 := born_inj X.hst.2 h2 hem k
          have : i2 = i := idx_eq X.hst.2 k1 hei k
          subst this
          rw [hpr] at k2; cases k2
          exact .inl rfl
      · rintro (k | k)
        · subst k
          right
          have : i2 = i := by
            have h1 : (ps.map (·.1))[i2]? = some qk := by rw [List.getElem?_map, k2]; rfl
            have h2 : (ps.map (·.1))[i]? = some qk := by rw [List.getElem?_map, hpr]; rfl
            exact nodup_idx X.h3 h1 h2
          subst this
          rw [hei] at k1; cases k1; rfl
        · exact .inl k
theorem len_sub : ∀ {l m : List Nat}, l.Nodup → (∀ x ∈ l, x ∈ m) → l.length ≤ m.length
  | [], _, _, _ => Nat.zero_le _
  | a :: l, m, hn, hs => by
    rw [List.nodup_cons] at hn
    have ha := hs a (by simp)
    have ih := len_sub (l := l) (m := m.erase a) hn.2 fun x hx => by
      have hne : x ≠ a := fun e => hn.1 (e ▸ hx)
      exact (List.mem_erase_of_ne hne).2 (hs x (List.mem_cons_of_mem _ hx))
    rw [List.length_erase_of_mem ha] at ih
    have := List.length_pos_of_mem ha
    rw [List.length_cons]; omega
theorem cOpers_inv {ops : Array Oper} {o : Oper} {l : List Oper} {so : SOper} {sl : List SOper} (e : cOpers P ops (o :: l) = some (so :: sl)) : cOper P ops o = some so ∧ cOpers P ops l = some sl := by
  simp only [cOpers] at e
  split at e
  · rename_i s1 l1 h1 h2
    cases e
    exact ⟨h1, h2⟩
  · cases e
theorem ptr_dom {h : Heap} (s : St P μ h w) {c d : Nat} {x : Value} (hx : V μ (.ptr c 0) x) (hc : h.get c = some (.cells [.ptr d 0] false)) : ∃ b1 base1 lim1, μ d = some (b1, base1, lim1) := by
  cases hx with | ptr _ _ b base lim hm =>
  obtain ⟨arr, t, fr, _, _, _, hcell, _⟩ := s.r.obj c b base lim _ hm hc
  obtain ⟨v, _, hv, _⟩ := hcell 0 (.ptr d 0) rfl
  cases hv with | ptr _ _ b1 base1 lim1 h1 => exact ⟨b1, base1, lim1, h1⟩
theorem flush_sim (X : Ctx P μ h w c d L m n cap ex cs q l gn wk es ps bm base lim clock es') (hcall : SimCall P call) (hdraw : SimDraw P call) (hE : EmptyOk P fE) (Z : FlushAt P f fE) {x : Value} (hx : V μ (.ptr c 0) x) : Calls P f #[x] w (RetR P μ h w undefA (flushH h d L m n cap ex ps cs l gn wk)) := by
  refine callsIn_wide.1 (callsIn_of_wp_marks (n := 0) Z.hf Z.hb trivial ?_)
  have hargs : Vs μ (.ptr c 0 :: List.replicate 21 undefA) (#[x] ++ Array.replicate (Z.fn.ntmps - (#[x] : Array Value).size) undef).toList := by
    rw [Z.hn, Array.toList_append, Array.toList_replicate]
    exact .cons _ _ _ _ hx (.replicate 21 (.tuple [] #[] .nil))
  have hclt := Heap.lt_of_get X.hc
  have hdlt := Heap.lt_of_get X.hd
  have hLlt := Heap.lt_of_get X.hL
  have hmlt := Heap.lt_of_get X.hm
  refine wpIn_seq ?_
  refine wpIn_seq ?_
  refine wpIn_region ?_
  show wpOpsIn _ _ _ _ _ [0, 1, 2, 3, 4] _ _
  -- the map is found
  obtain ⟨c0, hops⟩ := cOpers_inv Z.c0
  obtain ⟨c1, hops⟩ := cOpers_inv hops
  obtain ⟨c2, hops⟩ := cOpers_inv hops
  obtain ⟨c3, _⟩ := cOpers_inv hops
  have go : ∀ (ν4 : Mu) (a4 : Act) (w4 : World), Vs ν4 (putT (putT (putT (putT (.ptr c 0 :: List.replicate 21 undefA) (some 3) (.ptr d 0)) (some 4) (.ptr d 0)) (some 5) (.ptr d 2)) (some 6) (.map m)) a4.tmps.toList → St P ν4 h w4 → Fr μ h w ν4 h w4 → a4.defers = [] →
      wpOpsIn (F none) 0 P #[Z.o0, Z.o1, Z.o2, Z.o3, Z.oR] (Exit.then ((Code.block 0 (Code.loop ((Code.region Z.i1 #[Z.oN, Z.oX] false).seq ((Code.cond (.tmp 9) .skip (.exit 0)).seq (Code.block 1 ((Code.region Z.i2 #[Z.oE, Z.p0, Z.p1, Z.p2, Z.p3, Z.p4] false).seq (Code.region Z.i3 Z.R3 true))))))).wpIn (F none) 0 P (Exit.then ((Code.region Z.i4 #[Z.q0, Z.q1] false).wpIn (F none) 0 P (bodyPostM Fence.wide 0 P Z.fn (RetR P μ h w undefA (flushH h d L m n cap ex ps cs l gn wk)))) (bodyPostM Fence.wide 0 P Z.fn (RetR P μ h w undefA (flushH h d L m n cap ex ps cs l gn wk))))) (Exit.then ((Code.region Z.i4 #[Z.q0, Z.q1] false).wpIn (F none) 0 P (bodyPostM Fence.wide 0 P Z.fn (RetR P μ h w undefA (flushH h d L m n cap ex ps cs l gn wk)))) (bodyPostM Fence.wide 0 P Z.fn (RetR P μ h w undefA (flushH h d L m n cap ex ps cs l gn wk))))) [4] a4 w4 := by
    intro ν4 a4 w4 ht4 s4 f4 d4
    have hmu4 := f4.le _ _ X.hmu
    obtain ⟨es4, clock4, hb4, hp4, hst4⟩ := s4.r.obj m bm base lim _ hmu4 X.hm
    have hev : a4.eval (.tmp 6) = .map (some bm) := by
      have hv := slot ht4 6
      simp only [pT_get, pT_len, List.length_cons, List.length_replicate, Nat.reduceAdd, Nat.reduceLT, ↓reduceIte] at hv
      generalize a4.eval (.tmp 6) = y at hv
      cases hv with | map _ b' base' lim' h1 => rw [hmu4] at h1; cases h1; rfl
    have hrg := run_range_map (P := P) w4 Z.tM Z.kt Z.et bm es4 clock4 Z.uM hb4
    refine raw_step (w' := w4.alloc (.mapIter (some bm) clock4 #[] clock4)) (v := .pointer (some ⟨w4.heap.size, 0, none⟩)) rfl Z.cR.2.2 (fun c => by rw [Z.cR.1]; exact fun h => nomatch h) (by simp [execOp, Z.cR.1, hev, hrg, Result.andThen]) ?_
    rw [Z.cR.2.1]
    obtain ⟨s5, f5⟩ := allocObj_sim s4 .dead (.mapIter (some bm) clock4 #[] clock4) rfl trivial
    have hit : muAdd ν4 h.next (w4.heap.size, 0, 0) h.next = some (w4.heap.size, 0, 0) := muAdd_same _ _ _
    have ht5 := putSt (ht4.mono f5.le) 7 (V.ptr h.next 0 w4.heap.size 0 0 hit)
    obtain ⟨s6, f6⟩ := s5.kill (id := m) (by rw [Heap.next_alloc]; omega)
    -- from the state ahead of the loop on
    have X4 : Ctx P ν4 h w4 c d L m n cap ex cs q l gn wk es ps bm base lim clock4 es4 := ⟨s4, X.hc, X.hd, X.hL, X.hm, hmu4, hb4, hp4, hst4, X.hps, X.h1, X.h2, X.h3, X.h4, X.h5, X.h6⟩
    have I0 : LI P ν4 h w4 c L m cs ps bm clock4 w4.heap.size es4 [] _ ((h.alloc .dead).set m .dead) _ #[] (a4.put (some 7) (.pointer (some ⟨w4.heap.size, 0 + 0, none⟩))) (w4.alloc (.mapIter (some bm) clock4 #[] clock4)) :=
      ⟨⟨by simp only [Heap.next_set, Heap.next_alloc, List.length_nil, Nat.add_zero], fun id => by
        rw [Heap.get_set _ _ _ _ (by rw [Heap.next_alloc]; omega), Heap.get_alloc, List.length_nil]
        by_cases k1 : id = m
        · rw [if_pos k1, if_neg (by omega), if_pos k1]
        · rw [if_neg k1]
          by_cases k2 : id = h.next
          · rw [if_pos k2, if_pos (by omega)]
          · rw [if_neg k2, if_neg (by omega), if_neg k1]
            by_cases k3 : id = L
            · rw [if_pos k3, k3]; exact X.hL
            · rw [if_neg k3]⟩,
       (fun e he => nomatch he), List.nodup_nil, by simp only [pT_len, List.length_cons, List.length_replicate],
       by simp only [pT_get, pT_len, List.length_cons, List.length_replicate, Nat.reduceAdd, Nat.reduceLT, Nat.reduceEqDiff, ↓reduceIte]; rfl,
       by simp only [pT_get, pT_len, List.length_cons, List.length_replicate, Nat.reduceAdd, Nat.reduceLT, Nat.reduceEqDiff, ↓reduceIte],
       ht5, s6, f5.trans f6, d4, hit, alloc_new _ _, Eq.trans (by simp only [World.alloc, Array.getElem?_push]; rw [if_neg (by have := (Array.getElem?_eq_some_iff.1 hb4).1; omega)]) hb4, fun i e pr k1 k2 => by simp⟩
    show Exit.then _ _ .normal _ _
    simp only [Exit.then]
    refine wpIn_block ?_
    refine wpIn_loop (fun a' w' => ∃ D tm g ν seen, LI P ν4 h w4 c L m cs ps bm clock4 w4.heap.size es4 D tm g ν seen a' w') (fun _ w' => (leftOf es4 (w'.iterSeen w4.heap.size)).size) ⟨_, _, _, _, _, I0⟩ ?_
    rintro a w1 ⟨D, tm, g, ν, seen, I⟩
    have hseen : w1.iterSeen w4.heap.size = seen := by unfold World.iterSeen; rw [I.hr]
    refine LI.round X4 (Nat.le_refl _) hcall hdraw Z I ?_ ?_
    · -- all of them are laid
      intro tm7 ν7 a7 w7 I7 hall
      simp only [Exit.then]
      have hlen : D.length = ps.length := by
        have h1 := len_sub I7.nD (m := ps.map (·.1)) fun x hx => by
          obtain ⟨e, he, rfl⟩ := List.mem_map.1 hx
          exact List.mem_map.2 ⟨e, I7.hD e he, rfl⟩
        have h2 := len_sub X.h3 (m := D.map (·.1)) fun x hx => by
          obtain ⟨e, he, rfl⟩ := List.mem_map.1 hx
          exact List.mem_map.2 ⟨e, hall e he, rfl⟩
        simp only [List.length_map] at h1 h2
        omega
      have hDall : ∀ e ∈ D, e.1 < n ∧ e.2.length = 64 := fun e he => ⟨X.h2 e (I7.hD e he), (prs_all X.hps e (I7.hD e he)).1⟩
      have hPall : ∀ e ∈ ps, e.1 < n ∧ e.2.length = 64 := fun e he => ⟨X.h2 e he, (prs_all X.hps e he).1⟩
      have hupd : upd D cs = upd ps cs := upd_perm X.h1 hDall hPall I7.nD X.h3 fun e => ⟨I7.hD e, hall e⟩
      have hgm : g.get m = some .dead := by rw [I7.G.at_, if_neg (by omega), if_pos rfl]
      have hmu7 := I7.f.le _ _ hmu4
      have s8 := I7.s.revive hgm hmu7 I7.hb (hp4.mono I7.f.le) hst4 (I7.G.free X4.s I7.s I7.f X4.hmu X4.hm X4.hL X4.hLm (Nat.le_refl _) (.inl rfl))
      have hget8 : ∀ id, (g.set m (.map es)).get id = if id = m then some (.map es) else g.get id := fun id => Heap.get_set _ _ _ _ (Heap.lt_of_get hgm)
      have f8 : Fr ν4 h w4 ν7 (g.set m (.map es)) w7 := ⟨I7.f.le, I7.f.size, I7.f.os, I7.f.tape, I7.f.output, I7.f.same, fun b hb => by
        obtain ⟨id, b1, l1, o, k1, k2, k3⟩ := hb
        rw [hget8] at k2
        split at k2
        · rename_i k
          subst k
          rw [hmu7] at k1
          cases k1
          exact .inl ⟨id, _, _, _, hmu4, X.hm, rfl⟩
        · exact I7.f.own b ⟨id, b1, l1, o, k1, k2, k3⟩, by rw [Heap.next_set]; exact I7.f.nx, I7.f.dom⟩
      refine wpIn_region ?_
      show wpOpsIn _ _ _ _ _ (List.range' 0 [Z.q0, Z.q1].length) _ _
      have g8c : (g.set m (.map es)).get c = some (.cells [.ptr d 0] false) := by rw [hget8, if_neg X.hcm, I7.G.at_, if_neg (by omega), if_neg X.hcm, if_neg (Ne.symm X.h5)]; exact X.hc
      have g8d : (g.set m (.map es)).get d = some (.cells [.slice L 0 n cap ex 64, q, .map m, l, gn, wk] false) := by rw [hget8, if_neg X.hdm, I7.G.at_, if_neg (by omega), if_neg X.hdm, if_neg (Ne.symm X.h4)]; exact X.hd
      have fl : l.flat = true ∧ gn.flat = true ∧ wk.flat = true := by
        cases hμd : μ d with
        | none =>
          obtain ⟨b1, base1, lim1, hq⟩ : ∃ b1 base1 lim1, μ d = some (b1, base1, lim1) := ptr_dom X.s hx X.hc
          rw [hμd] at hq; cases hq
        | some y =>
          obtain ⟨b1, base1, lim1⟩ := y
          obtain ⟨arr, t, fr, _, _, _, hcell, _⟩ := X.s.r.obj d b1 base1 lim1 _ hμd X.hd
          exact ⟨let ⟨_, _, _, z⟩ := hcell 3 l rfl; z, let ⟨_, _, _, z⟩ := hcell 4 gn rfl; z, let ⟨_, _, _, z⟩ := hcell 5 wk rfl; z⟩
      obtain ⟨call9, hcall9, g9, e9, n9, get9⟩ := hE _ d _ q (.map m) l gn wk g8d rfl fl.1 fl.2.1 fl.2.2
      refine aops_sim hcall9 none [Z.q0, Z.q1] 0 _ tm7 _ (putT (putT tm7 (some 20) (.ptr d 0)) (some 21) undefA) g9 ν7 a7 w7 (fun j hj => ?_) Z.c4 ?_ s8 I7.V fun ν9 a9 w9 ht9 s9 f9 d9 => ?_
      · have : j = 0 ∨ j = 1 := by simp only [List.length_cons, List.length_nil] at hj; omega
        rcases this with rfl | rfl <;> rfl
      · have h20 : (putT tm7 (some 20) (.ptr d 0)).getD 20 undefA = .ptr d 0 := by simp only [pT_get, I7.tl, Nat.reduceLT, ↓reduceIte]
        simp only [aops, wantedA, if_true, aop, ev, evs, List.map_cons, List.map_nil, I7.t0, loadA, g8c, Bool.false_eq_true, ↓reduceIte, List.getElem?_cons_zero, Option.map_some, h20, e9]
      · have hn8 : (g.set m (.map es)).next = h.next + 1 + ps.length := by rw [Heap.next_set, I7.G.nx, hlen]
        have hfin : ∀ id, (flushH h d L m n cap ex ps cs l gn wk).get id = g9.get id := fun id => by
          unfold flushH
          have hnx : (addDead (h.set L (.cells (upd ps cs) false)) (ps.length + 1)).next = h.next + (ps.length + 1) := by rw [addDead_next, Heap.next_set]
          rw [get9, Heap.get_set _ _ _ _ (by rw [Heap.next_alloc, hnx]; omega), Heap.get_alloc, hnx, addDead_get, Heap.next_set, Heap.get_set _ _ _ _ hLlt, hn8, hget8, I7.G.at_, hupd, hlen]
          by_cases k1 : id = d
          · rw [if_pos k1, if_pos k1]
            congr 6; omega
          · rw [if_neg k1, if_neg k1]
            by_cases k2 : id = h.next + (ps.length + 1)
            · rw [if_pos k2, if_pos (show id = h.next + 1 + ps.length by omega)]
            · rw [if_neg k2, if_neg (show ¬ id = h.next + 1 + ps.length by omega)]
              by_cases k3 : h.next ≤ id ∧ id < h.next + (ps.length + 1)
              · rw [if_pos k3, if_neg (show ¬ id = m by omega), if_pos (show h.next ≤ id ∧ id < h.next + 1 + ps.length by omega)]
              · rw [if_neg k3]
                by_cases k4 : id = m
                · rw [if_pos k4, if_neg (show ¬ id = L from fun e => X.hLm (e.symm.trans k4)), k4]; exact X.hm
                · rw [if_neg k4, if_neg (show ¬ (h.next ≤ id ∧ id < h.next + 1 + ps.length) by omega), if_neg k4]
        have hfn : (flushH h d L m n cap ex ps cs l gn wk).next = g9.next := by
          unfold flushH
          rw [Heap.next_set, Heap.next_alloc, addDead_next, Heap.next_set, n9, hn8]; omega
        have s10 := s9.congr hfn hfin
        have f10 := ((f4.trans f8).trans f9).congr hfn hfin
        have d10 : a9.defers = [] := d9.trans I7.df
        have hlv : LeavesInM Fence.wide 0 P Z.fn a9.tmps (RetR P μ h w undefA (flushH h d L m n cap ex ps cs l gn wk)) a9.defers .returning w9 := by
          refine leaves_marks (B := w.heap.size) a9.defers _ ν9 w9 (by rw [d10]; trivial) s10 fun w' s' k1 k2 k3 k4 k5 => ?_
          obtain ⟨v', r1, r2⟩ := results_sim (fn := Z.fn) (srs := []) (vs := []) s' ht9 (by rw [Z.hres]; rfl) rfl
          refine ⟨v', r1, ν9, v', rfl, r2, s', ⟨f10.le, by rw [k1]; exact f10.size, k2.trans f10.os, k3.trans f10.tape, k4.trans f10.output, fun b hb hn => ?_, f10.own, f10.nx, f10.dom⟩⟩
          rw [k5 b hb]; exact f10.same b hb hn
        exact hlv
    · intro D' tm' g' ν' seen' a' w' I' hlt
      have hseen' : w'.iterSeen w4.heap.size = seen' := by unfold World.iterSeen; rw [I'.hr]
      exact ⟨⟨D', tm', g', ν', seen', I'⟩, by rw [hseen', hseen]; exact hlt⟩
  have hl0 : (AV.ptr c 0 :: List.replicate 21 undefA).length = 22 := by simp only [List.length_cons, List.length_replicate]
  refine op_step hcall (i := 0) rfl c0 rfl X.s hargs (v := .ptr d 0) (h' := h) (by simp only [aop, ev, List.getD_cons_zero, loadA, X.hc, Bool.false_eq_true, ↓reduceIte, List.getElem?_cons_zero, Option.map_some]) fun ν1 a1 w1 ht1 s1 f1 d1 => ?_
  refine op_step hcall (i := 1) rfl c1 rfl s1 ht1 (v := .ptr d 0) (h' := h) (by simp only [aop, ev, pT_get, pT_len, hl0, Nat.reduceLT, ↓reduceIte]) fun ν2 a2 w2 ht2 s2 f2 d2 => ?_
  refine op_step hcall (i := 2) rfl c2 rfl s2 ht2 (v := .ptr d 2) (h' := h) (by simp only [aop, ev, pT_get, pT_len, hl0, Nat.reduceLT, ↓reduceIte, Nat.zero_add]) fun ν3 a3 w3 ht3 s3 f3 d3 => ?_
  refine op_step hcall (i := 3) rfl c3 rfl s3 ht3 (v := .map m) (h' := h) (by simp only [aop, ev, pT_get, pT_len, hl0, Nat.reduceLT, ↓reduceIte, loadA, X.hd, Bool.false_eq_true, List.getElem?_cons_succ, List.getElem?_cons_zero, Option.map_some]) fun ν4 a4 w4 ht4 s4 f4 d4 => ?_
  exact go ν4 a4 w4 ht4 s4 (f1.trans (f2.trans (f3.trans f4))) (d4.trans (d3.trans (d2.trans d1)))
theorem flushK_ok {f fE : FuncId} {call : Tgt → List AV → Heap → AR} (hcall : SimCall P call) (hdraw : SimDraw P call) (hE : EmptyOk P fE) (Z : FlushAt P f fE) : XOk P (flushK f) := by
  intro g args h v h' e μ w args' s hv
  unfold flushK at e
  split at e
  case isFalse => cases e
  rename_i hg
  subst hg
  split at e
  case h_2 => cases e
  rename_i c
  split at e
  case h_2 => cases e
  rename_i d hc
  split at e
  case h_2 => cases e
  rename_i L n cap ex q m l gn wk hd
  split at e
  case h_2 => cases e
  rename_i cs hL
  split at e
  case h_2 => cases e
  rename_i es hm
  split at e
  case h_2 => cases e
  rename_i ps hps
  split at e
  case isFalse => cases e
  rename_i hok
  cases e
  unfold flushOk at hok
  rw [decide_eq_true_eq] at hok
  obtain ⟨k1, k2, k3, k4, k5, k6⟩ := hok
  obtain ⟨lv⟩ := args'
  cases hv with | cons _ x _ xs h1 h2 =>
  cases h2
  obtain ⟨b1, base1, lim1, hμd⟩ := ptr_dom s h1 hc
  obtain ⟨arr, t, fr, _, _, _, hcell, _⟩ := s.r.obj d b1 base1 lim1 _ hμd hd
  obtain ⟨v2, _, hv2, _⟩ := hcell 2 (.map m) rfl
  cases hv2 with | map _ bm base lim hmu =>
  obtain ⟨es', clock, hb, hp, hst⟩ := s.r.obj m bm base lim _ hmu hm
  exact ⟨⟨Z.fn, Z.hf, by simp [Z.hb], Z.hname⟩, flush_sim ⟨s, hc, hd, hL, hm, hmu, hb, hp, hst, hps, k1, k2, k3, k4, k5, k6⟩ hcall hdraw hE Z h1⟩
end
end
end Go.Ya
