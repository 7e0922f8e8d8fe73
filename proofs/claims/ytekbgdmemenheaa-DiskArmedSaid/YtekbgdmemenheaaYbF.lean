/-
  The abstract machine: YaDraw1, YaDraw2, YaDraw3.
-/
import Derived.Test.YtekbgdmemenheaaYbE
namespace Go.Ya
set_option linter.unusedVariables false
set_option linter.unusedSimpArgs false
/-! ### edges -/
theorem uni_mem : ∀ {a s : List Nat} {j : Nat}, j ∈ uni s a → j ∈ a ∨ j ∈ s
  | [], s, j, h => .inr h
  | x :: a, s, j, h => by
    rw [uni] at h
    rcases uni_mem h with h | h
    · exact .inl (List.mem_cons_of_mem _ h)
    · split at h
      · exact .inr h
      · rcases List.mem_cons.1 h with rfl | h
        · exact .inl List.mem_cons_self
        · exact .inr h
theorem fold_mem (acc : List (List Nat)) : ∀ (l : List Edge) (s : List Nat) (j : Nat), j ∈ l.foldl (fun s e => if Region.binds .any e then uni s (e.on :: (acc.getD e.on [])) else s) s → j ∈ s ∨ ∃ e ∈ l, Region.binds .any e = true ∧ (j = e.on ∨ j ∈ acc.getD e.on [])
  | [], s, j, h => .inl h
  | e :: l, s, j, h => by
    simp only [List.foldl_cons] at h
    rcases fold_mem acc l _ j h with h | ⟨e', he, hb, hj⟩
    · split at h
      · rename_i hb
        rcases uni_mem h with h | h
        · rcases List.mem_cons.1 h with rfl | h
          · exact .inr ⟨e, List.mem_cons_self, hb, .inl rfl⟩
          · exact .inr ⟨e, List.mem_cons_self, hb, .inr h⟩
        · exact .inl h
      · exact .inl h
    · exact .inr ⟨e', List.mem_cons_of_mem _ he, hb, hj⟩
def stepB (acc : List (List Nat)) (o : Oper) : List (List Nat) :=
  acc ++ [o.after.toList.foldl (init := []) fun s e => if Region.binds .any e then uni s (e.on :: (acc.getD e.on [])) else s]
theorem befores_fold : ∀ (l : List Oper) (acc : List (List Nat)), (l.foldl stepB acc).length = acc.length + l.length ∧ (∀ k, k < acc.length → (l.foldl stepB acc).getD k [] = acc.getD k []) ∧
    ∀ i o, l[i]? = some o → (∀ e ∈ o.after.toList, Region.binds .any e = true → e.on < acc.length + i) → ∀ j, j ∈ (l.foldl stepB acc).getD (acc.length + i) [] → ∃ e ∈ o.after.toList, Region.binds .any e = true ∧ (j = e.on ∨ j ∈ (l.foldl stepB acc).getD e.on [])
  | [], acc => ⟨rfl, fun _ _ => rfl, fun i o h => by simp at h⟩
  | x :: l, acc => by
    obtain ⟨h1, h2, h3⟩ := befores_fold l (stepB acc x)
    have hl : (stepB acc x).length = acc.length + 1 := by simp [stepB]
    have hk : ∀ k, k < acc.length → ((x :: l).foldl stepB acc).getD k [] = acc.getD k [] := fun k hk => by
      rw [List.foldl_cons, h2 k (by omega)]
      simp [stepB, List.getD_eq_getElem?_getD, List.getElem?_append_left hk]
    refine ⟨by rw [List.foldl_cons, h1, hl, List.length_cons]; omega, hk, fun i o ho he j hj => ?_⟩
    cases i with
    | zero =>
      simp only [List.getElem?_cons_zero, Option.some.injEq] at ho
      subst ho
      rw [List.foldl_cons, Nat.add_zero, h2 acc.length (by omega)] at hj
      have hlast : (stepB acc x).getD acc.length [] = x.after.toList.foldl (init := []) (fun s e => if Region.binds .any e then uni s (e.on :: (acc.getD e.on [])) else s) := by
        unfold stepB
        rw [List.getD_eq_getElem?_getD, List.getElem?_append_right (Nat.le_refl _), Nat.sub_self]
        rfl
      rw [hlast] at hj
      rcases fold_mem acc _ _ j hj with h | ⟨e, hm, hb, hx⟩
      · cases h
      · refine ⟨e, hm, hb, hx.imp (fun h => h) fun h => ?_⟩
        rw [hk e.on (by have := he e hm hb; omega)]; exact h
    | succ i =>
      simp only [List.getElem?_cons_succ] at ho
      rw [List.foldl_cons] at hj ⊢
      rw [show acc.length + (i + 1) = (stepB acc x).length + i by omega] at hj
      exact h3 i o ho (fun e hm hb => by have := he e hm hb; omega) j hj
theorem befores_eq (ops : List Oper) : befores ops = ops.foldl stepB [] := rfl
theorem edges_lt {ops : List Oper} (h : edgesOk ops = true) {i : Nat} {o : Oper} (ho : ops[i]? = some o) : ∀ e ∈ o.after.toList, Region.binds .any e = true → e.on < i := by
  intro e he hb
  unfold edgesOk at h
  have hm : (o, i) ∈ ops.zipIdx := by
    rw [List.mem_zipIdx_iff_getElem?]; exact ho
  have h1 := List.all_eq_true.1 h _ hm
  have h2 := List.all_eq_true.1 h1 _ he
  simpa [hb] using h2
theorem befores_mem {ops : List Oper} (h : edgesOk ops = true) {i : Nat} {o : Oper} (ho : ops[i]? = some o) {j : Nat} (hj : j ∈ (befores ops).getD i []) :
    ∃ e ∈ o.after.toList, Region.binds .any e = true ∧ (j = e.on ∨ j ∈ (befores ops).getD e.on []) := by
  have := (befores_fold ops []).2.2 i o ho (fun e he hb => by simpa using edges_lt h ho e he hb) j (by simpa [befores_eq] using hj)
  simpa [befores_eq] using this
/-! ### loose pairs -/
theorem loose_mem {bs : List (List Nat)} {l : List SOper} {i j : Nat} {a b : SOper} (ha : l[i]? = some a) (hb : l[j]? = some b) (hne : i ≠ j) (ho : ordered bs i j = false) : (i, a, j, b) ∈ loosePairs bs l := by
  unfold loosePairs
  rw [List.mem_flatMap]
  refine ⟨(a, i), by rw [List.mem_zipIdx_iff_getElem?]; exact ha, ?_⟩
  rw [List.mem_filterMap]
  refine ⟨(b, j), by rw [List.mem_zipIdx_iff_getElem?]; exact hb, ?_⟩
  simp [hne, ho]
theorem draw_apart {bs : List (List Nat)} {l : List SOper} {p q : Nat} (h : drawOkR bs l p q = true) {i j : Nat} {a b : SOper} (ha : l[i]? = some a) (hb : l[j]? = some b) (hne : i ≠ j) (ho : ordered bs i j = false) :
    ((a.op.class = .heavy ∧ b.op.class = .heavy) → (p ≤ i ∧ i < q) ∧ p ≤ j ∧ j < q) ∧ ∀ d, b.dst = some d → d ∉ a.names := by
  unfold drawOkR at h
  rw [Bool.and_eq_true] at h
  have := List.all_eq_true.1 h.1 _ (loose_mem ha hb hne ho)
  simp only [Bool.and_eq_true, Bool.or_eq_true, Bool.not_eq_true', decide_eq_false_iff_not, decide_eq_true_eq] at this
  refine ⟨fun hh => this.1.elim (fun e => absurd hh e) fun e => e, fun d hd hm => ?_⟩
  have h2 := this.2
  rw [hd] at h2
  simp [hm] at h2
theorem draw_run {bs : List (List Nat)} {l : List SOper} {p q : Nat} (h : drawOkR bs l p q = true) {i : Nat} {a : SOper} (ha : l[i]? = some a) (hi : p ≤ i ∧ i < q) (hc : a.op.class = .heavy) : ∃ v, a.op = .box (.c v) ∧ a.guard = none := by
  unfold drawOkR at h
  rw [Bool.and_eq_true] at h
  have := List.all_eq_true.1 h.2 (a, i) (by rw [List.mem_zipIdx_iff_getElem?]; exact ha)
  simp only [hi, hc, and_self, decide_true, Bool.not_true, Bool.false_or] at this
  obtain ⟨dst, op, guard⟩ := a
  unfold constBox at this
  split at this
  · rename_i e; cases e; exact ⟨_, rfl, rfl⟩
  · cases this
theorem draw_ok {bs : List (List Nat)} {l : List SOper} (h : drawOk bs l = true) : ∃ p q, drawOkR bs l p q = true := by
  unfold drawOk at h
  rw [Bool.or_eq_true] at h
  exact h.elim (fun e => ⟨_, _, e⟩) fun e => ⟨_, _, e⟩
theorem chk_mem {bs : List (List Nat)} {l : List SOper} {i j : Nat} {a b : SOper} (ha : l[i]? = some a) (hb : l[j]? = some b) (hne : i ≠ j) (ho : ordered bs i j = false) (h1 : a.op.class = .read) (h2 : b.op.class = .heavy) : (i, j) ∈ drawChk bs l := by
  unfold drawChk
  rw [List.mem_filterMap]
  exact ⟨_, loose_mem ha hb hne ho, by simp [h1, h2]⟩
/-! ### the same block -/
mutual
theorem AV.beq_eq : ∀ (a b : AV), AV.beq a b = true → a = b
  | .bool a, b, h => by cases b <;> simp [AV.beq] at h; rw [h]
  | .int j a, b, h => by cases b <;> simp [AV.beq] at h; rw [h.1, h.2]
  | .str a, b, h => by cases b <;> simp [AV.beq] at h; rw [h]
  | .nilptr, b, h => by cases b <;> simp [AV.beq] at h; rfl
  | .ptr a c, b, h => by cases b <;> simp [AV.beq] at h; rw [h.1, h.2]
  | .nilsl, b, h => by cases b <;> simp [AV.beq] at h; rfl
  | .slice a c d e f g, b, h => by
    cases b <;> simp [AV.beq] at h
    obtain ⟨⟨⟨⟨⟨h1, h2⟩, h3⟩, h4⟩, h5⟩, h6⟩ := h
    rw [h1, h2, h3, h4, h5, h6]
  | .nilmap, b, h => by cases b <;> simp [AV.beq] at h; rfl
  | .map a, b, h => by cases b <;> simp [AV.beq] at h; rw [h]
  | .nilf, b, h => by cases b <;> simp [AV.beq] at h; rfl
  | .func f x y, b, h => by
    cases b <;> simp [AV.beq] at h
    rename_i f' x' y'
    rw [h.1.1, AV.beqs_eq x x' h.1.2, AV.beqs_eq y y' h.2]
  | .yieldf a, b, h => by cases b <;> simp [AV.beq] at h; rw [h]
  | .nilif, b, h => by cases b <;> simp [AV.beq] at h; rfl
  | .iface t v, b, h => by
    cases b <;> simp [AV.beq] at h
    rename_i t' v'
    rw [h.1, AV.beq_eq v v' h.2]
  | .meth m v, b, h => by
    cases b <;> simp [AV.beq] at h
    rename_i m' v'
    rw [h.1, AV.beq_eq v v' h.2]
  | .agg a, b, h => by
    cases b <;> simp [AV.beq] at h
    rename_i a'
    rw [AV.beqs_eq a a' h]
  | .tuple a, b, h => by
    cases b <;> simp [AV.beq] at h
    rename_i a'
    rw [AV.beqs_eq a a' h]
theorem AV.beqs_eq : ∀ (a b : List AV), AV.beqs a b = true → a = b
  | [], [], _ => rfl
  | [], _ :: _, h => by simp [AV.beqs] at h
  | _ :: _, [], h => by simp [AV.beqs] at h
  | a :: as, b :: bs, h => by
    simp [AV.beqs] at h
    rw [AV.beq_eq a b h.1, AV.beqs_eq as bs h.2]
end
theorem pairsBeq_eq : ∀ (a b : List (AV × AV)), pairsBeq a b = true → a = b
  | [], [], _ => rfl
  | [], _ :: _, h => by simp [pairsBeq] at h
  | _ :: _, [], h => by simp [pairsBeq] at h
  | (a, b) :: r, (c, d) :: s, h => by
    simp [pairsBeq] at h
    rw [AV.beq_eq a c h.1.1, AV.beq_eq b d h.1.2, pairsBeq_eq r s h.2]
theorem sameObj_eq {a b : Option AObj} (h : sameObj a b = true) : a = b := by
  cases a with
  | none => cases b with
    | none => rfl
    | some b => cases b <;> simp [sameObj] at h
  | some a =>
    cases b with
    | none => cases a <;> simp [sameObj] at h
    | some b =>
      cases a <;> cases b <;> simp [sameObj] at h
      · rw [h.1, AV.beqs_eq _ _ h.2]
      · rw [pairsBeq_eq _ _ h]
/-! ### an operation that writes nothing, over another heap -/
theorem loadA_local {h h2 : Heap} {b : Bool} {n id off : Nat} {v : AV} (e : loadA h b n id off = some v) (hs : (h.get id).isSome = true → h2.get id = h.get id) : loadA h2 b n id off = some v := by
  unfold loadA at e ⊢
  cases hg : h.get id with
  | none => rw [hg] at e; cases e
  | some o => rw [hs (by rw [hg]; rfl)]; exact e
theorem firstA_local {h h2 : Heap} {esz n id off len cap : Nat} {ex : Bool} {esz' : Nat} {cs : List AV} (e : firstA h esz n (.slice id off len cap ex esz') = some cs) (hs : (h.get id).isSome = true → h2.get id = h.get id) : firstA h2 esz n (.slice id off len cap ex esz') = some cs := by
  unfold firstA at e ⊢
  simp only at e ⊢
  split at e
  · rename_i hes
    rw [if_pos hes]
    cases hg : h.get id with
    | none => rw [hg] at e; cases e
    | some o => rw [hs (by rw [hg]; rfl)]; exact e
  · cases e
theorem aop_local (call : Tgt → List AV → Heap → AR) {tm : List AV} {h h' h2 : Heap} {op : SOp} {v : AV} (hc : op.class ≠ .heavy) (hr : aop call tm h op = some (v, h'))
    (hs : op.class = .read → ∀ id, readsA tm op = some id → (h.get id).isSome = true → h2.get id = h.get id) : aop call tm h2 op = some (v, h2) ∧ h' = h := by
  have keepG : ∀ {α : Type} (f : α → AV) (x : Option α), x.map (fun a => (f a, h)) = some (v, h') → x.map (fun a => (f a, h2)) = some (v, h2) ∧ h' = h := by
    intro α f x e
    cases x with
    | none => cases e
    | some a => simp only [Option.map_some, Option.some.injEq, Prod.mk.injEq] at e ⊢; exact ⟨⟨e.1, trivial⟩, e.2.symm⟩
  have keep : ∀ (x : Option AV), x.map (fun v => (v, h)) = some (v, h') → x.map (fun v => (v, h2)) = some (v, h2) ∧ h' = h := by
    intro x e
    cases x with
    | none => cases e
    | some a => simp only [Option.map_some, Option.some.injEq, Prod.mk.injEq] at e ⊢; exact ⟨⟨e.1, trivial⟩, e.2.symm⟩
  cases op with
  | load b n a =>
    simp only [aop] at hr ⊢
    cases he : ev tm a with
    | ptr id off =>
      rw [he] at hr
      simp only [Option.map_eq_some_iff] at hr
      obtain ⟨x, hx, e⟩ := hr
      obtain ⟨rfl, rfl⟩ := Prod.mk.inj e
      exact ⟨by simp only []; rw [loadA_local hx (hs rfl id (by simp [readsA, he]))]; rfl, rfl⟩
    | _ => rw [he] at hr; simp at hr
  | bytesToStr x =>
    simp only [aop] at hr ⊢
    cases he : ev tm x with
    | nilsl => rw [he] at hr; simp only at hr ⊢; cases hr; exact ⟨rfl, rfl⟩
    | slice id off len cap ex esz =>
      rw [he] at hr
      simp only at hr ⊢
      cases hf : firstA h 1 len (.slice id off len cap ex esz) with
      | none => rw [hf] at hr; cases hr
      | some cs =>
        rw [hf] at hr
        rw [firstA_local hf (hs rfl id (by simp [readsA, he]))]
        exact keepG _ _ hr
    | _ => rw [he] at hr; simp at hr
  | sliceArr n esz x lo hi mx =>
    simp only [aop] at hr ⊢
    cases he : ev tm x with
    | ptr id off =>
      rw [he] at hr
      simp only at hr ⊢
      cases hg : h.get id with
      | none => rw [hg] at hr; split at hr <;> first | (cases hr; done) | (rename_i q; cases q)
      | some o =>
        rw [hs rfl id (by simp [readsA, he]) (by rw [hg]; rfl), hg]
        rw [hg] at hr
        cases hb : boundsA n n (Option.map (ev tm) lo) (Option.map (ev tm) hi) (Option.map (ev tm) mx) with
        | none => rw [hb] at hr; simp at hr
        | some p =>
          rw [hb] at hr
          obtain ⟨l, hh, m⟩ := p
          cases o with
          | cells c ro =>
            simp only at hr ⊢
            split at hr
            · rename_i hle
              cases hr
              exact ⟨by rw [if_pos hle], rfl⟩
            · cases hr
          | _ => simp at hr
    | _ => rw [he] at hr; simp at hr
  | lookup sk z ok m k =>
    simp only [aop] at hr ⊢
    cases he : ev tm m with
    | nilmap =>
      rw [he] at hr
      simp only at hr ⊢
      split at hr
      · rename_i hk
        rw [if_pos hk]
        cases hf : findA (ev tm k) [] with
        | none => rw [hf] at hr; cases hr
        | some r => rw [hf] at hr; simp only at hr ⊢; cases hr; exact ⟨rfl, rfl⟩
      · cases hr
    | map id =>
      rw [he] at hr
      simp only at hr ⊢
      cases hg : h.get id with
      | none => rw [hg] at hr; simp at hr
      | some o =>
        rw [hs rfl id (by simp [readsA, he]) (by rw [hg]; rfl), hg]
        rw [hg] at hr
        cases o with
        | map es =>
          simp only at hr ⊢
          split at hr
          · rename_i hk
            rw [if_pos hk]
            cases hf : findA (ev tm k) es with
            | none => rw [hf] at hr; cases hr
            | some r => rw [hf] at hr; simp only at hr ⊢; cases hr; exact ⟨rfl, rfl⟩
          · cases hr
        | _ => simp at hr
    | _ => rw [he] at hr; simp at hr
  | len ek x =>
    simp only [aop] at hr ⊢
    cases ek <;> cases he : ev tm x <;> rw [he] at hr <;> simp only [reduceCtorEq] at hr ⊢ <;> first
      | (cases hr; exact ⟨rfl, rfl⟩)
      | skip
    rename_i id
    cases hg : h.get id with
    | none => rw [hg] at hr; simp at hr
    | some o =>
      rw [hs rfl id (by simp [readsA, he]) (by rw [hg]; rfl), hg]
      rw [hg] at hr
      cases o with
      | map es => simp only at hr ⊢; cases hr; exact ⟨rfl, rfl⟩
      | _ => simp at hr
  | box x => exact absurd rfl hc
  | buildSlice base len esz ps => exact absurd rfl hc
  | strToBytes x => exact absurd rfl hc
  | mkMap => exact absurd rfl hc
  | mkSlice z esz bytes l c => exact absurd rfl hc
  | store n a x => exact absurd rfl hc
  | call f l => exact absurd rfl hc
  | callV x l => exact absurd rfl hc
  | invoke t x l => exact absurd rfl hc
  | append a b x y => exact absurd rfl hc
  | appendZ z a b x y => exact absurd rfl hc
  | trap => exact absurd rfl hc
  | copy a x y => exact absurd rfl hc
  | clear z a x => exact absurd rfl hc
  | mapUpdate sk a b c => exact absurd rfl hc
  | nextStr x => exact absurd rfl hc
  | rangeStr x => exact absurd rfl hc
  | mov x => simp only [aop] at hr ⊢; cases hr; exact ⟨rfl, rfl⟩
  | iface t x => simp only [aop] at hr ⊢; cases hr; exact ⟨rfl, rfl⟩
  | mkFunc f a b => simp only [aop] at hr ⊢; cases hr; exact ⟨rfl, rfl⟩
  | mkMeth m x => simp only [aop] at hr ⊢; cases hr; exact ⟨rfl, rfl⟩
  | nilChkM m tbl x =>
    simp only [aop, chkM] at hr ⊢
    (repeat' split at hr) <;> first | (cases hr; done) | (cases hr; refine ⟨?_, rfl⟩; simp_all; done)
  | assert t z ok x =>
    simp only [aop] at hr ⊢
    cases he : ev tm x <;> rw [he] at hr <;> simp only [assertA] at hr ⊢ <;> (repeat' split at hr) <;> first | (cases hr; done) | (cases hr; refine ⟨?_, rfl⟩; simp_all; done)
  | lenC n => simp only [aop] at hr ⊢; cases hr; exact ⟨rfl, rfl⟩
  | build base ps => simp only [aop] at hr ⊢; exact keepG _ _ hr
  | bin op ek x y => simp only [aop] at hr ⊢; obtain ⟨k1, k2⟩ := keep _ hr; exact ⟨k1, k2⟩
  | un op x => simp only [aop] at hr ⊢; obtain ⟨k1, k2⟩ := keep _ hr; exact ⟨k1, k2⟩
  | slice esz x lo hi mx => simp only [aop] at hr ⊢; obtain ⟨k1, k2⟩ := keep _ hr; exact ⟨k1, k2⟩
  | min x ys => simp only [aop] at hr ⊢; obtain ⟨k1, k2⟩ := keep _ hr; exact ⟨k1, k2⟩
  | max x ys => simp only [aop] at hr ⊢; obtain ⟨k1, k2⟩ := keep _ hr; exact ⟨k1, k2⟩
  | pick c a b =>
    simp only [aop] at hr ⊢
    split at hr <;> first | (cases hr; done) | (cases hr; exact ⟨rfl, rfl⟩)
  | nilChk x =>
    simp only [aop] at hr ⊢
    split at hr <;> first | (cases hr; done) | (cases hr; exact ⟨rfl, rfl⟩)
  | eqAgg neg ks x y =>
    simp only [aop] at hr ⊢
    split at hr
    · split at hr
      · rename_i hk
        rw [if_pos hk]
        exact keepG _ _ hr
      · cases hr
    · cases hr
  | convInt k x =>
    simp only [aop] at hr ⊢
    split at hr <;> first | (cases hr; done) | (cases hr; exact ⟨rfl, rfl⟩)
  | convStr x =>
    simp only [aop] at hr ⊢
    split at hr <;> first | (cases hr; done) | (cases hr; exact ⟨rfl, rfl⟩)
  | sliceStr x lo hi =>
    simp only [aop] at hr ⊢
    split at hr
    · split at hr
      · rename_i he _ _ _ _ hb
        cases hr
        exact ⟨by simp [hb], rfl⟩
      · cases hr
    · cases hr
  | fieldAddr off x =>
    simp only [aop] at hr ⊢
    split at hr <;> first | (cases hr; done) | (cases hr; exact ⟨rfl, rfl⟩)
  | field b off n x =>
    simp only [aop] at hr ⊢
    split at hr
    · cases b with
      | true => simp only [if_true] at hr ⊢; cases hr; exact ⟨rfl, rfl⟩
      | false => simp only [Bool.false_eq_true, if_false] at hr ⊢; obtain ⟨k1, k2⟩ := keep _ hr; exact ⟨k1, k2⟩
    · cases hr
  | idxAddrSl esz x i =>
    simp only [aop] at hr ⊢
    split at hr
    · split at hr
      · rename_i hcond
        cases hr
        exact ⟨by rw [if_pos hcond], rfl⟩
      · cases hr
    · cases hr
  | idxAddrArr len esz x i =>
    simp only [aop] at hr ⊢
    split at hr
    · split at hr
      · rename_i hcond
        cases hr
        exact ⟨by rw [if_pos hcond], rfl⟩
      · cases hr
    · cases hr
  | idxArr b len esz x i =>
    simp only [aop] at hr ⊢
    split at hr
    · split at hr
      · rename_i hcond
        rw [if_pos hcond]
        cases b with
        | true => simp only [if_true] at hr ⊢; cases hr; exact ⟨rfl, rfl⟩
        | false => simp only [Bool.false_eq_true, if_false] at hr ⊢; obtain ⟨k1, k2⟩ := keep _ hr; exact ⟨k1, k2⟩
      · cases hr
    · cases hr
  | idxStr x i =>
    simp only [aop] at hr ⊢
    split at hr
    · split at hr
      · rename_i hcond
        rw [if_pos hcond]
        exact keepG _ _ hr
      · cases hr
    · cases hr
  | extract x i =>
    simp only [aop] at hr ⊢
    split at hr
    · obtain ⟨k1, k2⟩ := keep _ hr; exact ⟨k1, k2⟩
    · cases hr
  | cap x =>
    simp only [aop] at hr ⊢
    split at hr <;> first | (cases hr; done) | (cases hr; exact ⟨rfl, rfl⟩)
/-! ### the trace of a region -/
structure Trace (call : Tgt → List AV → Heap → AR) (l : List SOper) (lg : List (Option Nat × Heap × Heap)) (T : Nat → List AV) (H : Nat → Heap) (val : Nat → AV) : Prop where
  step : ∀ i o, l[i]? = some o → T (i + 1) = putT (T i) o.dst (val i) ∧
    ((wantedA (T i) o.guard = true ∧ aop call (T i) (H i) o.op = some (val i, H (i + 1)) ∧ lg[i]? = some (readsA (T i) o.op, H i, H (i + 1))) ∨
     (wantedA (T i) o.guard = false ∧ val i = undefA ∧ H (i + 1) = H i ∧ lg[i]? = some (none, H i, H i)))
theorem trace_of {call : Tgt → List AV → Heap → AR} : ∀ {l : List SOper} {tm : List AV} {h : Heap} {tm' : List AV} {h' : Heap} {lg : List (Option Nat × Heap × Heap)}, aopsLog call l tm h = some (tm', h', lg) →
    ∃ T H val, T 0 = tm ∧ H 0 = h ∧ T l.length = tm' ∧ H l.length = h' ∧ Trace call l lg T H val
  | [], tm, h, tm', h', lg, e => by
    simp [aopsLog] at e
    obtain ⟨rfl, rfl, rfl⟩ := e
    exact ⟨fun _ => tm, fun _ => h, fun _ => undefA, rfl, rfl, rfl, rfl, ⟨fun i o ho => by simp at ho⟩⟩
  | o :: l, tm, h, tm', h', lg, e => by
    simp only [aopsLog] at e
    have build : ∀ (v : AV) (h1 : Heap) (lg1 : List (Option Nat × Heap × Heap)) (x : Option Nat), aopsLog call l (putT tm o.dst v) h1 = some (tm', h', lg1) → lg = (x, h, h1) :: lg1 →
        ((wantedA tm o.guard = true ∧ aop call tm h o.op = some (v, h1) ∧ x = readsA tm o.op) ∨ (wantedA tm o.guard = false ∧ v = undefA ∧ h1 = h ∧ x = none)) →
        ∃ T H val, T 0 = tm ∧ H 0 = h ∧ T (o :: l).length = tm' ∧ H (o :: l).length = h' ∧ Trace call (o :: l) lg T H val := by
      intro v h1 lg1 x hrec hlg hcase
      obtain ⟨T, H, val, t0, h0, t1, h1', tr⟩ := trace_of hrec
      refine ⟨fun i => match i with | 0 => tm | i + 1 => T i, fun i => match i with | 0 => h | i + 1 => H i, fun i => match i with | 0 => v | i + 1 => val i, rfl, rfl, t1, h1', ⟨fun i o' ho => ?_⟩⟩
      subst hlg
      cases i with
      | zero =>
        simp only [List.getElem?_cons_zero, Option.some.injEq] at ho
        subst ho
        simp only [t0, h0]
        refine ⟨trivial, ?_⟩
        rcases hcase with ⟨c1, c2, c3⟩ | ⟨c1, c2, c3, c4⟩
        · exact .inl ⟨c1, c2, by simp [c3]⟩
        · exact .inr ⟨c1, c2, c3, by simp [c3, c4]⟩
      | succ i =>
        simp only [List.getElem?_cons_succ] at ho
        simpa using tr.step i o' ho
    split at e
    · rename_i hw
      split at e
      · rename_i v h1 hv
        split at e
        · rename_i tm'' h'' lg1 hrec
          cases e
          exact build v h1 lg1 _ hrec rfl (.inl ⟨hw, hv, rfl⟩)
        · cases e
      · cases e
    · rename_i hw
      split at e
      · rename_i tm'' h'' lg1 hrec
        cases e
        exact build undefA h lg1 none hrec rfl (.inr ⟨by simpa using hw, rfl, rfl, rfl⟩)
      · cases e
end Go.Ya
namespace Go.Ya
set_option linter.unusedVariables false
set_option linter.unusedSimpArgs false
open Classical
/-! ### what the operations done so far have left, in the order of the text -/
noncomputable def Cur (l : List SOper) (val : Nat → AV) (X : Nat → Prop) (tm : List AV) : Nat → List AV
  | 0 => tm
  | k + 1 => if X k then putT (Cur l val X tm k) ((l[k]?).bind (·.dst)) (val k) else Cur l val X tm k
theorem cur_succ (l : List SOper) (val : Nat → AV) (X : Nat → Prop) (tm : List AV) (k : Nat) : Cur l val X tm (k + 1) = if X k then putT (Cur l val X tm k) ((l[k]?).bind (·.dst)) (val k) else Cur l val X tm k := rfl
theorem putT_len (tm : List AV) (d : Option Nat) (v : AV) : (putT tm d v).length = tm.length := by cases d <;> simp [putT]
theorem putT_get {tm : List AV} {d : Option Nat} {v : AV} {t : Nat} (h : ∀ x, d = some x → x ≠ t) : (putT tm d v)[t]? = tm[t]? := by
  cases d with
  | none => rfl
  | some x => simp only [putT]; rw [List.getElem?_set_ne (h x rfl)]
theorem cur_get {l : List SOper} {val : Nat → AV} {X : Nat → Prop} {tm : List AV} {T : Nat → List AV} (h0 : T 0 = tm) (hT : ∀ i o, l[i]? = some o → T (i + 1) = putT (T i) o.dst (val i)) {t : Nat} {i : Nat} (hi : i ≤ l.length)
    (h1 : ∀ j o, j < i → l[j]? = some o → o.dst = some t → X j) : (Cur l val X tm i)[t]? = (T i)[t]? ∧ (Cur l val X tm i).length = (T i).length := by
  induction i with
  | zero => exact ⟨by rw [h0]; rfl, by rw [h0]; rfl⟩
  | succ i ih =>
    have ih := ih (by omega) fun j o hj => h1 j o (by omega)
    have hlt : i < l.length := by omega
    have ho : l[i]? = some l[i] := List.getElem?_eq_getElem hlt
    rw [hT i _ ho]
    simp only [cur_succ]
    by_cases hx : X i
    · rw [if_pos hx, ho]
      simp only [Option.bind_some]
      refine ⟨?_, by rw [putT_len, putT_len]; exact ih.2⟩
      cases hd : (l[i]).dst with
      | none => exact ih.1
      | some d =>
        simp only [putT, List.getElem?_set]
        rw [ih.1, ih.2]
    · rw [if_neg hx]
      refine ⟨?_, by rw [putT_len]; exact ih.2⟩
      rw [ih.1, putT_get]
      intro x hd e
      subst e
      exact hx (h1 i _ (by omega) ho hd)
theorem cur_stay {l : List SOper} {val : Nat → AV} {X : Nat → Prop} {tm : List AV} {t : Nat} {i : Nat} : ∀ (n : Nat), i ≤ n → (∀ j o, i ≤ j → j < n → l[j]? = some o → X j → o.dst ≠ some t) → (Cur l val X tm n)[t]? = (Cur l val X tm i)[t]?
  | 0, hi, _ => by
    have : i = 0 := by omega
    subst this; rfl
  | n + 1, hi, h => by
    by_cases e : i = n + 1
    · subst e; rfl
    · simp only [cur_succ]
      by_cases hx : X n
      · rw [if_pos hx, putT_get, cur_stay n (by omega) fun j o a b c d => h j o a (by omega) c d]
        intro x hd e
        subst e
        cases ho : l[n]? with
        | none => rw [ho] at hd; cases hd
        | some o => rw [ho] at hd; exact h n o (by omega) (by omega) ho hx hd
      · rw [if_neg hx]
        exact cur_stay n (by omega) fun j o a b c d => h j o a (by omega) c d
theorem cur_all {l : List SOper} {val : Nat → AV} {X : Nat → Prop} {tm : List AV} {T : Nat → List AV} (h0 : T 0 = tm) (hT : ∀ i o, l[i]? = some o → T (i + 1) = putT (T i) o.dst (val i)) (hall : ∀ j, j < l.length → X j) : ∀ i, i ≤ l.length → Cur l val X tm i = T i
  | 0, _ => h0.symm
  | i + 1, hi => by
    have ho : l[i]? = some l[i] := List.getElem?_eq_getElem (by omega)
    rw [hT i _ ho]
    simp only [cur_succ]
    rw [if_pos (hall i (by omega)), ho, cur_all h0 hT hall i (by omega)]
    rfl
theorem cur_add {l : List SOper} {val : Nat → AV} {X : Nat → Prop} {tm : List AV} {i : Nat} {o : SOper} (ho : l[i]? = some o) (hx : ¬ X i) (hw : ∀ j o', i < j → l[j]? = some o' → X j → ∀ d, o.dst = some d → o'.dst ≠ some d) :
    ∀ n, i < n → Cur l val (fun j => X j ∨ j = i) tm n = putT (Cur l val X tm n) o.dst (val i)
  | 0, h => by omega
  | n + 1, h => by
    have before : ∀ k, k ≤ i → Cur l val (fun j => X j ∨ j = i) tm k = Cur l val X tm k := by
      intro k
      induction k with
      | zero => intro _; rfl
      | succ k ih =>
        intro hk
        simp only [cur_succ]
        rw [ih (by omega)]
        have : (X k ∨ k = i) ↔ X k := ⟨fun h => h.resolve_right (by omega), .inl⟩
        simp only [this]
    by_cases e : n = i
    · subst e
      simp only [cur_succ]
      rw [if_pos (by simp), if_neg hx, ho, before n (Nat.le_refl _)]
      rfl
    · have ih := cur_add (val := val) (tm := tm) ho hx hw n (by omega)
      simp only [cur_succ]
      rw [ih]
      by_cases hxn : X n
      · rw [if_pos (.inl hxn), if_pos hxn]
        cases hd : o.dst with
        | none => rfl
        | some d =>
          cases hn : l[n]? with
          | none => rfl
          | some o' =>
            simp only [Option.bind_some]
            cases hd' : o'.dst with
            | none => rfl
            | some d' =>
              have : d ≠ d' := fun e' => hw n o' (by omega) hn hxn d hd (by rw [hd', e'])
              simp only [putT]
              rw [List.set_comm _ _ (Ne.symm this)]
      · rw [if_neg (by simp [hxn, e]), if_neg hxn]
/-! ### temporaries that are named -/
theorem ev_eq {tm tm2 : List AV} {x : Opd} (h : ∀ t ∈ x.names, tm[t]? = tm2[t]?) : ev tm x = ev tm2 x := by
  cases x with
  | c v => rfl
  | t n =>
    have := h n (by simp [Opd.names])
    simp only [ev, List.getD_eq_getElem?_getD, this]
theorem evs_eq {tm tm2 : List AV} : ∀ {l : List Opd}, (∀ t ∈ l.flatMap Opd.names, tm[t]? = tm2[t]?) → evs tm l = evs tm2 l
  | [], _ => rfl
  | x :: l, h => by
    simp only [evs, List.map_cons]
    rw [ev_eq fun t ht => h t (by simp [ht])]
    congr 1
    exact evs_eq fun t ht => h t (by simp only [List.flatMap_cons, List.mem_append]; exact .inr ht)
theorem evo_eq {tm tm2 : List AV} {x : Option Opd} (h : ∀ t ∈ optNames x, tm[t]? = tm2[t]?) : x.map (ev tm) = x.map (ev tm2) := by
  cases x with
  | none => rfl
  | some x => simp only [Option.map_some]; rw [ev_eq h]
theorem fill_eq {tm tm2 : List AV} : ∀ {ps : List (Nat × Nat × Opd)} {cs : List AV}, (∀ t ∈ partNames ps, tm[t]? = tm2[t]?) → fillA cs tm ps = fillA cs tm2 ps
  | [], _, _ => rfl
  | (off, size, x) :: ps, cs, h => by
    simp only [fillA]
    rw [ev_eq (tm := tm) (tm2 := tm2) (x := x) fun t ht => h t (by simp [partNames, ht])]
    split
    · exact fill_eq fun t ht => h t (by simp only [partNames, List.flatMap_cons, List.mem_append]; exact .inr ht)
    · rfl
theorem aop_eq {call : Tgt → List AV → Heap → AR} {tm tm2 : List AV} {h : Heap} {op : SOp} (hn : ∀ t ∈ op.names, tm[t]? = tm2[t]?) : aop call tm h op = aop call tm2 h op := by
  cases op <;> simp only [SOp.names, List.mem_append] at hn <;> simp only [aop] <;> first
    | rfl
    | (rw [ev_eq hn]; done)
    | (rw [fill_eq hn]; done)
    | (rw [evs_eq hn]; done)
    | (rw [ev_eq fun t ht => hn t (.inl ht), ev_eq fun t ht => hn t (.inr ht)]; done)
    | (rw [ev_eq fun t ht => hn t (.inl ht), evs_eq fun t ht => hn t (.inr ht)]; done)
    | (rw [evs_eq fun t ht => hn t (.inl ht), evs_eq fun t ht => hn t (.inr ht)]; done)
    | (rw [ev_eq fun t ht => hn t (.inl (.inl ht)), ev_eq fun t ht => hn t (.inl (.inr ht)), ev_eq fun t ht => hn t (.inr ht)]; done)
    | (rw [ev_eq fun t ht => hn t (.inl (.inl ht)), evo_eq fun t ht => hn t (.inl (.inr ht)), evo_eq fun t ht => hn t (.inr ht)]; done)
    | (rw [ev_eq fun t ht => hn t (.inl (.inl (.inl ht))), evo_eq fun t ht => hn t (.inl (.inl (.inr ht))), evo_eq fun t ht => hn t (.inl (.inr ht)), evo_eq fun t ht => hn t (.inr ht)]; done)
theorem reads_eq {tm tm2 : List AV} {op : SOp} (hn : ∀ t ∈ op.names, tm[t]? = tm2[t]?) : readsA tm op = readsA tm2 op := by
  cases op <;> simp only [SOp.names, List.mem_append] at hn <;> simp only [readsA] <;> first
    | rfl
    | (rw [ev_eq hn]; done)
    | (rw [ev_eq fun t ht => hn t (.inl ht)]; done)
    | (rw [ev_eq fun t ht => hn t (.inl (.inl (.inl ht)))]; done)
theorem wanted_eq {tm tm2 : List AV} {g : Option (Nat × Bool)} (hn : ∀ t w, g = some (t, w) → tm[t]? = tm2[t]?) : wantedA tm g = wantedA tm2 g := by
  cases g with
  | none => rfl
  | some p => obtain ⟨t, w⟩ := p; simp only [wantedA]; rw [hn t w rfl]
end Go.Ya
namespace Go.Ya
set_option linter.unusedVariables false
set_option linter.unusedSimpArgs false
open Classical
def left (listed : Array Bool) : Nat := listed.toList.countP (! ·)
theorem left_set {listed : Array Bool} {i : Nat} (h : i < listed.size) (hf : listed[i] = false) : left listed = left (listed.setIfInBounds i true) + 1 := by
  unfold left
  rw [Array.toList_setIfInBounds]
  generalize hl : listed.toList = l
  have hi : i < l.length := by rw [← hl]; simpa using h
  have hv : l[i]'hi = false := by
    have : listed.toList[i]? = some false := by rw [Array.getElem?_toList]; simp [h, hf]
    rw [hl, List.getElem?_eq_getElem hi] at this
    exact Option.some.inj this
  clear hl hf h listed
  induction l generalizing i with
  | nil => simp at hi
  | cons x l ih =>
    cases i with
    | zero => simp at hv; subst hv; simp
    | succ i =>
      simp only [List.set_cons_succ, List.countP_cons]
      have := ih (i := i) (by simpa using hi) (by simpa using hv)
      omega
theorem left_zero {listed : Array Bool} (h : left listed = 0) (i : Nat) (hi : i < listed.size) : listed.getD i false = true := by
  unfold left at h
  rw [List.countP_eq_zero] at h
  have hm : listed[i] ∈ listed.toList := by simp
  have := h _ hm
  simp at this
  simp [Array.getD_eq_getD_getElem?, hi, this]
theorem cOpers_get {P : Program} {ops : Array Oper} : ∀ {l : List Oper} {sl : List SOper}, cOpers P ops l = some sl → sl.length = l.length ∧ ∀ (i : Nat) (o : Oper), l[i]? = some o → ∃ so, sl[i]? = some so ∧ cOper P ops o = some so
  | [], sl, e => by simp [cOpers] at e; subst e; exact ⟨rfl, fun i o h => by simp at h⟩
  | x :: l, sl, e => by
    simp only [cOpers] at e
    split at e
    · rename_i s sl' hs hsl
      cases e
      obtain ⟨h1, h2⟩ := cOpers_get hsl
      refine ⟨by simp [h1], fun i o ho => ?_⟩
      cases i with
      | zero => simp at ho; subst ho; exact ⟨s, rfl, hs⟩
      | succ i => simpa using h2 i o (by simpa using ho)
    · cases e
theorem chk_log {lg : List (Option Nat × Heap × Heap)} : ∀ {chk : List (Nat × Nat)}, chkLog lg chk = true → ∀ i q, (i, q) ∈ chk → ∀ id h1 h2 r hq hq', lg[i]? = some (some id, h1, h2) → lg[q]? = some (r, hq, hq') → hq.get id = hq'.get id
  | [], _, i, q, h => by cases h
  | (i', q') :: chk, hc, i, q, hm => by
    intro id h1 h2 r hq hq' e1 e2
    simp only [chkLog, Bool.and_eq_true] at hc
    rcases List.mem_cons.1 hm with e | hm
    · cases e
      rw [e1, e2] at hc
      exact sameObj_eq hc.1
    · exact chk_log hc.2 i q hm id h1 h2 r hq hq' e1 e2
section
variable {P : Program} {call : Tgt → List AV → Heap → AR}
theorem draw_sim (hmix : P.follows .mixedOrders = true) (hcall : SimCall P call) : SimDraw P call := by
  intro id ops l chk hcv hedge hdraw hchk tm h tm' h' lg hlog hck μ₀ a₀ w₀ s₀ ht₀ r Q hQ
  obtain ⟨p, q, hdraw⟩ := draw_ok hdraw
  obtain ⟨T, H, val, t0, h0, t1, h1, tr⟩ := trace_of hlog
  obtain ⟨hlen, hget⟩ := cOpers_get hcv
  have hlen : l.length = ops.size := by simpa using hlen
  have hgo : ∀ i o, ops[i]? = some o → ∃ so, l[i]? = some so ∧ cOper P ops o = some so := fun i o ho => hget i o (by simpa using ho)
  have hol : ∀ i so, l[i]? = some so → ∃ o, ops[i]? = some o ∧ cOper P ops o = some so := fun i so hso => by
    have hi : i < ops.size := by
      rw [← hlen]
      rcases Nat.lt_or_ge i l.length with h' | h'
      · exact h'
      · rw [List.getElem?_eq_none h'] at hso; cases hso
    obtain ⟨so', e1, e2⟩ := hgo i ops[i] (Array.getElem?_eq_getElem hi)
    rw [hso] at e1; cases e1
    exact ⟨ops[i], Array.getElem?_eq_getElem hi, e2⟩
  have hT : ∀ i o, l[i]? = some o → T (i + 1) = putT (T i) o.dst (val i) := fun i o ho => (tr.step i o ho).1
  -- what is not heavy leaves the heap
  have hH : ∀ i o, l[i]? = some o → o.op.class ≠ .heavy → H (i + 1) = H i := fun i o ho hc => by
    rcases (tr.step i o ho).2 with ⟨_, ha, _⟩ | ⟨_, _, ha, _⟩
    · exact (aop_local call (h2 := H i) hc ha fun _ _ _ _ => rfl).2
    · exact ha
  -- over a stretch
  have hstretch : ∀ (a b : Nat), a ≤ b → b ≤ l.length → (∀ j o, a ≤ j → j < b → l[j]? = some o → o.op.class ≠ .heavy) → H b = H a := by
    intro a b hab
    induction b with
    | zero => intro _ _; have : a = 0 := by omega
              subst this; rfl
    | succ b ih =>
      intro hb hn
      by_cases e : a = b + 1
      · subst e; rfl
      · have hbl : b < l.length := by omega
        rw [hH b l[b] (List.getElem?_eq_getElem hbl) (hn b _ (by omega) (by omega) (List.getElem?_eq_getElem hbl))]
        exact ih (by omega) (by omega) fun j o h1 h2 h3 => hn j o h1 (by omega) h3
  have hstretchId : ∀ (id a b : Nat), a ≤ b → b ≤ l.length → (∀ j o, a ≤ j → j < b → l[j]? = some o → o.op.class = .heavy → (H j).get id = (H (j + 1)).get id) → (H b).get id = (H a).get id := by
    intro id a b hab
    induction b with
    | zero => intro _ _; have : a = 0 := by omega
              subst this; rfl
    | succ b ih =>
      intro hb hn
      by_cases e : a = b + 1
      · subst e; rfl
      · have hbl : b < l.length := by omega
        have hob := List.getElem?_eq_getElem hbl
        have hstep : (H (b + 1)).get id = (H b).get id := by
          by_cases hc : (l[b]).op.class = .heavy
          · exact (hn b _ (by omega) (by omega) hob hc).symm
          · rw [hH b _ hob hc]
        rw [hstep]
        exact ih (by omega) (by omega) fun j o h1 h2 h3 h4 => hn j o h1 (by omega) h3 h4
  -- the boxes of the stretch
  let run : Nat → Prop := fun j => (p ≤ j ∧ j < q) ∧ ∃ o, l[j]? = some o ∧ o.op.class = .heavy
  have hrun : ∀ j, run j → ∃ o x, l[j]? = some o ∧ o.op = .box (.c x) ∧ o.guard = none ∧ x.cells.all AV.flat = true ∧ val j = .ptr (H j).next 0 ∧ H (j + 1) = (H j).alloc (.cells x.cells false) := by
    rintro j ⟨hj, o, ho, hc⟩
    obtain ⟨x, h2, h3⟩ := draw_run hdraw ho hj hc
    rcases (tr.step j o ho).2 with ⟨_, ha, _⟩ | ⟨hw, _⟩
    · rw [h2] at ha
      replace ha : (if x.cells.all AV.flat then some (.ptr (H j).next 0, (H j).alloc (.cells x.cells false)) else none : AR) = some (val j, H (j + 1)) := ha
      by_cases hf : x.cells.all AV.flat = true
      · rw [if_pos hf] at ha
        simp only [Option.some.injEq, Prod.mk.injEq] at ha
        exact ⟨o, x, ho, h2, h3, hf, ha.1.symm, ha.2.symm⟩
      · rw [if_neg hf] at ha; cases ha
    · rw [h3] at hw; cases hw
  -- heaps over a stretch in which all heavy ones are such boxes
  have hgrow : ∀ (a b : Nat), a ≤ b → b ≤ l.length → (∀ j o, a ≤ j → j < b → l[j]? = some o → o.op.class = .heavy → run j) →
      (H a).next ≤ (H b).next ∧ (∀ j, a ≤ j → j < b → run j → (H a).next ≤ (H j).next ∧ (H j).next < (H b).next) ∧
      ∀ id, (H b).get id = (H a).get id ∨ ((H a).next ≤ id ∧ (H a).get id = none ∧ ∃ j x, a ≤ j ∧ j < b ∧ run j ∧ id = (H j).next ∧ (H b).get id = some (.cells x false)) := by
    intro a b hab
    induction b with
    | zero =>
      intro _ _
      have : a = 0 := by omega
      subst this
      exact ⟨Nat.le_refl _, fun j h1 h2 => by omega, fun id => .inl rfl⟩
    | succ b ih =>
      intro hb hn
      by_cases e : a = b + 1
      · subst e; exact ⟨Nat.le_refl _, fun j h1 h2 => by omega, fun id => .inl rfl⟩
      · have hbl : b < l.length := by omega
        have hob := List.getElem?_eq_getElem hbl
        obtain ⟨i1, i2, i3⟩ := ih (by omega) (by omega) fun j o h1 h2 h3 h4 => hn j o h1 (by omega) h3 h4
        by_cases hc : (l[b]).op.class = .heavy
        · obtain ⟨o, x, _, _, _, _, _, hH'⟩ := hrun b (hn b _ (by omega) (by omega) hob hc)
          have hnx : (H (b + 1)).next = (H b).next + 1 := by rw [hH']; simp
          refine ⟨by omega, fun j h1 h2 h3 => ?_, fun id => ?_⟩
          · by_cases ej : j = b
            · subst ej; exact ⟨i1, by omega⟩
            · have := i2 j h1 (by omega) h3; omega
          · rw [hH', Heap.get_alloc]
            by_cases eid : id = (H b).next
            · rw [if_pos eid]
              refine .inr ⟨by omega, ?_, b, x.cells, by omega, by omega, hn b _ (by omega) (by omega) hob hc, eid, rfl⟩
              cases hg : (H a).get id with
              | none => rfl
              | some o => have := Heap.lt_of_get hg; omega
            · rw [if_neg eid]
              rcases i3 id with h' | ⟨k1, k2, j, x', k3, k4, k5, k6, k7⟩
              · exact .inl h'
              · exact .inr ⟨k1, k2, j, x', k3, by omega, k5, k6, k7⟩
        · rw [hH b _ hob hc]
          refine ⟨i1, fun j h1 h2 h3 => ?_, fun id => ?_⟩
          · by_cases ej : j = b
            · subst ej
              obtain ⟨_, o, ho, hco⟩ := h3
              rw [hob] at ho; cases ho; exact absurd hco hc
            · exact i2 j h1 (by omega) h3
          · rcases i3 id with h' | ⟨k1, k2, j, x', k3, k4, k5, k6, k7⟩
            · exact .inl h'
            · exact .inr ⟨k1, k2, j, x', k3, by omega, k5, k6, k7⟩
  -- the heap in which some boxes are not there yet
  let GP : Nat → (Nat → Prop) → Heap → Prop := fun k pend g => g.next = (H k).next ∧ ∀ id, g.get id = if ∃ j, pend j ∧ (H j).next = id then some .dead else (H k).get id
  have kills : ∀ (k : Nat) (pend : Nat → Prop), (∀ j, pend j → j < k ∧ (H j).next < (H k).next) → ∃ g, GP k pend g := by
    intro k pend hp
    have key : ∀ n, n ≤ k → ∃ g : Heap, g.next = (H k).next ∧ ∀ id, g.get id = if ∃ j, j < n ∧ pend j ∧ (H j).next = id then some .dead else (H k).get id := by
      intro n
      induction n with
      | zero => intro _; exact ⟨H k, rfl, fun id => by rw [if_neg]; rintro ⟨j, hj, _⟩; omega⟩
      | succ n ih =>
        intro hn
        obtain ⟨g, g1, g2⟩ := ih (by omega)
        by_cases hpn : pend n
        · refine ⟨g.set (H n).next .dead, by simpa using g1, fun id => ?_⟩
          rw [Heap.get_set _ _ _ _ (by rw [g1]; exact (hp n hpn).2)]
          by_cases e : id = (H n).next
          · rw [if_pos e, if_pos ⟨n, by omega, hpn, e.symm⟩]
          · rw [if_neg e, g2]
            by_cases e2 : ∃ j, j < n ∧ pend j ∧ (H j).next = id
            · obtain ⟨j, j1, j2⟩ := e2
              rw [if_pos ⟨j, j1, j2⟩, if_pos ⟨j, by omega, j2⟩]
            · rw [if_neg e2, if_neg]
              rintro ⟨j, j1, j2, j3⟩
              by_cases ej : j = n
              · subst ej; exact e j3.symm
              · exact e2 ⟨j, by omega, j2, j3⟩
        · refine ⟨g, g1, fun id => ?_⟩
          rw [g2]
          by_cases e2 : ∃ j, j < n ∧ pend j ∧ (H j).next = id
          · obtain ⟨j, j1, j2⟩ := e2
            rw [if_pos ⟨j, j1, j2⟩, if_pos ⟨j, by omega, j2⟩]
          · rw [if_neg e2, if_neg]
            rintro ⟨j, j1, j2, j3⟩
            by_cases ej : j = n
            · subst ej; exact hpn j2
            · exact e2 ⟨j, by omega, j2, j3⟩
    obtain ⟨g, g1, g2⟩ := key k (Nat.le_refl _)
    refine ⟨g, g1, fun id => ?_⟩
    rw [g2]
    by_cases e2 : ∃ j, pend j ∧ (H j).next = id
    · obtain ⟨j, j1, j2⟩ := e2
      rw [if_pos ⟨j, (hp j j1).1, j1, j2⟩, if_pos ⟨j, j1, j2⟩]
    · rw [if_neg e2, if_neg]
      rintro ⟨j, _, j2⟩
      exact e2 ⟨j, j2⟩
  have hrl : ∀ j, run j → p ≤ j ∧ j < min q l.length := by
    rintro j ⟨hj, o, ho, _⟩
    have : j < l.length := by
      rcases Nat.lt_or_ge j l.length with h' | h'
      · exact h'
      · rw [List.getElem?_eq_none h'] at ho; cases ho
    omega
  have hbetween : ∀ (a b : Nat), p ≤ a → b ≤ min q l.length → ∀ j o, a ≤ j → j < b → l[j]? = some o → o.op.class = .heavy → run j := fun a b h1 h2 j o h3 h4 h5 h6 => ⟨by omega, o, h5, h6⟩
  have hinj : ∀ i j, run i → run j → i < j → (H i).next < (H j).next := fun i j hi hj hlt => by
    have a1 := hrl i hi
    have a2 := hrl j hj
    exact ((hgrow i j (by omega) (by omega) (hbetween i j (by omega) (by omega))).2.1 i (Nat.le_refl _) hlt hi).2
  have hnei : ∀ i j, run i → run j → i ≠ j → (H i).next ≠ (H j).next := fun i j hi hj hne => by
    rcases Nat.lt_or_gt_of_ne hne with h' | h'
    · have := hinj i j hi hj h'; omega
    · have := hinj j i hj hi h'; omega
  have hkeep : ∀ j n, run j → j < n → n ≤ min q l.length → (H n).get (H j).next = (H (j + 1)).get (H j).next := fun j n hj h1 h2 => by
    have a1 := hrl j hj
    obtain ⟨o, x, _, _, _, _, _, hH'⟩ := hrun j hj
    rcases (hgrow (j + 1) n (by omega) (by omega) (hbetween _ _ (by omega) h2)).2.2 (H j).next with e | ⟨e, _⟩
    · exact e
    · rw [hH'] at e; simp at e; omega
  have hnm : ∀ j n, run j → j < n → n ≤ min q l.length → ∀ o', (H n).get ((H j).next + 1) = some o' → o'.isMark = false := fun j n hj h1 h2 o' ho' => by
    have a1 := hrl j hj
    obtain ⟨o, x, _, _, _, _, _, hH'⟩ := hrun j hj
    rcases (hgrow (j + 1) n (by omega) (by omega) (hbetween _ _ (by omega) h2)).2.2 ((H j).next + 1) with e | ⟨_, _, j', x', _, _, _, _, e⟩
    · rw [e, hH'] at ho'
      have := Heap.lt_of_get ho'
      simp at this
    · rw [e] at ho'; cases ho'; rfl
  have gp_none : ∀ {k : Nat} {pend : Nat → Prop} {g : Heap}, GP k pend g → (∀ j, ¬ pend j) → g.next = (H k).next ∧ ∀ id, g.get id = (H k).get id := fun hg hp =>
    ⟨hg.1, fun id => by rw [hg.2 id, if_neg]; rintro ⟨j, hj, _⟩; exact hp j hj⟩
  refine wpIn_region_any hmix ?_
  rw [World.drew_eq]
  have game : ∀ (fuel : Nat) (listed : Array Bool) (μ : Mu) (a : Act) (w : World) (k : Nat) (pend : Nat → Prop) (g : Heap), left listed = fuel → listed.size = ops.size →
      (∀ i j, listed.getD i false = true → j ∈ (befores ops.toList).getD i [] → listed.getD j false = true) →
      k ≤ l.length → (∀ j o, l[j]? = some o → o.op.class = .heavy → (listed.getD j false = true ↔ j < k ∧ ¬ pend j)) → GP k pend g →
      (∀ j, pend j → run j ∧ k = min q l.length ∧ h.next ≤ (H j).next ∧ (H j).next < (H k).next ∧ (H k).get (H j).next = (H (j + 1)).get (H j).next ∧ μ (H j).next = none) → St P μ g w →
      Vs μ (Cur l val (fun j => listed.getD j false = true) tm l.length) a.tmps.toList → Fr μ₀ h w₀ μ g w → a.defers = a₀.defers →
      wpAnyIn (F r) 0 P .any ops Q fuel listed a w := by
    intro fuel
    induction fuel with
    | zero =>
      intro listed μ a w k pend g hleft hsz hclosed hk hheavy hgp hpend s hv hfr hdf
      have hall : ∀ j, j < l.length → listed.getD j false = true := fun j hj => left_zero hleft j (by omega)
      have hnp : ∀ j, ¬ pend j := fun j hj => by
        obtain ⟨⟨_, o, ho, hc⟩, _⟩ := hpend j hj
        have hjl : j < l.length := by
          rcases Nat.lt_or_ge j l.length with h' | h'
          · exact h'
          · rw [List.getElem?_eq_none h'] at ho; cases ho
        exact ((hheavy j o ho hc).1 (hall j hjl)).2 hj
      obtain ⟨gn, gg⟩ := gp_none hgp hnp
      replace s := s.congr gn.symm fun id => (gg id).symm
      replace hfr := hfr.congr gn.symm fun id => (gg id).symm
      refine ⟨?_, ?_⟩
      · rw [List.eq_nil_iff_forall_not_mem]
        intro j hj
        rw [mem_ready] at hj
        obtain ⟨q1, o, q2, _⟩ := hj
        have hjl : j < l.length := by rw [hlen]; exact (Array.getElem?_eq_some_iff.1 q2).1
        have hx := hall j hjl
        have hsz' : j < listed.size := by omega
        simp [Array.getD_eq_getD_getElem?, hsz'] at q1 hx
        rw [q1] at hx; cases hx
      · have hT' := cur_all (val := val) (X := fun j => listed.getD j false = true) t0 hT hall l.length (Nat.le_refl _)
        rw [hT', t1] at hv
        have hHk : H l.length = H k := hstretch k l.length hk (Nat.le_refl _) fun j o q1 q2 q3 hc => by
          have := ((hheavy j o q3 hc).1 (hall j q2)).1
          omega
        rw [← hHk, h1] at s hfr
        exact hQ μ a w hv s hfr hdf
    | succ fuel ih =>
      intro listed μ a w k pend g hleft hsz hclosed hk hheavy hgp hpend s hv hfr hdf
      refine ⟨fun hnil => ?_, fun i hi => ?_⟩
      · -- something is ready
        exfalso
        have hall : ∀ j, j < ops.size → listed.getD j false = true := by
          intro j
          induction j using Nat.strongRecOn with
          | _ j ihj =>
            intro hj
            cases hx : listed.getD j false with
            | true => rfl
            | false =>
              have hm : j ∈ Region.ready .any ops listed := by
                rw [mem_ready]
                refine ⟨?_, ops[j], by simp [hj], fun e he hb => ?_⟩
                · have hsz' : j < listed.size := by omega
                  simp [Array.getD_eq_getD_getElem?, hsz'] at hx ⊢
                  exact hx
                · have := edges_lt hedge (i := j) (o := ops[j]) (by simp [hj]) e (by simpa using he) hb
                  exact ihj e.on this (by omega)
              rw [hnil] at hm
              cases hm
        have : left listed = 0 := by
          unfold left
          rw [List.countP_eq_zero]
          intro x hx
          obtain ⟨j, hj, rfl⟩ := List.mem_iff_getElem.1 hx
          have hjs : j < listed.size := by simpa using hj
          have := hall j (by omega)
          simp [Array.getD_eq_getD_getElem?, hjs] at this
          simp [this]
        omega
      · rw [mem_ready] at hi
        obtain ⟨hni, o, ho, hedges⟩ := hi
        obtain ⟨so, hso, hcso⟩ := hgo i o ho
        have hil : i < l.length := by rw [hlen]; exact (Array.getElem?_eq_some_iff.1 ho).1
        have his : i < listed.size := by omega
        have hnx : listed.getD i false = false := by
          simp [Array.getD_eq_getD_getElem?, his] at hni ⊢; exact hni
        have hli : listed[i] = false := by
          simp [Array.getD_eq_getD_getElem?, his] at hni; exact hni
        -- what stands before is done
        have hpred : ∀ j, j ∈ (befores ops.toList).getD i [] → listed.getD j false = true := by
          intro j hj
          obtain ⟨e, he, hb, hx⟩ := befores_mem hedge (i := i) (o := o) (by simpa using ho) hj
          have hon := hedges e (by simpa using he) hb
          rcases hx with rfl | hx
          · exact hon
          · exact hclosed e.on j hon hx
        -- two that are in order
        have hord : ∀ j, ordered (befores ops.toList) i j = true → (j < i → listed.getD j false = true) ∧ (i < j → listed.getD j false = false) := by
          intro j hj
          unfold ordered at hj
          rw [List.contains_iff_mem] at hj
          refine ⟨fun hlt => ?_, fun hlt => ?_⟩
          · rw [Nat.max_eq_left (by omega), Nat.min_eq_right (by omega)] at hj
            exact hpred j hj
          · rw [Nat.max_eq_right (by omega), Nat.min_eq_left (by omega)] at hj
            cases hx : listed.getD j false with
            | false => rfl
            | true => rw [hclosed j i hx hj] at hnx; cases hnx
        -- temporaries that are named
        have hnames : ∀ t ∈ so.names, (Cur l val (fun j => listed.getD j false = true) tm l.length)[t]? = (T i)[t]? := by
          intro t ht
          have hwr : ∀ j o', j ≠ i → l[j]? = some o' → o'.dst = some t → ordered (befores ops.toList) i j = true := by
            intro j o' hne ho' hd
            cases hx : ordered (befores ops.toList) i j with
            | true => rfl
            | false => exact absurd ht ((draw_apart hdraw hso ho' (Ne.symm hne) hx).2 t hd)
          rw [cur_stay l.length (Nat.le_of_lt hil) fun j o' q1 q2 q3 q4 q5 => by
            by_cases e : j = i
            · subst e; rw [hnx] at q4; cases q4
            · have := (hord j (hwr j o' e q3 q5)).2 (by omega)
              rw [this] at q4; cases q4]
          exact (cur_get t0 hT (Nat.le_of_lt hil) fun j o' q1 q2 q3 => (hord j (hwr j o' (by omega) q2 q3)).1 q1).1
        have hnop : ∀ t ∈ so.op.names, (Cur l val (fun j => listed.getD j false = true) tm l.length)[t]? = (T i)[t]? := fun t ht => hnames t (by simp [SOper.names, ht])
        have hng : wantedA (Cur l val (fun j => listed.getD j false = true) tm l.length) so.guard = wantedA (T i) so.guard := wanted_eq fun t ww hg => hnames t (by simp [SOper.names, hg])
        obtain ⟨hop, hdst⟩ := cOper_op hcso
        -- the next position
        have next : ∀ (μ' : Mu) (v' : Value) (w' : World) (k' : Nat) (pend' : Nat → Prop) (g' : Heap), k' ≤ l.length → (∀ j o', l[j]? = some o' → o'.op.class = .heavy → ((listed.setIfInBounds i true).getD j false = true ↔ j < k' ∧ ¬ pend' j)) → GP k' pend' g' →
            (∀ j, pend' j → run j ∧ k' = min q l.length ∧ h.next ≤ (H j).next ∧ (H j).next < (H k').next ∧ (H k').get (H j).next = (H (j + 1)).get (H j).next ∧ μ' (H j).next = none) → V μ' (val i) v' → St P μ' g' w' → Le μ μ' → Fr μ₀ h w₀ μ' g' w' →
            wpAnyIn (F r) 0 P .any ops Q fuel (listed.setIfInBounds i true) (a.put o.dst v') w' := by
          intro μ' v' w' k' pend' g' hk' hheavy' hgp' hpend' hv' s' hle' f'
          have hgd : ∀ j, ((listed.setIfInBounds i true).getD j false = true) ↔ (listed.getD j false = true ∨ j = i) := by
            intro j
            by_cases e : i = j
            · subst e; simp [his]
            · rw [getD_set_ne false e]; simp [Ne.symm e]
          refine ih _ μ' _ w' k' pend' g' ?_ (by simpa using hsz) ?_ hk' hheavy' hgp' hpend' s' ?_ f' (by rw [← hdf]; cases o.dst <;> rfl)
          · have := left_set his hli; omega
          · intro p q hp hq
            rw [hgd] at hp ⊢
            rcases hp with hp | rfl
            · exact .inl (hclosed p q hp hq)
            · exact .inl (hpred q hq)
          · have hfun : (fun j => (listed.setIfInBounds i true).getD j false = true) = (fun j => listed.getD j false = true ∨ j = i) := funext fun j => propext (hgd j)
            rw [hfun, cur_add hso (by simp [hnx]) (fun j o' q1 q2 q3 d hd hd' => by
              cases hx : ordered (befores ops.toList) i j with
              | true => rw [(hord j hx).2 q1] at q3; cases q3
              | false =>
                have := (draw_apart hdraw hso q2 (by omega) hx).2 d hd'
                exact this (by simp [SOper.names, hd])) l.length hil]
            rw [hdst]
            exact put_sim (hv.mono hle') o.dst hv'
        have hgl : ∀ j, ((listed.setIfInBounds i true).getD j false = true) ↔ (listed.getD j false = true ∨ j = i) := by
          intro j
          by_cases e : i = j
          · subst e; simp [his]
          · rw [getD_set_ne false e]; simp [Ne.symm e]
        have hne_run : ∀ j o', j ≠ i → l[j]? = some o' → so.op.class = .heavy → o'.op.class = .heavy → ¬ (run i ∧ run j) → ordered (befores ops.toList) i j = true := by
          intro j o' hne ho' hc hc' hnr
          cases hx : ordered (befores ops.toList) i j with
          | true => rfl
          | false =>
            have := (draw_apart hdraw hso ho' (Ne.symm hne) hx).1 ⟨hc, hc'⟩
            exact absurd ⟨⟨this.1, so, hso, hc⟩, ⟨this.2, o', ho', hc'⟩⟩ hnr
        have hlight : so.op.class ≠ .heavy → ∀ j o', l[j]? = some o' → o'.op.class = .heavy → ((listed.setIfInBounds i true).getD j false = true ↔ j < k ∧ ¬ pend j) := by
          intro hc j o' q3 hc'
          have e : j ≠ i := fun e => by subst e; rw [hso] at q3; cases q3; exact hc hc'
          rw [getD_set_ne false (Ne.symm e)]
          exact hheavy j o' q3 hc'
        -- a heavy one that is no box of the stretch: all is there
        have hnopend : so.op.class = .heavy → ¬ run i → ∀ j, ¬ pend j := by
          intro hc hnr j hj
          obtain ⟨hrj, hkq, _⟩ := hpend j hj
          have hrj2 := hrj
          obtain ⟨⟨j1, j2⟩, oj, hoj, hcj⟩ := hrj2
          have hne : j ≠ i := fun e => hnr (e ▸ hrj)
          have hoo := hord j (hne_run j oj hne hoj hc hcj fun e => hnr e.1)
          have hnj : ¬ listed.getD j false = true := fun e => ((hheavy j oj hoj hcj).1 e).2 hj
          rcases Nat.lt_or_ge j i with hlt | hge
          · exact hnj (hoo.1 hlt)
          · -- i stands ahead of the stretch, so it is done
            have hip : i < p := by
              rcases Nat.lt_or_ge i p with h' | h'
              · exact h'
              · exact absurd ⟨⟨h', by omega⟩, so, hso, hc⟩ hnr
            have hjl : j < l.length := by
              rcases Nat.lt_or_ge j l.length with h' | h'
              · exact h'
              · rw [List.getElem?_eq_none h'] at hoj; cases hoj
            have : listed.getD i false = true := (hheavy i so hso hc).2 ⟨by omega, fun e => hnr (hpend i e).1⟩
            rw [hnx] at this; cases this
        have hkH : so.op.class = .heavy → ¬ run i → H i = H k ∧ ∀ j o', l[j]? = some o' → o'.op.class = .heavy → ((listed.setIfInBounds i true).getD j false = true ↔ j < i + 1 ∧ ¬ False) := by
          intro hc hnr
          have hnp := hnopend hc hnr
          have hboth : ∀ j o', j ≠ i → l[j]? = some o' → o'.op.class = .heavy → ordered (befores ops.toList) i j = true := fun j o' hne ho' hc' => hne_run j o' hne ho' hc hc' fun e => hnr e.1
          have hki : k ≤ i := by
            rcases Nat.lt_or_ge i k with hlt | hge
            · have := (hheavy i so hso hc).2 ⟨hlt, hnp i⟩
              rw [hnx] at this; cases this
            · exact hge
          refine ⟨hstretch k i hki (by omega) fun j o' q1 q2 q3 hc' => ?_, fun j o' q3 hc' => ?_⟩
          · have hx := (hord j (hboth j o' (by omega) q3 hc')).1 q2
            have := ((hheavy j o' q3 hc').1 hx).1
            omega
          · by_cases e : j = i
            · subst e; simp [his]
            · rw [getD_set_ne false (Ne.symm e)]
              have hoo := hord j (hboth j o' e q3 hc')
              rcases Nat.lt_or_ge j i with hlt | hge
              · rw [hoo.1 hlt]; simp; omega
              · rw [hoo.2 (by omega)]; simp; omega
        have hnoneF : ∀ k', (∀ j, False → run j ∧ k' = min q l.length ∧ h.next ≤ (H j).next ∧ (H j).next < (H k').next ∧ (H k').get (H j).next = (H (j + 1)).get (H j).next ∧ μ (H j).next = none) := fun k' j e => e.elim
        have gpF : ∀ k', GP k' (fun _ => False) (H k') := fun k' => ⟨rfl, fun id => by rw [if_neg]; rintro ⟨_, e, _⟩; exact e⟩
        unfold wpOpIn
        rw [ho]
        simp only []
        rw [wanted_sim hv hcso, hng]
        rcases (tr.step i so hso).2 with ⟨hw, ha, hlg⟩ | ⟨hw, hval, hHi, hlg⟩
        · rw [if_pos hw]
          have ha' : aop call (Cur l val (fun j => listed.getD j false = true) tm l.length) (H i) so.op = some (val i, H (i + 1)) := by rw [aop_eq hnop]; exact ha
          by_cases hc : so.op.class = .heavy
          · by_cases hri : run i
            · -- a box of the stretch
              obtain ⟨o1, x, ho1, hop1, hgd1, hfl, hvi, hHi1⟩ := hrun i hri
              rw [hso] at ho1; cases ho1
              have hopc : cOp P o.op = some (.box (.c x)) := by
                rcases cOpR_spec hop with q | ⟨_, _, _, q⟩
                · rw [← hop1]; exact q
                · rw [hop1] at q; cases q
              obtain ⟨tt, c', hvc, hex⟩ := constBox_run (w := w) hv (o := o) (x := x) hopc
              have fin : ∀ (k' : Nat) (pend' : Nat → Prop) (g' : Heap), k' ≤ l.length → (∀ j o', l[j]? = some o' → o'.op.class = .heavy → ((listed.setIfInBounds i true).getD j false = true ↔ j < k' ∧ ¬ pend' j)) → GP k' pend' g' →
                  (∀ j, pend' j → j ≠ i ∧ run j ∧ k' = min q l.length ∧ h.next ≤ (H j).next ∧ (H j).next < (H k').next ∧ (H k').get (H j).next = (H (j + 1)).get (H j).next ∧ μ (H j).next = none ∧ (H j).next ≠ (H i).next) →
                  g'.get (H i).next = some (.cells x.cells false) → μ (H i).next = none → g.next ≤ g'.next → (∀ j, j ≠ (H i).next → g'.get j = g.get j ∨ (g.next ≤ j ∧ g'.get j = some .dead)) → g'.byteAt (H i).next = false → h.next ≤ (H i).next →
                  o.wpIn (F r) 0 P a w (wpAnyIn (F r) 0 P .any ops Q fuel (listed.setIfInBounds i true)) Q := by
                intro k' pend' g' hk' hheavy' hgp' hpend' e1 e2 e4 e5 e6 e7
                obtain ⟨s', f'⟩ := fill_box s tt hvc hfl e1 e2 e4 e5 e6
                refine ⟨fun f _ => F_fn r f, ?_⟩
                rw [show (F r).round = r from rfl, semAt_eq hopc, hex]
                refine next _ _ _ k' pend' g' hk' hheavy' hgp' (fun j hj => ?_) ?_ s' (.add e2) (f' hfr e7)
                · obtain ⟨q0, q1, q2, q3, q4, q5, q6, q7⟩ := hpend' j hj
                  exact ⟨q1, q2, q3, q4, q5, by rw [muAdd_ne _ _ _ _ q7]; exact q6⟩
                · rw [hvi]; exact .ptr _ 0 w.heap.size 0 _ (muAdd_same _ _ _)
              by_cases hpi : pend i
              · -- it was waited for
                obtain ⟨_, hkq, p1, p2, p3, p4⟩ := hpend i hpi
                have hi1 := hrl i hri
                have hcx : (H k).get (H i).next = some (.cells x.cells false) := by rw [p3, hHi1, Heap.get_alloc, if_pos rfl]
                have hlt : (H i).next < g.next := by rw [hgp.1]; exact p2
                refine fin k (fun j => pend j ∧ j ≠ i) (g.set (H i).next (.cells x.cells false)) hk (fun j o' h1 h2 => ?_) ⟨by simpa using hgp.1, fun y => ?_⟩ (fun j hj => ?_) (by rw [Heap.get_set _ _ _ _ hlt, if_pos rfl]) p4 (by simp) (fun j hj => .inl (by rw [Heap.get_set _ _ _ _ hlt, if_neg hj])) ?_ p1
                · rw [hgl j]
                  by_cases e : j = i
                  · subst e; exact ⟨fun _ => ⟨by omega, fun e => e.2 rfl⟩, fun _ => .inr rfl⟩
                  · rw [hheavy j o' h1 h2]
                    exact ⟨fun h' => h'.elim (fun h' => ⟨h'.1, fun e' => h'.2 e'.1⟩) fun h' => absurd h' e, fun h' => .inl ⟨h'.1, fun e' => h'.2 ⟨e', e⟩⟩⟩
                · rw [Heap.get_set _ _ _ _ hlt]
                  by_cases e : y = (H i).next
                  · subst e
                    rw [if_pos rfl, if_neg, hcx]
                    rintro ⟨j, ⟨j1, j2⟩, j3⟩
                    exact hnei j i (hpend j j1).1 hri j2 j3
                  · rw [if_neg e, hgp.2 y]
                    by_cases e2 : ∃ j, pend j ∧ (H j).next = y
                    · obtain ⟨j, j1, j2⟩ := e2
                      rw [if_pos ⟨j, j1, j2⟩, if_pos ⟨j, ⟨j1, fun e' => e (by rw [← j2, e'])⟩, j2⟩]
                    · rw [if_neg e2, if_neg]
                      rintro ⟨j, ⟨j1, _⟩, j3⟩
                      exact e2 ⟨j, j1, j3⟩
                · obtain ⟨q1, q2, q3, q4, q5, q6⟩ := hpend j hj.1
                  exact ⟨hj.2, q1, q2, q3, q4, q5, q6, hnei j i q1 hri hj.2⟩
                · cases hb : (g.set (H i).next (.cells x.cells false)).byteAt (H i).next with
                  | false => rfl
                  | true =>
                    exfalso
                    obtain ⟨o', m1, m2⟩ := Heap.byteAt_mark hb
                    rw [Heap.get_set _ _ _ _ hlt, if_neg (by omega), hgp.2] at m1
                    split at m1
                    · cases m1; cases m2
                    · rw [hnm i k hri (by omega) (by omega) o' m1] at m2; cases m2
              · -- the first one
                have hi1 := hrl i hri
                have hnp : ∀ j, ¬ pend j := fun j hj => by
                  have hkq := (hpend j hj).2.1
                  have : listed.getD i false = true := (hheavy i so hso hc).2 ⟨by omega, hpi⟩
                  rw [hnx] at this; cases this
                obtain ⟨gn, gg⟩ := gp_none hgp hnp
                have hki : k ≤ i := by
                  rcases Nat.lt_or_ge i k with hlt | hge
                  · have := (hheavy i so hso hc).2 ⟨hlt, hpi⟩
                    rw [hnx] at this; cases this
                  · exact hge
                have hallrun : ∀ j o', k ≤ j → j < min q l.length → l[j]? = some o' → o'.op.class = .heavy → run j := fun j o' h1 h2 h3 h4 => by
                  rcases Nat.lt_or_ge j p with h5 | h5
                  · exfalso
                    have hne : j ≠ i := by omega
                    have := (hord j (hne_run j o' hne h3 hc h4 fun e => by have := hrl j e.2; omega)).1 (by omega)
                    have := ((hheavy j o' h3 h4).1 this).1
                    omega
                  · exact ⟨by omega, o', h3, h4⟩
                obtain ⟨G1, G2, G3⟩ := hgrow k (min q l.length) (by omega) (by omega) hallrun
                have hpr : ∀ j, (run j ∧ k ≤ j ∧ j ≠ i) → j < min q l.length ∧ (H j).next < (H (min q l.length)).next := fun j hj => ⟨(hrl j hj.1).2, (G2 j hj.2.1 (hrl j hj.1).2 hj.1).2⟩
                obtain ⟨g', hg'⟩ := kills (min q l.length) (fun j => run j ∧ k ≤ j ∧ j ≠ i) hpr
                have hnx2 : h.next ≤ (H k).next := by rw [← gn]; exact hfr.nx
                have hbase : ∀ j, run j → k ≤ j → (H k).next ≤ (H j).next := fun j h1 h2 => (G2 j h2 (hrl j h1).2 h1).1
                have hcx : (H (min q l.length)).get (H i).next = some (.cells x.cells false) := by rw [hkeep i _ hri hi1.2 (Nat.le_refl _), hHi1, Heap.get_alloc, if_pos rfl]
                have hne' : ∀ j, (run j ∧ k ≤ j ∧ j ≠ i) → (H j).next ≠ (H i).next := fun j hj => hnei j i hj.1 hri hj.2.2
                refine fin (min q l.length) (fun j => run j ∧ k ≤ j ∧ j ≠ i) g' (by omega) (fun j o' h1 h2 => ?_) hg' (fun j hj => ⟨hj.2.2, hj.1, rfl, by have := hbase j hj.1 hj.2.1; omega, (hpr j hj).2, hkeep j _ hj.1 (hrl j hj.1).2 (Nat.le_refl _), s.bd _ (by rw [gn]; exact hbase j hj.1 hj.2.1), hne' j hj⟩) ?_ (s.bd _ (by rw [gn]; exact hbase i hri hki)) (by rw [gn, hg'.1]; exact G1) (fun y hy => ?_) ?_ (by have := hbase i hri hki; omega)
                · rw [hgl j]
                  by_cases e : j = i
                  · subst e; exact ⟨fun _ => ⟨hi1.2, fun e => e.2.2 rfl⟩, fun _ => .inr rfl⟩
                  · rw [hheavy j o' h1 h2]
                    constructor
                    · rintro (h' | h')
                      · exact ⟨by omega, fun e' => by omega⟩
                      · exact absurd h' e
                    · rintro ⟨h3, h4⟩
                      refine .inl ⟨?_, hnp j⟩
                      rcases Nat.lt_or_ge j k with h5 | h5
                      · exact h5
                      · exact absurd ⟨hallrun j o' h5 h3 h1 h2, h5, e⟩ h4
                · rw [hg'.2, if_neg, hcx]
                  rintro ⟨j, hj, e⟩
                  exact hne' j hj e
                · rw [hg'.2 y]
                  by_cases e2 : ∃ j, (run j ∧ k ≤ j ∧ j ≠ i) ∧ (H j).next = y
                  · rw [if_pos e2]
                    obtain ⟨j, j1, j2⟩ := e2
                    exact .inr ⟨by rw [gn, ← j2]; exact hbase j j1.1 j1.2.1, rfl⟩
                  · rw [if_neg e2, gg y]
                    rcases G3 y with e3 | ⟨_, _, j, x', j1, j2, j3, j4, _⟩
                    · exact .inl e3
                    · exfalso
                      by_cases e : j = i
                      · subst e; exact hy j4
                      · exact e2 ⟨j, ⟨j3, j1, e⟩, j4.symm⟩
                · cases hb : g'.byteAt (H i).next with
                  | false => rfl
                  | true =>
                    exfalso
                    obtain ⟨o', m1, m2⟩ := Heap.byteAt_mark hb
                    rw [hg'.2] at m1
                    split at m1
                    · cases m1; cases m2
                    · rw [hnm i _ hri hi1.2 (Nat.le_refl _) o' m1] at m2; cases m2
            · obtain ⟨e1, e2⟩ := hkH hc hri
              obtain ⟨gn, gg⟩ := gp_none hgp (hnopend hc hri)
              rw [e1] at ha'
              exact oper_sim hcall (s.congr gn.symm fun id => (gg id).symm) hv hop ha' r fun μ' v' w' hv' s' f' => next μ' v' w' (i + 1) (fun _ => False) (H (i + 1)) (by omega) e2 (gpF _) (fun j e => e.elim) hv' s' f'.le ((hfr.congr gn.symm fun id => (gg id).symm).trans f')
          · have hloc := aop_local call (h2 := g) hc ha' fun hcr id hid hsome => by
              rw [reads_eq hnop] at hid
              rw [hid] at hlg
              have hidlt : id < (H i).next := by
                rw [Option.isSome_iff_exists] at hsome
                obtain ⟨ob, hob⟩ := hsome
                exact Heap.lt_of_get hob
              have hsame : ∀ j o', j ≠ i → l[j]? = some o' → o'.op.class = .heavy → ordered (befores ops.toList) i j = false → (H j).get id = (H (j + 1)).get id := by
                intro j o' hne ho' hc' hx
                have hm := chk_mem hso ho' (Ne.symm hne) hx hcr hc'
                rw [hchk] at hm
                rcases (tr.step j o' ho').2 with ⟨_, _, hl2⟩ | ⟨_, _, hh, _⟩
                · exact chk_log hck i j hm id _ _ _ _ _ hlg hl2
                · rw [hh]
              have hnb : ¬ ∃ j, pend j ∧ (H j).next = id := by
                rintro ⟨j, hj, e⟩
                obtain ⟨hrj, hkq, _⟩ := hpend j hj
                have hj1 := hrl j hrj
                obtain ⟨oj, xj, hoj, hopj, _, _, _, hHj⟩ := hrun j hrj
                have hcj : oj.op.class = .heavy := by rw [hopj]; rfl
                have hne : j ≠ i := fun e => by subst e; rw [hso] at hoj; cases hoj; exact hc hcj
                have hnone : (H j).get id = none := by
                  cases hg : (H j).get id with
                  | none => rfl
                  | some o => have := Heap.lt_of_get hg; omega
                have hnl : ¬ listed.getD j false = true := fun e' => ((hheavy j oj hoj hcj).1 e').2 hj
                cases hx : ordered (befores ops.toList) i j with
                | false =>
                  have := hsame j oj hne hoj hcj hx
                  rw [hnone, hHj, ← e, Heap.get_alloc, if_pos rfl] at this
                  cases this
                | true =>
                  have hij : i < j := by
                    rcases Nat.lt_or_ge j i with h' | h'
                    · exact absurd ((hord j hx).1 h') hnl
                    · omega
                  have := hstretchId id i j (by omega) (by omega) fun m om q1 q2 q3 q4 => by
                    have hnem : m ≠ i := fun e => by subst e; rw [hso] at q3; cases q3; exact hc q4
                    cases hxm : ordered (befores ops.toList) i m with
                    | false => exact hsame m om hnem q3 q4 hxm
                    | true =>
                      have q5 := (hord m hxm).2 (by omega)
                      have hpm : pend m := Classical.byContradiction fun hnpm => by
                        rw [(hheavy m om q3 q4).2 ⟨by omega, hnpm⟩] at q5; cases q5
                      have hrm := (hpend m hpm).1
                      obtain ⟨_, xm, _, _, _, _, _, hHm⟩ := hrun m hrm
                      have := hinj m j hrm hrj q2
                      rw [hHm, Heap.get_alloc, if_neg (by omega)]
                  rw [hnone] at this
                  rw [← this] at hsome
                  cases hsome
              rw [hgp.2 id, if_neg hnb]
              rcases Nat.le_total k i with hki | hki
              · refine (hstretchId id k i hki (by omega) fun j o' q1 q2 q3 q4 => ?_).symm
                refine hsame j o' (by omega) q3 q4 ?_
                cases hx : ordered (befores ops.toList) i j with
                | false => rfl
                | true =>
                  have := ((hheavy j o' q3 q4).1 ((hord j hx).1 q2)).1
                  omega
              · refine hstretchId id i k hki hk fun j o' q1 q2 q3 q4 => ?_
                have hne : j ≠ i := fun e => by subst e; rw [hso] at q3; cases q3; exact hc q4
                cases hx : ordered (befores ops.toList) i j with
                | false => exact hsame j o' hne q3 q4 hx
                | true =>
                  have q5 := (hord j hx).2 (by omega)
                  have hpj : pend j := Classical.byContradiction fun hnpj => by
                    rw [(hheavy j o' q3 q4).2 ⟨q2, hnpj⟩] at q5; cases q5
                  obtain ⟨_, xj, _, _, _, _, _, hHj⟩ := hrun j (hpend j hpj).1
                  rw [hHj, Heap.get_alloc, if_neg fun e => hnb ⟨j, hpj, e.symm⟩]
            exact oper_sim hcall s hv hop hloc.1 r fun μ' v' w' hv' s' f' => next μ' v' w' k pend g hk (hlight hc) hgp (fun j hj => by
              obtain ⟨q1, q2, q3, q4, q5, q6⟩ := hpend j hj
              exact ⟨q1, q2, q3, q4, q5, f'.dom _ (by rw [hgp.1]; exact q4) q6⟩) hv' s' f'.le (hfr.trans f')
        · rw [if_neg (by rw [hw]; simp)]
          refine ⟨fun f _ => F_fn r f, ?_⟩
          by_cases hc : so.op.class = .heavy
          · have hri : ¬ run i := fun e => by
              obtain ⟨o1, x, ho1, hop1, hgd1, _⟩ := hrun i e
              rw [hso] at ho1; cases ho1
              rw [hgd1] at hw; cases hw
            obtain ⟨e1, e2⟩ := hkH hc hri
            obtain ⟨gn, gg⟩ := gp_none hgp (hnopend hc hri)
            refine next μ undef w (i + 1) (fun _ => False) (H (i + 1)) (by omega) e2 (gpF _) (fun j e => e.elim) (by rw [hval]; exact .tuple [] #[] .nil) ?_ (.refl _) ?_
            · rw [hHi, e1]; exact s.congr gn.symm fun id => (gg id).symm
            · rw [hHi, e1]; exact hfr.congr gn.symm fun id => (gg id).symm
          · exact next μ undef w k pend g hk (hlight hc) hgp hpend (by rw [hval]; exact .tuple [] #[] .nil) s (.refl _) hfr
  have start := s₀.drew
  refine game ops.size (Array.replicate ops.size false) μ₀ a₀ w₀.drew 0 (fun _ => False) (H 0) ?_ (by simp) ?_ (by omega) ?_ ⟨rfl, fun id => by rw [if_neg]; rintro ⟨_, e, _⟩; exact e⟩ (fun j e => e.elim) (by rw [h0]; exact start) ?_ (by rw [h0]; exact Fr.drew μ₀ h w₀) rfl
  · unfold left; rw [Array.toList_replicate, List.countP_replicate]; simp
  · intro i j hi; simp [Array.getD_eq_getD_getElem?, Array.getElem?_replicate] at hi
    split at hi <;> simp at hi
  · intro j o ho hc
    simp [Array.getD_eq_getD_getElem?, Array.getElem?_replicate]
    split <;> simp
  · have : Cur l val (fun j => (Array.replicate ops.size false).getD j false = true) tm l.length = tm := by
      have key : ∀ n, Cur l val (fun j => (Array.replicate ops.size false).getD j false = true) tm n = tm := by
        intro n
        induction n with
        | zero => rfl
        | succ n ih =>
          rw [cur_succ, if_neg, ih]
          simp [Array.getD_eq_getD_getElem?, Array.getElem?_replicate]
          split <;> simp
      exact key _
    rw [this]; exact ht₀
theorem acall_calls {X : Known} (hX : XOk P X) {SP : FuncId → Option SFunc} (hSP : Conv P SP) (hmix : P.follows .mixedOrders = true) (n : Nat) : SimCall P (acall X SP n) :=
  acall_sim hX hSP (fun _ hc => draw_sim hmix hc) n
end
end Go.Ya
