/-
  Regions that draw their order: what does not hang on the model. Which operations stand before which; an operation that does not write, over another heap; the trace of a region.
-/
import Derived.Test.YtekbgdmemenheaaYaCall
namespace Go.Ya
set_option linter.unusedVariables false
set_option linter.unusedSimpArgs false

/-! ### edges -/
theorem uni_mem : ∀ {a s : List Nat} {j : Nat}, j ∈ uni s a → j ∈ a ∨ j ∈ s
  | [], s, j, h => .inr h
  | x :: a, s, j, h => by
    rw [uni] at h
    rcases uni_mem h with h | h
    · exact .inl (List.mem_cons_of_mem _ h)
    · split at h
      · exact .inr h
      · rcases List.mem_cons.1 h with rfl | h
        · exact .inl List.mem_cons_self
        · exact .inr h
theorem fold_mem (acc : List (List Nat)) : ∀ (l : List Edge) (s : List Nat) (j : Nat), j ∈ l.foldl (fun s e => if Region.binds .any e then uni s (e.on :: (acc.getD e.on [])) else s) s → j ∈ s ∨ ∃ e ∈ l, Region.binds .any e = true ∧ (j = e.on ∨ j ∈ acc.getD e.on [])
  | [], s, j, h => .inl h
  | e :: l, s, j, h => by
    simp only [List.foldl_cons] at h
    rcases fold_mem acc l _ j h with h | ⟨e', he, hb, hj⟩
    · split at h
      · rename_i hb
        rcases uni_mem h with h | h
        · rcases List.mem_cons.1 h with rfl | h
          · exact .inr ⟨e, List.mem_cons_self, hb, .inl rfl⟩
          · exact .inr ⟨e, List.mem_cons_self, hb, .inr h⟩
        · exact .inl h
      · exact .inl h
    · exact .inr ⟨e', List.mem_cons_of_mem _ he, hb, hj⟩

def stepB (acc : List (List Nat)) (o : Oper) : List (List Nat) :=
  acc ++ [o.after.toList.foldl (init := []) fun s e => if Region.binds .any e then uni s (e.on :: (acc.getD e.on [])) else s]

theorem befores_fold : ∀ (l : List Oper) (acc : List (List Nat)), (l.foldl stepB acc).length = acc.length + l.length ∧ (∀ k, k < acc.length → (l.foldl stepB acc).getD k [] = acc.getD k []) ∧
    ∀ i o, l[i]? = some o → (∀ e ∈ o.after.toList, Region.binds .any e = true → e.on < acc.length + i) → ∀ j, j ∈ (l.foldl stepB acc).getD (acc.length + i) [] → ∃ e ∈ o.after.toList, Region.binds .any e = true ∧ (j = e.on ∨ j ∈ (l.foldl stepB acc).getD e.on [])
  | [], acc => ⟨rfl, fun _ _ => rfl, fun i o h => by simp at h⟩
  | x :: l, acc => by
    obtain ⟨h1, h2, h3⟩ := befores_fold l (stepB acc x)
    have hl : (stepB acc x).length = acc.length + 1 := by simp [stepB]
    have hk : ∀ k, k < acc.length → ((x :: l).foldl stepB acc).getD k [] = acc.getD k [] := fun k hk => by
      rw [List.foldl_cons, h2 k (by omega)]
      simp [stepB, List.getD_eq_getElem?_getD, List.getElem?_append_left hk]
    refine ⟨by rw [List.foldl_cons, h1, hl, List.length_cons]; omega, hk, fun i o ho he j hj => ?_⟩
    cases i with
    | zero =>
      simp only [List.getElem?_cons_zero, Option.some.injEq] at ho
      subst ho
      rw [List.foldl_cons, Nat.add_zero, h2 acc.length (by omega)] at hj
      have hlast : (stepB acc x).getD acc.length [] = x.after.toList.foldl (init := []) (fun s e => if Region.binds .any e then uni s (e.on :: (acc.getD e.on [])) else s) := by
        unfold stepB
        rw [List.getD_eq_getElem?_getD, List.getElem?_append_right (Nat.le_refl _), Nat.sub_self]
        rfl
      rw [hlast] at hj
      rcases fold_mem acc _ _ j hj with h | ⟨e, hm, hb, hx⟩
      · cases h
      · refine ⟨e, hm, hb, hx.imp (fun h => h) fun h => ?_⟩
        rw [hk e.on (by have := he e hm hb; omega)]; exact h
    | succ i =>
      simp only [List.getElem?_cons_succ] at ho
      rw [List.foldl_cons] at hj ⊢
      rw [show acc.length + (i + 1) = (stepB acc x).length + i by omega] at hj
      exact h3 i o ho (fun e hm hb => by have := he e hm hb; omega) j hj

theorem befores_eq (ops : List Oper) : befores ops = ops.foldl stepB [] := rfl

theorem edges_lt {ops : List Oper} (h : edgesOk ops = true) {i : Nat} {o : Oper} (ho : ops[i]? = some o) : ∀ e ∈ o.after.toList, Region.binds .any e = true → e.on < i := by
  intro e he hb
  unfold edgesOk at h
  have hm : (o, i) ∈ ops.zipIdx := by
    rw [List.mem_zipIdx_iff_getElem?]; exact ho
  have h1 := List.all_eq_true.1 h _ hm
  have h2 := List.all_eq_true.1 h1 _ he
  simpa [hb] using h2

theorem befores_mem {ops : List Oper} (h : edgesOk ops = true) {i : Nat} {o : Oper} (ho : ops[i]? = some o) {j : Nat} (hj : j ∈ (befores ops).getD i []) :
    ∃ e ∈ o.after.toList, Region.binds .any e = true ∧ (j = e.on ∨ j ∈ (befores ops).getD e.on []) := by
  have := (befores_fold ops []).2.2 i o ho (fun e he hb => by simpa using edges_lt h ho e he hb) j (by simpa [befores_eq] using hj)
  simpa [befores_eq] using this

/-! ### loose pairs -/
theorem loose_mem {bs : List (List Nat)} {l : List SOper} {i j : Nat} {a b : SOper} (ha : l[i]? = some a) (hb : l[j]? = some b) (hne : i ≠ j) (ho : ordered bs i j = false) : (i, a, j, b) ∈ loosePairs bs l := by
  unfold loosePairs
  rw [List.mem_flatMap]
  refine ⟨(a, i), by rw [List.mem_zipIdx_iff_getElem?]; exact ha, ?_⟩
  rw [List.mem_filterMap]
  refine ⟨(b, j), by rw [List.mem_zipIdx_iff_getElem?]; exact hb, ?_⟩
  simp [hne, ho]

theorem draw_apart {bs : List (List Nat)} {l : List SOper} {p q : Nat} (h : drawOkR bs l p q = true) {i j : Nat} {a b : SOper} (ha : l[i]? = some a) (hb : l[j]? = some b) (hne : i ≠ j) (ho : ordered bs i j = false) :
    ((a.op.class = .heavy ∧ b.op.class = .heavy) → (p ≤ i ∧ i < q) ∧ p ≤ j ∧ j < q) ∧ ∀ d, b.dst = some d → d ∉ a.names := by
  unfold drawOkR at h
  rw [Bool.and_eq_true] at h
  have := List.all_eq_true.1 h.1 _ (loose_mem ha hb hne ho)
  simp only [Bool.and_eq_true, Bool.or_eq_true, Bool.not_eq_true', decide_eq_false_iff_not, decide_eq_true_eq] at this
  refine ⟨fun hh => this.1.elim (fun e => absurd hh e) fun e => e, fun d hd hm => ?_⟩
  have h2 := this.2
  rw [hd] at h2
  simp [hm] at h2
theorem draw_run {bs : List (List Nat)} {l : List SOper} {p q : Nat} (h : drawOkR bs l p q = true) {i : Nat} {a : SOper} (ha : l[i]? = some a) (hi : p ≤ i ∧ i < q) (hc : a.op.class = .heavy) : ∃ v, a.op = .box (.c v) ∧ a.guard = none := by
  unfold drawOkR at h
  rw [Bool.and_eq_true] at h
  have := List.all_eq_true.1 h.2 (a, i) (by rw [List.mem_zipIdx_iff_getElem?]; exact ha)
  simp only [hi, hc, and_self, decide_true, Bool.not_true, Bool.false_or] at this
  obtain ⟨dst, op, guard⟩ := a
  unfold constBox at this
  split at this
  · rename_i e; cases e; exact ⟨_, rfl, rfl⟩
  · cases this
theorem draw_ok {bs : List (List Nat)} {l : List SOper} (h : drawOk bs l = true) : ∃ p q, drawOkR bs l p q = true := by
  unfold drawOk at h
  rw [Bool.or_eq_true] at h
  exact h.elim (fun e => ⟨_, _, e⟩) fun e => ⟨_, _, e⟩

theorem chk_mem {bs : List (List Nat)} {l : List SOper} {i j : Nat} {a b : SOper} (ha : l[i]? = some a) (hb : l[j]? = some b) (hne : i ≠ j) (ho : ordered bs i j = false) (h1 : a.op.class = .read) (h2 : b.op.class = .heavy) : (i, j) ∈ drawChk bs l := by
  unfold drawChk
  rw [List.mem_filterMap]
  exact ⟨_, loose_mem ha hb hne ho, by simp [h1, h2]⟩

/-! ### the same block -/
mutual
theorem AV.beq_eq : ∀ (a b : AV), AV.beq a b = true → a = b
  | .bool a, b, h => by cases b <;> simp [AV.beq] at h; rw [h]
  | .int j a, b, h => by cases b <;> simp [AV.beq] at h; rw [h.1, h.2]
  | .str a, b, h => by cases b <;> simp [AV.beq] at h; rw [h]
  | .nilptr, b, h => by cases b <;> simp [AV.beq] at h; rfl
  | .ptr a c, b, h => by cases b <;> simp [AV.beq] at h; rw [h.1, h.2]
  | .nilsl, b, h => by cases b <;> simp [AV.beq] at h; rfl
  | .slice a c d e f g, b, h => by
    cases b <;> simp [AV.beq] at h
    obtain ⟨⟨⟨⟨⟨h1, h2⟩, h3⟩, h4⟩, h5⟩, h6⟩ := h
    rw [h1, h2, h3, h4, h5, h6]
  | .nilmap, b, h => by cases b <;> simp [AV.beq] at h; rfl
  | .map a, b, h => by cases b <;> simp [AV.beq] at h; rw [h]
  | .nilf, b, h => by cases b <;> simp [AV.beq] at h; rfl
  | .func f x y, b, h => by
    cases b <;> simp [AV.beq] at h
    rename_i f' x' y'
    rw [h.1.1, AV.beqs_eq x x' h.1.2, AV.beqs_eq y y' h.2]
  | .yieldf a, b, h => by cases b <;> simp [AV.beq] at h; rw [h]
  | .nilif, b, h => by cases b <;> simp [AV.beq] at h; rfl
  | .iface t v, b, h => by
    cases b <;> simp [AV.beq] at h
    rename_i t' v'
    rw [h.1, AV.beq_eq v v' h.2]
  | .agg a, b, h => by
    cases b <;> simp [AV.beq] at h
    rename_i a'
    rw [AV.beqs_eq a a' h]
  | .tuple a, b, h => by
    cases b <;> simp [AV.beq] at h
    rename_i a'
    rw [AV.beqs_eq a a' h]
theorem AV.beqs_eq : ∀ (a b : List AV), AV.beqs a b = true → a = b
  | [], [], _ => rfl
  | [], _ :: _, h => by simp [AV.beqs] at h
  | _ :: _, [], h => by simp [AV.beqs] at h
  | a :: as, b :: bs, h => by
    simp [AV.beqs] at h
    rw [AV.beq_eq a b h.1, AV.beqs_eq as bs h.2]
end

theorem pairsBeq_eq : ∀ (a b : List (AV × AV)), pairsBeq a b = true → a = b
  | [], [], _ => rfl
  | [], _ :: _, h => by simp [pairsBeq] at h
  | _ :: _, [], h => by simp [pairsBeq] at h
  | (a, b) :: r, (c, d) :: s, h => by
    simp [pairsBeq] at h
    rw [AV.beq_eq a c h.1.1, AV.beq_eq b d h.1.2, pairsBeq_eq r s h.2]

theorem sameObj_eq {a b : Option AObj} (h : sameObj a b = true) : a = b := by
  cases a with
  | none => cases b with
    | none => rfl
    | some b => cases b <;> simp [sameObj] at h
  | some a =>
    cases b with
    | none => cases a <;> simp [sameObj] at h
    | some b =>
      cases a <;> cases b <;> simp [sameObj] at h
      · rw [h.1, AV.beqs_eq _ _ h.2]
      · rw [pairsBeq_eq _ _ h]

/-! ### an operation that writes nothing, over another heap -/
theorem loadA_local {h h2 : Heap} {b : Bool} {n id off : Nat} {v : AV} (e : loadA h b n id off = some v) (hs : (h.get id).isSome = true → h2.get id = h.get id) : loadA h2 b n id off = some v := by
  unfold loadA at e ⊢
  cases hg : h.get id with
  | none => rw [hg] at e; cases e
  | some o => rw [hs (by rw [hg]; rfl)]; exact e

theorem firstA_local {h h2 : Heap} {esz n id off len cap : Nat} {ex : Bool} {esz' : Nat} {cs : List AV} (e : firstA h esz n (.slice id off len cap ex esz') = some cs) (hs : (h.get id).isSome = true → h2.get id = h.get id) : firstA h2 esz n (.slice id off len cap ex esz') = some cs := by
  unfold firstA at e ⊢
  simp only at e ⊢
  split at e
  · rename_i hes
    rw [if_pos hes]
    cases hg : h.get id with
    | none => rw [hg] at e; cases e
    | some o => rw [hs (by rw [hg]; rfl)]; exact e
  · cases e

theorem aop_local (call : Tgt → List AV → Heap → AR) {tm : List AV} {h h' h2 : Heap} {op : SOp} {v : AV} (hc : op.class ≠ .heavy) (hr : aop call tm h op = some (v, h'))
    (hs : op.class = .read → ∀ id, readsA tm op = some id → (h.get id).isSome = true → h2.get id = h.get id) : aop call tm h2 op = some (v, h2) ∧ h' = h := by
  have keepG : ∀ {α : Type} (f : α → AV) (x : Option α), x.map (fun a => (f a, h)) = some (v, h') → x.map (fun a => (f a, h2)) = some (v, h2) ∧ h' = h := by
    intro α f x e
    cases x with
    | none => cases e
    | some a => simp only [Option.map_some, Option.some.injEq, Prod.mk.injEq] at e ⊢; exact ⟨⟨e.1, trivial⟩, e.2.symm⟩
  have keep : ∀ (x : Option AV), x.map (fun v => (v, h)) = some (v, h') → x.map (fun v => (v, h2)) = some (v, h2) ∧ h' = h := by
    intro x e
    cases x with
    | none => cases e
    | some a => simp only [Option.map_some, Option.some.injEq, Prod.mk.injEq] at e ⊢; exact ⟨⟨e.1, trivial⟩, e.2.symm⟩
  cases op with
  | load b n a =>
    simp only [aop] at hr ⊢
    cases he : ev tm a with
    | ptr id off =>
      rw [he] at hr
      simp only [Option.map_eq_some_iff] at hr
      obtain ⟨x, hx, e⟩ := hr
      obtain ⟨rfl, rfl⟩ := Prod.mk.inj e
      exact ⟨by simp only []; rw [loadA_local hx (hs rfl id (by simp [readsA, he]))]; rfl, rfl⟩
    | _ => rw [he] at hr; simp at hr
  | bytesToStr x =>
    simp only [aop] at hr ⊢
    cases he : ev tm x with
    | nilsl => rw [he] at hr; simp only at hr ⊢; cases hr; exact ⟨rfl, rfl⟩
    | slice id off len cap ex esz =>
      rw [he] at hr
      simp only at hr ⊢
      cases hf : firstA h 1 len (.slice id off len cap ex esz) with
      | none => rw [hf] at hr; cases hr
      | some cs =>
        rw [hf] at hr
        rw [firstA_local hf (hs rfl id (by simp [readsA, he]))]
        exact keepG _ _ hr
    | _ => rw [he] at hr; simp at hr
  | sliceArr n esz x lo hi mx =>
    simp only [aop] at hr ⊢
    cases he : ev tm x with
    | ptr id off =>
      rw [he] at hr
      simp only at hr ⊢
      cases hg : h.get id with
      | none => rw [hg] at hr; split at hr <;> first | (cases hr; done) | (rename_i q; cases q)
      | some o =>
        rw [hs rfl id (by simp [readsA, he]) (by rw [hg]; rfl), hg]
        rw [hg] at hr
        cases hb : boundsA n n (Option.map (ev tm) lo) (Option.map (ev tm) hi) (Option.map (ev tm) mx) with
        | none => rw [hb] at hr; simp at hr
        | some p =>
          rw [hb] at hr
          obtain ⟨l, hh, m⟩ := p
          cases o with
          | cells c ro =>
            simp only at hr ⊢
            split at hr
            · rename_i hle
              cases hr
              exact ⟨by rw [if_pos hle], rfl⟩
            · cases hr
          | _ => simp at hr
    | _ => rw [he] at hr; simp at hr
  | lookup sk z ok m k =>
    simp only [aop] at hr ⊢
    cases he : ev tm m with
    | nilmap =>
      rw [he] at hr
      simp only at hr ⊢
      split at hr
      · rename_i hk
        rw [if_pos hk]
        cases hf : findA (ev tm k) [] with
        | none => rw [hf] at hr; cases hr
        | some r => rw [hf] at hr; simp only at hr ⊢; cases hr; exact ⟨rfl, rfl⟩
      · cases hr
    | map id =>
      rw [he] at hr
      simp only at hr ⊢
      cases hg : h.get id with
      | none => rw [hg] at hr; simp at hr
      | some o =>
        rw [hs rfl id (by simp [readsA, he]) (by rw [hg]; rfl), hg]
        rw [hg] at hr
        cases o with
        | map es =>
          simp only at hr ⊢
          split at hr
          · rename_i hk
            rw [if_pos hk]
            cases hf : findA (ev tm k) es with
            | none => rw [hf] at hr; cases hr
            | some r => rw [hf] at hr; simp only at hr ⊢; cases hr; exact ⟨rfl, rfl⟩
          · cases hr
        | _ => simp at hr
    | _ => rw [he] at hr; simp at hr
  | len ek x =>
    simp only [aop] at hr ⊢
    cases ek <;> cases he : ev tm x <;> rw [he] at hr <;> simp only [reduceCtorEq] at hr ⊢ <;> first
      | (cases hr; exact ⟨rfl, rfl⟩)
      | skip
    rename_i id
    cases hg : h.get id with
    | none => rw [hg] at hr; simp at hr
    | some o =>
      rw [hs rfl id (by simp [readsA, he]) (by rw [hg]; rfl), hg]
      rw [hg] at hr
      cases o with
      | map es => simp only at hr ⊢; cases hr; exact ⟨rfl, rfl⟩
      | _ => simp at hr
  | box x => exact absurd rfl hc
  | buildSlice base len esz ps => exact absurd rfl hc
  | strToBytes x => exact absurd rfl hc
  | mkMap => exact absurd rfl hc
  | mkSlice z esz bytes l c => exact absurd rfl hc
  | store n a x => exact absurd rfl hc
  | call f l => exact absurd rfl hc
  | callV x l => exact absurd rfl hc
  | append a b x y => exact absurd rfl hc
  | copy a x y => exact absurd rfl hc
  | clear z a x => exact absurd rfl hc
  | mapUpdate sk a b c => exact absurd rfl hc
  | nextStr x => exact absurd rfl hc
  | rangeStr x => exact absurd rfl hc
  | mov x => simp only [aop] at hr ⊢; cases hr; exact ⟨rfl, rfl⟩
  | iface t x => simp only [aop] at hr ⊢; cases hr; exact ⟨rfl, rfl⟩
  | mkFunc f a b => simp only [aop] at hr ⊢; cases hr; exact ⟨rfl, rfl⟩
  | lenC n => simp only [aop] at hr ⊢; cases hr; exact ⟨rfl, rfl⟩
  | build base ps => simp only [aop] at hr ⊢; exact keepG _ _ hr
  | bin op ek x y => simp only [aop] at hr ⊢; obtain ⟨k1, k2⟩ := keep _ hr; exact ⟨k1, k2⟩
  | un op x => simp only [aop] at hr ⊢; obtain ⟨k1, k2⟩ := keep _ hr; exact ⟨k1, k2⟩
  | slice esz x lo hi mx => simp only [aop] at hr ⊢; obtain ⟨k1, k2⟩ := keep _ hr; exact ⟨k1, k2⟩
  | min x ys => simp only [aop] at hr ⊢; obtain ⟨k1, k2⟩ := keep _ hr; exact ⟨k1, k2⟩
  | max x ys => simp only [aop] at hr ⊢; obtain ⟨k1, k2⟩ := keep _ hr; exact ⟨k1, k2⟩
  | pick c a b =>
    simp only [aop] at hr ⊢
    split at hr <;> first | (cases hr; done) | (cases hr; exact ⟨rfl, rfl⟩)
  | nilChk x =>
    simp only [aop] at hr ⊢
    split at hr <;> first | (cases hr; done) | (cases hr; exact ⟨rfl, rfl⟩)
  | eqAgg neg ks x y =>
    simp only [aop] at hr ⊢
    split at hr
    · split at hr
      · rename_i hk
        rw [if_pos hk]
        exact keepG _ _ hr
      · cases hr
    · cases hr
  | convInt k x =>
    simp only [aop] at hr ⊢
    split at hr <;> first | (cases hr; done) | (cases hr; exact ⟨rfl, rfl⟩)
  | convStr x =>
    simp only [aop] at hr ⊢
    split at hr <;> first | (cases hr; done) | (cases hr; exact ⟨rfl, rfl⟩)
  | sliceStr x lo hi =>
    simp only [aop] at hr ⊢
    split at hr
    · split at hr
      · rename_i he _ _ _ _ hb
        cases hr
        exact ⟨by simp [hb], rfl⟩
      · cases hr
    · cases hr
  | fieldAddr off x =>
    simp only [aop] at hr ⊢
    split at hr <;> first | (cases hr; done) | (cases hr; exact ⟨rfl, rfl⟩)
  | field b off n x =>
    simp only [aop] at hr ⊢
    split at hr
    · cases b with
      | true => simp only [if_true] at hr ⊢; cases hr; exact ⟨rfl, rfl⟩
      | false => simp only [Bool.false_eq_true, if_false] at hr ⊢; obtain ⟨k1, k2⟩ := keep _ hr; exact ⟨k1, k2⟩
    · cases hr
  | idxAddrSl esz x i =>
    simp only [aop] at hr ⊢
    split at hr
    · split at hr
      · rename_i hcond
        cases hr
        exact ⟨by rw [if_pos hcond], rfl⟩
      · cases hr
    · cases hr
  | idxAddrArr len esz x i =>
    simp only [aop] at hr ⊢
    split at hr
    · split at hr
      · rename_i hcond
        cases hr
        exact ⟨by rw [if_pos hcond], rfl⟩
      · cases hr
    · cases hr
  | idxArr b len esz x i =>
    simp only [aop] at hr ⊢
    split at hr
    · split at hr
      · rename_i hcond
        rw [if_pos hcond]
        cases b with
        | true => simp only [if_true] at hr ⊢; cases hr; exact ⟨rfl, rfl⟩
        | false => simp only [Bool.false_eq_true, if_false] at hr ⊢; obtain ⟨k1, k2⟩ := keep _ hr; exact ⟨k1, k2⟩
      · cases hr
    · cases hr
  | idxStr x i =>
    simp only [aop] at hr ⊢
    split at hr
    · split at hr
      · rename_i hcond
        rw [if_pos hcond]
        exact keepG _ _ hr
      · cases hr
    · cases hr
  | extract x i =>
    simp only [aop] at hr ⊢
    split at hr
    · obtain ⟨k1, k2⟩ := keep _ hr; exact ⟨k1, k2⟩
    · cases hr
  | cap x =>
    simp only [aop] at hr ⊢
    split at hr <;> first | (cases hr; done) | (cases hr; exact ⟨rfl, rfl⟩)

/-! ### the trace of a region -/
structure Trace (call : Tgt → List AV → Heap → AR) (l : List SOper) (lg : List (Option Nat × Heap × Heap)) (T : Nat → List AV) (H : Nat → Heap) (val : Nat → AV) : Prop where
  step : ∀ i o, l[i]? = some o → T (i + 1) = putT (T i) o.dst (val i) ∧
    ((wantedA (T i) o.guard = true ∧ aop call (T i) (H i) o.op = some (val i, H (i + 1)) ∧ lg[i]? = some (readsA (T i) o.op, H i, H (i + 1))) ∨
     (wantedA (T i) o.guard = false ∧ val i = undefA ∧ H (i + 1) = H i ∧ lg[i]? = some (none, H i, H i)))

theorem trace_of {call : Tgt → List AV → Heap → AR} : ∀ {l : List SOper} {tm : List AV} {h : Heap} {tm' : List AV} {h' : Heap} {lg : List (Option Nat × Heap × Heap)}, aopsLog call l tm h = some (tm', h', lg) →
    ∃ T H val, T 0 = tm ∧ H 0 = h ∧ T l.length = tm' ∧ H l.length = h' ∧ Trace call l lg T H val
  | [], tm, h, tm', h', lg, e => by
    simp [aopsLog] at e
    obtain ⟨rfl, rfl, rfl⟩ := e
    exact ⟨fun _ => tm, fun _ => h, fun _ => undefA, rfl, rfl, rfl, rfl, ⟨fun i o ho => by simp at ho⟩⟩
  | o :: l, tm, h, tm', h', lg, e => by
    simp only [aopsLog] at e
    have build : ∀ (v : AV) (h1 : Heap) (lg1 : List (Option Nat × Heap × Heap)) (x : Option Nat), aopsLog call l (putT tm o.dst v) h1 = some (tm', h', lg1) → lg = (x, h, h1) :: lg1 →
        ((wantedA tm o.guard = true ∧ aop call tm h o.op = some (v, h1) ∧ x = readsA tm o.op) ∨ (wantedA tm o.guard = false ∧ v = undefA ∧ h1 = h ∧ x = none)) →
        ∃ T H val, T 0 = tm ∧ H 0 = h ∧ T (o :: l).length = tm' ∧ H (o :: l).length = h' ∧ Trace call (o :: l) lg T H val := by
      intro v h1 lg1 x hrec hlg hcase
      obtain ⟨T, H, val, t0, h0, t1, h1', tr⟩ := trace_of hrec
      refine ⟨fun i => match i with | 0 => tm | i + 1 => T i, fun i => match i with | 0 => h | i + 1 => H i, fun i => match i with | 0 => v | i + 1 => val i, rfl, rfl, t1, h1', ⟨fun i o' ho => ?_⟩⟩
      subst hlg
      cases i with
      | zero =>
        simp only [List.getElem?_cons_zero, Option.some.injEq] at ho
        subst ho
        simp only [t0, h0]
        refine ⟨trivial, ?_⟩
        rcases hcase with ⟨c1, c2, c3⟩ | ⟨c1, c2, c3, c4⟩
        · exact .inl ⟨c1, c2, by simp [c3]⟩
        · exact .inr ⟨c1, c2, c3, by simp [c3, c4]⟩
      | succ i =>
        simp only [List.getElem?_cons_succ] at ho
        simpa using tr.step i o' ho
    split at e
    · rename_i hw
      split at e
      · rename_i v h1 hv
        split at e
        · rename_i tm'' h'' lg1 hrec
          cases e
          exact build v h1 lg1 _ hrec rfl (.inl ⟨hw, hv, rfl⟩)
        · cases e
      · cases e
    · rename_i hw
      split at e
      · rename_i tm'' h'' lg1 hrec
        cases e
        exact build undefA h lg1 none hrec rfl (.inr ⟨by simpa using hw, rfl, rfl, rfl⟩)
      · cases e

end Go.Ya
