/-
  Operations, the fourth part: what is read, written, made.
-/
import Derived.Test.YtekbgdmemenheaaYaOps3
namespace Go.Ya
set_option linter.unusedVariables false
set_option linter.unusedSimpArgs false
section
variable {P : Program} {μ : Mu} {h : Heap} {w : World}

/-! ### zeros -/
theorem zeroA_spec {t : TypeId} {z : AV} (e : zeroA P t = some z) (μ : Mu) : ∃ i zv, P.info? t = some i ∧ i.zero = some zv ∧ V μ z zv := by
  unfold zeroA at e
  cases hi : P.info? t with
  | none => rw [hi] at e; cases e
  | some i =>
    rw [hi] at e; simp only at e
    cases hz : i.zero with
    | none => rw [hz] at e; cases e
    | some zv => rw [hz] at e; exact ⟨i, zv, rfl, hz, cVal_sound μ zv z e⟩
theorem zero_run {t : TypeId} {i : TypeInfo} {zv : Value} (hi : P.info? t = some i) (hz : i.zero = some zv) : (zeroValue t).run P w = .ok zv w := by
  simp [zeroValue, typeInfo, hi, hz]

theorem rep_get {α : Type} (l : List α) : ∀ (m i : Nat), (List.replicate m l).flatten[i]? = if i < m * l.length then l[i % l.length]? else none
  | 0, i => by simp
  | m + 1, i => by
    rw [List.replicate_succ, List.flatten_cons]
    by_cases h1 : i < l.length
    · rw [List.getElem?_append_left h1, if_pos (by rw [Nat.add_mul]; omega), Nat.mod_eq_of_lt h1]
    · rw [List.getElem?_append_right (by omega), rep_get l m]
      have e1 : (m + 1) * l.length = m * l.length + l.length := by rw [Nat.add_mul, Nat.one_mul]
      have e2 : i % l.length = (i - l.length) % l.length := Nat.mod_eq_sub_mod (by omega)
      rw [e1, e2]
      by_cases h2 : i < m * l.length + l.length
      · rw [if_pos h2, if_pos (by omega)]
      · rw [if_neg h2, if_neg (by omega)]

theorem rep_range (zero : Array Value) (m n : Nat) (hn : n = m * zero.size) (hpos : 0 < zero.size) : ((Array.range n).map (zero[· % zero.size]!)).toList = (List.replicate m zero.toList).flatten := by
  apply List.ext_getElem?
  intro i
  rw [rep_get]
  simp only [Array.toList_map, Array.toList_range, List.getElem?_map, Array.length_toList]
  by_cases h1 : i < m * zero.size
  · rw [if_pos h1]
    have h2 : i % zero.size < zero.size := Nat.mod_lt _ hpos
    rw [List.getElem?_range (by omega)]
    simp [h2]
  · rw [if_neg h1]
    simp; omega

theorem flat_rep {l : List AV} (hf : l.all AV.flat = true) (m : Nat) : (List.replicate m l).flatten.all AV.flat = true := by
  rw [List.all_eq_true] at hf ⊢
  intro x hx
  obtain ⟨y, hy, hxy⟩ := List.mem_flatten.1 hx
  rw [(List.mem_replicate.1 hy).2] at hxy
  exact hf x hxy

/-! ### read, write -/
theorem load_sim (s : St P μ h w) {t : TypeId} {b : Bool} {n : Nat} (hb : aggr? P t = some b) (hn : sz P t = some n) {x : AV} {x' : Value} (hx : V μ x x') {v : AV} {h' : Heap}
    (hr : (match (generalizing := false) x with
    | .ptr id off => (loadA h b n id off).map fun v => (v, h)
    | _ => none : AR) = some (v, h')) : VDone P μ h w ((Instr.loadAt t x').run P w) v h' := by
  cases x with
  | ptr id off =>
    simp only [Option.map_eq_some_iff] at hr
    obtain ⟨a, ha, hr⟩ := hr
    cases hr
    cases hx with | ptr _ _ b base lim hm =>
    obtain ⟨v', hrun, hv⟩ := loadA_sim s hm ha hb hn
    exact VDone.pure s (v' := v') (by simp only [Instr.loadAt, Instr.sureAddr, Sem.run_bind, Sem.run_pure, Result.andThen_ok]; exact hrun) hv
  | _ => simp at hr

theorem store_sim (s : St P μ h w) {t : TypeId} {n : Nat} (hn : sz P t = some n) {x y : AV} {x' y' : Value} (hx : V μ x x') (hy : V μ y y') {v : AV} {h' : Heap}
    (hr : (match (generalizing := false) x with
    | .ptr id off =>
      let vs := y.cells
      if vs.length = n ∧ vs.all AV.flat then (storeA h id off vs).map fun h' => (undefA, h') else none
    | _ => none : AR) = some (v, h')) : UDone P μ h w ((Instr.storeAt t x' y').run P w) h' ∧ v = undefA := by
  cases x with
  | ptr id off =>
    simp only at hr
    split at hr
    · rename_i hc
      obtain ⟨c1, c2⟩ := hc
      simp only [Option.map_eq_some_iff] at hr
      obtain ⟨a, ha, hr⟩ := hr
      cases hr
      cases hx with | ptr _ _ b base lim hm =>
      have hcv := hy.cells
      obtain ⟨w', hrun, st', fr, _⟩ := storeA_sim s hm ha hcv c2
      refine ⟨⟨μ, w', ?_, st', fr⟩, rfl⟩
      have hl : y'.cells.size = n := by have := hcv.len; simp at this; omega
      simp only [Instr.storeAt, Instr.sureAddr, Sem.run_bind, Sem.run_pure, Result.andThen_ok, storeVar, sz_run hn, hl, ne_eq, not_true_eq_false, if_false]
      simpa using hrun
    · cases hr
  | _ => simp at hr

/-! ### make -/
theorem box_sim (s : St P μ h w) (t : TypeId) {x : AV} {x' : Value} (hx : V μ x x') {v : AV} {h' : Heap}
    (hr : (if x.cells.all AV.flat then some (.ptr h.next 0, h.alloc (.cells x.cells false)) else none : AR) = some (v, h')) : VDone P μ h w ((Instr.box t x').run P w) v h' := by
  split at hr
  · cases hr
    obtain ⟨h1, h2⟩ := alloc_sim' s t hx.cells ‹_›
    refine ⟨_, .pointer (some ⟨w.heap.size, 0, none⟩), _, ?_, ?_, h1, h2⟩
    · simp [Instr.box, newVar, run_newRow]
    · exact .ptr h.next 0 w.heap.size 0 _ (muAdd_same _ _ _)
  · cases hr

theorem foldl_set (off : Nat) : ∀ (l : List Value) (k : Nat) (arr : Array Value), off + k + l.length ≤ arr.size →
    ((l.zipIdx k).foldl (fun (cs : Array Value) (p : Value × Nat) => cs.setIfInBounds (off + p.2) p.1) arr).size = arr.size ∧
    ∀ j, ((l.zipIdx k).foldl (fun (cs : Array Value) (p : Value × Nat) => cs.setIfInBounds (off + p.2) p.1) arr)[j]? = if off + k ≤ j ∧ j < off + k + l.length then l[j - (off + k)]? else arr[j]?
  | [], k, arr, _ => ⟨rfl, fun j => by rw [if_neg (by simp only [List.length_nil]; omega)]; rfl⟩
  | v :: l, k, arr, hle => by
    simp only [List.length_cons] at hle
    obtain ⟨h1, h2⟩ := foldl_set off l (k + 1) (arr.setIfInBounds (off + k) v) (by simp; omega)
    simp only [List.zipIdx_cons, List.foldl_cons]
    refine ⟨by simpa using h1, fun j => ?_⟩
    rw [h2 j]
    by_cases c1 : off + (k + 1) ≤ j ∧ j < off + (k + 1) + l.length
    · rw [if_pos c1, if_pos (by simp only [List.length_cons]; omega), show j - (off + k) = (j - (off + (k + 1))) + 1 by omega]; rfl
    · rw [if_neg c1]
      by_cases c2 : j = off + k
      · subst c2
        rw [if_pos (by simp only [List.length_cons]; omega)]
        simp [show off + k < arr.size by omega]
      · rw [if_neg (by simp only [List.length_cons]; omega), Array.getElem?_setIfInBounds_ne (by omega)]

theorem fill_sim {tm : List AV} {a : Act} (ht : Vs μ tm a.tmps.toList) (place : Nat → Option (Nat × Nat)) : ∀ (parts : List (Nat × Operand)) (ps : List (Nat × Nat × Opd)) (cells : List AV) (cells' : Array Value) (out : List AV),
    cParts place parts = some ps → Vs μ cells cells'.toList → fillA cells tm ps = some out → cells.all AV.flat = true →
    ∃ out', Instr.fill place cells' (parts.map fun p => (p.1, a.eval p.2)) = some out' ∧ Vs μ out out'.toList ∧ out.all AV.flat = true ∧ out.length = cells.length
  | [], ps, cells, cells', out, e1, hv, e2, hf => by
    simp [cParts] at e1; subst e1
    simp [fillA] at e2; subst e2
    exact ⟨cells', rfl, hv, hf, rfl⟩
  | (i, x) :: parts, ps, cells, cells', out, e1, hv, e2, hf => by
    simp only [cParts] at e1
    split at e1
    · rename_i off size sx l hp hx hl
      cases e1
      simp only [fillA] at e2
      split at e2
      · rename_i hc
        obtain ⟨c1, c2, c3⟩ := hc
        have hxv := (cOpd_sound ht hx).cells
        have hxl := hxv.len
        have hcl := hv.len
        simp only [Array.length_toList] at hxl hcl
        have hfold := foldl_set off (a.eval x).cells.toList 0 cells' (by simp; omega)
        generalize hF : (((a.eval x).cells.toList.zipIdx 0).foldl (fun (cs : Array Value) (p : Value × Nat) => cs.setIfInBounds (off + p.2) p.1) cells') = F at hfold
        obtain ⟨f1, f2⟩ := hfold
        have hvF : Vs μ (splice cells off (ev tm sx).cells) F.toList := by
          refine Vs.of_get (by rw [splice_len _ _ _ (by omega)]; simp [f1, hcl]) fun j u v g1 g2 => ?_
          rw [splice_get _ _ _ (by omega)] at g1
          rw [Array.getElem?_toList, f2 j] at g2
          simp only [Array.length_toList, Nat.add_zero] at g2
          by_cases cj : off ≤ j ∧ j < off + (ev tm sx).cells.length
          · rw [if_pos cj] at g1
            rw [if_pos (by omega)] at g2
            obtain ⟨v', e', hv'⟩ := hxv.get g1
            rw [e'] at g2; cases g2; exact hv'
          · rw [if_neg cj] at g1
            rw [if_neg (by omega)] at g2
            obtain ⟨v', e', hv'⟩ := hv.get g1
            rw [Array.getElem?_toList, g2] at e'; cases e'; exact hv'
        have hfF : (splice cells off (ev tm sx).cells).all AV.flat = true := by
          rw [List.all_eq_true]
          intro y hy
          unfold splice at hy
          simp only [List.mem_append] at hy
          rcases hy with (hy | hy) | hy
          · exact List.all_eq_true.1 hf y (List.mem_of_mem_take hy)
          · exact List.all_eq_true.1 c3 y hy
          · exact List.all_eq_true.1 hf y (List.mem_of_mem_drop hy)
        obtain ⟨out', o1, o2, o3, o4⟩ := fill_sim ht place parts l _ F out hl hvF e2 hfF
        refine ⟨out', ?_, o2, o3, by rw [o4, splice_len _ _ _ (by omega)]⟩
        simp only [List.map_cons, Instr.fill, hp]
        rw [if_neg (by simp; omega)]
        have : (a.eval x).cells.zipIdx.foldl (fun cs (c, j) => cs.setIfInBounds (off + j) c) cells' = F := by
          rw [← hF, ← Array.foldl_toList, Array.toList_zipIdx]
        rw [this]
        exact o1
      · cases e2
    · cases e1

theorem buildStruct_sim (s : St P μ h w) {tm : List AV} {a : Act} (ht : Vs μ tm a.tmps.toList) {t : TypeId} {fs : Array Field} {z : AV} {parts : Array (Nat × Operand)} {ps : List (Nat × Nat × Opd)} (hz : zeroA P t = some z) (hu : P.underlying t = some (.struct fs))
    (hp : cParts (fun (i : Nat) => (fs[i]?).bind fun (f : Field) => (sz P f.type).map fun n => (f.offset, n)) parts.toList = some ps) (hall : fs.toList.all (fun (f : Field) => (sz P f.type).isSome) = true) (hzf : z.cells.all AV.flat = true) {v : AV} {h' : Heap}
    (hr : ((fillA z.cells tm ps).map fun cs => (.agg cs, h) : AR) = some (v, h')) : VDone P μ h w ((Instr.build t (parts.map fun (i, x) => (i, a.eval x))).run P w) v h' := by
  simp only [Option.map_eq_some_iff] at hr
  obtain ⟨cs, hcs, hr⟩ := hr
  cases hr
  obtain ⟨i, zv, hi, hzv, hV⟩ := zeroA_spec hz μ
  -- the places of the fields
  have hpl : ∀ (l : List Field), l.all (fun f => (sz P f.type).isSome) = true → (l.mapM (fun (f : Field) => (do pure (f.offset, ← sizeOf f.type) : Sem (Nat × Nat)))).run P w = .ok (l.map fun (f : Field) => (f.offset, (sz P f.type).getD 0)) w := by
    intro l
    induction l with
    | nil => intro _; simp
    | cons f l ih =>
      intro hl
      simp only [List.all_cons, Bool.and_eq_true] at hl
      obtain ⟨n, hn⟩ := Option.isSome_iff_exists.1 hl.1
      simp only [List.mapM_cons, Sem.run_bind, sz_run hn, Result.andThen_ok, Sem.run_pure, ih hl.2, List.map_cons, hn, Option.getD_some]
  have hpa : (fs.mapM (fun (f : Field) => (do pure (f.offset, ← sizeOf f.type) : Sem (Nat × Nat)))).run P w = .ok (fs.map fun (f : Field) => (f.offset, (sz P f.type).getD 0)) w := by
    rw [Array.mapM_eq_mapM_toList, Sem.run_map, hpl fs.toList hall, Result.andThen_ok]
    congr 1
    apply Array.toList_inj.1
    simp
  have hplace : (fun (i : Nat) => (fs.map fun (f : Field) => (f.offset, (sz P f.type).getD 0))[i]?) = (fun (i : Nat) => (fs[i]?).bind fun (f : Field) => (sz P f.type).map fun n => (f.offset, n)) := by
    funext j
    rw [Array.getElem?_map]
    cases hj : fs[j]? with
    | none => rfl
    | some f =>
      have := List.all_eq_true.1 hall f (by rw [← Array.getElem?_toList] at hj; exact List.mem_of_getElem? hj)
      obtain ⟨n, hn⟩ := Option.isSome_iff_exists.1 this
      simp [hn]
  obtain ⟨out', o1, o2, o3, _⟩ := fill_sim (μ := μ) ht (fun (i : Nat) => (fs[i]?).bind fun (f : Field) => (sz P f.type).map fun n => (f.offset, n)) parts.toList ps z.cells zv.cells cs hp hV.cells hcs hzf
  refine VDone.pure s (v' := .agg out') ?_ (.agg _ _ o2 o3)
  simp only [Instr.build, Sem.run_bind, zero_run hi hzv, Result.andThen_ok, und_run hu, hpa, hplace, Array.toList_map]
  rw [o1]; rfl

theorem buildArr_sim (s : St P μ h w) {tm : List AV} {a : Act} (ht : Vs μ tm a.tmps.toList) {t e : TypeId} {len n : Nat} {z : AV} {parts : Array (Nat × Operand)} {ps : List (Nat × Nat × Opd)} (hz : zeroA P t = some z) (hu : P.underlying t = some (.array len e)) (hn : sz P e = some n)
    (hp : cParts (fun i => some (i * n, n)) parts.toList = some ps) (hzf : z.cells.all AV.flat = true) {v : AV} {h' : Heap}
    (hr : ((fillA z.cells tm ps).map fun cs => (.agg cs, h) : AR) = some (v, h')) : VDone P μ h w ((Instr.build t (parts.map fun (i, x) => (i, a.eval x))).run P w) v h' := by
  simp only [Option.map_eq_some_iff] at hr
  obtain ⟨cs, hcs, hr⟩ := hr
  cases hr
  obtain ⟨i, zv, hi, hzv, hV⟩ := zeroA_spec hz μ
  obtain ⟨out', o1, o2, o3, _⟩ := fill_sim (μ := μ) ht (fun i => some (i * n, n)) parts.toList ps z.cells zv.cells cs hp hV.cells hcs hzf
  refine VDone.pure s (v' := .agg out') ?_ (.agg _ _ o2 o3)
  simp only [Instr.build, Sem.run_bind, zero_run hi hzv, Result.andThen_ok, und_run hu, sz_run hn, Array.toList_map]
  rw [o1]; rfl

theorem buildSlice_sim (s : St P μ h w) {tm : List AV} {a : Act} (ht : Vs μ tm a.tmps.toList) {t e : TypeId} {len n : Nat} {z : AV} {parts : Array (Nat × Operand)} {ps : List (Nat × Nat × Opd)} (hz : zeroA P e = some z) (hu : P.underlying t = some (.slice e)) (hn : sz P e = some n)
    (hp : cParts (fun i => some (i * n, n)) parts.toList = some ps) (hzl : z.cells.length = n) (hpos : 0 < n) (hlim : len * n ≤ 2 ^ 24) (hzf : z.cells.all AV.flat = true) {v : AV} {h' : Heap}
    (hr : ((fillA ((List.replicate len z.cells).flatten) tm ps).map fun cs => (.slice h.next 0 len len true n, h.alloc (.cells cs false)) : AR) = some (v, h')) :
    VDone P μ h w ((Instr.buildSlice t len (parts.map fun (i, x) => (i, a.eval x))).run P w) v h' := by
  simp only [Option.map_eq_some_iff] at hr
  obtain ⟨cs, hcs, hr⟩ := hr
  cases hr
  obtain ⟨i, zv, hi, hzv, hV⟩ := zeroA_spec hz μ
  have hzs : zv.cells.size = n := by have := hV.cells.len; simp at this; omega
  have hlen : (List.replicate len z.cells).flatten.length = len * n := by simp [hzl]
  -- the row of zeros
  have hzero : ∃ zc : Array Value, ((len * n = 0 ∧ zc = #[]) ∨ (¬ len * n = 0 ∧ zc = zv.cells)) ∧
      Vs μ ((List.replicate len z.cells).flatten) ((Array.range (len * n)).map (zc[· % zc.size]!)).toList := by
    by_cases h0 : len * n = 0
    · refine ⟨#[], .inl ⟨h0, rfl⟩, ?_⟩
      have : len = 0 := by
        rcases Nat.mul_eq_zero.1 h0 with h | h <;> omega
      subst this; simp; exact .nil
    · refine ⟨zv.cells, .inr ⟨h0, rfl⟩, ?_⟩
      rw [rep_range zv.cells len (len * n) (by rw [hzs]) (by omega)]
      exact hV.cells.flatRep len
  obtain ⟨zc, hz1, hz2⟩ := hzero
  obtain ⟨out', o1, o2, o3, o4⟩ := fill_sim (μ := μ) ht (fun i => some (i * n, n)) parts.toList ps _ _ cs hp hz2 hcs (flat_rep hzf len)
  have hal := alloc_sim' s e (cs := cs) (cs' := out'.toList) o2 o3
  rw [show out'.toList.toArray = out' from rfl] at hal
  obtain ⟨h1, h2⟩ := hal
  refine ⟨_, .slice (some ⟨w.heap.size, 0, none⟩) len len, _, ?_, ?_, h1, h2⟩
  · simp only [Instr.buildSlice, Sem.run_bind, und_run hu, Result.andThen_ok, sz_run hn]
    rw [if_neg (by omega)]
    rcases hz1 with ⟨h0, rfl⟩ | ⟨h0, rfl⟩
    · rw [if_pos h0]
      simp only [Sem.run_bind, Sem.run_pure, Result.andThen_ok, Array.toList_map, o1]
      rw [run_newRow]; rfl
    · rw [if_neg h0]
      simp only [Sem.run_bind, Sem.run_pure, Result.andThen_ok, zero_run hi hzv, Array.toList_map, o1]
      rw [run_newRow]; rfl
  · have hl16 : len ≤ 2 ^ 24 := Nat.le_trans (Nat.le_mul_of_pos_right _ hpos) hlim
    refine .slice h.next 0 len len true n _ len (Nat.le_refl _) (Nat.le_refl _) (fun _ => rfl) hpos (by omega) (.inr ⟨w.heap.size, 0, _, muAdd_same _ _ _, rfl, ?_⟩)
    rw [o4, hlen]; omega

theorem makeSlice_sim (s : St P μ h w) {t e : TypeId} {i : TypeInfo} {z : AV} (hu : P.underlying t = some (.slice e)) (hi : P.info? e = some i) (hz : zeroA P e = some z) (hzl : z.cells.length = i.size) (hpos : 0 < i.size) (hzf : z.cells.all AV.flat = true)
    {x y : AV} {x' y' : Value} (hx : V μ x x') (hy : V μ y y') {v : AV} {h' : Heap}
    (hr : (match (generalizing := false) x, y with
    | .int .i64 l, .int .i64 c =>
      if 0 ≤ l ∧ l ≤ c ∧ i.bytes * c ≤ 140737488355328 ∧ c ≤ 140737488355328 then
        some (.slice h.next 0 l.toNat c.toNat true i.size, h.alloc (.cells ((List.replicate c.toNat z.cells).flatten) false))
      else none
    | _, _ => none : AR) = some (v, h')) : VDone P μ h w ((Instr.makeSlice t x' y').run P w) v h' := by
  have hxy : ∃ l c, x = .int .i64 l ∧ y = .int .i64 c := by
    split at hr
    · exact ⟨_, _, rfl, rfl⟩
    · cases hr
  obtain ⟨l, c, rfl, rfl⟩ := hxy
  · simp only at hr
    split at hr
    · rename_i hc
      obtain ⟨c1, c2, c3, c4⟩ := hc
      cases hr
      cases hx; cases hy
      obtain ⟨i', zv, hi', hzv, hV⟩ := zeroA_spec hz μ
      rw [hi] at hi'; cases hi'
      have hzs : zv.cells.size = i.size := by have := hV.cells.len; simp at this; omega
      have wl : IntKind.i64.wrap l = l := IntWalk.i64_in _ (by omega)
      have wc : IntKind.i64.wrap c = c := IntWalk.i64_in _ (by omega)
      have hzero : ∃ zc : Array Value, ((c.toNat * i.size = 0 ∧ zc = #[]) ∨ (¬ c.toNat * i.size = 0 ∧ zc = zv.cells)) ∧
          Vs μ ((List.replicate c.toNat z.cells).flatten) ((Array.range (c.toNat * i.size)).map (zc[· % zc.size]!)).toList := by
        by_cases h0 : c.toNat * i.size = 0
        · refine ⟨#[], .inl ⟨h0, rfl⟩, ?_⟩
          have : c.toNat = 0 := by
            rcases Nat.mul_eq_zero.1 h0 with h | h <;> omega
          rw [this]; simp; exact .nil
        · refine ⟨zv.cells, .inr ⟨h0, rfl⟩, ?_⟩
          rw [rep_range zv.cells c.toNat (c.toNat * i.size) (by rw [hzs]) (by omega)]
          exact hV.cells.flatRep c.toNat
      obtain ⟨zc, hz1, hz2⟩ := hzero
      have hal := alloc_sim' s e hz2 (flat_rep hzf c.toNat)
      obtain ⟨h1, h2⟩ := hal
      refine ⟨_, .slice (some ⟨w.heap.size, 0, none⟩) l.toNat c.toNat, _, ?_, ?_, h1, h2⟩
      · have hb : (i.bytes : Int) * c ≤ 281474976710656 := by omega
        simp only [Instr.makeSlice, Sem.run_bind, und_run hu, Result.andThen_ok, asInt, asIntOf, Sem.run_pure, typeInfo, run_program, hi, wl, wc]
        rw [if_neg (by simp; omega)]
        simp only [Sem.run_bind, Sem.run_pure, Result.andThen_ok, run_askRoom, sz_run (P := P) (w := w) (t := e) (n := i.size) (by simp [sz, hi])]
        rcases hz1 with ⟨h0, rfl⟩ | ⟨h0, rfl⟩
        · rw [if_pos h0]
          simp only [Sem.run_bind, Sem.run_pure, Result.andThen_ok, run_newRow]
        · rw [if_neg h0]
          simp only [Sem.run_bind, Sem.run_pure, Result.andThen_ok, zero_run hi hzv, run_newRow]
      · refine .slice h.next 0 l.toNat c.toNat true i.size _ c.toNat (by omega) (Nat.le_refl _) (fun _ => rfl) hpos (by omega) (.inr ⟨w.heap.size, 0, _, muAdd_same _ _ _, rfl, ?_⟩)
        simp [hzl]
    · cases hr

end
end Go.Ya
