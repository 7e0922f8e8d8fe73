/-
  Operations, the third part: slices, addresses, what is read, written, made.
-/
import Derived.Test.YtekbgdmemenheaaYaOps2
namespace Go.Ya
set_option linter.unusedVariables false
set_option linter.unusedSimpArgs false
section
variable {P : Program} {μ : Mu} {h : Heap} {w : World}

inductive VO (μ : Mu) : Option AV → Option Value → Prop
  | none : VO μ none none
  | some (a : AV) (v : Value) : V μ a v → VO μ (some a) (some v)

theorem cOpt_sound {tm : List AV} {a : Act} (ht : Vs μ tm a.tmps.toList) {x : Option Operand} {s : Option Opd} (e : cOpt x = some s) : VO μ (s.map (ev tm)) (x.map a.eval) := by
  cases x with
  | none => simp [cOpt] at e; subst e; exact .none
  | some x =>
    simp only [cOpt, Option.map_eq_some_iff] at e
    obtain ⟨y, hy, rfl⟩ := e
    exact .some _ _ (cOpd_sound ht hy)

theorem sliceBoundA_sim {x : AV} {x' : Value} {y y' n : Nat} (hy : y ≤ y') (e : sliceBoundA x y = some n) (hx : V μ x x') (code : BoundsCode) : (Instr.sliceBound x' y' code).run P w = .ok n w ∧ n ≤ y := by
  cases x <;> simp only [sliceBoundA, reduceCtorEq] at e
  split at e
  · rename_i hi
    cases e
    cases hx
    refine ⟨?_, by omega⟩
    simp only [Instr.sliceBound, asIntOf, Sem.run_bind, Sem.run_pure, Result.andThen_ok]
    rw [if_pos (by omega)]; rfl
  · cases e

theorem bounds_sim {len cap cap' : Nat} {lo hi mx : Option AV} {lo' hi' mx' : Option Value} {l hh m : Nat} (hlc : len ≤ cap) (hcc : cap ≤ cap') (e : boundsA len cap lo hi mx = some (l, hh, m))
    (h1 : VO μ lo lo') (h2 : VO μ hi hi') (h3 : VO μ mx mx') (b : Bool) :
    (Instr.sliceBounds b len cap' lo' hi' mx').run P w = .ok (l, hh, if mx.isSome then m else cap') w ∧ l ≤ hh ∧ hh ≤ m ∧ m ≤ cap ∧ (mx.isSome = false → m = cap) := by
  unfold boundsA at e
  cases h3 with
  | none =>
    simp only at e
    cases h2 with
    | none =>
      simp only at e
      cases h1 with
      | none =>
        simp only [Option.some.injEq, Prod.mk.injEq] at e
        obtain ⟨rfl, rfl, rfl⟩ := e
        exact ⟨by simp [Instr.sliceBounds], by omega, hlc, by omega, fun _ => rfl⟩
      | some x x' hx =>
        simp only at e
        cases hb : sliceBoundA x len with
        | none => rw [hb] at e; cases e
        | some n =>
          rw [hb] at e
          simp only [Option.some.injEq, Prod.mk.injEq] at e
          obtain ⟨rfl, rfl, rfl⟩ := e
          obtain ⟨r1, r2⟩ := sliceBoundA_sim (P := P) (w := w) (Nat.le_refl _) hb hx .sliceB
          exact ⟨by simp [Instr.sliceBounds, r1], r2, hlc, by omega, fun _ => rfl⟩
    | some y y' hy =>
      simp only at e
      cases hb2 : sliceBoundA y cap with
      | none => rw [hb2] at e; cases e
      | some n2 =>
        rw [hb2] at e
        obtain ⟨q1, q2⟩ := sliceBoundA_sim (P := P) (w := w) hcc hb2 hy (if b then .sliceAcap else .sliceAlen)
        cases h1 with
        | none =>
          simp only [Option.some.injEq, Prod.mk.injEq] at e
          obtain ⟨rfl, rfl, rfl⟩ := e
          exact ⟨by simp [Instr.sliceBounds, q1], by omega, q2, by omega, fun _ => rfl⟩
        | some x x' hx =>
          simp only at e
          cases hb : sliceBoundA x n2 with
          | none => rw [hb] at e; cases e
          | some n =>
            rw [hb] at e
            simp only [Option.some.injEq, Prod.mk.injEq] at e
            obtain ⟨rfl, rfl, rfl⟩ := e
            obtain ⟨r1, r2⟩ := sliceBoundA_sim (P := P) (w := w) (Nat.le_refl _) hb hx .sliceB
            exact ⟨by simp [Instr.sliceBounds, q1, r1], r2, q2, by omega, fun _ => rfl⟩
  | some z z' hz =>
    simp only at e
    cases hb3 : sliceBoundA z cap with
    | none => rw [hb3] at e; cases e
    | some n3 =>
      rw [hb3] at e
      obtain ⟨p1, p2⟩ := sliceBoundA_sim (P := P) (w := w) hcc hb3 hz (if b then .slice3Acap else .slice3Alen)
      cases h2 with
      | none => simp at e
      | some y y' hy =>
        simp only at e
        cases hb2 : sliceBoundA y n3 with
        | none => rw [hb2] at e; cases e
        | some n2 =>
          rw [hb2] at e
          obtain ⟨q1, q2⟩ := sliceBoundA_sim (P := P) (w := w) (Nat.le_refl _) hb2 hy .slice3B
          cases h1 with
          | none =>
            simp only [Option.some.injEq, Prod.mk.injEq] at e
            obtain ⟨rfl, rfl, rfl⟩ := e
            exact ⟨by simp [Instr.sliceBounds, p1, q1], by omega, q2, p2, fun h => by cases h⟩
          | some x x' hx =>
            simp only at e
            cases hb : sliceBoundA x n2 with
            | none => rw [hb] at e; cases e
            | some n =>
              rw [hb] at e
              simp only [Option.some.injEq, Prod.mk.injEq] at e
              obtain ⟨rfl, rfl, rfl⟩ := e
              obtain ⟨r1, r2⟩ := sliceBoundA_sim (P := P) (w := w) (Nat.le_refl _) hb hx .slice3C
              exact ⟨by simp [Instr.sliceBounds, p1, q1, r1], r2, q2, p2, fun h => by cases h⟩

theorem slice_sim (s : St P μ h w) {t e : TypeId} {esz : Nat} (ht : P.underlying t = some (.slice e)) (hs : sz P e = some esz) {x : AV} {x' : Value} (hx : V μ x x') {lo hi mx : Option AV} {lo' hi' mx' : Option Value}
    (h1 : VO μ lo lo') (h2 : VO μ hi hi') (h3 : VO μ mx mx') {v : AV} (hr : sliceA esz x lo hi mx = some v) : VDone P μ h w ((Instr.sliceAt t x' lo' hi' mx').run P w) v h := by
  have hat : (Instr.sliceAt t x' lo' hi' mx').run P w = (Instr.slice t x' lo' hi' mx').run P w := by
    simp [Instr.sliceAt, und_run ht]
  rw [hat]
  cases x with
  | nilsl =>
    cases hx
    simp only [sliceA, Option.map_eq_some_iff] at hr
    obtain ⟨⟨l, hh, m⟩, hb, rfl⟩ := hr
    obtain ⟨r1, r2, r3, r4, r5⟩ := bounds_sim (P := P) (w := w) (Nat.le_refl _) (Nat.le_refl 0) hb h1 h2 h3 true
    refine VDone.pure s (v' := .slice none 0 0) ?_ .nilsl
    have hm : m = 0 := by omega
    have hl : l = 0 := by omega
    have hhh : hh = 0 := by omega
    subst hm; subst hl; subst hhh
    simp [Instr.slice, und_run ht, r1, sz_run hs]
  | slice id off len cap ex esz' =>
    simp only [sliceA] at hr
    split at hr
    · subst_vars
      split at hr
      · rename_i l hh m hb
        cases hr
        cases hx with | slice _ _ _ _ _ _ a cap' g1 g2 g3 g4 g5 g6 =>
        obtain ⟨r1, r2, r3, r4, r5⟩ := bounds_sim (P := P) (w := w) g1 g2 hb h1 h2 h3 true
        generalize hm' : (if mx.isSome then m else cap') = m' at r1
        have hmm : m ≤ m' := by
          cases hq : mx.isSome with
          | true => rw [hq, if_pos rfl] at hm'; omega
          | false => rw [hq] at hm'; simp at hm'; have := r5 hq; omega
        have hmc : m' ≤ cap' := by
          cases hq : mx.isSome with
          | true => rw [hq, if_pos rfl] at hm'; omega
          | false => rw [hq] at hm'; simp at hm'; omega
        refine VDone.pure s (v' := .slice (some (if m' = l then a else a.add (l * esz'))) (hh - l) (m' - l)) ?_ ?_
        · simp only [Instr.slice, Sem.run_bind, und_run ht, Result.andThen_ok, r1, sz_run hs, Sem.run_pure]
          congr 1
          split <;> rfl
        · refine .slice id _ _ _ _ esz' _ _ (by omega) (by omega) (fun hex => ?_) g4 (by omega) ?_
          · cases hq : mx.isSome with
            | true => rw [hq, if_pos rfl] at hm'; omega
            | false =>
              rw [hq] at hm' hex
              simp at hm' hex
              have := r5 hq
              have := g3 hex
              omega
          · by_cases hml : m' = l
            · exact .inl (by omega)
            · right
              rw [if_neg hml]
              rcases g6 with h0 | ⟨b, base, lim, e1, rfl, e3⟩
              · omega
              · refine ⟨b, base, lim, e1, by rw [add0]; congr 1; omega, ?_⟩
                have : (l + (m' - l)) * esz' ≤ cap' * esz' := Nat.mul_le_mul_right _ (by omega)
                rw [Nat.add_mul] at this
                omega
      · cases hr
    · cases hr
  | _ => simp [sliceA] at hr

theorem sliceArr_sim (s : St P μ h w) {t e : TypeId} {n esz : Nat} (ht : P.underlying t = some (.array n e) ∨ ∃ arr, P.underlying t = some (.pointer arr) ∧ P.underlying arr = some (.array n e)) (hs : sz P e = some esz) (hpos : 0 < esz) {x : AV} {x' : Value} (hx : V μ x x')
    {lo hi mx : Option AV} {lo' hi' mx' : Option Value} (h1 : VO μ lo lo') (h2 : VO μ hi hi') (h3 : VO μ mx mx') {v : AV} {h' : Heap}
    (hr : (match (generalizing := false) x with
    | .ptr id off =>
      match boundsA n n lo hi mx, h.get id with
      | some (l, hh, m), some (.cells c _) => if off + n * esz ≤ c.length then some (.slice id (off + l * esz) (hh - l) (m - l) true esz, h) else none
      | _, _ => none
    | _ => none : AR) = some (v, h')) (hn63 : n ≤ 9223372036854775807) : VDone P μ h w ((Instr.sliceAt t x' lo' hi' mx').run P w) v h' := by
  cases x with
  | ptr id off =>
    simp only at hr
    split at hr
    · rename_i l hh m c ro hb hg
      split at hr
      · rename_i hle
        cases hr
        cases hx with | ptr _ _ b base lim hm =>
        obtain ⟨r1, r2, r3, r4, r5⟩ := bounds_sim (P := P) (w := w) (Nat.le_refl _) (Nat.le_refl n) hb h1 h2 h3 false
        have hmm : (if mx.isSome then m else n) = m := by
          cases hq : mx.isSome with
          | true => rfl
          | false => simp [r5 hq]
        rw [hmm] at r1
        obtain ⟨arr, tt, fr, hbk, q1, q2, _⟩ := s.r.obj id b base lim _ hm hg
        refine VDone.pure s (v' := .slice (some (if m = l then ⟨b, base + off, none⟩ else (⟨b, base + off, none⟩ : Addr).add (l * esz))) (hh - l) (m - l)) ?_ ?_
        · rcases ht with ht | ⟨ar, ht, har⟩
          · simp only [Instr.sliceAt, Sem.run_bind, und_run ht, Result.andThen_ok, Instr.sureAddr, Sem.run_pure, r1, sz_run hs]
          · simp only [Instr.sliceAt, Sem.run_bind, und_run ht, Result.andThen_ok, Instr.slice, asAddr, Sem.run_pure, und_run har, r1, sz_run hs]
        · refine .slice id _ _ _ _ esz _ _ (by omega) (Nat.le_refl _) (fun _ => rfl) hpos (by omega) ?_
          by_cases hml : m = l
          · exact .inl (by omega)
          · right
            rw [if_neg hml]
            refine ⟨b, base, lim, hm, by rw [add0]; congr 1; omega, ?_⟩
            have : (l + (m - l)) * esz ≤ n * esz := Nat.mul_le_mul_right _ (by omega)
            rw [Nat.add_mul] at this
            omega
      · cases hr
    · cases hr
  | _ => simp at hr

theorem bytes_extract (st : ByteArray) (l r : Nat) : bytesOf (st.extract l r) = ((bytesOf st).drop l).take (r - l) := by
  simp only [bytesOf, ByteArray.data_extract, Array.toList_extract, List.extract_eq_take_drop, List.map_take, List.map_drop]

theorem sliceStr_sim (s : St P μ h w) {t : TypeId} (ht : P.underlying t = some .string) {x : AV} {x' : Value} (hx : V μ x x') {lo hi : Option AV} {lo' hi' : Option Value} (h1 : VO μ lo lo') (h2 : VO μ hi hi') {v : AV} {h' : Heap}
    (hr : (match (generalizing := false) x with
    | .str s =>
      match boundsA s.length s.length lo hi none with
      | some (l, hh, _) => some (.str ((s.drop l).take (hh - l)), h)
      | none => none
    | _ => none : AR) = some (v, h')) : VDone P μ h w ((Instr.sliceAt t x' lo' hi' none).run P w) v h' := by
  cases x with
  | str sl =>
    simp only at hr
    split at hr
    · rename_i l hh m hb
      cases hr
      cases hx with | str _ st hst hsz =>
      subst hst
      rw [bytesOf_len] at hb
      obtain ⟨r1, r2, r3, r4, r5⟩ := bounds_sim (P := P) (w := w) (Nat.le_refl _) (Nat.le_refl _) hb h1 h2 .none false
      refine VDone.pure s (v' := .string (st.extract l hh)) ?_ (.str _ _ (bytes_extract st l hh) ?_)
      · simp [Instr.sliceAt, und_run ht, Instr.slice, r1]
      · simp [ByteArray.size_extract]; omega
    · cases hr
  | _ => simp at hr

/-! ### addresses -/
theorem fieldAddr_sim (s : St P μ h w) {t : TypeId} {f : Nat} {fs : Array Field} {fl : Field} {n : Nat} (ht : P.underlying t = some (.struct fs)) (hfl : fs[f]? = some fl) (hn : sz P fl.type = some n) (h0 : ¬ n = 0)
    {x : AV} {x' : Value} (hx : V μ x x') {v : AV} {h' : Heap}
    (hr : (match (generalizing := false) x with
    | .ptr id o => some (.ptr id (o + fl.offset), h)
    | _ => none : AR) = some (v, h')) : VDone P μ h w ((Instr.fieldAt t x' f).run P w) v h' := by
  cases x with
  | ptr id o =>
    cases hr
    cases hx with | ptr _ _ b base lim hm =>
    refine VDone.pure s (v' := .pointer (some ⟨b, base + (o + fl.offset), none⟩)) ?_ (.ptr _ _ _ _ _ hm)
    simp only [Instr.fieldAt, Sem.run_bind, und_run ht, Result.andThen_ok, hfl, Instr.sureAddr, Sem.run_pure, fieldPlace, sz_run hn, h0, if_false, add0, Nat.add_assoc]
  | _ => simp at hr

theorem idxSl_sim (s : St P μ h w) {t e : TypeId} {esz : Nat} (ht : P.underlying t = some (.slice e)) (hs : sz P e = some esz) {x i : AV} {x' i' : Value} (hx : V μ x x') (hi : V μ i i') {v : AV} {h' : Heap}
    (hr : (match (generalizing := false) x, i with
    | .slice id off len _ _ esz', .int _ i => if esz = esz' ∧ 0 ≤ i ∧ i < len then some (.ptr id (off + i.toNat * esz), h) else none
    | _, _ => none : AR) = some (v, h')) : VDone P μ h w ((Instr.indexAt t x' i').run P w) v h' := by
  cases x with
  | slice id off len cap ex esz' =>
    cases i with
    | int k n =>
      simp only at hr
      split at hr
      · rename_i hc
        obtain ⟨rfl, c1, c2⟩ := hc
        cases hr
        cases hi
        cases hx with | slice _ _ _ _ _ _ a cap' g1 g2 g3 g4 g5 g6 =>
        rcases g6 with h0 | ⟨b, base, lim, e1, rfl, e3⟩
        · omega
        · refine VDone.pure s (v' := .pointer (some ⟨b, base + (off + n.toNat * esz), none⟩)) ?_ (.ptr _ _ _ _ _ e1)
          simp only [Instr.indexAt, asIntOf, Sem.run_bind, und_run ht, Result.andThen_ok, Sem.run_pure, sz_run hs, add0, Nat.add_assoc]
          rw [if_pos ⟨c1, c2⟩]
          simp [sz_run hs]
      · cases hr
    | _ => simp at hr
  | _ => simp at hr

theorem idxAddrArr_sim (s : St P μ h w) {t e : TypeId} {len esz : Nat} (ht : P.underlying t = some (.array len e)) (hs : sz P e = some esz) {x i : AV} {x' i' : Value} (hx : V μ x x') (hi : V μ i i') {v : AV} {h' : Heap}
    (hr : (match (generalizing := false) x, i with
    | .ptr id off, .int _ i => if 0 ≤ i ∧ i < len then some (.ptr id (off + i.toNat * esz), h) else none
    | _, _ => none : AR) = some (v, h')) : VDone P μ h w ((Instr.indexAt t x' i').run P w) v h' := by
  cases x with
  | ptr id off =>
    cases i with
    | int k n =>
      simp only at hr
      split at hr
      · rename_i hc
        cases hr
        cases hi
        cases hx with | ptr _ _ b base lim hm =>
        refine VDone.pure s (v' := .pointer (some ⟨b, base + (off + n.toNat * esz), none⟩)) ?_ (.ptr _ _ _ _ _ hm)
        simp only [Instr.indexAt, asIntOf, Sem.run_bind, und_run ht, Result.andThen_ok, Sem.run_pure, Instr.sureAddr, sz_run hs, add0, Nat.add_assoc]
        rw [if_pos hc]
        simp [sz_run hs]
      · cases hr
    | _ => simp at hr
  | _ => simp at hr

theorem idxArr_sim (s : St P μ h w) {t e : TypeId} {b : Bool} {len esz : Nat} (ht : P.underlying t = some (.array len e)) (hb : aggr? P e = some b) (hs : sz P e = some esz) {x i : AV} {x' i' : Value} (hx : V μ x x') (hi : V μ i i') {v : AV} {h' : Heap}
    (hr : (match (generalizing := false) x, i with
    | .agg cs, .int _ i =>
      if 0 ≤ i ∧ i < len then
        (if b then some (.agg ((cs.drop (i.toNat * esz)).take esz), h) else (cs[i.toNat * esz]?).map fun v => (v, h))
      else none
    | _, _ => none : AR) = some (v, h')) : VDone P μ h w ((Instr.index t x' i').run P w) v h' := by
  cases x with
  | agg cs =>
    cases i with
    | int k n =>
      simp only at hr
      split at hr
      · rename_i hc
        cases hi
        cases hx with | agg _ cs' hv hf =>
        have e1 : (if b then some (.agg ((cs.drop (n.toNat * esz)).take esz)) else cs[n.toNat * esz]?) = some v ∧ h' = h := by
          cases b with
          | true => simp at hr ⊢; exact ⟨hr.1, hr.2.symm⟩
          | false =>
            simp only [Bool.false_eq_true, if_false, Option.map_eq_some_iff] at hr ⊢
            obtain ⟨a, ha, hr⟩ := hr; cases hr; exact ⟨ha, rfl⟩
        obtain ⟨e1, rfl⟩ := e1
        obtain ⟨v', hrun, hv'⟩ := part_sim (w := w) hb hs hv hf e1
        refine VDone.pure s (v' := v') ?_ hv'
        simp only [Instr.index, asIntOf, Sem.run_bind, und_run ht, Result.andThen_ok, Sem.run_pure]
        rw [if_pos hc]
        simp only [Sem.run_bind, sz_run hs, Result.andThen_ok]
        exact hrun
      · cases hr
    | _ => simp at hr
  | _ => simp at hr

theorem idxStr_sim (s : St P μ h w) {t : TypeId} (ht : P.underlying t = some .string) {x i : AV} {x' i' : Value} (hx : V μ x x') (hi : V μ i i') {v : AV} {h' : Heap}
    (hr : (match (generalizing := false) x, i with
    | .str s, .int _ i => if 0 ≤ i then (s[i.toNat]?).map fun b => (.int .u8 b, h) else none
    | _, _ => none : AR) = some (v, h')) : VDone P μ h w ((Instr.index t x' i').run P w) v h' := by
  cases x with
  | str sl =>
    cases i with
    | int k n =>
      simp only at hr
      split at hr
      · rename_i hc
        simp only [Option.map_eq_some_iff] at hr
        obtain ⟨b, hb, hr⟩ := hr
        cases hr
        cases hi
        cases hx with | str _ st hst hsz =>
        subst hst
        have hw := bytesOf_wf st b (List.mem_of_getElem? hb)
        have hlt : n.toNat < st.size := by
          rcases Nat.lt_or_ge n.toNat st.size with h' | h'
          · exact h'
          · rw [List.getElem?_eq_none (by rw [bytesOf_len]; exact h')] at hb; cases hb
        have hbv : ((st[n.toNat]'hlt).toNat : Int) = b := by
          simp only [bytesOf, List.getElem?_map, Option.map_eq_some_iff] at hb
          obtain ⟨u, hu, rfl⟩ := hb
          have : st[n.toNat]'hlt = u := by
            rw [Array.getElem?_toList] at hu
            obtain ⟨_, hu'⟩ := Array.getElem?_eq_some_iff.1 hu
            exact hu'
          rw [this]
        refine VDone.pure s (v' := .int .u8 b) ?_ (.int _ _ hw)
        simp only [Instr.index, asIntOf, Sem.run_bind, und_run ht, Result.andThen_ok, Sem.run_pure]
        rw [if_pos hc]
        have : st[n.toNat]? = some (st[n.toNat]'hlt) := by simp [hlt]
        rw [this]
        simp only [Sem.run_pure]
        rw [hbv]
      · cases hr
    | _ => simp at hr
  | _ => simp at hr

end
end Go.Ya
