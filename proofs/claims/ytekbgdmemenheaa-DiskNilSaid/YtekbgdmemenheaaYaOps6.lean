/-
  Operations, the sixth part: copy, clear; lengths; the least and the greatest; maps; texts that are gone through.
-/
import Derived.Test.YtekbgdmemenheaaYaOps5
namespace Go.Ya
set_option linter.unusedVariables false
set_option linter.unusedSimpArgs false
section
variable {P : Program} {μ : Mu} {h : Heap} {w : World}

/-- Nothing is stored. -/
theorem storeA_nil {id off : Nat} {h' : Heap} (e : storeA h id off [] = some h') : h'.get = h.get ∧ h'.next = h.next := by
  unfold storeA at e
  split at e
  · rename_i c hg
    split at e
    · cases e
      refine ⟨funext fun j => ?_, rfl⟩
      rw [Heap.get_set _ _ _ _ (Heap.lt_of_get hg)]
      split
      · subst_vars; rw [hg]; simp [splice]
      · rfl
    · cases e
  · cases e

theorem copy_sim (s : St P μ h w) {dt st ty e : TypeId} {esz : Nat} (hu : P.underlying dt = some (.slice e)) (hs : sz P e = some esz) {x y : AV} {x' y' : Value} (hx : V μ x x') (hy : V μ y y') {v : AV} {h' : Heap} (hr : copyA h esz x y = some (v, h')) (ts : Array TypeId) (ht : ts[0]? = some dt) :
    VDone P μ h w ((Builtin.copy_ ts ty #[x', y']).run P w) v h' := by
  unfold copyA at hr
  split at hr
  · rename_i dl sl hdl hsl
    simp only at hr
    split at hr
    · cases hr
    · rename_i new hnew
      obtain ⟨ls1, ls2⟩ := lenA_sim (P := P) (w := w) hsl hy
      obtain ⟨ld1, ld2⟩ := lenA_sim (P := P) (w := w) hdl hx
      obtain ⟨vs, hf1, hv, hfl⟩ := first_sim s hnew hy (fun m hm => by rw [hsl] at hm; cases hm; exact Nat.min_le_left _ _)
      have hmin : Nat.min sl dl ≤ 9223372036854775807 := Nat.le_trans (Nat.min_le_left _ _) ls2
      cases x with
      | nilsl =>
        cases hx
        cases hr
        simp [lenA] at hdl
        subst hdl
        have h0 : Nat.min sl 0 = 0 := Nat.min_zero _
        refine VDone.pure s (v' := .int .i64 0) ?_ (.int _ _ (by decide))
        rw [h0] at hf1
        simp only [Builtin.copy_, ht, List.getElem?_toArray, List.getElem?_cons_zero, List.getElem?_cons_succ, Sem.run_bind, und_run hu, Result.andThen_ok, ls1, sz_run hs, Nat.min_zero, hf1, Sem.run_pure, h0]
        rfl
      | slice id off len cap ex esz' =>
        simp only at hr
        split at hr
        · rename_i hes
          subst hes
          split at hr
          · rename_i h2 hst
            cases hr
            cases hx with | slice _ _ _ _ _ _ a cap' g1 g2 g3 g4 g5 g6 =>
            simp [lenA] at hdl
            subst hdl
            have main : ∀ w', (storeCells a vs).run P w = .ok () w' → (Builtin.copy_ ts ty #[.slice (some a) len cap', y']).run P w = .ok (.int .i64 (Nat.min sl len : Nat)) w' := by
              intro w' hw
              simp only [Builtin.copy_, ht, List.getElem?_toArray, List.getElem?_cons_zero, List.getElem?_cons_succ, Sem.run_bind, und_run hu, Result.andThen_ok, ls1, sz_run hs, hf1, hw, Sem.run_pure]
              rfl
            rcases g6 with h0 | ⟨b, base, lim, m1, rfl, m3⟩
            · have hl0 : len = 0 := by omega
              subst hl0
              have hnl : new = [] := by
                have : Nat.min sl 0 = 0 := Nat.min_zero _
                rw [this] at hnew
                unfold firstA at hnew
                split at hnew
                · cases hnew; rfl
                · split at hnew
                  · split at hnew
                    · split at hnew
                      · cases hnew; simp
                      · cases hnew
                    · cases hnew
                  · cases hnew
                · split at hnew
                  · cases hnew; simp
                  · cases hnew
                · cases hnew
              subst hnl
              cases hv
              obtain ⟨q1, q2⟩ := storeA_nil hst
              obtain ⟨k1, k2⟩ := s.same q1 q2
              exact ⟨μ, .int .i64 (Nat.min sl 0 : Nat), w, main w (by simp [storeCells]), .int _ _ (wf_nat hmin), k1, k2⟩
            · obtain ⟨w', hrun, st', fr', _⟩ := storeA_sim s m1 hst hv hfl
              exact ⟨μ, .int .i64 (Nat.min sl len : Nat), w', main w' hrun, .int _ _ (wf_nat hmin), st', fr'⟩
          · cases hr
        · cases hr
      | _ => simp at hr
  · cases hr

theorem zeroCells_list (zs : Array Value) (n : Nat) (hpos : 0 < zs.size) : (Builtin.zeroCells zs n).toList = (List.replicate n zs.toList).flatten := by
  have := rep_range zs n (n * zs.size) rfl hpos
  simpa [Builtin.zeroCells] using this

theorem clear_sim (s : St P μ h w) {t ty e : TypeId} {esz : Nat} {z : AV} (hu : P.underlying t = some (.slice e)) (hz : zeroA P e = some z) (hzl : z.cells.length = esz) (hzf : z.cells.all AV.flat = true) {x : AV} {x' : Value} (hx : V μ x x') {v : AV} {h' : Heap} (hr : clearA h z.cells esz x = some (v, h')) :
    VDone P μ h w ((Builtin.clear_ #[t] ty #[x']).run P w) v h' := by
  unfold clearA at hr
  split at hr
  · cases hx; cases hr
    exact VDone.pure s (v' := undef) (by simp [Builtin.clear_, und_run hu]; rfl) (.tuple [] #[] .nil)
  · rename_i id off len cap ex esz'
    split at hr
    · rename_i hes
      subst hes
      cases hx with | slice _ _ _ _ _ _ a cap' g1 g2 g3 g4 g5 g6 =>
      split at hr
      · rename_i h0
        subst h0
        cases hr
        exact VDone.pure s (v' := undef) (by simp [Builtin.clear_, und_run hu]; rfl) (.tuple [] #[] .nil)
      · rename_i h0
        split at hr
        · rename_i h2 hst
          cases hr
          obtain ⟨i, zv, hi, hzv, hV⟩ := zeroA_spec hz μ
          have hzs : zv.cells.size = z.cells.length := by have := hV.cells.len; simp at this; omega
          rcases g6 with hc0 | ⟨b, base, lim, m1, rfl, m3⟩
          · omega
          · obtain ⟨w', hrun, st', fr', _⟩ := storeA_sim s m1 hst (hV.cells.flatRep len) (flat_rep hzf len)
            refine ⟨μ, undef, w', ?_, .tuple [] #[] .nil, st', fr'⟩
            have hlen : ∃ k, len = k + 1 := ⟨len - 1, by omega⟩
            obtain ⟨k, rfl⟩ := hlen
            simp only [Builtin.clear_, List.getElem?_toArray, List.getElem?_cons_zero, Sem.run_bind, und_run hu, Result.andThen_ok, zero_run hi hzv]
            rw [zeroCells_list _ _ (by omega), hrun]
            rfl
        · cases hr
    · cases hr
  · cases hr

theorem len_sim (s : St P μ h w) {t ty : TypeId} {ek : EqK} (hk : (ek = .str ∧ P.underlying t = some .string) ∨ (ek = .sl ∧ ∃ e, P.underlying t = some (.slice e)) ∨ (ek = .map ∧ ∃ k e, P.underlying t = some (.map k e))) {x : AV} {x' : Value} (hx : V μ x x') {v : AV} {h' : Heap}
    (hr : (match (generalizing := false) ek, x with
    | .map, .nilmap => some (.int .i64 0, h)
    | .map, .map id =>
      match h.get id with
      | some (.map es) => some (.int .i64 es.length, h)
      | _ => none
    | .sl, .nilsl => some (.int .i64 0, h)
    | .sl, .slice _ _ len _ _ _ => some (.int .i64 len, h)
    | .str, .str s => some (.int .i64 s.length, h)
    | _, _ => none : AR) = some (v, h')) (ts : Array TypeId) (ht : ts[0]? = some t) (xs : List Value) (hm63 : ∀ id es, x = .map id → h.get id = some (.map es) → es.length ≤ 9223372036854775807) : VDone P μ h w ((Builtin.len_ ts ty (x' :: xs).toArray).run P w) v h' := by
  have hx0 : ((x' :: xs).toArray)[0]? = some x' := by simp
  rcases hk with ⟨rfl, hu⟩ | ⟨rfl, e, hu⟩ | ⟨rfl, k, e, hu⟩
  · cases x with
    | str l =>
      cases hr
      cases hx with | str _ st hst hsz =>
      subst hst
      rw [bytesOf_len]
      exact VDone.pure s (v' := .int .i64 st.size) (by simp [Builtin.len_, ht, und_run hu, goInt]) (.int _ _ (wf_nat hsz))
    | _ => simp at hr
  · cases x with
    | nilsl =>
      cases hr; cases hx
      exact VDone.pure s (v' := .int .i64 0) (by simp [Builtin.len_, ht, und_run hu, goInt]) (.int _ _ (by decide))
    | slice id off len cap ex esz =>
      cases hr
      cases hx
      exact VDone.pure s (v' := .int .i64 len) (by simp [Builtin.len_, ht, und_run hu, goInt]) (.int _ _ (wf_nat (by omega)))
    | _ => simp at hr
  · cases x with
    | nilmap =>
      cases hr; cases hx
      exact VDone.pure s (v' := .int .i64 0) (by simp [Builtin.len_, ht, und_run hu, goInt]) (.int _ _ (by decide))
    | map id =>
      simp only at hr
      split at hr
      · rename_i es hg
        cases hr
        cases hx with | map _ b base lim hm =>
        obtain ⟨es', clock, hb, hp⟩ := s.r.obj id b base lim _ hm hg
        have hl : ∀ (a : List (AV × AV)) (c : List MapEntry), PairsR μ a c → a.length = c.length := by
          intro a
          induction a with
          | nil => intro c hc; cases c <;> simp [PairsR] at hc ⊢
          | cons p a ih =>
            intro c hc
            obtain ⟨k, v⟩ := p
            cases c with
            | nil => simp [PairsR] at hc
            | cons e c => simp only [List.length_cons]; rw [ih c hc.2.2]
        have := hl _ _ hp
        have hgo : (getObj b : Sem Obj).run P w = .ok (.map es' clock) w := by simp [getObj, Sem.run, hb]
        refine VDone.pure s (v' := .int .i64 es.length) ?_ (.int _ _ (wf_nat (hm63 id es rfl hg)))
        simp [Builtin.len_, ht, und_run hu, goInt, hgo, this]
      · cases hr
    | _ => simp at hr

theorem cap_sim (s : St P μ h w) {t ty e : TypeId} (hu : P.underlying t = some (.slice e)) {x : AV} {x' : Value} (hx : V μ x x') {v : AV} {h' : Heap}
    (hr : (match (generalizing := false) x with
    | .nilsl => some (.int .i64 0, h)
    | .slice _ _ _ cap true _ => some (.int .i64 cap, h)
    | _ => none : AR) = some (v, h')) (ts : Array TypeId) (ht : ts[0]? = some t) (xs : List Value) : VDone P μ h w ((Builtin.cap_ ts ty (x' :: xs).toArray).run P w) v h' := by
  cases x with
  | nilsl =>
    cases hr; cases hx
    exact VDone.pure s (v' := .int .i64 0) (by simp [Builtin.cap_, ht, und_run hu, goInt]) (.int _ _ (by decide))
  | slice id off len cap ex esz =>
    cases ex with
    | true =>
      cases hr
      cases hx with | slice _ _ _ _ _ _ a cap' g1 g2 g3 g4 g5 g6 =>
      have := g3 rfl
      subst this
      exact VDone.pure s (v' := .int .i64 cap') (by simp [Builtin.cap_, ht, und_run hu, goInt]) (.int _ _ (wf_nat g5))
    | false => simp at hr
  | _ => simp at hr

theorem min_sim (s : St P μ h w) : ∀ (ys : List AV) (ys' : List Value) (x : AV) (x' : Value) (v : AV), minA x ys = some v → V μ x x' → Vs μ ys ys' → VDone P μ h w ((ys'.foldlM Builtin.min2 x').run P w) v h
  | [], _, x, x', v, e, hx, .nil => by simp [minA] at e; subst e; exact VDone.pure s (by simp) hx
  | y :: ys, _, x, x', v, e, hx, .cons _ y' _ ys' hy hys => by
    cases x with
    | int k a =>
      cases y with
      | int k' b =>
        simp only [minA] at e
        split at e
        · rename_i hk
          subst hk
          cases hx with | int _ _ wa => cases hy with | int _ _ wb =>
          have := min_sim s ys ys' _ (.int k (if b < a then b else a)) v e (.int _ _ (min_wf _ wb wa)) hys
          simpa [List.foldlM_cons, Builtin.min2] using this
        · cases e
      | _ => simp [minA] at e
    | _ => simp [minA] at e
theorem max_sim (s : St P μ h w) : ∀ (ys : List AV) (ys' : List Value) (x : AV) (x' : Value) (v : AV), maxA x ys = some v → V μ x x' → Vs μ ys ys' → VDone P μ h w ((ys'.foldlM Builtin.max2 x').run P w) v h
  | [], _, x, x', v, e, hx, .nil => by simp [maxA] at e; subst e; exact VDone.pure s (by simp) hx
  | y :: ys, _, x, x', v, e, hx, .cons _ y' _ ys' hy hys => by
    cases x with
    | int k a =>
      cases y with
      | int k' b =>
        simp only [maxA] at e
        split at e
        · rename_i hk
          subst hk
          cases hx with | int _ _ wa => cases hy with | int _ _ wb =>
          have := max_sim s ys ys' _ (.int k (if b > a then b else a)) v e (.int _ _ (min_wf _ wb wa)) hys
          simpa [List.foldlM_cons, Builtin.max2] using this
        · cases e
      | _ => simp [maxA] at e
    | _ => simp [maxA] at e

end
end Go.Ya
