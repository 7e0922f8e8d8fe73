/-
  Operations, the fifth part: append, copy, clear; lengths; maps; texts that are gone through.
-/
import Derived.Laws.Append
import Derived.Test.YtekbgdmemenheaaYaOps4
namespace Go.Ya
set_option linter.unusedVariables false
set_option linter.unusedSimpArgs false
section
variable {P : Program} {μ : Mu} {h : Heap} {w : World}

theorem lenA_sim {x : AV} {x' : Value} {n : Nat} (e : lenA x = some n) (hx : V μ x x') : (Builtin.lenOf x').run P w = .ok n w ∧ n ≤ 9223372036854775807 := by
  cases x <;> simp only [lenA, Option.some.injEq, reduceCtorEq] at e
  · cases hx with | str _ st hst hsz => subst hst; subst e; exact ⟨by simp [Builtin.lenOf, bytesOf_len], by rw [bytesOf_len]; exact hsz⟩
  · cases hx; subst e; exact ⟨by simp [Builtin.lenOf], by omega⟩
  · cases hx with | slice _ _ _ _ _ _ a cap' g1 g2 g3 g4 g5 g6 => subst e; exact ⟨by simp [Builtin.lenOf], by omega⟩

theorem firstA_len {x : AV} {esz n : Nat} {cs : List AV} (e : firstA h esz n x = some cs) (hn : lenA x = some n) : cs.length = n * esz := by
  unfold firstA at e
  split at e
  · cases e; simp [lenA] at hn; simp [← hn]
  · split at e
    · split at e
      · split at e
        · cases e; simp; omega
        · cases e
      · cases e
    · cases e
  · split at e
    · subst_vars
      cases e
      simp [lenA] at hn
      simp; omega
    · cases e
  · cases e

/-- The model's append where there is room. -/
theorem run_append_fits' {st xt ty e : TypeId} {size n sLen sCap : Nat} {base : Option Addr} {y' : Value} {new : List Value} {xd : TypeDesc} (hu : P.underlying st = some (.slice e)) (hxu : P.underlying xt = some xd) (hxi : ∀ k, xd ≠ .int k) (hs : sz P e = some size)
    (hl : (Builtin.lenOf y').run P w = .ok n w) (hf : (Builtin.firstCells size n y').run P w = .ok new.toArray w) (hfit : sLen + n ≤ sCap) {w' : World}
    (hst : match base with | some a => (storeCells (a.add (sLen * size)) new).run P w = .ok () w' | none => w' = w) :
    (Builtin.append_ #[st, xt] ty #[.slice base sLen sCap, y']).run P w = .ok (.slice base (sLen + n) sCap) w' := by
  have hz : (match xd with | .int _ => true | _ => false) = false := by cases xd <;> first | rfl | (exact absurd rfl (hxi _))
  simp only [Builtin.append_]
  simp only [List.getElem?_toArray, List.getElem?_cons_zero, List.getElem?_cons_succ, Sem.run_bind, und_run hu, Result.andThen_ok, sz_run hs, und_run hxu, Sem.run_pure]
  cases xd <;> first
    | (exact absurd rfl (hxi _))
    | (simp only [Bool.false_eq_true, if_false, Sem.run_bind, hl, Result.andThen_ok, hfit, if_true, Bool.not_false, hf]
       cases base with
       | none => subst hst; simp
       | some a => simp only [Sem.run_bind] ; rw [hst]; simp)

/-- The model's append where a new row is made. -/
theorem run_append_new {st xt ty e : TypeId} {i : TypeInfo} {zv : Value} {n sLen sCap : Nat} {base : Option Addr} {y' : Value} {old new : List Value} {xd : TypeDesc} (hu : P.underlying st = some (.slice e)) (hxu : P.underlying xt = some xd) (hxi : ∀ k, xd ≠ .int k)
    (hi : P.info? e = some i) (hz : i.zero = some zv) (hl : (Builtin.lenOf y').run P w = .ok n w) (hf : ∀ W : World, W = w.drew → (Builtin.firstCells i.size n y').run P W = .ok new.toArray W)
    (hold : ∀ W : World, W = w.drew → (Builtin.firstCells i.size sLen (.slice base sLen sCap)).run P W = .ok old.toArray W) (hgrow : ¬ sLen + n ≤ sCap) (hb1 : (sLen + n) * i.bytes ≤ 140737488355328) (hb2 : sLen + n ≤ 140737488355328) :
    ∃ cap, sLen + n ≤ cap ∧ cap ≤ 9223372036854775807 ∧ (Builtin.append_ #[st, xt] ty #[.slice base sLen sCap, y']).run P w =
      .ok (.slice (some ⟨w.heap.size, 0, none⟩) (sLen + n) cap) (w.drew.alloc (.cells (old.toArray ++ new.toArray ++ Builtin.zeroCells zv.cells (cap - (sLen + n))) e)) := by
  generalize hcap : (Question.appendCap (sLen + n) sCap e).cut (w.tape w.drawn (.appendCap (sLen + n) sCap e)) = cap
  refine ⟨cap, by subst hcap; simp [Question.cut], ?_, ?_⟩
  · subst hcap; simp only [Question.cut]
    have : w.tape w.drawn (.appendCap (sLen + n) sCap e) % (2 ^ 63 - (sLen + n)) < 2 ^ 63 - (sLen + n) := Nat.mod_lt _ (by omega)
    omega
  · have hnx : ¬ (Builtin.nextslicecap (sLen + n) sCap * i.bytes > 2 ^ 48) := by
      have := growslice_fits (bytes := i.bytes) (need := sLen + n) (old := sCap) (by omega) hb1
      omega
    have h63 : ¬ ((((sLen + n : Nat) : Int) > IntKind.i64.max) ∧ (False ∨ i.bytes = 0)) := by
      simp [IntKind.max, IntKind.signed, IntKind.bits]; omega
    have hd : (w.drew).heap.size = w.heap.size := rfl
    simp only [Builtin.append_]
    simp only [List.getElem?_toArray, List.getElem?_cons_zero, List.getElem?_cons_succ, Sem.run_bind, und_run hu, Result.andThen_ok, sz_run (P := P) (w := w) (t := e) (n := i.size) (by simp [sz, hi]), und_run hxu, Sem.run_pure]
    have hti : ∀ W : World, (typeInfo e).run P W = .ok i W := fun W => by simp [typeInfo, hi]
    cases xd <;> first
      | (exact absurd rfl (hxi _))
      | (simp only [Bool.false_eq_true, if_false, Sem.run_bind, hl, Result.andThen_ok, hgrow, Bool.not_false, if_true, hti, h63, hnx, run_choose, Question.forced, hcap, World.drew_eq, run_askRoom, hold _ rfl, hf _ rfl, zero_run hi hz, run_newRow, hd, Sem.run_pure])

theorem R.kill (r : R P μ h.get w) {id : Nat} (hid : id < h.next) : R P μ (h.set id .dead).get w ∧ Fr μ h w μ (h.set id .dead) w := by
  refine ⟨⟨fun j b base lim o e1 e2 => ?_, fun i j b base lim b' base' lim' o o' hne e1 e2 g1 g2 h1 h2 => ?_⟩, ⟨.refl μ, Nat.le_refl _, rfl, rfl, rfl, fun _ _ _ => rfl, ?_, by simp, fun _ _ h => h⟩⟩
  · rw [Heap.get_set _ _ _ _ hid] at e2
    split at e2
    · cases e2; trivial
    · exact r.obj j b base lim o e1 e2
  · rw [Heap.get_set _ _ _ _ hid] at g1 g2
    split at g1
    · cases g1; simp [AObj.owned] at h1
    · split at g2
      · cases g2; simp [AObj.live] at h2
      · exact r.inj i j b base lim b' base' lim' o o' hne e1 e2 g1 g2 h1 h2
  · rintro b ⟨j, base, lim, o, e1, e2, e3⟩
    rw [Heap.get_set _ _ _ _ hid] at e2
    split at e2
    · cases e2; simp [AObj.owned] at e3
    · exact .inl ⟨j, base, lim, o, e1, e2, e3⟩

theorem St.kill (s : St P μ h w) {id : Nat} (hid : id < h.next) : St P μ (h.set id .dead) w ∧ Fr μ h w μ (h.set id .dead) w :=
  ⟨⟨(s.r.kill hid).1, s.bd, fun id e b base lim c ro m g => by
    rw [Heap.get_set _ _ _ _ hid] at g
    split at g
    · cases g
    · exact s.mkd id (Heap.byteAt_set hid rfl e) b base lim c ro m g⟩, (s.r.kill hid).2⟩

/-- A row that grows in place: the old block is dead, the new one lies where it lay. -/
theorem regrow (s : St P μ h w) {id b base lim off : Nat} {c c2 : List AV} {vs : List AV} {vs' : List Value} {k : Nat} (hm : μ id = some (b, base, lim)) (hg : h.get id = some (.cells c false)) (hk : off + k ≤ c.length) (hlim : base + off + (k + vs.length) ≤ lim)
    (hv : Vs μ vs vs') (hf : vs.all AV.flat = true) (hc2 : c2 = (c.drop off).take k ++ vs) :
    ∃ w', (storeCells ⟨b, base + off + k, none⟩ vs').run P w = .ok () w' ∧ St P (muAdd μ h.next (b, base + off, lim)) ((h.alloc (.cells c2 false)).set id .dead) w' ∧
      Fr μ h w (muAdd μ h.next (b, base + off, lim)) ((h.alloc (.cells c2 false)).set id .dead) w' ∧
      (h.byteAt id = true → c.length ≤ off + k + vs.length → ∃ arr t fr, w'.heap[b]? = some (.cells arr t fr) ∧ ∀ j, base + off + c2.length ≤ j → j < lim → ∃ n, arr[j]? = some (.int .u8 n) ∧ wfInt .u8 n = true) := by
  obtain ⟨arr, t, fr, hb, h1, h2, h3, h4⟩ := s.r.obj id b base lim _ hm hg
  have hlen := hv.len
  have hnm : μ h.next = none := s.bd _ (Nat.le_refl _)
  have hid : id < h.next := Heap.lt_of_get hg
  obtain ⟨w', arr', hrun, hw⟩ := run_storeCells (P := P) (o := base + off + k) (vs := vs') hb (by omega) (h4 rfl) (ones_of hv hf)
  have hget : ∀ j, ((h.alloc (.cells c2 false)).set id .dead).get j = if j = id then some .dead else if j = h.next then some (.cells c2 false) else h.get j := fun j => by
    rw [Heap.get_set _ _ _ _ (by simp; omega), Heap.get_alloc]
  have hl2 : c2.length = k + vs.length := by subst hc2; simp; omega
  have live_of : ∀ x : AObj, x.owned = true → x.live = true := fun x hx => by cases x <;> first | rfl | simp [AObj.owned] at hx
  have hmk : Mk (muAdd μ h.next (b, base + off, lim)) ((h.alloc (.cells c2 false)).set id .dead) w' := by
    intro j e b1 base1 lim1 c' ro' m g
    have e1 := Heap.byteAt_alloc rfl (Heap.byteAt_set (by simp; omega) rfl e)
    have := Heap.byteAt_lt e1
    rw [hget] at g
    split at g
    · cases g
    · rename_i hji
      rw [if_neg (by omega)] at g
      rw [muAdd_ne _ _ _ _ (by omega)] at m
      obtain ⟨arr1, t1, fr1, q1, q2⟩ := s.mkd j e1 b1 base1 lim1 c' ro' m g
      exact ⟨arr1, t1, fr1, (hw.other b1 fun e => s.r.inj id j b base lim b1 base1 lim1 _ _ (Ne.symm hji) hm m hg g rfl rfl e.symm).trans q1, q2⟩
  refine ⟨w', hrun, ⟨⟨fun j b1 base1 lim1 o e1 e2 => ?_, fun i j b1 base1 lim1 b2 base2 lim2 o1 o2 hne e1 e2 g1 g2 ho1 ho2 => ?_⟩, fun j hj => ?_, hmk⟩, ⟨.add hnm, by rw [hw.size]; exact Nat.le_refl _, hw.os, hw.tape, hw.output, fun j hj hn => hw.other j fun e => ?_, ?_, by simp, fun j hj hn => by rw [muAdd_ne _ _ _ _ (by omega)]; exact hn⟩, fun hby hcl => ?_⟩
  · rw [hget] at e2
    split at e2
    · cases e2; trivial
    · split at e2
      · rename_i hji hjn
        subst hjn
        rw [muAdd_same] at e1; cases e1
        cases e2
        refine ⟨arr', t, fr, hw.here, by rw [hw.asize]; exact h1, by rw [hl2]; exact hlim, fun q a ha => ?_, fun _ => by rw [hw.asize]; exact h4 rfl⟩
        rw [hw.cells]
        subst hc2
        have htk : ((c.drop off).take k).length = k := by simp; omega
        by_cases hq : q < k
        · rw [List.getElem?_append_left (by omega), List.getElem?_take, if_pos hq, List.getElem?_drop] at ha
          rw [if_neg (by omega)]
          obtain ⟨v, x, y, z⟩ := h3 _ _ ha
          exact ⟨v, by rw [show base + off + q = base + (off + q) by omega]; exact x, y.mono (.add hnm), z⟩
        · rw [List.getElem?_append_right (by omega), htk] at ha
          have hq2 : q - k < vs.length := by
            rcases Nat.lt_or_ge (q - k) vs.length with h' | h'
            · exact h'
            · rw [List.getElem?_eq_none h'] at ha; cases ha
          rw [if_pos (by omega)]
          obtain ⟨v', ev', hv'⟩ := hv.get ha
          exact ⟨v', by rw [show base + off + q - (base + off + k) = q - k by omega]; exact ev', hv'.mono (.add hnm), List.all_eq_true.1 hf a (List.mem_of_getElem? ha)⟩
      · rename_i hji hjn
        rw [muAdd_ne _ _ _ _ hjn] at e1
        cases hlv : o.live with
        | true => exact (s.r.obj _ _ _ _ _ e1 e2).of_same (.add hnm) (hw.other b1 fun e => s.r.inj id j b base lim b1 base1 lim1 _ o (Ne.symm hji) hm e1 hg e2 rfl hlv e.symm)
        | false => cases o <;> first | trivial | simp [AObj.live] at hlv
  · rw [hget] at g1 g2
    have key : ∀ (j : Nat) (b2 base2 lim2 : Nat) (o2 : AObj), j ≠ id → j ≠ h.next → μ j = some (b2, base2, lim2) → h.get j = some o2 → o2.live = true → b ≠ b2 := fun j b2 base2 lim2 o2 n1 n2 m2 q2 l2 =>
      s.r.inj id j b base lim b2 base2 lim2 _ o2 (Ne.symm n1) hm m2 hg q2 rfl l2
    split at g1
    · cases g1; simp [AObj.owned] at ho1
    · split at g2
      · cases g2; simp [AObj.live] at ho2
      · rename_i n1 n2
        by_cases m1 : i = h.next
        · subst m1
          rw [muAdd_same] at e1; cases e1
          have m2 : j ≠ h.next := fun e => hne e.symm
          rw [if_neg m2] at g2
          rw [muAdd_ne _ _ _ _ m2] at e2
          exact key j b2 base2 lim2 o2 n2 m2 e2 g2 ho2
        · rw [if_neg m1] at g1
          rw [muAdd_ne _ _ _ _ m1] at e1
          by_cases m2 : j = h.next
          · subst m2
            rw [muAdd_same] at e2; cases e2
            exact fun e => key i b1 base1 lim1 o1 n1 m1 e1 g1 (live_of _ ho1) e.symm
          · rw [if_neg m2] at g2
            rw [muAdd_ne _ _ _ _ m2] at e2
            exact s.r.inj i j _ _ _ _ _ _ o1 o2 hne e1 e2 g1 g2 ho1 ho2
  · simp only [Heap.next_set, Heap.next_alloc] at hj
    rw [muAdd_ne _ _ _ _ (by omega)]
    exact s.bd j (by omega)
  · subst e; exact hn ⟨id, base, lim, _, hm, hg, rfl⟩
  · rintro b1 ⟨j, base1, lim1, o, e1, e2, e3⟩
    rw [hget] at e2
    split at e2
    · cases e2; simp [AObj.owned] at e3
    · by_cases m1 : j = h.next
      · subst m1
        rw [muAdd_same] at e1; cases e1
        exact .inl ⟨id, base, lim, _, hm, hg, rfl⟩
      · rw [if_neg m1] at e2
        rw [muAdd_ne _ _ _ _ m1] at e1
        exact .inl ⟨j, base1, lim1, o, e1, e2, e3⟩
  · obtain ⟨arr1, t1, fr1, q1, q2⟩ := s.mkd id hby b base lim c false hm hg
    rw [hb] at q1
    cases q1
    exact ⟨arr', t, fr, hw.here, fun j j1 j2 => by rw [hw.cells, if_neg (by omega)]; exact q2 j (by omega) j2⟩

/-- A new row beside the old one. -/
theorem append_fresh (s : St P μ h w) {e : TypeId} {n esz cap : Nat} {cs : List AV} {cs' zs : List Value} (hv : Vs μ cs cs') (hf : cs.all AV.flat = true) (hl : cs.length = n * esz) (hz : zs.length = (cap - n) * esz) (hc : n ≤ cap) (hc2 : cap ≤ 9223372036854775807) (hpos : 0 < esz) (arr : Array Value) (harr : arr.toList = cs' ++ zs) :
    ∃ μ', V μ' (.slice h.next 0 n n false esz) (.slice (some ⟨w.heap.size, 0, none⟩) n cap) ∧ St P μ' (h.alloc (.cells cs false)) (w.drew.alloc (.cells arr e)) ∧
      Fr μ h w μ' (h.alloc (.cells cs false)) (w.drew.alloc (.cells arr e)) ∧
      ((∀ z ∈ zs, ∃ n, z = .int .u8 n ∧ wfInt .u8 n = true) → ∀ b base lim, μ' h.next = some (b, base, lim) → ∃ arr1 t fr, (w.drew.alloc (.cells arr e)).heap[b]? = some (.cells arr1 t fr) ∧ ∀ j, base + cs.length ≤ j → j < lim → ∃ n, arr1[j]? = some (.int .u8 n) ∧ wfInt .u8 n = true) := by
  have hlen := hv.len
  have hsz : (cs' ++ zs).length = cap * esz := by
    rw [List.length_append, ← hlen, hl, hz, ← Nat.add_mul]; congr 1; omega
  obtain rfl : arr = (cs' ++ zs).toArray := by apply Array.toList_inj.1; rw [harr]
  have := alloc_sim (cs := cs) (cs' := (cs' ++ zs).toArray) s.drew e (cap * esz) (by rw [hl]; exact Nat.mul_le_mul_right _ hc) (by simp only [List.size_toArray]; rw [hsz]; exact Nat.le_refl _) (by
    simp only []
    rw [List.take_append_of_le_length (by omega), List.take_of_length_le (by omega)]; exact hv) hf
  refine ⟨_, ?_, this.1, (Fr.drew μ h w).trans this.2, fun hz8 b base lim m => ?_⟩
  · exact .slice h.next 0 n n false esz _ cap (Nat.le_refl _) hc (fun h' => by cases h') hpos hc2 (.inr ⟨w.heap.size, 0, cap * esz, muAdd_same _ _ _, rfl, by omega⟩)
  · rw [muAdd_same] at m
    cases m
    refine ⟨(cs' ++ zs).toArray, e, (0, 0), alloc_new w.drew _, fun j j1 j2 => ?_⟩
    have hj : j - cs'.length < zs.length := by
      rw [List.length_append] at hsz; omega
    obtain ⟨q, e1, e2⟩ := hz8 _ (List.getElem_mem hj)
    refine ⟨q, ?_, e2⟩
    rw [List.getElem?_toArray, List.getElem?_append_right (by omega), List.getElem?_eq_getElem hj, e1]
/-- The note behind a new row. -/
theorem noted {μ : Mu} {H : Heap} {w : World} (s : St P μ H w) {id : Nat} (hid : id + 1 = H.next) (bt : Bool) {cs : List AV} (hg : H.get id = some (.cells cs false))
    (hr : bt = true → ∀ b base lim, μ id = some (b, base, lim) → ∃ arr t fr, w.heap[b]? = some (.cells arr t fr) ∧ ∀ j, base + cs.length ≤ j → j < lim → ∃ n, arr[j]? = some (.int .u8 n) ∧ wfInt .u8 n = true) :
    St P μ (H.note bt id) w ∧ Fr μ H w μ (H.note bt id) w :=
  s.note hid bt fun e b base lim c ro m g => by
    rw [hg] at g; cases g; exact hr e b base lim m
theorem zeroCells_u8 {zv : Value} (hz : zv = .int .u8 0) (k : Nat) : ∀ z ∈ (Builtin.zeroCells zv.cells k).toList, ∃ n, z = .int .u8 n ∧ wfInt .u8 n = true := by
  subst hz
  intro z hz
  have : z = .int .u8 0 := by
    simp [Builtin.zeroCells, Value.cells, Nat.mod_one] at hz
    obtain ⟨_, rfl⟩ := hz
    rfl
  exact ⟨0, this, by decide⟩

theorem zeroCells_len (zs : Array Value) (n : Nat) : (Builtin.zeroCells zs n).size = n * zs.size := by simp [Builtin.zeroCells]

theorem append_sim (s : St P μ h w) {st xt ty e : TypeId} {i : TypeInfo} {xd : TypeDesc} {zv : Value} (hu : P.underlying st = some (.slice e)) (hxu : P.underlying xt = some xd) (hxi : ∀ k, xd ≠ .int k) (hi : P.info? e = some i) (hz : i.zero = some zv) (hzs : zv.cells.size = i.size) (hpos : 0 < i.size) (hz8 : i.size = 1 ∧ i.bytes = 1 → zv = .int .u8 0)
    {x y : AV} {x' y' : Value} (hx : V μ x x') (hy : V μ y y') {v : AV} {h' : Heap} (hr : appendA h i.size i.bytes x y = some (v, h')) : VDone P μ h w ((Builtin.append_ #[st, xt] ty #[x', y']).run P w) v h' := by
  unfold appendA at hr
  split at hr
  · cases hr
  · rename_i n hln
    split at hr
    · cases hr
    · rename_i new hnew
      obtain ⟨ln1, ln2⟩ := lenA_sim (P := P) (w := w) hln hy
      obtain ⟨vs, hf1, hv, hfl⟩ := first_sim s hnew hy (fun m hm => by rw [hln] at hm; cases hm; exact Nat.le_refl _)
      have hf1' : ∀ W : World, W = w.drew → (Builtin.firstCells i.size n y').run P W = .ok vs.toArray W := fun W hW => by
        subst hW
        obtain ⟨vs2, hf2, hv2, _⟩ := first_sim s.drew hnew hy (fun m hm => by rw [hln] at hm; cases hm; exact Nat.le_refl _)
        have : (Builtin.firstCells i.size n y').run P w.drew = .ok vs.toArray w.drew := by
          cases y' with
          | slice a l c =>
            cases a with
            | none => simp [Builtin.firstCells] at hf1 ⊢; exact hf1
            | some a =>
              simp only [Builtin.firstCells] at hf1 hf2 ⊢
              rw [hf2]
              have hd : ∀ (k j : Nat) (acc : Array Value), (loadCellsFrom a j k acc).run P w.drew = match (loadCellsFrom a j k acc).run P w with | .ok r _ => .ok r w.drew | .halt x _ => .halt x w.drew := by
                intro k
                induction k with
                | zero => intro j acc; simp [loadCellsFrom]
                | succ k ih =>
                  intro j acc
                  simp only [loadCellsFrom, Sem.run_bind, run_load, World.cell?_drew]
                  cases hc : w.cell? (a.add j) with
                  | some u => simp only [Result.andThen_ok]; exact ih _ _
                  | none =>
                    have : w.drew.farLoad P (a.add j) (Mode.plain == Mode.atomic) = w.farLoad P (a.add j) (Mode.plain == Mode.atomic) := rfl
                    simp only [this]
                    cases w.farLoad P (a.add j) (Mode.plain == Mode.atomic) with
                    | ok r => simp only [Result.andThen_ok]; exact ih _ _
                    | error x => rfl
              have := hd (n * i.size) 0 #[]
              unfold loadCells at hf1 hf2
              rw [hf1] at this
              rw [this] at hf2
              exact hf2.symm
          | string st =>
            simp only [Builtin.firstCells, Sem.run_pure, Result.ok.injEq] at hf1 ⊢
            exact ⟨hf1.1, trivial⟩
          | _ => simp [Builtin.firstCells] at hf1
        exact this
      have hnl : new.length = n * i.size := firstA_len hnew hln
      cases x with
      | nilsl =>
        cases hx
        simp only at hr
        split at hr
        · rename_i h0
          subst h0
          cases hr
          refine VDone.pure s (v' := .slice none 0 0) ?_ .nilsl
          exact run_append_fits' (w' := w) hu hxu hxi (by simp [sz, hi]) ln1 hf1 (Nat.le_refl _) rfl
        · rename_i h0
          split at hr
          · rename_i hb
            cases hr
            obtain ⟨cap, q1, q2, q3⟩ := run_append_new (sLen := 0) (sCap := 0) (base := none) (ty := ty) (old := []) hu hxu hxi hi hz ln1 hf1' (fun W _ => by simp [Builtin.firstCells]) (by omega) (by simpa using hb.1) (by simpa using hb.2)
            simp only [Nat.zero_add] at q1 q3
            obtain ⟨μ', g1, g2, g3, g4⟩ := append_fresh (e := e) (zs := (Builtin.zeroCells zv.cells (cap - n)).toList) s hv hfl hnl (by simp [zeroCells_len, hzs]) q1 q2 hpos (([] : List Value).toArray ++ vs.toArray ++ Builtin.zeroCells zv.cells (cap - n)) (by simp)
            have hn := noted g2 (id := h.next) (by simp) (decide (i.size = 1 ∧ i.bytes = 1)) (by rw [Heap.get_alloc, if_pos rfl]) fun hb => g4 (zeroCells_u8 (hz8 (of_decide_eq_true hb)) _)
            exact ⟨μ', _, _, q3, g1, hn.1, g3.trans hn.2⟩
          · cases hr
      | slice id off len cap ex esz' =>
        simp only at hr
        split at hr
        · rename_i hes
          subst hes
          cases hx with | slice _ _ _ _ _ _ a cap' g1 g2 g3 g4 g5 g6 =>
          split at hr
          · rename_i hfit
            split at hr
            · rename_i h2 hst
              cases hr
              -- in place, among the cells that are known
              rcases g6 with h0 | ⟨b, base, lim, m1, rfl, m3⟩
              · have hn0 : n = 0 := by omega
                have hl0 : len = 0 := by omega
                subst hn0; subst hl0
                have hnil : new = [] := List.eq_nil_of_length_eq_zero (by simpa using hnl)
                subst hnil
                cases hv
                have hget : ∀ j, h'.get j = h.get j := by
                  unfold storeA at hst
                  split at hst
                  · rename_i c hg
                    split at hst
                    · cases hst
                      intro j
                      rw [Heap.get_set _ _ _ _ (Heap.lt_of_get hg)]
                      split
                      · subst_vars; rw [hg]; simp [splice]
                      · rfl
                    · cases hst
                  · cases hst
                have hnext : h'.next = h.next := by
                  unfold storeA at hst
                  split at hst
                  · split at hst
                    · cases hst; rfl
                    · cases hst
                  · cases hst
                have hfe : h'.get = h.get := funext hget
                refine ⟨μ, .slice (some a) (0 + 0) cap', w, ?_, ?_, (s.same hfe hnext).1, (s.same hfe hnext).2⟩
                · exact run_append_fits' (w' := w) (base := some a) hu hxu hxi (by simp [sz, hi]) ln1 hf1 (by omega) (by simp [storeCells])
                · exact .slice id off (0 + 0) cap ex i.size a cap' (by omega) g2 g3 g4 g5 (.inl h0)
              · obtain ⟨w', hrun, st', fr', _⟩ := storeA_sim s m1 hst hv hfl
                refine ⟨μ, .slice (some ⟨b, base + off, none⟩) (len + n) cap', w', ?_, ?_, st', fr'⟩
                · exact run_append_fits' (w' := w') (base := some ⟨b, base + off, none⟩) hu hxu hxi (by simp [sz, hi]) ln1 hf1 (by omega) (by
                    simp only [add0]; rw [Nat.add_assoc]; exact hrun)
                · exact .slice id off (len + n) cap ex i.size _ cap' hfit g2 g3 g4 g5 (.inr ⟨b, base, lim, m1, rfl, m3⟩)
            · cases hr
          · rename_i hfit
            split at hr
            · rename_i hb
              split at hr
              · rename_i c ro hg
                split at hr
                · rename_i hle
                  have hcap0 : cap' ≠ 0 ∨ cap' = 0 := by omega
                  have hold : ∃ olds : List Value, Vs μ ((c.drop off).take (len * i.size)) olds ∧ ((c.drop off).take (len * i.size)).all AV.flat = true ∧ ∀ W : World, W = w.drew → (Builtin.firstCells i.size len (.slice (some a) len cap')).run P W = .ok olds.toArray W := by
                    have hfA : firstA h i.size len (.slice id off len cap ex i.size) = some ((c.drop off).take (len * i.size)) := by simp [firstA, hg, hle]
                    obtain ⟨olds, o1, o2, o3⟩ := first_sim s.drew hfA (V.slice id off len cap ex i.size a cap' g1 g2 g3 g4 g5 g6) (fun m hm => by simp [lenA] at hm; omega)
                    exact ⟨olds, o2, o3, fun W hW => by subst hW; exact o1⟩
                  obtain ⟨olds, ov, of, orun⟩ := hold
                  have fresh : ¬ len + n ≤ cap' → ∃ μ' v' w', (Builtin.append_ #[st, xt] ty #[.slice (some a) len cap', y']).run P w = .ok v' w' ∧ V μ' (.slice h.next 0 (len + n) (len + n) false i.size) v' ∧ St P μ' (h.alloc (.cells ((c.drop off).take (len * i.size) ++ new) false)) w' ∧ Fr μ h w μ' (h.alloc (.cells ((c.drop off).take (len * i.size) ++ new) false)) w' ∧
                      (i.size = 1 ∧ i.bytes = 1 → ∀ b base lim, μ' h.next = some (b, base, lim) → ∃ arr t fr, w'.heap[b]? = some (.cells arr t fr) ∧ ∀ j, base + ((c.drop off).take (len * i.size) ++ new).length ≤ j → j < lim → ∃ n, arr[j]? = some (.int .u8 n) ∧ wfInt .u8 n = true) := by
                    intro hgr
                    obtain ⟨cap2, q1, q2, q3⟩ := run_append_new (ty := ty) hu hxu hxi hi hz ln1 hf1' orun hgr hb.1 hb.2
                    obtain ⟨μ', r1, r2, r3, r4⟩ := append_fresh (n := len + n) (e := e) (zs := (Builtin.zeroCells zv.cells (cap2 - (len + n))).toList) s (ov.append hv) (by rw [List.all_append, of, hfl]; rfl) (by
                      rw [List.length_append, hnl, Nat.add_mul]; congr 1; simp; omega) (by simp [zeroCells_len, hzs]) q1 q2 hpos (olds.toArray ++ vs.toArray ++ Builtin.zeroCells zv.cells (cap2 - (len + n))) (by simp)
                    exact ⟨μ', _, _, q3, r1, r2, r3, fun hb => r4 (zeroCells_u8 (hz8 hb) _)⟩
                  split at hr
                  · rename_i hex
                    cases hr
                    obtain ⟨μ', v', w', r0, r1, r2, r3, r4⟩ := fresh (by have := g3 hex; omega)
                    have hn := noted r2 (id := h.next) (by simp) (decide (i.size = 1 ∧ i.bytes = 1)) (by rw [Heap.get_alloc, if_pos rfl]) fun hb => r4 (of_decide_eq_true hb)
                    exact ⟨μ', v', w', r0, r1, hn.1, r3.trans hn.2⟩
                  · split at hr
                    · cases hr
                    · rename_i hro
                      cases hr
                      have hro' : ro = false := by simpa using hro
                      subst hro'
                      by_cases hroom : len + n ≤ cap'
                      · -- in place, beyond what is known
                        rcases g6 with h0 | ⟨b, base, lim, m1, rfl, m3⟩
                        · omega
                        · have hm : (len + n) * i.size ≤ cap' * i.size := Nat.mul_le_mul_right _ hroom
                          obtain ⟨w', hrun, st', fr', hrest⟩ := regrow s m1 hg hle (by rw [hnl, ← Nat.add_mul]; omega) hv hfl rfl
                          have hn := noted st' (id := h.next) (by simp) (decide (i.size = 1 ∧ i.bytes = 1) && h.byteAt id && decide (c.length ≤ off + (len + n))) (by
                            rw [Heap.get_set _ _ _ _ (by have := Heap.lt_of_get hg; simp; omega), if_neg (by have := Heap.lt_of_get hg; omega), Heap.get_alloc, if_pos rfl]) fun hb b1 base1 lim1 m => by
                              simp only [Bool.and_eq_true, decide_eq_true_eq] at hb
                              rw [muAdd_same] at m
                              cases m
                              exact hrest hb.1.2 (by rw [hnl, hb.1.1.1]; omega)
                          refine ⟨_, .slice (some ⟨b, base + off, none⟩) (len + n) cap', w', run_append_fits' (w' := w') (base := some ⟨b, base + off, none⟩) hu hxu hxi (by simp [sz, hi]) ln1 hf1 hroom (by simp only [add0]; exact hrun), ?_, hn.1, fr'.trans hn.2⟩
                          exact .slice h.next 0 (len + n) (len + n) false i.size _ cap' (Nat.le_refl _) hroom (fun h' => by cases h') g4 g5 (.inr ⟨b, base + off, lim, muAdd_same _ _ _, rfl, by omega⟩)
                      · obtain ⟨μ', v', w', r0, r1, r2, r3, r4⟩ := fresh hroom
                        have hk := r2.kill (id := id) (by have := Heap.lt_of_get hg; simp; omega)
                        have hn := noted hk.1 (id := h.next) (by simp) (decide (i.size = 1 ∧ i.bytes = 1) && h.byteAt id && decide (c.length ≤ off + (len + n))) (by
                          rw [Heap.get_set _ _ _ _ (by have := Heap.lt_of_get hg; simp; omega), if_neg (by have := Heap.lt_of_get hg; omega), Heap.get_alloc, if_pos rfl]) fun hb => by
                            simp only [Bool.and_eq_true, decide_eq_true_eq] at hb
                            exact r4 hb.1.1
                        exact ⟨μ', v', w', r0, r1, hn.1, (r3.trans hk.2).trans hn.2⟩
                · cases hr
              · cases hr
            · cases hr
        · cases hr
      | _ => simp at hr

end
end Go.Ya
