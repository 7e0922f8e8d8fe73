/-
  The abstract machine: YaOps5, YaOps6, YaOps7, YaMap, YaOps8.
-/
import Derived.Laws.Append
import Derived.IntWalk
import Derived.Laws.StructEq
import Derived.Test.YtekbgdmemenheaaYbC
namespace Go.Ya
set_option linter.unusedVariables false
set_option linter.unusedSimpArgs false
section
variable {P : Program} {μ : Mu} {h : Heap} {w : World}
theorem lenA_sim {x : AV} {x' : Value} {n : Nat} (e : lenA x = some n) (hx : V μ x x') : (Builtin.lenOf x').run P w = .ok n w ∧ n ≤ 9223372036854775807 := by
  cases x <;> simp only [lenA, Option.some.injEq, reduceCtorEq] at e
  · cases hx with | str _ st hst hsz => subst hst; subst e; exact ⟨by simp [Builtin.lenOf, bytesOf_len], by rw [bytesOf_len]; exact hsz⟩
  · cases hx; subst e; exact ⟨by simp [Builtin.lenOf], by omega⟩
  · cases hx with | slice _ _ _ _ _ _ a cap' g1 g2 g3 g4 g5 g6 => subst e; exact ⟨by simp [Builtin.lenOf], by omega⟩
theorem firstA_len {x : AV} {esz n : Nat} {cs : List AV} (e : firstA h esz n x = some cs) (hn : lenA x = some n) : cs.length = n * esz := by
  unfold firstA at e
  split at e
  · cases e; simp [lenA] at hn; simp [← hn]
  · split at e
    · split at e
      · split at e
        · cases e; simp; omega
        · cases e
      · cases e
    · cases e
  · split at e
    · subst_vars
      cases e
      simp [lenA] at hn
      simp; omega
    · cases e
  · cases e
theorem run_append_fits' {st xt ty e : TypeId} {size n sLen sCap : Nat} {base : Option Addr} {y' : Value} {new : List Value} {xd : TypeDesc} (hu : P.underlying st = some (.slice e)) (hxu : P.underlying xt = some xd) (hxi : ∀ k, xd ≠ .int k) (hs : sz P e = some size)
    (hl : (Builtin.lenOf y').run P w = .ok n w) (hf : (Builtin.firstCells size n y').run P w = .ok new.toArray w) (hfit : sLen + n ≤ sCap) {w' : World}
    (hst : match base with | some a => (storeCells (a.add (sLen * size)) new).run P w = .ok () w' | none => w' = w) :
    (Builtin.append_ #[st, xt] ty #[.slice base sLen sCap, y']).run P w = .ok (.slice base (sLen + n) sCap) w' := by
  have hz : (match xd with | .int _ => true | _ => false) = false := by cases xd <;> first | rfl | (exact absurd rfl (hxi _))
  simp only [Builtin.append_]
  simp only [List.getElem?_toArray, List.getElem?_cons_zero, List.getElem?_cons_succ, Sem.run_bind, und_run hu, Result.andThen_ok, sz_run hs, und_run hxu, Sem.run_pure]
  cases xd <;> first
    | (exact absurd rfl (hxi _))
    | (simp only [Bool.false_eq_true, if_false, Sem.run_bind, hl, Result.andThen_ok, hfit, if_true, Bool.not_false, hf]
       cases base with
       | none => subst hst; simp
       | some a => simp only [Sem.run_bind] ; rw [hst]; simp)
theorem run_append_new {st xt ty e : TypeId} {i : TypeInfo} {zv : Value} {n sLen sCap : Nat} {base : Option Addr} {y' : Value} {old new : List Value} {xd : TypeDesc} (hu : P.underlying st = some (.slice e)) (hxu : P.underlying xt = some xd) (hxi : ∀ k, xd ≠ .int k)
    (hi : P.info? e = some i) (hz : i.zero = some zv) (hl : (Builtin.lenOf y').run P w = .ok n w) (hf : ∀ W : World, W = w.drew → (Builtin.firstCells i.size n y').run P W = .ok new.toArray W)
    (hold : ∀ W : World, W = w.drew → (Builtin.firstCells i.size sLen (.slice base sLen sCap)).run P W = .ok old.toArray W) (hgrow : ¬ sLen + n ≤ sCap) (hb1 : (sLen + n) * i.bytes ≤ 140737488355328) (hb2 : sLen + n ≤ 140737488355328) :
    ∃ cap, sLen + n ≤ cap ∧ cap ≤ 9223372036854775807 ∧ (Builtin.append_ #[st, xt] ty #[.slice base sLen sCap, y']).run P w =
      .ok (.slice (some ⟨w.heap.size, 0, none⟩) (sLen + n) cap) (w.drew.alloc (.cells (old.toArray ++ new.toArray ++ Builtin.zeroCells zv.cells (cap - (sLen + n))) e)) := by
  generalize hcap : (Question.appendCap (sLen + n) sCap e).cut (w.tape w.drawn (.appendCap (sLen + n) sCap e)) = cap
  refine ⟨cap, by subst hcap; simp [Question.cut], ?_, ?_⟩
  · subst hcap; simp only [Question.cut]
    have : w.tape w.drawn (.appendCap (sLen + n) sCap e) % (2 ^ 63 - (sLen + n)) < 2 ^ 63 - (sLen + n) := Nat.mod_lt _ (by omega)
    omega
  · have hnx : ¬ (Builtin.nextslicecap (sLen + n) sCap * i.bytes > 2 ^ 48) := by
      have := growslice_fits (bytes := i.bytes) (need := sLen + n) (old := sCap) (by omega) hb1
      omega
    have h63 : ¬ ((((sLen + n : Nat) : Int) > IntKind.i64.max) ∧ (False ∨ i.bytes = 0)) := by
      simp [IntKind.max, IntKind.signed, IntKind.bits]; omega
    have hd : (w.drew).heap.size = w.heap.size := rfl
    simp only [Builtin.append_]
    simp only [List.getElem?_toArray, List.getElem?_cons_zero, List.getElem?_cons_succ, Sem.run_bind, und_run hu, Result.andThen_ok, sz_run (P := P) (w := w) (t := e) (n := i.size) (by simp [sz, hi]), und_run hxu, Sem.run_pure]
    have hti : ∀ W : World, (typeInfo e).run P W = .ok i W := fun W => by simp [typeInfo, hi]
    cases xd <;> first
      | (exact absurd rfl (hxi _))
      | (simp only [Bool.false_eq_true, if_false, Sem.run_bind, hl, Result.andThen_ok, hgrow, Bool.not_false, if_true, hti, h63, hnx, run_choose, Question.forced, hcap, World.drew_eq, run_askRoom, hold _ rfl, hf _ rfl, zero_run hi hz, run_newRow, hd, Sem.run_pure])
theorem R.kill (r : R P μ h.get w) {id : Nat} (hid : id < h.next) : R P μ (h.set id .dead).get w ∧ Fr μ h w μ (h.set id .dead) w := by
  refine ⟨⟨fun j b base lim o e1 e2 => ?_, fun i j b base lim b' base' lim' o o' hne e1 e2 g1 g2 h1 h2 => ?_⟩, ⟨.refl μ, Nat.le_refl _, rfl, rfl, rfl, fun _ _ _ => rfl, ?_, by simp, fun _ _ h => h⟩⟩
  · rw [Heap.get_set _ _ _ _ hid] at e2
    split at e2
    · cases e2; trivial
    · exact r.obj j b base lim o e1 e2
  · rw [Heap.get_set _ _ _ _ hid] at g1 g2
    split at g1
    · cases g1; simp [AObj.owned] at h1
    · split at g2
      · cases g2; simp [AObj.live] at h2
      · exact r.inj i j b base lim b' base' lim' o o' hne e1 e2 g1 g2 h1 h2
  · rintro b ⟨j, base, lim, o, e1, e2, e3⟩
    rw [Heap.get_set _ _ _ _ hid] at e2
    split at e2
    · cases e2; simp [AObj.owned] at e3
    · exact .inl ⟨j, base, lim, o, e1, e2, e3⟩
theorem St.kill (s : St P μ h w) {id : Nat} (hid : id < h.next) : St P μ (h.set id .dead) w ∧ Fr μ h w μ (h.set id .dead) w :=
  ⟨⟨(s.r.kill hid).1, s.bd, fun id e b base lim c ro m g => by
    rw [Heap.get_set _ _ _ _ hid] at g
    split at g
    · cases g
    · exact s.mkd id (Heap.byteAt_set hid rfl e) b base lim c ro m g, s.tb.fr (s.r.kill hid).2⟩, (s.r.kill hid).2⟩
theorem regrow (s : St P μ h w) {id b base lim off : Nat} {c c2 : List AV} {vs : List AV} {vs' : List Value} {k : Nat} (hm : μ id = some (b, base, lim)) (hg : h.get id = some (.cells c false)) (hk : off + k ≤ c.length) (hlim : base + off + (k + vs.length) ≤ lim)
    (hv : Vs μ vs vs') (hf : vs.all AV.flat = true) (hc2 : c2 = (c.drop off).take k ++ vs) :
    ∃ w', (storeCells ⟨b, base + off + k, none⟩ vs').run P w = .ok () w' ∧ St P (muAdd μ h.next (b, base + off, lim)) ((h.alloc (.cells c2 false)).set id .dead) w' ∧
      Fr μ h w (muAdd μ h.next (b, base + off, lim)) ((h.alloc (.cells c2 false)).set id .dead) w' ∧
      (h.byteAt id = true → c.length ≤ off + k + vs.length → ∃ arr t fr, w'.heap[b]? = some (.cells arr t fr) ∧ ∀ j, base + off + c2.length ≤ j → j < lim → ∃ n, arr[j]? = some (.int .u8 n) ∧ wfInt .u8 n = true) := by
  obtain ⟨arr, t, fr, hb, h1, h2, h3, h4⟩ := s.r.obj id b base lim _ hm hg
  have hlen := hv.len
  have hnm : μ h.next = none := s.bd _ (Nat.le_refl _)
  have hid : id < h.next := Heap.lt_of_get hg
  obtain ⟨w', arr', hrun, hw⟩ := run_storeCells (P := P) (o := base + off + k) (vs := vs') hb (by omega) (h4 rfl) (ones_of hv hf)
  have hget : ∀ j, ((h.alloc (.cells c2 false)).set id .dead).get j = if j = id then some .dead else if j = h.next then some (.cells c2 false) else h.get j := fun j => by
    rw [Heap.get_set _ _ _ _ (by simp; omega), Heap.get_alloc]
  have hl2 : c2.length = k + vs.length := by subst hc2; simp; omega
  have live_of : ∀ x : AObj, x.owned = true → x.live = true := fun x hx => by cases x <;> first | rfl | simp [AObj.owned] at hx
  have hmk : Mk (muAdd μ h.next (b, base + off, lim)) ((h.alloc (.cells c2 false)).set id .dead) w' := by
    intro j e b1 base1 lim1 c' ro' m g
    have e1 := Heap.byteAt_alloc rfl (Heap.byteAt_set (by simp; omega) rfl e)
    have := Heap.byteAt_lt e1
    rw [hget] at g
    split at g
    · cases g
    · rename_i hji
      rw [if_neg (by omega)] at g
      rw [muAdd_ne _ _ _ _ (by omega)] at m
      obtain ⟨arr1, t1, fr1, q1, q2⟩ := s.mkd j e1 b1 base1 lim1 c' ro' m g
      exact ⟨arr1, t1, fr1, (hw.other b1 fun e => s.r.inj id j b base lim b1 base1 lim1 _ _ (Ne.symm hji) hm m hg g rfl rfl e.symm).trans q1, q2⟩
  have hown : ∀ b1, Own (muAdd μ h.next (b, base + off, lim)) ((h.alloc (.cells c2 false)).set id .dead).get b1 → Own μ h.get b1 ∨ w.heap.size ≤ b1 := by
    rintro b1 ⟨j, base1, lim1, o, e1, e2, e3⟩
    rw [hget] at e2
    split at e2
    · cases e2; simp [AObj.owned] at e3
    · by_cases m1 : j = h.next
      · subst m1
        rw [muAdd_same] at e1; cases e1
        exact .inl ⟨id, base, lim, _, hm, hg, rfl⟩
      · rw [if_neg m1] at e2
        rw [muAdd_ne _ _ _ _ m1] at e1
        exact .inl ⟨j, base1, lim1, o, e1, e2, e3⟩
  refine ⟨w', hrun, ⟨⟨fun j b1 base1 lim1 o e1 e2 => ?_, fun i j b1 base1 lim1 b2 base2 lim2 o1 o2 hne e1 e2 g1 g2 ho1 ho2 => ?_⟩, fun j hj => ?_, hmk, s.tb.step (by rw [hw.size]; exact Nat.le_refl _) (fun j hj hn => hw.other j fun e => by subst e; exact hn ⟨id, base, lim, _, hm, hg, rfl⟩) hown⟩, ⟨.add hnm, by rw [hw.size]; exact Nat.le_refl _, hw.os, hw.tape, hw.output, fun j hj hn => hw.other j fun e => ?_, hown, by simp, fun j hj hn => by rw [muAdd_ne _ _ _ _ (by omega)]; exact hn⟩, fun hby hcl => ?_⟩
  · rw [hget] at e2
    split at e2
    · cases e2; trivial
    · split at e2
      · rename_i hji hjn
        subst hjn
        rw [muAdd_same] at e1; cases e1
        cases e2
        refine ⟨arr', t, fr, hw.here, by rw [hw.asize]; exact h1, by rw [hl2]; exact hlim, fun q a ha => ?_, fun _ => by rw [hw.asize]; exact h4 rfl⟩
        rw [hw.cells]
        subst hc2
        have htk : ((c.drop off).take k).length = k := by simp; omega
        by_cases hq : q < k
        · rw [List.getElem?_append_left (by omega), List.getElem?_take, if_pos hq, List.getElem?_drop] at ha
          rw [if_neg (by omega)]
          obtain ⟨v, x, y, z⟩ := h3 _ _ ha
          exact ⟨v, by rw [show base + off + q = base + (off + q) by omega]; exact x, y.mono (.add hnm), z⟩
        · rw [List.getElem?_append_right (by omega), htk] at ha
          have hq2 : q - k < vs.length := by
            rcases Nat.lt_or_ge (q - k) vs.length with h' | h'
            · exact h'
            · rw [List.getElem?_eq_none h'] at ha; cases ha
          rw [if_pos (by omega)]
          obtain ⟨v', ev', hv'⟩ := hv.get ha
          exact ⟨v', by rw [show base + off + q - (base + off + k) = q - k by omega]; exact ev', hv'.mono (.add hnm), List.all_eq_true.1 hf a (List.mem_of_getElem? ha)⟩
      · rename_i hji hjn
        rw [muAdd_ne _ _ _ _ hjn] at e1
        cases hlv : o.live with
        | true => exact (s.r.obj _ _ _ _ _ e1 e2).of_same (.add hnm) (hw.other b1 fun e => s.r.inj id j b base lim b1 base1 lim1 _ o (Ne.symm hji) hm e1 hg e2 rfl hlv e.symm)
        | false => cases o <;> first | trivial | simp [AObj.live] at hlv
  · rw [hget] at g1 g2
    have key : ∀ (j : Nat) (b2 base2 lim2 : Nat) (o2 : AObj), j ≠ id → j ≠ h.next → μ j = some (b2, base2, lim2) → h.get j = some o2 → o2.live = true → b ≠ b2 := fun j b2 base2 lim2 o2 n1 n2 m2 q2 l2 =>
      s.r.inj id j b base lim b2 base2 lim2 _ o2 (Ne.symm n1) hm m2 hg q2 rfl l2
    split at g1
    · cases g1; simp [AObj.owned] at ho1
    · split at g2
      · cases g2; simp [AObj.live] at ho2
      · rename_i n1 n2
        by_cases m1 : i = h.next
        · subst m1
          rw [muAdd_same] at e1; cases e1
          have m2 : j ≠ h.next := fun e => hne e.symm
          rw [if_neg m2] at g2
          rw [muAdd_ne _ _ _ _ m2] at e2
          exact key j b2 base2 lim2 o2 n2 m2 e2 g2 ho2
        · rw [if_neg m1] at g1
          rw [muAdd_ne _ _ _ _ m1] at e1
          by_cases m2 : j = h.next
          · subst m2
            rw [muAdd_same] at e2; cases e2
            exact fun e => key i b1 base1 lim1 o1 n1 m1 e1 g1 (live_of _ ho1) e.symm
          · rw [if_neg m2] at g2
            rw [muAdd_ne _ _ _ _ m2] at e2
            exact s.r.inj i j _ _ _ _ _ _ o1 o2 hne e1 e2 g1 g2 ho1 ho2
  · simp only [Heap.next_set, Heap.next_alloc] at hj
    rw [muAdd_ne _ _ _ _ (by omega)]
    exact s.bd j (by omega)
  · subst e; exact hn ⟨id, base, lim, _, hm, hg, rfl⟩
  · obtain ⟨arr1, t1, fr1, q1, q2⟩ := s.mkd id hby b base lim c false hm hg
    rw [hb] at q1
    cases q1
    exact ⟨arr', t, fr, hw.here, fun j j1 j2 => by rw [hw.cells, if_neg (by omega)]; exact q2 j (by omega) j2⟩
theorem append_fresh (s : St P μ h w) {e : TypeId} {n esz cap : Nat} {cs : List AV} {cs' zs : List Value} (hv : Vs μ cs cs') (hf : cs.all AV.flat = true) (hl : cs.length = n * esz) (hz : zs.length = (cap - n) * esz) (hc : n ≤ cap) (hc2 : cap ≤ 9223372036854775807) (hpos : 0 < esz) (arr : Array Value) (harr : arr.toList = cs' ++ zs) :
    ∃ μ', V μ' (.slice h.next 0 n n false esz) (.slice (some ⟨w.heap.size, 0, none⟩) n cap) ∧ St P μ' (h.alloc (.cells cs false)) (w.drew.alloc (.cells arr e)) ∧
      Fr μ h w μ' (h.alloc (.cells cs false)) (w.drew.alloc (.cells arr e)) ∧
      ((∀ z ∈ zs, ∃ n, z = .int .u8 n ∧ wfInt .u8 n = true) → ∀ b base lim, μ' h.next = some (b, base, lim) → ∃ arr1 t fr, (w.drew.alloc (.cells arr e)).heap[b]? = some (.cells arr1 t fr) ∧ ∀ j, base + cs.length ≤ j → j < lim → ∃ n, arr1[j]? = some (.int .u8 n) ∧ wfInt .u8 n = true) := by
  have hlen := hv.len
  have hsz : (cs' ++ zs).length = cap * esz := by
    rw [List.length_append, ← hlen, hl, hz, ← Nat.add_mul]; congr 1; omega
  obtain rfl : arr = (cs' ++ zs).toArray := by apply Array.toList_inj.1; rw [harr]
  have := alloc_sim (cs := cs) (cs' := (cs' ++ zs).toArray) s.drew e (cap * esz) (by rw [hl]; exact Nat.mul_le_mul_right _ hc) (by simp only [List.size_toArray]; rw [hsz]; exact Nat.le_refl _) (by
    simp only []
    rw [List.take_append_of_le_length (by omega), List.take_of_length_le (by omega)]; exact hv) hf
  refine ⟨_, ?_, this.1, (Fr.drew μ h w).trans this.2, fun hz8 b base lim m => ?_⟩
  · exact .slice h.next 0 n n false esz _ cap (Nat.le_refl _) hc (fun h' => by cases h') hpos hc2 (.inr ⟨w.heap.size, 0, cap * esz, muAdd_same _ _ _, rfl, by omega⟩)
  · rw [muAdd_same] at m
    cases m
    refine ⟨(cs' ++ zs).toArray, e, (0, 0), alloc_new w.drew _, fun j j1 j2 => ?_⟩
    have hj : j - cs'.length < zs.length := by
      rw [List.length_append] at hsz; omega
    obtain ⟨q, e1, e2⟩ := hz8 _ (List.getElem_mem hj)
    refine ⟨q, ?_, e2⟩
    rw [List.getElem?_toArray, List.getElem?_append_right (by omega), List.getElem?_eq_getElem hj, e1]
theorem noted {μ : Mu} {H : Heap} {w : World} (s : St P μ H w) {id : Nat} (hid : id + 1 = H.next) (bt : Bool) {cs : List AV} (hg : H.get id = some (.cells cs false))
    (hr : bt = true → ∀ b base lim, μ id = some (b, base, lim) → ∃ arr t fr, w.heap[b]? = some (.cells arr t fr) ∧ ∀ j, base + cs.length ≤ j → j < lim → ∃ n, arr[j]? = some (.int .u8 n) ∧ wfInt .u8 n = true) :
    St P μ (H.note bt id) w ∧ Fr μ H w μ (H.note bt id) w :=
  s.note hid bt fun e b base lim c ro m g => by
    rw [hg] at g; cases g; exact hr e b base lim m
theorem zeroCells_u8 {zv : Value} (hz : zv = .int .u8 0) (k : Nat) : ∀ z ∈ (Builtin.zeroCells zv.cells k).toList, ∃ n, z = .int .u8 n ∧ wfInt .u8 n = true := by
  subst hz
  intro z hz
  have : z = .int .u8 0 := by
    simp [Builtin.zeroCells, Value.cells, Nat.mod_one] at hz
    obtain ⟨_, rfl⟩ := hz
    rfl
  exact ⟨0, this, by decide⟩
theorem zeroCells_len (zs : Array Value) (n : Nat) : (Builtin.zeroCells zs n).size = n * zs.size := by simp [Builtin.zeroCells]
theorem append_sim (s : St P μ h w) {st xt ty e : TypeId} {i : TypeInfo} {xd : TypeDesc} {zv : Value} (hu : P.underlying st = some (.slice e)) (hxu : P.underlying xt = some xd) (hxi : ∀ k, xd ≠ .int k) (hi : P.info? e = some i) (hz : i.zero = some zv) (hzs : zv.cells.size = i.size) (hpos : 0 < i.size) (hz8 : i.size = 1 ∧ i.bytes = 1 → zv = .int .u8 0)
    {x y : AV} {x' y' : Value} (hx : V μ x x') (hy : V μ y y') {v : AV} {h' : Heap} (hr : appendA h i.size i.bytes x y = some (v, h')) : VDone P μ h w ((Builtin.append_ #[st, xt] ty #[x', y']).run P w) v h' := by
  unfold appendA at hr
  split at hr
  · cases hr
  · rename_i n hln
    split at hr
    · cases hr
    · rename_i new hnew
      obtain ⟨ln1, ln2⟩ := lenA_sim (P := P) (w := w) hln hy
      obtain ⟨vs, hf1, hv, hfl⟩ := first_sim s hnew hy (fun m hm => by rw [hln] at hm; cases hm; exact Nat.le_refl _)
      have hf1' : ∀ W : World, W = w.drew → (Builtin.firstCells i.size n y').run P W = .ok vs.toArray W := fun W hW => by
        subst hW
        obtain ⟨vs2, hf2, hv2, _⟩ := first_sim s.drew hnew hy (fun m hm => by rw [hln] at hm; cases hm; exact Nat.le_refl _)
        have : (Builtin.firstCells i.size n y').run P w.drew = .ok vs.toArray w.drew := by
          cases y' with
          | slice a l c =>
            cases a with
            | none => simp [Builtin.firstCells] at hf1 ⊢; exact hf1
            | some a =>
              simp only [Builtin.firstCells] at hf1 hf2 ⊢
              rw [hf2]
              have hd : ∀ (k j : Nat) (acc : Array Value), (loadCellsFrom a j k acc).run P w.drew = match (loadCellsFrom a j k acc).run P w with | .ok r _ => .ok r w.drew | .halt x _ => .halt x w.drew := by
                intro k
                induction k with
                | zero => intro j acc; simp [loadCellsFrom]
                | succ k ih =>
                  intro j acc
                  simp only [loadCellsFrom, Sem.run_bind, run_load, World.cell?_drew]
                  cases hc : w.cell? (a.add j) with
                  | some u => simp only [Result.andThen_ok]; exact ih _ _
                  | none =>
                    have : w.drew.farLoad P (a.add j) (Mode.plain == Mode.atomic) = w.farLoad P (a.add j) (Mode.plain == Mode.atomic) := rfl
                    simp only [this]
                    cases w.farLoad P (a.add j) (Mode.plain == Mode.atomic) with
                    | ok r => simp only [Result.andThen_ok]; exact ih _ _
                    | error x => rfl
              have := hd (n * i.size) 0 #[]
              unfold loadCells at hf1 hf2
              rw [hf1] at this
              rw [this] at hf2
              exact hf2.symm
          | string st =>
            simp only [Builtin.firstCells, Sem.run_pure, Result.ok.injEq] at hf1 ⊢
            exact ⟨hf1.1, trivial⟩
          | _ => simp [Builtin.firstCells] at hf1
        exact this
      have hnl : new.length = n * i.size := firstA_len hnew hln
      cases x with
      | nilsl =>
        cases hx
        simp only at hr
        split at hr
        · rename_i h0
          subst h0
          cases hr
          refine VDone.pure s (v' := .slice none 0 0) ?_ .nilsl
          exact run_append_fits' (w' := w) hu hxu hxi (by simp [sz, hi]) ln1 hf1 (Nat.le_refl _) rfl
        · rename_i h0
          split at hr
          · rename_i hb
            cases hr
            obtain ⟨cap, q1, q2, q3⟩ := run_append_new (sLen := 0) (sCap := 0) (base := none) (ty := ty) (old := []) hu hxu hxi hi hz ln1 hf1' (fun W _ => by simp [Builtin.firstCells]) (by omega) (by simpa using hb.1) (by simpa using hb.2)
            simp only [Nat.zero_add] at q1 q3
            obtain ⟨μ', g1, g2, g3, g4⟩ := append_fresh (e := e) (zs := (Builtin.zeroCells zv.cells (cap - n)).toList) s hv hfl hnl (by simp [zeroCells_len, hzs]) q1 q2 hpos (([] : List Value).toArray ++ vs.toArray ++ Builtin.zeroCells zv.cells (cap - n)) (by simp)
            have hn := noted g2 (id := h.next) (by simp) (decide (i.size = 1 ∧ i.bytes = 1)) (by rw [Heap.get_alloc, if_pos rfl]) fun hb => g4 (zeroCells_u8 (hz8 (of_decide_eq_true hb)) _)
            exact ⟨μ', _, _, q3, g1, hn.1, g3.trans hn.2⟩
          · cases hr
      | slice id off len cap ex esz' =>
        simp only at hr
        split at hr
        · rename_i hes
          subst hes
          cases hx with | slice _ _ _ _ _ _ a cap' g1 g2 g3 g4 g5 g6 =>
          split at hr
          · rename_i hfit
            split at hr
            · rename_i h2 hst
              cases hr
              -- in place, among the cells that are known
              rcases g6 with h0 | ⟨b, base, lim, m1, rfl, m3⟩
              · have hn0 : n = 0 := by omega
                have hl0 : len = 0 := by omega
                subst hn0; subst hl0
                have hnil : new = [] := List.eq_nil_of_length_eq_zero (by simpa using hnl)
                subst hnil
                cases hv
                have hget : ∀ j, h'.get j = h.get j := by
                  unfold storeA at hst
                  split at hst
                  · rename_i c hg
                    split at hst
                    · cases hst
                      intro j
                      rw [Heap.get_set _ _ _ _ (Heap.lt_of_get hg)]
                      split
                      · subst_vars; rw [hg]; simp [splice]
                      · rfl
                    · cases hst
                  · cases hst
                have hnext : h'.next = h.next := by
                  unfold storeA at hst
                  split at hst
                  · split at hst
                    · cases hst; rfl
                    · cases hst
                  · cases hst
                have hfe : h'.get = h.get := funext hget
                refine ⟨μ, .slice (some a) (0 + 0) cap', w, ?_, ?_, (s.same hfe hnext).1, (s.same hfe hnext).2⟩
                · exact run_append_fits' (w' := w) (base := some a) hu hxu hxi (by simp [sz, hi]) ln1 hf1 (by omega) (by simp [storeCells])
                · exact .slice id off (0 + 0) cap ex i.size a cap' (by omega) g2 g3 g4 g5 (.inl h0)
              · obtain ⟨w', hrun, st', fr', _⟩ := storeA_sim s m1 hst hv hfl
                refine ⟨μ, .slice (some ⟨b, base + off, none⟩) (len + n) cap', w', ?_, ?_, st', fr'⟩
                · exact run_append_fits' (w' := w') (base := some ⟨b, base + off, none⟩) hu hxu hxi (by simp [sz, hi]) ln1 hf1 (by omega) (by
                    simp only [add0]; rw [Nat.add_assoc]; exact hrun)
                · exact .slice id off (len + n) cap ex i.size _ cap' hfit g2 g3 g4 g5 (.inr ⟨b, base, lim, m1, rfl, m3⟩)
            · cases hr
          · rename_i hfit
            split at hr
            · rename_i hb
              split at hr
              · rename_i c ro hg
                split at hr
                · rename_i hle
                  have hcap0 : cap' ≠ 0 ∨ cap' = 0 := by omega
                  have hold : ∃ olds : List Value, Vs μ ((c.drop off).take (len * i.size)) olds ∧ ((c.drop off).take (len * i.size)).all AV.flat = true ∧ ∀ W : World, W = w.drew → (Builtin.firstCells i.size len (.slice (some a) len cap')).run P W = .ok olds.toArray W := by
                    have hfA : firstA h i.size len (.slice id off len cap ex i.size) = some ((c.drop off).take (len * i.size)) := by simp [firstA, hg, hle]
                    obtain ⟨olds, o1, o2, o3⟩ := first_sim s.drew hfA (V.slice id off len cap ex i.size a cap' g1 g2 g3 g4 g5 g6) (fun m hm => by simp [lenA] at hm; omega)
                    exact ⟨olds, o2, o3, fun W hW => by subst hW; exact o1⟩
                  obtain ⟨olds, ov, of, orun⟩ := hold
                  have fresh : ¬ len + n ≤ cap' → ∃ μ' v' w', (Builtin.append_ #[st, xt] ty #[.slice (some a) len cap', y']).run P w = .ok v' w' ∧ V μ' (.slice h.next 0 (len + n) (len + n) false i.size) v' ∧ St P μ' (h.alloc (.cells ((c.drop off).take (len * i.size) ++ new) false)) w' ∧ Fr μ h w μ' (h.alloc (.cells ((c.drop off).take (len * i.size) ++ new) false)) w' ∧
                      (i.size = 1 ∧ i.bytes = 1 → ∀ b base lim, μ' h.next = some (b, base, lim) → ∃ arr t fr, w'.heap[b]? = some (.cells arr t fr) ∧ ∀ j, base + ((c.drop off).take (len * i.size) ++ new).length ≤ j → j < lim → ∃ n, arr[j]? = some (.int .u8 n) ∧ wfInt .u8 n = true) := by
                    intro hgr
                    obtain ⟨cap2, q1, q2, q3⟩ := run_append_new (ty := ty) hu hxu hxi hi hz ln1 hf1' orun hgr hb.1 hb.2
                    obtain ⟨μ', r1, r2, r3, r4⟩ := append_fresh (n := len + n) (e := e) (zs := (Builtin.zeroCells zv.cells (cap2 - (len + n))).toList) s (ov.append hv) (by rw [List.all_append, of, hfl]; rfl) (by
                      rw [List.length_append, hnl, Nat.add_mul]; congr 1; simp; omega) (by simp [zeroCells_len, hzs]) q1 q2 hpos (olds.toArray ++ vs.toArray ++ Builtin.zeroCells zv.cells (cap2 - (len + n))) (by simp)
                    exact ⟨μ', _, _, q3, r1, r2, r3, fun hb => r4 (zeroCells_u8 (hz8 hb) _)⟩
                  split at hr
                  · rename_i hex
                    cases hr
                    obtain ⟨μ', v', w', r0, r1, r2, r3, r4⟩ := fresh (by have := g3 hex; omega)
                    have hn := noted r2 (id := h.next) (by simp) (decide (i.size = 1 ∧ i.bytes = 1)) (by rw [Heap.get_alloc, if_pos rfl]) fun hb => r4 (of_decide_eq_true hb)
                    exact ⟨μ', v', w', r0, r1, hn.1, r3.trans hn.2⟩
                  · split at hr
                    · cases hr
                    · rename_i hro
                      cases hr
                      have hro' : ro = false := by simpa using hro
                      subst hro'
                      by_cases hroom : len + n ≤ cap'
                      · -- in place, beyond what is known
                        rcases g6 with h0 | ⟨b, base, lim, m1, rfl, m3⟩
                        · omega
                        · have hm : (len + n) * i.size ≤ cap' * i.size := Nat.mul_le_mul_right _ hroom
                          obtain ⟨w', hrun, st', fr', hrest⟩ := regrow s m1 hg hle (by rw [hnl, ← Nat.add_mul]; omega) hv hfl rfl
                          have hn := noted st' (id := h.next) (by simp) (decide (i.size = 1 ∧ i.bytes = 1) && h.byteAt id && decide (c.length ≤ off + (len + n))) (by
                            rw [Heap.get_set _ _ _ _ (by have := Heap.lt_of_get hg; simp; omega), if_neg (by have := Heap.lt_of_get hg; omega), Heap.get_alloc, if_pos rfl]) fun hb b1 base1 lim1 m => by
                              simp only [Bool.and_eq_true, decide_eq_true_eq] at hb
                              rw [muAdd_same] at m
                              cases m
                              exact hrest hb.1.2 (by rw [hnl, hb.1.1.1]; omega)
                          refine ⟨_, .slice (some ⟨b, base + off, none⟩) (len + n) cap', w', run_append_fits' (w' := w') (base := some ⟨b, base + off, none⟩) hu hxu hxi (by simp [sz, hi]) ln1 hf1 hroom (by simp only [add0]; exact hrun), ?_, hn.1, fr'.trans hn.2⟩
                          exact .slice h.next 0 (len + n) (len + n) false i.size _ cap' (Nat.le_refl _) hroom (fun h' => by cases h') g4 g5 (.inr ⟨b, base + off, lim, muAdd_same _ _ _, rfl, by omega⟩)
                      · obtain ⟨μ', v', w', r0, r1, r2, r3, r4⟩ := fresh hroom
                        have hk := r2.kill (id := id) (by have := Heap.lt_of_get hg; simp; omega)
                        have hn := noted hk.1 (id := h.next) (by simp) (decide (i.size = 1 ∧ i.bytes = 1) && h.byteAt id && decide (c.length ≤ off + (len + n))) (by
                          rw [Heap.get_set _ _ _ _ (by have := Heap.lt_of_get hg; simp; omega), if_neg (by have := Heap.lt_of_get hg; omega), Heap.get_alloc, if_pos rfl]) fun hb => by
                            simp only [Bool.and_eq_true, decide_eq_true_eq] at hb
                            exact r4 hb.1.1
                        exact ⟨μ', v', w', r0, r1, hn.1, (r3.trans hk.2).trans hn.2⟩
                · cases hr
              · cases hr
            · cases hr
        · cases hr
      | _ => simp at hr
end
end Go.Ya
namespace Go.Ya
set_option linter.unusedVariables false
set_option linter.unusedSimpArgs false
section
variable {P : Program} {μ : Mu} {h : Heap} {w : World}
theorem storeA_nil {id off : Nat} {h' : Heap} (e : storeA h id off [] = some h') : h'.get = h.get ∧ h'.next = h.next := by
  unfold storeA at e
  split at e
  · rename_i c hg
    split at e
    · cases e
      refine ⟨funext fun j => ?_, rfl⟩
      rw [Heap.get_set _ _ _ _ (Heap.lt_of_get hg)]
      split
      · subst_vars; rw [hg]; simp [splice]
      · rfl
    · cases e
  · cases e
theorem copy_sim (s : St P μ h w) {dt st ty e : TypeId} {esz : Nat} (hu : P.underlying dt = some (.slice e)) (hs : sz P e = some esz) {x y : AV} {x' y' : Value} (hx : V μ x x') (hy : V μ y y') {v : AV} {h' : Heap} (hr : copyA h esz x y = some (v, h')) (ts : Array TypeId) (ht : ts[0]? = some dt) :
    VDone P μ h w ((Builtin.copy_ ts ty #[x', y']).run P w) v h' := by
  unfold copyA at hr
  split at hr
  · rename_i dl sl hdl hsl
    simp only at hr
    split at hr
    · cases hr
    · rename_i new hnew
      obtain ⟨ls1, ls2⟩ := lenA_sim (P := P) (w := w) hsl hy
      obtain ⟨ld1, ld2⟩ := lenA_sim (P := P) (w := w) hdl hx
      obtain ⟨vs, hf1, hv, hfl⟩ := first_sim s hnew hy (fun m hm => by rw [hsl] at hm; cases hm; exact Nat.min_le_left _ _)
      have hmin : Nat.min sl dl ≤ 9223372036854775807 := Nat.le_trans (Nat.min_le_left _ _) ls2
      cases x with
      | nilsl =>
        cases hx
        cases hr
        simp [lenA] at hdl
        subst hdl
        have h0 : Nat.min sl 0 = 0 := Nat.min_zero _
        refine VDone.pure s (v' := .int .i64 0) ?_ (.int _ _ (by decide))
        rw [h0] at hf1
        simp only [Builtin.copy_, ht, List.getElem?_toArray, List.getElem?_cons_zero, List.getElem?_cons_succ, Sem.run_bind, und_run hu, Result.andThen_ok, ls1, sz_run hs, Nat.min_zero, hf1, Sem.run_pure, h0]
        rfl
      | slice id off len cap ex esz' =>
        simp only at hr
        split at hr
        · rename_i hes
          subst hes
          split at hr
          · rename_i h2 hst
            cases hr
            cases hx with | slice _ _ _ _ _ _ a cap' g1 g2 g3 g4 g5 g6 =>
            simp [lenA] at hdl
            subst hdl
            have main : ∀ w', (storeCells a vs).run P w = .ok () w' → (Builtin.copy_ ts ty #[.slice (some a) len cap', y']).run P w = .ok (.int .i64 (Nat.min sl len : Nat)) w' := by
              intro w' hw
              simp only [Builtin.copy_, ht, List.getElem?_toArray, List.getElem?_cons_zero, List.getElem?_cons_succ, Sem.run_bind, und_run hu, Result.andThen_ok, ls1, sz_run hs, hf1, hw, Sem.run_pure]
              rfl
            rcases g6 with h0 | ⟨b, base, lim, m1, rfl, m3⟩
            · have hl0 : len = 0 := by omega
              subst hl0
              have hnl : new = [] := by
                have : Nat.min sl 0 = 0 := Nat.min_zero _
                rw [this] at hnew
                unfold firstA at hnew
                split at hnew
                · cases hnew; rfl
                · split at hnew
                  · split at hnew
                    · split at hnew
                      · cases hnew; simp
                      · cases hnew
                    · cases hnew
                  · cases hnew
                · split at hnew
                  · cases hnew; simp
                  · cases hnew
                · cases hnew
              subst hnl
              cases hv
              obtain ⟨q1, q2⟩ := storeA_nil hst
              obtain ⟨k1, k2⟩ := s.same q1 q2
              exact ⟨μ, .int .i64 (Nat.min sl 0 : Nat), w, main w (by simp [storeCells]), .int _ _ (wf_nat hmin), k1, k2⟩
            · obtain ⟨w', hrun, st', fr', _⟩ := storeA_sim s m1 hst hv hfl
              exact ⟨μ, .int .i64 (Nat.min sl len : Nat), w', main w' hrun, .int _ _ (wf_nat hmin), st', fr'⟩
          · cases hr
        · cases hr
      | _ => simp at hr
  · cases hr
theorem zeroCells_list (zs : Array Value) (n : Nat) (hpos : 0 < zs.size) : (Builtin.zeroCells zs n).toList = (List.replicate n zs.toList).flatten := by
  have := rep_range zs n (n * zs.size) rfl hpos
  simpa [Builtin.zeroCells] using this
theorem clear_sim (s : St P μ h w) {t ty e : TypeId} {esz : Nat} {z : AV} (hu : P.underlying t = some (.slice e)) (hz : zeroA P e = some z) (hzl : z.cells.length = esz) (hzf : z.cells.all AV.flat = true) {x : AV} {x' : Value} (hx : V μ x x') {v : AV} {h' : Heap} (hr : clearA h z.cells esz x = some (v, h')) :
    VDone P μ h w ((Builtin.clear_ #[t] ty #[x']).run P w) v h' := by
  unfold clearA at hr
  split at hr
  · cases hx; cases hr
    exact VDone.pure s (v' := undef) (by simp [Builtin.clear_, und_run hu]; rfl) (.tuple [] #[] .nil)
  · rename_i id off len cap ex esz'
    split at hr
    · rename_i hes
      subst hes
      cases hx with | slice _ _ _ _ _ _ a cap' g1 g2 g3 g4 g5 g6 =>
      split at hr
      · rename_i h0
        subst h0
        cases hr
        exact VDone.pure s (v' := undef) (by simp [Builtin.clear_, und_run hu]; rfl) (.tuple [] #[] .nil)
      · rename_i h0
        split at hr
        · rename_i h2 hst
          cases hr
          obtain ⟨i, zv, hi, hzv, hV⟩ := zeroA_spec hz μ
          have hzs : zv.cells.size = z.cells.length := by have := hV.cells.len; simp at this; omega
          rcases g6 with hc0 | ⟨b, base, lim, m1, rfl, m3⟩
          · omega
          · obtain ⟨w', hrun, st', fr', _⟩ := storeA_sim s m1 hst (hV.cells.flatRep len) (flat_rep hzf len)
            refine ⟨μ, undef, w', ?_, .tuple [] #[] .nil, st', fr'⟩
            have hlen : ∃ k, len = k + 1 := ⟨len - 1, by omega⟩
            obtain ⟨k, rfl⟩ := hlen
            simp only [Builtin.clear_, List.getElem?_toArray, List.getElem?_cons_zero, Sem.run_bind, und_run hu, Result.andThen_ok, zero_run hi hzv]
            rw [zeroCells_list _ _ (by omega), hrun]
            rfl
        · cases hr
    · cases hr
  · cases hr
theorem len_sim (s : St P μ h w) {t ty : TypeId} {ek : EqK} (hk : (ek = .str ∧ P.underlying t = some .string) ∨ (ek = .sl ∧ ∃ e, P.underlying t = some (.slice e)) ∨ (ek = .map ∧ ∃ k e, P.underlying t = some (.map k e))) {x : AV} {x' : Value} (hx : V μ x x') {v : AV} {h' : Heap}
    (hr : (match (generalizing := false) ek, x with
    | .map, .nilmap => some (.int .i64 0, h)
    | .map, .map id =>
      match h.get id with
      | some (.map es) => some (.int .i64 es.length, h)
      | _ => none
    | .sl, .nilsl => some (.int .i64 0, h)
    | .sl, .slice _ _ len _ _ _ => some (.int .i64 len, h)
    | .str, .str s => some (.int .i64 s.length, h)
    | _, _ => none : AR) = some (v, h')) (ts : Array TypeId) (ht : ts[0]? = some t) (xs : List Value) (hm63 : ∀ id es, x = .map id → h.get id = some (.map es) → es.length ≤ 9223372036854775807) : VDone P μ h w ((Builtin.len_ ts ty (x' :: xs).toArray).run P w) v h' := by
  have hx0 : ((x' :: xs).toArray)[0]? = some x' := by simp
  rcases hk with ⟨rfl, hu⟩ | ⟨rfl, e, hu⟩ | ⟨rfl, k, e, hu⟩
  · cases x with
    | str l =>
      cases hr
      cases hx with | str _ st hst hsz =>
      subst hst
      rw [bytesOf_len]
      exact VDone.pure s (v' := .int .i64 st.size) (by simp [Builtin.len_, ht, und_run hu, goInt]) (.int _ _ (wf_nat hsz))
    | _ => simp at hr
  · cases x with
    | nilsl =>
      cases hr; cases hx
      exact VDone.pure s (v' := .int .i64 0) (by simp [Builtin.len_, ht, und_run hu, goInt]) (.int _ _ (by decide))
    | slice id off len cap ex esz =>
      cases hr
      cases hx
      exact VDone.pure s (v' := .int .i64 len) (by simp [Builtin.len_, ht, und_run hu, goInt]) (.int _ _ (wf_nat (by omega)))
    | _ => simp at hr
  · cases x with
    | nilmap =>
      cases hr; cases hx
      exact VDone.pure s (v' := .int .i64 0) (by simp [Builtin.len_, ht, und_run hu, goInt]) (.int _ _ (by decide))
    | map id =>
      simp only at hr
      split at hr
      · rename_i es hg
        cases hr
        cases hx with | map _ b base lim hm =>
        obtain ⟨es', clock, hb, hp, hst⟩ := s.r.obj id b base lim _ hm hg
        have hl : ∀ (a : List (AV × AV)) (c : List MapEntry), PairsR μ a c → a.length = c.length := by
          intro a
          induction a with
          | nil => intro c hc; cases c <;> simp [PairsR] at hc ⊢
          | cons p a ih =>
            intro c hc
            obtain ⟨k, v⟩ := p
            cases c with
            | nil => simp [PairsR] at hc
            | cons e c => simp only [List.length_cons]; rw [ih c hc.2.2]
        have := hl _ _ hp
        have hgo : (getObj b : Sem Obj).run P w = .ok (.map es' clock) w := by simp [getObj, Sem.run, hb]
        refine VDone.pure s (v' := .int .i64 es.length) ?_ (.int _ _ (wf_nat (hm63 id es rfl hg)))
        simp [Builtin.len_, ht, und_run hu, goInt, hgo, this]
      · cases hr
    | _ => simp at hr
theorem cap_sim (s : St P μ h w) {t ty e : TypeId} (hu : P.underlying t = some (.slice e)) {x : AV} {x' : Value} (hx : V μ x x') {v : AV} {h' : Heap}
    (hr : (match (generalizing := false) x with
    | .nilsl => some (.int .i64 0, h)
    | .slice _ _ _ cap true _ => some (.int .i64 cap, h)
    | _ => none : AR) = some (v, h')) (ts : Array TypeId) (ht : ts[0]? = some t) (xs : List Value) : VDone P μ h w ((Builtin.cap_ ts ty (x' :: xs).toArray).run P w) v h' := by
  cases x with
  | nilsl =>
    cases hr; cases hx
    exact VDone.pure s (v' := .int .i64 0) (by simp [Builtin.cap_, ht, und_run hu, goInt]) (.int _ _ (by decide))
  | slice id off len cap ex esz =>
    cases ex with
    | true =>
      cases hr
      cases hx with | slice _ _ _ _ _ _ a cap' g1 g2 g3 g4 g5 g6 =>
      have := g3 rfl
      subst this
      exact VDone.pure s (v' := .int .i64 cap') (by simp [Builtin.cap_, ht, und_run hu, goInt]) (.int _ _ (wf_nat g5))
    | false => simp at hr
  | _ => simp at hr
theorem min_sim (s : St P μ h w) : ∀ (ys : List AV) (ys' : List Value) (x : AV) (x' : Value) (v : AV), minA x ys = some v → V μ x x' → Vs μ ys ys' → VDone P μ h w ((ys'.foldlM Builtin.min2 x').run P w) v h
  | [], _, x, x', v, e, hx, .nil => by simp [minA] at e; subst e; exact VDone.pure s (by simp) hx
  | y :: ys, _, x, x', v, e, hx, .cons _ y' _ ys' hy hys => by
    cases x with
    | int k a =>
      cases y with
      | int k' b =>
        simp only [minA] at e
        split at e
        · rename_i hk
          subst hk
          cases hx with | int _ _ wa => cases hy with | int _ _ wb =>
          have := min_sim s ys ys' _ (.int k (if b < a then b else a)) v e (.int _ _ (min_wf _ wb wa)) hys
          simpa [List.foldlM_cons, Builtin.min2] using this
        · cases e
      | _ => simp [minA] at e
    | _ => simp [minA] at e
theorem max_sim (s : St P μ h w) : ∀ (ys : List AV) (ys' : List Value) (x : AV) (x' : Value) (v : AV), maxA x ys = some v → V μ x x' → Vs μ ys ys' → VDone P μ h w ((ys'.foldlM Builtin.max2 x').run P w) v h
  | [], _, x, x', v, e, hx, .nil => by simp [maxA] at e; subst e; exact VDone.pure s (by simp) hx
  | y :: ys, _, x, x', v, e, hx, .cons _ y' _ ys' hy hys => by
    cases x with
    | int k a =>
      cases y with
      | int k' b =>
        simp only [maxA] at e
        split at e
        · rename_i hk
          subst hk
          cases hx with | int _ _ wa => cases hy with | int _ _ wb =>
          have := max_sim s ys ys' _ (.int k (if b > a then b else a)) v e (.int _ _ (min_wf _ wb wa)) hys
          simpa [List.foldlM_cons, Builtin.max2] using this
        · cases e
      | _ => simp [maxA] at e
    | _ => simp [maxA] at e
end
end Go.Ya
namespace Go.Ya
set_option linter.unusedVariables false
set_option linter.unusedSimpArgs false
section
variable {P : Program} {μ : Mu} {h : Heap} {w : World}
theorem nilChk_sim (s : St P μ h w) {x : AV} {x' : Value} (hx : V μ x x') {v : AV} {h' : Heap}
    (hr : (match (generalizing := false) x with
    | .ptr id off => some (.ptr id off, h)
    | .func f a b => some (.func f a b, h)
    | .yieldf l => some (.yieldf l, h)
    | .iface t v => some (.iface t v, h)
    | _ => none : AR) = some (v, h')) :
    ∃ v', (∀ (o : Oper) (ρ : Operand → Value) (y : Operand), o.op = .nilCheck y → ρ y = x' → (execOp ρ o).run P w = .ok (.value v') w) ∧ V μ v v' ∧ h' = h := by
  cases x with
  | ptr id off =>
    cases hr
    refine ⟨x', fun o ρ y ho hy => ?_, hx, rfl⟩
    cases hx
    simp [execOp, ho, hy]
  | func f a b =>
    cases hr
    refine ⟨x', fun o ρ y ho hy => ?_, hx, rfl⟩
    cases hx
    simp [execOp, ho, hy]
  | yieldf l =>
    cases hr
    refine ⟨x', fun o ρ y ho hy => ?_, hx, rfl⟩
    cases hx
    simp [execOp, ho, hy]
  | iface t v =>
    cases hr
    refine ⟨x', fun o ρ y ho hy => ?_, hx, rfl⟩
    cases hx
    simp [execOp, ho, hy]
  | _ => simp at hr
theorem rangeStr_sim (s : St P μ h w) {t : TypeId} (ht : P.underlying t = some .string) {x : AV} {x' : Value} (hx : V μ x x') {v : AV} {h' : Heap}
    (hr : (match (generalizing := false) x with
    | .str s => some (.ptr h.next 0, h.alloc (.striter s 0))
    | _ => none : AR) = some (v, h')) : VDone P μ h w ((Instr.range t x').run P w) v h' := by
  cases x with
  | str l =>
    cases hr
    cases hx with | str _ st hst hsz =>
    subst hst
    obtain ⟨h1, h2⟩ := allocObj_sim s (.striter (bytesOf st) 0) (.stringIter st 0) (notMark _ _) ⟨st, alloc_new w _, rfl, hsz, rfl⟩
    refine ⟨_, .pointer (some ⟨w.heap.size, 0, none⟩), _, ?_, .ptr h.next 0 w.heap.size 0 0 (muAdd_same _ _ _), h1, h2⟩
    simp [Instr.range, und_run ht]
  | _ => simp at hr
theorem toBA_bytesOf (st : ByteArray) : toBA (bytesOf st) = st := by
  apply bytesOf_inj
  exact bytesOf_mk _ (bytesOf_wf st)
theorem decode_bound (st : ByteArray) (pos : Nat) : (Utf8.decode st pos).1 ≤ 2147483647 := by
  unfold Utf8.decode
  have hb : ∀ k, (st.get! (pos + k)).toNat < 256 := fun k => (st.get! (pos + k)).toNat_lt
  simp only [Utf8.runeError]
  repeat' split
  all_goals (try (simp only []; have := hb 0; have := hb 1; have := hb 2; have := hb 3; omega))
theorem nextStr_sim (s : St P μ h w) (ty : TypeId) {x : AV} {x' : Value} (hx : V μ x x') {v : AV} {h' : Heap}
    (hr : (match (generalizing := false) x with
    | .ptr id 0 =>
      match h.get id with
      | some (.striter s pos) =>
        if pos < s.length then
          let d := Utf8.decode (toBA s) pos
          some (.tuple [.bool true, .int .i64 pos, .int .i32 d.1], h.set id (.striter s (pos + d.2)))
        else some (.tuple [.bool false], h)
      | _ => none
    | _ => none : AR) = some (v, h')) : VDone P μ h w ((Instr.next x' true ty).run P w) v h' := by
  cases x with
  | ptr id off =>
    cases off with
    | succ n => simp at hr
    | zero =>
      simp only at hr
      split at hr
      · rename_i l pos hg
        cases hx with | ptr _ _ b base lim hm =>
        obtain ⟨ba, hb, hba, hsz, hbase⟩ := s.r.obj id b base lim _ hm hg
        subst hbase; subst hba
        have hgo : (getObj b : Sem Obj).run P w = .ok (.stringIter ba pos) w := by simp [getObj, Sem.run, hb]
        have hbs : b < w.heap.size := (Array.getElem?_eq_some_iff.1 hb).1
        rw [bytesOf_len] at hr
        split at hr
        · rename_i hlt
          simp only [toBA_bytesOf] at hr
          cases hr
          have hset : (setObj b (.stringIter ba (pos + (Utf8.decode ba pos).2)) : Sem Unit).run P w = .ok () { w with heap := w.heap.setIfInBounds b (.stringIter ba (pos + (Utf8.decode ba pos).2)) } := by
            simp [setObj, Sem.run, hb]
          have hw := s.r.write (w' := { w with heap := w.heap.setIfInBounds b (.stringIter ba (pos + (Utf8.decode ba pos).2)) }) hm hg rfl (o' := .striter (bytesOf ba) (pos + (Utf8.decode ba pos).2)) rfl (by simp) rfl rfl rfl
            (fun j hj => by simp only []; rw [Array.getElem?_setIfInBounds_ne (Ne.symm hj)]) ⟨ba, by simp [hbs], rfl, hsz, rfl⟩
          refine ⟨μ, .tuple #[.bool true, .int .i64 pos, .int .i32 (Utf8.decode ba pos).1], _, ?_, ?_, ⟨hw.1, s.bd, s.mkd.write s.r hm hg rfl (o' := .striter (bytesOf ba) (pos + (Utf8.decode ba pos).2)) (notMark _ _) (fun j hj => by simp only []; rw [Array.getElem?_setIfInBounds_ne (Ne.symm hj)]) (fun _ _ e => by cases e), s.tb.fr hw.2⟩, hw.2⟩
          · simp only [Instr.next, Sem.run_bind, hgo, Result.andThen_ok, hlt, if_true, hset, Nat.add_zero]
            rfl
          · refine .tuple _ _ (.cons _ _ _ _ (.bool _) (.cons _ _ _ _ (.int _ _ (wf_nat (by omega))) (.cons _ _ _ _ (.int _ _ ?_) .nil)))
            have := decode_bound ba pos
            refine wf_of ?_ ?_ <;> simp [IntKind.min, IntKind.max, IntKind.signed, IntKind.bits] <;> omega
        · rename_i hlt
          cases hr
          refine VDone.pure s (v' := .tuple #[.bool false]) ?_ (.tuple _ _ (.cons _ _ _ _ (.bool _) .nil))
          simp only [Instr.next, Sem.run_bind, hgo, Result.andThen_ok, hlt, if_false, Nat.add_zero]
          rfl
      · cases hr
  | _ => simp at hr
theorem run_append_zero {st xt ty e : TypeId} {i : TypeInfo} {zv : Value} {l : Nat} (hu : P.underlying st = some (.slice e)) (hxu : P.underlying xt = some (.int .i64))
    (hi : P.info? e = some i) (hz : i.zero = some zv) (hpos : 0 < l) (hsz : 0 < i.size) (hb1 : l * i.bytes ≤ 140737488355328) (hb2 : l ≤ 140737488355328) :
    ∃ cap, l ≤ cap ∧ cap ≤ 9223372036854775807 ∧ (Builtin.append_ #[st, xt] ty #[.slice none 0 0, .int .i64 l]).run P w =
      .ok (.slice (some ⟨w.heap.size, 0, none⟩) l cap) (w.drew.alloc (.cells (Builtin.zeroCells zv.cells l ++ Builtin.zeroCells zv.cells (cap - l)) e)) := by
  generalize hcap : (Question.appendCap l 0 e).cut (w.tape w.drawn (.appendCap l 0 e)) = cap
  refine ⟨cap, by subst hcap; simp [Question.cut], ?_, ?_⟩
  · subst hcap; simp only [Question.cut]
    have : w.tape w.drawn (.appendCap l 0 e) % (2 ^ 63 - l) < 2 ^ 63 - l := Nat.mod_lt _ (by omega)
    omega
  · have hnx : ¬ (Builtin.nextslicecap l 0 * i.bytes > 2 ^ 48) := by
      have := growslice_fits (bytes := i.bytes) (need := l) (old := 0) (by omega) hb1
      omega
    have h63 : ¬ ((((l : Nat) : Int) > IntKind.i64.max) ∧ (True ∨ i.bytes = 0)) := by
      simp [IntKind.max, IntKind.signed, IntKind.bits]; omega
    have hd : (w.drew).heap.size = w.heap.size := rfl
    have hw : IntKind.i64.wrap (l : Int) = l := IntWalk.i64_in _ (by omega)
    have ha : ∀ W : World, (asInt (.int .i64 (l : Int))).run P W = .ok (l : Int) W := fun W => by simp [asInt, asIntOf]
    have hg : ¬ l ≤ 0 := by omega
    have hl0 : ¬ ((l : Int) < 0) := by omega
    have hbb : ¬ ((l : Int) * (i.bytes : Int) > 2 ^ 48) := by
      have := Int.ofNat_le.2 hb1
      rw [Int.natCast_mul] at this
      omega
    have hn0 : ¬ l * i.size = 0 := by
      have := Nat.mul_pos hpos hsz
      omega
    simp only [Builtin.append_]
    simp only [List.getElem?_toArray, List.getElem?_cons_zero, List.getElem?_cons_succ, Sem.run_bind, und_run hu, Result.andThen_ok, sz_run (P := P) (w := w) (t := e) (n := i.size) (by simp [sz, hi]), und_run hxu, Sem.run_pure]
    have hti : ∀ W : World, (typeInfo e).run P W = .ok i W := fun W => by simp [typeInfo, hi]
    simp only [if_true, Sem.run_bind, ha, Sem.run_pure, Result.andThen_ok, hw, hl0, if_false, hti, hbb, Int.toNat_natCast, Nat.zero_add, hg, h63, hnx, run_choose, Question.forced, hcap, Bool.false_eq_true, World.drew_eq, run_askRoom, Builtin.firstCells, hn0, Bool.not_true, zero_run hi hz, run_newRow, hd]
    simp
theorem appendZ_sim (s : St P μ h w) {st xt ty e : TypeId} {i : TypeInfo} {zv : Value} {z : AV} (hu : P.underlying st = some (.slice e)) (hxu : P.underlying xt = some (.int .i64)) (hi : P.info? e = some i) (hz : i.zero = some zv) (hV : V μ z zv) (hzl : z.cells.length = i.size) (hzf : z.cells.all AV.flat = true) (hpos : 0 < i.size) (hz8 : i.size = 1 ∧ i.bytes = 1 → zv = .int .u8 0)
    {x y : AV} {x' y' : Value} (hx : V μ x x') (hy : V μ y y') {v : AV} {h' : Heap} (hr : appendZA h z.cells i.size i.bytes x y = some (v, h')) : VDone P μ h w ((Builtin.append_ #[st, xt] ty #[x', y']).run P w) v h' := by
  unfold appendZA at hr
  split at hr
  · rename_i n
    cases hx
    cases hy with | int _ _ hwf =>
    have hzs : zv.cells.size = i.size := by have := hV.cells.len; simp at this; omega
    split at hr
    · rename_i h0
      subst h0
      cases hr
      refine VDone.pure s (v' := .slice none 0 0) ?_ .nilsl
      have hti : ∀ W : World, (typeInfo e).run P W = .ok i W := fun W => by simp [typeInfo, hi]
      simp only [Builtin.append_]
      simp only [List.getElem?_toArray, List.getElem?_cons_zero, List.getElem?_cons_succ, Sem.run_bind, und_run hu, Result.andThen_ok, sz_run (P := P) (w := w) (t := e) (n := i.size) (by simp [sz, hi]), und_run hxu, Sem.run_pure]
      have hw : IntKind.i64.wrap (0 : Int) = 0 := by decide
      have ha : ∀ W : World, (asInt (.int .i64 (0 : Int))).run P W = .ok (0 : Int) W := fun W => by simp [asInt, asIntOf]
      simp [ha, hw, hti]
    · rename_i h0
      split at hr
      · rename_i hb
        cases hr
        obtain ⟨l, rfl⟩ : ∃ l : Nat, n = (l : Int) := ⟨n.toNat, by omega⟩
        simp only [Int.toNat_natCast] at *
        obtain ⟨cap, q1, q2, q3⟩ := run_append_zero (w := w) (ty := ty) hu hxu hi hz (by omega) hpos hb.2.1 hb.2.2
        have hvs : Vs μ (List.replicate l z.cells).flatten (Builtin.zeroCells zv.cells l).toList := by
          rw [zeroCells_list _ _ (by omega)]
          exact hV.cells.flatRep l
        have hfl : (List.replicate l z.cells).flatten.all AV.flat = true := by
          rw [List.all_eq_true] at hzf ⊢
          intro a ha
          obtain ⟨q, hq, ha⟩ := List.mem_flatten.1 ha
          rw [List.eq_of_mem_replicate hq] at ha
          exact hzf a ha
        obtain ⟨μ', g1, g2, g3, g4⟩ := append_fresh (e := e) (zs := (Builtin.zeroCells zv.cells (cap - l)).toList) s hvs hfl (by simp [hzl]) (by simp [zeroCells_len, hzs]) q1 q2 hpos (Builtin.zeroCells zv.cells l ++ Builtin.zeroCells zv.cells (cap - l)) (by simp)
        have hn := noted g2 (id := h.next) (by simp) (decide (i.size = 1 ∧ i.bytes = 1)) (by rw [Heap.get_alloc, if_pos rfl]) fun hb => g4 (zeroCells_u8 (hz8 (of_decide_eq_true hb)) _)
        exact ⟨μ', _, _, q3, g1, hn.1, g3.trans hn.2⟩
      · cases hr
  · cases hr
end
end Go.Ya
namespace Go.Ya
set_option linter.unusedVariables false
set_option linter.unusedSimpArgs false
section
variable {P : Program} {μ : Mu} {h : Heap} {w : World}
def KeyT (sk : Bool) : TypeDesc → Prop
  | .int _ => sk = false
  | .string => sk = true
  | _ => False
theorem same_now {sk : Bool} {kd : TypeDesc} (hk : KeyT sk kd) {k k2 : AV} {v v2 : Value} (h1 : isKey sk k = true) (hv : V μ k v) (hv2 : V μ k2 v2) {b : Bool} (e : keyIs k k2 = some b) : Instr.sameNow kd v v2 = some b := by
  cases kd <;> simp only [KeyT] at hk
  · subst hk
    cases k <;> simp [isKey] at h1
    cases k2 <;> simp [keyIs] at e
    cases hv; cases hv2
    obtain ⟨e1, e2⟩ := e
    subst e1
    simp [Instr.sameNow, e2]
  · subst hk
    cases k <;> simp [isKey] at h1
    cases k2 <;> simp [keyIs] at e
    cases hv with | str _ s hs hs2 => cases hv2 with | str _ t ht ht2 =>
    subst hs; subst ht
    simp only [Instr.sameNow]
    rw [beq_toListBytes, ← bytesOf_beq, e]
theorem find_now {sk : Bool} {kd : TypeDesc} (hk : KeyT sk kd) {k : AV} {v : Value} (h1 : isKey sk k = true) (hv : V μ k v) : ∀ {es : List (AV × AV)} {es' : List MapEntry} {i : Nat} {r : Option AV}, PairsR μ es es' → findA k es = some r →
    ∃ r', Instr.findNow kd v es' i = some r' ∧ ((r = none ∧ r' = none) ∨ ∃ a j x, r = some a ∧ r' = some (j, x) ∧ V μ a x)
  | [], [], i, r, _, e => by
    simp only [findA, Option.some.injEq] at e
    subst e
    exact ⟨none, rfl, .inl ⟨rfl, rfl⟩⟩
  | [], _ :: _, _, _, hp, _ => by simp [PairsR] at hp
  | (k2, a) :: es, [], _, _, hp, _ => by simp [PairsR] at hp
  | (k2, a) :: es, e' :: es', i, r, hp, e => by
    obtain ⟨p1, p2, p3⟩ := hp
    simp only [findA] at e
    cases hq : keyIs k k2 with
    | none => rw [hq] at e; cases e
    | some b =>
      rw [hq] at e
      have hs := same_now hk h1 hv p1 hq
      cases b with
      | true =>
        cases e
        exact ⟨_, by simp [Instr.findNow, hs], .inr ⟨a, i, e'.val, rfl, rfl, p2⟩⟩
      | false =>
        obtain ⟨r', q1, q2⟩ := find_now hk h1 hv (i := i + 1) p3 e
        exact ⟨r', by simp [Instr.findNow, hs, q1], q2⟩
theorem checkKey_succ {sk : Bool} {kt : TypeId} {kd : TypeDesc} (hu : P.underlying kt = some kd) (hk : KeyT sk kd) {k : AV} {v : Value} (h1 : isKey sk k = true) (hv : V μ k v) (e : Bool) (n : Nat) : (Instr.checkKey e (n + 1) kt v).run P w = .ok () w := by
  cases kd <;> simp only [KeyT] at hk
  · subst hk
    cases k <;> simp [isKey] at h1
    cases hv
    simp [Instr.checkKey, und_run hu]
  · subst hk
    cases k <;> simp [isKey] at h1
    cases hv
    simp [Instr.checkKey, und_run hu]
theorem checkKey_run {sk : Bool} {kt : TypeId} {kd : TypeDesc} (hu : P.underlying kt = some kd) (hk : KeyT sk kd) {k : AV} {v : Value} (h1 : isKey sk k = true) (hv : V μ k v) (e : Bool) : (Instr.checkKey e 10000 kt v).run P w = .ok () w :=
  checkKey_succ hu hk h1 hv e 9999
theorem lookup_sim (s : St P μ h w) {t kt et : TypeId} {kd : TypeDesc} {sk : Bool} {zero : AV} {ok : Bool} (hu : P.underlying t = some (.map kt et)) (hz : zeroA P et = some zero) (hkd : P.underlying kt = some kd) (hk : KeyT sk kd) {x k : AV} {x' k' : Value} (hx : V μ x x') (hkv : V μ k k') {v : AV} {h' : Heap}
    (hr : (match (generalizing := false) (match (generalizing := false) x with
      | .nilmap => some []
      | .map id => match h.get id with
        | some (.map es) => some es
        | _ => none
      | _ => none : Option (List (AV × AV))) with
    | none => none
    | some es =>
      if isKey sk k then
        match findA k es with
        | none => none
        | some r =>
          let v := r.getD zero
          some (if ok then .tuple [v, .bool r.isSome] else v, h)
      else none : AR) = some (v, h')) : VDone P μ h w ((Instr.lookup t x' k' ok).run P w) v h' := by
  have main : ∀ (es : List (AV × AV)) (es' : Array MapEntry), PairsR μ es es'.toList → (∀ r', (Instr.findKey kt k' es'.toList).run P w = .ok r' w → (Instr.checkKey es'.isEmpty 10000 kt k').run P w = .ok () w →
        (Instr.lookup t x' k' ok).run P w = (match (generalizing := false) r' with | some p => .ok (if ok then .tuple #[p.2, .bool true] else p.2) w | none => ((zeroValue et : Sem Value).run P w).andThen fun z w => .ok (if ok then .tuple #[z, .bool false] else z) w)) →
      (if isKey sk k then
        match findA k es with
        | none => none
        | some r =>
          let v := r.getD zero
          some (if ok then .tuple [v, .bool r.isSome] else v, h)
      else none : AR) = some (v, h') → VDone P μ h w ((Instr.lookup t x' k' ok).run P w) v h' := by
    intro es es' hp hl hr
    split at hr
    case isFalse => cases hr
    rename_i h1
    cases hf : findA k es with
    | none => rw [hf] at hr; cases hr
    | some r =>
      rw [hf] at hr
      simp only at hr
      cases hr
      obtain ⟨r', q1, q2⟩ := find_now hk h1 hkv (i := 0) hp hf
      obtain ⟨i, zv, hi, hzv, hV⟩ := zeroA_spec hz μ
      have hzr : (zeroValue et : Sem Value).run P w = .ok zv w := by simp [zeroValue, typeInfo, hi, hzv]
      have hck := checkKey_run (w := w) hkd hk h1 hkv es'.isEmpty
      have hfk : (Instr.findKey kt k' es'.toList).run P w = .ok r' w := by simp [Instr.findKey, und_run hkd, q1]
      have hlk := hl r' hfk hck
      rcases q2 with ⟨rfl, rfl⟩ | ⟨a, j, y, rfl, rfl, q3⟩
      · refine VDone.pure s (v' := if ok then .tuple #[zv, .bool false] else zv) ?_ ?_
        · rw [hlk]; simp [hzr]
        · cases ok
          · exact hV
          · exact .tuple _ _ (.cons _ _ _ _ hV (.cons _ _ _ _ (.bool _) .nil))
      · refine VDone.pure s (v' := if ok then .tuple #[y, .bool true] else y) ?_ ?_
        · rw [hlk]
        · cases ok
          · exact q3
          · exact .tuple _ _ (.cons _ _ _ _ q3 (.cons _ _ _ _ (.bool _) .nil))
  cases x with
  | nilmap =>
    cases hx
    refine main [] #[] trivial (fun r' h1 h2 => ?_) hr
    unfold Instr.lookup
    simp only [Sem.run_bind, und_run hu, Result.andThen_ok, Sem.run_pure, h1, h2]
    rcases r' with _ | ⟨j, y⟩
    · simp only [Sem.run_bind]
      cases (zeroValue et : Sem Value).run P w <;> rfl
    · rfl
  | map id =>
    simp only at hr
    cases hg : h.get id with
    | none => rw [hg] at hr; simp at hr
    | some o =>
      rw [hg] at hr
      cases o with
      | map es =>
        cases hx with | map _ b base lim hm =>
        obtain ⟨es', clock, hb, hp, hst⟩ := s.r.obj id b base lim _ hm hg
        have hgo : (getObj b : Sem Obj).run P w = .ok (.map es' clock) w := by simp [getObj, Sem.run, hb]
        refine main es es' hp (fun r' h1 h2 => ?_) hr
        unfold Instr.lookup
        simp only [Sem.run_bind, und_run hu, Result.andThen_ok, Sem.run_pure, hgo, h1, h2]
        rcases r' with _ | ⟨j, y⟩
        · simp only [Sem.run_bind]
          cases (zeroValue et : Sem Value).run P w <;> rfl
        · rfl
      | _ => simp at hr
  | _ => simp at hr
theorem same_bits {k k2 : AV} {v v2 : Value} (hv : V μ k v) (hv2 : V μ k2 v2) (e : keyIs k k2 = some true) : Instr.sameBits 10000 v2 v = true := by
  cases k <;> cases k2 <;> simp [keyIs] at e
  · cases hv; cases hv2
    obtain ⟨rfl, rfl⟩ := e
    simp [Instr.sameBits]
  · cases hv with | str _ s hs hs2 => cases hv2 with | str _ t ht ht2 =>
    subst hs; subst ht
    have : s = t := bytesOf_inj e
    subst this
    simp only [Instr.sameBits]
    rw [beq_toListBytes]
    exact beq_self_eq_true _
theorem put_pairs {sk : Bool} {kd : TypeDesc} (hk : KeyT sk kd) {k x : AV} {k' x' : Value} (h1 : isKey sk k = true) (hv : V μ k k') (hx : V μ x x') (born : Nat) : ∀ {es : List (AV × AV)} {es' : List MapEntry} {i : Nat} {es2 : List (AV × AV)}, PairsR μ es es' → putA k x es = some es2 →
    (∃ j y e0, Instr.findNow kd k' es' i = some (some (i + j, y)) ∧ es'[j]? = some e0 ∧ Instr.sameBits 10000 e0.key k' = true ∧ PairsR μ es2 (es'.modify j fun e => { e with key := k', val := x' })) ∨
      (Instr.findNow kd k' es' i = some none ∧ PairsR μ es2 (es' ++ [{ key := k', val := x', born := born }]))
  | [], [], i, es2, _, e => by
    simp only [putA, Option.some.injEq] at e
    subst e
    exact .inr ⟨rfl, hv, hx, trivial⟩
  | [], _ :: _, _, _, hp, _ => by simp [PairsR] at hp
  | (k2, a) :: es, [], _, _, hp, _ => by simp [PairsR] at hp
  | (k2, a) :: es, e' :: es', i, es2, hp, e => by
    obtain ⟨p1, p2, p3⟩ := hp
    simp only [putA] at e
    cases hq : keyIs k k2 with
    | none => rw [hq] at e; cases e
    | some b =>
      rw [hq] at e
      have hs := same_now hk h1 hv p1 hq
      cases b with
      | true =>
        cases e
        refine .inl ⟨0, e'.val, e', by simp [Instr.findNow, hs], rfl, same_bits hv p1 hq, ?_⟩
        simp only [List.modify_zero_cons]
        exact ⟨hv, hx, p3⟩
      | false =>
        simp only [Option.map_eq_some_iff] at e
        obtain ⟨es3, e3, rfl⟩ := e
        rcases put_pairs hk h1 hv hx born (i := i + 1) p3 e3 with ⟨j, y, e0, q1, q2, q3, q4⟩ | ⟨q1, q2⟩
        · refine .inl ⟨j + 1, y, e0, by simp [Instr.findNow, hs, q1]; omega, by simpa using q2, q3, ?_⟩
          simp only [List.modify_succ_cons]
          exact ⟨p1, p2, q4⟩
        · exact .inr ⟨by simp [Instr.findNow, hs, q1], p1, p2, q2⟩
theorem mapUpdate_sim (s : St P μ h w) {t kt et : TypeId} {kd : TypeDesc} {sk : Bool} (hu : P.underlying t = some (.map kt et)) (hkd : P.underlying kt = some kd) (hk : KeyT sk kd) {m k x : AV} {m' k' x' : Value} (hm : V μ m m') (hkv : V μ k k') (hx : V μ x x') {v : AV} {h' : Heap}
    (hr : (match (generalizing := false) m with
    | .map id =>
      match h.get id with
      | some (.map es) =>
        if isKey sk k then
          match putA k x es with
          | some es' => some (undefA, h.set id (.map es'))
          | none => none
        else none
      | _ => none
    | _ => none : AR) = some (v, h')) : v = undefA ∧ UDone P μ h w ((Instr.mapUpdate t m' k' x').run P w) h' := by
  cases m with
  | map id =>
    simp only at hr
    cases hg : h.get id with
    | none => rw [hg] at hr; simp at hr
    | some o =>
      rw [hg] at hr
      cases o with
      | map es =>
        simp only at hr
        split at hr
        case isFalse => cases hr
        rename_i h1
        cases hp2 : putA k x es with
        | none => rw [hp2] at hr; cases hr
        | some es2 =>
          rw [hp2] at hr
          cases hr
          refine ⟨rfl, ?_⟩
          cases hm with | map _ b base lim hmu =>
          obtain ⟨es', clock, hb, hp, hst⟩ := s.r.obj id b base lim _ hmu hg
          have hbs : b < w.heap.size := (Array.getElem?_eq_some_iff.1 hb).1
          have hgo : (getObj b : Sem Obj).run P w = .ok (.map es' clock) w := by simp [getObj, Sem.run, hb]
          have hck := checkKey_run (w := w) hkd hk h1 hkv false
          have fin : ∀ ob : Obj, (∃ es3 : Array MapEntry, ∃ c : Nat, ob = .map es3 c ∧ PairsR μ es2 es3.toList ∧ Stampd es3 c) → (Instr.mapUpdate t (.map (some b)) k' x').run P w = (setObj b ob : Sem Unit).run P w → UDone P μ h w ((Instr.mapUpdate t (.map (some b)) k' x').run P w) (h.set id (.map es2)) := by
            rintro ob ⟨es3, c, rfl, hp3, hst3⟩ hrun
            have hset : (setObj b (.map es3 c) : Sem Unit).run P w = .ok () { w with heap := w.heap.setIfInBounds b (.map es3 c) } := by
              simp [setObj, Sem.run, hb]
            have hw := s.r.write (w' := { w with heap := w.heap.setIfInBounds b (.map es3 c) }) hmu hg rfl (o' := .map es2) rfl (by simp) rfl rfl rfl
              (fun j hj => by simp only []; rw [Array.getElem?_setIfInBounds_ne (Ne.symm hj)]) ⟨es3, c, by simp [hbs], hp3, hst3⟩
            exact ⟨μ, _, hrun.trans hset, ⟨hw.1, s.bd, s.mkd.write s.r hmu hg rfl (o' := .map es2) rfl (fun j hj => by simp only []; rw [Array.getElem?_setIfInBounds_ne (Ne.symm hj)]) (fun _ _ e => by cases e), s.tb.fr hw.2⟩, hw.2⟩
          rcases put_pairs hk h1 hkv hx clock (i := 0) hp hp2 with ⟨j, y, e0, q1, q2, q3, q4⟩ | ⟨q1, q2⟩
          · have hfk : (Instr.findKey kt k' es'.toList).run P w = .ok (some (j, y)) w := by simp [Instr.findKey, und_run hkd, q1]
            have hej : es'[j]? = some e0 := by rw [← Array.getElem?_toList]; exact q2
            refine fin (.map (es'.modify j fun e => { e with key := k', val := x' }) clock) ⟨_, clock, rfl, by rw [Array.toList_modify]; exact q4, stampd_modify hst _ _ fun _ => rfl⟩ ?_
            unfold Instr.mapUpdate
            simp only [Sem.run_bind, und_run hu, Result.andThen_ok, hgo, hck, hfk, hej, Option.map_some, Option.getD_some, Instr.keyThatStays, q3, if_true, Sem.run_pure]
          · have hfk : (Instr.findKey kt k' es'.toList).run P w = .ok none w := by simp [Instr.findKey, und_run hkd, q1]
            refine fin (.map (es'.push { key := k', val := x', born := clock }) (clock + 1)) ⟨_, clock + 1, rfl, by rw [Array.toList_push]; exact q2, stampd_push hst⟩ ?_
            unfold Instr.mapUpdate
            simp only [Sem.run_bind, und_run hu, Result.andThen_ok, hgo, hck, hfk]
      | _ => simp at hr
  | _ => simp at hr
theorem mkMap_sim (s : St P μ h w) {t : TypeId} : VDone P μ h w ((Instr.makeMap t none).run P w) (.map h.next) (h.alloc (.map [])) := by
  obtain ⟨h1, h2⟩ := allocObj_sim s (.map []) (.map #[] 0) rfl ⟨#[], 0, alloc_new w _, trivial, stampd_empty 0⟩
  refine ⟨_, .map (some w.heap.size), _, ?_, .map h.next w.heap.size 0 0 (muAdd_same _ _ _), h1, h2⟩
  simp [Instr.makeMap]
theorem mkMap_hint (s : St P μ h w) {t kt et : TypeId} {kd : IntKind} {n : Int} (hu : P.underlying t = some (.map kt et)) : VDone P μ h w ((Instr.makeMap t (some (.int kd n))).run P w) (.map h.next) (h.alloc (.map [])) := by
  obtain ⟨h1, h2⟩ := allocObj_sim s (.map []) (.map #[] 0) rfl ⟨#[], 0, alloc_new w _, trivial, stampd_empty 0⟩
  refine ⟨_, .map (some w.heap.size), _, ?_, .map h.next w.heap.size 0 0 (muAdd_same _ _ _), h1, h2⟩
  simp [Instr.makeMap, und_run hu, asInt, asIntOf]
end
end Go.Ya
namespace Go.Ya
set_option linter.unusedVariables false
set_option linter.unusedSimpArgs false
def OpDone (P : Program) (μ : Mu) (h : Heap) (w : World) (res : Result Next) (v : AV) (h' : Heap) : Prop :=
  ∃ μ' v' w', (res = .ok (.value v') w' ∨ (res = .ok .skip w' ∧ v' = undef)) ∧ V μ' v v' ∧ St P μ' h' w' ∧ Fr μ h w μ' h' w'
def SOp.isCall : SOp → Bool
  | .call .. | .callV .. | .invoke .. => true
  | _ => false
section
variable {P : Program} {μ : Mu} {h : Heap} {w : World}
theorem VDone.op {x : Sem Value} {v : AV} {h' : Heap} (d : VDone P μ h w (x.run P w) v h') : OpDone P μ h w ((x >>= fun r => Pure.pure (Next.value r) : Sem Next).run P w) v h' := by
  obtain ⟨μ', v', w', e, hv, s, f⟩ := d
  exact ⟨μ', v', w', .inl (by simp [e]), hv, s, f⟩
theorem UDone.op {x : Sem Unit} {h' : Heap} (d : UDone P μ h w (x.run P w) h') : OpDone P μ h w ((x >>= fun _ => Pure.pure Next.skip : Sem Next).run P w) undefA h' := by
  obtain ⟨μ', w', e, s, f⟩ := d
  exact ⟨μ', undef, w', .inr ⟨by simp [e], rfl⟩, .tuple [] #[] .nil, s, f⟩
theorem OpDone.same (s : St P μ h w) {v : AV} {v' : Value} {res : Result Next} (e : res = .ok (.value v') w) (hv : V μ v v') : OpDone P μ h w res v h := ⟨μ, v', w, .inl e, hv, s, .refl _ _ _⟩
theorem assert_same {t xt : TypeId} {d : TypeDesc} (hd : P.underlying t = some d) (hni : ∀ m, d ≠ .interface m) (ok : Bool) (v' : Value) : (Instr.typeAssert (.iface t v') xt t ok).run P w = .ok (if ok = true then .tuple #[v', .bool true] else v') w := by
  simp only [Instr.typeAssert, Sem.run_bind, und_run hd, Result.andThen_ok]
  cases d <;> first | exact absurd rfl (hni _) | (simp; done) | simp
theorem assert_not {t t' xt : TypeId} {d : TypeDesc} (hd : P.underlying t = some d) (hni : ∀ m, d ≠ .interface m) {i : TypeInfo} {zv : Value} (hi : P.info? t = some i) (hz : i.zero = some zv) (hne : ¬ t' = t) (v' : Value) : (Instr.typeAssert (.iface t' v') xt t true).run P w = .ok (.tuple #[zv, .bool false]) w := by
  have hzr : (zeroValue t : Sem Value).run P w = .ok zv w := by simp [zeroValue, typeInfo, hi, hz]
  simp only [Instr.typeAssert, Sem.run_bind, und_run hd, Result.andThen_ok]
  cases d <;> first | exact absurd rfl (hni _) | (simp [hne, hzr]; done)
theorem assert_nil {t xt : TypeId} {d : TypeDesc} (hd : P.underlying t = some d) (hni : ∀ m, d ≠ .interface m) {i : TypeInfo} {zv : Value} (hi : P.info? t = some i) (hz : i.zero = some zv) : (Instr.typeAssert .nilIface xt t true).run P w = .ok (.tuple #[zv, .bool false]) w := by
  have hzr : (zeroValue t : Sem Value).run P w = .ok zv w := by simp [zeroValue, typeInfo, hi, hz]
  simp only [Instr.typeAssert, Sem.run_bind, und_run hd, Result.andThen_ok]
  cases d <;> first | exact absurd rfl (hni _) | (simp [hzr]; done)
theorem builtin_sim (s : St P μ h w) {tm : List AV} {a : Act} (ht : Vs μ tm a.tmps.toList) {call : Tgt → List AV → Heap → AR} {c : Call} {b : Builtin} (hb : c.callee = .builtin b) {sop : SOp} (hc : cCall P c = some sop) {v : AV} {h' : Heap} (hr : aop call tm h sop = some (v, h')) (ty : TypeId) :
    OpDone P μ h w ((resolve a.eval c ty >>= fun d => invoke d.target d.args : Sem Next).run P w) v h' := by
  have hres : (resolve a.eval c ty >>= fun d => invoke d.target d.args : Sem Next).run P w = (builtin b c.argTypes ty (c.args.map fun | .const _ => true | _ => false) (c.args.map a.eval)).run P w := by
    simp only [resolve, hb, Sem.run_bind, Sem.run_pure, Result.andThen_ok, invoke]
    rfl
  rw [hres]
  simp only [cCall, hb] at hc
  have hargs : ∀ l, c.args.toList = l → c.args.map a.eval = (l.map a.eval).toArray := fun l hl => by
    apply Array.toList_inj.1; simp [hl]
  have hats : ∀ l, c.argTypes.toList = l → c.argTypes = l.toArray := fun l hl => by
    apply Array.toList_inj.1; simp [hl]
  split at hc
  · -- append
    rename_i t u x y e1 e2
    rw [hargs _ e2, hats _ e1]
    cases g1 : P.underlying t with
    | none => simp [g1] at hc
    | some td =>
    cases g2 : P.underlying u with
    | none => simp [g1, g2] at hc
    | some ut =>
    cases g3 : cOpd x with
    | none => simp [g1, g2, g3] at hc
    | some ax =>
    cases g4 : cOpd y with
    | none => simp [g1, g2, g3, g4] at hc
    | some ay =>
    cases td <;> simp only [g1, g2, g3, g4, reduceCtorEq] at hc
    rename_i e
    cases g5 : P.info? e with
    | none => simp [g5] at hc
    | some i =>
    cases g6 : zeroA P e with
    | none => simp [g5, g6] at hc
    | some z =>
    simp only [g5, g6] at hc
    split at hc
    · rename_i hcond
      obtain ⟨c1, c2, c3, c4, c5⟩ := hcond
      cases hc
      simp only [aop] at hr
      obtain ⟨i', zv, hi', hz, hV⟩ := zeroA_spec g6 μ
      rw [g5] at hi'; cases hi'
      have hzs : zv.cells.size = i.size := by have := hV.cells.len; simp at this; omega
      exact (append_sim s g1 g2 (fun k hk => by subst hk; simp [notInt] at c1) g5 hz hzs c2 (fun h8 => by
        have h9 := c5.resolve_left (fun e => e h8)
        unfold AV.zeroU8 at h9
        split at h9
        · cases hV; rfl
        · cases h9) (cOpd_sound ht g3) (cOpd_sound ht g4) hr).op
    · split at hc
      · rename_i hcond
        obtain ⟨c1, c2, c3, c4, c6, c5⟩ := hcond
        cases hc
        simp only [aop] at hr
        obtain ⟨i', zv, hi', hz, hV⟩ := zeroA_spec g6 μ
        rw [g5] at hi'; cases hi'
        have hut : ut = .int .i64 := by
          unfold isI64 at c1
          split at c1
          · rfl
          · cases c1
        subst hut
        exact (appendZ_sim s g1 g2 g5 hz hV c4 c6 c2 (fun h8 => by
          have h9 := c5.resolve_left (fun e => e h8)
          unfold AV.zeroU8 at h9
          split at h9
          · cases hV; rfl
          · cases h9) (cOpd_sound ht g3) (cOpd_sound ht g4) hr).op
      · cases hc
  · -- copy
    rename_i t ts x y e1 e2
    rw [hargs _ e2, hats _ e1]
    cases g1 : P.underlying t with
    | none => simp [g1] at hc
    | some td =>
    cases g3 : cOpd x with
    | none => simp [g1, g3] at hc
    | some ax =>
    cases g4 : cOpd y with
    | none => simp [g1, g3, g4] at hc
    | some ay =>
    cases td <;> simp only [g1, g3, g4, reduceCtorEq] at hc
    rename_i e
    simp only [Option.map_eq_some_iff] at hc
    obtain ⟨n, hn, rfl⟩ := hc
    simp only [aop] at hr
    exact (copy_sim (st := t) s g1 hn (cOpd_sound ht g3) (cOpd_sound ht g4) hr _ (by simp)).op
  · -- clear
    rename_i t x e1 e2
    rw [hargs _ e2, hats _ e1]
    cases g1 : P.underlying t with
    | none => simp [g1] at hc
    | some td =>
    cases g3 : cOpd x with
    | none => simp [g1, g3] at hc
    | some ax =>
    cases td <;> simp only [g1, g3, reduceCtorEq] at hc
    rename_i e
    cases g5 : zeroA P e with
    | none => simp [g5] at hc
    | some z =>
    cases g6 : sz P e with
    | none => simp [g5, g6] at hc
    | some n =>
    simp only [g5, g6] at hc
    split at hc
    · rename_i hcond
      cases hc
      simp only [aop] at hr
      exact (clear_sim s g1 g5 hcond.1 hcond.2 (cOpd_sound ht g3) hr).op
    · cases hc
  · -- len
    rename_i t ts x xs e1 e2
    rw [hargs _ e2, hats _ e1]
    cases g1 : P.underlying t with
    | none => simp [g1] at hc
    | some td =>
    cases td <;> simp only [g1, reduceCtorEq, Option.map_eq_some_iff] at hc
    · obtain ⟨ax, g3, rfl⟩ := hc
      simp only [aop] at hr
      exact (len_sim s (.inl ⟨rfl, g1⟩) (cOpd_sound ht g3) hr _ (by simp) (xs.map a.eval) (fun id es h1 h2 => by rw [h1] at hr; simp at hr)).op
    · rename_i arr
      cases g2 : P.underlying arr with
      | none => simp [g2] at hc
      | some ad =>
      cases ad <;> simp only [g2, reduceCtorEq] at hc
      split at hc
      · cases hc
        simp only [aop] at hr
        cases hr
        refine (VDone.pure s (v' := .int .i64 _) ?_ (.int _ _ (wf_nat ‹_›))).op
        simp [Builtin.len_, und_run g1, und_run g2, goInt]
      · cases hc
    · obtain ⟨ax, g3, rfl⟩ := hc
      simp only [aop] at hr
      exact (len_sim s (.inr (.inl ⟨rfl, _, g1⟩)) (cOpd_sound ht g3) hr _ (by simp) (xs.map a.eval) (fun id es h1 h2 => by rw [h1] at hr; simp at hr)).op
    · split at hc
      · cases hc
        simp only [aop] at hr
        cases hr
        refine (VDone.pure s (v' := .int .i64 _) ?_ (.int _ _ (wf_nat ‹_›))).op
        simp [Builtin.len_, und_run g1, goInt]
      · cases hc
  · -- cap
    rename_i t ts x xs e1 e2
    rw [hargs _ e2, hats _ e1]
    cases g1 : P.underlying t with
    | none => simp [g1] at hc
    | some td =>
    cases td <;> simp only [g1, reduceCtorEq, Option.map_eq_some_iff] at hc
    obtain ⟨ax, g3, rfl⟩ := hc
    simp only [aop] at hr
    exact (cap_sim s g1 (cOpd_sound ht g3) hr _ (by simp) (xs.map a.eval)).op
  · -- min
    rename_i ts x ys e2
    rw [hargs _ e2]
    cases g3 : cOpd x with
    | none => simp [g3] at hc
    | some ax =>
    cases g4 : cOpds ys with
    | none => simp [g3, g4] at hc
    | some ay =>
    simp only [g3, g4, Option.some.injEq] at hc
    subst hc
    simp only [aop, Option.map_eq_some_iff] at hr
    obtain ⟨r, hr, e⟩ := hr
    cases e
    have := min_sim s _ _ _ _ _ hr (cOpd_sound ht g3) (cOpds_sound ht g4)
    simp only [List.map_cons]
    exact VDone.op (x := Builtin.min_ c.argTypes ty (a.eval x :: List.map a.eval ys).toArray) (by simpa [Builtin.min_] using this)
  · -- max
    rename_i ts x ys e2
    rw [hargs _ e2]
    cases g3 : cOpd x with
    | none => simp [g3] at hc
    | some ax =>
    cases g4 : cOpds ys with
    | none => simp [g3, g4] at hc
    | some ay =>
    simp only [g3, g4, Option.some.injEq] at hc
    subst hc
    simp only [aop, Option.map_eq_some_iff] at hr
    obtain ⟨r, hr, e⟩ := hr
    cases e
    have := max_sim s _ _ _ _ _ hr (cOpd_sound ht g3) (cOpds_sound ht g4)
    simp only [List.map_cons]
    exact VDone.op (x := Builtin.max_ c.argTypes ty (a.eval x :: List.map a.eval ys).toArray) (by simpa [Builtin.max_] using this)
  · cases hc
theorem op_sim (s : St P μ h w) {tm : List AV} {a : Act} (ht : Vs μ tm a.tmps.toList) {call : Tgt → List AV → Heap → AR} {o : Oper} {sop : SOp} (hc : cOp P o.op = some sop) (hnc : sop.isCall = false) {v : AV} {h' : Heap} (hr : aop call tm h sop = some (v, h')) :
    OpDone P μ h w ((execOp a.eval o).run P w) v h' := by
  cases ho : o.op with
  | move x =>
    rw [ho] at hc
    simp only [cOp, Option.map_eq_some_iff] at hc
    obtain ⟨y, hy, rfl⟩ := hc
    simp only [aop] at hr; cases hr
    exact .same s (v' := a.eval x) (by simp [execOp, ho]) (cOpd_sound ht hy)
  | assign x =>
    rw [ho] at hc
    simp only [cOp, Option.map_eq_some_iff] at hc
    obtain ⟨y, hy, rfl⟩ := hc
    simp only [aop] at hr; cases hr
    exact .same s (v' := a.eval x) (by simp [execOp, ho]) (cOpd_sound ht hy)
  | pick c x y =>
    rw [ho] at hc
    simp only [cOp] at hc
    split at hc
    · rename_i c' x' y' h1 h2 h3
      cases hc
      simp only [aop] at hr
      have hcv := cOpd_sound ht h1
      split at hr
      · rename_i he
        rw [he] at hcv
        cases hr
        generalize hq : a.eval c = q at hcv
        cases hcv
        exact .same s (v' := a.eval x) (by simp [execOp, ho, asBool, hq]) (cOpd_sound ht h2)
      · rename_i he
        rw [he] at hcv
        cases hr
        generalize hq : a.eval c = q at hcv
        cases hcv
        exact .same s (v' := a.eval y) (by simp [execOp, ho, asBool, hq]) (cOpd_sound ht h3)
      · cases hr
    · cases hc
  | alloc e =>
    rw [ho] at hc
    simp only [cOp] at hc
    split at hc
    · rename_i z hz
      cases hc
      simp only [aop, ev] at hr
      obtain ⟨i, zv, hi, hzv, hV⟩ := zeroA_spec hz μ
      have := box_sim s e hV hr
      have he : (Instr.alloc e true (.tuple #[])).run P w = (Instr.box e zv).run P w := by
        simp [Instr.alloc, Instr.box, zero_run hi hzv]
      rw [← he] at this
      simpa [execOp, ho] using this.op
    · cases hc
  | box e x =>
    rw [ho] at hc
    simp only [cOp, Option.map_eq_some_iff] at hc
    obtain ⟨y, hy, rfl⟩ := hc
    simp only [aop] at hr
    simpa [execOp, ho] using (box_sim s e (cOpd_sound ht hy) hr).op
  | build t parts =>
    rw [ho] at hc
    simp only [cOp] at hc
    cases g1 : zeroA P t with
    | none => simp [g1] at hc
    | some z =>
    cases g2 : P.underlying t with
    | none => simp [g1, g2] at hc
    | some td =>
    cases td <;> simp only [g1, g2, reduceCtorEq] at hc
    · rename_i len e
      cases g3 : sz P e with
      | none => simp [g3] at hc
      | some n =>
      simp only [g3] at hc
      cases g4 : cParts (fun i => some (i * n, n)) parts.toList with
      | none => simp [g4] at hc
      | some ps =>
      simp only [g4] at hc
      split at hc
      · cases hc
        simp only [aop] at hr
        simpa [execOp, ho] using (buildArr_sim s ht g1 g2 g3 g4 ‹_› hr).op
      · cases hc
    · rename_i fs
      split at hc
      · rename_i ps g4
        split at hc
        · rename_i hcond
          cases hc
          simp only [aop] at hr
          simpa [execOp, ho] using (buildStruct_sim s ht g1 g2 g4 hcond.1 hcond.2 hr).op
        · cases hc
      · cases hc
  | buildSlice t len parts =>
    rw [ho] at hc
    simp only [cOp] at hc
    cases g2 : P.underlying t with
    | none => simp [g2] at hc
    | some td =>
    cases td <;> simp only [g2, reduceCtorEq] at hc
    rename_i e
    cases g1 : zeroA P e with
    | none => simp [g1] at hc
    | some z =>
    cases g3 : sz P e with
    | none => simp [g1, g3] at hc
    | some n =>
    simp only [g1, g3] at hc
    cases g4 : cParts (fun i => some (i * n, n)) parts.toList with
    | none => simp [g4] at hc
    | some ps =>
    simp only [g4] at hc
    split at hc
    · rename_i hcond
      obtain ⟨c1, c2, c3, c4⟩ := hcond
      cases hc
      simp only [aop] at hr
      simpa [execOp, ho] using (buildSlice_sim s ht g1 g2 g3 g4 c1 c2 c3 c4 hr).op
    · cases hc
  | load t x =>
    rw [ho] at hc
    simp only [cOp] at hc
    split at hc
    · rename_i b n y h1 h2 h3
      cases hc
      simp only [aop] at hr
      simpa [execOp, ho] using (load_sim s h1 h2 (cOpd_sound ht h3) hr).op
    · cases hc
  | store t x y =>
    rw [ho] at hc
    simp only [cOp] at hc
    split at hc
    · rename_i n x' y' h1 h2 h3
      cases hc
      simp only [aop] at hr
      obtain ⟨d, rfl⟩ := store_sim s h1 (cOpd_sound ht h2) (cOpd_sound ht h3) hr
      simpa [execOp, ho] using d.op
    · cases hc
  | nilCheck x =>
    rw [ho] at hc
    simp only [cOp, Option.map_eq_some_iff] at hc
    obtain ⟨y, hy, rfl⟩ := hc
    simp only [aop] at hr
    obtain ⟨v', hrun, hv, rfl⟩ := nilChk_sim s (cOpd_sound ht hy) hr
    exact .same s (hrun o a.eval x ho rfl) hv
  | binOp op t x y yt =>
    rw [ho] at hc
    simp only [cOp] at hc
    cases g1 : cOpd x with
    | none => simp [g1] at hc
    | some x' =>
    cases g2 : cOpd y with
    | none => simp [g1, g2] at hc
    | some y' =>
    simp only [g1, g2] at hc
    have main : sop = .bin op (eqKind P t) x' y' → OpDone P μ h w ((execOp a.eval o).run P w) v h' := by
      intro e
      subst e
      simp only [aop, Option.map_eq_some_iff] at hr
      obtain ⟨r, hr, e⟩ := hr
      cases e
      simpa [execOp, ho] using (bin_sim s hr (cOpd_sound ht g1) (cOpd_sound ht g2) x y).op
    have eqs : (∃ b, aggr? P t = some b ∧ b = true) → (match plainTy P 8 t, P.eqGuardType P.depth t with
        | some ks, false => (match (generalizing := false) op with
          | .eql => some (.eqAgg false ks x' y')
          | .neq => some (.eqAgg true ks x' y')
          | _ => none)
        | _, _ => none) = some sop → OpDone P μ h w ((execOp a.eval o).run P w) v h' := by
      rintro ⟨b, hb, rfl⟩ hc
      split at hc
      case h_2 => cases hc
      rename_i ks hk hg
      have hx := cOpd_sound ht g1
      have hy := cOpd_sound ht g2
      split at hc
      case h_3 => cases hc
      all_goals
        cases hc
        simp only [aop] at hr
        split at hr
        case h_2 => cases hr
        rename_i ca cb q1 q2
        split at hr
        case isFalse => cases hr
        rename_i hk2
        rw [Bool.and_eq_true] at hk2
        simp only [Option.map_eq_some_iff] at hr
        obtain ⟨r, hr, e⟩ := hr
        cases e
        rw [q1] at hx; rw [q2] at hy
        have key : (Op.equalIn 10000 t (a.eval x) (a.eval y)).run P w = .ok r w := eq_sim 8 hk (by omega) hb hx hy (.inl ⟨rfl, rfl⟩) (.inl ⟨rfl, rfl⟩) hk2.1 hk2.2 hr
        refine .same s (v' := .bool _) ?_ (.bool _)
        obtain ⟨vx, ex⟩ : ∃ vx, a.eval x = vx := ⟨_, rfl⟩
        obtain ⟨vy, ey⟩ : ∃ vy, a.eval y = vy := ⟨_, rfl⟩
        rw [ex] at hx key
        rw [ey] at hy key
        cases hx; cases hy
        first
          | (have ho2 : o.op = Op.binOp BinOp.eql t x y yt := by assumption
             simp [execOp, ho2, ex, ey, run_eqGuard_agg w _ t x y _ _ hg, run_eql_struct, run_neq_struct, key])
          | (have ho2 : o.op = Op.binOp BinOp.neq t x y yt := by assumption
             simp [execOp, ho2, ex, ey, run_eqGuard_agg w _ t x y _ _ hg, run_eql_struct, run_neq_struct, key]
             done)
    split at hc
    · rename_i fs hu
      exact eqs ⟨true, by simp [aggr?, hu], rfl⟩ hc
    · rename_i n e hu
      exact eqs ⟨true, by simp [aggr?, hu], rfl⟩ hc
    · cases hc; exact main rfl
    · cases hc
  | unOp op t x =>
    rw [ho] at hc
    simp only [cOp, Option.map_eq_some_iff] at hc
    obtain ⟨y, hy, rfl⟩ := hc
    simp only [aop, Option.map_eq_some_iff] at hr
    obtain ⟨r, hr, e⟩ := hr
    cases e
    simpa [execOp, ho] using (un_sim s hr (cOpd_sound ht hy)).op
  | convert src dst x =>
    rw [ho] at hc
    simp only [cOp] at hc
    split at hc
    · rename_i k0 k y h1 h2 h3
      cases hc
      simp only [aop] at hr
      split at hr
      · rename_i k1 n he
        cases hr
        have hv := cOpd_sound ht h3
        rw [he] at hv
        generalize hq : a.eval x = q at hv
        cases hv
        refine .same s (v' := .int k (k.wrap n)) ?_ (.int _ _ (wf_wrap' _ _))
        simp [execOp, ho, convert, und_run h1, und_run h2, hq, Conv.intToInt]
      · cases hr
    · rename_i y h1 h2 h3
      cases hc
      simp only [aop] at hr
      split at hr
      · rename_i l he
        cases hr
        have hv := cOpd_sound ht h3
        rw [he] at hv
        refine .same s (v' := a.eval x) ?_ hv
        generalize hq : a.eval x = q at hv
        cases hv
        simp [execOp, ho, convert, und_run h1, und_run h2, hq]
      · cases hr
    · rename_i e y h1 h2 h3
      split at hc
      · cases hc
        simp only [aop] at hr
        simpa [execOp, ho] using (strToBytes_sim s h1 h2 ‹_› (cOpd_sound ht h3) hr).op
      · cases hc
    · rename_i e y h1 h2 h3
      split at hc
      · cases hc
        simp only [aop] at hr
        simpa [execOp, ho] using (bytesToStr_sim s h1 h2 ‹_› (cOpd_sound ht h3) hr).op
      · cases hc
    · cases hc
  | typeAssert x xt t ok =>
    rw [ho] at hc
    simp only [cOp] at hc
    cases g1 : P.underlying t with
    | none => simp [g1] at hc
    | some d =>
    cases g2 : cOpd x with
    | none => cases d <;> simp [g1, g2] at hc
    | some y =>
    cases g3 : zeroA P t with
    | none => cases d <;> simp [g1, g2, g3] at hc
    | some z =>
    have hni : ∀ m, d ≠ .interface m := by rintro m rfl; simp [g1] at hc
    have hsop : sop = .assert t z ok y := by
      rw [g1, g2, g3] at hc
      cases d <;> first | exact absurd rfl (hni _) | (simp at hc; exact hc.symm)
    subst hsop
    obtain ⟨i, zv, hi, hz, hV⟩ := zeroA_spec g3 μ
    have hv := cOpd_sound ht g2
    simp only [aop, assertA] at hr
    split at hr
    · rename_i t' v0 he
      rw [he] at hv
      generalize hq : a.eval x = q at hv
      cases hv with | iface _ _ v' hv0 =>
      split at hr
      · rename_i e
        subst e
        cases hr
        refine .same s (v' := if ok = true then .tuple #[v', .bool true] else v') ?_ ?_
        · simp [execOp, ho, hq, assert_same g1 hni]
        · cases ok
          · exact hv0
          · exact .tuple _ _ (.cons _ _ _ _ hv0 (.cons _ _ _ _ (.bool true) .nil))
      · rename_i hne
        cases ok
        · simp at hr
        · simp only [if_true] at hr
          cases hr
          refine .same s (v' := .tuple #[zv, .bool false]) ?_ (.tuple _ _ (.cons _ _ _ _ hV (.cons _ _ _ _ (.bool false) .nil)))
          simp [execOp, ho, hq, assert_not g1 hni hi hz hne]
    · rename_i he
      rw [he] at hv
      generalize hq : a.eval x = q at hv
      cases hv
      cases ok
      · simp at hr
      · simp only [if_true] at hr
        cases hr
        refine .same s (v' := .tuple #[zv, .bool false]) ?_ (.tuple _ _ (.cons _ _ _ _ hV (.cons _ _ _ _ (.bool false) .nil)))
        simp [execOp, ho, hq, assert_nil g1 hni hi hz]
    · cases hr
  | makeInterface t x =>
    rw [ho] at hc
    simp only [cOp] at hc
    split at hc
    · cases hc
    · rename_i d hni hd
      simp only [Option.map_eq_some_iff] at hc
      obtain ⟨y, hy, rfl⟩ := hc
      simp only [aop] at hr; cases hr
      refine .same s (v' := .iface t (a.eval x)) ?_ (.iface _ _ _ (cOpd_sound ht hy))
      have : (Instr.makeInterface t (a.eval x)).run P w = .ok (.iface t (a.eval x)) w := by
        simp only [Instr.makeInterface, Sem.run_bind, und_run hd, Result.andThen_ok]
        cases d <;> first | (exact absurd rfl (hni _)) | rfl
      simp [execOp, ho, this]
    · cases hc
  | makeFunc fn first captured =>
    rw [ho] at hc
    simp only [cOp] at hc
    split at hc
    · rename_i f x y h2 h3
      cases hc
      simp only [aop] at hr; cases hr
      refine .same s (v' := .func (.func f) (first.map a.eval) (captured.map a.eval)) (by simp [execOp, ho, Instr.makeFunc]) (.func _ _ _ _ _ ?_ ?_)
      · rw [Array.toList_map]; exact cOpds_sound ht h2
      · rw [Array.toList_map]; exact cOpds_sound ht h3
    · rename_i m y h2 h3
      cases hc
      simp only [aop] at hr; cases hr
      have k1 := cOpds_sound ht h2
      have k2 := cOpds_sound ht h3
      rw [← Array.toList_map] at k1 k2
      refine .same s (v' := .func (.method m) (first.map a.eval) (captured.map a.eval)) (by simp [execOp, ho, Instr.makeFunc]) ?_
      generalize first.map a.eval = q1 at k1
      generalize captured.map a.eval = q2 at k2
      obtain ⟨q1⟩ := q1
      obtain ⟨q2⟩ := q2
      cases k2
      cases k1 with | cons _ x' _ xs h4 h5 =>
      cases h5
      exact .meth _ _ _ h4
    · cases hc
  | makeSlice t l c =>
    rw [ho] at hc
    simp only [cOp] at hc
    cases g2 : P.underlying t with
    | none => simp [g2] at hc
    | some td =>
    cases td <;> simp only [g2, reduceCtorEq] at hc
    rename_i e
    split at hc
    · rename_i i z x y h1 h2 h3 h4
      split at hc
      · rename_i hcond
        obtain ⟨c1, c2, c3, c4⟩ := hcond
        cases hc
        simp only [aop] at hr
        simpa [execOp, ho] using (makeSlice_sim s g2 h1 h2 c1 c2 c4 (cOpd_sound ht h3) (cOpd_sound ht h4) hr).op
      · cases hc
    · cases hc
  | slice t x lo hi mx =>
    rw [ho] at hc
    simp only [cOp] at hc
    cases g1 : cOpd x with
    | none => simp [g1] at hc
    | some x' =>
    cases g2 : cOpt lo with
    | none => simp [g1, g2] at hc
    | some lo' =>
    cases g3 : cOpt hi with
    | none => simp [g1, g2, g3] at hc
    | some hi' =>
    cases g4 : cOpt mx with
    | none => simp [g1, g2, g3, g4] at hc
    | some mx' =>
    simp only [g1, g2, g3, g4] at hc
    have q1 := cOpd_sound ht g1
    have q2 := cOpt_sound ht g2
    have q3 := cOpt_sound ht g3
    have q4 := cOpt_sound ht g4
    cases g5 : P.underlying t with
    | none => simp [g5] at hc
    | some td =>
    cases td <;> simp only [g5, reduceCtorEq] at hc
    · split at hc
      · cases hc
      · rename_i hmx
        cases hc
        simp only [aop] at hr
        have hmx' : mx = none := by
          cases mx with
          | none => rfl
          | some m =>
            simp only [cOpt, Option.map_eq_some_iff] at g4
            obtain ⟨_, _, rfl⟩ := g4
            simp at hmx
        subst hmx'
        simpa [execOp, ho] using (sliceStr_sim s g5 q1 q2 q3 hr).op
    · rename_i arr
      cases g6 : P.underlying arr with
      | none => simp [g6] at hc
      | some ad =>
      cases ad <;> simp only [g6, reduceCtorEq] at hc
      rename_i n e
      cases g7 : sz P e with
      | none => simp [g7] at hc
      | some k =>
      simp only [g7] at hc
      split at hc
      · rename_i hcond
        cases hc
        simp only [aop] at hr
        simpa [execOp, ho] using (sliceArr_sim s (.inr ⟨arr, g5, g6⟩) g7 hcond.1 q1 q2 q3 q4 hr hcond.2).op
      · cases hc
    · rename_i e
      cases g7 : sz P e with
      | none => simp [g7] at hc
      | some k =>
      simp only [g7, Option.some.injEq] at hc
      subst hc
      simp only [aop, Option.map_eq_some_iff] at hr
      obtain ⟨r, hr, e⟩ := hr
      cases e
      simpa [execOp, ho] using (slice_sim s g5 g7 q1 q2 q3 q4 hr).op
    · rename_i n e
      cases g7 : sz P e with
      | none => simp [g7] at hc
      | some k =>
      simp only [g7] at hc
      split at hc
      · rename_i hcond
        cases hc
        simp only [aop] at hr
        simpa [execOp, ho] using (sliceArr_sim s (.inl g5) g7 hcond.1 q1 q2 q3 q4 hr hcond.2).op
      · cases hc
  | fieldAddr t x f =>
    rw [ho] at hc
    simp only [cOp] at hc
    split at hc
    · rename_i fs y h1 h2
      split at hc
      · rename_i fl h3
        split at hc
        · rename_i n h4
          split at hc
          · cases hc
          · cases hc
            simp only [aop] at hr
            simpa [execOp, ho] using (fieldAddr_sim s h1 h3 h4 ‹_› (cOpd_sound ht h2) hr).op
        · cases hc
      · cases hc
    · cases hc
  | field t x f =>
    rw [ho] at hc
    simp only [cOp] at hc
    split at hc
    · rename_i fs y h1 h2
      split at hc
      · rename_i fl h3
        split at hc
        · rename_i b n h4 h5
          cases hc
          simp only [aop] at hr
          simpa [execOp, ho] using (field_sim s h1 h3 h4 h5 (cOpd_sound ht h2) hr).op
        · cases hc
      · cases hc
    · cases hc
  | indexAddr t x i =>
    rw [ho] at hc
    simp only [cOp] at hc
    split at hc
    · rename_i x' i' h1 h2
      split at hc
      · rename_i len e h3
        simp only [Option.map_eq_some_iff] at hc
        obtain ⟨n, hn, rfl⟩ := hc
        simp only [aop] at hr
        simpa [execOp, ho] using (idxAddrArr_sim s h3 hn (cOpd_sound ht h1) (cOpd_sound ht h2) hr).op
      · rename_i e h3
        simp only [Option.map_eq_some_iff] at hc
        obtain ⟨n, hn, rfl⟩ := hc
        simp only [aop] at hr
        simpa [execOp, ho] using (idxSl_sim s h3 hn (cOpd_sound ht h1) (cOpd_sound ht h2) hr).op
      · cases hc
    · cases hc
  | index t x i =>
    rw [ho] at hc
    simp only [cOp] at hc
    split at hc
    · rename_i x' i' h1 h2
      split at hc
      · rename_i len e h3
        split at hc
        · rename_i b n h4 h5
          cases hc
          simp only [aop] at hr
          simpa [execOp, ho] using (idxArr_sim s h3 h4 h5 (cOpd_sound ht h1) (cOpd_sound ht h2) hr).op
        · cases hc
      · rename_i h3
        cases hc
        simp only [aop] at hr
        simpa [execOp, ho] using (idxStr_sim s h3 (cOpd_sound ht h1) (cOpd_sound ht h2) hr).op
      · cases hc
    · cases hc
  | range t x =>
    rw [ho] at hc
    simp only [cOp] at hc
    split at hc
    · rename_i y h1 h2
      cases hc
      simp only [aop] at hr
      simpa [execOp, ho] using (rangeStr_sim s h1 (cOpd_sound ht h2) hr).op
    · cases hc
  | next it b =>
    rw [ho] at hc
    cases b with
    | false => simp [cOp] at hc
    | true =>
      simp only [cOp, Option.map_eq_some_iff] at hc
      obtain ⟨y, hy, rfl⟩ := hc
      simp only [aop] at hr
      simpa [execOp, ho] using (nextStr_sim s o.type (cOpd_sound ht hy) hr).op
  | extract t i =>
    rw [ho] at hc
    simp only [cOp, Option.map_eq_some_iff] at hc
    obtain ⟨y, hy, rfl⟩ := hc
    simp only [aop] at hr
    simpa [execOp, ho] using (extract_sim s (cOpd_sound ht hy) hr).op
  | call c =>
    rw [ho] at hc
    simp only [cOp] at hc
    cases hcal : c.callee with
    | builtin b => simpa [execOp, ho] using builtin_sim s ht hcal hc hr o.type
    | invoke x m =>
      simp only [cCall, hcal] at hc
      split at hc
      · cases hc; simp [SOp.isCall] at hnc
      · cases hc
    | value f =>
      cases f with
      | func f =>
        simp only [cCall, hcal, Option.map_eq_some_iff] at hc
        obtain ⟨_, _, rfl⟩ := hc
        simp [SOp.isCall] at hnc
      | _ =>
        simp only [cCall, hcal] at hc
        split at hc
        · cases hc; simp [SOp.isCall] at hnc
        · cases hc
  | lookup t m k ok =>
    rw [ho] at hc
    simp only [cOp] at hc
    split at hc
    · rename_i kt et a' b' h1 h2 h3
      split at hc
      · rename_i z hz
        split at hc
        · rename_i sk hsk
          cases hc
          simp only [aop] at hr
          unfold keyTy at hsk
          split at hsk
          · rename_i kd hkd
            cases hsk
            simpa [execOp, ho] using (lookup_sim s h1 hz hkd (sk := false) rfl (cOpd_sound ht h2) (cOpd_sound ht h3) hr).op
          · rename_i hkd
            cases hsk
            simpa [execOp, ho] using (lookup_sim s h1 hz hkd (sk := true) rfl (cOpd_sound ht h2) (cOpd_sound ht h3) hr).op
          · cases hsk
        · cases hc
      · cases hc
    · cases hc
  | mapUpdate t m k x =>
    rw [ho] at hc
    simp only [cOp] at hc
    split at hc
    · rename_i kt et a' b' c' h1 h2 h3 h4
      split at hc
      · rename_i sk hsk
        cases hc
        simp only [aop] at hr
        unfold keyTy at hsk
        split at hsk
        · rename_i kd hkd
          cases hsk
          obtain ⟨rfl, d⟩ := mapUpdate_sim s h1 hkd (sk := false) rfl (cOpd_sound ht h2) (cOpd_sound ht h3) (cOpd_sound ht h4) hr
          simpa [execOp, ho] using d.op
        · rename_i hkd
          cases hsk
          obtain ⟨rfl, d⟩ := mapUpdate_sim s h1 hkd (sk := true) rfl (cOpd_sound ht h2) (cOpd_sound ht h3) (cOpd_sound ht h4) hr
          simpa [execOp, ho] using d.op
        · cases hsk
      · cases hc
    · cases hc
  | insert t m k x =>
    rw [ho] at hc
    simp only [cOp] at hc
    split at hc
    · rename_i kt et a' b' c' h1 h2 h3 h4
      split at hc
      · rename_i sk hsk
        cases hc
        simp only [aop] at hr
        unfold keyTy at hsk
        split at hsk
        · rename_i kd hkd
          cases hsk
          obtain ⟨rfl, d⟩ := mapUpdate_sim s h1 hkd (sk := false) rfl (cOpd_sound ht h2) (cOpd_sound ht h3) (cOpd_sound ht h4) hr
          simpa [execOp, ho] using d.op
        · rename_i hkd
          cases hsk
          obtain ⟨rfl, d⟩ := mapUpdate_sim s h1 hkd (sk := true) rfl (cOpd_sound ht h2) (cOpd_sound ht h3) (cOpd_sound ht h4) hr
          simpa [execOp, ho] using d.op
        · cases hsk
      · cases hc
    · cases hc
  | makeMap t r =>
    rw [ho] at hc
    simp only [cOp] at hc
    split at hc
    · cases hc
      simp only [aop] at hr
      cases hr
      simpa [execOp, ho] using (mkMap_sim s (t := t)).op
    · rename_i kd n kt et hu
      cases hc
      simp only [aop] at hr
      cases hr
      simpa [execOp, ho, Act.eval] using (mkMap_hint s (kd := kd) (n := n) hu).op
    · cases hc
  | panic x =>
    rw [ho] at hc
    simp only [cOp] at hc
    cases hc
    simp [aop] at hr
  | _ => rw [ho] at hc; simp [cOp] at hc
end
end Go.Ya
