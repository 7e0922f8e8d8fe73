/-
  Operations, the second part: conversions, parts of values, slices, values that are built.
-/
import Derived.Test.YtekbgdmemenheaaYaOps1
namespace Go.Ya
set_option linter.unusedVariables false
set_option linter.unusedSimpArgs false
section
variable {P : Program} {μ : Mu} {h : Heap} {w : World}

theorem sz_run {t : TypeId} {n : Nat} (e : sz P t = some n) : (sizeOf t).run P w = .ok n w := by
  simp only [sz, Option.map_eq_some_iff] at e
  obtain ⟨i, hi, rfl⟩ := e
  simp [sizeOf, typeInfo, hi]
theorem aggr_run {t : TypeId} {b : Bool} (e : aggr? P t = some b) : (isAgg t).run P w = .ok b w := by
  unfold aggr? at e
  simp only [isAgg, underlying, Sem.run_bind, run_program, Result.andThen_ok]
  cases hu : P.underlying t with
  | none => rw [hu] at e; cases e
  | some d => rw [hu] at e; cases d <;> simp at e ⊢ <;> exact e
theorem und_run {t : TypeId} {d : TypeDesc} (e : P.underlying t = some d) : (underlying t).run P w = .ok d w := run_underlying (w := w) e

/-! ### strings and bytes -/
theorem byteCells_spec : ∀ {cs : List AV} {l : List Int} {vs : List Value}, byteCells cs = some l → Vs μ cs vs → vs = l.map (Value.int .u8) ∧ ∀ n ∈ l, wfInt .u8 n = true
  | [], l, vs, e, hv => by simp [byteCells] at e; subst e; cases hv; exact ⟨rfl, fun _ h => by cases h⟩
  | .int .u8 n :: rest, l, vs, e, hv => by
    simp only [byteCells, Option.map_eq_some_iff] at e
    obtain ⟨r, hr, rfl⟩ := e
    cases hv with | cons _ v _ vs' h1 h2 =>
    obtain ⟨e1, e2⟩ := byteCells_spec hr h2
    cases h1 with | int _ _ hw =>
    refine ⟨by rw [e1]; rfl, fun m hm => ?_⟩
    rcases List.mem_cons.1 hm with rfl | hm
    · exact hw
    · exact e2 m hm
  | .int .i8 _ :: _, _, _, e, _ => by simp [byteCells] at e
  | .int .i16 _ :: _, _, _, e, _ => by simp [byteCells] at e
  | .int .i32 _ :: _, _, _, e, _ => by simp [byteCells] at e
  | .int .i64 _ :: _, _, _, e, _ => by simp [byteCells] at e
  | .int .u16 _ :: _, _, _, e, _ => by simp [byteCells] at e
  | .int .u32 _ :: _, _, _, e, _ => by simp [byteCells] at e
  | .int .u64 _ :: _, _, _, e, _ => by simp [byteCells] at e
  | .bool _ :: _, _, _, e, _ => by simp [byteCells] at e
  | .str _ :: _, _, _, e, _ => by simp [byteCells] at e
  | .nilptr :: _, _, _, e, _ => by simp [byteCells] at e
  | .ptr _ _ :: _, _, _, e, _ => by simp [byteCells] at e
  | .nilsl :: _, _, _, e, _ => by simp [byteCells] at e
  | .slice .. :: _, _, _, e, _ => by simp [byteCells] at e
  | .nilmap :: _, _, _, e, _ => by simp [byteCells] at e
  | .map _ :: _, _, _, e, _ => by simp [byteCells] at e
  | .nilf :: _, _, _, e, _ => by simp [byteCells] at e
  | .func .. :: _, _, _, e, _ => by simp [byteCells] at e
  | .yieldf _ :: _, _, _, e, _ => by simp [byteCells] at e
  | .nilif :: _, _, _, e, _ => by simp [byteCells] at e
  | .iface .. :: _, _, _, e, _ => by simp [byteCells] at e
  | .agg _ :: _, _, _, e, _ => by simp [byteCells] at e
  | .tuple _ :: _, _, _, e, _ => by simp [byteCells] at e

theorem toNat_u8 {n : Int} (hw : wfInt .u8 n = true) : ((UInt8.ofNat n.toNat).toNat : Int) = n := by
  obtain ⟨h1, h2⟩ := wf_bounds hw
  simp [IntKind.min, IntKind.max, IntKind.signed, IntKind.bits] at h1 h2
  simp
  omega

theorem bytesOf_mk (l : List Int) (hw : ∀ n ∈ l, wfInt .u8 n = true) : bytesOf ⟨(l.map fun n => UInt8.ofNat n.toNat).toArray⟩ = l := by
  simp only [bytesOf, List.map_map]
  conv => rhs; rw [← List.map_id l]
  apply List.map_congr_left
  intro n hn
  exact toNat_u8 (hw n hn)

/-- The first n elements of a row of the heap, as the model reads them. -/
theorem first_sim (s : St P μ h w) {esz n : Nat} {x : AV} {x' : Value} {cs : List AV} (e : firstA h esz n x = some cs) (hx : V μ x x') (hn : ∀ m, lenA x = some m → n ≤ m) :
    ∃ vs, (Builtin.firstCells esz n x').run P w = .ok vs.toArray w ∧ Vs μ cs vs ∧ cs.all AV.flat = true := by
  unfold firstA at e
  split at e
  · cases hx; cases e; exact ⟨[], by simp [Builtin.firstCells], .nil, rfl⟩
  · rename_i id off len cap ex esz'
    split at e
    · subst_vars
      cases hx with | slice _ _ _ _ _ _ a cap' h1 h2 h3 h4 h5 h6 =>
      have hnl : n ≤ len := hn len rfl
      split at e
      · rename_i c ro hg
        split at e
        · rename_i hle
          cases e
          rcases h6 with h0 | ⟨b, base, lim, hm, rfl, hlim⟩
          · have hn0 : n = 0 := by omega
            subst hn0
            refine ⟨[], ?_, ?_, ?_⟩
            · simp only [Builtin.firstCells, Nat.zero_mul]
              simp [loadCells, loadCellsFrom]
            · simp; exact .nil
            · simp
          · obtain ⟨arr, t, fr, hb, _, _, h3, hf, _⟩ := readRow s hm hg
            obtain ⟨vs, hl, hv, hc⟩ := h3 off (n * esz') hle
            refine ⟨vs, ?_, hv, ?_⟩
            · simp only [Builtin.firstCells]
              exact run_loadCells b (base + off) (n * esz') vs hl hc
            · rw [List.all_eq_true] at hf ⊢
              exact fun x hx => hf x (List.mem_of_mem_drop (List.mem_of_mem_take hx))
        · cases e
      · cases e
    · cases e
  · split at e
    case isFalse => cases e
    cases e
    cases hx with | str l st hs hs2 =>
    subst hs
    refine ⟨((bytesOf st).take n).map (Value.int .u8), ?_, ?_, ?_⟩
    · simp only [Builtin.firstCells, Sem.run_pure]
      congr 1
      apply Array.toList_inj.1
      simp only [Array.toList_map, bytesOf]
      rw [← List.map_take]
      have : (st.extract 0 n).data.toList = st.data.toList.take n := by
        simp [ByteArray.data_extract]
      rw [this, List.map_map]; rfl
    · generalize hl : (bytesOf st).take n = l
      have hw : ∀ m ∈ l, wfInt .u8 m = true := by subst hl; exact fun m hm => bytesOf_wf st m (List.mem_of_mem_take hm)
      clear hl
      induction l with
      | nil => exact .nil
      | cons a l ih => exact .cons _ _ _ _ (.int _ _ (hw a (List.mem_cons_self))) (ih fun m hm => hw m (List.mem_cons_of_mem _ hm))
    · rw [List.all_eq_true]; intro x hx
      obtain ⟨a, _, rfl⟩ := List.mem_map.1 hx
      rfl
  · cases e

theorem bytesToStr_sim (s : St P μ h w) {src dst e : TypeId} (hs : P.underlying src = some (.slice e)) (hd : P.underlying dst = some .string) (he : isU8 P e = true) {x : AV} {x' : Value} {v : AV} {h' : Heap} (hx : V μ x x')
    (hr : (match (generalizing := false) x with
    | .nilsl => some (.str [], h)
    | .slice id off len cap ex esz =>
      match firstA h 1 len (.slice id off len cap ex esz) with
      | some cs => (byteCells cs).map fun s => (.str s, h)
      | none => none
    | _ => none : AR) = some (v, h')) : VDone P μ h w ((convert src dst x').run P w) v h' := by
  have he' : P.underlying e = some (.int .u8) := by
    unfold isU8 at he; split at he
    · assumption
    · cases he
  cases x with
  | nilsl =>
    cases hx; cases hr
    refine VDone.pure s (v' := .string .empty) ?_ (.str _ _ rfl (by decide))
    rw [run_convert_bytes_string w src dst e none 0 0 hs he' hd]; simp [Conv.bytesToString]
  | slice id off len cap ex esz =>
    simp only at hr
    split at hr
    · rename_i cs hf
      simp only [Option.map_eq_some_iff] at hr
      obtain ⟨l, hl, hr⟩ := hr
      cases hr
      obtain ⟨vs, hrun, hv, _⟩ := first_sim s hf hx (fun m hm => by simp [lenA] at hm; omega)
      obtain ⟨rfl, hw⟩ := byteCells_spec hl hv
      cases hx with | slice _ _ _ _ _ _ a cap' h1 h2 h3 h4 h5 h6 =>
      refine VDone.pure s (v' := .string ⟨(l.map fun n => UInt8.ofNat n.toNat).toArray⟩) ?_ (.str _ _ (bytesOf_mk l hw) ?_)
      · rw [run_convert_bytes_string w src dst e _ len cap' hs he' hd]
        simp only [Builtin.firstCells, Nat.mul_one] at hrun
        rw [run_bytesToString w a len cap' l hrun, foldl_push_bytes]
        simp [ByteArray.empty, ByteArray.emptyWithCapacity]
        rfl
      · have := hv.len
        have hlen : cs.length = len := by
          simp only [firstA] at hf
          split at hf
          · split at hf
            · split at hf
              · cases hf; simp; omega
              · cases hf
            · cases hf
          · cases hf
        simp only [List.length_map] at this
        simp only [ByteArray.size]
        simp; omega
    · cases hr
  | _ => simp at hr

theorem strToBytes_sim (s : St P μ h w) {src dst e : TypeId} (hs : P.underlying src = some .string) (hd : P.underlying dst = some (.slice e)) (he : isU8 P e = true) {x : AV} {x' : Value} {v : AV} {h' : Heap} (hx : V μ x x')
    (hr : (match (generalizing := false) x with
    | .str s => some (.slice h.next 0 s.length s.length false 1, h.alloc (.cells (s.map (AV.int .u8)) false))
    | _ => none : AR) = some (v, h')) : VDone P μ h w ((convert src dst x').run P w) v h' := by
  have he' : P.underlying e = some (.int .u8) := by
    unfold isU8 at he; split at he
    · assumption
    · cases he
  cases x with
  | str l =>
    cases hr
    cases hx with | str l st hst hsz =>
    subst hst
    generalize hcap : (Question.appendCap st.size 0 e).cut (w.tape w.drawn (.appendCap st.size 0 e)) = cap
    have hc1 : st.size ≤ cap := by subst hcap; simp [Question.cut]
    have hc2 : cap ≤ 9223372036854775807 := by
      subst hcap; simp only [Question.cut]
      have : w.tape w.drawn (.appendCap st.size 0 e) % (2 ^ 63 - st.size) < 2 ^ 63 - st.size := Nat.mod_lt _ (by omega)
      omega
    generalize hcs : ((st.data.map fun b => Value.int .u8 b.toNat) ++ Array.replicate (cap - st.size) (Value.int .u8 0)) = cs
    have hsize : cs.size = cap := by subst hcs; simp; change st.size + _ = _; omega
    have htake : Vs μ ((bytesOf st).map (AV.int .u8)) (cs.toList.take ((bytesOf st).map (AV.int .u8)).length) := by
      subst hcs
      have e1 : ((st.data.map fun b => Value.int .u8 b.toNat) ++ Array.replicate (cap - st.size) (Value.int .u8 0)).toList.take ((bytesOf st).map (AV.int .u8)).length = (bytesOf st).map (Value.int .u8) := by
        rw [List.length_map, bytesOf_len]
        simp [bytesOf, Function.comp_def]
      rw [e1]
      have hw := bytesOf_wf st
      generalize bytesOf st = l at hw
      induction l with
      | nil => exact .nil
      | cons a l ih => exact .cons _ _ _ _ (.int _ _ (hw a (List.mem_cons_self))) (ih fun m hm => hw m (List.mem_cons_of_mem _ hm))
    have hflat : ((bytesOf st).map (AV.int .u8)).all AV.flat = true := by simp [AV.flat]
    -- the new block bears a mark one past its end
    have hn : μ h.next = none := s.bd _ (Nat.le_refl _)
    have hrun : (convert src dst (.string st)).run P w = .ok (.slice (some ⟨w.heap.size, 0, none⟩) st.size cap) ((w.drew.alloc (.cells cs e)).freeze ⟨w.heap.size, cap, none⟩ 1) := by
      simp only [convert, Sem.run_bind, und_run hs, und_run hd, und_run he', Result.andThen_ok, Conv.stringToBytes, run_choose, Question.forced, Bool.false_eq_true, if_false, hcap, run_newRow]
      simp only [World.drew_eq, hcs, markStringish, Sem.run_bind, run_shape, Result.andThen_ok]
      have : (w.drew.alloc (.cells cs e)).shape? w.heap.size = some (e, cap) := by
        have := alloc_new w.drew (.cells cs e)
        simp only [World.size_drew] at this
        simp only [World.shape?, this, hsize]
      simp only [World.size_drew, this, run_freeze, Result.andThen_ok, Sem.run_pure]
    have hfrz : ((w.drew.alloc (.cells cs e)).freeze ⟨w.heap.size, cap, none⟩ 1) = w.drew.alloc (.cells cs e (cap, cap + 1)) := by
      simp only [World.freeze]
      show ({ (w.drew.alloc (.cells cs e)) with heap := _ } : World) = _
      have hh : (w.drew.alloc (.cells cs e)).heap = w.heap.push (.cells cs e) := rfl
      simp only [show ¬ ((1 : Nat) = 0) by omega, if_false]
      have : (w.drew.alloc (.cells cs e)).heap.modify w.heap.size (fun
          | .cells c elem (lo, hi) => .cells c elem (if lo == hi then (cap, cap + 1) else (min lo cap, max hi (cap + 1)))
          | o => o) = w.heap.push (.cells cs e (cap, cap + 1)) := by
        rw [hh]
        apply Array.ext_getElem?
        intro i
        rw [Array.getElem?_modify]
        by_cases hi : w.heap.size = i
        · subst hi; simp
        · rw [if_neg hi]
          simp only [Array.getElem?_push]
          rw [if_neg (Ne.symm hi), if_neg (Ne.symm hi)]
      rw [show (w.drew.alloc (.cells cs e (cap, cap + 1))) = { w.drew with heap := w.heap.push (.cells cs e (cap, cap + 1)) } from rfl]
      rw [← this]
      rfl
    rw [hfrz] at hrun
    have hA := s.drew.r.alloc (.cells ((bytesOf st).map (AV.int .u8)) false) (.cells cs e (cap, cap + 1)) cap hn
      ⟨cs, e, (cap, cap + 1), alloc_new w.drew _, by omega, by simp [bytesOf_len]; exact hc1, fun j a ha => by
        obtain ⟨v, ev', hv'⟩ := htake.get ha
        have hj : j < ((bytesOf st).map (AV.int .u8)).length := by
          rcases Nat.lt_or_ge j ((bytesOf st).map (AV.int .u8)).length with h' | h'
          · exact h'
          · rw [List.getElem?_eq_none h'] at ha; cases ha
        rw [List.getElem?_take, if_pos hj] at ev'
        exact ⟨v, by simpa using ev', hv'.mono (.add hn), List.all_eq_true.1 hflat a (List.mem_of_getElem? ha)⟩, fun _ j hj h' => by simp only at h'; omega⟩
    refine ⟨_, _, _, hrun, ?_, ⟨hA.1, fun id hid => ?_, s.drew.mkd.alloc s.drew.r _ rfl _ _⟩, (Fr.drew μ h w).trans hA.2⟩
    · rw [bytesOf_len]
      exact .slice h.next 0 st.size st.size false 1 _ cap (Nat.le_refl _) hc1 (fun h' => by cases h') (by omega) hc2 (.inr ⟨w.heap.size, 0, cap, muAdd_same _ _ _, rfl, by omega⟩)
    · simp only [Heap.next_alloc] at hid
      rw [muAdd_ne _ _ _ _ (by omega)]
      exact s.bd id (by omega)
  | _ => simp at hr

/-! ### parts -/
theorem part_sim {t : TypeId} {b : Bool} {n off : Nat} {cs : List AV} {cs' : Array Value} (hb : aggr? P t = some b) (hn : sz P t = some n) (hv : Vs μ cs cs'.toList) (hf : cs.all AV.flat = true) {v : AV}
    (e : (if b then some (.agg ((cs.drop off).take n)) else cs[off]?) = some v) : ∃ v', (part t cs' off).run P w = .ok v' w ∧ V μ v v' := by
  simp only [part, Sem.run_bind, aggr_run hb, Result.andThen_ok]
  cases b with
  | true =>
    simp only [if_true] at e ⊢
    cases e
    refine ⟨.agg (cs'.extract off (off + n)), by simp [sz_run hn], .agg _ _ ?_ ?_⟩
    · rw [Array.toList_extract]
      simp only [List.extract_eq_take_drop]
      rw [show off + n - off = n by omega]
      exact (hv.drop off).take n
    · rw [List.all_eq_true] at hf ⊢
      exact fun x hx => hf x (List.mem_of_mem_drop (List.mem_of_mem_take hx))
  | false =>
    simp only [Bool.false_eq_true, if_false] at e ⊢
    obtain ⟨v', e', hv'⟩ := hv.get e
    rw [Array.getElem?_toList] at e'
    exact ⟨v', by rw [e']; rfl, hv'⟩

theorem field_sim (s : St P μ h w) {t : TypeId} {f : Nat} {fs : Array Field} {fl : Field} {b : Bool} {n : Nat} (ht : P.underlying t = some (.struct fs)) (hfl : fs[f]? = some fl) (hb : aggr? P fl.type = some b) (hn : sz P fl.type = some n)
    {x : AV} {x' : Value} (hx : V μ x x') {v : AV} {h' : Heap}
    (hr : (match (generalizing := false) x with
    | .agg cs => if b then some (.agg ((cs.drop fl.offset).take n), h) else (cs[fl.offset]?).map fun v => (v, h)
    | _ => none : AR) = some (v, h')) : VDone P μ h w ((Instr.field t x' f).run P w) v h' := by
  cases x with
  | agg cs =>
    cases hx with | agg cs cs' hv hf =>
    have e1 : (if b then some (.agg ((cs.drop fl.offset).take n)) else cs[fl.offset]?) = some v ∧ h' = h := by
      cases b with
      | true => simp at hr ⊢; exact ⟨hr.1, hr.2.symm⟩
      | false =>
        simp only [Bool.false_eq_true, if_false, Option.map_eq_some_iff] at hr ⊢
        obtain ⟨a, ha, hr⟩ := hr; cases hr; exact ⟨ha, rfl⟩
    obtain ⟨e1, rfl⟩ := e1
    obtain ⟨v', hrun, hv'⟩ := part_sim (w := w) hb hn hv hf e1
    refine VDone.pure s (v' := v') ?_ hv'
    simp only [Instr.field, Sem.run_bind, und_run ht, Result.andThen_ok, hfl, asAgg, Sem.run_pure]
    exact hrun
  | _ => simp at hr

theorem extract_sim (s : St P μ h w) {x : AV} {x' : Value} {i : Nat} (hx : V μ x x') {v : AV} {h' : Heap}
    (hr : (match (generalizing := false) x with
    | .tuple vs => (vs[i]?).map fun v => (v, h)
    | _ => none : AR) = some (v, h')) : VDone P μ h w ((Instr.extract x' i).run P w) v h' := by
  cases x with
  | tuple vs =>
    cases hx with | tuple vs vs' hv =>
    simp only [Option.map_eq_some_iff] at hr
    obtain ⟨a, ha, hr⟩ := hr; cases hr
    obtain ⟨v', e', hv'⟩ := hv.get ha
    rw [Array.getElem?_toList] at e'
    exact VDone.pure s (v' := v') (by simp [Instr.extract, e']) hv'
  | _ => simp at hr

end
end Go.Ya
