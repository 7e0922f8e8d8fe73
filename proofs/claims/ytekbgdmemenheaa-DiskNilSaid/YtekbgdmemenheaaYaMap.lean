/-
  Maps whose keys are numbers or texts: made, looked up, written.
-/
import Derived.Test.YtekbgdmemenheaaYaOps7
import Derived.Laws.StructEq
namespace Go.Ya
set_option linter.unusedVariables false
set_option linter.unusedSimpArgs false

section
variable {P : Program} {μ : Mu} {h : Heap} {w : World}

/-- The kind of a key's type. -/
def KeyT (sk : Bool) : TypeDesc → Prop
  | .int _ => sk = false
  | .string => sk = true
  | _ => False

theorem same_now {sk : Bool} {kd : TypeDesc} (hk : KeyT sk kd) {k k2 : AV} {v v2 : Value} (h1 : isKey sk k = true) (hv : V μ k v) (hv2 : V μ k2 v2) {b : Bool} (e : keyIs k k2 = some b) : Instr.sameNow kd v v2 = some b := by
  cases kd <;> simp only [KeyT] at hk
  · subst hk
    cases k <;> simp [isKey] at h1
    cases k2 <;> simp [keyIs] at e
    cases hv; cases hv2
    obtain ⟨e1, e2⟩ := e
    subst e1
    simp [Instr.sameNow, e2]
  · subst hk
    cases k <;> simp [isKey] at h1
    cases k2 <;> simp [keyIs] at e
    cases hv with | str _ s hs hs2 => cases hv2 with | str _ t ht ht2 =>
    subst hs; subst ht
    simp only [Instr.sameNow]
    rw [beq_toListBytes, ← bytesOf_beq, e]

theorem find_now {sk : Bool} {kd : TypeDesc} (hk : KeyT sk kd) {k : AV} {v : Value} (h1 : isKey sk k = true) (hv : V μ k v) : ∀ {es : List (AV × AV)} {es' : List MapEntry} {i : Nat} {r : Option AV}, PairsR μ es es' → findA k es = some r →
    ∃ r', Instr.findNow kd v es' i = some r' ∧ ((r = none ∧ r' = none) ∨ ∃ a j x, r = some a ∧ r' = some (j, x) ∧ V μ a x)
  | [], [], i, r, _, e => by
    simp only [findA, Option.some.injEq] at e
    subst e
    exact ⟨none, rfl, .inl ⟨rfl, rfl⟩⟩
  | [], _ :: _, _, _, hp, _ => by simp [PairsR] at hp
  | (k2, a) :: es, [], _, _, hp, _ => by simp [PairsR] at hp
  | (k2, a) :: es, e' :: es', i, r, hp, e => by
    obtain ⟨p1, p2, p3⟩ := hp
    simp only [findA] at e
    cases hq : keyIs k k2 with
    | none => rw [hq] at e; cases e
    | some b =>
      rw [hq] at e
      have hs := same_now hk h1 hv p1 hq
      cases b with
      | true =>
        cases e
        exact ⟨_, by simp [Instr.findNow, hs], .inr ⟨a, i, e'.val, rfl, rfl, p2⟩⟩
      | false =>
        obtain ⟨r', q1, q2⟩ := find_now hk h1 hv (i := i + 1) p3 e
        exact ⟨r', by simp [Instr.findNow, hs, q1], q2⟩

theorem checkKey_succ {sk : Bool} {kt : TypeId} {kd : TypeDesc} (hu : P.underlying kt = some kd) (hk : KeyT sk kd) {k : AV} {v : Value} (h1 : isKey sk k = true) (hv : V μ k v) (e : Bool) (n : Nat) : (Instr.checkKey e (n + 1) kt v).run P w = .ok () w := by
  cases kd <;> simp only [KeyT] at hk
  · subst hk
    cases k <;> simp [isKey] at h1
    cases hv
    simp [Instr.checkKey, und_run hu]
  · subst hk
    cases k <;> simp [isKey] at h1
    cases hv
    simp [Instr.checkKey, und_run hu]
theorem checkKey_run {sk : Bool} {kt : TypeId} {kd : TypeDesc} (hu : P.underlying kt = some kd) (hk : KeyT sk kd) {k : AV} {v : Value} (h1 : isKey sk k = true) (hv : V μ k v) (e : Bool) : (Instr.checkKey e 10000 kt v).run P w = .ok () w :=
  checkKey_succ hu hk h1 hv e 9999

theorem lookup_sim (s : St P μ h w) {t kt et : TypeId} {kd : TypeDesc} {sk : Bool} {zero : AV} {ok : Bool} (hu : P.underlying t = some (.map kt et)) (hz : zeroA P et = some zero) (hkd : P.underlying kt = some kd) (hk : KeyT sk kd) {x k : AV} {x' k' : Value} (hx : V μ x x') (hkv : V μ k k') {v : AV} {h' : Heap}
    (hr : (match (generalizing := false) (match (generalizing := false) x with
      | .nilmap => some []
      | .map id => match h.get id with
        | some (.map es) => some es
        | _ => none
      | _ => none : Option (List (AV × AV))) with
    | none => none
    | some es =>
      if isKey sk k then
        match findA k es with
        | none => none
        | some r =>
          let v := r.getD zero
          some (if ok then .tuple [v, .bool r.isSome] else v, h)
      else none : AR) = some (v, h')) : VDone P μ h w ((Instr.lookup t x' k' ok).run P w) v h' := by
  have main : ∀ (es : List (AV × AV)) (es' : Array MapEntry), PairsR μ es es'.toList → (∀ r', (Instr.findKey kt k' es'.toList).run P w = .ok r' w → (Instr.checkKey es'.isEmpty 10000 kt k').run P w = .ok () w →
        (Instr.lookup t x' k' ok).run P w = (match (generalizing := false) r' with | some p => .ok (if ok then .tuple #[p.2, .bool true] else p.2) w | none => ((zeroValue et : Sem Value).run P w).andThen fun z w => .ok (if ok then .tuple #[z, .bool false] else z) w)) →
      (if isKey sk k then
        match findA k es with
        | none => none
        | some r =>
          let v := r.getD zero
          some (if ok then .tuple [v, .bool r.isSome] else v, h)
      else none : AR) = some (v, h') → VDone P μ h w ((Instr.lookup t x' k' ok).run P w) v h' := by
    intro es es' hp hl hr
    split at hr
    case isFalse => cases hr
    rename_i h1
    cases hf : findA k es with
    | none => rw [hf] at hr; cases hr
    | some r =>
      rw [hf] at hr
      simp only at hr
      cases hr
      obtain ⟨r', q1, q2⟩ := find_now hk h1 hkv (i := 0) hp hf
      obtain ⟨i, zv, hi, hzv, hV⟩ := zeroA_spec hz μ
      have hzr : (zeroValue et : Sem Value).run P w = .ok zv w := by simp [zeroValue, typeInfo, hi, hzv]
      have hck := checkKey_run (w := w) hkd hk h1 hkv es'.isEmpty
      have hfk : (Instr.findKey kt k' es'.toList).run P w = .ok r' w := by simp [Instr.findKey, und_run hkd, q1]
      have hlk := hl r' hfk hck
      rcases q2 with ⟨rfl, rfl⟩ | ⟨a, j, y, rfl, rfl, q3⟩
      · refine VDone.pure s (v' := if ok then .tuple #[zv, .bool false] else zv) ?_ ?_
        · rw [hlk]; simp [hzr]
        · cases ok
          · exact hV
          · exact .tuple _ _ (.cons _ _ _ _ hV (.cons _ _ _ _ (.bool _) .nil))
      · refine VDone.pure s (v' := if ok then .tuple #[y, .bool true] else y) ?_ ?_
        · rw [hlk]
        · cases ok
          · exact q3
          · exact .tuple _ _ (.cons _ _ _ _ q3 (.cons _ _ _ _ (.bool _) .nil))
  cases x with
  | nilmap =>
    cases hx
    refine main [] #[] trivial (fun r' h1 h2 => ?_) hr
    unfold Instr.lookup
    simp only [Sem.run_bind, und_run hu, Result.andThen_ok, Sem.run_pure, h1, h2]
    rcases r' with _ | ⟨j, y⟩
    · simp only [Sem.run_bind]
      cases (zeroValue et : Sem Value).run P w <;> rfl
    · rfl
  | map id =>
    simp only at hr
    cases hg : h.get id with
    | none => rw [hg] at hr; simp at hr
    | some o =>
      rw [hg] at hr
      cases o with
      | map es =>
        cases hx with | map _ b base lim hm =>
        obtain ⟨es', clock, hb, hp⟩ := s.r.obj id b base lim _ hm hg
        have hgo : (getObj b : Sem Obj).run P w = .ok (.map es' clock) w := by simp [getObj, Sem.run, hb]
        refine main es es' hp (fun r' h1 h2 => ?_) hr
        unfold Instr.lookup
        simp only [Sem.run_bind, und_run hu, Result.andThen_ok, Sem.run_pure, hgo, h1, h2]
        rcases r' with _ | ⟨j, y⟩
        · simp only [Sem.run_bind]
          cases (zeroValue et : Sem Value).run P w <;> rfl
        · rfl
      | _ => simp at hr
  | _ => simp at hr

theorem same_bits {k k2 : AV} {v v2 : Value} (hv : V μ k v) (hv2 : V μ k2 v2) (e : keyIs k k2 = some true) : Instr.sameBits 10000 v2 v = true := by
  cases k <;> cases k2 <;> simp [keyIs] at e
  · cases hv; cases hv2
    obtain ⟨rfl, rfl⟩ := e
    simp [Instr.sameBits]
  · cases hv with | str _ s hs hs2 => cases hv2 with | str _ t ht ht2 =>
    subst hs; subst ht
    have : s = t := bytesOf_inj e
    subst this
    simp only [Instr.sameBits]
    rw [beq_toListBytes]
    exact beq_self_eq_true _
theorem put_pairs {sk : Bool} {kd : TypeDesc} (hk : KeyT sk kd) {k x : AV} {k' x' : Value} (h1 : isKey sk k = true) (hv : V μ k k') (hx : V μ x x') (born : Nat) : ∀ {es : List (AV × AV)} {es' : List MapEntry} {i : Nat} {es2 : List (AV × AV)}, PairsR μ es es' → putA k x es = some es2 →
    (∃ j y e0, Instr.findNow kd k' es' i = some (some (i + j, y)) ∧ es'[j]? = some e0 ∧ Instr.sameBits 10000 e0.key k' = true ∧ PairsR μ es2 (es'.modify j fun e => { e with key := k', val := x' })) ∨
      (Instr.findNow kd k' es' i = some none ∧ PairsR μ es2 (es' ++ [{ key := k', val := x', born := born }]))
  | [], [], i, es2, _, e => by
    simp only [putA, Option.some.injEq] at e
    subst e
    exact .inr ⟨rfl, hv, hx, trivial⟩
  | [], _ :: _, _, _, hp, _ => by simp [PairsR] at hp
  | (k2, a) :: es, [], _, _, hp, _ => by simp [PairsR] at hp
  | (k2, a) :: es, e' :: es', i, es2, hp, e => by
    obtain ⟨p1, p2, p3⟩ := hp
    simp only [putA] at e
    cases hq : keyIs k k2 with
    | none => rw [hq] at e; cases e
    | some b =>
      rw [hq] at e
      have hs := same_now hk h1 hv p1 hq
      cases b with
      | true =>
        cases e
        refine .inl ⟨0, e'.val, e', by simp [Instr.findNow, hs], rfl, same_bits hv p1 hq, ?_⟩
        simp only [List.modify_zero_cons]
        exact ⟨hv, hx, p3⟩
      | false =>
        simp only [Option.map_eq_some_iff] at e
        obtain ⟨es3, e3, rfl⟩ := e
        rcases put_pairs hk h1 hv hx born (i := i + 1) p3 e3 with ⟨j, y, e0, q1, q2, q3, q4⟩ | ⟨q1, q2⟩
        · refine .inl ⟨j + 1, y, e0, by simp [Instr.findNow, hs, q1]; omega, by simpa using q2, q3, ?_⟩
          simp only [List.modify_succ_cons]
          exact ⟨p1, p2, q4⟩
        · exact .inr ⟨by simp [Instr.findNow, hs, q1], p1, p2, q2⟩

theorem mapUpdate_sim (s : St P μ h w) {t kt et : TypeId} {kd : TypeDesc} {sk : Bool} (hu : P.underlying t = some (.map kt et)) (hkd : P.underlying kt = some kd) (hk : KeyT sk kd) {m k x : AV} {m' k' x' : Value} (hm : V μ m m') (hkv : V μ k k') (hx : V μ x x') {v : AV} {h' : Heap}
    (hr : (match (generalizing := false) m with
    | .map id =>
      match h.get id with
      | some (.map es) =>
        if isKey sk k then
          match putA k x es with
          | some es' => some (undefA, h.set id (.map es'))
          | none => none
        else none
      | _ => none
    | _ => none : AR) = some (v, h')) : v = undefA ∧ UDone P μ h w ((Instr.mapUpdate t m' k' x').run P w) h' := by
  cases m with
  | map id =>
    simp only at hr
    cases hg : h.get id with
    | none => rw [hg] at hr; simp at hr
    | some o =>
      rw [hg] at hr
      cases o with
      | map es =>
        simp only at hr
        split at hr
        case isFalse => cases hr
        rename_i h1
        cases hp2 : putA k x es with
        | none => rw [hp2] at hr; cases hr
        | some es2 =>
          rw [hp2] at hr
          cases hr
          refine ⟨rfl, ?_⟩
          cases hm with | map _ b base lim hmu =>
          obtain ⟨es', clock, hb, hp⟩ := s.r.obj id b base lim _ hmu hg
          have hbs : b < w.heap.size := (Array.getElem?_eq_some_iff.1 hb).1
          have hgo : (getObj b : Sem Obj).run P w = .ok (.map es' clock) w := by simp [getObj, Sem.run, hb]
          have hck := checkKey_run (w := w) hkd hk h1 hkv false
          have fin : ∀ ob : Obj, (∃ es3 : Array MapEntry, ∃ c : Nat, ob = .map es3 c ∧ PairsR μ es2 es3.toList) → (Instr.mapUpdate t (.map (some b)) k' x').run P w = (setObj b ob : Sem Unit).run P w → UDone P μ h w ((Instr.mapUpdate t (.map (some b)) k' x').run P w) (h.set id (.map es2)) := by
            rintro ob ⟨es3, c, rfl, hp3⟩ hrun
            have hset : (setObj b (.map es3 c) : Sem Unit).run P w = .ok () { w with heap := w.heap.setIfInBounds b (.map es3 c) } := by
              simp [setObj, Sem.run, hb]
            have hw := s.r.write (w' := { w with heap := w.heap.setIfInBounds b (.map es3 c) }) hmu hg rfl (o' := .map es2) rfl (by simp) rfl rfl rfl
              (fun j hj => by simp only []; rw [Array.getElem?_setIfInBounds_ne (Ne.symm hj)]) ⟨es3, c, by simp [hbs], hp3⟩
            exact ⟨μ, _, hrun.trans hset, ⟨hw.1, s.bd, s.mkd.write s.r hmu hg rfl (o' := .map es2) rfl (fun j hj => by simp only []; rw [Array.getElem?_setIfInBounds_ne (Ne.symm hj)]) fun _ _ e => by cases e⟩, hw.2⟩
          rcases put_pairs hk h1 hkv hx clock (i := 0) hp hp2 with ⟨j, y, e0, q1, q2, q3, q4⟩ | ⟨q1, q2⟩
          · have hfk : (Instr.findKey kt k' es'.toList).run P w = .ok (some (j, y)) w := by simp [Instr.findKey, und_run hkd, q1]
            have hej : es'[j]? = some e0 := by rw [← Array.getElem?_toList]; exact q2
            refine fin (.map (es'.modify j fun e => { e with key := k', val := x' }) clock) ⟨_, clock, rfl, by rw [Array.toList_modify]; exact q4⟩ ?_
            unfold Instr.mapUpdate
            simp only [Sem.run_bind, und_run hu, Result.andThen_ok, hgo, hck, hfk, hej, Option.map_some, Option.getD_some, Instr.keyThatStays, q3, if_true, Sem.run_pure]
          · have hfk : (Instr.findKey kt k' es'.toList).run P w = .ok none w := by simp [Instr.findKey, und_run hkd, q1]
            refine fin (.map (es'.push { key := k', val := x', born := clock }) (clock + 1)) ⟨_, clock + 1, rfl, by rw [Array.toList_push]; exact q2⟩ ?_
            unfold Instr.mapUpdate
            simp only [Sem.run_bind, und_run hu, Result.andThen_ok, hgo, hck, hfk]
      | _ => simp at hr
  | _ => simp at hr

theorem mkMap_sim (s : St P μ h w) {t : TypeId} : VDone P μ h w ((Instr.makeMap t none).run P w) (.map h.next) (h.alloc (.map [])) := by
  obtain ⟨h1, h2⟩ := allocObj_sim s (.map []) (.map #[] 0) rfl ⟨#[], 0, alloc_new w _, trivial⟩
  refine ⟨_, .map (some w.heap.size), _, ?_, .map h.next w.heap.size 0 0 (muAdd_same _ _ _), h1, h2⟩
  simp [Instr.makeMap]
theorem mkMap_hint (s : St P μ h w) {t kt et : TypeId} {kd : IntKind} {n : Int} (hu : P.underlying t = some (.map kt et)) : VDone P μ h w ((Instr.makeMap t (some (.int kd n))).run P w) (.map h.next) (h.alloc (.map [])) := by
  obtain ⟨h1, h2⟩ := allocObj_sim s (.map []) (.map #[] 0) rfl ⟨#[], 0, alloc_new w _, trivial⟩
  refine ⟨_, .map (some w.heap.size), _, ?_, .map h.next w.heap.size 0 0 (muAdd_same _ _ _), h1, h2⟩
  simp [Instr.makeMap, und_run hu, asInt, asIntOf]
end
end Go.Ya
