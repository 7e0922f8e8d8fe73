/-
  Operations, the last part: all of them together.
-/
import Derived.Test.YtekbgdmemenheaaYaOps6
namespace Go.Ya
set_option linter.unusedVariables false
set_option linter.unusedSimpArgs false
section
variable {P : Program} {μ : Mu} {h : Heap} {w : World}

theorem nilChk_sim (s : St P μ h w) {x : AV} {x' : Value} (hx : V μ x x') {v : AV} {h' : Heap}
    (hr : (match (generalizing := false) x with
    | .ptr id off => some (.ptr id off, h)
    | .func f a b => some (.func f a b, h)
    | .yieldf l => some (.yieldf l, h)
    | .iface t v => some (.iface t v, h)
    | _ => none : AR) = some (v, h')) :
    ∃ v', (∀ (o : Oper) (ρ : Operand → Value) (y : Operand), o.op = .nilCheck y → ρ y = x' → (execOp ρ o).run P w = .ok (.value v') w) ∧ V μ v v' ∧ h' = h := by
  cases x with
  | ptr id off =>
    cases hr
    refine ⟨x', fun o ρ y ho hy => ?_, hx, rfl⟩
    cases hx
    simp [execOp, ho, hy]
  | func f a b =>
    cases hr
    refine ⟨x', fun o ρ y ho hy => ?_, hx, rfl⟩
    cases hx
    simp [execOp, ho, hy]
  | yieldf l =>
    cases hr
    refine ⟨x', fun o ρ y ho hy => ?_, hx, rfl⟩
    cases hx
    simp [execOp, ho, hy]
  | iface t v =>
    cases hr
    refine ⟨x', fun o ρ y ho hy => ?_, hx, rfl⟩
    cases hx
    simp [execOp, ho, hy]
  | _ => simp at hr

theorem rangeStr_sim (s : St P μ h w) {t : TypeId} (ht : P.underlying t = some .string) {x : AV} {x' : Value} (hx : V μ x x') {v : AV} {h' : Heap}
    (hr : (match (generalizing := false) x with
    | .str s => some (.ptr h.next 0, h.alloc (.striter s 0))
    | _ => none : AR) = some (v, h')) : VDone P μ h w ((Instr.range t x').run P w) v h' := by
  cases x with
  | str l =>
    cases hr
    cases hx with | str _ st hst hsz =>
    subst hst
    obtain ⟨h1, h2⟩ := allocObj_sim s (.striter (bytesOf st) 0) (.stringIter st 0) (notMark _ _) ⟨st, alloc_new w _, rfl, hsz, rfl⟩
    refine ⟨_, .pointer (some ⟨w.heap.size, 0, none⟩), _, ?_, .ptr h.next 0 w.heap.size 0 0 (muAdd_same _ _ _), h1, h2⟩
    simp [Instr.range, und_run ht]
  | _ => simp at hr

theorem toBA_bytesOf (st : ByteArray) : toBA (bytesOf st) = st := by
  apply bytesOf_inj
  exact bytesOf_mk _ (bytesOf_wf st)

theorem decode_bound (st : ByteArray) (pos : Nat) : (Utf8.decode st pos).1 ≤ 2147483647 := by
  unfold Utf8.decode
  have hb : ∀ k, (st.get! (pos + k)).toNat < 256 := fun k => (st.get! (pos + k)).toNat_lt
  simp only [Utf8.runeError]
  repeat' split
  all_goals (try (simp only []; have := hb 0; have := hb 1; have := hb 2; have := hb 3; omega))

theorem nextStr_sim (s : St P μ h w) (ty : TypeId) {x : AV} {x' : Value} (hx : V μ x x') {v : AV} {h' : Heap}
    (hr : (match (generalizing := false) x with
    | .ptr id 0 =>
      match h.get id with
      | some (.striter s pos) =>
        if pos < s.length then
          let d := Utf8.decode (toBA s) pos
          some (.tuple [.bool true, .int .i64 pos, .int .i32 d.1], h.set id (.striter s (pos + d.2)))
        else some (.tuple [.bool false], h)
      | _ => none
    | _ => none : AR) = some (v, h')) : VDone P μ h w ((Instr.next x' true ty).run P w) v h' := by
  cases x with
  | ptr id off =>
    cases off with
    | succ n => simp at hr
    | zero =>
      simp only at hr
      split at hr
      · rename_i l pos hg
        cases hx with | ptr _ _ b base lim hm =>
        obtain ⟨ba, hb, hba, hsz, hbase⟩ := s.r.obj id b base lim _ hm hg
        subst hbase; subst hba
        have hgo : (getObj b : Sem Obj).run P w = .ok (.stringIter ba pos) w := by simp [getObj, Sem.run, hb]
        have hbs : b < w.heap.size := (Array.getElem?_eq_some_iff.1 hb).1
        rw [bytesOf_len] at hr
        split at hr
        · rename_i hlt
          simp only [toBA_bytesOf] at hr
          cases hr
          have hset : (setObj b (.stringIter ba (pos + (Utf8.decode ba pos).2)) : Sem Unit).run P w = .ok () { w with heap := w.heap.setIfInBounds b (.stringIter ba (pos + (Utf8.decode ba pos).2)) } := by
            simp [setObj, Sem.run, hb]
          have hw := s.r.write (w' := { w with heap := w.heap.setIfInBounds b (.stringIter ba (pos + (Utf8.decode ba pos).2)) }) hm hg rfl (o' := .striter (bytesOf ba) (pos + (Utf8.decode ba pos).2)) rfl (by simp) rfl rfl rfl
            (fun j hj => by simp only []; rw [Array.getElem?_setIfInBounds_ne (Ne.symm hj)]) ⟨ba, by simp [hbs], rfl, hsz, rfl⟩
          refine ⟨μ, .tuple #[.bool true, .int .i64 pos, .int .i32 (Utf8.decode ba pos).1], _, ?_, ?_, ⟨hw.1, s.bd, s.mkd.write s.r hm hg rfl (o' := .striter (bytesOf ba) (pos + (Utf8.decode ba pos).2)) (notMark _ _) (fun j hj => by simp only []; rw [Array.getElem?_setIfInBounds_ne (Ne.symm hj)]) fun _ _ e => by cases e⟩, hw.2⟩
          · simp only [Instr.next, Sem.run_bind, hgo, Result.andThen_ok, hlt, if_true, hset, Nat.add_zero]
            rfl
          · refine .tuple _ _ (.cons _ _ _ _ (.bool _) (.cons _ _ _ _ (.int _ _ (wf_nat (by omega))) (.cons _ _ _ _ (.int _ _ ?_) .nil)))
            have := decode_bound ba pos
            refine wf_of ?_ ?_ <;> simp [IntKind.min, IntKind.max, IntKind.signed, IntKind.bits] <;> omega
        · rename_i hlt
          cases hr
          refine VDone.pure s (v' := .tuple #[.bool false]) ?_ (.tuple _ _ (.cons _ _ _ _ (.bool _) .nil))
          simp only [Instr.next, Sem.run_bind, hgo, Result.andThen_ok, hlt, if_false, Nat.add_zero]
          rfl
      · cases hr
  | _ => simp at hr
end
end Go.Ya
