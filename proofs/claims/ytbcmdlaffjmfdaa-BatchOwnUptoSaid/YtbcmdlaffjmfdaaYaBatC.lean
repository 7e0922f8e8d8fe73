/-
  Batch: changes of bytes.
-/
import Derived.Test.YtbcmdlaffjmfdaaYaBatB
import Derived.Test.YtbcmdlaffjmfdaaYbL
namespace Go.Proofs.Ytbcmdlaffjmfdaa.Ya
open Go.Ya Go.Ya.Bat
set_option linter.unusedVariables false
set_option linter.unusedSimpArgs false
set_option maxRecDepth 100000
set_option maxHeartbeats 8000000

theorem getD_take {X : Bs} {i n : Nat} (h : i < n) : (X.take n).getD i 0 = X.getD i 0 := by simp only [List.getD_eq_getElem?_getD, List.getElem?_take, h, if_true]
theorem val1 {bs : Bs} (h : 1 ≤ bs.length) : valBE (bs.take 1) = bs.getD 0 0 := by
  match bs, h with
  | a :: l, _ => simp [valBE]
theorem val_small {bs : Bs} (hy : Bytes bs) {s : Nat} (hs : s = 1 ∨ s = 2) : valBE (bs.take s) < 65536 := by
  have h := (valBE_lt (bs.take s) (hy.take s)).2
  have h2 : (bs.take s).length = 0 ∨ (bs.take s).length = 1 ∨ (bs.take s).length = 2 := by rw [List.length_take]; omega
  rcases h2 with e | e | e <;> rw [e] at h <;> omega
theorem val2 {bs : Bs} (h : 2 ≤ bs.length) : valBE (bs.take 2) = 256 * bs.getD 0 0 + bs.getD 1 0 := by
  match bs, h with
  | a :: b :: l, _ => simp [valBE]; omega
def b65 : SC := (.seq (.ops [⟨some 4, .mov (.c (.nilsl)), none⟩, ⟨some 5, .mov (.c (.bool false)), none⟩]) (.seq (.seq (.ops [⟨some 7, .mov (.t 0), none⟩, ⟨some 8, .nilChk (.t 7), none⟩, ⟨some 9, .load false 1 (.t 8), none⟩, ⟨some 10, .len (.sl) (.t 9), none⟩, ⟨some 11, .mov (.t 1), none⟩, ⟨some 12, .bin (.lss) (.other) (.t 10) (.t 11), none⟩]) (.cond (.t 12) (.seq (.ops [⟨some 4, .mov (.c (.nilsl)), none⟩, ⟨some 5, .mov (.c (.bool false)), none⟩]) .ret) .skip)) (.seq (.ops [⟨some 6, .mov (.c (.nilsl)), none⟩]) (.seq (.ops [⟨some 13, .mov (.t 0), none⟩, ⟨some 14, .mov (.t 0), none⟩, ⟨some 15, .nilChk (.t 14), none⟩, ⟨some 16, .load false 1 (.t 15), none⟩, ⟨some 17, .mov (.t 1), none⟩, ⟨some 18, .slice 1 (.t 16) none (some (.t 17)) none, none⟩, ⟨some 19, .mov (.t 0), none⟩, ⟨some 20, .nilChk (.t 19), none⟩, ⟨some 21, .load false 1 (.t 20), none⟩, ⟨some 22, .mov (.t 1), none⟩, ⟨some 23, .slice 1 (.t 21) (some (.t 22)) none none, none⟩, ⟨some 6, .mov (.t 18), none⟩, ⟨some 24, .nilChk (.t 13), none⟩, ⟨none, .store 1 (.t 24) (.t 23), none⟩]) (.seq (.ops [⟨some 25, .mov (.t 6), none⟩, ⟨some 4, .mov (.t 25), none⟩, ⟨some 5, .mov (.c (.bool true)), none⟩]) .ret)))))
theorem t65 : tab 65 = some ⟨26, [.tmp 4, .tmp 5], b65⟩ := rfl
theorem bat_cut {p : Nat} {V : AV} {bs : Bs} {h0 h : Heap} (g : Grow h0 h) (hp : h0.next ≤ p) (hV : BytesAt h0 V bs) (hg : h.get p = some (.cells [V] false)) {n : Int} (hn : 0 ≤ n) : Runs (xcall X1 tab (.fn 65) [.ptr p 0, .int .i64 n] h) fun v h' => (bs.length < n.toNat ∧ v = .tuple [.nilsl, .bool false] ∧ h = h') ∨ (n.toNat ≤ bs.length ∧ ∃ w V', v = .tuple [w, .bool true] ∧ h' = h.set p (.cells [V'] false) ∧ BytesAt h0 w (bs.take n.toNat) ∧ BytesAt h0 V' (bs.drop n.toNat)) := by
  refine Runs.intro fun K hK => ?_
  obtain ⟨m, rfl⟩ := Int.eq_ofNat_of_zero_le hn
  simp only [Int.toNat_natCast] at hK
  have hlt := Heap.lt_of_get hg
  have gn := g.1
  rw [w_fn rfl t65 (Nat.le_of_ble_eq_true rfl)]
  delta b65
  repeat' (first
    | simp (disch := first | exact qd | fail) only [WB, ↓WP, ↓WL, WR, WC, if_true, if_false, ite_true, ite_false, aop, ev, evs, readsA, List.replicate, numF, unA, resA, tupA, loadA, storeA, splice, fillA, kindsOk, plainEq, ↓reduceIte, Nat.reduceEqDiff, Nat.reduceLT, Int.reduceToNat, Int.reduceBEq, Int.reduceBNe, Nat.reduceAdd, Nat.reduceMul, Nat.reduceLeDiff, Int.reduceLT, Int.reduceSub, Int.reduceAdd, hg]
    | ((first | refine atC ?_ ?_ | refine atG ?_ ?_ | refine atH ?_ ?_ | refine atP ?_ ?_) <;> intro hc <;> (try rw [hc]) <;> (try simp only [BD] at hc) <;> try (exfalso; omega))
    | ((first
      | (refine Runs.call (BytesAt.cutR hV (a := 0) (b := m) qg (.inr ⟨rfl, rfl⟩) (.inl rfl) qo qo) ?_; rintro w _ ⟨rfl, hw⟩; simp only [List.drop_zero] at hw)
      | (refine Runs.call (BytesAt.cutR hV (a := m) (b := bs.length) qg (.inl rfl) (.inr ⟨rfl, rfl⟩) qo qo) ?_; rintro u _ ⟨rfl, hu⟩; simp only [List.take_length] at hu; have hfl := hu.fl; have hcl := hu.cl)
      | fail); all_goals ((try (have gn := gr.1; try simp only [nx_alloc, nx_set] at gn)); (try (have an := ha.num; try simp only [nx_alloc, nx_set, own_sl, own_nil] at an)); (try (have on := hO.num; try simp only [nx_alloc, nx_set] at on)); (try (have kn := hk.1; try simp only [nx_alloc, nx_set] at kn)); try have hB := hO.at)))
  all_goals try (first
    | (refine hK _ _ ?_; (first | exact .inl ⟨by omega, rfl, rfl⟩ | exact .inr ⟨by omega, _, _, rfl, rfl, hw, hu⟩); done))
def b64 : SC := (.seq (.ops [⟨some 4, .mov (.c (.int (.i64) 0)), none⟩, ⟨some 5, .mov (.c (.bool false)), none⟩]) (.seq (.ops [⟨some 11, .mov (.t 0), none⟩, ⟨some 12, .mov (.t 1), none⟩, ⟨some 13, .call 65 [.t 11, .t 12], none⟩, ⟨some 10, .mov (.t 13), none⟩, ⟨some 14, .extract (.t 10) 0, none⟩, ⟨some 15, .extract (.t 10) 1, none⟩, ⟨some 6, .mov (.t 14), none⟩, ⟨some 7, .mov (.t 15), none⟩]) (.seq (.ops [⟨some 17, .mov (.t 6), none⟩, ⟨some 18, .mov (.t 1), none⟩, ⟨some 19, .call 70 [.t 17, .c (.int (.i64) 0), .t 18], none⟩, ⟨some 16, .mov (.t 19), none⟩, ⟨some 20, .extract (.t 16) 0, none⟩, ⟨some 21, .extract (.t 16) 1, none⟩, ⟨some 8, .mov (.t 20), none⟩, ⟨some 9, .mov (.t 21), none⟩]) (.seq (.ops [⟨some 22, .mov (.t 8), none⟩, ⟨some 23, .convInt (.i64) (.t 22), none⟩, ⟨some 24, .mov (.t 7), none⟩, ⟨some 4, .mov (.t 23), none⟩, ⟨some 5, .mov (.t 24), none⟩]) .ret))))
theorem t64 : tab 64 = some ⟨25, [.tmp 4, .tmp 5], b64⟩ := rfl
theorem bat_size {p : Nat} {V : AV} {bs : Bs} {h0 h : Heap} (g : Grow h0 h) (hp : h0.next ≤ p) (hV : BytesAt h0 V bs) (hg : h.get p = some (.cells [V] false)) (hy : Bytes bs) (hl : bs.length ≤ 140737488355328) {s : Nat} (hs : s = 1 ∨ s = 2) : Runs (xcall X1 tab (.fn 64) [.ptr p 0, .int .i64 (s : Nat)] h) fun v h' => Pok p h h' ∧ ((bs.length < s ∧ v = .tuple [.int .i64 0, .bool false]) ∨ (s ≤ bs.length ∧ ∃ V', v = .tuple [.int .i64 (valBE (bs.take s)), .bool true] ∧ 0 ≤ valBE (bs.take s) ∧ valBE (bs.take s) < 65536 ∧ h'.get p = some (.cells [V'] false) ∧ BytesAt h0 V' (bs.drop s))) := by
  refine Runs.intro fun K hK => ?_
  have hlt := Heap.lt_of_get hg
  have gn := g.1
  have hz : Sz s := by unfold Sz; omega
  have hvl := valBE_lt (bs.take s) (hy.take s)
  have hvb := val_small hy hs
  rw [w_fn rfl t64 (Nat.le_of_ble_eq_true rfl)]
  delta b64
  repeat' (first
    | simp (disch := first | exact qd | fail) only [WB, ↓WP, ↓WL, WR, WC, if_true, if_false, ite_true, ite_false, aop, ev, evs, readsA, List.replicate, numF, unA, resA, tupA, loadA, storeA, splice, fillA, kindsOk, plainEq, ↓reduceIte, Nat.reduceEqDiff, Nat.reduceLT, Int.reduceToNat, Int.reduceBEq, Int.reduceBNe, Nat.reduceAdd, Nat.reduceMul, Nat.reduceLeDiff, Int.reduceLT, Int.reduceSub, Int.reduceAdd, hg]
    | ((first | refine atC ?_ ?_ | refine atG ?_ ?_ | refine atH ?_ ?_ | refine atP ?_ ?_) <;> intro hc <;> (try rw [hc]) <;> (try simp only [BD] at hc) <;> try (exfalso; omega))
    | ((first
      | (refine Runs.call (bat_cut g hp hV hg (n := (s : Int)) qo) ?_; rintro v0 h1 hq; simp only [Int.toNat_natCast] at hq; rcases hq with ⟨hb, rfl, rfl⟩ | ⟨hb, w, V1, rfl, rfl, hw, hu⟩)
      | (refine Runs.call (num_Get (.inl ⟨rfl, rfl⟩) (fun _ h => nomatch h) hz (by simp)) ?_; rintro r h2 ⟨gr, hr⟩; rw [if_pos (by simp; omega)] at hr; subst hr)
      | (refine Runs.call (num_Get (hw.grow qg) (hy.take s) hz ql) ?_; rintro r h2 ⟨gr, hr⟩; rw [if_neg ql, List.take_take, Nat.min_self] at hr; subst hr)
      | fail); all_goals ((try (have gn := gr.1; try simp only [nx_alloc, nx_set] at gn)); (try (have an := ha.num; try simp only [nx_alloc, nx_set, own_sl, own_nil] at an)); (try (have on := hO.num; try simp only [nx_alloc, nx_set] at on)); (try (have kn := hk.1; try simp only [nx_alloc, nx_set] at kn)); try have hB := hO.at)))
  all_goals try (first
    | (refine hK _ _ ?_; (first | exact ⟨qp, .inl ⟨by omega, rfl⟩⟩ | exact ⟨qp, .inr ⟨by omega, V1, rfl, hvl.1, hvb, qs, hu⟩⟩); done))

/-- One change off bytes, behind a key: 0 and it, with what is left; or an error's number. -/
def takeC (last bs : Bs) : Int × En × Bs :=
  let x0 : En := ⟨[], [], false⟩
  if last.length < (bs.getD 0 0).toNat then (5, x0, []) else
  let r1 := bs.drop 1
  if r1.length < 1 then (4, x0, []) else
  let r2 := r1.drop 1
  if r2.length < (r1.getD 0 0).toNat then (4, x0, []) else
  let r3 := r2.drop (r1.getD 0 0).toNat
  if r3.length < 2 then (4, x0, []) else
  let z := valBE (r3.take 2)
  let r4 := r3.drop 2
  if r4.length < (z - 1).toNat then (4, x0, []) else
  let x : En := ⟨last.take (bs.getD 0 0).toNat ++ r2.take (r1.getD 0 0).toNat, r4.take (z - 1).toNat, z == 0⟩
  if fitsP last x.key x.val && (sharedP last x.key == (bs.getD 0 0).toNat) then (0, x, r4.drop (z - 1).toNat) else (5, x0, [])
def keyC (last bs : Bs) : Bs := last.take (bs.getD 0 0).toNat ++ ((bs.drop 1).drop 1).take ((bs.drop 1).getD 0 0).toNat
def restC (bs : Bs) : Bs := ((bs.drop 1).drop 1).drop ((bs.drop 1).getD 0 0).toNat
def valC (bs : Bs) : Bs := ((restC bs).drop 2).take (valBE ((restC bs).take 2) - 1).toNat
theorem takeC_a {last bs : Bs} (h : last.length < (bs.getD 0 0).toNat) : (takeC last bs).1 = 5 := by simp only [takeC]; rw [if_pos h]
theorem takeC_b {last bs : Bs} (h : ¬ last.length < (bs.getD 0 0).toNat) (h2 : (bs.drop 1).length < 1) : (takeC last bs).1 = 4 := by simp only [takeC]; rw [if_neg h, if_pos h2]
theorem takeC_c {last bs : Bs} (h : ¬ last.length < (bs.getD 0 0).toNat) (h2 : ¬ (bs.drop 1).length < 1) (h3 : ((bs.drop 1).drop 1).length < ((bs.drop 1).getD 0 0).toNat) : (takeC last bs).1 = 4 := by simp only [takeC]; rw [if_neg h, if_neg h2, if_pos h3]
theorem takeC_d {last bs : Bs} (h : ¬ last.length < (bs.getD 0 0).toNat) (h2 : ¬ (bs.drop 1).length < 1) (h3 : ¬ ((bs.drop 1).drop 1).length < ((bs.drop 1).getD 0 0).toNat) (h4 : (restC bs).length < 2) : (takeC last bs).1 = 4 := by
  unfold restC at h4
  simp only [takeC]; rw [if_neg h, if_neg h2, if_neg h3, if_pos h4]
theorem takeC_e {last bs : Bs} (h : ¬ last.length < (bs.getD 0 0).toNat) (h2 : ¬ (bs.drop 1).length < 1) (h3 : ¬ ((bs.drop 1).drop 1).length < ((bs.drop 1).getD 0 0).toNat) (h4 : ¬ (restC bs).length < 2) (h5 : ((restC bs).drop 2).length < (valBE ((restC bs).take 2) - 1).toNat) : (takeC last bs).1 = 4 := by
  unfold restC at h4 h5
  simp only [takeC]; rw [if_neg h, if_neg h2, if_neg h3, if_neg h4, if_pos h5]
theorem takeC_f {last bs : Bs} (h : ¬ last.length < (bs.getD 0 0).toNat) (h2 : ¬ (bs.drop 1).length < 1) (h3 : ¬ ((bs.drop 1).drop 1).length < ((bs.drop 1).getD 0 0).toNat) (h4 : ¬ (restC bs).length < 2) (h5 : ¬ ((restC bs).drop 2).length < (valBE ((restC bs).take 2) - 1).toNat) :
    takeC last bs = if (fitsP last (keyC last bs) (valC bs) && (sharedP last (keyC last bs) == (bs.getD 0 0).toNat)) = true then (0, ⟨keyC last bs, valC bs, valBE ((restC bs).take 2) == 0⟩, ((restC bs).drop 2).drop (valBE ((restC bs).take 2) - 1).toNat) else (5, ⟨[], [], false⟩, []) := by
  unfold keyC valC restC at *
  simp only [takeC]; rw [if_neg h, if_neg h2, if_neg h3, if_neg h4, if_neg h5]
theorem may_one {last key val : Bs} {g : Bool} (hl : lessA last key = true) (hg : g = true → val = []) : mayP [⟨key, val, g⟩] = fitsP last key val := by
  have h0 : lessA [] key = true := nil_less.2 (fun e => by rw [e, less_nil] at hl; cases hl)
  unfold mayP mayG fitsP fineP
  rw [hl, h0]
  simp only [mayG, Bool.and_true]
  cases g
  · simp [Bool.and_comm]
  · rw [hg rfl]; simp
theorem takeC_g {last bs : Bs} (h : ¬ last.length < (bs.getD 0 0).toNat) (h2 : ¬ (bs.drop 1).length < 1) (h3 : ¬ ((bs.drop 1).drop 1).length < ((bs.drop 1).getD 0 0).toNat) (h4 : ¬ (restC bs).length < 2) (h5 : ¬ ((restC bs).drop 2).length < (valBE ((restC bs).take 2) - 1).toNat)
    (h6 : lessA last (keyC last bs) = true → mayP [⟨keyC last bs, valC bs, valBE ((restC bs).take 2) == 0⟩] = true → sharedP last (keyC last bs) = (bs.getD 0 0).toNat → False) : (takeC last bs).1 = 5 := by
  rw [takeC_f h h2 h3 h4 h5]
  split
  · rename_i hq
    simp only [Bool.and_eq_true, beq_iff_eq] at hq
    have hl : lessA last (keyC last bs) = true := by
      have := hq.1
      unfold fitsP at this
      simp only [Bool.and_eq_true] at this
      exact this.1.2
    have hm := may_one (val := valC bs) (g := valBE ((restC bs).take 2) == 0) hl (fun e => by
      unfold valC
      rw [beq_iff_eq] at e
      rw [e]; rfl)
    exact (h6 hl (hm.trans hq.1) hq.2).elim
  · rfl
theorem takeC_ok {last bs : Bs} (h : ¬ last.length < (bs.getD 0 0).toNat) (h2 : ¬ (bs.drop 1).length < 1) (h3 : ¬ ((bs.drop 1).drop 1).length < ((bs.drop 1).getD 0 0).toNat) (h4 : ¬ (restC bs).length < 2) (h5 : ¬ ((restC bs).drop 2).length < (valBE ((restC bs).take 2) - 1).toNat)
    (h6 : lessA last (keyC last bs) = true) (h7 : mayP [⟨keyC last bs, valC bs, valBE ((restC bs).take 2) == 0⟩] = true) (h8 : sharedP last (keyC last bs) = (bs.getD 0 0).toNat) : takeC last bs = (0, ⟨keyC last bs, valC bs, valBE ((restC bs).take 2) == 0⟩, ((restC bs).drop 2).drop (valBE ((restC bs).take 2) - 1).toNat) := by
  rw [takeC_f h h2 h3 h4 h5, if_pos]
  rw [may_one h6 (fun e => by
      unfold valC
      rw [beq_iff_eq] at e
      rw [e]; rfl)] at h7
  rw [h7, h8]; simp
theorem shared_ge : ∀ {last k : Bs} {n : Nat}, n ≤ last.length → n ≤ sharedP last (last.take n ++ k)
  | _, _, 0, _ => Nat.zero_le _
  | [], _, n + 1, h => by simp at h
  | a :: l, k, n + 1, h => by
    have := shared_ge (last := l) (k := k) (n := n) (by simpa using h)
    simp only [List.take_succ_cons, List.cons_append, sharedP, if_true]
    omega
theorem takeC_h {last bs : Bs} (h : ¬ last.length < (bs.getD 0 0).toNat) (h2 : ¬ (bs.drop 1).length < 1) (h3 : ¬ ((bs.drop 1).drop 1).length < ((bs.drop 1).getD 0 0).toNat) (h4 : ¬ (restC bs).length < 2) (h5 : ¬ ((restC bs).drop 2).length < (valBE ((restC bs).take 2) - 1).toNat)
    (h6 : fitsP last (keyC last bs) (valC bs) = false ∨ (bs.getD 0 0).toNat < sharedP last (keyC last bs)) : (takeC last bs).1 = 5 := by
  rw [takeC_f h h2 h3 h4 h5, if_neg]
  intro hq
  simp only [Bool.and_eq_true, beq_iff_eq] at hq
  rcases h6 with e | e
  · rw [e] at hq; exact absurd hq.1 (by decide)
  · omega
theorem takeC_k {last bs : Bs} (h : ¬ last.length < (bs.getD 0 0).toNat) (h2 : ¬ (bs.drop 1).length < 1) (h3 : ¬ ((bs.drop 1).drop 1).length < ((bs.drop 1).getD 0 0).toNat) (h4 : ¬ (restC bs).length < 2) (h5 : ¬ ((restC bs).drop 2).length < (valBE ((restC bs).take 2) - 1).toNat)
    (h6 : fitsP last (keyC last bs) (valC bs) = true) (h7 : sharedP last (keyC last bs) ≤ (bs.getD 0 0).toNat) : takeC last bs = (0, ⟨keyC last bs, valC bs, valBE ((restC bs).take 2) == 0⟩, ((restC bs).drop 2).drop (valBE ((restC bs).take 2) - 1).toNat) := by
  have := shared_ge (last := last) (k := ((bs.drop 1).drop 1).take ((bs.drop 1).getD 0 0).toNat) (n := (bs.getD 0 0).toNat) qo
  have e : sharedP last (keyC last bs) = (bs.getD 0 0).toNat := Nat.le_antisymm h7 this
  rw [takeC_f h h2 h3 h4 h5, if_pos]
  rw [h6, e]; simp
theorem val2r {bs : Bs} (h : 2 ≤ bs.length) : 256 * bs.getD 0 0 + bs.getD 1 0 = valBE (bs.take 2) := (val2 h).symm
theorem max_sub1 {z : Int} (h : 0 ≤ z) : max z 1 - 1 = (((z - 1).toNat : Nat) : Int) := by omega
theorem max_sub0 {z : Int} : max (z - 1) 0 = (((z - 1).toNat : Nat) : Int) := by omega
theorem c1_at {h : Heap} {id cap : Nat} {ex ro : Bool} {k val : Bs} {w : AV} {g : Bool} (hg : h.get id = some (.cells [.str k, w, .bool g] ro)) : CAt h (.slice id 0 1 cap ex 3) [⟨k, w, val, g⟩] :=
  ⟨fun r hr => by obtain ⟨q, _, rfl⟩ := List.mem_map.1 hr; rfl, .inr ⟨id, 0, cap, ex, _, ro, rfl, hg, by simp, by simp [encC]⟩⟩
theorem v1_at {h : Heap} {k val : Bs} {w : AV} {g : Bool} (hb : BytesAt h w val) : VAt h [⟨k, w, val, g⟩] := fun x hx => by
  simp only [List.mem_singleton] at hx
  subst hx; exact hb
def b40 : SC := (.seq (.ops [⟨some 4, .box (.c (.agg [.str [], .nilsl, .bool false])), none⟩, ⟨some 5, .mov (.c (.int (.i64) 0)), none⟩]) (.seq (.ops [⟨some 14, .mov (.t 0), none⟩, ⟨some 15, .call 64 [.t 14, .c (.int (.i64) 1)], none⟩, ⟨some 13, .mov (.t 15), none⟩, ⟨some 16, .extract (.t 13) 0, none⟩, ⟨some 17, .extract (.t 13) 1, none⟩, ⟨some 6, .mov (.t 16), none⟩, ⟨some 7, .mov (.t 17), none⟩]) (.seq (.seq (.ops [⟨some 18, .mov (.t 6), none⟩, ⟨some 19, .mov (.t 1), none⟩, ⟨some 20, .len (.str) (.t 19), none⟩, ⟨some 21, .bin (.gtr) (.other) (.t 18) (.t 20), none⟩]) (.cond (.t 21) (.seq (.ops [⟨some 22, .load true 3 (.t 4), none⟩, ⟨none, .store 3 (.t 4) (.t 22), none⟩, ⟨some 5, .mov (.c (.int (.i64) 5)), none⟩]) .ret) .skip)) (.seq (.ops [⟨some 24, .mov (.t 0), none⟩, ⟨some 25, .call 64 [.t 24, .c (.int (.i64) 1)], none⟩, ⟨some 23, .mov (.t 25), none⟩, ⟨some 26, .extract (.t 23) 0, none⟩, ⟨some 27, .extract (.t 23) 1, none⟩, ⟨some 8, .mov (.t 26), none⟩, ⟨some 9, .mov (.t 27), none⟩]) (.seq (.seq (.ops [⟨some 28, .mov (.t 9), none⟩, ⟨some 29, .un (.not) (.t 28), none⟩]) (.cond (.t 29) (.seq (.ops [⟨some 30, .load true 3 (.t 4), none⟩, ⟨none, .store 3 (.t 4) (.t 30), none⟩, ⟨some 5, .mov (.c (.int (.i64) 4)), none⟩]) .ret) .skip)) (.seq (.ops [⟨some 32, .mov (.t 0), none⟩, ⟨some 33, .mov (.t 8), none⟩, ⟨some 34, .call 65 [.t 32, .t 33], none⟩, ⟨some 31, .mov (.t 34), none⟩, ⟨some 35, .extract (.t 31) 0, none⟩, ⟨some 36, .extract (.t 31) 1, none⟩, ⟨some 10, .mov (.t 35), none⟩, ⟨some 9, .mov (.t 36), none⟩]) (.seq (.seq (.ops [⟨some 37, .mov (.t 9), none⟩, ⟨some 38, .un (.not) (.t 37), none⟩]) (.cond (.t 38) (.seq (.ops [⟨some 39, .load true 3 (.t 4), none⟩, ⟨none, .store 3 (.t 4) (.t 39), none⟩, ⟨some 5, .mov (.c (.int (.i64) 4)), none⟩]) .ret) .skip)) (.seq (.ops [⟨some 41, .mov (.t 0), none⟩, ⟨some 42, .call 64 [.t 41, .c (.int (.i64) 2)], none⟩, ⟨some 40, .mov (.t 42), none⟩, ⟨some 43, .extract (.t 40) 0, none⟩, ⟨some 44, .extract (.t 40) 1, none⟩, ⟨some 11, .mov (.t 43), none⟩, ⟨some 9, .mov (.t 44), none⟩]) (.seq (.seq (.ops [⟨some 45, .mov (.t 9), none⟩, ⟨some 46, .un (.not) (.t 45), none⟩]) (.cond (.t 46) (.seq (.ops [⟨some 47, .load true 3 (.t 4), none⟩, ⟨none, .store 3 (.t 4) (.t 47), none⟩, ⟨some 5, .mov (.c (.int (.i64) 4)), none⟩]) .ret) .skip)) (.seq (.ops [⟨some 49, .mov (.t 0), none⟩, ⟨some 50, .mov (.t 11), none⟩, ⟨some 51, .max (.t 50) [.c (.int (.i64) 1)], none⟩, ⟨some 52, .bin (.sub) (.other) (.t 51) (.c (.int (.i64) 1)), none⟩, ⟨some 53, .call 65 [.t 49, .t 52], none⟩, ⟨some 48, .mov (.t 53), none⟩, ⟨some 54, .extract (.t 48) 0, none⟩, ⟨some 55, .extract (.t 48) 1, none⟩, ⟨some 12, .mov (.t 54), none⟩, ⟨some 9, .mov (.t 55), none⟩]) (.seq (.seq (.ops [⟨some 56, .mov (.t 9), none⟩, ⟨some 57, .un (.not) (.t 56), none⟩]) (.cond (.t 57) (.seq (.ops [⟨some 58, .load true 3 (.t 4), none⟩, ⟨none, .store 3 (.t 4) (.t 58), none⟩, ⟨some 5, .mov (.c (.int (.i64) 4)), none⟩]) .ret) .skip)) (.seq (.drawOps [⟨some 59, .mov (.t 1), none⟩, ⟨some 60, .mov (.t 6), none⟩, ⟨some 61, .sliceStr (.t 59) none (some (.t 60)), none⟩, ⟨some 62, .mov (.t 10), none⟩, ⟨some 63, .bytesToStr (.t 62), none⟩, ⟨some 64, .bin (.add) (.str) (.t 61) (.t 63), none⟩, ⟨some 65, .mov (.t 12), none⟩, ⟨some 66, .call 49 [.t 65], none⟩, ⟨some 67, .mov (.t 11), none⟩, ⟨some 68, .bin (.eql) (.other) (.t 67) (.c (.int (.i64) 0)), none⟩, ⟨some 69, .build [.str [], .nilsl, .bool false] [(0, 1, .t 64), (1, 1, .t 66), (2, 1, .t 68)], none⟩, ⟨none, .store 3 (.t 4) (.t 69), none⟩] [(4, 7)]) (.seq (.seq (.ops [⟨some 70, .fieldAddr 0 (.t 4), none⟩, ⟨some 71, .load false 1 (.t 70), none⟩, ⟨some 72, .mov (.t 1), none⟩, ⟨some 73, .bin (.leq) (.str) (.t 71) (.t 72), none⟩, ⟨some 74, .mov (.t 73), none⟩, ⟨some 75, .load true 3 (.t 4), some (74, false)⟩, ⟨some 76, .buildSlice [.str [], .nilsl, .bool false] 1 3 [(0, 3, .t 75)], some (74, false)⟩, ⟨some 77, .call 14 [.t 76], some (74, false)⟩, ⟨some 78, .un (.not) (.t 77), some (74, false)⟩, ⟨some 79, .pick (.t 74) (.c (.bool true)) (.t 78), none⟩, ⟨some 80, .mov (.t 79), none⟩, ⟨some 81, .mov (.t 1), some (80, false)⟩, ⟨some 82, .fieldAddr 0 (.t 4), some (80, false)⟩, ⟨some 83, .load false 1 (.t 82), some (80, false)⟩, ⟨some 84, .call 18 [.t 81, .t 83], some (80, false)⟩, ⟨some 85, .mov (.t 6), some (80, false)⟩, ⟨some 86, .bin (.neq) (.other) (.t 84) (.t 85), some (80, false)⟩, ⟨some 87, .pick (.t 80) (.c (.bool true)) (.t 86), none⟩]) (.cond (.t 87) (.seq (.ops [⟨some 88, .load true 3 (.t 4), none⟩, ⟨none, .store 3 (.t 4) (.t 88), none⟩, ⟨some 5, .mov (.c (.int (.i64) 5)), none⟩]) .ret) .skip)) (.seq (.ops [⟨some 89, .load true 3 (.t 4), none⟩, ⟨none, .store 3 (.t 4) (.t 89), none⟩, ⟨some 5, .mov (.c (.int (.i64) 0)), none⟩]) .ret))))))))))))))
theorem t40 : tab 40 = some ⟨90, [.cell 4 true 3, .tmp 5], b40⟩ := rfl
theorem bat_change {last : Bs} {p : Nat} {V : AV} {bs : Bs} {h0 h : Heap} (g : Grow h0 h) (hp : h0.next ≤ p) (hV : BytesAt h0 V bs) (hg : h.get p = some (.cells [V] false)) (hy : Bytes bs) (hl : bs.length ≤ 100000000) (hb0 : 1 ≤ bs.length) (hla : last.length ≤ 16) : Runs (xcall X1 tab (.fn 40) [.ptr p 0, .str last] h) fun v h' => Pok p h h' ∧ ∃ k w gg, v = .tuple [.agg [.str k, w, .bool gg], .int .i64 (takeC last bs).1] ∧ w.flat = true ∧ ((takeC last bs).1 = 0 → k = (takeC last bs).2.1.key ∧ gg = (takeC last bs).2.1.gone ∧ OwB h.next h' w (takeC last bs).2.1.val ∧ ∃ V', h'.get p = some (.cells [V'] false) ∧ BytesAt h0 V' (takeC last bs).2.2) := by
  refine Runs.intro fun K hK => ?_
  have hlt := Heap.lt_of_get hg
  have gn := g.1
  have hc0 := hy.at 0
  have hc1 := (hy.drop 1).at 0
  rw [w_fn rfl t40 (Nat.le_of_ble_eq_true rfl)]
  delta b40
  repeat' (first
    | simp (disch := first | exact qd | fail) only [WB, ↓WP, ↓WL, WR, WC, if_true, if_false, ite_true, ite_false, aop, ev, evs, readsA, List.replicate, numF, unA, resA, tupA, loadA, storeA, splice, fillA, kindsOk, plainEq, ↓reduceIte, Nat.reduceEqDiff, Nat.reduceLT, Int.reduceToNat, Int.reduceBEq, Int.reduceBNe, Nat.reduceAdd, Nat.reduceMul, Nat.reduceLeDiff, Int.reduceLT, Int.reduceSub, Int.reduceAdd, hg, val1, max_ii, max_sub1]
    | ((first | refine atC ?_ ?_ | refine atG ?_ ?_ | refine atH ?_ ?_ | refine atP ?_ ?_) <;> intro hc <;> (try rw [hc]) <;> (try simp only [BD] at hc) <;> try (exfalso; omega))
    | ((first
      | (refine Runs.call (bat_size qg hp hV (by (simp (disch := first | (refine Asm.mk ?_; assumption) | omega | (simp only [nx_alloc, nx_set, own_sl, own_nil] <;> omega) | fail) only [ga_new, ga_old, gs_new, gs_old, nx_alloc, nx_set, g_get, app_get, pok_get, get_asm, id_eq, hg]; first | done | fail)) hy qo (s := 1) (.inl rfl)) ?_; rintro v1 h1 ⟨hk, hq⟩; rcases hq with ⟨hb, rfl⟩ | ⟨hb, V1, rfl, hz1, hzz1, hg1, hV1⟩ <;> (try (exfalso; omega)))
      | (refine Runs.call (bat_size qg hp hV1 (by (simp (disch := first | (refine Asm.mk ?_; assumption) | omega | (simp only [nx_alloc, nx_set, own_sl, own_nil] <;> omega) | fail) only [ga_new, ga_old, gs_new, gs_old, nx_alloc, nx_set, g_get, app_get, pok_get, get_asm, id_eq, hg1]; first | done | fail)) (hy.drop 1) ql (s := 1) (.inl rfl)) ?_; rintro v2 h2 ⟨hk, hq⟩; rcases hq with ⟨hb2, rfl⟩ | ⟨hb2, V2, rfl, hz2, hzz2, hg2, hV2⟩)
      | (refine Runs.call (bat_cut qg hp hV2 (by (simp (disch := first | (refine Asm.mk ?_; assumption) | omega | (simp only [nx_alloc, nx_set, own_sl, own_nil] <;> omega) | fail) only [ga_new, ga_old, gs_new, gs_old, nx_alloc, nx_set, g_get, app_get, pok_get, get_asm, id_eq, hg2]; first | done | fail)) hc1.1) ?_; rintro v3 h3 hq; rcases hq with ⟨hb3, rfl, rfl⟩ | ⟨hb3, w3, V3, rfl, rfl, hw3, hV3⟩)
      | (refine Runs.call (bat_size qg hp hV3 qs (((hy.drop 1).drop 1).drop _) ql (s := 2) (.inr rfl)) ?_; rintro v4 h4 ⟨hk, hq⟩; rcases hq with ⟨hb4, rfl⟩ | ⟨hb4, V4, rfl, hz4, hzz4, hg4, hV4⟩)
      | (refine Runs.call (bat_cut qg hp hV4 (by (simp (disch := first | (refine Asm.mk ?_; assumption) | omega | (simp only [nx_alloc, nx_set, own_sl, own_nil] <;> omega) | fail) only [ga_new, ga_old, gs_new, gs_old, nx_alloc, nx_set, g_get, app_get, pok_get, get_asm, id_eq, hg4]; first | done | fail)) qo) ?_; rintro v5 h5 hq; simp only [Int.toNat_natCast] at hq; rcases hq with ⟨hb5, rfl, rfl⟩ | ⟨hb5, w5, V5, rfl, rfl, hw5, hV5⟩)
      | (refine Runs.call (bytes_Clone (hw5.grow qg) ql) ?_; rintro w6 h6 ⟨gr, hn6, _⟩; have hb6 := hn6.at; have hO6 := hn6.own (Nat.le_refl _); have on6 := hO6.num; simp only [nx_set] at on6)
      | (refine Runs.call (bat_MayChange _ (c1_at (ga_new rfl)) (v1_at (OwB.at (OwC.keep hO6 (fun j hj he => qs)))) (by simp)) ?_; rintro _ _ ⟨rfl, gr⟩)
      | (refine Runs.call (bat_Shared ql ql _) ?_; rintro _ _ ⟨rfl, rfl⟩)
      | fail); all_goals ((try (have gn := gr.1; try simp only [nx_alloc, nx_set] at gn)); (try (have an := ha.num; try simp only [nx_alloc, nx_set, own_sl, own_nil] at an)); (try (have on := hO.num; try simp only [nx_alloc, nx_set] at on)); (try (have kn := hk.1; try simp only [nx_alloc, nx_set] at kn)); try have hB := hO.at)))
  all_goals try (first
    | (refine hK _ _ ?_; (first | (have e := takeC_a (last := last) (bs := bs) qo; exact ⟨qp, _, _, _, (by rw [e]), (by first | rfl | exact hO6.fl), fun q => (by rw [e] at q; cases q)⟩) | (have e := takeC_b (last := last) (bs := bs) qo ql; exact ⟨qp, _, _, _, (by rw [e]), (by first | rfl | exact hO6.fl), fun q => (by rw [e] at q; cases q)⟩) | (have e := takeC_c (last := last) (bs := bs) qo ql qo; exact ⟨qp, _, _, _, (by rw [e]), (by first | rfl | exact hO6.fl), fun q => (by rw [e] at q; cases q)⟩) | (have e := takeC_d (last := last) (bs := bs) qo ql qo (by unfold restC; omega); exact ⟨qp, _, _, _, (by rw [e]), (by first | rfl | exact hO6.fl), fun q => (by rw [e] at q; cases q)⟩) | (have e := takeC_e (last := last) (bs := bs) qo ql qo (by unfold restC; omega) (by unfold restC; omega); exact ⟨qp, _, _, _, (by rw [e]), (by first | rfl | exact hO6.fl), fun q => (by rw [e] at q; cases q)⟩) | (have e := takeC_g (last := last) (bs := bs) qo ql qo (by unfold restC; omega) (by unfold restC; omega) (fun q1 q2 q3 => by first | exact absurd (q1.symm.trans hc) (by decide) | exact absurd (q2.symm.trans hc) (by decide) | (unfold keyC at q3; omega) | fail); exact ⟨qp, _, _, _, (by rw [e]), (by first | rfl | exact hO6.fl), fun q => (by rw [e] at q; cases q)⟩) | (have e := takeC_ok (last := last) (bs := bs) qo ql qo (by unfold restC; omega) (by unfold restC; omega) (by assumption) (by assumption) (by unfold keyC; omega); exact ⟨qp, keyC last bs, w6, (valBE ((restC bs).take 2) == 0), (by rw [e]; rfl), hO6.fl, fun _ => (by rw [e]; exact ⟨rfl, rfl, OwC.le (OwC.keep hO6 (fun j hj he => qs)) ql, V5, qs, hV5⟩)⟩)); done))
def b66 : SC := (.seq (.ops [⟨some 4, .mov (.c (.nilsl)), none⟩, ⟨some 5, .mov (.c (.nilsl)), none⟩, ⟨some 6, .mov (.c (.bool false)), none⟩]) (.seq (.seq (.ops [⟨some 7, .mov (.t 0), none⟩, ⟨some 8, .len (.sl) (.t 7), none⟩, ⟨some 9, .mov (.t 1), none⟩, ⟨some 10, .bin (.lss) (.other) (.t 8) (.t 9), none⟩]) (.cond (.t 10) (.seq (.ops [⟨some 4, .mov (.c (.nilsl)), none⟩, ⟨some 5, .mov (.c (.nilsl)), none⟩, ⟨some 6, .mov (.c (.bool false)), none⟩]) .ret) .skip)) (.seq (.ops [⟨some 11, .mov (.t 0), none⟩, ⟨some 12, .mov (.t 1), none⟩, ⟨some 13, .slice 1 (.t 11) none (some (.t 12)) none, none⟩, ⟨some 14, .mov (.t 0), none⟩, ⟨some 15, .mov (.t 1), none⟩, ⟨some 16, .slice 1 (.t 14) (some (.t 15)) none none, none⟩, ⟨some 4, .mov (.t 13), none⟩, ⟨some 5, .mov (.t 16), none⟩, ⟨some 6, .mov (.c (.bool true)), none⟩]) .ret)))
theorem t66 : tab 66 = some ⟨17, [.tmp 4, .tmp 5, .tmp 6], b66⟩ := rfl
theorem rbat_take {V : AV} {bs : Bs} {h0 h : Heap} (g : Grow h0 h) (hV : BytesAt h0 V bs) {n : Int} (hn : 0 ≤ n) : Runs (xcall X1 tab (.fn 66) [V, .int .i64 n] h) fun v h' => h = h' ∧ ((bs.length < n.toNat ∧ v = .tuple [.nilsl, .nilsl, .bool false]) ∨ (n.toNat ≤ bs.length ∧ ∃ w u, v = .tuple [w, u, .bool true] ∧ BytesAt h0 w (bs.take n.toNat) ∧ BytesAt h0 u (bs.drop n.toNat))) := by
  refine Runs.intro fun K hK => ?_
  obtain ⟨m, rfl⟩ := Int.eq_ofNat_of_zero_le hn
  simp only [Int.toNat_natCast] at hK
  rw [w_fn rfl t66 (Nat.le_of_ble_eq_true rfl)]
  delta b66
  repeat' (first
    | simp (disch := first | exact qd | fail) only [WB, ↓WP, ↓WL, WR, WC, if_true, if_false, ite_true, ite_false, aop, ev, evs, readsA, List.replicate, numF, unA, resA, tupA, loadA, storeA, splice, fillA, kindsOk, plainEq, ↓reduceIte, Nat.reduceEqDiff, Nat.reduceLT, Int.reduceToNat, Int.reduceBEq, Int.reduceBNe, Nat.reduceAdd, Nat.reduceMul, Nat.reduceLeDiff, Int.reduceLT, Int.reduceSub, Int.reduceAdd]
    | ((first | refine atC ?_ ?_ | refine atG ?_ ?_ | refine atH ?_ ?_ | refine atP ?_ ?_) <;> intro hc <;> (try rw [hc]) <;> (try simp only [BD] at hc) <;> try (exfalso; omega))
    | ((first
      | (refine Runs.call (BytesAt.cutR hV (a := 0) (b := m) qg (.inr ⟨rfl, rfl⟩) (.inl rfl) qo qo) ?_; rintro w _ ⟨rfl, hw⟩; simp only [List.drop_zero] at hw)
      | (refine Runs.call (BytesAt.cutR hV (a := m) (b := bs.length) qg (.inl rfl) (.inr ⟨rfl, rfl⟩) qo qo) ?_; rintro u _ ⟨rfl, hu⟩; simp only [List.take_length] at hu)
      | fail); all_goals ((try (have gn := gr.1; try simp only [nx_alloc, nx_set] at gn)); (try (have an := ha.num; try simp only [nx_alloc, nx_set, own_sl, own_nil] at an)); (try (have on := hO.num; try simp only [nx_alloc, nx_set] at on)); (try (have kn := hk.1; try simp only [nx_alloc, nx_set] at kn)); try have hB := hO.at)))
  all_goals try (first
    | (refine hK _ _ ?_; (first | exact ⟨rfl, .inl ⟨by omega, rfl⟩⟩ | exact ⟨rfl, .inr ⟨by omega, _, _, rfl, hw, hu⟩⟩); done))
def b41 : SC := (.seq (.ops [⟨some 4, .box (.c (.agg [.str [], .nilsl, .bool false])), none⟩, ⟨some 5, .mov (.c (.nilsl)), none⟩, ⟨some 6, .mov (.c (.int (.i64) 0)), none⟩]) (.seq (.seq (.ops [⟨some 12, .mov (.t 1), none⟩, ⟨some 13, .idxAddrSl 1 (.t 12) (.c (.int (.i64) 0)), none⟩, ⟨some 14, .load false 1 (.t 13), none⟩, ⟨some 15, .convInt (.i64) (.t 14), none⟩, ⟨some 16, .mov (.t 0), none⟩, ⟨some 17, .len (.str) (.t 16), none⟩, ⟨some 18, .bin (.gtr) (.other) (.t 15) (.t 17), none⟩]) (.cond (.t 18) (.seq (.ops [⟨some 19, .build [.str [], .nilsl, .bool false] [], none⟩, ⟨none, .store 3 (.t 4) (.t 19), none⟩, ⟨some 5, .mov (.c (.nilsl)), none⟩, ⟨some 6, .mov (.c (.int (.i64) 5)), none⟩]) .ret) .skip)) (.seq (.ops [⟨some 20, .mov (.t 1), none⟩, ⟨some 21, .idxAddrSl 1 (.t 20) (.c (.int (.i64) 0)), none⟩, ⟨some 22, .load false 1 (.t 21), none⟩, ⟨some 23, .convInt (.i64) (.t 22), none⟩, ⟨some 7, .mov (.t 23), none⟩]) (.seq (.ops [⟨some 25, .mov (.t 1), none⟩, ⟨some 26, .slice 1 (.t 25) (some (.c (.int (.i64) 1))) none none, none⟩, ⟨some 27, .call 66 [.t 26, .c (.int (.i64) 1)], none⟩, ⟨some 24, .mov (.t 27), none⟩, ⟨some 28, .extract (.t 24) 0, none⟩, ⟨some 29, .extract (.t 24) 1, none⟩, ⟨some 30, .extract (.t 24) 2, none⟩, ⟨some 8, .mov (.t 28), none⟩, ⟨some 1, .mov (.t 29), none⟩, ⟨some 9, .mov (.t 30), none⟩]) (.seq (.seq (.ops [⟨some 31, .mov (.t 9), none⟩, ⟨some 32, .un (.not) (.t 31), none⟩]) (.cond (.t 32) (.seq (.ops [⟨some 33, .build [.str [], .nilsl, .bool false] [], none⟩, ⟨none, .store 3 (.t 4) (.t 33), none⟩, ⟨some 5, .mov (.c (.nilsl)), none⟩, ⟨some 6, .mov (.c (.int (.i64) 4)), none⟩]) .ret) .skip)) (.seq (.ops [⟨some 35, .mov (.t 1), none⟩, ⟨some 36, .mov (.t 8), none⟩, ⟨some 37, .idxAddrSl 1 (.t 36) (.c (.int (.i64) 0)), none⟩, ⟨some 38, .load false 1 (.t 37), none⟩, ⟨some 39, .convInt (.i64) (.t 38), none⟩, ⟨some 40, .call 66 [.t 35, .t 39], none⟩, ⟨some 34, .mov (.t 40), none⟩, ⟨some 41, .extract (.t 34) 0, none⟩, ⟨some 42, .extract (.t 34) 1, none⟩, ⟨some 43, .extract (.t 34) 2, none⟩, ⟨some 8, .mov (.t 41), none⟩, ⟨some 1, .mov (.t 42), none⟩, ⟨some 9, .mov (.t 43), none⟩]) (.seq (.seq (.ops [⟨some 44, .mov (.t 9), none⟩, ⟨some 45, .un (.not) (.t 44), none⟩]) (.cond (.t 45) (.seq (.ops [⟨some 46, .build [.str [], .nilsl, .bool false] [], none⟩, ⟨none, .store 3 (.t 4) (.t 46), none⟩, ⟨some 5, .mov (.c (.nilsl)), none⟩, ⟨some 6, .mov (.c (.int (.i64) 4)), none⟩]) .ret) .skip)) (.seq (.drawOps [⟨some 47, .mov (.t 0), none⟩, ⟨some 48, .mov (.t 7), none⟩, ⟨some 49, .sliceStr (.t 47) none (some (.t 48)), none⟩, ⟨some 50, .mov (.t 8), none⟩, ⟨some 51, .bytesToStr (.t 50), none⟩, ⟨some 52, .bin (.add) (.str) (.t 49) (.t 51), none⟩, ⟨some 53, .build [.str [], .nilsl, .bool false] [(0, 1, .t 52)], none⟩, ⟨some 10, .box (.c (.agg [.str [], .nilsl, .bool false])), none⟩, ⟨none, .store 3 (.t 10) (.t 53), none⟩] [(4, 7)]) (.seq (.ops [⟨some 55, .mov (.t 1), none⟩, ⟨some 56, .call 66 [.t 55, .c (.int (.i64) 2)], none⟩, ⟨some 54, .mov (.t 56), none⟩, ⟨some 57, .extract (.t 54) 0, none⟩, ⟨some 58, .extract (.t 54) 1, none⟩, ⟨some 59, .extract (.t 54) 2, none⟩, ⟨some 8, .mov (.t 57), none⟩, ⟨some 1, .mov (.t 58), none⟩, ⟨some 9, .mov (.t 59), none⟩]) (.seq (.seq (.ops [⟨some 60, .mov (.t 9), none⟩, ⟨some 61, .un (.not) (.t 60), none⟩]) (.cond (.t 61) (.seq (.ops [⟨some 62, .build [.str [], .nilsl, .bool false] [], none⟩, ⟨none, .store 3 (.t 4) (.t 62), none⟩, ⟨some 5, .mov (.c (.nilsl)), none⟩, ⟨some 6, .mov (.c (.int (.i64) 4)), none⟩]) .ret) .skip)) (.seq (.ops [⟨some 63, .mov (.t 8), none⟩, ⟨some 64, .idxAddrSl 1 (.t 63) (.c (.int (.i64) 0)), none⟩, ⟨some 65, .load false 1 (.t 64), none⟩, ⟨some 66, .convInt (.i64) (.t 65), none⟩, ⟨some 67, .bin (.mul) (.other) (.c (.int (.i64) 256)) (.t 66), none⟩, ⟨some 68, .mov (.t 8), none⟩, ⟨some 69, .idxAddrSl 1 (.t 68) (.c (.int (.i64) 1)), none⟩, ⟨some 70, .load false 1 (.t 69), none⟩, ⟨some 71, .convInt (.i64) (.t 70), none⟩, ⟨some 72, .bin (.add) (.other) (.t 67) (.t 71), none⟩, ⟨some 11, .mov (.t 72), none⟩]) (.seq (.ops [⟨some 73, .mov (.t 11), none⟩, ⟨some 74, .bin (.eql) (.other) (.t 73) (.c (.int (.i64) 0)), none⟩, ⟨some 75, .fieldAddr 2 (.t 10), none⟩, ⟨none, .store 1 (.t 75) (.t 74), none⟩]) (.seq (.ops [⟨some 77, .mov (.t 1), none⟩, ⟨some 78, .mov (.t 11), none⟩, ⟨some 79, .bin (.sub) (.other) (.t 78) (.c (.int (.i64) 1)), none⟩, ⟨some 80, .max (.t 79) [.c (.int (.i64) 0)], none⟩, ⟨some 81, .call 66 [.t 77, .t 80], none⟩, ⟨some 76, .mov (.t 81), none⟩, ⟨some 82, .extract (.t 76) 0, none⟩, ⟨some 83, .extract (.t 76) 1, none⟩, ⟨some 84, .extract (.t 76) 2, none⟩, ⟨some 8, .mov (.t 82), none⟩, ⟨some 1, .mov (.t 83), none⟩, ⟨some 9, .mov (.t 84), none⟩]) (.seq (.seq (.ops [⟨some 85, .mov (.t 9), none⟩, ⟨some 86, .un (.not) (.t 85), none⟩]) (.cond (.t 86) (.seq (.ops [⟨some 87, .build [.str [], .nilsl, .bool false] [], none⟩, ⟨none, .store 3 (.t 4) (.t 87), none⟩, ⟨some 5, .mov (.c (.nilsl)), none⟩, ⟨some 6, .mov (.c (.int (.i64) 4)), none⟩]) .ret) .skip)) (.seq (.ops [⟨some 88, .mov (.t 8), none⟩, ⟨some 89, .call 36 [.t 88], none⟩, ⟨some 90, .fieldAddr 1 (.t 10), none⟩, ⟨none, .store 1 (.t 90) (.t 89), none⟩]) (.seq (.seq (.ops [⟨some 91, .mov (.t 0), none⟩, ⟨some 92, .fieldAddr 0 (.t 10), none⟩, ⟨some 93, .load false 1 (.t 92), none⟩, ⟨some 94, .fieldAddr 1 (.t 10), none⟩, ⟨some 95, .load false 1 (.t 94), none⟩, ⟨some 96, .call 44 [.t 91, .t 93, .t 95], none⟩, ⟨some 97, .un (.not) (.t 96), none⟩, ⟨some 98, .mov (.t 97), none⟩, ⟨some 99, .mov (.t 0), some (98, false)⟩, ⟨some 100, .fieldAddr 0 (.t 10), some (98, false)⟩, ⟨some 101, .load false 1 (.t 100), some (98, false)⟩, ⟨some 102, .call 19 [.t 99, .t 101], some (98, false)⟩, ⟨some 103, .mov (.t 7), some (98, false)⟩, ⟨some 104, .bin (.gtr) (.other) (.t 102) (.t 103), some (98, false)⟩, ⟨some 105, .pick (.t 98) (.c (.bool true)) (.t 104), none⟩]) (.cond (.t 105) (.seq (.ops [⟨some 106, .build [.str [], .nilsl, .bool false] [], none⟩, ⟨none, .store 3 (.t 4) (.t 106), none⟩, ⟨some 5, .mov (.c (.nilsl)), none⟩, ⟨some 6, .mov (.c (.int (.i64) 5)), none⟩]) .ret) .skip)) (.seq (.ops [⟨some 107, .load true 3 (.t 10), none⟩, ⟨some 108, .mov (.t 1), none⟩, ⟨none, .store 3 (.t 4) (.t 107), none⟩, ⟨some 5, .mov (.t 108), none⟩, ⟨some 6, .mov (.c (.int (.i64) 0)), none⟩]) .ret)))))))))))))))))
theorem t41 : tab 41 = some ⟨109, [.cell 4 true 3, .tmp 5, .tmp 6], b41⟩ := rfl
theorem rbat_next {last : Bs} {V : AV} {bs : Bs} {h0 h : Heap} (g : Grow h0 h) (hV : BytesAt h0 V bs) (hy : Bytes bs) (hl : bs.length ≤ 100000000) (hb0 : 1 ≤ bs.length) (hla : last.length ≤ 16) : Runs (xcall X1 tab (.fn 41) [.str last, V] h) fun v h' => Grow h h' ∧ ∃ k w gg u, v = .tuple [.agg [.str k, w, .bool gg], u, .int .i64 (takeC last bs).1] ∧ w.flat = true ∧ u.flat = true ∧ ((takeC last bs).1 = 0 → k = (takeC last bs).2.1.key ∧ gg = (takeC last bs).2.1.gone ∧ OwB h.next h' w (takeC last bs).2.1.val ∧ BytesAt h0 u (takeC last bs).2.2) := by
  refine Runs.intro fun K hK => ?_
  have gn := g.1
  have hc0 := hy.at 0
  have hc1 := (hy.drop 1).at 0
  have hc2 := (((hy.drop 1).drop 1).drop ((bs.drop 1).getD 0 0).toNat).at 0
  have hc3 := (((hy.drop 1).drop 1).drop ((bs.drop 1).getD 0 0).toNat).at 1
  have hvs := val_small (((hy.drop 1).drop 1).drop ((bs.drop 1).getD 0 0).toNat) (s := 2) (.inr rfl)
  have hv0 := (valBE_lt _ ((((hy.drop 1).drop 1).drop ((bs.drop 1).getD 0 0).toNat).take 2)).1
  rw [w_fn rfl t41 (Nat.le_of_ble_eq_true rfl)]
  delta b41
  repeat' (first
    | simp (disch := first | exact qd | fail) only [WB, ↓WP, ↓WL, WR, WC, if_true, if_false, ite_true, ite_false, aop, ev, evs, readsA, List.replicate, numF, unA, resA, tupA, loadA, storeA, splice, fillA, kindsOk, plainEq, ↓reduceIte, Nat.reduceEqDiff, Nat.reduceLT, Int.reduceToNat, Int.reduceBEq, Int.reduceBNe, Nat.reduceAdd, Nat.reduceMul, Nat.reduceLeDiff, Int.reduceLT, Int.reduceSub, Int.reduceAdd, max_ii, max_sub0, getD_take, val2r]
    | ((first | refine atC ?_ ?_ | refine atG ?_ ?_ | refine atH ?_ ?_ | refine atP ?_ ?_) <;> intro hc <;> (try rw [hc]) <;> (try simp only [BD] at hc) <;> try (exfalso; omega))
    | ((first
      | (refine Runs.call (BytesAt.cutR hV (a := 1) (b := bs.length) qg (.inl rfl) (.inr ⟨rfl, rfl⟩) qo qo) ?_; rintro u0 _ ⟨rfl, hu0⟩; simp only [List.take_length] at hu0)
      | (refine Runs.call (rbat_take qg hu0 (n := 1) qo) ?_; rintro v1 h1 ⟨rfl, hq⟩; simp only [Int.reduceToNat] at hq; rcases hq with ⟨hb, rfl⟩ | ⟨hb, w1, u1, rfl, hw1, hu1⟩ <;> simp only [List.length_drop] at hb)
      | (refine Runs.call (rbat_take qg hu1 hc1.1) ?_; rintro v2 h2 ⟨rfl, hq⟩; rcases hq with ⟨hb2, rfl⟩ | ⟨hb2, w2, u2, rfl, hw2, hu2⟩ <;> simp only [List.length_drop] at hb2)
      | (refine Runs.call (rbat_take qg hu2 (n := 2) qo) ?_; rintro v3 h3 ⟨rfl, hq⟩; simp only [Int.reduceToNat] at hq; rcases hq with ⟨hb3, rfl⟩ | ⟨hb3, w3, u3, rfl, hw3, hu3⟩ <;> simp only [List.length_drop] at hb3)
      | (refine Runs.call (rbat_take qg hu3 qo) ?_; rintro v4 h4 ⟨rfl, hq⟩; simp only [Int.toNat_natCast] at hq; rcases hq with ⟨hb4, rfl⟩ | ⟨hb4, w4, u4, rfl, hw4, hu4⟩)
      | (refine Runs.call (f0_Copy (hw4.grow qg) ql) ?_; rintro w5 h5 ⟨gr, hn5⟩; have hb5 := hn5.new.at; have hO5 := hn5.new.own (Nat.le_refl _); have on5 := hO5.num; simp only [nx_set, nx_alloc] at on5)
      | (refine Runs.call (rbat_fits (OwB.at (OwC.keep hO5 (fun j hj he => qs)))) ?_; rintro _ _ ⟨rfl, rfl⟩)
      | (refine Runs.call (rbat_Shared ql ql _) ?_; rintro _ _ ⟨rfl, rfl⟩)
      | fail); all_goals ((try (have gn := gr.1; try simp only [nx_alloc, nx_set] at gn)); (try (have an := ha.num; try simp only [nx_alloc, nx_set, own_sl, own_nil] at an)); (try (have on := hO.num; try simp only [nx_alloc, nx_set] at on)); (try (have kn := hk.1; try simp only [nx_alloc, nx_set] at kn)); try have hB := hO.at)))
  all_goals try (first
    | (refine hK _ _ ?_; (first | (have e := takeC_a (last := last) (bs := bs) qo; exact ⟨qg, _, _, _, _, (by rw [e]), (by first | rfl | exact hO5.fl | fail), (by first | rfl | exact hu4.fl | fail), fun q => (by rw [e] at q; cases q)⟩) | (have e := takeC_b (last := last) (bs := bs) qo ql; exact ⟨qg, _, _, _, _, (by rw [e]), (by first | rfl | exact hO5.fl | fail), (by first | rfl | exact hu4.fl | fail), fun q => (by rw [e] at q; cases q)⟩) | (have e := takeC_c (last := last) (bs := bs) qo ql ql; exact ⟨qg, _, _, _, _, (by rw [e]), (by first | rfl | exact hO5.fl | fail), (by first | rfl | exact hu4.fl | fail), fun q => (by rw [e] at q; cases q)⟩) | (have e := takeC_d (last := last) (bs := bs) qo ql ql (by unfold restC; (first | omega | (simp only [List.length_append, List.length_cons, List.length_nil, List.length_take, List.length_drop, List.flatMap_cons, List.flatMap_nil, beL_len, ints_len, List.append_nil, List.length_replicate, List.length_map, Int.reducePow, nx_alloc, nx_set, own_sl, own_nil] <;> omega) | fail)); exact ⟨qg, _, _, _, _, (by rw [e]), (by first | rfl | exact hO5.fl | fail), (by first | rfl | exact hu4.fl | fail), fun q => (by rw [e] at q; cases q)⟩) | (have e := takeC_e (last := last) (bs := bs) qo ql ql (by unfold restC; (first | omega | (simp only [List.length_append, List.length_cons, List.length_nil, List.length_take, List.length_drop, List.flatMap_cons, List.flatMap_nil, beL_len, ints_len, List.append_nil, List.length_replicate, List.length_map, Int.reducePow, nx_alloc, nx_set, own_sl, own_nil] <;> omega) | fail)) (by unfold restC; (first | omega | (simp only [List.length_append, List.length_cons, List.length_nil, List.length_take, List.length_drop, List.flatMap_cons, List.flatMap_nil, beL_len, ints_len, List.append_nil, List.length_replicate, List.length_map, Int.reducePow, nx_alloc, nx_set, own_sl, own_nil] <;> omega) | fail)); exact ⟨qg, _, _, _, _, (by rw [e]), (by first | rfl | exact hO5.fl | fail), (by first | rfl | exact hu4.fl | fail), fun q => (by rw [e] at q; cases q)⟩) | (have e := takeC_h (last := last) (bs := bs) qo ql ql (by unfold restC; (first | omega | (simp only [List.length_append, List.length_cons, List.length_nil, List.length_take, List.length_drop, List.flatMap_cons, List.flatMap_nil, beL_len, ints_len, List.append_nil, List.length_replicate, List.length_map, Int.reducePow, nx_alloc, nx_set, own_sl, own_nil] <;> omega) | fail)) (by unfold restC; (first | omega | (simp only [List.length_append, List.length_cons, List.length_nil, List.length_take, List.length_drop, List.flatMap_cons, List.flatMap_nil, beL_len, ints_len, List.append_nil, List.length_replicate, List.length_map, Int.reducePow, nx_alloc, nx_set, own_sl, own_nil] <;> omega) | fail)) (by first | exact .inl hc | (refine .inr ?_; unfold keyC; omega) | fail); exact ⟨qg, _, _, _, _, (by rw [e]), (by first | rfl | exact hO5.fl | fail), (by first | rfl | exact hu4.fl | fail), fun q => (by rw [e] at q; cases q)⟩) | (have e := takeC_k (last := last) (bs := bs) qo ql ql (by unfold restC; (first | omega | (simp only [List.length_append, List.length_cons, List.length_nil, List.length_take, List.length_drop, List.flatMap_cons, List.flatMap_nil, beL_len, ints_len, List.append_nil, List.length_replicate, List.length_map, Int.reducePow, nx_alloc, nx_set, own_sl, own_nil] <;> omega) | fail)) (by unfold restC; (first | omega | (simp only [List.length_append, List.length_cons, List.length_nil, List.length_take, List.length_drop, List.flatMap_cons, List.flatMap_nil, beL_len, ints_len, List.append_nil, List.length_replicate, List.length_map, Int.reducePow, nx_alloc, nx_set, own_sl, own_nil] <;> omega) | fail)) (by assumption) (by unfold keyC; omega); exact ⟨qg, keyC last bs, w5, (valBE ((restC bs).take 2) == 0), u4, (by rw [e]; rfl), hO5.fl, hu4.fl, fun _ => (by rw [e]; exact ⟨rfl, rfl, OwC.le (OwC.keep hO5 (fun j hj he => qs)) ql, hu4⟩)⟩) | fail); done))

/-- Changes off bytes: 0 and they, or an error's number. -/
def getF : Nat → Bs → Bs → Int × List En
  | 0, _, _ => (0, [])
  | n + 1, last, bs => if bs.length = 0 then (0, []) else
    if (takeC last bs).1 = 0 then
      (if (getF n (takeC last bs).2.1.key (takeC last bs).2.2).1 = 0 then (0, (takeC last bs).2.1 :: (getF n (takeC last bs).2.1.key (takeC last bs).2.2).2) else ((getF n (takeC last bs).2.1.key (takeC last bs).2.2).1, []))
    else ((takeC last bs).1, [])
def getAll (bs : Bs) : Int × List En := getF bs.length [] bs
theorem takeC_less {last bs : Bs} (h : (takeC last bs).1 = 0) : (takeC last bs).2.2.length < bs.length ∧ (takeC last bs).2.1.key.length ≤ 16 := by
  by_cases h1 : last.length < (bs.getD 0 0).toNat
  · rw [takeC_a h1] at h; cases h
  by_cases h2 : (bs.drop 1).length < 1
  · rw [takeC_b h1 h2] at h; cases h
  by_cases h3 : ((bs.drop 1).drop 1).length < ((bs.drop 1).getD 0 0).toNat
  · rw [takeC_c h1 h2 h3] at h; cases h
  by_cases h4 : (restC bs).length < 2
  · rw [takeC_d h1 h2 h3 h4] at h; cases h
  by_cases h5 : ((restC bs).drop 2).length < (valBE ((restC bs).take 2) - 1).toNat
  · rw [takeC_e h1 h2 h3 h4 h5] at h; cases h
  rw [takeC_f h1 h2 h3 h4 h5] at h ⊢
  split
  · rename_i hq
    simp only [Bool.and_eq_true] at hq
    unfold fitsP at hq
    simp only [Bool.and_eq_true, decide_eq_true_eq] at hq
    refine ⟨?_, hq.1.1.1⟩
    simp only [restC, List.length_drop] at h4 h2 ⊢
    omega
  · rename_i hq
    rw [if_neg hq] at h; cases h
/-- What is had, with what is to come. -/
def withL (l : List En) (r : Int × List En) : Int × List En := if r.1 = 0 then (0, l ++ r.2) else (r.1, [])
theorem withL_step {l : List En} {n : Nat} {last bs : Bs} (h0 : bs.length ≠ 0) (h : (takeC last bs).1 = 0) : withL l (getF (n + 1) last bs) = withL (l ++ [(takeC last bs).2.1]) (getF n (takeC last bs).2.1.key (takeC last bs).2.2) := by
  rw [getF, if_neg h0, if_pos h]
  generalize getF n (takeC last bs).2.1.key (takeC last bs).2.2 = z
  unfold withL
  by_cases q : z.1 = 0
  · rw [if_pos q, if_pos q, if_pos rfl]; simp
  · rw [if_neg q, if_neg q, if_neg q]
theorem withL_err {l : List En} {n : Nat} {last bs : Bs} (h0 : bs.length ≠ 0) (h : (takeC last bs).1 ≠ 0) : withL l (getF (n + 1) last bs) = ((takeC last bs).1, []) := by
  rw [getF, if_neg h0, if_neg h]
  unfold withL
  rw [if_neg h]
theorem withL_end {l : List En} {n : Nat} {last bs : Bs} (h0 : bs.length = 0) : withL l (getF n last bs) = (0, l) := by
  cases n with
  | zero => simp [getF, withL]
  | succ n => rw [getF, if_pos h0]; simp [withL]
theorem getF_err {n : Nat} {last bs : Bs} : (getF n last bs).1 ≠ 0 → (getF n last bs).2 = [] := by
  cases n with
  | zero => intro h; exact absurd rfl h
  | succ n =>
    rw [getF]
    intro h
    split
    · rfl
    · rename_i q
      rw [if_neg q] at h
      split
      · rename_i q2
        rw [if_pos q2] at h
        split
        · rename_i q3
          rw [if_pos q3] at h; exact absurd rfl h
        · rfl
      · rfl
theorem withL_nil (r : Int × List En) (h : r.1 ≠ 0 → r.2 = []) : withL [] r = r := by
  unfold withL
  split
  · rename_i e
    obtain ⟨a, b⟩ := r
    cases e; rfl
  · rename_i e
    obtain ⟨a, b⟩ := r
    have : b = [] := h e
    subst this; rfl
theorem takeC_bytes {last bs : Bs} (hy : Bytes bs) (h : (takeC last bs).1 = 0) : Bytes (takeC last bs).2.2 := by
  by_cases h1 : last.length < (bs.getD 0 0).toNat
  · rw [takeC_a h1] at h; cases h
  by_cases h2 : (bs.drop 1).length < 1
  · rw [takeC_b h1 h2] at h; cases h
  by_cases h3 : ((bs.drop 1).drop 1).length < ((bs.drop 1).getD 0 0).toNat
  · rw [takeC_c h1 h2 h3] at h; cases h
  by_cases h4 : (restC bs).length < 2
  · rw [takeC_d h1 h2 h3 h4] at h; cases h
  by_cases h5 : ((restC bs).drop 2).length < (valBE ((restC bs).take 2) - 1).toNat
  · rw [takeC_e h1 h2 h3 h4 h5] at h; cases h
  rw [takeC_f h1 h2 h3 h4 h5] at h ⊢
  split
  · exact ((((hy.drop 1).drop 1).drop _).drop 2).drop _
  · intro x hx; cases hx
theorem en_eta {k val : Bs} {w : AV} {g : Bool} {x : En} (h1 : k = x.key) (h2 : g = x.gone) (h3 : val = x.val) : (⟨k, w, val, g⟩ : Ro).en = x := by
  subst h1; subst h2; subst h3; rfl
/-- One's own values, none of them in the block of out, all below p. -/
def VAo (n p : Nat) (H : Heap) (out : AV) (l : List Ro) : Prop := ∀ x ∈ l, OwB n H x.v x.val ∧ own x.v ≤ p ∧ (own x.v = 0 ∨ own x.v ≠ own out)
theorem VAo.step {n p p' : Nat} {H H' : Heap} {out out' : AV} {l : List Ro} (a : VAo n p H out l) (hg : ∀ j, j < p → j + 1 ≠ own out → H'.get j = H.get j) (hp : p ≤ p') (ho : own out' = own out ∨ p < own out') : VAo n p' H' out' l := fun x hx => by
  obtain ⟨h1, h2, h3⟩ := a x hx
  exact ⟨OwC.keep h1 fun j hj he => hg j qo qo, by omega, by omega⟩
theorem VAo.push {n p : Nat} {H : Heap} {out : AV} {l : List Ro} {x : Ro} (a : VAo n p H out l) (h1 : OwB n H x.v x.val) (h2 : own x.v ≤ p) (h3 : own x.v = 0 ∨ own x.v ≠ own out) : VAo n p H out (l ++ [x]) := fun y hy => by
  rcases List.mem_append.1 hy with hy | hy
  · exact a y hy
  · simp only [List.mem_singleton] at hy
    subst hy; exact ⟨h1, h2, h3⟩
theorem VAo.va {n p : Nat} {H : Heap} {out : AV} {l : List Ro} (a : VAo n p H out l) : VAt H l := fun x hx => (a x hx).1.at
theorem encC_len (x : Ro) : (encC x).length = 3 := rfl
def L12_0 : SC := (.seq (.seq (.ops [⟨some 9, .load false 1 (.t 5), none⟩, ⟨some 10, .len (.sl) (.t 9), none⟩, ⟨some 11, .bin (.gtr) (.other) (.t 10) (.c (.int (.i64) 0)), none⟩]) (.cond (.t 11) .skip (.exit 0))) (.seq (.block 1 (.seq (.ops [⟨some 13, .mov (.t 4), none⟩, ⟨some 14, .call 40 [.t 5, .t 13], none⟩, ⟨some 12, .mov (.t 14), none⟩, ⟨some 15, .extract (.t 12) 0, none⟩, ⟨some 16, .extract (.t 12) 1, none⟩, ⟨some 6, .box (.c (.agg [.str [], .nilsl, .bool false])), none⟩, ⟨none, .store 3 (.t 6) (.t 15), none⟩, ⟨some 7, .mov (.t 16), none⟩]) (.seq (.seq (.ops [⟨some 17, .mov (.t 7), none⟩, ⟨some 18, .bin (.neq) (.other) (.t 17) (.c (.int (.i64) 0)), none⟩]) (.cond (.t 18) (.seq (.ops [⟨some 19, .mov (.t 7), none⟩, ⟨some 2, .mov (.c (.nilsl)), none⟩, ⟨some 3, .mov (.t 19), none⟩]) .ret) .skip)) (.drawOps [⟨some 20, .mov (.t 2), none⟩, ⟨some 21, .load true 3 (.t 6), none⟩, ⟨some 22, .buildSlice [.str [], .nilsl, .bool false] 1 3 [(0, 3, .t 21)], none⟩, ⟨some 23, .append 3 48 (.t 20) (.t 22), none⟩, ⟨some 24, .fieldAddr 0 (.t 6), none⟩, ⟨some 25, .load false 1 (.t 24), none⟩, ⟨some 2, .mov (.t 23), none⟩, ⟨some 4, .mov (.t 25), none⟩] [(5, 2), (5, 3)])))) (.seq (.ops [⟨some 26, .load false 1 (.t 5), none⟩]) (.ops [⟨some 5, .box (.c (.nilsl)), none⟩, ⟨none, .store 1 (.t 5) (.t 26), none⟩]))))
def b12 : SC := (.seq (.ops [⟨some 2, .mov (.c (.nilsl)), none⟩, ⟨some 3, .mov (.c (.int (.i64) 0)), none⟩]) (.seq (.ops [⟨some 4, .mov (.c (.str [])), none⟩]) (.seq (.seq (.ops [⟨some 8, .mov (.t 0), none⟩, ⟨some 5, .box (.c (.nilsl)), none⟩, ⟨none, .store 1 (.t 5) (.t 8), none⟩]) (.block 0 (.loop L12_0))) (.seq (.ops [⟨some 27, .mov (.t 2), none⟩, ⟨some 2, .mov (.t 27), none⟩, ⟨some 3, .mov (.c (.int (.i64) 0)), none⟩]) .ret))))
theorem t12 : tab 12 = some ⟨28, [.tmp 2, .tmp 3], b12⟩ := rfl
theorem bat_Get {V : AV} {bs : Bs} {h : Heap} (hV : BytesAt h V bs) (hy : Bytes bs) (hl : bs.length ≤ 100000000) : Runs (xcall X1 tab (.fn 12) [V] h) fun v h' => Grow h h' ∧ ∃ w l, v = .tuple [w, .int .i64 (getAll bs).1] ∧ l.map Ro.en = (getAll bs).2 ∧ CAt h' w l ∧ VAt h' l := by
  refine Runs.intro fun K hK => ?_
  have hfv := hV.fl
  have hcv := hV.cl
  rw [w_fn rfl t12 (Nat.le_of_ble_eq_true rfl)]
  delta b12
  repeat' (first
    | simp (disch := first | exact qd | fail) only [WB, ↓WP, ↓WL, WR, WC, if_true, if_false, ite_true, ite_false, aop, ev, evs, readsA, List.replicate, numF, unA, resA, tupA, loadA, storeA, splice, fillA, kindsOk, plainEq, ↓reduceIte, Nat.reduceEqDiff, Nat.reduceLT, Int.reduceToNat, Int.reduceBEq, Int.reduceBNe, Nat.reduceAdd, Nat.reduceMul, Nat.reduceLeDiff, Int.reduceLT, Int.reduceSub, Int.reduceAdd, hfv, hcv]
    | ((first | refine atC ?_ ?_ | refine atG ?_ ?_ | refine atH ?_ ?_ | refine atP ?_ ?_) <;> intro hc <;> (try rw [hc]) <;> (try simp only [BD] at hc) <;> try (exfalso; omega)))
  all_goals try (first
    | (refine hK _ _ ?_; (first | (have e := hgf; rw [show n = (n - 1) + 1 by omega, withL_err qo hc] at e; exact ⟨qg, .nilsl, [], by rw [e], by rw [e]; rfl, ⟨(fun x hx => nomatch hx), .inl ⟨rfl, rfl⟩⟩, (fun x hx => nomatch hx)⟩) | (have e := hgf; rw [withL_end qo] at e; exact ⟨qg, o, l, by rw [e], by rw [e], hO.rd encC_len qo, hva.va⟩) | fail); done))
  all_goals
    refine wloop (α := (List Ro) × AV × Bs × Nat × AV × Bs × Nat) [] (fun x => [(2, x.2.1), (4, .str x.2.2.1), (5, .ptr x.2.2.2.1 0)]) (fun x H => OwR 3 encC h.next H x.2.1 x.1 ∧ VAo h.next x.2.2.2.1 H x.2.1 x.1 ∧ Grow h H ∧ h.next ≤ x.2.2.2.1 ∧ x.2.2.2.1 < H.next ∧ own x.2.1 ≤ x.2.2.2.1 ∧ H.get x.2.2.2.1 = some (.cells [x.2.2.2.2.1] false) ∧ BytesAt h x.2.2.2.2.1 x.2.2.2.2.2.1 ∧ Bytes x.2.2.2.2.2.1 ∧ x.2.2.2.2.2.1.length ≤ x.2.2.2.2.2.2 ∧ x.2.2.2.2.2.2 + x.1.length ≤ 100000000 ∧ x.2.2.1.length ≤ 16 ∧ getAll bs = withL (x.1.map Ro.en) (getF x.2.2.2.2.2.2 x.2.2.1 x.2.2.2.2.2.1)) (fun x => x.2.2.2.2.2.2) ?_ (([], .nilsl, [], h.next, V, bs, bs.length)) ?_ ?_
    rotate_left
    · exact qf
    · (try dsimp only)
      exact ⟨OwC.nil, (fun x hx => nomatch hx), qg, by omega, ql, by simp [own], qs, hV, hy, by omega, by simp; omega, by simp, (withL_nil _ getF_err).symm⟩
    intro x b1 H hI ih
    obtain ⟨l, o, k, p, u, r, n⟩ := x
    try dsimp only at hI
    obtain ⟨hO, hva, g, hp, hpl, hop, hgp, hu, hyr, hrn, hnl, hk16, hgf⟩ := hI
    have on := OwR.num hO
    try have gn := g.1
    refine w_unfold (by delta L12_0; rfl) ?_
    simp only [keeps_nil, keeps_cons, List.cons_append, List.nil_append, lk_cons, lk_nil, numF, Nat.reduceEqDiff, Nat.reduceAdd, Nat.zero_add, ↓reduceIte]
    repeat' (first
      | simp (disch := first | exact qd | fail) only [WB, ↓WP, ↓WL, WR, WC, if_true, if_false, ite_true, ite_false, aop, ev, evs, readsA, List.replicate, numF, unA, resA, tupA, loadA, storeA, splice, fillA, kindsOk, plainEq, ↓reduceIte, Nat.reduceEqDiff, Nat.reduceLT, Int.reduceToNat, Int.reduceBEq, Int.reduceBNe, Nat.reduceAdd, Nat.reduceMul, Nat.reduceLeDiff, Int.reduceLT, Int.reduceSub, Int.reduceAdd, hfv, hcv, hgp]
      | ((first | refine atC ?_ ?_ | refine atG ?_ ?_ | refine atH ?_ ?_ | refine atP ?_ ?_) <;> intro hc <;> (try rw [hc]) <;> (try simp only [BD] at hc) <;> try (exfalso; omega))
      | ((first
        | (refine Runs.call (bat_change g hp hu hgp hyr qo qo hk16) ?_; rintro v1 H1 ⟨hk, k1, w1, g1, rfl, hfw, hok⟩)
        | (refine Runs.call (OwR.push encC_len qo (hO.keep (fun j hj he => qs)) ql (a := ⟨k1, w1, (takeC k r).2.1.val, g1⟩) (ga_new rfl) rfl qo) ?_; rintro o2 H2 ⟨hO2, ha⟩; obtain ⟨hk1, hg1, hOw, V1, hgV, hV1⟩ := hok hc; have on2 := OwR.num hO2; have onw := OwC.num hOw)
        | fail); all_goals ((try (have gn := gr.1; try simp only [nx_alloc, nx_set] at gn)); (try (have an := ha.num; try simp only [nx_alloc, nx_set, own_sl, own_nil] at an)); (try (have on := hO.num; try simp only [nx_alloc, nx_set] at on)); (try (have kn := hk.1; try simp only [nx_alloc, nx_set] at kn)); try have hB := hO.at)))
    all_goals try (first
      | exact ih ((l ++ [⟨k1, w1, (takeC k r).2.1.val, g1⟩], o2, k1, H2.next, V1, (takeC k r).2.2, n - 1)) _ _ _ (by ((try dsimp only); omega)) (by exact qf) (by ((try dsimp only); have hlt := takeC_less hc; have hx := en_eta (w := w1) hk1 hg1 rfl; have hA := VAo.push (x := ⟨k1, w1, (takeC k r).2.1.val, g1⟩) (VAo.step hva (H' := H1) (p' := H1.next) (out' := o) (fun j hj hn => qs) qo (.inl rfl)) (OwC.le hOw qo) (by show own w1 ≤ H1.next; omega) (by show own w1 = 0 ∨ own w1 ≠ own o; omega); exact ⟨hO2.keep (fun j hj he => qs), VAo.step hA (fun j hj hn => qs) qo qo, qg, by omega, ql, by omega, qs, hV1, takeC_bytes hyr hc, by omega, ql, by rw [hk1]; exact hlt.2, by rw [hgf, show n = (n - 1) + 1 by omega, withL_step qo hc, List.map_append, ← hx, hk1]; rfl⟩))
      | (refine hK _ _ ?_; (first | (have e := hgf; rw [show n = (n - 1) + 1 by omega, withL_err qo hc] at e; exact ⟨qg, .nilsl, [], by rw [e], by rw [e]; rfl, ⟨(fun x hx => nomatch hx), .inl ⟨rfl, rfl⟩⟩, (fun x hx => nomatch hx)⟩) | (have e := hgf; rw [withL_end qo] at e; exact ⟨qg, o, l, by rw [e], by rw [e], hO.rd encC_len qo, hva.va⟩) | fail); done))
def L13_0 : SC := (.seq (.seq (.ops [⟨some 9, .mov (.t 0), none⟩, ⟨some 10, .len (.sl) (.t 9), none⟩, ⟨some 11, .bin (.gtr) (.other) (.t 10) (.c (.int (.i64) 0)), none⟩]) (.cond (.t 11) .skip (.exit 0))) (.block 1 (.seq (.ops [⟨some 13, .mov (.t 5), none⟩, ⟨some 14, .mov (.t 0), none⟩, ⟨some 15, .call 41 [.t 13, .t 14], none⟩, ⟨some 12, .mov (.t 15), none⟩, ⟨some 16, .extract (.t 12) 0, none⟩, ⟨some 17, .extract (.t 12) 1, none⟩, ⟨some 18, .extract (.t 12) 2, none⟩, ⟨some 6, .box (.c (.agg [.str [], .nilsl, .bool false])), none⟩, ⟨none, .store 3 (.t 6) (.t 16), none⟩, ⟨some 7, .mov (.t 17), none⟩, ⟨some 8, .mov (.t 18), none⟩]) (.seq (.seq (.ops [⟨some 19, .mov (.t 8), none⟩, ⟨some 20, .bin (.neq) (.other) (.t 19) (.c (.int (.i64) 0)), none⟩]) (.cond (.t 20) (.seq (.ops [⟨some 21, .mov (.t 8), none⟩, ⟨some 2, .mov (.c (.nilsl)), none⟩, ⟨some 3, .mov (.t 21), none⟩]) .ret) .skip)) (.seq (.ops [⟨some 22, .mov (.t 4), none⟩, ⟨some 23, .load true 3 (.t 6), none⟩, ⟨some 24, .buildSlice [.str [], .nilsl, .bool false] 1 3 [(0, 3, .t 23)], none⟩, ⟨some 25, .append 3 48 (.t 22) (.t 24), none⟩, ⟨some 4, .mov (.t 25), none⟩]) (.seq (.ops [⟨some 26, .fieldAddr 0 (.t 6), none⟩, ⟨some 27, .load false 1 (.t 26), none⟩, ⟨some 5, .mov (.t 27), none⟩]) (.ops [⟨some 28, .mov (.t 7), none⟩, ⟨some 0, .mov (.t 28), none⟩])))))))
def b13 : SC := (.seq (.ops [⟨some 2, .mov (.c (.nilsl)), none⟩, ⟨some 3, .mov (.c (.int (.i64) 0)), none⟩]) (.seq (.ops [⟨some 4, .mov (.c (.nilsl)), none⟩]) (.seq (.ops [⟨some 5, .mov (.c (.str [])), none⟩]) (.seq (.block 0 (.loop L13_0)) (.seq (.ops [⟨some 29, .mov (.t 4), none⟩, ⟨some 2, .mov (.t 29), none⟩, ⟨some 3, .mov (.c (.int (.i64) 0)), none⟩]) .ret)))))
theorem t13 : tab 13 = some ⟨30, [.tmp 2, .tmp 3], b13⟩ := rfl
theorem rbat_Get {V : AV} {bs : Bs} {h : Heap} (hV : BytesAt h V bs) (hy : Bytes bs) (hl : bs.length ≤ 100000000) : Runs (xcall X1 tab (.fn 13) [V] h) fun v h' => Grow h h' ∧ ∃ w l, v = .tuple [w, .int .i64 (getAll bs).1] ∧ l.map Ro.en = (getAll bs).2 ∧ CAt h' w l ∧ VAt h' l := by
  refine Runs.intro fun K hK => ?_
  rw [w_fn rfl t13 (Nat.le_of_ble_eq_true rfl)]
  delta b13
  repeat' (first
    | simp (disch := first | exact qd | fail) only [WB, ↓WP, ↓WL, WR, WC, if_true, if_false, ite_true, ite_false, aop, ev, evs, readsA, List.replicate, numF, unA, resA, tupA, loadA, storeA, splice, fillA, kindsOk, plainEq, ↓reduceIte, Nat.reduceEqDiff, Nat.reduceLT, Int.reduceToNat, Int.reduceBEq, Int.reduceBNe, Nat.reduceAdd, Nat.reduceMul, Nat.reduceLeDiff, Int.reduceLT, Int.reduceSub, Int.reduceAdd]
    | ((first | refine atC ?_ ?_ | refine atG ?_ ?_ | refine atH ?_ ?_ | refine atP ?_ ?_) <;> intro hc <;> (try rw [hc]) <;> (try simp only [BD] at hc) <;> try (exfalso; omega)))
  all_goals try (first
    | (refine hK _ _ ?_; (first | (have e := hgf; rw [show n = (n - 1) + 1 by omega, withL_err qo hc] at e; exact ⟨qg, .nilsl, [], by rw [e], by rw [e]; rfl, ⟨(fun x hx => nomatch hx), .inl ⟨rfl, rfl⟩⟩, (fun x hx => nomatch hx)⟩) | (have e := hgf; rw [withL_end qo] at e; exact ⟨qg, o, l, by rw [e], by rw [e], hO.rd encC_len qo, hva.va⟩) | fail); done))
  all_goals
    refine wloop (α := (List Ro) × AV × Bs × AV × Bs × Nat) [] (fun x => [(0, x.2.2.2.1), (4, x.2.1), (5, .str x.2.2.1)]) (fun x H => OwR 3 encC h.next H x.2.1 x.1 ∧ VAo h.next H.next H x.2.1 x.1 ∧ Grow h H ∧ BytesAt h x.2.2.2.1 x.2.2.2.2.1 ∧ Bytes x.2.2.2.2.1 ∧ x.2.2.2.2.1.length ≤ x.2.2.2.2.2 ∧ x.2.2.2.2.2 + x.1.length ≤ 100000000 ∧ x.2.2.1.length ≤ 16 ∧ getAll bs = withL (x.1.map Ro.en) (getF x.2.2.2.2.2 x.2.2.1 x.2.2.2.2.1)) (fun x => x.2.2.2.2.2) ?_ (([], .nilsl, [], V, bs, bs.length)) ?_ ?_
    rotate_left
    · exact qf
    · (try dsimp only)
      exact ⟨OwC.nil, (fun x hx => nomatch hx), qg, hV, hy, by omega, by simp; omega, by simp, (withL_nil _ getF_err).symm⟩
    intro x b1 H hI ih
    obtain ⟨l, o, k, u, r, n⟩ := x
    try dsimp only at hI
    obtain ⟨hO, hva, g, hu, hyr, hrn, hnl, hk16, hgf⟩ := hI
    have on := OwR.num hO
    try have gn := g.1
    refine w_unfold (by delta L13_0; rfl) ?_
    simp only [keeps_nil, keeps_cons, List.cons_append, List.nil_append, lk_cons, lk_nil, numF, Nat.reduceEqDiff, Nat.reduceAdd, Nat.zero_add, ↓reduceIte]
    repeat' (first
      | simp (disch := first | exact qd | fail) only [WB, ↓WP, ↓WL, WR, WC, if_true, if_false, ite_true, ite_false, aop, ev, evs, readsA, List.replicate, numF, unA, resA, tupA, loadA, storeA, splice, fillA, kindsOk, plainEq, ↓reduceIte, Nat.reduceEqDiff, Nat.reduceLT, Int.reduceToNat, Int.reduceBEq, Int.reduceBNe, Nat.reduceAdd, Nat.reduceMul, Nat.reduceLeDiff, Int.reduceLT, Int.reduceSub, Int.reduceAdd]
      | ((first | refine atC ?_ ?_ | refine atG ?_ ?_ | refine atH ?_ ?_ | refine atP ?_ ?_) <;> intro hc <;> (try rw [hc]) <;> (try simp only [BD] at hc) <;> try (exfalso; omega))
      | ((first
        | (refine Runs.call (rbat_next qg hu hyr qo qo hk16) ?_; rintro v1 H1 ⟨gr, k1, w1, g1, u1, rfl, hfw, hfu, hok⟩)
        | (refine Runs.call (OwR.push encC_len qo (hO.keep (fun j hj he => qs)) ql (a := ⟨k1, w1, (takeC k r).2.1.val, g1⟩) (ga_new rfl) rfl qo) ?_; rintro o2 H2 ⟨hO2, ha⟩; obtain ⟨hk1, hg1, hOw, hV1⟩ := hok hc; have on2 := OwR.num hO2; have onw := OwC.num hOw)
        | fail); all_goals ((try (have gn := gr.1; try simp only [nx_alloc, nx_set] at gn)); (try (have an := ha.num; try simp only [nx_alloc, nx_set, own_sl, own_nil] at an)); (try (have on := hO.num; try simp only [nx_alloc, nx_set] at on)); (try (have kn := hk.1; try simp only [nx_alloc, nx_set] at kn)); try have hB := hO.at)))
    all_goals try (first
      | exact ih ((l ++ [⟨k1, w1, (takeC k r).2.1.val, g1⟩], o2, k1, u1, (takeC k r).2.2, n - 1)) _ _ _ (by ((try dsimp only); omega)) (by exact qf) (by ((try dsimp only); have hlt := takeC_less hc; have hx := en_eta (w := w1) hk1 hg1 rfl; have hA := VAo.push (x := ⟨k1, w1, (takeC k r).2.1.val, g1⟩) (VAo.step hva (H' := H1) (p' := H1.next) (out' := o) (fun j hj hn => qs) qo (.inl rfl)) (OwC.le hOw qo) (by show own w1 ≤ H1.next; omega) (by show own w1 = 0 ∨ own w1 ≠ own o; omega); exact ⟨hO2, VAo.step hA (fun j hj hn => qs) qo qo, qg, hV1, takeC_bytes hyr hc, by omega, ql, by rw [hk1]; exact hlt.2, by rw [hgf, show n = (n - 1) + 1 by omega, withL_step qo hc, List.map_append, ← hx, hk1]; rfl⟩))
      | (refine hK _ _ ?_; (first | (have e := hgf; rw [show n = (n - 1) + 1 by omega, withL_err qo hc] at e; exact ⟨qg, .nilsl, [], by rw [e], by rw [e]; rfl, ⟨(fun x hx => nomatch hx), .inl ⟨rfl, rfl⟩⟩, (fun x hx => nomatch hx)⟩) | (have e := hgf; rw [withL_end qo] at e; exact ⟨qg, o, l, by rw [e], by rw [e], hO.rd encC_len qo, hva.va⟩) | fail); done))
end Go.Proofs.Ytbcmdlaffjmfdaa.Ya

