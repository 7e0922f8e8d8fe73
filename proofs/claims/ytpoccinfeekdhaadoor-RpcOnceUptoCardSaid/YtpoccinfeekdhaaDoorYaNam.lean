/-
  Names: is a text a name?
-/
import Derived.Test.YtpoccinfeekdhaaDoorYaRpSpec
import Derived.Test.YtpoccinfeekdhaaDoorYbL
import Derived.Test.YtpoccinfeekdhaaDoorYaNaPure
import Derived.Test.YtpoccinfeekdhaaDoorYbJ
namespace Go.Proofs.YtpoccinfeekdhaaDoor.Ya
open Go.Ya Go.Ya.Na
set_option linter.unusedVariables false
set_option linter.unusedSimpArgs false
set_option maxRecDepth 100000
set_option maxHeartbeats 8000000
theorem w_roll {X : Known} {SP : FuncId → Option SFunc} {self : FuncId} {rd : Option Nat} {K : AOut → Prop} {L B : SC} {tm : List AV} {h : Heap} (e : L = B) (k : At (kThen X SP self rd (.loop L) K) (xcode X SP self rd B tm h)) : At K (xcode X SP self rd (.loop L) tm h) := by
  subst e
  rw [At.eq] at k ⊢
  rw [x_loop]
  exact k
theorem atIte {K : AR → Prop} {p : Prop} [Decidable p] {a b : AR} (h1 : p → AtR K a) (h2 : ¬ p → AtR K b) : AtR K (if p then a else b) := by
  by_cases h : p
  · rw [if_pos h]; exact h1 h
  · rw [if_neg h]; exact h2 h
theorem dec_r (s : Bs) (h : Heap) : Runs (xcall X1 tab (.fn 74) [.str s] h) fun v h' => v = .tuple [.int .i32 (decA s).1, .int .i64 (decA s).2] ∧ h = h' := Runs.eq (ofRun (n := 1) rfl)
theorem dec_rawR {s : Bs} {k : Nat} (a : Asm (Bytes s)) : Utf8.decode (toBA s) k = rawP (s.drop k) := decode_raw a.out k
theorem decA_rule {s : Bs} {k : Nat} (a : Asm (Bytes s)) (h : k < s.length) : decA (s.drop k) = rawP (s.drop k) := decA_raw (a.out.drop k) (by rw [List.length_drop]; omega)
theorem raw_asm {t : Bs} {x : Nat × Nat} (a : Asm (rawP t = x)) : rawP t = x := a.out
theorem tk_all {s : Bs} {k : Nat} : (s.drop k).take (s.length - k) = s.drop k := List.take_of_length_le (by rw [List.length_drop]; omega)
theorem map_add (o : Option Nat) (n : Nat) : (o.map (· + 1)).map (· + n) = o.map (· + (n + 1)) := by
  cases o with
  | none => rfl
  | some x => simp only [Option.map_some]; congr 1; omega
theorem run_done {F : Nat → Bool} {s : Bs} {k n : Nat} (hr : runesP F s = (runesP F (s.drop k)).map (· + n)) (hk : s.length ≤ k) : runesP F s = some n := by
  rw [hr, runesP_nil _ (by rw [List.length_drop]; omega)]; simp
theorem run_bad {F : Nat → Bool} {s : Bs} {k n : Nat} (hr : runesP F s = (runesP F (s.drop k)).map (· + n)) (hk : k < s.length) (hp : ptP (s.drop k) = (0, 0)) : runesP F s = none := by
  rw [hr, runesP_bad (by rw [List.length_drop]; omega) (by rw [hp])]; rfl
theorem run_no {F : Nat → Bool} {s : Bs} {k n r w : Nat} (hr : runesP F s = (runesP F (s.drop k)).map (· + n)) (hk : k < s.length) (ha : RuneAt (s.drop k) r w) (hf : F r = false) : runesP F s = none := by
  rw [hr, runesP_no (by rw [List.length_drop]; omega) ha hf]; rfl
theorem run_next {F : Nat → Bool} {s : Bs} {k n r w : Nat} (hr : runesP F s = (runesP F (s.drop k)).map (· + n)) (hk : k < s.length) (ha : RuneAt (s.drop k) r w) (hf : F r = true) : runesP F s = (runesP F (s.drop (k + w))).map (· + (n + 1)) := by
  rw [hr, runesP_step (by rw [List.length_drop]; omega) ha hf, map_add, List.drop_drop]
theorem run_some {F : Nat → Bool} {s : Bs} {n : Nat} (e : runesP F s = some n) : (n : Int) = ((runesP F s).getD 0 : Nat) ∧ (runesP F s).isSome = true := by rw [e]; exact ⟨rfl, rfl⟩
theorem run_none {F : Nat → Bool} {s : Bs} (e : runesP F s = none) : (0 : Int) = ((runesP F s).getD 0 : Nat) ∧ (runesP F s).isSome = false := by rw [e]; exact ⟨rfl, rfl⟩
theorem one_or {t : Bs} {r w : Nat} (a : RuneAt t r w) : w ≠ 1 ∨ r < 128 := by
  by_cases q : w = 1
  · have := a.one q; right; omega
  · exact .inl q
def ptN (b0 b1 b2 b3 l : Nat) : Nat × Nat := if b0 < 128 then (b0, 1) else
    if b0 / 32 = 6 then (if 1 < l ∧ b1 / 64 = 2 ∧ 128 ≤ b0 % 32 * 64 + b1 % 64 then (b0 % 32 * 64 + b1 % 64, 2) else (0, 0)) else
    if b0 / 16 = 14 then (if 1 < l ∧ b1 / 64 = 2 ∧ 2 < l ∧ b2 / 64 = 2 ∧ 2048 ≤ b0 % 16 * 4096 + b1 % 64 * 64 + b2 % 64 ∧ (b0 % 16 * 4096 + b1 % 64 * 64 + b2 % 64 < 55296 ∨ 57344 ≤ b0 % 16 * 4096 + b1 % 64 * 64 + b2 % 64) then (b0 % 16 * 4096 + b1 % 64 * 64 + b2 % 64, 3) else (0, 0)) else
    if b0 / 8 = 30 then (if 1 < l ∧ b1 / 64 = 2 ∧ 2 < l ∧ b2 / 64 = 2 ∧ 3 < l ∧ b3 / 64 = 2 ∧ 65536 ≤ b0 % 8 * 262144 + b1 % 64 * 4096 + b2 % 64 * 64 + b3 % 64 ∧ b0 % 8 * 262144 + b1 % 64 * 4096 + b2 % 64 * 64 + b3 % 64 ≤ 1114111 then (b0 % 8 * 262144 + b1 % 64 * 4096 + b2 % 64 * 64 + b3 % 64, 4) else (0, 0)) else (0, 0)
theorem ptP_eq (t : Bs) : ptP t = ptN (nb t 0) (nb t 1) (nb t 2) (nb t 3) t.length := by
  unfold ptP
  have hr : rawP t = Lib.decodeN t.length (nb t 0) (nb t 1) (nb t 2) (nb t 3) := rfl
  rw [hr]
  generalize nb t 0 = b0
  generalize nb t 1 = b1
  generalize nb t 2 = b2
  generalize nb t 3 = b3
  generalize t.length = l
  unfold ptN
  generalize hD : Lib.decodeN l b0 b1 b2 b3 = D
  unfold Lib.decodeN at hD
  (repeat' split at hD) <;> subst hD <;> (repeat (first | rw [if_pos (by (try dsimp only); omega)] | rw [if_neg (by (try dsimp only); omega)])) <;> (repeat' split) <;> first | rfl | (exfalso; omega) | fail
theorem tn2 {k : Nat} : ((k : Int) + 2).toNat = k + 2 := by omega
theorem tn3 {k : Nat} : ((k : Int) + 3).toNat = k + 3 := by omega
theorem isP_no {s : Bs} (h : s = [] ∨ 32 < s.length ∨ s = [46] ∨ s = [46, 46]) : isP s = false := by
  rcases h with rfl | h | rfl | rfl
  · simp [isP]
  · unfold isP
    rw [show decide (s.length ≤ 32) = false from decide_eq_false qo]; simp
  · simp [isP]
  · simp [isP]
theorem isP_go {s : Bs} (h1 : ¬ s = []) (h2 : s.length ≤ 32) (h3 : ¬ s = [46]) (h4 : ¬ s = [46, 46]) : isP s = (runesP namedP s).isSome := by
  have : 1 ≤ s.length := by
    cases s with
    | nil => exact absurd rfl h1
    | cons a l => simp
  simp [isP, this, h2, h3, h4]
theorem pt_to {s : Bs} {k m : Nat} {n : Int} (h : ∀ b0 b1 b2 b3 l : Nat, b0 = (s.getD k 0).toNat → b1 = (s.getD (k + 1) 0).toNat → b2 = (s.getD (k + 2) 0).toNat → b3 = (s.getD (k + 3) 0).toNat → l = s.length - k →
    ptN b0 b1 b2 b3 l = (n.toNat, m)) (hn : 0 ≤ n) :
    AV.tuple [.int .i64 n, .int .i64 (m : Nat)] = .tuple [.int .i64 ((ptP (s.drop k)).1 : Nat), .int .i64 ((ptP (s.drop k)).2 : Nat)] := by
  have := h _ _ _ _ _ rfl rfl rfl rfl rfl
  rw [ptP_eq, List.length_drop]
  rw [nb_drop, nb_drop, nb_drop, nb_drop]
  simp only [nb, Nat.add_zero]
  rw [this]
  simp only [Int.toNat_of_nonneg hn]
theorem pt_asm {t : Bs} {x : Nat × Nat} (a : Asm (ptP t = x)) : ptP t = x := a.out
theorem all_at {s : Bs} (h : ∀ i, i < s.length → goodB (s.getD i 0) = true) : s.all goodB = true := by
  rw [List.all_eq_true]
  intro b hb
  obtain ⟨i, hi, rfl⟩ := List.getElem_of_mem hb
  have := h i hi
  rwa [List.getD_eq_getElem?_getD, List.getElem?_eq_getElem hi] at this
theorem all_no {s : Bs} {i : Nat} (hi : i < s.length) (h : goodB (s.getD i 0) = false) : s.all goodB = false := by
  cases e : s.all goodB with
  | false => rfl
  | true =>
    rw [List.all_eq_true] at e
    have := e (s.getD i 0) (by rw [List.getD_eq_getElem?_getD, List.getElem?_eq_getElem hi]; exact List.getElem_mem hi)
    rw [h] at this; cases this
theorem good_t {b : Int} (h1 : 32 ≤ b) (h2 : ¬ b = 127) (h3 : ¬ b = 47) : goodB b = true := by unfold goodB; simp; omega
theorem good_f {b : Int} (h : b < 32 ∨ b = 127 ∨ b = 47) : goodB b = false := by
  unfold goodB
  rcases h with h | rfl | rfl
  · rw [show decide (32 ≤ b) = false from decide_eq_false qo]; rfl
  · rfl
  · rfl
theorem isD_no {s : Bs} (hy : Bytes s) (h : s.all goodB = false) : isP s = false := by rw [isP_doc hy, h]; simp
theorem isD_go {s : Bs} (hy : Bytes s) (h1 : 1 ≤ s.length) (h2 : s.length ≤ 32) (h3 : ¬ s = [46]) (h4 : ¬ s = [46, 46]) (h : s.all goodB = true) : isP s = (runesP everyP s).isSome := by
  rw [isP_doc hy, h]; simp [h1, h2, h3, h4]
theorem t65 : tab 65 = some ⟨13, [.tmp 2], b65⟩ := rfl
theorem name_named (r : Nat) (h : Heap) : Runs (xcall X1 tab (.fn 65) [.int .i32 (r : Nat)] h) fun v h' => v = .bool (namedP r) ∧ h = h' := by
  refine Runs.intro fun K hK => ?_
  rw [w_fn rfl t65 (Nat.le_of_ble_eq_true rfl)]
  delta b65
  repeat' (first
    | simp (disch := first | exact qd | fail) only [WB, ↓WP, ↓WL, WR, WC, if_true, if_false, ite_true, ite_false, aop, ev, evs, readsA, List.replicate, numF, unA, resA, tupA, loadA, storeA, splice, fillA, kindsOk, plainEq, ↓reduceIte, Nat.reduceEqDiff, Nat.reduceLT, Int.reduceToNat, Int.reduceBEq, Int.reduceBNe, Nat.reduceAdd, Nat.reduceMul, Nat.reduceLeDiff, Int.reduceLT, Int.reduceSub, Int.reduceAdd]
    | ((first | refine atC ?_ ?_ | refine atG ?_ ?_ | refine atH ?_ ?_ | refine atP ?_ ?_) <;> intro hc <;> (try rw [hc]) <;> (try simp only [BD] at hc) <;> try (exfalso; omega)))
  all_goals try (first
    | (refine hK _ _ ?_; (refine ⟨?_, rfl⟩; congr 1; unfold namedP; (first | (rw [Bool.eq_iff_iff]; simp; omega) | (symm; simp; omega) | (simp; omega) | fail)); done)
    | fail)
theorem t64 : tab 64 = some ⟨34, [.tmp 4, .tmp 5], b64⟩ := rfl
theorem name_runesN (s : Bs) (hy : Bytes s) (hl : s.length ≤ 9223372036854775807) (h : Heap) : Runs (xcall X1 tab (.fn 64) [.str s, .func 65 [] []] h) fun v h' => v = .tuple [.int .i64 ((runesP namedP s).getD 0 : Nat), .bool (runesP namedP s).isSome] ∧ Grow h h' := by
  refine Runs.intro fun K hK => ?_
  rw [w_fn rfl t64 (Nat.le_of_ble_eq_true rfl)]
  delta b64
  repeat' (first
    | simp (disch := first | exact qd | fail) only [WB, ↓WP, ↓WL, WR, WC, if_true, if_false, ite_true, ite_false, aop, ev, evs, readsA, List.replicate, numF, unA, resA, tupA, loadA, storeA, splice, fillA, kindsOk, plainEq, ↓reduceIte, Nat.reduceEqDiff, Nat.reduceLT, Int.reduceToNat, Int.reduceBEq, Int.reduceBNe, Nat.reduceAdd, Nat.reduceMul, Nat.reduceLeDiff, Int.reduceLT, Int.reduceSub, Int.reduceAdd, dec_rawR, decA_rule, raw_asm, tk_all]
    | ((first | refine atC ?_ ?_ | refine atG ?_ ?_ | refine atH ?_ ?_ | refine atP ?_ ?_) <;> intro hc <;> (try rw [hc]) <;> (try simp only [BD] at hc) <;> try (exfalso; omega)))
  all_goals try (first
    | (refine hK _ _ ?_; (first | (have q := run_some (run_done hr qo); exact ⟨by rw [q.2, ← q.1], qg⟩) | (have q := run_none (run_bad hr qo hp); exact ⟨by rw [q.2, ← q.1], qg⟩) | (have q := run_none (run_no hr qo ha (by assumption)); exact ⟨by rw [q.2, ← q.1], qg⟩) | fail); done)
    | fail)
  all_goals
    refine wloop (α := Nat × Nat) [0, 1, 11] (fun x => [(4, .int .i64 (x.2 : Nat))]) (fun x H => H.get h.next = some (.striter s x.1) ∧ Grow h H ∧ h.next < H.next ∧ x.1 ≤ s.length ∧ runesP namedP s = (runesP namedP (s.drop x.1)).map (· + x.2) ∧ x.2 ≤ x.1) (fun x => s.length - x.1) ?_ ((0, 0)) ?_ ?_
    rotate_left
    · exact qf
    · (try dsimp only)
      exact ⟨ga_new rfl, Grow.alloc _ _, by simp, by omega, by simp, by omega⟩
    intro x b1 H hI ih
    obtain ⟨k, n⟩ := x
    try dsimp only at hI
    obtain ⟨hit, g, hn, hk, hr, hnk⟩ := hI
    try have gn := g.1
    refine w_unfold (by delta L64_0; rfl) ?_
    simp only [keeps_nil, keeps_cons, List.cons_append, List.nil_append, lk_cons, lk_nil, numF, Nat.reduceEqDiff, Nat.reduceAdd, Nat.zero_add, ↓reduceIte]
    repeat' (first
      | simp (disch := first | exact qd | fail) only [WB, ↓WP, ↓WL, WR, WC, if_true, if_false, ite_true, ite_false, aop, ev, evs, readsA, List.replicate, numF, unA, resA, tupA, loadA, storeA, splice, fillA, kindsOk, plainEq, ↓reduceIte, Nat.reduceEqDiff, Nat.reduceLT, Int.reduceToNat, Int.reduceBEq, Int.reduceBNe, Nat.reduceAdd, Nat.reduceMul, Nat.reduceLeDiff, Int.reduceLT, Int.reduceSub, Int.reduceAdd, dec_rawR, decA_rule, raw_asm, tk_all]
      | ((first | refine atC ?_ ?_ | refine atG ?_ ?_ | refine atH ?_ ?_ | refine atP ?_ ?_) <;> intro hc <;> (try rw [hc]) <;> (try simp only [BD] at hc) <;> try (exfalso; omega))
      | (refine atIte (fun hc => ?_) (fun hc => ?_); rcases raw_cases (s.drop k) with ⟨hp, hraw⟩ | ⟨r, w, ha⟩; rotate_left; (have hraw := ha.raw; have hwp := ha.pos; have hw4 := ha.four; have hwl := ha.len (by rw [List.length_drop]; omega); rw [List.length_drop] at hwl; have htop := ha.top; have hone := one_or ha))
      | ((first
        | (refine Runs.call (dec_r _ _) ?_; rintro _ _ ⟨rfl, rfl⟩)
        | (refine Runs.call (name_named _ _) ?_; rintro _ _ ⟨rfl, rfl⟩)
        | fail); all_goals ((try (have gn := gr.1; try simp only [nx_alloc, nx_set] at gn)); (try (have an := ha.num; try simp only [nx_alloc, nx_set, own_sl, own_nil] at an)); (try (have on := hO.num; try simp only [nx_alloc, nx_set] at on)); (try (have kn := hk.1; try simp only [nx_alloc, nx_set] at kn)); try have hB := hO.at)))
    all_goals try (first
      | exact ih ((k + w, n + 1)) _ _ _ (by ((try dsimp only); omega)) qf (by ((try dsimp only); (first | (exact ⟨qs, qg, by (simp only [nx_set]; omega), by omega, run_next hr qo ha (by first | rfl | assumption | fail), by omega⟩) | fail)))
      | (refine hK _ _ ?_; (first | (have q := run_some (run_done hr qo); exact ⟨by rw [q.2, ← q.1], qg⟩) | (have q := run_none (run_bad hr qo hp); exact ⟨by rw [q.2, ← q.1], qg⟩) | (have q := run_none (run_no hr qo ha (by assumption)); exact ⟨by rw [q.2, ← q.1], qg⟩) | fail); done)
      | fail)
theorem t47 : tab 47 = some ⟨26, [.tmp 2], b47⟩ := rfl
theorem name_Is (s : Bs) (hy : Bytes s) (h : Heap) : Runs (xcall X1 tab (.fn 47) [.str s] h) fun v h' => v = .bool (isP s) ∧ Grow h h' := by
  refine Runs.intro fun K hK => ?_
  rw [w_fn rfl t47 (Nat.le_of_ble_eq_true rfl)]
  delta b47
  repeat' (first
    | simp (disch := first | exact qd | fail) only [WB, ↓WP, ↓WL, WR, WC, if_true, if_false, ite_true, ite_false, aop, ev, evs, readsA, List.replicate, numF, unA, resA, tupA, loadA, storeA, splice, fillA, kindsOk, plainEq, ↓reduceIte, Nat.reduceEqDiff, Nat.reduceLT, Int.reduceToNat, Int.reduceBEq, Int.reduceBNe, Nat.reduceAdd, Nat.reduceMul, Nat.reduceLeDiff, Int.reduceLT, Int.reduceSub, Int.reduceAdd]
    | ((first | refine atC ?_ ?_ | refine atG ?_ ?_ | refine atH ?_ ?_ | refine atP ?_ ?_) <;> intro hc <;> (try rw [hc]) <;> (try simp only [BD] at hc) <;> try (exfalso; omega))
    | ((first
      | (refine Runs.call (name_runesN s hy qo _) ?_; rintro _ _ ⟨rfl, gr⟩)
      | fail); all_goals ((try (have gn := gr.1; try simp only [nx_alloc, nx_set] at gn)); (try (have an := ha.num; try simp only [nx_alloc, nx_set, own_sl, own_nil] at an)); (try (have on := hO.num; try simp only [nx_alloc, nx_set] at on)); (try (have kn := hk.1; try simp only [nx_alloc, nx_set] at kn)); try have hB := hO.at)))
  all_goals try (first
    | (refine hK _ _ ?_; (first | exact ⟨by rw [isP_no (.inl (by assumption))], qg⟩ | exact ⟨by rw [isP_no (.inr (.inl qo))], qg⟩ | exact ⟨by rw [isP_no (.inr (.inr (.inl (by assumption))))], qg⟩ | exact ⟨by rw [isP_no (.inr (.inr (.inr (by assumption))))], qg⟩ | exact ⟨by rw [isP_go (by assumption) qo (by assumption) (by assumption)], qg⟩ | fail); done)
    | fail)
theorem t70 : tab 70 = some ⟨92, [.tmp 4, .tmp 5], b70⟩ := rfl
theorem ref_point (s : Bs) (hy : Bytes s) (hl : s.length ≤ 4611686018427387904) {k : Nat} (hk : k < s.length) (h : Heap) : Runs (xcall X1 tab (.fn 70) [.str s, .int .i64 (k : Nat)] h) fun v h' => v = .tuple [.int .i64 ((ptP (s.drop k)).1 : Nat), .int .i64 ((ptP (s.drop k)).2 : Nat)] ∧ h = h' := by
  refine Runs.intro fun K hK => ?_
  have hb0 := hy.at k
  have hb1 := hy.at (k + 1)
  have hb2 := hy.at (k + 2)
  have hb3 := hy.at (k + 3)
  rw [w_fn rfl t70 (Nat.le_of_ble_eq_true rfl)]
  delta b70
  repeat' (first
    | simp (disch := first | exact qd | fail) only [WB, ↓WP, ↓WL, WR, WC, if_true, if_false, ite_true, ite_false, aop, ev, evs, readsA, List.replicate, numF, unA, resA, tupA, loadA, storeA, splice, fillA, kindsOk, plainEq, ↓reduceIte, Nat.reduceEqDiff, Nat.reduceLT, Int.reduceToNat, Int.reduceBEq, Int.reduceBNe, Nat.reduceAdd, Nat.reduceMul, Nat.reduceLeDiff, Int.reduceLT, Int.reduceSub, Int.reduceAdd, tn2, tn3]
    | ((first | refine atC ?_ ?_ | refine atG ?_ ?_ | refine atH ?_ ?_ | refine atP ?_ ?_) <;> intro hc <;> (try rw [hc]) <;> (try simp only [BD] at hc) <;> try (exfalso; omega))
    | (refine w_roll (by delta L70_0; rfl) ?_))
  all_goals try (first
    | (refine hK _ _ ?_; (first | (refine ⟨pt_to (m := 0) (fun b0 b1 b2 b3 l e0 e1 e2 e3 e4 => ?_) qo, rfl⟩; unfold ptN; (repeat (first | rw [if_pos qo] | rw [if_neg qo])); (first | done | rfl | (congr 1 <;> omega) | fail)) | (refine ⟨pt_to (m := 1) (fun b0 b1 b2 b3 l e0 e1 e2 e3 e4 => ?_) qo, rfl⟩; unfold ptN; (repeat (first | rw [if_pos qo] | rw [if_neg qo])); (first | done | rfl | (congr 1 <;> omega) | fail)) | (refine ⟨pt_to (m := 2) (fun b0 b1 b2 b3 l e0 e1 e2 e3 e4 => ?_) qo, rfl⟩; unfold ptN; (repeat (first | rw [if_pos qo] | rw [if_neg qo])); (first | done | rfl | (congr 1 <;> omega) | fail)) | (refine ⟨pt_to (m := 3) (fun b0 b1 b2 b3 l e0 e1 e2 e3 e4 => ?_) qo, rfl⟩; unfold ptN; (repeat (first | rw [if_pos qo] | rw [if_neg qo])); (first | done | rfl | (congr 1 <;> omega) | fail)) | (refine ⟨pt_to (m := 4) (fun b0 b1 b2 b3 l e0 e1 e2 e3 e4 => ?_) qo, rfl⟩; unfold ptN; (repeat (first | rw [if_pos qo] | rw [if_neg qo])); (first | done | rfl | (congr 1 <;> omega) | fail)) | fail); done)
    | fail)
theorem t55 : tab 55 = some ⟨26, [.tmp 2, .tmp 3], b55⟩ := rfl
theorem ref_Runes (s : Bs) (hy : Bytes s) (hl : s.length ≤ 4611686018427387904) (h : Heap) : Runs (xcall X1 tab (.fn 55) [.str s] h) fun v h' => v = .tuple [.int .i64 ((runesP everyP s).getD 0 : Nat), .bool (runesP everyP s).isSome] ∧ h = h' := by
  refine Runs.intro fun K hK => ?_
  rw [w_fn rfl t55 (Nat.le_of_ble_eq_true rfl)]
  delta b55
  repeat' (first
    | simp (disch := first | exact qd | fail) only [WB, ↓WP, ↓WL, WR, WC, if_true, if_false, ite_true, ite_false, aop, ev, evs, readsA, List.replicate, numF, unA, resA, tupA, loadA, storeA, splice, fillA, kindsOk, plainEq, ↓reduceIte, Nat.reduceEqDiff, Nat.reduceLT, Int.reduceToNat, Int.reduceBEq, Int.reduceBNe, Nat.reduceAdd, Nat.reduceMul, Nat.reduceLeDiff, Int.reduceLT, Int.reduceSub, Int.reduceAdd, pt_asm]
    | ((first | refine atC ?_ ?_ | refine atG ?_ ?_ | refine atH ?_ ?_ | refine atP ?_ ?_) <;> intro hc <;> (try rw [hc]) <;> (try simp only [BD] at hc) <;> try (exfalso; omega)))
  all_goals try (first
    | (refine hK _ _ ?_; (first | (have q := run_some (run_done hr qo); exact ⟨by rw [q.2, ← q.1], rfl⟩) | (have q := run_none (run_bad hr qo hp); exact ⟨by rw [q.2, ← q.1], rfl⟩) | fail); done)
    | fail)
  all_goals
    refine wloop (α := Nat × Nat) [0] (fun x => [(4, .int .i64 (x.2 : Nat)), (5, .int .i64 (x.1 : Nat))]) (fun x H => h = H ∧ x.1 ≤ s.length ∧ runesP everyP s = (runesP everyP (s.drop x.1)).map (· + x.2) ∧ x.2 ≤ x.1) (fun x => s.length - x.1) ?_ ((0, 0)) ?_ ?_
    rotate_left
    · exact qf
    · (try dsimp only)
      exact ⟨rfl, by omega, by simp, by omega⟩
    intro x b1 H hI ih
    obtain ⟨k, n⟩ := x
    try dsimp only at hI
    obtain ⟨rfl, hk, hr, hnk⟩ := hI
    try have gn := g.1
    refine w_unfold (by delta L55_0; rfl) ?_
    simp only [keeps_nil, keeps_cons, List.cons_append, List.nil_append, lk_cons, lk_nil, numF, Nat.reduceEqDiff, Nat.reduceAdd, Nat.zero_add, ↓reduceIte]
    repeat' (first
      | simp (disch := first | exact qd | fail) only [WB, ↓WP, ↓WL, WR, WC, if_true, if_false, ite_true, ite_false, aop, ev, evs, readsA, List.replicate, numF, unA, resA, tupA, loadA, storeA, splice, fillA, kindsOk, plainEq, ↓reduceIte, Nat.reduceEqDiff, Nat.reduceLT, Int.reduceToNat, Int.reduceBEq, Int.reduceBNe, Nat.reduceAdd, Nat.reduceMul, Nat.reduceLeDiff, Int.reduceLT, Int.reduceSub, Int.reduceAdd, pt_asm]
      | ((first | refine atC ?_ ?_ | refine atG ?_ ?_ | refine atH ?_ ?_ | refine atP ?_ ?_) <;> intro hc <;> (try rw [hc]) <;> (try simp only [BD] at hc) <;> try (exfalso; omega))
      | ((first
        | (refine Runs.call (ref_point s hy hl (k := k) qo _) ?_; rintro _ _ ⟨rfl, rfl⟩; rcases raw_cases (s.drop k) with ⟨hp, hraw⟩ | ⟨r, w, ha⟩; rotate_left; (have hraw := ha.pt; have hwp := ha.pos; have hw4 := ha.four; have hwl := ha.len (by rw [List.length_drop]; omega); rw [List.length_drop] at hwl; have htop := ha.top))
        | fail); all_goals ((try (have gn := gr.1; try simp only [nx_alloc, nx_set] at gn)); (try (have an := ha.num; try simp only [nx_alloc, nx_set, own_sl, own_nil] at an)); (try (have on := hO.num; try simp only [nx_alloc, nx_set] at on)); (try (have kn := hk.1; try simp only [nx_alloc, nx_set] at kn)); try have hB := hO.at)))
    all_goals try (first
      | exact ih ((k + w, n + 1)) _ _ _ (by ((try dsimp only); omega)) qf (by ((try dsimp only); (first | (exact ⟨rfl, by omega, run_next hr qo ha rfl, by omega⟩) | fail)))
      | (refine hK _ _ ?_; (first | (have q := run_some (run_done hr qo); exact ⟨by rw [q.2, ← q.1], rfl⟩) | (have q := run_none (run_bad hr qo hp); exact ⟨by rw [q.2, ← q.1], rfl⟩) | fail); done)
      | fail)
theorem t35 : tab 35 = some ⟨50, [.tmp 2], b35⟩ := rfl
theorem ref_Is (s : Bs) (hy : Bytes s) (h : Heap) : Runs (xcall X1 tab (.fn 35) [.str s] h) fun v h' => v = .bool (isP s) ∧ h = h' := by
  refine Runs.intro fun K hK => ?_
  rw [w_fn rfl t35 (Nat.le_of_ble_eq_true rfl)]
  delta b35
  repeat' (first
    | simp (disch := first | exact qd | fail) only [WB, ↓WP, ↓WL, WR, WC, if_true, if_false, ite_true, ite_false, aop, ev, evs, readsA, List.replicate, numF, unA, resA, tupA, loadA, storeA, splice, fillA, kindsOk, plainEq, ↓reduceIte, Nat.reduceEqDiff, Nat.reduceLT, Int.reduceToNat, Int.reduceBEq, Int.reduceBNe, Nat.reduceAdd, Nat.reduceMul, Nat.reduceLeDiff, Int.reduceLT, Int.reduceSub, Int.reduceAdd]
    | ((first | refine atC ?_ ?_ | refine atG ?_ ?_ | refine atH ?_ ?_ | refine atP ?_ ?_) <;> intro hc <;> (try rw [hc]) <;> (try simp only [BD] at hc) <;> try (exfalso; omega))
    | ((first
      | (refine Runs.call (ref_Runes s hy qo _) ?_; rintro _ _ ⟨rfl, rfl⟩)
      | fail); all_goals ((try (have gn := gr.1; try simp only [nx_alloc, nx_set] at gn)); (try (have an := ha.num; try simp only [nx_alloc, nx_set, own_sl, own_nil] at an)); (try (have on := hO.num; try simp only [nx_alloc, nx_set] at on)); (try (have kn := hk.1; try simp only [nx_alloc, nx_set] at kn)); try have hB := hO.at)))
  all_goals try (first
    | (refine hK _ _ ?_; (first | exact ⟨by rw [isP_no (.inl (List.eq_nil_of_length_eq_zero qo))], rfl⟩ | exact ⟨by rw [isP_no (.inr (.inl qo))], rfl⟩ | exact ⟨by rw [isP_no (.inr (.inr (.inl (by assumption))))], rfl⟩ | exact ⟨by rw [isP_no (.inr (.inr (.inr (by assumption))))], rfl⟩ | exact ⟨by rw [isD_no hy (all_no (i := i) qo (good_f qo))], rfl⟩ | exact ⟨by rw [isD_go hy qo qo (by assumption) (by assumption) (all_at (fun j q => hj j qo))], rfl⟩ | fail); done)
    | fail)
  all_goals
    refine wloop (α := Nat) [0] (fun x => [(3, .int .i64 (x : Nat))]) (fun x H => h = H ∧ x ≤ s.length ∧ ∀ j, j < x → goodB (s.getD j 0) = true) (fun x => s.length - x) ?_ (0) ?_ ?_
    rotate_left
    · exact qf
    · (try dsimp only)
      exact ⟨rfl, by omega, fun j q => absurd q qo⟩
    intro i b1 H hI ih
    try dsimp only at hI
    obtain ⟨rfl, hi, hj⟩ := hI
    try have gn := g.1
    refine w_unfold (by delta L35_0; rfl) ?_
    simp only [keeps_nil, keeps_cons, List.cons_append, List.nil_append, lk_cons, lk_nil, numF, Nat.reduceEqDiff, Nat.reduceAdd, Nat.zero_add, ↓reduceIte]
    repeat' (first
      | simp (disch := first | exact qd | fail) only [WB, ↓WP, ↓WL, WR, WC, if_true, if_false, ite_true, ite_false, aop, ev, evs, readsA, List.replicate, numF, unA, resA, tupA, loadA, storeA, splice, fillA, kindsOk, plainEq, ↓reduceIte, Nat.reduceEqDiff, Nat.reduceLT, Int.reduceToNat, Int.reduceBEq, Int.reduceBNe, Nat.reduceAdd, Nat.reduceMul, Nat.reduceLeDiff, Int.reduceLT, Int.reduceSub, Int.reduceAdd]
      | ((first | refine atC ?_ ?_ | refine atG ?_ ?_ | refine atH ?_ ?_ | refine atP ?_ ?_) <;> intro hc <;> (try rw [hc]) <;> (try simp only [BD] at hc) <;> try (exfalso; omega))
      | ((first
        | (refine Runs.call (ref_Runes s hy qo _) ?_; rintro _ _ ⟨rfl, rfl⟩)
        | fail); all_goals ((try (have gn := gr.1; try simp only [nx_alloc, nx_set] at gn)); (try (have an := ha.num; try simp only [nx_alloc, nx_set, own_sl, own_nil] at an)); (try (have on := hO.num; try simp only [nx_alloc, nx_set] at on)); (try (have kn := hk.1; try simp only [nx_alloc, nx_set] at kn)); try have hB := hO.at)))
    all_goals try (first
      | exact ih (i + 1) _ _ _ (by ((try dsimp only); omega)) qf (by ((try dsimp only); (first | (exact ⟨rfl, by omega, pre_succ hj (good_t qo (by assumption) (by assumption))⟩) | fail)))
      | (refine hK _ _ ?_; (first | exact ⟨by rw [isP_no (.inl (List.eq_nil_of_length_eq_zero qo))], rfl⟩ | exact ⟨by rw [isP_no (.inr (.inl qo))], rfl⟩ | exact ⟨by rw [isP_no (.inr (.inr (.inl (by assumption))))], rfl⟩ | exact ⟨by rw [isP_no (.inr (.inr (.inr (by assumption))))], rfl⟩ | exact ⟨by rw [isD_no hy (all_no (i := i) qo (good_f qo))], rfl⟩ | exact ⟨by rw [isD_go hy qo qo (by assumption) (by assumption) (all_at (fun j q => hj j qo))], rfl⟩ | fail); done)
      | fail)
end Go.Proofs.YtpoccinfeekdhaaDoor.Ya
