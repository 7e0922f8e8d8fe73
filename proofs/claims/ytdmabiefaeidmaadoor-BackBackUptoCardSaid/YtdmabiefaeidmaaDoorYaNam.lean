/-
  Names: is a text a name?
-/
import Derived.Test.YtdmabiefaeidmaaDoorYaBkSpec
import Derived.Test.YtdmabiefaeidmaaDoorYbL
import Derived.Test.YtdmabiefaeidmaaDoorYaNaPure
import Derived.Test.YtdmabiefaeidmaaDoorYbJ
namespace Go.Proofs.YtdmabiefaeidmaaDoor.Ya
open Go.Ya Go.Ya.Na
set_option linter.unusedVariables false
set_option linter.unusedSimpArgs false
set_option maxRecDepth 100000
set_option maxHeartbeats 8000000
theorem atIte {K : AR → Prop} {p : Prop} [Decidable p] {a b : AR} (h1 : p → AtR K a) (h2 : ¬ p → AtR K b) : AtR K (if p then a else b) := by
  by_cases h : p
  · rw [if_pos h]; exact h1 h
  · rw [if_neg h]; exact h2 h
theorem dec_r (s : Bs) (h : Heap) : Runs (xcall X1 tab (.fn 72) [.str s] h) fun v h' => v = .tuple [.int .i32 (decA s).1, .int .i64 (decA s).2] ∧ h = h' := Runs.eq (ofRun (n := 1) rfl)
theorem dec_rawR {s : Bs} {k : Nat} (a : Asm (Bytes s)) : Utf8.decode (toBA s) k = rawP (s.drop k) := decode_raw a.out k
theorem decA_rule {s : Bs} {k : Nat} (a : Asm (Bytes s)) (h : k < s.length) : decA (s.drop k) = rawP (s.drop k) := decA_raw (a.out.drop k) (by rw [List.length_drop]; omega)
theorem raw_asm {t : Bs} {x : Nat × Nat} (a : Asm (rawP t = x)) : rawP t = x := a.out
theorem tk_all {s : Bs} {k : Nat} : (s.drop k).take (s.length - k) = s.drop k := List.take_of_length_le (by rw [List.length_drop]; omega)
theorem map_add (o : Option Nat) (n : Nat) : (o.map (· + 1)).map (· + n) = o.map (· + (n + 1)) := by
  cases o with
  | none => rfl
  | some x => simp only [Option.map_some]; congr 1; omega
theorem run_done {F : Nat → Bool} {s : Bs} {k n : Nat} (hr : runesP F s = (runesP F (s.drop k)).map (· + n)) (hk : s.length ≤ k) : runesP F s = some n := by
  rw [hr, runesP_nil _ (by rw [List.length_drop]; omega)]; simp
theorem run_bad {F : Nat → Bool} {s : Bs} {k n : Nat} (hr : runesP F s = (runesP F (s.drop k)).map (· + n)) (hk : k < s.length) (hp : ptP (s.drop k) = (0, 0)) : runesP F s = none := by
  rw [hr, runesP_bad (by rw [List.length_drop]; omega) (by rw [hp])]; rfl
theorem run_no {F : Nat → Bool} {s : Bs} {k n r w : Nat} (hr : runesP F s = (runesP F (s.drop k)).map (· + n)) (hk : k < s.length) (ha : RuneAt (s.drop k) r w) (hf : F r = false) : runesP F s = none := by
  rw [hr, runesP_no (by rw [List.length_drop]; omega) ha hf]; rfl
theorem run_next {F : Nat → Bool} {s : Bs} {k n r w : Nat} (hr : runesP F s = (runesP F (s.drop k)).map (· + n)) (hk : k < s.length) (ha : RuneAt (s.drop k) r w) (hf : F r = true) : runesP F s = (runesP F (s.drop (k + w))).map (· + (n + 1)) := by
  rw [hr, runesP_step (by rw [List.length_drop]; omega) ha hf, map_add, List.drop_drop]
theorem run_some {F : Nat → Bool} {s : Bs} {n : Nat} (e : runesP F s = some n) : (n : Int) = ((runesP F s).getD 0 : Nat) ∧ (runesP F s).isSome = true := by rw [e]; exact ⟨rfl, rfl⟩
theorem run_none {F : Nat → Bool} {s : Bs} (e : runesP F s = none) : (0 : Int) = ((runesP F s).getD 0 : Nat) ∧ (runesP F s).isSome = false := by rw [e]; exact ⟨rfl, rfl⟩
theorem one_or {t : Bs} {r w : Nat} (a : RuneAt t r w) : w ≠ 1 ∨ r < 128 := by
  by_cases q : w = 1
  · have := a.one q; right; omega
  · exact .inl q
theorem isP_no {s : Bs} (h : s = [] ∨ 32 < s.length ∨ s = [46] ∨ s = [46, 46]) : isP s = false := by
  rcases h with rfl | h | rfl | rfl
  · simp [isP]
  · unfold isP
    rw [show decide (s.length ≤ 32) = false from decide_eq_false qo]; simp
  · simp [isP]
  · simp [isP]
theorem isP_go {s : Bs} (h1 : ¬ s = []) (h2 : s.length ≤ 32) (h3 : ¬ s = [46]) (h4 : ¬ s = [46, 46]) : isP s = (runesP namedP s).isSome := by
  have : 1 ≤ s.length := by
    cases s with
    | nil => exact absurd rfl h1
    | cons a l => simp
  simp [isP, this, h2, h3, h4]
def b64 : SC := (.seq (.ops [⟨some 2, .mov (.c (.bool false)), none⟩]) (.seq (.ops [⟨some 3, .mov (.t 0), none⟩, ⟨some 4, .bin (.geq) (.other) (.t 3) (.c (.int (.i32) 32)), none⟩, ⟨some 5, .mov (.t 4), none⟩, ⟨some 6, .mov (.t 0), some (5, true)⟩, ⟨some 7, .bin (.neq) (.other) (.t 6) (.c (.int (.i32) 127)), some (5, true)⟩, ⟨some 8, .pick (.t 5) (.t 7) (.c (.bool false)), none⟩, ⟨some 9, .mov (.t 8), none⟩, ⟨some 10, .mov (.t 0), some (9, true)⟩, ⟨some 11, .bin (.neq) (.other) (.t 10) (.c (.int (.i32) 47)), some (9, true)⟩, ⟨some 12, .pick (.t 9) (.t 11) (.c (.bool false)), none⟩, ⟨some 2, .mov (.t 12), none⟩]) .ret))
theorem t64 : tab 64 = some ⟨13, [.tmp 2], b64⟩ := rfl
theorem name_named (r : Nat) (h : Heap) : Runs (xcall X1 tab (.fn 64) [.int .i32 (r : Nat)] h) fun v h' => v = .bool (namedP r) ∧ h = h' := by
  refine Runs.intro fun K hK => ?_
  rw [w_fn rfl t64 (Nat.le_of_ble_eq_true rfl)]
  delta b64
  repeat' (first
    | simp (disch := first | exact qd | fail) only [WB, ↓WP, ↓WL, WR, WC, if_true, if_false, ite_true, ite_false, aop, ev, evs, readsA, List.replicate, numF, unA, resA, tupA, loadA, storeA, splice, fillA, kindsOk, plainEq, ↓reduceIte, Nat.reduceEqDiff, Nat.reduceLT, Int.reduceToNat, Int.reduceBEq, Int.reduceBNe, Nat.reduceAdd, Nat.reduceMul, Nat.reduceLeDiff, Int.reduceLT, Int.reduceSub, Int.reduceAdd]
    | ((first | refine atC ?_ ?_ | refine atG ?_ ?_ | refine atH ?_ ?_ | refine atP ?_ ?_) <;> intro hc <;> (try rw [hc]) <;> (try simp only [BD] at hc) <;> try (exfalso; omega)))
  all_goals try (first
    | (refine hK _ _ ?_; (refine ⟨?_, rfl⟩; congr 1; unfold namedP; (first | (rw [Bool.eq_iff_iff]; simp; omega) | (symm; simp; omega) | (simp; omega) | fail)); done)
    | fail)
def L63_0 : SC := (.seq (.ops [⟨some 12, .nextStr (.t 11), none⟩, ⟨some 13, .extract (.t 12) 0, none⟩]) (.seq (.cond (.t 13) .skip (.exit 0)) (.block 1 (.seq (.ops [⟨some 14, .extract (.t 12) 1, none⟩, ⟨some 15, .extract (.t 12) 2, none⟩, ⟨some 6, .mov (.t 14), none⟩, ⟨some 7, .mov (.t 15), none⟩]) (.seq (.seq (.ops [⟨some 16, .mov (.t 7), none⟩, ⟨some 17, .bin (.eql) (.other) (.t 16) (.c (.int (.i32) 65533)), none⟩]) (.cond (.t 17) (.seq (.ops [⟨some 19, .mov (.t 0), none⟩, ⟨some 20, .mov (.t 6), none⟩, ⟨some 21, .sliceStr (.t 19) (some (.t 20)) none, none⟩, ⟨some 22, .call 72 [.t 21], none⟩, ⟨some 18, .mov (.t 22), none⟩, ⟨some 23, .extract (.t 18) 0, none⟩, ⟨some 24, .extract (.t 18) 1, none⟩, ⟨some 8, .mov (.t 23), none⟩, ⟨some 9, .mov (.t 24), none⟩]) (.seq (.ops [⟨some 25, .mov (.t 9), none⟩, ⟨some 26, .bin (.lss) (.other) (.t 25) (.c (.int (.i64) 2)), none⟩]) (.cond (.t 26) (.seq (.ops [⟨some 4, .mov (.c (.int (.i64) 0)), none⟩, ⟨some 5, .mov (.c (.bool false)), none⟩]) .ret) .skip))) .skip)) (.seq (.seq (.ops [⟨some 27, .mov (.t 1), none⟩, ⟨some 28, .mov (.t 7), none⟩, ⟨some 29, .callV (.t 27) [.t 28], none⟩, ⟨some 30, .un (.not) (.t 29), none⟩]) (.cond (.t 30) (.seq (.ops [⟨some 4, .mov (.c (.int (.i64) 0)), none⟩, ⟨some 5, .mov (.c (.bool false)), none⟩]) .ret) .skip)) (.ops [⟨some 31, .mov (.t 4), none⟩, ⟨some 32, .bin (.add) (.other) (.t 31) (.c (.int (.i64) 1)), none⟩, ⟨some 4, .mov (.t 32), none⟩])))))))
def b63 : SC := (.seq (.ops [⟨some 4, .mov (.c (.int (.i64) 0)), none⟩, ⟨some 5, .mov (.c (.bool false)), none⟩]) (.seq (.seq (.ops [⟨some 10, .mov (.t 0), none⟩, ⟨some 11, .rangeStr (.t 10), none⟩]) (.block 0 (.loop L63_0))) (.seq (.ops [⟨some 33, .mov (.t 4), none⟩, ⟨some 4, .mov (.t 33), none⟩, ⟨some 5, .mov (.c (.bool true)), none⟩]) .ret)))
theorem t63 : tab 63 = some ⟨34, [.tmp 4, .tmp 5], b63⟩ := rfl
theorem name_runesN (s : Bs) (hy : Bytes s) (hl : s.length ≤ 9223372036854775807) (h : Heap) : Runs (xcall X1 tab (.fn 63) [.str s, .func 64 [] []] h) fun v h' => v = .tuple [.int .i64 ((runesP namedP s).getD 0 : Nat), .bool (runesP namedP s).isSome] ∧ Grow h h' := by
  refine Runs.intro fun K hK => ?_
  rw [w_fn rfl t63 (Nat.le_of_ble_eq_true rfl)]
  delta b63
  repeat' (first
    | simp (disch := first | exact qd | fail) only [WB, ↓WP, ↓WL, WR, WC, if_true, if_false, ite_true, ite_false, aop, ev, evs, readsA, List.replicate, numF, unA, resA, tupA, loadA, storeA, splice, fillA, kindsOk, plainEq, ↓reduceIte, Nat.reduceEqDiff, Nat.reduceLT, Int.reduceToNat, Int.reduceBEq, Int.reduceBNe, Nat.reduceAdd, Nat.reduceMul, Nat.reduceLeDiff, Int.reduceLT, Int.reduceSub, Int.reduceAdd, dec_rawR, decA_rule, raw_asm, tk_all]
    | ((first | refine atC ?_ ?_ | refine atG ?_ ?_ | refine atH ?_ ?_ | refine atP ?_ ?_) <;> intro hc <;> (try rw [hc]) <;> (try simp only [BD] at hc) <;> try (exfalso; omega)))
  all_goals try (first
    | (refine hK _ _ ?_; (first | (have q := run_some (run_done hr qo); exact ⟨by rw [q.2, ← q.1], qg⟩) | (have q := run_none (run_bad hr qo hp); exact ⟨by rw [q.2, ← q.1], qg⟩) | (have q := run_none (run_no hr qo ha (by assumption)); exact ⟨by rw [q.2, ← q.1], qg⟩) | fail); done)
    | fail)
  all_goals
    refine wloop (α := Nat × Nat) [0, 1, 11] (fun x => [(4, .int .i64 (x.2 : Nat))]) (fun x H => H.get h.next = some (.striter s x.1) ∧ Grow h H ∧ h.next < H.next ∧ x.1 ≤ s.length ∧ runesP namedP s = (runesP namedP (s.drop x.1)).map (· + x.2) ∧ x.2 ≤ x.1) (fun x => s.length - x.1) ?_ ((0, 0)) ?_ ?_
    rotate_left
    · exact qf
    · (try dsimp only)
      exact ⟨ga_new rfl, Grow.alloc _ _, by simp, by omega, by simp, by omega⟩
    intro x b1 H hI ih
    obtain ⟨k, n⟩ := x
    try dsimp only at hI
    obtain ⟨hit, g, hn, hk, hr, hnk⟩ := hI
    try have gn := g.1
    refine w_unfold (by delta L63_0; rfl) ?_
    simp only [keeps_nil, keeps_cons, List.cons_append, List.nil_append, lk_cons, lk_nil, numF, Nat.reduceEqDiff, Nat.reduceAdd, Nat.zero_add, ↓reduceIte]
    repeat' (first
      | simp (disch := first | exact qd | fail) only [WB, ↓WP, ↓WL, WR, WC, if_true, if_false, ite_true, ite_false, aop, ev, evs, readsA, List.replicate, numF, unA, resA, tupA, loadA, storeA, splice, fillA, kindsOk, plainEq, ↓reduceIte, Nat.reduceEqDiff, Nat.reduceLT, Int.reduceToNat, Int.reduceBEq, Int.reduceBNe, Nat.reduceAdd, Nat.reduceMul, Nat.reduceLeDiff, Int.reduceLT, Int.reduceSub, Int.reduceAdd, dec_rawR, decA_rule, raw_asm, tk_all]
      | ((first | refine atC ?_ ?_ | refine atG ?_ ?_ | refine atH ?_ ?_ | refine atP ?_ ?_) <;> intro hc <;> (try rw [hc]) <;> (try simp only [BD] at hc) <;> try (exfalso; omega))
      | (refine atIte (fun hc => ?_) (fun hc => ?_); rcases raw_cases (s.drop k) with ⟨hp, hraw⟩ | ⟨r, w, ha⟩; rotate_left; (have hraw := ha.raw; have hwp := ha.pos; have hw4 := ha.four; have hwl := ha.len (by rw [List.length_drop]; omega); rw [List.length_drop] at hwl; have htop := ha.top; have hone := one_or ha))
      | ((first
        | (refine Runs.call (dec_r _ _) ?_; rintro _ _ ⟨rfl, rfl⟩)
        | (refine Runs.call (name_named _ _) ?_; rintro _ _ ⟨rfl, rfl⟩)
        | fail); all_goals ((try (have gn := gr.1; try simp only [nx_alloc, nx_set] at gn)); (try (have an := ha.num; try simp only [nx_alloc, nx_set, own_sl, own_nil] at an)); (try (have on := hO.num; try simp only [nx_alloc, nx_set] at on)); (try (have kn := hk.1; try simp only [nx_alloc, nx_set] at kn)); try have hB := hO.at)))
    all_goals try (first
      | exact ih ((k + w, n + 1)) _ _ _ (by ((try dsimp only); omega)) qf (by ((try dsimp only); (first | (exact ⟨qs, qg, by (simp only [nx_set]; omega), by omega, run_next hr qo ha (by first | rfl | assumption | fail), by omega⟩) | fail)))
      | (refine hK _ _ ?_; (first | (have q := run_some (run_done hr qo); exact ⟨by rw [q.2, ← q.1], qg⟩) | (have q := run_none (run_bad hr qo hp); exact ⟨by rw [q.2, ← q.1], qg⟩) | (have q := run_none (run_no hr qo ha (by assumption)); exact ⟨by rw [q.2, ← q.1], qg⟩) | fail); done)
      | fail)
def b45 : SC := (.seq (.ops [⟨some 2, .mov (.c (.bool false)), none⟩]) (.seq (.seq (.ops [⟨some 5, .mov (.t 0), none⟩, ⟨some 6, .bin (.eql) (.str) (.t 5) (.c (.str [])), none⟩, ⟨some 7, .mov (.t 6), none⟩, ⟨some 8, .mov (.t 0), some (7, false)⟩, ⟨some 9, .len (.str) (.t 8), some (7, false)⟩, ⟨some 10, .bin (.gtr) (.other) (.t 9) (.c (.int (.i64) 32)), some (7, false)⟩, ⟨some 11, .pick (.t 7) (.c (.bool true)) (.t 10), none⟩, ⟨some 12, .mov (.t 11), none⟩, ⟨some 13, .mov (.t 0), some (12, false)⟩, ⟨some 14, .bin (.eql) (.str) (.t 13) (.c (.str [46])), some (12, false)⟩, ⟨some 15, .pick (.t 12) (.c (.bool true)) (.t 14), none⟩, ⟨some 16, .mov (.t 15), none⟩, ⟨some 17, .mov (.t 0), some (16, false)⟩, ⟨some 18, .bin (.eql) (.str) (.t 17) (.c (.str [46, 46])), some (16, false)⟩, ⟨some 19, .pick (.t 16) (.c (.bool true)) (.t 18), none⟩]) (.cond (.t 19) (.seq (.ops [⟨some 2, .mov (.c (.bool false)), none⟩]) .ret) .skip)) (.seq (.ops [⟨some 21, .mov (.t 0), none⟩, ⟨some 22, .call 63 [.t 21, .c (.func 64 [] [])], none⟩, ⟨some 20, .mov (.t 22), none⟩, ⟨some 23, .extract (.t 20) 0, none⟩, ⟨some 24, .extract (.t 20) 1, none⟩, ⟨some 3, .mov (.t 23), none⟩, ⟨some 4, .mov (.t 24), none⟩]) (.seq (.ops [⟨some 25, .mov (.t 4), none⟩, ⟨some 2, .mov (.t 25), none⟩]) .ret))))
theorem t45 : tab 45 = some ⟨26, [.tmp 2], b45⟩ := rfl
theorem name_Is (s : Bs) (hy : Bytes s) (h : Heap) : Runs (xcall X1 tab (.fn 45) [.str s] h) fun v h' => v = .bool (isP s) ∧ Grow h h' := by
  refine Runs.intro fun K hK => ?_
  rw [w_fn rfl t45 (Nat.le_of_ble_eq_true rfl)]
  delta b45
  repeat' (first
    | simp (disch := first | exact qd | fail) only [WB, ↓WP, ↓WL, WR, WC, if_true, if_false, ite_true, ite_false, aop, ev, evs, readsA, List.replicate, numF, unA, resA, tupA, loadA, storeA, splice, fillA, kindsOk, plainEq, ↓reduceIte, Nat.reduceEqDiff, Nat.reduceLT, Int.reduceToNat, Int.reduceBEq, Int.reduceBNe, Nat.reduceAdd, Nat.reduceMul, Nat.reduceLeDiff, Int.reduceLT, Int.reduceSub, Int.reduceAdd]
    | ((first | refine atC ?_ ?_ | refine atG ?_ ?_ | refine atH ?_ ?_ | refine atP ?_ ?_) <;> intro hc <;> (try rw [hc]) <;> (try simp only [BD] at hc) <;> try (exfalso; omega))
    | ((first
      | (refine Runs.call (name_runesN s hy qo _) ?_; rintro _ _ ⟨rfl, gr⟩)
      | fail); all_goals ((try (have gn := gr.1; try simp only [nx_alloc, nx_set] at gn)); (try (have an := ha.num; try simp only [nx_alloc, nx_set, own_sl, own_nil] at an)); (try (have on := hO.num; try simp only [nx_alloc, nx_set] at on)); (try (have kn := hk.1; try simp only [nx_alloc, nx_set] at kn)); try have hB := hO.at)))
  all_goals try (first
    | (refine hK _ _ ?_; (first | exact ⟨by rw [isP_no (.inl (by assumption))], qg⟩ | exact ⟨by rw [isP_no (.inr (.inl qo))], qg⟩ | exact ⟨by rw [isP_no (.inr (.inr (.inl (by assumption))))], qg⟩ | exact ⟨by rw [isP_no (.inr (.inr (.inr (by assumption))))], qg⟩ | exact ⟨by rw [isP_go (by assumption) qo (by assumption) (by assumption)], qg⟩ | fail); done)
    | fail)
def L46_0 : SC := (.seq (.seq (.ops [⟨some 22, .mov (.t 3), none⟩, ⟨some 23, .mov (.t 0), none⟩, ⟨some 24, .len (.str) (.t 23), none⟩, ⟨some 25, .bin (.lss) (.other) (.t 22) (.t 24), none⟩]) (.cond (.t 25) .skip (.exit 0))) (.seq (.block 1 (.seq (.ops [⟨some 28, .mov (.t 0), none⟩, ⟨some 29, .mov (.t 3), none⟩, ⟨some 30, .idxStr (.t 28) (.t 29), none⟩, ⟨some 31, .bin (.lss) (.other) (.t 30) (.c (.int (.u8) 32)), none⟩, ⟨some 32, .mov (.t 31), none⟩, ⟨some 33, .mov (.t 0), some (32, false)⟩, ⟨some 34, .mov (.t 3), some (32, false)⟩, ⟨some 35, .idxStr (.t 33) (.t 34), some (32, false)⟩, ⟨some 36, .bin (.eql) (.other) (.t 35) (.c (.int (.u8) 127)), some (32, false)⟩, ⟨some 37, .pick (.t 32) (.c (.bool true)) (.t 36), none⟩, ⟨some 38, .mov (.t 37), none⟩, ⟨some 39, .mov (.t 0), some (38, false)⟩, ⟨some 40, .mov (.t 3), some (38, false)⟩, ⟨some 41, .idxStr (.t 39) (.t 40), some (38, false)⟩, ⟨some 42, .bin (.eql) (.other) (.t 41) (.c (.int (.u8) 47)), some (38, false)⟩, ⟨some 43, .pick (.t 38) (.c (.bool true)) (.t 42), none⟩]) (.cond (.t 43) (.seq (.ops [⟨some 2, .mov (.c (.bool false)), none⟩]) .ret) .skip))) (.ops [⟨some 26, .mov (.t 3), none⟩, ⟨some 27, .bin (.add) (.other) (.t 26) (.c (.int (.i64) 1)), none⟩, ⟨some 3, .mov (.t 27), none⟩])))
def b46 : SC := (.seq (.ops [⟨some 2, .mov (.c (.bool false)), none⟩]) (.seq (.seq (.ops [⟨some 6, .mov (.t 0), none⟩, ⟨some 7, .len (.str) (.t 6), none⟩, ⟨some 8, .bin (.lss) (.other) (.t 7) (.c (.int (.i64) 1)), none⟩, ⟨some 9, .mov (.t 8), none⟩, ⟨some 10, .mov (.t 0), some (9, false)⟩, ⟨some 11, .len (.str) (.t 10), some (9, false)⟩, ⟨some 12, .bin (.gtr) (.other) (.t 11) (.c (.int (.i64) 32)), some (9, false)⟩, ⟨some 13, .pick (.t 9) (.c (.bool true)) (.t 12), none⟩, ⟨some 14, .mov (.t 13), none⟩, ⟨some 15, .mov (.t 0), some (14, false)⟩, ⟨some 16, .bin (.eql) (.str) (.t 15) (.c (.str [46])), some (14, false)⟩, ⟨some 17, .pick (.t 14) (.c (.bool true)) (.t 16), none⟩, ⟨some 18, .mov (.t 17), none⟩, ⟨some 19, .mov (.t 0), some (18, false)⟩, ⟨some 20, .bin (.eql) (.str) (.t 19) (.c (.str [46, 46])), some (18, false)⟩, ⟨some 21, .pick (.t 18) (.c (.bool true)) (.t 20), none⟩]) (.cond (.t 21) (.seq (.ops [⟨some 2, .mov (.c (.bool false)), none⟩]) .ret) .skip)) (.seq (.seq (.ops [⟨some 3, .mov (.c (.int (.i64) 0)), none⟩]) (.block 0 (.loop L46_0))) (.seq (.ops [⟨some 45, .mov (.t 0), none⟩, ⟨some 46, .call 65 [.t 45], none⟩, ⟨some 44, .mov (.t 46), none⟩, ⟨some 47, .extract (.t 44) 0, none⟩, ⟨some 48, .extract (.t 44) 1, none⟩, ⟨some 4, .mov (.t 47), none⟩, ⟨some 5, .mov (.t 48), none⟩]) (.seq (.ops [⟨some 49, .mov (.t 5), none⟩, ⟨some 2, .mov (.t 49), none⟩]) .ret)))))
theorem t46 : tab 46 = some ⟨50, [.tmp 2], b46⟩ := rfl
end Go.Proofs.YtdmabiefaeidmaaDoor.Ya
