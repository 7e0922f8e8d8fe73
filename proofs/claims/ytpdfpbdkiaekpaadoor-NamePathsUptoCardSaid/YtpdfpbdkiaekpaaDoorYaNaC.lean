/-
  Names: paths and their names.
-/
import Derived.Test.YtpdfpbdkiaekpaaDoorYaNaB
import Derived.Test.YtpdfpbdkiaekpaaDoorYbL
namespace Go.Proofs.YtpdfpbdkiaekpaaDoor.Ya
open Go.Ya Go.Ya.Na
set_option linter.unusedVariables false
set_option linter.unusedSimpArgs false
set_option maxRecDepth 100000
set_option maxHeartbeats 8000000

def encT (s : Bs) : List AV := [.str s]
theorem encT_def (s : Bs) : encT s = [.str s] := rfl
theorem encT_len (s : Bs) : (encT s).length = 1 := rfl
abbrev TAt (h : Heap) (v : AV) (l : List Bs) : Prop := Rd 1 h v (l.map encT)
def AllY (l : List Bs) : Prop := ∀ p ∈ l, Bytes p
theorem AllY.at {l : List Bs} (h : AllY l) (i : Nat) : Bytes (l.getD i default) := by
  by_cases hi : i < l.length
  · rw [List.getD_eq_getElem?_getD, List.getElem?_eq_getElem hi]; exact h _ (List.getElem_mem hi)
  · rw [List.getD_eq_getElem?_getD, List.getElem?_eq_none qo]
    exact fun x hx => nomatch hx
theorem encT_flat (l : List Bs) : (l.map encT).flatten = l.map AV.str := by
  induction l with
  | nil => rfl
  | cons a l ih => rw [List.map_cons, List.flatten_cons, ih]; rfl
theorem pre_bytes {p : Bs} {l : List Bs} (hp : Bytes p) (h : AllY l) : AllY (preP p l) := by
  cases l with
  | nil => intro x hx; simp only [preP, List.mem_singleton] at hx; subst hx; exact hp
  | cons q qs =>
    intro x hx
    simp only [preP, List.mem_cons] at hx
    rcases hx with rfl | hx
    · exact fun b hb => (List.mem_append.1 hb).elim (hp b) (h q (by simp) b)
    · exact h x (List.mem_cons_of_mem _ hx)
theorem parts_bytes : ∀ {s : Bs}, Bytes s → AllY (partsP s)
  | [], _ => fun x hx => by simp only [partsP, List.mem_singleton] at hx; subst hx; exact fun b hb => nomatch hb
  | c :: r, h => by
    have ih := parts_bytes (s := r) (fun b hb => h b (List.mem_cons_of_mem _ hb))
    by_cases hc : c = 47
    · subst hc
      rw [partsP, if_pos rfl]
      intro x hx
      rcases List.mem_cons.1 hx with rfl | hx
      · exact fun b hb => nomatch hb
      · exact ih x hx
    · rw [parts_cons hc]
      exact pre_bytes (fun b hb => by simp only [List.mem_singleton] at hb; subst hb; exact h b (by simp)) ih
theorem cnt_r (s : Bs) (h : Heap) : Runs (xcall X1 tab (.fn 35) [.str s, .str [47]] h) fun v h' => v = .int .i64 (s.count 47 : Nat) ∧ h = h' := Runs.eq (ofRun (n := 1) rfl)
theorem idx_r (s : Bs) (h : Heap) : Runs (xcall X1 tab (.fn 36) [.str s, .str [47]] h) fun v h' => v = .int .i64 (idxA s 47) ∧ h = h' := Runs.eq (ofRun (n := 1) rfl)
theorem join_run {l : List Bs} {h : Heap} {V : AV} (hV : TAt h V l) (h1 : 0 < l.length) (h2 : l.length ≤ 1000000) (h3 : (joinI l).length ≤ 140737488355328) : xcall X1 tab (.fn 27) [V, .str [47]] h = some (.str (joinI l), h) := by
  have hf := hV.first
  rcases hV.2 with ⟨rfl, e⟩ | ⟨id, off, cap, ex, c, ro, rfl, _⟩
  · have : l = [] := by simpa using e
    subst this; simp at h1
  rw [encT_flat, List.length_map] at hf
  have e : joinK 27 27 [.slice id off l.length cap ex 1, .str [47]] h = some (.str (joinI l), h) := by
    unfold joinK
    rw [if_pos rfl]
    have q : firstA h 1 l.length (.slice id off l.length cap ex 1) = some (l.map AV.str) := by
      first | exact hf | (rw [List.length_map] at hf; exact hf)
    simp only [q, strsA_map]
    rw [if_pos ⟨h1, by omega, h3⟩]
  rw [List.length_map]
  refine ofRun (n := 1) ?_
  show (match joinK 27 27 [.slice id off l.length cap ex 1, .str [47]] h with | some r => some r | none => _) = _
  rw [e]
theorem idx_pos {t : Bs} (h : 0 < t.count 47) : 0 ≤ idxA t 47 ∧ (idxA t 47).toNat < t.length ∧ partsP t = t.take (idxA t 47).toNat :: partsP (t.drop ((idxA t 47).toNat + 1)) ∧ (t.drop ((idxA t 47).toNat + 1)).count 47 + 1 = t.count 47 := by
  have hb := idxA_bound 47 t
  have hne : idxA t 47 ≠ -1 := fun e => by
    have := parts_len t
    rw [(parts_idx t).1 e] at this
    simp at this; omega
  have e := (parts_idx t).2 hne
  have hl := congrArg List.length e
  rw [List.length_cons, parts_len, parts_len] at hl
  have hlt : ∀ t : Bs, idxA t 47 ≠ -1 → idxA t 47 < t.length := by
    intro t
    induction t with
    | nil => intro q; exact absurd rfl q
    | cons c r ih =>
      intro q
      simp only [idxA] at q ⊢
      split
      · simp only [List.length_cons]; omega
      · rename_i hc
        rw [if_neg hc] at q
        split
        · rename_i hr; rw [if_pos hr] at q; exact absurd rfl q
        · rename_i hr
          have := ih hr
          simp only [List.length_cons]; omega
  have := hlt t hne
  exact ⟨by omega, by omega, e, by omega⟩
theorem idx_m {t : Bs} (h : 0 < t.count 47) : ∃ m : Nat, idxA t 47 = m ∧ m < t.length ∧ partsP t = t.take m :: partsP (t.drop (m + 1)) ∧ (t.drop (m + 1)).count 47 + 1 = t.count 47 := by
  obtain ⟨h1, h2, h3, h4⟩ := idx_pos h
  exact ⟨(idxA t 47).toNat, (Int.toNat_of_nonneg h1).symm, h2, h3, h4⟩
theorem idx_none {t : Bs} (h : t.count 47 = 0) : partsP t = [t] := by
  by_cases e : idxA t 47 = -1
  · exact (parts_idx t).1 e
  · have e := (parts_idx t).2 e
    have hl := congrArg List.length e
    rw [List.length_cons, parts_len, parts_len] at hl
    omega
theorem spl_at {p : List Bs} {i k : Nat} {x : Bs} (hp : p.length = i) (hk : 0 < k) : (p.map AV.str ++ List.replicate k (AV.str [])).take i ++ AV.str x :: (p.map AV.str ++ List.replicate k (AV.str [])).drop (i + 1) = (p ++ [x]).map AV.str ++ List.replicate (k - 1) (AV.str []) := by
  have e1 : (p.map AV.str ++ List.replicate k (AV.str [])).take i = p.map AV.str := List.take_left' (by simpa using hp)
  have e2 : (p.map AV.str ++ List.replicate k (AV.str [])).drop (i + 1) = List.replicate (k - 1) (AV.str []) := by
    rw [List.drop_append, List.drop_of_length_le (by simp; omega), List.nil_append, List.drop_replicate]
    congr 1
    simp; omega
  rw [e1, e2]; simp
theorem rd_of {p : List Bs} {H : Heap} {id n : Nat} {ex : Bool} {k : Nat} (h : H.get id = some (.cells (p.map AV.str ++ List.replicate k (.str [])) false)) (hn : n = p.length) {cap : Nat} : TAt H (.slice id 0 n cap ex 1) p := by
  subst hn
  refine ⟨fun r hr => by obtain ⟨a, _, rfl⟩ := List.mem_map.1 hr; rfl, .inr ⟨id, 0, cap, ex, _, false, by rw [List.length_map], h, ?_, ?_⟩⟩
  · simp
  · rw [List.length_map, encT_flat, List.drop_zero, Nat.mul_one]
    exact List.take_left' (by simp)
def errPath (s : Bs) : Int := if s = [] then 0 else if allP (partsP s) = false then 5 else if 4 < (partsP s).length then 3 else 0
def resPath (s : Bs) : List Bs := if s = [] then [] else if allP (partsP s) = false then [] else if 4 < (partsP s).length then [] else partsP s
def errW (l : List Bs) : Int := if mayP l = true then 0 else 2
def resW (l : List Bs) : Bs := if mayP l = true then joinI l else []
theorem resPath_len (s : Bs) : (resPath s).length ≤ 4 := by
  unfold resPath
  split
  · simp
  · split
    · simp
    · split
      · simp
      · omega
theorem resPath_bytes {s : Bs} (h : Bytes s) : AllY (resPath s) := by
  unfold resPath
  repeat' split
  all_goals first | exact parts_bytes h | exact fun x hx => nomatch hx
theorem resPath_err {s : Bs} (h : ¬ errPath s = 0) : (resPath s).length = 0 := by
  unfold errPath at h
  unfold resPath
  repeat' split
  all_goals first | rfl | (simp_all; done) | omega
theorem allP_at {l : List Bs} {i : Nat} (h : ∀ j, j < l.length → isP (l.getD j default) = true) : allP l = true := by
  unfold allP
  rw [List.all_eq_true]
  intro x hx
  obtain ⟨j, hj, rfl⟩ := List.getElem_of_mem hx
  have := h j hj
  rwa [List.getD_eq_getElem?_getD, List.getElem?_eq_getElem hj] at this
theorem allP_no {l : List Bs} {i : Nat} (hi : i < l.length) (h : isP (l.getD i default) = false) : allP l = false := by
  unfold allP
  rw [List.all_eq_false]
  exact ⟨l.getD i default, by rw [List.getD_eq_getElem?_getD, List.getElem?_eq_getElem hi]; exact List.getElem_mem hi, by rw [h]; decide⟩
theorem back1 {l : List Bs} (hy : AllY l) (h : mayP l = true) : errPath (joinI l) = 0 ∧ resPath (joinI l) = l := by
  unfold mayP at h
  simp only [Bool.and_eq_true, decide_eq_true_eq] at h
  cases l with
  | nil => exact ⟨rfl, rfl⟩
  | cons p r =>
    have hs : ∀ q ∈ p :: r, ∀ b ∈ q, b ≠ 47 := fun q hq => isP_slash (hy q hq) (by
      have := h.2
      unfold allP at this
      rw [List.all_eq_true] at this
      exact this q hq)
    have e := parts_join (l := p :: r) (fun e => nomatch e) hs
    have hne : joinI (p :: r) ≠ [] := fun e => by
      have hp := h.2
      unfold allP at hp
      rw [List.all_cons, Bool.and_eq_true] at hp
      have := (isP_len hp.1).1
      have h2 : (joinI (p :: r)).length = 0 := by rw [e]; rfl
      simp only [joinI, List.length_append] at h2
      omega
    unfold errPath resPath
    rw [e]
    simp only [hne, h.2, if_false, Bool.true_eq_false, show ¬ 4 < (p :: r).length by omega, and_self]
theorem back2 {s : Bs} (h : errPath s = 0) : mayP (resPath s) = true ∧ joinI (resPath s) = s := by
  unfold errPath at h
  unfold resPath mayP
  split
  · rename_i e; rw [e]; exact ⟨rfl, rfl⟩
  · rename_i e
    rw [if_neg e] at h
    split
    · rename_i q; rw [if_pos q] at h; cases h
    · rename_i q
      rw [if_neg q] at h
      split
      · rename_i k; rw [if_pos k] at h; cases h
      · rename_i k
        refine ⟨?_, join_parts s⟩
        simp only [Bool.and_eq_true, decide_eq_true_eq]
        exact ⟨by omega, by simpa using q⟩
theorem texts_eq {l m : List Bs} (h : l.length = m.length) (hj : ∀ j, j < l.length → l.getD j default = m.getD j default) : l = m := by
  apply List.ext_getElem h
  intro i h1 h2
  have := hj i h1
  rwa [List.getD_eq_getElem?_getD, List.getElem?_eq_getElem h1, List.getD_eq_getElem?_getD, List.getElem?_eq_getElem h2] at this
theorem mn_l {a b : Nat} (h : a ≤ b) : min a b = a := Nat.min_eq_left h
def b24 : SC := (.seq (.ops [⟨some 4, .mov (.c (.nilsl)), none⟩]) (.seq (.ops [⟨some 5, .mov (.t 0), none⟩, ⟨some 6, .mov (.t 1), none⟩, ⟨some 7, .call 29 [.t 5, .t 6, .c (.int (.i64) 0), .c (.int (.i64) (-1))], none⟩, ⟨some 4, .mov (.t 7), none⟩]) .ret))
theorem t24 : tab 24 = some ⟨8, [.tmp 4], b24⟩ := rfl
def L29_0 : SC := (.seq (.seq (.ops [⟨some 34, .mov (.t 10), none⟩, ⟨some 35, .mov (.t 3), none⟩, ⟨some 36, .bin (.lss) (.other) (.t 34) (.t 35), none⟩]) (.cond (.t 36) .skip (.exit 0))) (.block 1 (.seq (.ops [⟨some 37, .mov (.t 0), none⟩, ⟨some 38, .mov (.t 1), none⟩, ⟨some 39, .call 36 [.t 37, .t 38], none⟩, ⟨some 11, .mov (.t 39), none⟩]) (.seq (.seq (.ops [⟨some 40, .mov (.t 11), none⟩, ⟨some 41, .bin (.lss) (.other) (.t 40) (.c (.int (.i64) 0)), none⟩]) (.cond (.t 41) (.exit 0) .skip)) (.seq (.ops [⟨some 42, .mov (.t 9), none⟩, ⟨some 43, .mov (.t 10), none⟩, ⟨some 44, .mov (.t 0), none⟩, ⟨some 45, .mov (.t 11), none⟩, ⟨some 46, .mov (.t 2), none⟩, ⟨some 47, .bin (.add) (.other) (.t 45) (.t 46), none⟩, ⟨some 48, .sliceStr (.t 44) none (some (.t 47)), none⟩, ⟨some 49, .idxAddrSl 1 (.t 42) (.t 43), none⟩, ⟨none, .store 1 (.t 49) (.t 48), none⟩]) (.seq (.ops [⟨some 50, .mov (.t 0), none⟩, ⟨some 51, .mov (.t 11), none⟩, ⟨some 52, .mov (.t 1), none⟩, ⟨some 53, .len (.str) (.t 52), none⟩, ⟨some 54, .bin (.add) (.other) (.t 51) (.t 53), none⟩, ⟨some 55, .sliceStr (.t 50) (some (.t 54)) none, none⟩, ⟨some 0, .mov (.t 55), none⟩]) (.ops [⟨some 56, .mov (.t 10), none⟩, ⟨some 57, .bin (.add) (.other) (.t 56) (.c (.int (.i64) 1)), none⟩, ⟨some 10, .mov (.t 57), none⟩])))))))
def b29 : SC := (.seq (.ops [⟨some 8, .mov (.c (.nilsl)), none⟩]) (.seq (.seq (.ops [⟨some 12, .mov (.t 3), none⟩, ⟨some 13, .bin (.eql) (.other) (.t 12) (.c (.int (.i64) 0)), none⟩]) (.cond (.t 13) (.seq (.ops [⟨some 8, .mov (.c (.nilsl)), none⟩]) .ret) .skip)) (.seq (.seq (.ops [⟨some 14, .mov (.t 1), none⟩, ⟨some 15, .bin (.eql) (.str) (.t 14) (.c (.str [])), none⟩]) (.cond (.t 15) (.seq (.ops [⟨some 16, .mov (.t 0), none⟩, ⟨some 17, .mov (.t 3), none⟩, ⟨some 18, .call 34 [.t 16, .t 17], none⟩, ⟨some 8, .mov (.t 18), none⟩]) .ret) .skip)) (.seq (.seq (.ops [⟨some 19, .mov (.t 3), none⟩, ⟨some 20, .bin (.lss) (.other) (.t 19) (.c (.int (.i64) 0)), none⟩]) (.cond (.t 20) (.ops [⟨some 21, .mov (.t 0), none⟩, ⟨some 22, .mov (.t 1), none⟩, ⟨some 23, .call 35 [.t 21, .t 22], none⟩, ⟨some 24, .bin (.add) (.other) (.t 23) (.c (.int (.i64) 1)), none⟩, ⟨some 3, .mov (.t 24), none⟩]) .skip)) (.seq (.ops [⟨some 25, .mov (.t 3), none⟩, ⟨some 26, .mov (.t 0), none⟩, ⟨some 27, .len (.str) (.t 26), none⟩, ⟨some 28, .bin (.add) (.other) (.t 27) (.c (.int (.i64) 1)), none⟩, ⟨some 29, .min (.t 25) [.t 28], none⟩, ⟨some 3, .mov (.t 29), none⟩]) (.seq (.ops [⟨some 30, .mov (.t 3), none⟩, ⟨some 31, .mkSlice [.str []] 1 16 (.t 30) (.t 30), none⟩, ⟨some 9, .mov (.t 31), none⟩]) (.seq (.ops [⟨some 32, .mov (.t 3), none⟩, ⟨some 33, .bin (.sub) (.other) (.t 32) (.c (.int (.i64) 1)), none⟩, ⟨some 3, .mov (.t 33), none⟩]) (.seq (.ops [⟨some 10, .mov (.c (.int (.i64) 0)), none⟩]) (.seq (.block 0 (.loop L29_0)) (.seq (.ops [⟨some 58, .mov (.t 9), none⟩, ⟨some 59, .mov (.t 10), none⟩, ⟨some 60, .mov (.t 0), none⟩, ⟨some 61, .idxAddrSl 1 (.t 58) (.t 59), none⟩, ⟨none, .store 1 (.t 61) (.t 60), none⟩]) (.seq (.ops [⟨some 62, .mov (.t 9), none⟩, ⟨some 63, .mov (.t 10), none⟩, ⟨some 64, .bin (.add) (.other) (.t 63) (.c (.int (.i64) 1)), none⟩, ⟨some 65, .slice 1 (.t 62) none (some (.t 64)) none, none⟩, ⟨some 8, .mov (.t 65), none⟩]) .ret)))))))))))
theorem t29 : tab 29 = some ⟨66, [.tmp 8], b29⟩ := rfl
theorem str_genSplit (s : Bs) (hl : s.length ≤ 100000000) (h : Heap) : Runs (xcall X1 tab (.fn 29) [.str s, .str [47], .int .i64 0, .int .i64 (-1)] h) fun v h' => Grow h h' ∧ TAt h' v (partsP s) := by
  refine Runs.intro fun K hK => ?_
  have hcl := List.count_le_length (a := (47 : Int)) (l := s)
  have hpl := parts_len s
  rw [w_fn rfl t29 (Nat.le_of_ble_eq_true rfl)]
  delta b29
  repeat' (first
    | simp (disch := first | exact qd | fail) only [WB, ↓WP, ↓WL, WR, WC, if_true, if_false, ite_true, ite_false, aop, ev, evs, readsA, List.replicate, numF, unA, resA, tupA, loadA, storeA, splice, fillA, kindsOk, plainEq, ↓reduceIte, Nat.reduceEqDiff, Nat.reduceLT, Int.reduceToNat, Int.reduceBEq, Int.reduceBNe, Nat.reduceAdd, Nat.reduceMul, Nat.reduceLeDiff, Int.reduceLT, Int.reduceSub, Int.reduceAdd, mn_l, tk_all, Int.natCast_one, Int.add_zero]
    | ((first | refine atC ?_ ?_ | refine atG ?_ ?_ | refine atH ?_ ?_ | refine atP ?_ ?_) <;> intro hc <;> (try rw [hc]) <;> (try simp only [BD] at hc) <;> try (exfalso; omega))
    | (exact absurd hc (by decide))
    | ((first
      | (refine Runs.call (cnt_r s _) ?_; rintro _ _ ⟨rfl, rfl⟩)
      | fail); all_goals ((try (have gn := gr.1; try simp only [nx_alloc, nx_set] at gn)); (try (have an := ha.num; try simp only [nx_alloc, nx_set, own_sl, own_nil] at an)); (try (have on := hO.num; try simp only [nx_alloc, nx_set] at on)); (try (have kn := hk.1; try simp only [nx_alloc, nx_set] at kn)); try have hB := hO.at)))
  all_goals try (first
    | (refine hK _ _ ?_; (first | (have hpt := idx_none (t := t) qo; exact ⟨qg, by (rw [hs, hpt]; exact rd_of (k := s.count 47 - i) (by rw [gs_new rfl qo]; exact congrArg some (congrArg (AObj.cells · false) ((spl_at hp qo).trans (by congr 2 <;> omega)))) (by simp; omega))⟩) | fail); done)
    | fail)
  all_goals
    refine wloop (α := Bs × Nat × (List Bs)) [1, 2, 3, 9] (fun x => [(0, .str x.1), (10, .int .i64 (x.2.1 : Nat))]) (fun x H => H.get h.next = some (.cells (x.2.2.map AV.str ++ List.replicate (s.count 47 + 1 - x.2.1) (.str [])) false) ∧ Grow h H ∧ h.next < H.next ∧ x.2.2.length = x.2.1 ∧ partsP s = x.2.2 ++ partsP x.1 ∧ x.1.count 47 + x.2.1 = s.count 47 ∧ x.1.length ≤ s.length) (fun x => s.count 47 - x.2.1) ?_ ((s, 0, [])) ?_ ?_
    rotate_left
    · exact qf
    · (try dsimp only)
      exact ⟨by (rw [ga_new rfl]; simp [List.replicate_succ]), Grow.alloc _ _, by simp, rfl, rfl, by omega, by omega⟩
    intro x b1 H hI ih
    obtain ⟨t, i, p⟩ := x
    try dsimp only at hI
    obtain ⟨hg, g, hn, hp, hs, hc, hlt⟩ := hI
    try have gn := g.1
    refine w_unfold (by delta L29_0; rfl) ?_
    simp only [keeps_nil, keeps_cons, List.cons_append, List.nil_append, lk_cons, lk_nil, numF, Nat.reduceEqDiff, Nat.reduceAdd, Nat.zero_add, ↓reduceIte]
    repeat' (first
      | simp (disch := first | exact qd | fail) only [WB, ↓WP, ↓WL, WR, WC, if_true, if_false, ite_true, ite_false, aop, ev, evs, readsA, List.replicate, numF, unA, resA, tupA, loadA, storeA, splice, fillA, kindsOk, plainEq, ↓reduceIte, Nat.reduceEqDiff, Nat.reduceLT, Int.reduceToNat, Int.reduceBEq, Int.reduceBNe, Nat.reduceAdd, Nat.reduceMul, Nat.reduceLeDiff, Int.reduceLT, Int.reduceSub, Int.reduceAdd, mn_l, tk_all, Int.natCast_one, Int.add_zero, hg]
      | ((first | refine atC ?_ ?_ | refine atG ?_ ?_ | refine atH ?_ ?_ | refine atP ?_ ?_) <;> intro hc <;> (try rw [hc]) <;> (try simp only [BD] at hc) <;> try (exfalso; omega))
      | (exact absurd hc (by decide))
      | ((first
        | (refine Runs.call (cnt_r s _) ?_; rintro _ _ ⟨rfl, rfl⟩)
        | (refine Runs.call (idx_r t _) ?_; rintro _ _ ⟨rfl, rfl⟩; obtain ⟨m, hm1, hm2, hm3, hm4⟩ := idx_m (t := t) qo; rw [hm1])
        | fail); all_goals ((try (have gn := gr.1; try simp only [nx_alloc, nx_set] at gn)); (try (have an := ha.num; try simp only [nx_alloc, nx_set, own_sl, own_nil] at an)); (try (have on := hO.num; try simp only [nx_alloc, nx_set] at on)); (try (have kn := hk.1; try simp only [nx_alloc, nx_set] at kn)); try have hB := hO.at)))
    all_goals try (first
      | exact ih ((t.drop (m + 1), i + 1, p ++ [t.take m])) _ _ _ (by ((try dsimp only); omega)) qf (by ((try dsimp only); (first | (exact ⟨by (rw [gs_new rfl hn]; exact congrArg some (congrArg (AObj.cells · false) ((spl_at hp qo).trans (by congr 2 <;> omega)))), qg, (by (simp only [nx_set]; omega)), ql, by (rw [hs, hm3]; simp), by omega, ql⟩) | fail)))
      | (refine hK _ _ ?_; (first | (have hpt := idx_none (t := t) qo; exact ⟨qg, by (rw [hs, hpt]; exact rd_of (k := s.count 47 - i) (by rw [gs_new rfl qo]; exact congrArg some (congrArg (AObj.cells · false) ((spl_at hp qo).trans (by congr 2 <;> omega)))) (by simp; omega))⟩) | fail); done)
      | fail)
theorem str_Split (s : Bs) (hl : s.length ≤ 100000000) (h : Heap) : Runs (xcall X1 tab (.fn 24) [.str s, .str [47]] h) fun v h' => Grow h h' ∧ TAt h' v (partsP s) := by
  refine Runs.intro fun K hK => ?_
  rw [w_fn rfl t24 (Nat.le_of_ble_eq_true rfl)]
  delta b24
  repeat' (first
    | simp (disch := first | exact qd | fail) only [WB, ↓WP, ↓WL, WR, WC, if_true, if_false, ite_true, ite_false, aop, ev, evs, readsA, List.replicate, numF, unA, resA, tupA, loadA, storeA, splice, fillA, kindsOk, plainEq, ↓reduceIte, Nat.reduceEqDiff, Nat.reduceLT, Int.reduceToNat, Int.reduceBEq, Int.reduceBNe, Nat.reduceAdd, Nat.reduceMul, Nat.reduceLeDiff, Int.reduceLT, Int.reduceSub, Int.reduceAdd]
    | ((first | refine atC ?_ ?_ | refine atG ?_ ?_ | refine atH ?_ ?_ | refine atP ?_ ?_) <;> intro hc <;> (try rw [hc]) <;> (try simp only [BD] at hc) <;> try (exfalso; omega))
    | ((first
      | (refine Runs.call (str_genSplit s hl _) ?_; rintro _ _ ⟨gr, hv⟩)
      | fail); all_goals ((try (have gn := gr.1; try simp only [nx_alloc, nx_set] at gn)); (try (have an := ha.num; try simp only [nx_alloc, nx_set, own_sl, own_nil] at an)); (try (have on := hO.num; try simp only [nx_alloc, nx_set] at on)); (try (have kn := hk.1; try simp only [nx_alloc, nx_set] at kn)); try have hB := hO.at)))
  all_goals try (first
    | (refine hK _ _ ?_; exact ⟨qg, hv⟩; done)
    | fail)
def L25_0 : SC := (.seq (.ops [⟨some 8, .bin (.lss) (.other) (.t 7) (.t 6), none⟩]) (.seq (.cond (.t 8) .skip (.exit 0)) (.seq (.block 1 (.seq (.ops [⟨some 9, .idxAddrSl 1 (.t 5) (.t 7), none⟩, ⟨some 10, .load false 1 (.t 9), none⟩, ⟨some 4, .mov (.t 10), none⟩]) (.seq (.ops [⟨some 11, .mov (.t 4), none⟩, ⟨some 12, .call 9 [.t 11], none⟩, ⟨some 13, .un (.not) (.t 12), none⟩]) (.cond (.t 13) (.seq (.ops [⟨some 2, .mov (.c (.bool false)), none⟩]) .ret) .skip)))) (.ops [⟨some 14, .bin (.add) (.other) (.t 7) (.c (.int (.i64) 1)), none⟩, ⟨some 7, .mov (.t 14), none⟩]))))
def b25 : SC := (.seq (.ops [⟨some 2, .mov (.c (.bool false)), none⟩]) (.seq (.seq (.ops [⟨some 5, .mov (.t 0), none⟩, ⟨some 6, .len (.sl) (.t 5), none⟩, ⟨some 7, .mov (.c (.int (.i64) 0)), none⟩]) (.block 0 (.loop L25_0))) (.seq (.ops [⟨some 2, .mov (.c (.bool true)), none⟩]) .ret)))
theorem t25 : tab 25 = some ⟨15, [.tmp 2], b25⟩ := rfl
theorem name_all (l : List Bs) (hy : AllY l) {h : Heap} {V : AV} (hV : TAt h V l) (hl : l.length ≤ 1000000000) : Runs (xcall X1 tab (.fn 25) [V] h) fun v h' => v = .bool (allP l) ∧ Grow h h' := by
  refine Runs.intro fun K hK => ?_
  rw [w_fn rfl t25 (Nat.le_of_ble_eq_true rfl)]
  delta b25
  repeat' (first
    | simp (disch := first | exact qd | fail) only [WB, ↓WP, ↓WL, WR, WC, if_true, if_false, ite_true, ite_false, aop, ev, evs, readsA, List.replicate, numF, unA, resA, tupA, loadA, storeA, splice, fillA, kindsOk, plainEq, ↓reduceIte, Nat.reduceEqDiff, Nat.reduceLT, Int.reduceToNat, Int.reduceBEq, Int.reduceBNe, Nat.reduceAdd, Nat.reduceMul, Nat.reduceLeDiff, Int.reduceLT, Int.reduceSub, Int.reduceAdd, encT_def]
    | ((first | refine atC ?_ ?_ | refine atG ?_ ?_ | refine atH ?_ ?_ | refine atP ?_ ?_) <;> intro hc <;> (try rw [hc]) <;> (try simp only [BD] at hc) <;> try (exfalso; omega)))
  all_goals try (first
    | (refine hK _ _ ?_; (first | exact ⟨by rw [allP_no (i := i) qo (by assumption)], qg⟩ | exact ⟨by rw [allP_at (i := i) (fun j q => hj j qo)], qg⟩ | fail); done)
    | fail)
  all_goals
    refine wloop (α := Nat) [5, 6] (fun x => [(7, .int .i64 (x : Nat))]) (fun x H => Grow h H ∧ x ≤ l.length ∧ ∀ j, j < x → isP (l.getD j default) = true) (fun x => l.length - x) ?_ (0) ?_ ?_
    rotate_left
    · exact qf
    · (try dsimp only)
      exact ⟨qg, by omega, fun j q => absurd q qo⟩
    intro i b1 H hI ih
    try dsimp only at hI
    obtain ⟨g, hi, hj⟩ := hI
    try have gn := g.1
    refine w_unfold (by delta L25_0; rfl) ?_
    simp only [keeps_nil, keeps_cons, List.cons_append, List.nil_append, lk_cons, lk_nil, numF, Nat.reduceEqDiff, Nat.reduceAdd, Nat.zero_add, ↓reduceIte]
    repeat' (first
      | simp (disch := first | exact qd | fail) only [WB, ↓WP, ↓WL, WR, WC, if_true, if_false, ite_true, ite_false, aop, ev, evs, readsA, List.replicate, numF, unA, resA, tupA, loadA, storeA, splice, fillA, kindsOk, plainEq, ↓reduceIte, Nat.reduceEqDiff, Nat.reduceLT, Int.reduceToNat, Int.reduceBEq, Int.reduceBNe, Nat.reduceAdd, Nat.reduceMul, Nat.reduceLeDiff, Int.reduceLT, Int.reduceSub, Int.reduceAdd, encT_def]
      | ((first | refine atC ?_ ?_ | refine atG ?_ ?_ | refine atH ?_ ?_ | refine atP ?_ ?_) <;> intro hc <;> (try rw [hc]) <;> (try simp only [BD] at hc) <;> try (exfalso; omega))
      | ((first
        | (refine Runs.call (name_Is (l.getD i default) (hy.at i) _) ?_; rintro _ _ ⟨rfl, gr⟩)
        | fail); all_goals ((try (have gn := gr.1; try simp only [nx_alloc, nx_set] at gn)); (try (have an := ha.num; try simp only [nx_alloc, nx_set, own_sl, own_nil] at an)); (try (have on := hO.num; try simp only [nx_alloc, nx_set] at on)); (try (have kn := hk.1; try simp only [nx_alloc, nx_set] at kn)); try have hB := hO.at)))
    all_goals try (first
      | exact ih (i + 1) _ _ _ (by ((try dsimp only); omega)) qf (by ((try dsimp only); (first | (exact ⟨qg, by omega, pre_succ hj (by assumption)⟩) | fail)))
      | (refine hK _ _ ?_; (first | exact ⟨by rw [allP_no (i := i) qo (by assumption)], qg⟩ | exact ⟨by rw [allP_at (i := i) (fun j q => hj j qo)], qg⟩ | fail); done)
      | fail)
def b17 : SC := (.seq (.ops [⟨some 2, .mov (.c (.bool false)), none⟩]) (.seq (.ops [⟨some 3, .mov (.t 0), none⟩, ⟨some 4, .len (.sl) (.t 3), none⟩, ⟨some 5, .bin (.leq) (.other) (.t 4) (.c (.int (.i64) 4)), none⟩, ⟨some 6, .mov (.t 5), none⟩, ⟨some 7, .mov (.t 0), some (6, true)⟩, ⟨some 8, .call 25 [.t 7], some (6, true)⟩, ⟨some 9, .pick (.t 6) (.t 8) (.c (.bool false)), none⟩, ⟨some 2, .mov (.t 9), none⟩]) .ret))
theorem t17 : tab 17 = some ⟨10, [.tmp 2], b17⟩ := rfl
theorem name_May (l : List Bs) (hy : AllY l) {h : Heap} {V : AV} (hV : TAt h V l) (hl : l.length ≤ 1000000000) : Runs (xcall X1 tab (.fn 17) [V] h) fun v h' => v = .bool (mayP l) ∧ Grow h h' := by
  refine Runs.intro fun K hK => ?_
  rw [w_fn rfl t17 (Nat.le_of_ble_eq_true rfl)]
  delta b17
  repeat' (first
    | simp (disch := first | exact qd | fail) only [WB, ↓WP, ↓WL, WR, WC, if_true, if_false, ite_true, ite_false, aop, ev, evs, readsA, List.replicate, numF, unA, resA, tupA, loadA, storeA, splice, fillA, kindsOk, plainEq, ↓reduceIte, Nat.reduceEqDiff, Nat.reduceLT, Int.reduceToNat, Int.reduceBEq, Int.reduceBNe, Nat.reduceAdd, Nat.reduceMul, Nat.reduceLeDiff, Int.reduceLT, Int.reduceSub, Int.reduceAdd]
    | ((first | refine atC ?_ ?_ | refine atG ?_ ?_ | refine atH ?_ ?_ | refine atP ?_ ?_) <;> intro hc <;> (try rw [hc]) <;> (try simp only [BD] at hc) <;> try (exfalso; omega))
    | ((first
      | (refine Runs.call (name_all l hy (hV.grow qg) hl) ?_; rintro _ _ ⟨rfl, gr⟩)
      | fail); all_goals ((try (have gn := gr.1; try simp only [nx_alloc, nx_set] at gn)); (try (have an := ha.num; try simp only [nx_alloc, nx_set, own_sl, own_nil] at an)); (try (have on := hO.num; try simp only [nx_alloc, nx_set] at on)); (try (have kn := hk.1; try simp only [nx_alloc, nx_set] at kn)); try have hB := hO.at)))
  all_goals try (first
    | (refine hK _ _ ?_; (first | exact ⟨by (unfold mayP; rw [show decide (l.length ≤ 4) = true from decide_eq_true qo]; simp), qg⟩ | exact ⟨by (unfold mayP; rw [show decide (l.length ≤ 4) = false from decide_eq_false qo]; simp), qg⟩ | fail); done)
    | fail)
def L18_0 : SC := (.seq (.seq (.ops [⟨some 4, .mov (.t 3), none⟩, ⟨some 5, .mov (.t 0), none⟩, ⟨some 6, .len (.sl) (.t 5), none⟩, ⟨some 7, .bin (.lss) (.other) (.t 4) (.t 6), none⟩]) (.cond (.t 7) .skip (.exit 0))) (.seq (.block 1 (.seq (.ops [⟨some 10, .mov (.t 0), none⟩, ⟨some 11, .mov (.t 3), none⟩, ⟨some 12, .idxAddrSl 1 (.t 10) (.t 11), none⟩, ⟨some 13, .load false 1 (.t 12), none⟩, ⟨some 14, .call 10 [.t 13], none⟩, ⟨some 15, .un (.not) (.t 14), none⟩]) (.cond (.t 15) (.seq (.ops [⟨some 2, .mov (.c (.bool false)), none⟩]) .ret) .skip))) (.ops [⟨some 8, .mov (.t 3), none⟩, ⟨some 9, .bin (.add) (.other) (.t 8) (.c (.int (.i64) 1)), none⟩, ⟨some 3, .mov (.t 9), none⟩])))
def b18 : SC := (.seq (.ops [⟨some 2, .mov (.c (.bool false)), none⟩]) (.seq (.seq (.ops [⟨some 3, .mov (.c (.int (.i64) 0)), none⟩]) (.block 0 (.loop L18_0))) (.seq (.ops [⟨some 16, .mov (.t 0), none⟩, ⟨some 17, .len (.sl) (.t 16), none⟩, ⟨some 18, .bin (.leq) (.other) (.t 17) (.c (.int (.i64) 4)), none⟩, ⟨some 2, .mov (.t 18), none⟩]) .ret)))
theorem t18 : tab 18 = some ⟨19, [.tmp 2], b18⟩ := rfl
theorem ref_May (l : List Bs) (hy : AllY l) {h : Heap} {V : AV} (hV : TAt h V l) (hl : l.length ≤ 1000000000) : Runs (xcall X1 tab (.fn 18) [V] h) fun v h' => v = .bool (mayP l) ∧ h = h' := by
  refine Runs.intro fun K hK => ?_
  rw [w_fn rfl t18 (Nat.le_of_ble_eq_true rfl)]
  delta b18
  repeat' (first
    | simp (disch := first | exact qd | fail) only [WB, ↓WP, ↓WL, WR, WC, if_true, if_false, ite_true, ite_false, aop, ev, evs, readsA, List.replicate, numF, unA, resA, tupA, loadA, storeA, splice, fillA, kindsOk, plainEq, ↓reduceIte, Nat.reduceEqDiff, Nat.reduceLT, Int.reduceToNat, Int.reduceBEq, Int.reduceBNe, Nat.reduceAdd, Nat.reduceMul, Nat.reduceLeDiff, Int.reduceLT, Int.reduceSub, Int.reduceAdd, encT_def]
    | ((first | refine atC ?_ ?_ | refine atG ?_ ?_ | refine atH ?_ ?_ | refine atP ?_ ?_) <;> intro hc <;> (try rw [hc]) <;> (try simp only [BD] at hc) <;> try (exfalso; omega)))
  all_goals try (first
    | (refine hK _ _ ?_; (first | exact ⟨by (unfold mayP; rw [allP_no (i := i) qo (by assumption)]; simp), rfl⟩ | exact ⟨by (unfold mayP; rw [allP_at (i := i) (fun j q => hj j qo)]; congr 1; simp; omega), rfl⟩ | exact ⟨by (unfold mayP; rw [allP_at (i := i) (fun j q => hj j qo), Bool.and_true]; congr 1; exact Bool.eq_iff_iff.2 (by simp)), rfl⟩ | fail); done)
    | fail)
  all_goals
    refine wloop (α := Nat) [0] (fun x => [(3, .int .i64 (x : Nat))]) (fun x H => h = H ∧ x ≤ l.length ∧ ∀ j, j < x → isP (l.getD j default) = true) (fun x => l.length - x) ?_ (0) ?_ ?_
    rotate_left
    · exact qf
    · (try dsimp only)
      exact ⟨rfl, by omega, fun j q => absurd q qo⟩
    intro i b1 H hI ih
    try dsimp only at hI
    obtain ⟨rfl, hi, hj⟩ := hI
    try have gn := g.1
    refine w_unfold (by delta L18_0; rfl) ?_
    simp only [keeps_nil, keeps_cons, List.cons_append, List.nil_append, lk_cons, lk_nil, numF, Nat.reduceEqDiff, Nat.reduceAdd, Nat.zero_add, ↓reduceIte]
    repeat' (first
      | simp (disch := first | exact qd | fail) only [WB, ↓WP, ↓WL, WR, WC, if_true, if_false, ite_true, ite_false, aop, ev, evs, readsA, List.replicate, numF, unA, resA, tupA, loadA, storeA, splice, fillA, kindsOk, plainEq, ↓reduceIte, Nat.reduceEqDiff, Nat.reduceLT, Int.reduceToNat, Int.reduceBEq, Int.reduceBNe, Nat.reduceAdd, Nat.reduceMul, Nat.reduceLeDiff, Int.reduceLT, Int.reduceSub, Int.reduceAdd, encT_def]
      | ((first | refine atC ?_ ?_ | refine atG ?_ ?_ | refine atH ?_ ?_ | refine atP ?_ ?_) <;> intro hc <;> (try rw [hc]) <;> (try simp only [BD] at hc) <;> try (exfalso; omega))
      | ((first
        | (refine Runs.call (ref_Is (l.getD i default) (hy.at i) _) ?_; rintro _ _ ⟨rfl, rfl⟩)
        | fail); all_goals ((try (have gn := gr.1; try simp only [nx_alloc, nx_set] at gn)); (try (have an := ha.num; try simp only [nx_alloc, nx_set, own_sl, own_nil] at an)); (try (have on := hO.num; try simp only [nx_alloc, nx_set] at on)); (try (have kn := hk.1; try simp only [nx_alloc, nx_set] at kn)); try have hB := hO.at)))
    all_goals try (first
      | exact ih (i + 1) _ _ _ (by ((try dsimp only); omega)) qf (by ((try dsimp only); (first | (exact ⟨rfl, by omega, pre_succ hj (by assumption)⟩) | fail)))
      | (refine hK _ _ ?_; (first | exact ⟨by (unfold mayP; rw [allP_no (i := i) qo (by assumption)]; simp), rfl⟩ | exact ⟨by (unfold mayP; rw [allP_at (i := i) (fun j q => hj j qo)]; congr 1; simp; omega), rfl⟩ | exact ⟨by (unfold mayP; rw [allP_at (i := i) (fun j q => hj j qo), Bool.and_true]; congr 1; exact Bool.eq_iff_iff.2 (by simp)), rfl⟩ | fail); done)
      | fail)
def L16_0 : SC := (.seq (.seq (.ops [⟨some 11, .mov (.t 5), none⟩, ⟨some 12, .mov (.t 0), none⟩, ⟨some 13, .len (.sl) (.t 12), none⟩, ⟨some 14, .bin (.lss) (.other) (.t 11) (.t 13), none⟩]) (.cond (.t 14) .skip (.exit 0))) (.seq (.block 1 (.seq (.ops [⟨some 17, .mov (.t 0), none⟩, ⟨some 18, .mov (.t 5), none⟩, ⟨some 19, .idxAddrSl 1 (.t 17) (.t 18), none⟩, ⟨some 20, .load false 1 (.t 19), none⟩, ⟨some 21, .mov (.t 1), none⟩, ⟨some 22, .mov (.t 5), none⟩, ⟨some 23, .idxAddrSl 1 (.t 21) (.t 22), none⟩, ⟨some 24, .load false 1 (.t 23), none⟩, ⟨some 25, .bin (.neq) (.str) (.t 20) (.t 24), none⟩]) (.cond (.t 25) (.seq (.ops [⟨some 4, .mov (.c (.bool false)), none⟩]) .ret) .skip))) (.ops [⟨some 15, .mov (.t 5), none⟩, ⟨some 16, .bin (.add) (.other) (.t 15) (.c (.int (.i64) 1)), none⟩, ⟨some 5, .mov (.t 16), none⟩])))
def b16 : SC := (.seq (.ops [⟨some 4, .mov (.c (.bool false)), none⟩]) (.seq (.seq (.ops [⟨some 6, .mov (.t 0), none⟩, ⟨some 7, .len (.sl) (.t 6), none⟩, ⟨some 8, .mov (.t 1), none⟩, ⟨some 9, .len (.sl) (.t 8), none⟩, ⟨some 10, .bin (.neq) (.other) (.t 7) (.t 9), none⟩]) (.cond (.t 10) (.seq (.ops [⟨some 4, .mov (.c (.bool false)), none⟩]) .ret) .skip)) (.seq (.seq (.ops [⟨some 5, .mov (.c (.int (.i64) 0)), none⟩]) (.block 0 (.loop L16_0))) (.seq (.ops [⟨some 4, .mov (.c (.bool true)), none⟩]) .ret))))
theorem t16 : tab 16 = some ⟨26, [.tmp 4], b16⟩ := rfl
theorem f0_Texts (l m : List Bs) {h : Heap} {V W : AV} (hV : TAt h V l) (hW : TAt h W m) (hl : l.length ≤ 1000000000) : Runs (xcall X1 tab (.fn 16) [V, W] h) fun v h' => v = .bool (decide (l = m)) ∧ h = h' := by
  refine Runs.intro fun K hK => ?_
  rw [w_fn rfl t16 (Nat.le_of_ble_eq_true rfl)]
  delta b16
  repeat' (first
    | simp (disch := first | exact qd | fail) only [WB, ↓WP, ↓WL, WR, WC, if_true, if_false, ite_true, ite_false, aop, ev, evs, readsA, List.replicate, numF, unA, resA, tupA, loadA, storeA, splice, fillA, kindsOk, plainEq, ↓reduceIte, Nat.reduceEqDiff, Nat.reduceLT, Int.reduceToNat, Int.reduceBEq, Int.reduceBNe, Nat.reduceAdd, Nat.reduceMul, Nat.reduceLeDiff, Int.reduceLT, Int.reduceSub, Int.reduceAdd, encT_def]
    | ((first | refine atC ?_ ?_ | refine atG ?_ ?_ | refine atH ?_ ?_ | refine atP ?_ ?_) <;> intro hc <;> (try rw [hc]) <;> (try simp only [BD] at hc) <;> try (exfalso; omega)))
  all_goals try (first
    | (refine hK _ _ ?_; (first | exact ⟨by (congr 1; exact (decide_eq_false (fun e => by have := congrArg List.length e; omega)).symm), rfl⟩ | exact ⟨by (congr 1; exact (decide_eq_true (texts_eq hlm (fun j q => hj j qo))).symm), rfl⟩ | exact ⟨by (congr 1; exact (decide_eq_false (fun e => hc (by rw [e]))).symm), rfl⟩ | fail); done)
    | fail)
  all_goals
    refine wloop (α := Nat) [0, 1] (fun x => [(5, .int .i64 (x : Nat))]) (fun x H => h = H ∧ l.length = m.length ∧ x ≤ l.length ∧ ∀ j, j < x → l.getD j default = m.getD j default) (fun x => l.length - x) ?_ (0) ?_ ?_
    rotate_left
    · exact qf
    · (try dsimp only)
      exact ⟨rfl, by omega, by omega, fun j q => absurd q qo⟩
    intro i b1 H hI ih
    try dsimp only at hI
    obtain ⟨rfl, hlm, hi, hj⟩ := hI
    try have gn := g.1
    refine w_unfold (by delta L16_0; rfl) ?_
    simp only [keeps_nil, keeps_cons, List.cons_append, List.nil_append, lk_cons, lk_nil, numF, Nat.reduceEqDiff, Nat.reduceAdd, Nat.zero_add, ↓reduceIte]
    repeat' (first
      | simp (disch := first | exact qd | fail) only [WB, ↓WP, ↓WL, WR, WC, if_true, if_false, ite_true, ite_false, aop, ev, evs, readsA, List.replicate, numF, unA, resA, tupA, loadA, storeA, splice, fillA, kindsOk, plainEq, ↓reduceIte, Nat.reduceEqDiff, Nat.reduceLT, Int.reduceToNat, Int.reduceBEq, Int.reduceBNe, Nat.reduceAdd, Nat.reduceMul, Nat.reduceLeDiff, Int.reduceLT, Int.reduceSub, Int.reduceAdd, encT_def]
      | ((first | refine atC ?_ ?_ | refine atG ?_ ?_ | refine atH ?_ ?_ | refine atP ?_ ?_) <;> intro hc <;> (try rw [hc]) <;> (try simp only [BD] at hc) <;> try (exfalso; omega)))
    all_goals try (first
      | exact ih (i + 1) _ _ _ (by ((try dsimp only); omega)) qf (by ((try dsimp only); (first | (exact ⟨rfl, hlm, by omega, pre_succ hj (by assumption)⟩) | fail)))
      | (refine hK _ _ ?_; (first | exact ⟨by (congr 1; exact (decide_eq_false (fun e => by have := congrArg List.length e; omega)).symm), rfl⟩ | exact ⟨by (congr 1; exact (decide_eq_true (texts_eq hlm (fun j q => hj j qo))).symm), rfl⟩ | exact ⟨by (congr 1; exact (decide_eq_false (fun e => hc (by rw [e]))).symm), rfl⟩ | fail); done)
      | fail)
def L26_0 : SC := (.seq (.seq (.ops [⟨some 9, .mov (.t 5), none⟩, ⟨some 10, .mov (.t 0), none⟩, ⟨some 11, .len (.str) (.t 10), none⟩, ⟨some 12, .bin (.lss) (.other) (.t 9) (.t 11), none⟩]) (.cond (.t 12) .skip (.exit 0))) (.seq (.block 1 (.seq (.ops [⟨some 15, .mov (.t 0), none⟩, ⟨some 16, .mov (.t 5), none⟩, ⟨some 17, .idxStr (.t 15) (.t 16), none⟩, ⟨some 18, .bin (.eql) (.other) (.t 17) (.c (.int (.u8) 47)), none⟩]) (.cond (.t 18) (.seq (.ops [⟨some 19, .mov (.t 3), none⟩, ⟨some 20, .mov (.t 0), none⟩, ⟨some 21, .mov (.t 4), none⟩, ⟨some 22, .mov (.t 5), none⟩, ⟨some 23, .sliceStr (.t 20) (some (.t 21)) (some (.t 22)), none⟩, ⟨some 24, .buildSlice [.str []] 1 1 [(0, 1, .t 23)], none⟩, ⟨some 25, .append 1 16 (.t 19) (.t 24), none⟩, ⟨some 3, .mov (.t 25), none⟩]) (.ops [⟨some 26, .mov (.t 5), none⟩, ⟨some 27, .bin (.add) (.other) (.t 26) (.c (.int (.i64) 1)), none⟩, ⟨some 4, .mov (.t 27), none⟩])) .skip))) (.ops [⟨some 13, .mov (.t 5), none⟩, ⟨some 14, .bin (.add) (.other) (.t 13) (.c (.int (.i64) 1)), none⟩, ⟨some 5, .mov (.t 14), none⟩])))
def b26 : SC := (.seq (.ops [⟨some 2, .mov (.c (.nilsl)), none⟩]) (.seq (.ops [⟨some 3, .mov (.c (.nilsl)), none⟩]) (.seq (.seq (.ops [⟨some 6, .mov (.t 0), none⟩, ⟨some 7, .bin (.eql) (.str) (.t 6) (.c (.str [])), none⟩]) (.cond (.t 7) (.seq (.ops [⟨some 8, .mov (.t 3), none⟩, ⟨some 2, .mov (.t 8), none⟩]) .ret) .skip)) (.seq (.ops [⟨some 4, .mov (.c (.int (.i64) 0)), none⟩]) (.seq (.seq (.ops [⟨some 5, .mov (.c (.int (.i64) 0)), none⟩]) (.block 0 (.loop L26_0))) (.seq (.ops [⟨some 28, .mov (.t 3), none⟩, ⟨some 29, .mov (.t 0), none⟩, ⟨some 30, .mov (.t 4), none⟩, ⟨some 31, .sliceStr (.t 29) (some (.t 30)) none, none⟩, ⟨some 32, .buildSlice [.str []] 1 1 [(0, 1, .t 31)], none⟩, ⟨some 33, .append 1 16 (.t 28) (.t 32), none⟩, ⟨some 2, .mov (.t 33), none⟩]) .ret))))))
theorem t26 : tab 26 = some ⟨34, [.tmp 2], b26⟩ := rfl
theorem part_47 {s : Bs} {f i : Nat} {l : List Bs} (hs : partsP s = l ++ preP ((s.drop f).take (i - f)) (partsP (s.drop i))) (hi : i < s.length) (h : s.getD i 0 = 47) : partsP s = (l ++ [(s.drop f).take (i - f)]) ++ preP ((s.drop (i + 1)).take (i + 1 - (i + 1))) (partsP (s.drop (i + 1))) := by
  have e : s.drop i = 47 :: s.drop (i + 1) := by
    rw [List.drop_eq_getElem_cons hi]
    rw [List.getD_eq_getElem?_getD, List.getElem?_eq_getElem hi] at h
    rw [show s[i] = 47 from h]
  rw [hs, e, partsP, if_pos rfl, Nat.sub_self, List.take_zero, preP_nil (parts_ne _)]
  simp [preP]
theorem part_no {s : Bs} {f i : Nat} {l : List Bs} (hs : partsP s = l ++ preP ((s.drop f).take (i - f)) (partsP (s.drop i))) (hi : i < s.length) (hf : f ≤ i) (h : ¬ s.getD i 0 = 47) : partsP s = l ++ preP ((s.drop f).take (i + 1 - f)) (partsP (s.drop (i + 1))) := by
  have e : s.drop i = s[i] :: s.drop (i + 1) := List.drop_eq_getElem_cons hi
  have h' : s[i] ≠ 47 := by
    rw [List.getD_eq_getElem?_getD, List.getElem?_eq_getElem hi] at h
    exact h
  rw [hs, e, parts_cons h', pre_pre]
  congr 2
  rw [show i + 1 - f = (i - f) + 1 by omega, List.take_add_one, List.getElem?_drop, show f + (i - f) = i by omega, List.getElem?_eq_getElem hi]; rfl
theorem part_end {s : Bs} {f i : Nat} {l : List Bs} (hs : partsP s = l ++ preP ((s.drop f).take (i - f)) (partsP (s.drop i))) (hi : i = s.length) (hf : f ≤ i) : partsP s = l ++ [s.drop f] := by
  subst hi
  rw [hs, List.drop_length, List.take_of_length_le (by rw [List.length_drop]; omega)]; simp [partsP, preP]
theorem ref_parts (s : Bs) (hl : s.length ≤ 100000000) (h : Heap) : Runs (xcall X1 tab (.fn 26) [.str s] h) fun v h' => Grow h h' ∧ TAt h' v (if s = [] then [] else partsP s) := by
  refine Runs.intro fun K hK => ?_
  rw [w_fn rfl t26 (Nat.le_of_ble_eq_true rfl)]
  delta b26
  repeat' (first
    | simp (disch := first | exact qd | fail) only [WB, ↓WP, ↓WL, WR, WC, if_true, if_false, ite_true, ite_false, aop, ev, evs, readsA, List.replicate, numF, unA, resA, tupA, loadA, storeA, splice, fillA, kindsOk, plainEq, ↓reduceIte, Nat.reduceEqDiff, Nat.reduceLT, Int.reduceToNat, Int.reduceBEq, Int.reduceBNe, Nat.reduceAdd, Nat.reduceMul, Nat.reduceLeDiff, Int.reduceLT, Int.reduceSub, Int.reduceAdd, tk_all]
    | ((first | refine atC ?_ ?_ | refine atG ?_ ?_ | refine atH ?_ ?_ | refine atP ?_ ?_) <;> intro hc <;> (try rw [hc]) <;> (try simp only [BD] at hc) <;> try (exfalso; omega)))
  all_goals try (first
    | (refine hK _ _ ?_; (first | exact ⟨qg, by (rw [if_pos (by assumption)]; exact OwR.rd encT_len qo (OwR.nil (n := 0)))⟩ | (rename_i hs0 _; exact ⟨qg, by (rw [if_neg (by assumption), part_end hs qo hf]; exact OwR.rd encT_len qo hO3)⟩) | exact ⟨qg, by (rw [if_neg (by assumption), part_end hs qo hf]; exact OwR.rd encT_len qo hO3)⟩ | fail); done)
    | fail)
  all_goals
    refine wloop (α := (List Bs) × AV × Nat × Nat) [0] (fun x => [(3, x.2.1), (4, .int .i64 (x.2.2.1 : Nat)), (5, .int .i64 (x.2.2.2 : Nat))]) (fun x H => OwR 1 encT h.next H x.2.1 x.1 ∧ Grow h H ∧ partsP s = x.1 ++ preP ((s.drop x.2.2.1).take (x.2.2.2 - x.2.2.1)) (partsP (s.drop x.2.2.2)) ∧ x.2.2.1 ≤ x.2.2.2 ∧ x.2.2.2 ≤ s.length ∧ x.1.length ≤ x.2.2.2) (fun x => s.length - x.2.2.2) ?_ (([], .nilsl, 0, 0)) ?_ ?_
    rotate_left
    · exact qf
    · (try dsimp only)
      exact ⟨OwC.nil, qg, by (simp; rw [preP_nil (parts_ne s)]), by omega, by omega, Nat.zero_le _⟩
    intro x b1 H hI ih
    obtain ⟨l, o, f, i⟩ := x
    try dsimp only at hI
    obtain ⟨hO, g, hs, hf, hi, hll⟩ := hI
    have on := OwR.num hO
    have hfl := OwR.fl hO
    have hcl := cells_of hfl
    try have gn := g.1
    refine w_unfold (by delta L26_0; rfl) ?_
    simp only [keeps_nil, keeps_cons, List.cons_append, List.nil_append, lk_cons, lk_nil, numF, Nat.reduceEqDiff, Nat.reduceAdd, Nat.zero_add, ↓reduceIte]
    repeat' (first
      | simp (disch := first | exact qd | fail) only [WB, ↓WP, ↓WL, WR, WC, if_true, if_false, ite_true, ite_false, aop, ev, evs, readsA, List.replicate, numF, unA, resA, tupA, loadA, storeA, splice, fillA, kindsOk, plainEq, ↓reduceIte, Nat.reduceEqDiff, Nat.reduceLT, Int.reduceToNat, Int.reduceBEq, Int.reduceBNe, Nat.reduceAdd, Nat.reduceMul, Nat.reduceLeDiff, Int.reduceLT, Int.reduceSub, Int.reduceAdd, tk_all, hfl, hcl]
      | ((first | refine atC ?_ ?_ | refine atG ?_ ?_ | refine atH ?_ ?_ | refine atP ?_ ?_) <;> intro hc <;> (try rw [hc]) <;> (try simp only [BD] at hc) <;> try (exfalso; omega))
      | ((first
        | (refine Runs.call (OwR.push encT_len qo (hO.keep (fun j hj he => qs)) ql (a := (s.drop f).take (i - f)) (ga_new rfl) rfl qo) ?_; rintro o2 H2 ⟨hO2, ha⟩; have on2 := OwR.num hO2)
        | (refine Runs.call (OwR.push encT_len qo (hO.keep (fun j hj he => qs)) ql (a := s.drop f) (ga_new rfl) rfl qo) ?_; rintro o3 H3 ⟨hO3, ha⟩; have on3 := OwR.num hO3)
        | fail); all_goals ((try (have gn := gr.1; try simp only [nx_alloc, nx_set] at gn)); (try (have an := ha.num; try simp only [nx_alloc, nx_set, own_sl, own_nil] at an)); (try (have on := hO.num; try simp only [nx_alloc, nx_set] at on)); (try (have kn := hk.1; try simp only [nx_alloc, nx_set] at kn)); try have hB := hO.at)))
    all_goals try (first
      | exact ih ((l ++ [(s.drop f).take (i - f)], o2, i + 1, i + 1)) _ _ _ (by ((try dsimp only); omega)) qf (by ((try dsimp only); (first | ((first | exact ⟨hO2, qg, part_47 hs qo (by assumption), by omega, by omega, ql⟩ | exact ⟨hO.grow qg, qg, part_no hs qo qo (by assumption), by omega, by omega, by omega⟩ | fail)) | fail)))
      | exact ih ((l, o, f, i + 1)) _ _ _ (by ((try dsimp only); omega)) qf (by ((try dsimp only); (first | ((first | exact ⟨hO2, qg, part_47 hs qo (by assumption), by omega, by omega, ql⟩ | exact ⟨hO.grow qg, qg, part_no hs qo qo (by assumption), by omega, by omega, by omega⟩ | fail)) | fail)))
      | (refine hK _ _ ?_; (first | exact ⟨qg, by (rw [if_pos (by assumption)]; exact OwR.rd encT_len qo (OwR.nil (n := 0)))⟩ | (rename_i hs0 _; exact ⟨qg, by (rw [if_neg (by assumption), part_end hs qo hf]; exact OwR.rd encT_len qo hO3)⟩) | exact ⟨qg, by (rw [if_neg (by assumption), part_end hs qo hf]; exact OwR.rd encT_len qo hO3)⟩ | fail); done)
      | fail)
end Go.Proofs.YtpdfpbdkiaekpaaDoor.Ya

