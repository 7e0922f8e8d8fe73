/-
  Batch: changes as bytes.
-/
import Derived.Test.YtbcmdlaffjmfdaaYaBatA
import Derived.Test.YtbcmdlaffjmfdaaYbL
import Derived.Test.YtbcmdlaffjmfdaaYaLNum
import Derived.Test.YtbcmdlaffjmfdaaYaLStd
namespace Go.Proofs.Ytbcmdlaffjmfdaa.Ya
open Go.Ya Go.Ya.Bat
set_option linter.unusedVariables false
set_option linter.unusedSimpArgs false
set_option maxRecDepth 100000
set_option maxHeartbeats 8000000

def sizeP (x : En) : Int := if x.gone then 0 else (x.val.length : Int) + 1
/-- A change's bytes behind a key. -/
def putOne (last : Bs) (x : En) : Bs := [(sharedP last x.key : Int), ((x.key.length - sharedP last x.key : Nat) : Int)] ++ x.key.drop (sharedP last x.key) ++ beL (sizeP x) 2 ++ x.val
def putAll : Bs → List En → Bs
  | _, [] => []
  | last, x :: l => putOne last x ++ putAll x.key l
def lastE (last : Bs) : List En → Bs
  | [] => last
  | x :: l => lastE x.key l
theorem putAll_snoc : ∀ (l : List En) (last : Bs) (x : En), putAll last (l ++ [x]) = putAll last l ++ putOne (lastE last l) x
  | [], last, x => by simp [putAll, lastE]
  | y :: l, last, x => by simp [putAll, lastE, putAll_snoc l y.key x]
def enN (l : List Ro) (i : Nat) : List En := (l.take i).map Ro.en
theorem lastE_snoc : ∀ (l : List En) (last : Bs) (x : En), lastE last (l ++ [x]) = x.key
  | [], last, x => rfl
  | y :: l, last, x => lastE_snoc l y.key x
theorem enN_s {l : List Ro} {i : Nat} (hi : i < l.length) : enN l (i + 1) = enN l i ++ [(l.getD i default).en] := by
  unfold enN
  rw [List.take_add_one, List.getElem?_eq_getElem hi, List.getD_eq_getElem?_getD, List.getElem?_eq_getElem hi, List.map_append]
  rfl
theorem lastE_enN {l : List Ro} : ∀ {i : Nat}, i ≤ l.length → lastE [] (enN l i) = lastR l i
  | 0, _ => by simp [enN, lastE, lastR]
  | i + 1, h => by rw [enN_s qo, lastE_snoc, lastR_succ]; rfl
theorem enN_all (l : List Ro) : enN l l.length = l.map Ro.en := by unfold enN; rw [List.take_length]
def putN (l : List Ro) (i : Nat) : Bs := putAll [] (enN l i)
theorem putN_0 (l : List Ro) : putN l 0 = [] := rfl
theorem putN_s {l : List Ro} {i : Nat} (hi : i < l.length) : putN l (i + 1) = putN l i ++ putOne (lastR l i) (l.getD i default).en := by
  unfold putN
  rw [enN_s hi, putAll_snoc, lastE_enN qo]
theorem putOne_len {last : Bs} {x : En} (h1 : x.key.length ≤ 16) (h2 : x.val.length ≤ 8192) : (putOne last x).length ≤ 10000 := by
  unfold putOne
  simp only [List.length_append, List.length_cons, List.length_nil, List.length_drop, beL_len]
  omega
theorem fine_val {x : Ro} (h : fineP x.en = true) : x.val.length ≤ 8192 ∧ (x.gone = true → x.val.length = 0) := by
  unfold fineP Ro.en at h
  cases hg : x.gone <;> simp [hg] at h ⊢
  · omega
  · simp [h]
theorem okR_val {l : List Ro} {i : Nat} (h : okR l i) : (l.getD i default).key.length ≤ 16 ∧ (l.getD i default).val.length ≤ 8192 ∧ ((l.getD i default).gone = true → (l.getD i default).val.length = 0) := by
  obtain ⟨h1, h2, h3⟩ := h
  have := fine_val h1
  exact ⟨h2, this.1, this.2⟩
theorem lastR_len {l : List Ro} (hok : ∀ i, i < l.length → okR l i) {i : Nat} (hi : i ≤ l.length) : (lastR l i).length ≤ 16 := by
  unfold lastR
  split
  · exact (okR_val (hok (i - 1) qo)).1
  · simp
theorem putN_len {l : List Ro} (hok : ∀ i, i < l.length → okR l i) : ∀ {i : Nat}, i ≤ l.length → (putN l i).length ≤ i * 10000
  | 0, _ => by simp [putN_0]
  | i + 1, h => by
    have := okR_val (hok i qo)
    rw [putN_s qo, List.length_append]
    have := putOne_len (last := lastR l i) (x := (l.getD i default).en) this.1 this.2.1
    have := putN_len hok (i := i) qo
    omega
theorem may_ok {l : List Ro} (h : mayP (l.map Ro.en) = true) : ∀ i, i < l.length → okR l i := fun i hi => by
  by_cases q : okR l i
  · exact q
  · rw [may_no hi q] at h; cases h
theorem put_eq2 {last key val : Bs} {g : Bool} {t : Bool} (h : sharedP last key ≤ key.length) (hg : g = t) :
    [(sharedP last key : Int), (key.length : Int) - (sharedP last key : Int)] ++ (key.drop (sharedP last key)).take (key.length - sharedP last key) ++ beL (if t = true then 0 else ((val.length + 1 : Nat) : Int)) 2 ++ val = putOne last ⟨key, val, g⟩ := by
  subst hg
  rw [List.take_of_length_le (by rw [List.length_drop]; omega)]
  simp only [List.append_nil, putOne, sizeP, Int.ofNat_sub h, Int.natCast_add, Int.natCast_one, List.append_assoc]
theorem put_eq {P last : Bs} {x : Ro} {g : Bool} {b c d : AV} (h : sharedP last x.key ≤ x.key.length) (hg : x.gone = g) :
    [(b, P ++ [(sharedP last x.key : Int), (x.key.length : Int) - (sharedP last x.key : Int)] ++ (x.key.drop (sharedP last x.key)).take (x.key.length - sharedP last x.key)), (c, beL (if g = true then 0 else ((x.val.length + 1 : Nat) : Int)) 2), (d, x.val)].flatMap (·.2) = P ++ putOne last x.en := by
  subst hg
  rw [List.take_of_length_le (by rw [List.length_drop]; omega)]
  simp only [List.flatMap_cons, List.flatMap_nil, List.append_nil, putOne, sizeP, Ro.en, Int.ofNat_sub h, Int.natCast_add, Int.natCast_one, List.append_assoc]
  rfl
def L10_0 : SC := (.seq (.ops [⟨some 17, .bin (.lss) (.other) (.t 16) (.t 15), none⟩]) (.seq (.cond (.t 17) .skip (.exit 0)) (.seq (.block 1 (.seq (.ops [⟨some 18, .idxAddrSl 3 (.t 14) (.t 16), none⟩, ⟨some 19, .load true 3 (.t 18), none⟩, ⟨some 6, .box (.c (.agg [.str [], .nilsl, .bool false])), none⟩, ⟨none, .store 3 (.t 6) (.t 19), none⟩]) (.seq (.ops [⟨some 20, .mov (.t 4), none⟩, ⟨some 21, .fieldAddr 0 (.t 6), none⟩, ⟨some 22, .load false 1 (.t 21), none⟩, ⟨some 23, .call 18 [.t 20, .t 22], none⟩, ⟨some 7, .mov (.t 23), none⟩]) (.seq (.ops [⟨some 24, .mov (.t 2), none⟩, ⟨some 25, .mov (.t 7), none⟩, ⟨some 26, .convInt (.u8) (.t 25), none⟩, ⟨some 27, .fieldAddr 0 (.t 6), none⟩, ⟨some 28, .load false 1 (.t 27), none⟩, ⟨some 29, .len (.str) (.t 28), none⟩, ⟨some 30, .mov (.t 7), none⟩, ⟨some 31, .bin (.sub) (.other) (.t 29) (.t 30), none⟩, ⟨some 32, .convInt (.u8) (.t 31), none⟩, ⟨some 33, .buildSlice [.int (.u8) 0, .int (.u8) 0] 2 1 [(0, 1, .t 26), (1, 1, .t 32)], none⟩, ⟨some 34, .append 1 1 (.t 24) (.t 33), none⟩, ⟨some 2, .mov (.t 34), none⟩]) (.seq (.ops [⟨some 35, .mov (.t 2), none⟩, ⟨some 36, .fieldAddr 0 (.t 6), none⟩, ⟨some 37, .load false 1 (.t 36), none⟩, ⟨some 38, .mov (.t 7), none⟩, ⟨some 39, .sliceStr (.t 37) (some (.t 38)) none, none⟩, ⟨some 40, .append 1 1 (.t 35) (.t 39), none⟩, ⟨some 2, .mov (.t 40), none⟩]) (.seq (.ops [⟨some 41, .fieldAddr 1 (.t 6), none⟩, ⟨some 42, .load false 1 (.t 41), none⟩, ⟨some 43, .len (.sl) (.t 42), none⟩, ⟨some 44, .convInt (.u64) (.t 43), none⟩, ⟨some 45, .bin (.add) (.other) (.t 44) (.c (.int (.u64) 1)), none⟩, ⟨some 8, .mov (.t 45), none⟩]) (.seq (.seq (.ops [⟨some 46, .fieldAddr 2 (.t 6), none⟩, ⟨some 47, .load false 1 (.t 46), none⟩]) (.cond (.t 47) (.ops [⟨some 8, .mov (.c (.int (.u64) 0)), none⟩]) .skip)) (.seq (.ops [⟨some 49, .mov (.t 8), none⟩, ⟨some 50, .call 37 [.t 49, .c (.int (.i64) 2)], none⟩, ⟨some 48, .mov (.t 50), none⟩, ⟨some 51, .extract (.t 48) 0, none⟩, ⟨some 52, .extract (.t 48) 1, none⟩, ⟨some 9, .mov (.t 51), none⟩, ⟨some 10, .mov (.t 52), none⟩]) (.seq (.ops [⟨some 53, .mov (.t 2), none⟩, ⟨some 54, .mov (.t 9), none⟩, ⟨some 55, .fieldAddr 1 (.t 6), none⟩, ⟨some 56, .load false 1 (.t 55), none⟩, ⟨some 57, .buildSlice [.nilsl, .nilsl, .nilsl] 3 1 [(0, 1, .t 53), (1, 1, .t 54), (2, 1, .t 56)], none⟩, ⟨some 58, .call 38 [.t 57], none⟩, ⟨some 2, .mov (.t 58), none⟩]) (.ops [⟨some 59, .fieldAddr 0 (.t 6), none⟩, ⟨some 60, .load false 1 (.t 59), none⟩, ⟨some 4, .mov (.t 60), none⟩])))))))))) (.ops [⟨some 61, .bin (.add) (.other) (.t 16) (.c (.int (.i64) 1)), none⟩, ⟨some 16, .mov (.t 61), none⟩]))))
def b10 : SC := (.seq (.ops [⟨some 2, .mov (.c (.nilsl)), none⟩, ⟨some 3, .mov (.c (.int (.i64) 0)), none⟩]) (.seq (.seq (.ops [⟨some 11, .mov (.t 0), none⟩, ⟨some 12, .call 14 [.t 11], none⟩, ⟨some 13, .un (.not) (.t 12), none⟩]) (.cond (.t 13) (.seq (.ops [⟨some 2, .mov (.c (.nilsl)), none⟩, ⟨some 3, .mov (.c (.int (.i64) 2)), none⟩]) .ret) .skip)) (.seq (.ops [⟨some 4, .mov (.c (.str [])), none⟩]) (.seq (.seq (.ops [⟨some 14, .mov (.t 0), none⟩, ⟨some 15, .len (.sl) (.t 14), none⟩, ⟨some 16, .mov (.c (.int (.i64) 0)), none⟩]) (.block 0 (.loop L10_0))) (.seq (.ops [⟨some 62, .mov (.t 2), none⟩, ⟨some 2, .mov (.t 62), none⟩, ⟨some 3, .mov (.c (.int (.i64) 0)), none⟩]) .ret)))))
theorem t10 : tab 10 = some ⟨63, [.tmp 2, .tmp 3], b10⟩ := rfl
theorem bat_Put (l : List Ro) {h : Heap} {V : AV} (hV : CAt h V l) (hv : VAt h l) (hl : l.length ≤ 100000000) : Runs (xcall X1 tab (.fn 10) [V] h) fun v h' => Grow h h' ∧ ∃ w, v = (if mayP (l.map Ro.en) = true then .tuple [w, .int .i64 0] else .tuple [.nilsl, .int .i64 2]) ∧ OwB h.next h' w (if mayP (l.map Ro.en) = true then putAll [] (l.map Ro.en) else []) := by
  refine Runs.intro fun K hK => ?_
  rw [w_fn rfl t10 (Nat.le_of_ble_eq_true rfl)]
  delta b10
  repeat' (first
    | simp (disch := first | exact qd | fail) only [WB, ↓WP, ↓WL, WR, WC, if_true, if_false, ite_true, ite_false, aop, ev, evs, readsA, List.replicate, numF, unA, resA, tupA, loadA, storeA, splice, fillA, kindsOk, plainEq, ↓reduceIte, Nat.reduceEqDiff, Nat.reduceLT, Int.reduceToNat, Int.reduceBEq, Int.reduceBNe, Nat.reduceAdd, Nat.reduceMul, Nat.reduceLeDiff, Int.reduceLT, Int.reduceSub, Int.reduceAdd, VA_ln, VA_fl, VA_cl, encC_def]
    | ((first | refine atC ?_ ?_ | refine atG ?_ ?_ | refine atH ?_ ?_ | refine atP ?_ ?_) <;> intro hc <;> (try rw [hc]) <;> (try simp only [BD] at hc) <;> try (exfalso; omega))
    | ((first
      | (refine Runs.call (bat_MayChange l hV hv hl) ?_; rintro _ _ ⟨rfl, gr⟩)
      | (refine Runs.call (bat_Shared qo qo _) ?_; rintro _ _ ⟨rfl, rfl⟩)
      | fail); all_goals ((try (have gn := gr.1; try simp only [nx_alloc, nx_set] at gn)); (try (have an := ha.num; try simp only [nx_alloc, nx_set, own_sl, own_nil] at an)); (try (have on := hO.num; try simp only [nx_alloc, nx_set] at on)); (try (have kn := hk.1; try simp only [nx_alloc, nx_set] at kn)); try have hB := hO.at)))
  all_goals try (first
    | (refine hK _ _ ?_; (first | (rename_i q; exact ⟨qg, .nilsl, by rw [if_neg (by rw [q]; decide)], by rw [if_neg (by rw [q]; decide)]; exact OwC.nil⟩) | (exact ⟨qg, .nilsl, by rw [if_neg (by rw [hc]; decide)], by rw [if_neg (by rw [hc]; decide)]; exact OwC.nil⟩) | (obtain rfl : i = l.length := qo; have hm := may_yes hok; exact ⟨qg, b, by rw [if_pos hm], by rw [if_pos hm, ← enN_all]; exact hO⟩)); done))
  all_goals
    refine wloop (α := Nat × AV) [14, 15] (fun x => [(2, x.2), (4, .str (lastR l x.1)), (16, .int .i64 (x.1 : Nat))]) (fun x H => OwB h.next H x.2 (putN l x.1) ∧ Grow h H ∧ x.1 ≤ l.length) (fun x => l.length - x.1) ?_ ((0, .nilsl)) ?_ ?_
    rotate_left
    · exact qf
    · (try dsimp only)
      exact ⟨OwC.nil, qg, by omega⟩
    intro x b1 H hI ih
    obtain ⟨i, b⟩ := x
    try dsimp only at hI
    obtain ⟨hO, g, hi⟩ := hI
    have on := hO.num
    have hok := may_ok (by assumption)
    have hkv := fun q => okR_val (hok i q)
    have hlr := lastR_len hok hi
    have hsh := shared_le (lastR l i) (l.getD i default).key
    have hpl := putN_len hok hi
    have hps := fun q => putN_s (l := l) (i := i) q
    have hpo := fun q => putOne_len (last := lastR l i) (x := (l.getD i default).en) (hkv q).1 (hkv q).2.1
    try have gn := g.1
    refine w_unfold (by delta L10_0; rfl) ?_
    simp only [keeps_nil, keeps_cons, List.cons_append, List.nil_append, lk_cons, lk_nil, numF, Nat.reduceEqDiff, Nat.reduceAdd, Nat.zero_add, ↓reduceIte]
    repeat' (first
      | simp (disch := first | exact qd | fail) only [WB, ↓WP, ↓WL, WR, WC, if_true, if_false, ite_true, ite_false, aop, ev, evs, readsA, List.replicate, numF, unA, resA, tupA, loadA, storeA, splice, fillA, kindsOk, plainEq, ↓reduceIte, Nat.reduceEqDiff, Nat.reduceLT, Int.reduceToNat, Int.reduceBEq, Int.reduceBNe, Nat.reduceAdd, Nat.reduceMul, Nat.reduceLeDiff, Int.reduceLT, Int.reduceSub, Int.reduceAdd, VA_ln, VA_fl, VA_cl, encC_def]
      | ((first | refine atC ?_ ?_ | refine atG ?_ ?_ | refine atH ?_ ?_ | refine atP ?_ ?_) <;> intro hc <;> (try rw [hc]) <;> (try simp only [BD] at hc) <;> try (exfalso; omega))
      | ((first
        | (refine Runs.call (bat_MayChange l hV hv hl) ?_; rintro _ _ ⟨rfl, gr⟩)
        | (refine Runs.call (bat_Shared qo qo _) ?_; rintro _ _ ⟨rfl, rfl⟩)
        | (refine Runs.call (OwB.app (hO.grow qg) ql (Src.lit2 (ga_new rfl)) ql) ?_; rintro _ _ ⟨hO, ha⟩)
        | (refine Runs.call (OwB.app hO qo Src.str ql) ?_; rintro _ _ ⟨hO, ha⟩)
        | (refine Runs.call (num_Put (s := 2) (.inr (.inl rfl)) qo ql _) ?_; rintro _ _ ⟨gr, s, rfl, hS⟩)
        | (refine Runs.call (slices_ConcatB _ (rd3 (ga_new rfl)) (all3 (hO.at.grow qg) (hS.at.grow qg) ((hv.get qo).grow qg)) ql ql) ?_; rintro _ _ ⟨gr, hO⟩)
        | fail); all_goals ((try (have gn := gr.1; try simp only [nx_alloc, nx_set] at gn)); (try (have an := ha.num; try simp only [nx_alloc, nx_set, own_sl, own_nil] at an)); (try (have on := hO.num; try simp only [nx_alloc, nx_set] at on)); (try (have kn := hk.1; try simp only [nx_alloc, nx_set] at kn)); try have hB := hO.at)))
    all_goals try (first
      | exact ih ((i + 1, _)) _ _ _ (by ((try dsimp only); omega)) (by exact qf) (by ((try dsimp only); refine ⟨?_, qg, by omega⟩; rw [hps qo]; refine OwC.le (Eq.mp (congrArg (OwB _ _ _) ?_) hO) ql; exact put_eq qo hc))
      | (refine hK _ _ ?_; (first | (rename_i q; exact ⟨qg, .nilsl, by rw [if_neg (by rw [q]; decide)], by rw [if_neg (by rw [q]; decide)]; exact OwC.nil⟩) | (exact ⟨qg, .nilsl, by rw [if_neg (by rw [hc]; decide)], by rw [if_neg (by rw [hc]; decide)]; exact OwC.nil⟩) | (obtain rfl : i = l.length := qo; have hm := may_yes hok; exact ⟨qg, b, by rw [if_pos hm], by rw [if_pos hm, ← enN_all]; exact hO⟩)); done))
def b39 : SC := (.seq (.ops [⟨some 3, .box (.t 1), none⟩, ⟨some 4, .mov (.c (.nilsl)), none⟩]) (.seq (.ops [⟨some 10, .mov (.t 0), none⟩, ⟨some 11, .fieldAddr 0 (.t 3), none⟩, ⟨some 12, .load false 1 (.t 11), none⟩, ⟨some 13, .call 19 [.t 10, .t 12], none⟩, ⟨some 5, .mov (.t 13), none⟩]) (.seq (.ops [⟨some 14, .mov (.t 5), none⟩, ⟨some 15, .convInt (.u8) (.t 14), none⟩, ⟨some 16, .fieldAddr 0 (.t 3), none⟩, ⟨some 17, .load false 1 (.t 16), none⟩, ⟨some 18, .len (.str) (.t 17), none⟩, ⟨some 19, .mov (.t 5), none⟩, ⟨some 20, .bin (.sub) (.other) (.t 18) (.t 19), none⟩, ⟨some 21, .convInt (.u8) (.t 20), none⟩, ⟨some 22, .buildSlice [.int (.u8) 0, .int (.u8) 0] 2 1 [(0, 1, .t 15), (1, 1, .t 21)], none⟩, ⟨some 6, .mov (.t 22), none⟩]) (.seq (.ops [⟨some 23, .mov (.t 6), none⟩, ⟨some 24, .fieldAddr 0 (.t 3), none⟩, ⟨some 25, .load false 1 (.t 24), none⟩, ⟨some 26, .mov (.t 5), none⟩, ⟨some 27, .sliceStr (.t 25) (some (.t 26)) none, none⟩, ⟨some 28, .append 1 1 (.t 23) (.t 27), none⟩, ⟨some 6, .mov (.t 28), none⟩]) (.seq (.ops [⟨some 7, .mov (.c (.int (.u64) 0)), none⟩]) (.seq (.seq (.ops [⟨some 29, .fieldAddr 2 (.t 3), none⟩, ⟨some 30, .load false 1 (.t 29), none⟩, ⟨some 31, .un (.not) (.t 30), none⟩]) (.cond (.t 31) (.ops [⟨some 32, .fieldAddr 1 (.t 3), none⟩, ⟨some 33, .load false 1 (.t 32), none⟩, ⟨some 34, .len (.sl) (.t 33), none⟩, ⟨some 35, .convInt (.u64) (.t 34), none⟩, ⟨some 36, .bin (.add) (.other) (.t 35) (.c (.int (.u64) 1)), none⟩, ⟨some 7, .mov (.t 36), none⟩]) .skip)) (.seq (.ops [⟨some 38, .mov (.t 7), none⟩, ⟨some 39, .call 63 [.t 38, .c (.int (.i64) 2)], none⟩, ⟨some 37, .mov (.t 39), none⟩, ⟨some 40, .extract (.t 37) 0, none⟩, ⟨some 41, .extract (.t 37) 1, none⟩, ⟨some 8, .mov (.t 40), none⟩, ⟨some 9, .mov (.t 41), none⟩]) (.seq (.ops [⟨some 42, .mov (.t 6), none⟩, ⟨some 43, .mov (.t 8), none⟩, ⟨some 44, .append 1 1 (.t 42) (.t 43), none⟩, ⟨some 6, .mov (.t 44), none⟩]) (.seq (.ops [⟨some 45, .mov (.t 6), none⟩, ⟨some 46, .fieldAddr 1 (.t 3), none⟩, ⟨some 47, .load false 1 (.t 46), none⟩, ⟨some 48, .append 1 1 (.t 45) (.t 47), none⟩, ⟨some 4, .mov (.t 48), none⟩]) .ret)))))))))
theorem t39 : tab 39 = some ⟨49, [.tmp 4], b39⟩ := rfl
theorem rbat_one {last key val : Bs} {v : AV} {g : Bool} {h : Heap} (hv : BytesAt h v val) (h1 : last.length ≤ 16) (h2 : key.length ≤ 16) (h3 : val.length ≤ 8192) : Runs (xcall X1 tab (.fn 39) [.str last, .agg [.str key, v, .bool g]] h) fun v' h' => Grow h h' ∧ OwB h.next h' v' (putOne last ⟨key, val, g⟩) := by
  refine Runs.intro fun K hK => ?_
  have hsh := shared_le last key
  rw [w_fn rfl t39 (Nat.le_of_ble_eq_true rfl)]
  delta b39
  repeat' (first
    | simp (disch := first | exact qd | fail) only [WB, ↓WP, ↓WL, WR, WC, if_true, if_false, ite_true, ite_false, aop, ev, evs, readsA, List.replicate, numF, unA, resA, tupA, loadA, storeA, splice, fillA, kindsOk, plainEq, ↓reduceIte, Nat.reduceEqDiff, Nat.reduceLT, Int.reduceToNat, Int.reduceBEq, Int.reduceBNe, Nat.reduceAdd, Nat.reduceMul, Nat.reduceLeDiff, Int.reduceLT, Int.reduceSub, Int.reduceAdd]
    | ((first | refine atC ?_ ?_ | refine atG ?_ ?_ | refine atH ?_ ?_ | refine atP ?_ ?_) <;> intro hc <;> (try rw [hc]) <;> (try simp only [BD] at hc) <;> try (exfalso; omega))
    | ((first
      | (refine Runs.call (rbat_Shared qo qo _) ?_; rintro _ _ ⟨rfl, rfl⟩)
      | (refine Runs.call (OwB.app (OwB.lit2 (ga_new rfl) (Nat.le_refl _)) ql Src.str ql) ?_; rintro _ _ ⟨hO, ha⟩)
      | (refine Runs.call (ref01_Put (s := 2) (.inr (.inl rfl)) qo ql _) ?_; rintro _ _ ⟨gr, s, rfl, hS⟩)
      | (refine Runs.call (OwB.app (hO.grow qg) ql (hS.at.grow qg).src ql) ?_; rintro _ _ ⟨hO, ha⟩)
      | (refine Runs.call (OwB.app (hO.grow qg) ql (hv.grow qg).src ql) ?_; rintro _ _ ⟨hO, ha⟩)
      | fail); all_goals ((try (have gn := gr.1; try simp only [nx_alloc, nx_set] at gn)); (try (have an := ha.num; try simp only [nx_alloc, nx_set, own_sl, own_nil] at an)); (try (have on := hO.num; try simp only [nx_alloc, nx_set] at on)); (try (have kn := hk.1; try simp only [nx_alloc, nx_set] at kn)); try have hB := hO.at)))
  all_goals try (first
    | (refine hK _ _ ?_; refine ⟨qg, OwC.le (Eq.mp (congrArg (OwB _ _ _) (put_eq2 qo hc)) hO) ql⟩; done))
def L11_0 : SC := (.seq (.seq (.ops [⟨some 10, .mov (.t 6), none⟩, ⟨some 11, .mov (.t 0), none⟩, ⟨some 12, .len (.sl) (.t 11), none⟩, ⟨some 13, .bin (.lss) (.other) (.t 10) (.t 12), none⟩]) (.cond (.t 13) .skip (.exit 0))) (.seq (.block 1 (.seq (.ops [⟨some 16, .mov (.t 4), none⟩, ⟨some 17, .mov (.t 5), none⟩, ⟨some 18, .mov (.t 0), none⟩, ⟨some 19, .mov (.t 6), none⟩, ⟨some 20, .idxAddrSl 3 (.t 18) (.t 19), none⟩, ⟨some 21, .load true 3 (.t 20), none⟩, ⟨some 22, .call 39 [.t 17, .t 21], none⟩, ⟨some 23, .append 1 1 (.t 16) (.t 22), none⟩, ⟨some 4, .mov (.t 23), none⟩]) (.ops [⟨some 24, .mov (.t 0), none⟩, ⟨some 25, .mov (.t 6), none⟩, ⟨some 26, .idxAddrSl 3 (.t 24) (.t 25), none⟩, ⟨some 27, .fieldAddr 0 (.t 26), none⟩, ⟨some 28, .load false 1 (.t 27), none⟩, ⟨some 5, .mov (.t 28), none⟩]))) (.ops [⟨some 14, .mov (.t 6), none⟩, ⟨some 15, .bin (.add) (.other) (.t 14) (.c (.int (.i64) 1)), none⟩, ⟨some 6, .mov (.t 15), none⟩])))
def b11 : SC := (.seq (.ops [⟨some 2, .mov (.c (.nilsl)), none⟩, ⟨some 3, .mov (.c (.int (.i64) 0)), none⟩]) (.seq (.seq (.ops [⟨some 7, .mov (.t 0), none⟩, ⟨some 8, .call 15 [.t 7], none⟩, ⟨some 9, .un (.not) (.t 8), none⟩]) (.cond (.t 9) (.seq (.ops [⟨some 2, .mov (.c (.nilsl)), none⟩, ⟨some 3, .mov (.c (.int (.i64) 2)), none⟩]) .ret) .skip)) (.seq (.ops [⟨some 4, .mov (.c (.nilsl)), none⟩]) (.seq (.ops [⟨some 5, .mov (.c (.str [])), none⟩]) (.seq (.seq (.ops [⟨some 6, .mov (.c (.int (.i64) 0)), none⟩]) (.block 0 (.loop L11_0))) (.seq (.ops [⟨some 29, .mov (.t 4), none⟩, ⟨some 2, .mov (.t 29), none⟩, ⟨some 3, .mov (.c (.int (.i64) 0)), none⟩]) .ret))))))
theorem t11 : tab 11 = some ⟨30, [.tmp 2, .tmp 3], b11⟩ := rfl
theorem rbat_Put (l : List Ro) {h : Heap} {V : AV} (hV : CAt h V l) (hv : VAt h l) (hl : l.length ≤ 100000000) : Runs (xcall X1 tab (.fn 11) [V] h) fun v h' => Grow h h' ∧ ∃ w, v = (if mayP (l.map Ro.en) = true then .tuple [w, .int .i64 0] else .tuple [.nilsl, .int .i64 2]) ∧ OwB h.next h' w (if mayP (l.map Ro.en) = true then putAll [] (l.map Ro.en) else []) := by
  refine Runs.intro fun K hK => ?_
  rw [w_fn rfl t11 (Nat.le_of_ble_eq_true rfl)]
  delta b11
  repeat' (first
    | simp (disch := first | exact qd | fail) only [WB, ↓WP, ↓WL, WR, WC, if_true, if_false, ite_true, ite_false, aop, ev, evs, readsA, List.replicate, numF, unA, resA, tupA, loadA, storeA, splice, fillA, kindsOk, plainEq, ↓reduceIte, Nat.reduceEqDiff, Nat.reduceLT, Int.reduceToNat, Int.reduceBEq, Int.reduceBNe, Nat.reduceAdd, Nat.reduceMul, Nat.reduceLeDiff, Int.reduceLT, Int.reduceSub, Int.reduceAdd, VA_ln, VA_fl, VA_cl, encC_def]
    | ((first | refine atC ?_ ?_ | refine atG ?_ ?_ | refine atH ?_ ?_ | refine atP ?_ ?_) <;> intro hc <;> (try rw [hc]) <;> (try simp only [BD] at hc) <;> try (exfalso; omega))
    | ((first
      | (refine Runs.call (rbat_MayChange l hV hv hl) ?_; rintro _ _ ⟨rfl, rfl⟩)
      | fail); all_goals ((try (have gn := gr.1; try simp only [nx_alloc, nx_set] at gn)); (try (have an := ha.num; try simp only [nx_alloc, nx_set, own_sl, own_nil] at an)); (try (have on := hO.num; try simp only [nx_alloc, nx_set] at on)); (try (have kn := hk.1; try simp only [nx_alloc, nx_set] at kn)); try have hB := hO.at)))
  all_goals try (first
    | (refine hK _ _ ?_; (first | (exact ⟨qg, .nilsl, by rw [if_neg (by rw [hc]; decide)], by rw [if_neg (by rw [hc]; decide)]; exact OwC.nil⟩) | (obtain rfl : i = l.length := qo; have hm := may_yes hok; exact ⟨qg, b, by rw [if_pos hm], by rw [if_pos hm, ← enN_all]; exact hO⟩)); done))
  all_goals
    refine wloop (α := Nat × AV) [0] (fun x => [(4, x.2), (5, .str (lastR l x.1)), (6, .int .i64 (x.1 : Nat))]) (fun x H => OwB h.next H x.2 (putN l x.1) ∧ Grow h H ∧ x.1 ≤ l.length) (fun x => l.length - x.1) ?_ ((0, .nilsl)) ?_ ?_
    rotate_left
    · exact qf
    · (try dsimp only)
      exact ⟨OwC.nil, qg, by omega⟩
    intro x b1 H hI ih
    obtain ⟨i, b⟩ := x
    try dsimp only at hI
    obtain ⟨hO, g, hi⟩ := hI
    have on := hO.num
    have hok := may_ok (by assumption)
    have hkv := fun q => okR_val (hok i q)
    have hlr := lastR_len hok hi
    have hpl := putN_len hok hi
    have hps := fun q => putN_s (l := l) (i := i) q
    have hpo := fun q => putOne_len (last := lastR l i) (x := (l.getD i default).en) (hkv q).1 (hkv q).2.1
    try have gn := g.1
    refine w_unfold (by delta L11_0; rfl) ?_
    simp only [keeps_nil, keeps_cons, List.cons_append, List.nil_append, lk_cons, lk_nil, numF, Nat.reduceEqDiff, Nat.reduceAdd, Nat.zero_add, ↓reduceIte]
    repeat' (first
      | simp (disch := first | exact qd | fail) only [WB, ↓WP, ↓WL, WR, WC, if_true, if_false, ite_true, ite_false, aop, ev, evs, readsA, List.replicate, numF, unA, resA, tupA, loadA, storeA, splice, fillA, kindsOk, plainEq, ↓reduceIte, Nat.reduceEqDiff, Nat.reduceLT, Int.reduceToNat, Int.reduceBEq, Int.reduceBNe, Nat.reduceAdd, Nat.reduceMul, Nat.reduceLeDiff, Int.reduceLT, Int.reduceSub, Int.reduceAdd, VA_ln, VA_fl, VA_cl, encC_def]
      | ((first | refine atC ?_ ?_ | refine atG ?_ ?_ | refine atH ?_ ?_ | refine atP ?_ ?_) <;> intro hc <;> (try rw [hc]) <;> (try simp only [BD] at hc) <;> try (exfalso; omega))
      | ((first
        | (refine Runs.call (rbat_MayChange l hV hv hl) ?_; rintro _ _ ⟨rfl, rfl⟩)
        | (refine Runs.call (rbat_one ((hv.get qo).grow qg) hlr qo qo) ?_; rintro y _ ⟨gr, hS⟩)
        | (refine Runs.call (OwB.app (hO.grow qg) ql hS.at.src (by have := hpo qo; unfold Ro.en at this; (first | omega | (simp only [List.length_append, List.length_cons, List.length_nil, List.length_take, List.length_drop, List.flatMap_cons, List.flatMap_nil, beL_len, ints_len, List.append_nil, List.length_replicate, List.length_map, Int.reducePow, nx_alloc, nx_set, own_sl, own_nil] <;> omega) | fail))) ?_; rintro _ _ ⟨hO, ha⟩)
        | fail); all_goals ((try (have gn := gr.1; try simp only [nx_alloc, nx_set] at gn)); (try (have an := ha.num; try simp only [nx_alloc, nx_set, own_sl, own_nil] at an)); (try (have on := hO.num; try simp only [nx_alloc, nx_set] at on)); (try (have kn := hk.1; try simp only [nx_alloc, nx_set] at kn)); try have hB := hO.at)))
    all_goals try (first
      | exact ih ((i + 1, _)) _ _ _ (by ((try dsimp only); omega)) (by exact qf) (by ((try dsimp only); refine ⟨?_, qg, by omega⟩; rw [hps qo]; exact hO))
      | (refine hK _ _ ?_; (first | (exact ⟨qg, .nilsl, by rw [if_neg (by rw [hc]; decide)], by rw [if_neg (by rw [hc]; decide)]; exact OwC.nil⟩) | (obtain rfl : i = l.length := qo; have hm := may_yes hok; exact ⟨qg, b, by rw [if_pos hm], by rw [if_pos hm, ← enN_all]; exact hO⟩)); done))
end Go.Proofs.Ytbcmdlaffjmfdaa.Ya

