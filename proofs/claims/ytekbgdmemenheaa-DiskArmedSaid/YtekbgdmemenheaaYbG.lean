/-
  The abstract machine: YaRow, YaTake, YaLaw, YaLaw2, YaArgs.
-/
import Derived.ProofKit
import Derived.RowKit3
import Derived.JoinedCond
import Derived.OpenShut
import Derived.DataReads
import Derived.Carry
import Derived.ChangeSame
import Derived.Test.YtekbgdmemenheaaYbF
namespace Go.Ya
set_option linter.unusedVariables false
set_option linter.unusedSimpArgs false
mutual
def bulk {H : Type} : DataW H → Nat
  | .lit (.string bytes) => bytes.length + 1
  | .lit _ => 1
  | .nil => 1
  | .ptr d => bulk d + 1
  | .slice elems spare => bulks elems + bulks spare + 1
  | .agg parts => bulks parts + 1
  | .iface _ d => bulk d + 1
  | .map entries => bulkEs entries + 1
  | .held _ => 1
def bulks {H : Type} : List (DataW H) → Nat
  | [] => 0
  | d :: r => bulk d + bulks r
def bulkEs {H : Type} : List (Lit × DataW H) → Nat
  | [] => 0
  | x :: r => bulkE x + bulkEs r
def bulkE {H : Type} : Lit × DataW H → Nat
  | (.string bytes, d) => bytes.length + bulk d + 1
  | (_, d) => bulk d + 1
end
def tiles (P : Program) : Nat → List Field → Option Nat
  | off, [] => some off
  | off, f :: fs => if f.offset = off then tiles P (off + P.cellsOf f.type) fs else none
def inTy (P : Program) : Nat → TypeId → Bool
  | 0, _ => false
  | k + 1, t =>
    match P.underlying t with
    | some .bool => P.cellsOf t == 1
    | some (.int _) => P.cellsOf t == 1
    | some .string => P.cellsOf t == 1
    | some (.slice e) => P.cellsOf t == 1 && decide (0 < P.cellsOf e) && inTy P k e
    | some (.struct fs) => tiles P 0 fs.toList == some (P.cellsOf t) && fs.toList.all fun f => inTy P k f.type
    | some (.array n e) => P.cellsOf t == n * P.cellsOf e && inTy P k e
    | _ => false
def isT (P : Program) (N : Nat) (h : Heap) : Nat → TypeId → List AV → Prop
  | 0, _, _ => False
  | k + 1, t, cs =>
    match P.underlying t with
    | some .bool => ∃ b, cs = [.bool b]
    | some (.int kd) => ∃ n, cs = [.int kd n] ∧ wfInt kd n = true
    | some .string => ∃ l, cs = [.str l] ∧ (∀ b ∈ l, wfInt .u8 b = true) ∧ l.length ≤ N
    | some (.slice e) => cs = [.nilsl] ∨ ∃ id len c, cs = [.slice id 0 len len false (P.cellsOf e)] ∧ h.get id = some (.cells c true) ∧ c.length = len * P.cellsOf e ∧ len ≤ N ∧
        ∀ i, i < len → isT P N h k e ((c.drop (i * P.cellsOf e)).take (P.cellsOf e))
    | some (.struct fs) => cs.length = P.cellsOf t ∧ ∀ f ∈ fs.toList, isT P N h k f.type ((cs.drop f.offset).take (P.cellsOf f.type))
    | some (.array n e) => cs.length = P.cellsOf t ∧ ∀ i, i < n → isT P N h k e ((cs.drop (i * P.cellsOf e)).take (P.cellsOf e))
    | _ => False
def listX (r : TypeId → Heap → List AV → Heap → Prop) : List TypeId → Heap → List (List AV) → Heap → Prop
  | [], h, [], h' => h' = h
  | t :: ts, h, a :: as, h' => ∃ h1, r t h a h1 ∧ listX r ts h1 as h'
  | _, _, _, _ => False
def cellsX (P : Program) (N : Nat) : Nat → TypeId → Heap → List AV → Heap → Prop
  | 0, _, _, _, _ => False
  | k + 1, t, h, cs, h' =>
    match P.underlying t with
    | some .bool => (∃ b, cs = [.bool b]) ∧ h' = h
    | some (.int kd) => (∃ n, cs = [.int kd n] ∧ wfInt kd n = true) ∧ h' = h
    | some .string => (∃ l, cs = [.str l] ∧ (∀ b ∈ l, wfInt .u8 b = true) ∧ l.length ≤ N) ∧ h' = h
    | some (.slice e) => (cs = [.nilsl] ∧ h' = h) ∨ ∃ len ass h1, listX (cellsX P N k) (List.replicate len e) h ass h1 ∧ len ≤ N ∧ ass.flatten.length = len * P.cellsOf e ∧
        cs = [.slice h1.next 0 len len false (P.cellsOf e)] ∧ h' = h1.alloc (.cells ass.flatten true)
    | some (.struct fs) => ∃ ass, listX (cellsX P N k) (fs.toList.map (·.type)) h ass h' ∧ cs = ass.flatten
    | some (.array n e) => ∃ ass, listX (cellsX P N k) (List.replicate n e) h ass h' ∧ cs = ass.flatten
    | _ => False
def Ext (h h' : Heap) : Prop := ∀ id o, h.get id = some o → h'.get id = some o
theorem Ext.refl (h : Heap) : Ext h h := fun _ _ e => e
theorem Ext.trans {a b c : Heap} (h : Ext a b) (k : Ext b c) : Ext a c := fun id o e => k id o (h id o e)
theorem Ext.alloc (h : Heap) (o : AObj) : Ext h (h.alloc o) := fun id o' e => by
  rw [Heap.get_alloc, if_neg (by have := Heap.lt_of_get e; omega)]; exact e
theorem isT.ext {P : Program} {N : Nat} {h h' : Heap} (hx : Ext h h') : ∀ {k : Nat} {t : TypeId} {cs : List AV}, isT P N h k t cs → isT P N h' k t cs
  | 0, t, cs, hh => hh
  | k + 1, t, cs, hh => by
    unfold isT at hh ⊢
    cases hu : P.underlying t with
    | none => rw [hu] at hh; exact hh
    | some d =>
      rw [hu] at hh
      cases d <;> simp only at hh ⊢ <;> try exact hh
      · rcases hh with hh | ⟨id, len, c, h1, h2, h3, h4, h5⟩
        · exact .inl hh
        · exact .inr ⟨id, len, c, h1, hx _ _ h2, h3, h4, fun i hi => isT.ext hx (h5 i hi)⟩
      · exact ⟨hh.1, fun i hi => isT.ext hx (hh.2 i hi)⟩
      · exact ⟨hh.1, fun f hf => isT.ext hx (hh.2 f hf)⟩
def NoOwn (μ : Mu) (h : Heap) : Prop := ∀ b, ¬ Own μ h.get b
/-! ### chunks -/
theorem flat_chunk {α : Type} : ∀ (ls : List (List α)) (i : Nat) (l : List α), ls[i]? = some l → (ls.flatten.drop ((ls.take i).map List.length).sum).take l.length = l
  | [], i, l, h => by simp at h
  | x :: ls, 0, l, h => by simp at h; subst h; simp
  | x :: ls, i + 1, l, h => by
    have ih := flat_chunk ls i l (by simpa using h)
    simp only [List.flatten_cons, List.take_succ_cons, List.map_cons, List.sum_cons]
    rw [List.drop_append, List.drop_eq_nil_of_le (by omega), List.nil_append, Nat.add_sub_cancel_left]
    exact ih
theorem flat_len {α : Type} {m : Nat} : ∀ (ls : List (List α)), (∀ l ∈ ls, l.length = m) → ls.flatten.length = ls.length * m ∧ ∀ i, i ≤ ls.length → ((ls.take i).map List.length).sum = i * m
  | [], _ => by
    refine ⟨by simp, fun i hi => ?_⟩
    have : i = 0 := by simpa using hi
    subst this
    simp
  | x :: ls, h => by
    obtain ⟨h1, h2⟩ := flat_len ls fun l hl => h l (List.mem_cons_of_mem _ hl)
    have hx := h x List.mem_cons_self
    refine ⟨by simp only [List.flatten_cons, List.length_append, List.length_cons, h1, hx]; rw [Nat.add_mul]; omega, fun i hi => ?_⟩
    cases i with
    | zero => simp
    | succ i => simp only [List.take_succ_cons, List.map_cons, List.sum_cons]; rw [h2 i (by simpa using hi), hx, Nat.add_mul]; omega
theorem vs_flat {μ : Mu} : ∀ {ass : List (List AV)} {vss : List (List Value)}, ass.length = vss.length → (∀ (i : Nat) (a : List AV) (v : List Value), ass[i]? = some a → vss[i]? = some v → Vs μ a v) → Vs μ ass.flatten vss.flatten
  | [], [], _, _ => .nil
  | a :: ass, v :: vss, hl, h => by
    rw [List.flatten_cons, List.flatten_cons]
    exact (h 0 a v rfl rfl).append (vs_flat (by simpa using hl) fun i a v e1 e2 => h (i + 1) a v (by simpa using e1) (by simpa using e2))
theorem cut_flat {α : Type} (m : Nat) : ∀ (n : Nat) (l : List α), l.length = n * m → ((List.range n).map fun i => (l.drop (i * m)).take m).flatten = l
  | 0, l, h => by simp at h; simp [h]
  | n + 1, l, h => by
    rw [List.range_succ_eq_map, List.map_cons, List.flatten_cons, List.map_map]
    have ih := cut_flat m n (l.drop m) (by simp [h, Nat.add_mul])
    have : ((fun i => (l.drop (i * m)).take m) ∘ Nat.succ) = fun i => ((l.drop m).drop (i * m)).take m := by
      funext i
      simp only [Function.comp, List.drop_drop]
      congr 2
      rw [Nat.succ_mul]; omega
    rw [this, ih, Nat.zero_mul, List.drop_zero, List.take_append_drop]
theorem tile_flat (P : Program) {α : Type} : ∀ (fs : List Field) (off n : Nat) (l : List α), tiles P off fs = some n → l.length = n → off ≤ n ∧ (fs.map fun f => (l.drop f.offset).take (P.cellsOf f.type)).flatten = l.drop off
  | [], off, n, l, h, hl => by simp [tiles] at h; subst h; simp [hl]
  | f :: fs, off, n, l, h, hl => by
    simp only [tiles] at h
    split at h
    · rename_i ho
      obtain ⟨h1, h2⟩ := tile_flat P fs _ n l h hl
      refine ⟨by omega, ?_⟩
      rw [List.map_cons, List.flatten_cons, h2, ho]
      rw [← List.drop_drop]
      rw [List.take_append_drop]
    · cases h
theorem tile_sum (P : Program) : ∀ (fs : List Field) (off n : Nat), tiles P off fs = some n → ∀ i f, fs[i]? = some f → f.offset = off + ((fs.take i).map fun f => P.cellsOf f.type).sum
  | f :: fs, off, n, h, i, g, hg => by
    simp only [tiles] at h
    split at h
    · rename_i ho
      cases i with
      | zero => simp at hg; subst hg; simp [ho]
      | succ i =>
        have := tile_sum P fs _ n h i g (by simpa using hg)
        simp only [List.take_succ_cons, List.map_cons, List.sum_cons]
        omega
    · cases h
end Go.Ya
namespace Go.Ya
set_option linter.unusedVariables false
set_option linter.unusedSimpArgs false
theorem bulk_pos {H : Type} : ∀ d : DataW H, 1 ≤ bulk d
  | .lit (.string _) => by simp [bulk]
  | .lit (.bool _) => by simp [bulk]
  | .lit (.int ..) => by simp [bulk]
  | .lit (.float ..) => by simp [bulk]
  | .lit .nil => by simp [bulk]
  | .nil => by simp [bulk]
  | .ptr _ => by simp [bulk]
  | .slice .. => by simp [bulk]
  | .agg _ => by simp [bulk]
  | .iface .. => by simp [bulk]
  | .map _ => by simp [bulk]
  | .held _ => by simp [bulk]
theorem bulks_len {H : Type} : ∀ ds : List (DataW H), ds.length ≤ bulks ds
  | [] => by simp [bulks]
  | d :: r => by have := bulk_pos d; have := bulks_len r; simp [bulks]; omega
theorem bulks_mem {H : Type} : ∀ {ds : List (DataW H)} {d : DataW H}, d ∈ ds → bulk d ≤ bulks ds
  | a :: r, d, h => by
    rcases List.mem_cons.1 h with h | h
    · subst h; simp [bulks]
    · have := bulks_mem h; simp [bulks]; omega
theorem flat_idx {α : Type} {m : Nat} : ∀ (ls : List (List α)), (∀ l ∈ ls, l.length = m) → ∀ i r, r < m → ls.flatten[i * m + r]? = (ls[i]?).bind (·[r]?)
  | [], _, i, r, _ => by simp
  | x :: ls, h, 0, r, hr => by
    have hx := h x List.mem_cons_self
    rw [List.flatten_cons, List.getElem?_append_left (by omega)]
    simp
  | x :: ls, h, i + 1, r, hr => by
    have hx := h x List.mem_cons_self
    have ih := flat_idx ls (fun l hl => h l (List.mem_cons_of_mem _ hl)) i r hr
    rw [List.flatten_cons, List.getElem?_append_right (by rw [hx, Nat.add_mul]; omega)]
    have : (i + 1) * m + r - x.length = i * m + r := by rw [hx, Nat.add_mul]; omega
    rw [this, ih]
    simp
theorem tile_le (P : Program) : ∀ (fs : List Field) (off n : Nat), tiles P off fs = some n → off ≤ n ∧ ∀ f ∈ fs, f.offset + P.cellsOf f.type ≤ n
  | [], off, n, h => by simp [tiles] at h; subst h; simp
  | g :: fs, off, n, h => by
    simp only [tiles] at h
    split at h
    · rename_i ho
      obtain ⟨h1, h2⟩ := tile_le P fs _ n h
      refine ⟨by omega, fun f hf => ?_⟩
      rcases List.mem_cons.1 hf with e | e
      · subst e; omega
      · exact h2 f e
    · cases h
section
variable {H : Type} {enc : TypeId × Value → H} {P : Program} {N : Nat} {w : World}
theorem St.taken {μ : Mu} {h : Heap} (s : St P μ h w) (no : NoOwn μ h) {b base lim : Nat} {c : List AV} (ho : ObjR P (muAdd μ h.next (b, base, lim)) (.cells c true) b base lim w) :
    Le μ (muAdd μ h.next (b, base, lim)) ∧ St P (muAdd μ h.next (b, base, lim)) (h.alloc (.cells c true)) w ∧ NoOwn (muAdd μ h.next (b, base, lim)) (h.alloc (.cells c true)) := by
  have hμ := s.bd h.next (Nat.le_refl _)
  have hle : Le μ (muAdd μ h.next (b, base, lim)) := .add hμ
  have no' : NoOwn (muAdd μ h.next (b, base, lim)) (h.alloc (.cells c true)) := by
    rintro b1 ⟨id, base1, lim1, o, e1, e2, e3⟩
    rw [Heap.get_alloc] at e2
    by_cases hid : id = h.next
    · rw [if_pos hid] at e2; cases e2; simp [AObj.owned] at e3
    · rw [if_neg hid] at e2
      rw [muAdd_ne _ _ _ _ hid] at e1
      exact no b1 ⟨id, base1, lim1, o, e1, e2, e3⟩
  refine ⟨hle, ⟨⟨fun id b1 base1 lim1 o e1 e2 => ?_, fun id id' b1 base1 lim1 b2 base2 lim2 o o' _ e1 _ e3 _ e5 _ => absurd ⟨id, base1, lim1, o, e1, e3, e5⟩ (no' b1)⟩, fun id hid => ?_, s.mkd.same (fun id e => by
      have e1 := Heap.byteAt_alloc rfl e
      have := Heap.byteAt_lt e1
      exact ⟨e1, muAdd_ne _ _ _ _ (by omega), by rw [Heap.get_alloc, if_neg (by omega)]⟩) (fun _ _ _ _ _ _ _ _ _ => rfl), s.tb.step (Nat.le_refl _) (fun _ _ _ => rfl) (fun b hb => absurd hb (no' b))⟩, no'⟩
  · rw [Heap.get_alloc] at e2
    by_cases hid : id = h.next
    · rw [if_pos hid] at e2; cases e2
      subst hid
      rw [muAdd_same] at e1; cases e1
      exact ho
    · rw [if_neg hid] at e2
      rw [muAdd_ne _ _ _ _ hid] at e1
      exact (s.r.obj id b1 base1 lim1 o e1 e2).of_same hle rfl
  · have : h.next + 1 ≤ id := by simpa using hid
    rw [muAdd_ne _ _ _ _ (by omega)]
    exact s.bd id (by omega)
theorem St.taken0 {μ : Mu} {h : Heap} (s : St P μ h w) (no : NoOwn μ h) (c : List AV) : St P μ (h.alloc (.cells c true)) w ∧ NoOwn μ (h.alloc (.cells c true)) := by
  have hμ := s.bd h.next (Nat.le_refl _)
  have no' : NoOwn μ (h.alloc (.cells c true)) := by
    rintro b1 ⟨id, base1, lim1, o, e1, e2, e3⟩
    rw [Heap.get_alloc] at e2
    by_cases hid : id = h.next
    · rw [if_pos hid] at e2; cases e2; simp [AObj.owned] at e3
    · rw [if_neg hid] at e2
      exact no b1 ⟨id, base1, lim1, o, e1, e2, e3⟩
  refine ⟨⟨⟨fun id b1 base1 lim1 o e1 e2 => ?_, fun id id' b1 base1 lim1 b2 base2 lim2 o o' _ e1 _ e3 _ e5 _ => absurd ⟨id, base1, lim1, o, e1, e3, e5⟩ (no' b1)⟩, fun id hid => ?_, s.mkd.same (fun id e => by
      have e1 := Heap.byteAt_alloc rfl e
      have := Heap.byteAt_lt e1
      exact ⟨e1, rfl, by rw [Heap.get_alloc, if_neg (by omega)]⟩) (fun _ _ _ _ _ _ _ _ _ => rfl), s.tb.own (fun b hb => absurd hb (no' b))⟩, no'⟩
  · rw [Heap.get_alloc] at e2
    by_cases hid : id = h.next
    · subst hid; rw [hμ] at e1; cases e1
    · rw [if_neg hid] at e2
      exact s.r.obj id b1 base1 lim1 o e1 e2
  · have : h.next + 1 ≤ id := by simpa using hid
    exact s.bd id (by omega)
theorem add_none (b o n : Nat) : (⟨b, o, none⟩ : Addr).add n = ⟨b, o + n, none⟩ := by
  unfold Addr.add; split
  · subst_vars; rfl
  · rfl
theorem add_zero' (a : Addr) : a.add 0 = a := by simp [Addr.add]
theorem map_fst_const {α β : Type} (e : α) : ∀ l : List β, l.map (((·.1) : α × β → α) ∘ fun c => (e, c)) = List.replicate l.length e
  | [] => rfl
  | a :: l => by rw [List.map_cons, map_fst_const e l]; rfl
def Took (P : Program) (N : Nat) (w : World) (k : Nat) (t : TypeId) (cs : List Value) (μ : Mu) (h : Heap) : Prop :=
  ∃ μ' h' acs, Le μ μ' ∧ Ext h h' ∧ St P μ' h' w ∧ NoOwn μ' h' ∧ Vs μ' acs cs ∧ acs.all AV.flat = true ∧ isT P N h' k t acs ∧ cellsX P N k t h acs h'
theorem take_list (k : Nat) : ∀ (ts : List (TypeId × List Value)), (∀ x ∈ ts, ∀ μ h, St P μ h w → NoOwn μ h → Took P N w k x.1 x.2 μ h) → ∀ μ h, St P μ h w → NoOwn μ h →
    ∃ (μ' : Mu) (h' : Heap) (ass : List (List AV)), Le μ μ' ∧ Ext h h' ∧ St P μ' h' w ∧ NoOwn μ' h' ∧ ass.length = ts.length ∧ listX (cellsX P N k) (ts.map (·.1)) h ass h' ∧
      ∀ (i : Nat) x (a : List AV), ts[i]? = some x → ass[i]? = some a → Vs μ' a x.2 ∧ a.all AV.flat = true ∧ isT P N h' k x.1 a
  | [], _, μ, h, s, no => ⟨μ, h, [], .refl _, .refl _, s, no, rfl, rfl, fun i x a e => by simp at e⟩
  | x :: ts, hx, μ, h, s, no => by
    obtain ⟨μ1, h1, a1, l1, x1, s1, n1, v1, f1, t1, c1⟩ := hx x List.mem_cons_self μ h s no
    obtain ⟨μ2, h2, as, l2, x2, s2, n2, e2, c2, r2⟩ := take_list k ts (fun y hy => hx y (List.mem_cons_of_mem _ hy)) μ1 h1 s1 n1
    refine ⟨μ2, h2, a1 :: as, l1.trans l2, x1.trans x2, s2, n2, by simp [e2], ⟨h1, c1, c2⟩, fun i y a ei ea => ?_⟩
    cases i with
    | zero => simp at ei ea; subst ei; subst ea; exact ⟨v1.mono l2, f1, t1.ext x2⟩
    | succ i => exact r2 i y a (by simpa using ei) (by simpa using ea)
theorem all_flatten {ass : List (List AV)} (h : ∀ (i : Nat) (a : List AV), ass[i]? = some a → a.all AV.flat = true) : ass.flatten.all AV.flat = true := by
  rw [List.all_eq_true]
  intro x hx
  obtain ⟨l, hl, hxl⟩ := List.mem_flatten.1 hx
  obtain ⟨i, hi⟩ := List.mem_iff_getElem?.1 hl
  exact List.all_eq_true.1 (h i l hi) x hxl
set_option maxHeartbeats 1000000 in
theorem take_cells : ∀ (k : Nat) (t : TypeId) (cs : List Value) (fuel : Nat) (x : DataW H × List MemPlace), DataW.trod enc P w 0 (fun _ => true) true fuel t cs = some x → inTy P k t = true → bulk x.1 ≤ N →
    ∀ μ h, St P μ h w → NoOwn μ h → Took P N w k t cs μ h
  | 0, _, _, _, _, _, hi, _, _, _, _, _ => by simp [inTy] at hi
  | k + 1, t, cs, fuel, x, hx, hi, hb, μ, h, s, no => by
    cases hu : P.underlying t with
    | none => simp [inTy, hu] at hi
    | some d =>
      cases d <;> try (simp [inTy, hu] at hi; done)
      case bool =>
        obtain ⟨b, rfl, rfl⟩ := DataW.trod_bool hu hx
        exact ⟨μ, h, [.bool b], .refl _, .refl _, s, no, .cons _ _ _ _ (.bool b) .nil, rfl, by unfold isT; rw [hu]; exact ⟨b, rfl⟩, by unfold cellsX; rw [hu]; exact ⟨⟨b, rfl⟩, rfl⟩⟩
      case int kd =>
        obtain ⟨n, rfl, rfl, hw⟩ := DataW.trod_int hu hx
        exact ⟨μ, h, [.int kd n], .refl _, .refl _, s, no, .cons _ _ _ _ (.int kd n hw) .nil, rfl, by unfold isT; rw [hu]; exact ⟨n, rfl, hw⟩, by unfold cellsX; rw [hu]; exact ⟨⟨n, rfl, hw⟩, rfl⟩⟩
      case string =>
        obtain ⟨ba, rfl, rfl, hs⟩ := DataW.trod_string hu hx
        have hbl : (bytesOf ba).length ≤ N := by
          simp [bulk] at hb
          simp [bytesOf]; omega
        refine ⟨μ, h, [.str (bytesOf ba)], .refl _, .refl _, s, no, .cons _ _ _ _ (.str _ ba rfl hs) .nil, rfl, ?_, ?_⟩
        · unfold isT; rw [hu]
          exact ⟨_, rfl, bytesOf_wf ba, hbl⟩
        · unfold cellsX; rw [hu]
          exact ⟨⟨_, rfl, bytesOf_wf ba, hbl⟩, rfl⟩
      case slice e =>
        have hi' : P.cellsOf t = 1 ∧ 0 < P.cellsOf e ∧ inTy P k e = true := by simpa [inTy, hu, and_assoc] using hi
        obtain ⟨_, hpos, hin⟩ := hi'
        rcases DataW.trod_slice hu hx with ⟨rfl, rfl⟩ | ⟨a, len, cap, elems, rest, n, rfl, rfl, rfl, hba, hlc, hcm, hel, hget, hsp, _⟩
        · exact ⟨μ, h, [.nilsl], .refl _, .refl _, s, no, .cons _ _ _ _ .nilsl .nil, rfl, by unfold isT; rw [hu]; exact .inl rfl, by unfold cellsX; rw [hu]; exact .inl ⟨rfl, rfl⟩⟩
        · obtain ⟨hrl, hrest⟩ := hsp rfl
          simp only [bulk] at hb
          have hlenN : len ≤ N := by have := bulks_len (elems.map (·.1)); simp at this; omega
          -- the elements
          have hel' : ∀ i, i < len → ∃ ci y, w.cells? 0 (a.add (i * P.cellsOf e)) (P.cellsOf e) = some ci ∧ DataW.trod enc P w 0 (fun _ => true) true n e ci = some y ∧ y ∈ elems := by
            intro i hi
            have := hget i hi
            rw [List.getElem?_eq_getElem (by omega)] at this
            obtain ⟨ci, h1, h2⟩ := Option.bind_eq_some_iff.1 this
            exact ⟨ci, _, h1, h2, List.getElem_mem _⟩
          let css : List (List Value) := (List.range len).map fun i => (w.cells? 0 (a.add (i * P.cellsOf e)) (P.cellsOf e)).getD []
          have hcss : ∀ i, i < len → ∃ ci, css[i]? = some ci ∧ w.cells? 0 (a.add (i * P.cellsOf e)) (P.cellsOf e) = some ci := by
            intro i hi
            obtain ⟨ci, _, h1, _⟩ := hel' i hi
            refine ⟨ci, ?_, h1⟩
            show ((List.range len).map _)[i]? = _
            rw [List.getElem?_map, List.getElem?_range hi]
            simp [h1]
          have hcl : css.length = len := by simp [css]
          obtain ⟨μ1, h1, ass, l1, x1, s1, n1, e1, c1, r1⟩ := take_list (P := P) (N := N) (w := w) k (css.map fun c => (e, c)) (by
            intro y hy μ2 h2 s2 n2
            obtain ⟨ci, hci, rfl⟩ := List.mem_map.1 hy
            obtain ⟨i, hi⟩ := List.mem_iff_getElem?.1 hci
            have hil : i < len := by rw [← hcl]; exact (List.getElem?_eq_some_iff.1 hi).1
            obtain ⟨ci', y', g1, g2, g3⟩ := hel' i hil
            obtain ⟨ci'', g4, g5⟩ := hcss i hil
            rw [g5] at g1; cases g1
            rw [g4] at hi; cases hi
            have := bulks_mem (List.mem_map_of_mem (f := (·.1)) g3)
            exact take_cells k e _ n y' g2 hin (by omega) μ2 h2 s2 n2) μ h s no
          have hal : ass.length = len := by simpa [hcl] using e1
          have hr : ∀ (i : Nat) (a' : List AV), ass[i]? = some a' → ∃ ci, css[i]? = some ci ∧ w.cells? 0 (a.add (i * P.cellsOf e)) (P.cellsOf e) = some ci ∧ Vs μ1 a' ci ∧ a'.all AV.flat = true ∧ isT P N h1 k e a' := by
            intro i a' ha
            have hil : i < len := by rw [← hal]; exact (List.getElem?_eq_some_iff.1 ha).1
            obtain ⟨ci, g1, g2⟩ := hcss i hil
            obtain ⟨g3, g4, g5⟩ := r1 i (e, ci) a' (by rw [List.getElem?_map, g1]; rfl) ha
            exact ⟨ci, g1, g2, g3, g4, g5⟩
          have ham : ∀ l ∈ ass, l.length = P.cellsOf e := by
            intro l hl
            obtain ⟨i, hi⟩ := List.mem_iff_getElem?.1 hl
            obtain ⟨ci, _, g2, g3, _⟩ := hr i l hi
            rw [g3.len]; exact (World.cells?_some g2).2.1
          obtain ⟨hfl, hfs⟩ := flat_len ass ham
          have hflat : ass.flatten.all AV.flat = true := all_flatten fun i a' ha => let ⟨_, _, _, _, g, _⟩ := hr i a' ha; g
          have hat : ∀ h', Ext h1 h' → ∀ i, i < len → isT P N h' k e ((ass.flatten.drop (i * P.cellsOf e)).take (P.cellsOf e)) := by
            intro h' hx' i hil
            have hia : ass[i]? = some ass[i] := List.getElem?_eq_getElem (by omega)
            have := flat_chunk ass i _ hia
            rw [hfs i (by omega), ham _ (List.getElem_mem _)] at this
            rw [this]
            obtain ⟨_, _, _, _, _, g⟩ := hr i _ hia
            exact g.ext hx'
          have hcx : listX (cellsX P N k) (List.replicate len e) h ass h1 := by
            have e0 : (css.map fun c => (e, c)).map (·.1) = List.replicate len e := by
              rw [List.map_map, ← hcl]
              exact map_fst_const e css
            rw [← e0]; exact c1
          rcases Nat.eq_zero_or_pos cap with hc0 | hc0
          · obtain ⟨s2, n2⟩ := s1.taken0 n1 ass.flatten
            refine ⟨μ1, _, [.slice h1.next 0 len len false (P.cellsOf e)], l1, x1.trans (.alloc _ _), s2, n2, .cons _ _ _ _ (.slice _ _ _ _ _ _ a cap (Nat.le_refl _) hlc (by simp) hpos hcm (.inl hc0)) .nil, rfl, ?_, ?_⟩
            · unfold isT; rw [hu]
              exact .inr ⟨_, len, ass.flatten, rfl, by rw [Heap.get_alloc]; simp, by rw [hfl, hal], hlenN, hat _ (.alloc _ _)⟩
            · unfold cellsX; rw [hu]
              exact .inr ⟨len, ass, h1, hcx, hlenN, by rw [hfl, hal], rfl, rfl⟩
          · -- the last cell of all
            have hall : ∀ i, i < cap → ∃ ci, w.cells? 0 (a.add (i * P.cellsOf e)) (P.cellsOf e) = some ci := by
              intro i hic
              rcases Nat.lt_or_ge i len with hlt | hge
              · obtain ⟨ci, _, g, _⟩ := hel' _ hlt; exact ⟨ci, g⟩
              · have := hrest (i - len) (by omega)
                rw [List.getElem?_eq_getElem (by omega)] at this
                obtain ⟨ci, g, _⟩ := Option.bind_eq_some_iff.1 this
                have e : len + (i - len) = i := by omega
                rw [e] at g
                exact ⟨ci, g⟩
            obtain ⟨c0, hc0'⟩ := hall 0 hc0
            obtain ⟨_, hc0l, hcc0⟩ := World.cells?_some hc0'
            have h00 := hcc0 0 hpos
            rw [List.getElem?_eq_getElem (by omega), Nat.zero_mul, add_zero', add_zero'] at h00
            have hasp := World.cell?_spot h00
            obtain ⟨ab, ao, asp⟩ := a
            simp only at hasp
            subst hasp
            obtain ⟨ci, hci⟩ := hall (cap - 1) (by omega)
            obtain ⟨_, hcil, hcc⟩ := World.cells?_some hci
            have hlc' := hcc (P.cellsOf e - 1) (by omega)
            rw [List.getElem?_eq_getElem (by omega), add_none, add_none] at hlc'
            obtain ⟨arr, ty, fr, hbk, hsz⟩ : ∃ arr ty fr, w.heap[ab]? = some (.cells arr ty fr) ∧ ao + cap * P.cellsOf e ≤ arr.size := by
              unfold World.cell? at hlc'
              simp only at hlc'
              split at hlc'
              · rename_i c2 t2 f2 hb2
                refine ⟨c2, t2, f2, hb2, ?_⟩
                simp only [Option.isSome_none, Bool.false_eq_true, if_false] at hlc'
                have hlt := (Array.getElem?_eq_some_iff.1 hlc').1
                have : (cap - 1) * P.cellsOf e + P.cellsOf e = cap * P.cellsOf e := by
                  rw [← Nat.succ_mul]; congr 1; omega
                omega
              · cases hlc'
            have hcell : ∀ j : Nat, w.cell? ⟨ab, ao + j, none⟩ = arr[ao + j]? := by
              intro j; simp [World.cell?, hbk]
            have hobj : ObjR P (muAdd μ1 h1.next (ab, ao, ao + cap * P.cellsOf e)) (.cells ass.flatten true) ab ao (ao + cap * P.cellsOf e) w := by
              refine ⟨arr, ty, fr, hbk, hsz, ?_, ?_, by simp⟩
              · rw [hfl, hal]; exact Nat.add_le_add_left (Nat.mul_le_mul_right _ hlc) _
              · intro j aj haj
                have hjl := (List.getElem?_eq_some_iff.1 haj).1
                have hdm : (j / P.cellsOf e) * P.cellsOf e + j % P.cellsOf e = j := by rw [Nat.mul_comm]; exact Nat.div_add_mod _ _
                have hrm : j % P.cellsOf e < P.cellsOf e := Nat.mod_lt _ hpos
                have := flat_idx ass ham (j / P.cellsOf e) (j % P.cellsOf e) hrm
                rw [hdm, haj] at this
                obtain ⟨a', ha', haj'⟩ := Option.bind_eq_some_iff.1 this.symm
                obtain ⟨ci, _, g2, g3, g4, _⟩ := hr _ _ ha'
                obtain ⟨v, hv1, hv2⟩ := g3.get haj'
                obtain ⟨_, _, hcc2⟩ := World.cells?_some g2
                have := hcc2 _ hrm
                rw [add_none, add_none, Nat.add_assoc, hdm, hcell] at this
                exact ⟨v, this.trans hv1, hv2.mono (.add (s1.bd _ (Nat.le_refl _))), List.all_eq_true.1 g4 _ (List.mem_of_getElem? haj')⟩
            obtain ⟨l2, s2, n2⟩ := s1.taken n1 hobj
            refine ⟨_, _, [.slice h1.next 0 len len false (P.cellsOf e)], l1.trans l2, x1.trans (.alloc _ _), s2, n2,
              .cons _ _ _ _ (.slice _ _ _ _ _ _ ⟨ab, ao, none⟩ cap (Nat.le_refl _) hlc (by simp) hpos hcm (.inr ⟨ab, ao, _, muAdd_same _ _ _, by simp, by simp⟩)) .nil, rfl, ?_, ?_⟩
            · unfold isT; rw [hu]
              exact .inr ⟨_, len, ass.flatten, rfl, by rw [Heap.get_alloc]; simp, by rw [hfl, hal], hlenN, hat _ (.alloc _ _)⟩
            · unfold cellsX; rw [hu]
              exact .inr ⟨len, ass, h1, hcx, hlenN, by rw [hfl, hal], rfl, rfl⟩
      case array m e =>
        have hi' : P.cellsOf t = m * P.cellsOf e ∧ inTy P k e = true := by simpa [inTy, hu] using hi
        obtain ⟨hct, hin⟩ := hi'
        obtain ⟨xs, n, rfl, rfl, hl, hxl, hget⟩ := DataW.trod_array hu hx
        simp only [bulk] at hb
        obtain ⟨μ1, h1, ass, l1, x1, s1, n1, e1, c1, r1⟩ := take_list (P := P) (N := N) (w := w) k ((List.range m).map fun i => (e, (cs.drop (i * P.cellsOf e)).take (P.cellsOf e))) (by
          intro y hy μ2 h2 s2 n2
          obtain ⟨i, hi, rfl⟩ := List.mem_map.1 hy
          have hil : i < m := by simpa using hi
          have := hget i hil
          rw [List.getElem?_eq_getElem (by omega)] at this
          have hm := bulks_mem (List.mem_map_of_mem (f := (·.1)) (List.getElem_mem (l := xs) (n := i) (by omega)))
          exact take_cells k e _ n _ this hin (by omega) μ2 h2 s2 n2) μ h s no
        have hal : ass.length = m := by simpa using e1
        have hr : ∀ (i : Nat) (a' : List AV), ass[i]? = some a' → Vs μ1 a' ((cs.drop (i * P.cellsOf e)).take (P.cellsOf e)) ∧ a'.all AV.flat = true ∧ isT P N h1 k e a' := by
          intro i a' ha
          have hil : i < m := by rw [← hal]; exact (List.getElem?_eq_some_iff.1 ha).1
          exact r1 i _ a' (by rw [List.getElem?_map, List.getElem?_range hil]; rfl) ha
        have hvs : Vs μ1 ass.flatten cs := by
          have := vs_flat (μ := μ1) (ass := ass) (vss := (List.range m).map fun i => (cs.drop (i * P.cellsOf e)).take (P.cellsOf e)) (by simp [hal]) (by
            intro i a' v ha hv
            have hil : i < m := by rw [← hal]; exact (List.getElem?_eq_some_iff.1 ha).1
            rw [List.getElem?_map, List.getElem?_range hil] at hv
            cases hv
            exact (hr i a' ha).1)
          rwa [cut_flat (P.cellsOf e) m cs (by omega)] at this
        have ham : ∀ l ∈ ass, l.length = P.cellsOf e := by
          intro l hl'
          obtain ⟨i, hi⟩ := List.mem_iff_getElem?.1 hl'
          have hil : i < m := by rw [← hal]; exact (List.getElem?_eq_some_iff.1 hi).1
          rw [(hr i l hi).1.len, List.length_take, List.length_drop, hl, hct]
          have : i * P.cellsOf e + P.cellsOf e ≤ m * P.cellsOf e := by rw [← Nat.succ_mul]; exact Nat.mul_le_mul_right _ hil
          omega
        obtain ⟨hfl, hfs⟩ := flat_len ass ham
        refine ⟨μ1, h1, ass.flatten, l1, x1, s1, n1, hvs, all_flatten fun i a' ha => (hr i a' ha).2.1, ?_, by
          unfold cellsX; rw [hu]
          refine ⟨ass, ?_, rfl⟩
          have e0 : ((List.range m).map fun i => (e, (cs.drop (i * P.cellsOf e)).take (P.cellsOf e))).map (·.1) = List.replicate m e := by
            rw [List.map_map]
            apply List.ext_getElem?
            intro j
            rw [List.getElem?_map, List.getElem?_replicate]
            rcases Nat.lt_or_ge j m with hj | hj
            · rw [List.getElem?_range hj, if_pos hj]; rfl
            · rw [List.getElem?_eq_none (by simpa using hj), if_neg (by omega)]; rfl
          rw [← e0]; exact c1⟩
        unfold isT; rw [hu]
        refine ⟨by rw [hvs.len, hl], fun i hil => ?_⟩
        have hia : ass[i]? = some ass[i] := List.getElem?_eq_getElem (by omega)
        have := flat_chunk ass i _ hia
        rw [hfs i (by omega), ham _ (List.getElem_mem _)] at this
        rw [this]
        exact (hr i _ hia).2.2
      case struct fs =>
        have hi' : tiles P 0 fs.toList = some (P.cellsOf t) ∧ ∀ f ∈ fs.toList, inTy P k f.type = true := by
          simp only [inTy, hu, Bool.and_eq_true, beq_iff_eq, List.all_eq_true] at hi
          exact hi
        obtain ⟨hct, hin⟩ := hi'
        obtain ⟨xs, n, rfl, rfl, hl, hxl, hget⟩ := DataW.trod_struct hu hx
        simp only [bulk] at hb
        obtain ⟨μ1, h1, ass, l1, x1, s1, n1, e1, c1, r1⟩ := take_list (P := P) (N := N) (w := w) k (fs.toList.map fun f => (f.type, (cs.drop f.offset).take (P.cellsOf f.type))) (by
          intro y hy μ2 h2 s2 n2
          obtain ⟨f, hf, rfl⟩ := List.mem_map.1 hy
          obtain ⟨i, hi⟩ := List.mem_iff_getElem?.1 hf
          have hil : i < fs.toList.length := (List.getElem?_eq_some_iff.1 hi).1
          have := hget i f (by simpa using hi)
          rw [List.getElem?_eq_getElem (by simp at hil; omega)] at this
          have hm := bulks_mem (List.mem_map_of_mem (f := (·.1)) (List.getElem_mem (l := xs) (n := i) (by simp at hil; omega)))
          exact take_cells k f.type _ n _ this (hin f hf) (by omega) μ2 h2 s2 n2) μ h s no
        have hal : ass.length = fs.toList.length := by simpa using e1
        have hr : ∀ (i : Nat) (a' : List AV) (f : Field), ass[i]? = some a' → fs.toList[i]? = some f → Vs μ1 a' ((cs.drop f.offset).take (P.cellsOf f.type)) ∧ a'.all AV.flat = true ∧ isT P N h1 k f.type a' := by
          intro i a' f ha hf
          exact r1 i _ a' (by rw [List.getElem?_map, hf]; rfl) ha
        obtain ⟨_, htf⟩ := tile_flat P fs.toList 0 _ cs hct hl
        have hvs : Vs μ1 ass.flatten cs := by
          have := vs_flat (μ := μ1) (ass := ass) (vss := fs.toList.map fun f => (cs.drop f.offset).take (P.cellsOf f.type)) (by simp [hal]) (by
            intro i a' v ha hv
            rw [List.getElem?_map] at hv
            obtain ⟨f, hf, rfl⟩ := Option.map_eq_some_iff.1 hv
            exact (hr i a' f ha hf).1)
          rwa [htf] at this
        have ham : ∀ (i : Nat) (a' : List AV) (f : Field), ass[i]? = some a' → fs.toList[i]? = some f → a'.length = P.cellsOf f.type := by
          intro i a' f ha hf
          have := (tile_le P fs.toList 0 _ hct).2 f (List.mem_of_getElem? hf)
          rw [(hr i a' f ha hf).1.len, List.length_take, List.length_drop, hl]
          omega
        have hall : ∀ (i : Nat) (a' : List AV), ass[i]? = some a' → a'.all AV.flat = true := fun i a' ha => by
          have hil : i < fs.toList.length := by rw [← hal]; exact (List.getElem?_eq_some_iff.1 ha).1
          exact (hr i a' _ ha (List.getElem?_eq_getElem hil)).2.1
        refine ⟨μ1, h1, ass.flatten, l1, x1, s1, n1, hvs, all_flatten hall, ?_, by
          unfold cellsX; rw [hu]
          refine ⟨ass, ?_, rfl⟩
          rw [List.map_map] at c1
          exact c1⟩
        unfold isT; rw [hu]
        refine ⟨by rw [hvs.len, hl], fun f hf => ?_⟩
        obtain ⟨i, hi⟩ := List.mem_iff_getElem?.1 hf
        have hil : i < fs.toList.length := (List.getElem?_eq_some_iff.1 hi).1
        have hia : ass[i]? = some ass[i] := List.getElem?_eq_getElem (by omega)
        have hch := flat_chunk ass i _ hia
        have hoff := tile_sum P fs.toList 0 _ hct i f hi
        have hsum : ((ass.take i).map List.length).sum = ((fs.toList.take i).map fun f => P.cellsOf f.type).sum := by
          congr 1
          apply List.ext_getElem?
          intro j
          rw [List.getElem?_map, List.getElem?_map, List.getElem?_take, List.getElem?_take]
          split
          · cases hj : fs.toList[j]? with
            | none =>
              have : ass[j]? = none := by rw [List.getElem?_eq_none_iff] at hj ⊢; omega
              rw [this]; rfl
            | some g =>
              have hjl : j < ass.length := by have := (List.getElem?_eq_some_iff.1 hj).1; omega
              have hja : ass[j]? = some ass[j] := List.getElem?_eq_getElem hjl
              rw [hja]
              simp [ham j _ g hja hj]
          · rfl
        rw [hsum, ham i _ f hia hi] at hch
        rw [Nat.zero_add] at hoff
        rw [← hoff] at hch
        rw [hch]
        exact (hr i _ f hia hi).2.2
end
end Go.Ya
namespace Go.Ya
set_option linter.unusedVariables false
set_option linter.unusedSimpArgs false
open Go.ChangeShapes Go.WideShapes Go.RowKit
def emptyHeap : Heap := ⟨0, .nil⟩
def argT (P : Program) (N : Nat) (h : Heap) (k : Nat) (t : TypeId) (a : AV) : Prop :=
  match P.underlying t with
  | some (.struct _) => ∃ cs, a = .agg cs ∧ isT P N h k t cs
  | some (.array _ _) => ∃ cs, a = .agg cs ∧ isT P N h k t cs
  | _ => isT P N h k t [a]
def argsT (P : Program) (N : Nat) (h : Heap) (k : Nat) : List TypeId → List AV → Prop
  | [], [] => True
  | t :: ts, a :: as => argT P N h k t a ∧ argsT P N h k ts as
  | _, _ => False
def argX (P : Program) (N : Nat) (k : Nat) (t : TypeId) (h : Heap) (a : AV) (h' : Heap) : Prop :=
  match P.underlying t with
  | some (.struct _) => ∃ cs, a = .agg cs ∧ cellsX P N k t h cs h'
  | some (.array _ _) => ∃ cs, a = .agg cs ∧ cellsX P N k t h cs h'
  | _ => cellsX P N k t h [a] h'
def argsX (P : Program) (N : Nat) (k : Nat) : List TypeId → Heap → List AV → Heap → Prop
  | [], h, [], h' => h' = h
  | t :: ts, h, a :: as, h' => ∃ h1, argX P N k t h a h1 ∧ argsX P N k ts h1 as h'
  | _, _, _, _ => False
theorem argT.ext {P : Program} {N : Nat} {h h' : Heap} (hx : Ext h h') {k : Nat} {t : TypeId} {a : AV} (hh : argT P N h k t a) : argT P N h' k t a := by
  unfold argT at hh ⊢
  cases hu : P.underlying t with
  | none => rw [hu] at hh; exact isT.ext hx hh
  | some d =>
    rw [hu] at hh
    cases d <;> first
      | exact isT.ext hx hh
      | (obtain ⟨cs, e, hc⟩ := hh; exact ⟨cs, e, hc.ext hx⟩)
section
variable {H : Type} {enc : TypeId × Value → H} {P : Program} {N : Nat} {W : World} {base : Nat}
theorem trodAll_len {w : World} {b : Nat} {sp : Nat → Bool} {hd : Bool} : ∀ {ts : List TypeId} {vs : List Value} {ds : List (DataW H)} {ps : List MemPlace}, DataW.TrodAll enc P w b sp hd ts vs ds ps → ds.length = ts.length
  | [], _, _, _, h => by obtain ⟨rfl, rfl, rfl⟩ := trodAll_nil h; rfl
  | t :: ts, _, _, _, h => by
    obtain ⟨v, vs, d, ds, p, q, rfl, rfl, rfl, _, h2⟩ := trodAll_cons h
    simp [trodAll_len h2]
theorem take_arg {k : Nat} {t : TypeId} {v : Value} {d : DataW H} {ps : List MemPlace} (hv : Value.okWide P W .any base t v) (hd : DataW.Trod enc P W 0 (fun _ => true) true t v d ps) (hi : inTy P k t = true) (hb : bulk d ≤ N)
    {μ : Mu} {h : Heap} (s : St P μ h W) (no : NoOwn μ h) : ∃ μ' h' a, Le μ μ' ∧ Ext h h' ∧ St P μ' h' W ∧ NoOwn μ' h' ∧ V μ' a v ∧ argT P N h' k t a ∧ argX P N k t h a h' := by
  obtain ⟨fuel, hd⟩ := hd
  obtain ⟨μ', h', acs, l, x, s', no', vs, fl, it, cx⟩ := take_cells k t _ fuel _ hd hi hb μ h s no
  cases k with
  | zero => exact it.elim
  | succ k =>
    cases hu : P.underlying t with
    | none => simp [inTy, hu] at hi
    | some ds =>
      cases ds <;> try (simp [inTy, hu] at hi; done)
      case struct fs =>
        unfold Value.okWide at hv
        rw [hu] at hv
        obtain ⟨cs, rfl, _, _⟩ := hv
        exact ⟨μ', h', .agg acs, l, x, s', no', .agg acs cs vs fl, by unfold argT; rw [hu]; exact ⟨acs, rfl, it⟩, by unfold argX; rw [hu]; exact ⟨acs, rfl, cx⟩⟩
      case array m e =>
        unfold Value.okWide at hv
        rw [hu] at hv
        obtain ⟨cs, rfl, _, _⟩ := hv
        exact ⟨μ', h', .agg acs, l, x, s', no', .agg acs cs vs fl, by unfold argT; rw [hu]; exact ⟨acs, rfl, it⟩, by unfold argX; rw [hu]; exact ⟨acs, rfl, cx⟩⟩
      all_goals
        have hnc : v.cells.toList = [v] := by
          cases v <;> first | rfl | (simp [Value.okWide, Cell.okWide, Cell.ok, hu] at hv)
        rw [hnc] at vs
        match acs, vs, it, cx with
        | [a], .cons _ _ _ _ hva _, it, cx => exact ⟨μ', h', a, l, x, s', no', hva, by unfold argT; rw [hu]; exact it, by unfold argX; rw [hu]; exact cx⟩
theorem take_args {k : Nat} : ∀ {ts : List TypeId} {vs : List Value} {ds : List (DataW H)} {ps : List MemPlace}, (∀ (j : Nat) t v, ts[j]? = some t → vs[j]? = some v → Value.okWide P W .any base t v) →
    DataW.TrodAll enc P W 0 (fun _ => true) true ts vs ds ps → (∀ t ∈ ts, inTy P k t = true) → bulks ds ≤ N → ∀ {μ : Mu} {h : Heap}, St P μ h W → NoOwn μ h →
    ∃ μ' h' as, Le μ μ' ∧ Ext h h' ∧ St P μ' h' W ∧ NoOwn μ' h' ∧ Vs μ' as vs ∧ argsT P N h' k ts as ∧ argsX P N k ts h as h'
  | [], _, _, _, _, hA, _, _, μ, h, s, no => by
    obtain ⟨rfl, rfl, rfl⟩ := trodAll_nil hA
    exact ⟨μ, h, [], .refl _, .refl _, s, no, .nil, trivial, rfl⟩
  | t :: ts, _, _, _, hv, hA, hi, hb, μ, h, s, no => by
    obtain ⟨v, vs, d, ds, p, q, rfl, rfl, rfl, h1, h2⟩ := trodAll_cons hA
    simp only [bulks] at hb
    obtain ⟨μ1, h', a, l1, x1, s1, n1, v1, t1, c1⟩ := take_arg (N := N) (hv 0 t v rfl rfl) h1 (hi t List.mem_cons_self) (by omega) s no
    obtain ⟨μ2, h'', as, l2, x2, s2, n2, v2, t2, c2⟩ := take_args (fun j t' v' e1 e2 => hv (j + 1) t' v' (by simpa using e1) (by simpa using e2)) h2 (fun t' ht' => hi t' (List.mem_cons_of_mem _ ht')) (by omega) s1 n1
    exact ⟨μ2, h'', a :: as, l1.trans l2, x1.trans x2, s2, n2, .cons _ _ _ _ (v1.mono l2) v2, ⟨t1.ext x2, t2⟩, ⟨h', c1, c2⟩⟩
theorem post_still {f : Func} {s : ChangeSpec} {apart fresh handsOn again : Bool} {W' : World} {args : Array Value} {v : Value} {ds gs : List (DataW H)} {before pa pv : List MemPlace}
    (hW : DataW.Whole enc P f.params.toList s.vars apart W args.toList ds gs before)
    (hres : ∀ (b : Nat) (sp : Nat → Bool) (hd : Bool), DataW.TrodAll enc P W' b sp hd f.resultTypes.toList (v.resultList f.resultTypes.size) (s.fn H (ds ++ gs)).results [])
    (hargs : ∀ sp : Nat → Bool, (∀ p ∈ before, sp p.block = true) → DataW.TrodAll enc P W' 0 sp true f.params.toList args.toList (s.fn H (ds ++ gs)).args pa)
    (hvars : ∀ sp : Nat → Bool, (∀ p ∈ before, sp p.block = true) → DataW.TrodVars enc P W' sp s.vars (s.fn H (ds ++ gs)).vars pv)
    (hps : before = pa ++ pv) (hk : W.keptBut W' (· ∈ before)) (hfz : ∀ p ∈ before, ∀ b off, p = .cell b off → W'.frozen? ⟨b, off, none⟩ = W.frozen? ⟨b, off, none⟩)
    (hok : ∀ (j : Nat) (t : TypeId) (r : Value), f.resultTypes[j]? = some t → (v.resultList f.resultTypes.size)[j]? = some r → Value.okWide P W' .any 0 t r) :
    s.post enc P f apart fresh handsOn again W args v W' := by
  have hold : ∀ p ∈ before, (fun b => decide (b < W.heap.size)) p.block = true := fun p hp => by simpa using hW.lt p hp
  refine ⟨ds, gs, before, [], pa, pv, hW, hres _ _ _, hargs _ hold, hvars _ hold, World.keptBut_mono (fun p hp => ⟨hp, ?_⟩) hk, fun _ => ?_⟩
  · rw [hps, List.mem_append] at hp
    exact Or.inr hp
  · obtain ⟨_, _, _, _, _, hz, hn⟩ := hW
    refine ⟨hok, _, _, ([] ++ pa) ++ pv, ⟨[] ++ pa, pv, trodAll_append (hargs _ (fun _ _ => rfl)) (hres _ _ _), hvars _ (fun _ _ => rfl), rfl, ?_, ?_⟩, ?_⟩
    · intro b off hp
      have hp' : MemPlace.cell b off ∈ before := by rw [hps]; simpa using hp
      rw [hfz _ hp' b off rfl]
      exact hz b off hp'
    · intro ha
      have := hn ha
      rw [hps] at this
      simpa using this
    · intro p hp _
      rw [hps]
      simpa using hp
theorem still_args {W' : World} (hl : laidOutB P = true) {sp : Nat → Bool} (hbel : Below W.heap.size W W') : ∀ {ts : List TypeId} {vs : List Value} {ds : List (DataW H)} {ps : List MemPlace},
    (∀ t ∈ ts, P.readableRec t = true ∧ t < P.types.size) → DataW.TrodAll enc P W 0 (fun _ => true) true ts vs ds ps → (∀ p ∈ ps, p.block < W.heap.size) → (∀ p ∈ ps, sp p.block = true) →
    DataW.TrodAll enc P W' 0 sp true ts vs ds ps
  | [], _, _, _, _, h, _, _ => by
    obtain ⟨rfl, rfl, rfl⟩ := trodAll_nil h
    exact rfl
  | t :: ts, _, _, _, ht, h, hlt, hsp => by
    obtain ⟨v, vs, d, ds, p, q, rfl, rfl, rfl, h1, h2⟩ := trodAll_cons h
    have h0 := ht t List.mem_cons_self
    exact ⟨p, q, WideElems.Trod_stays hl h0.1 h0.2 h1 (fun x hx => hbel.same (hlt x (by simp [hx]))) (fun x hx => hsp x (by simp [hx])),
      still_args hl hbel (fun t' ht' => ht t' (List.mem_cons_of_mem _ ht')) h2 (fun x hx => hlt x (by simp [hx])) (fun x hx => hsp x (by simp [hx])), rfl⟩
end
mutual
def AV.bare : AV → Bool
  | .ptr .. | .slice .. | .map _ | .yieldf _ => false
  | .func _ a b => AV.bares a && AV.bares b
  | .iface _ v => AV.bare v
  | .meth _ v => AV.bare v
  | .agg l => AV.bares l
  | .tuple l => AV.bares l
  | _ => true
def AV.bares : List AV → Bool
  | [] => true
  | a :: as => AV.bare a && AV.bares as
end
mutual
theorem V.bare {μ ν : Mu} : ∀ {a : AV} {v : Value}, V μ a v → a.bare = true → V ν a v
  | _, _, .bool b, _ => .bool b
  | _, _, .int k n h, _ => .int k n h
  | _, _, .str l s h h2, _ => .str l s h h2
  | _, _, .nilptr, _ => .nilptr
  | _, _, .ptr .., e => by simp [AV.bare] at e
  | _, _, .nilsl, _ => .nilsl
  | _, _, .slice .., e => by simp [AV.bare] at e
  | _, _, .nilmap, _ => .nilmap
  | _, _, .map .., e => by simp [AV.bare] at e
  | _, _, .nilf, _ => .nilf
  | _, _, .func f x y x' y' h1 h2, e => by
    simp [AV.bare] at e
    exact .func f x y x' y' (Vs.bare h1 e.1) (Vs.bare h2 e.2)
  | _, _, .yieldf .., e => by simp [AV.bare] at e
  | _, _, .nilif, _ => .nilif
  | _, _, .iface t v v' h, e => .iface t v v' (V.bare h (by simpa [AV.bare] using e))
  | _, _, .meth m v v' h, e => .meth m v v' (V.bare h (by simpa [AV.bare] using e))
  | _, _, .agg cs cs' h h2, e => .agg cs cs' (Vs.bare h (by simpa [AV.bare] using e)) h2
  | _, _, .tuple vs vs' h, e => .tuple vs vs' (Vs.bare h (by simpa [AV.bare] using e))
theorem Vs.bare {μ ν : Mu} : ∀ {as : List AV} {vs : List Value}, Vs μ as vs → AV.bares as = true → Vs ν as vs
  | _, _, .nil, _ => .nil
  | _, _, .cons a v as vs h1 h2, e => by
    simp [AV.bares] at e
    exact .cons a v as vs (V.bare h1 e.1) (Vs.bare h2 e.2)
end
theorem Tb.none {P : Program} {μ : Mu} {h : Heap} {w : World} (e : P.globalNamed "unicode/utf8.first" = .none) : Tb P μ h w := fun g3 g4 e3 _ => by rw [e] at e3; cases e3
theorem St.empty (P : Program) (w : World) (t : Tb P (fun _ => none) emptyHeap w) : St P (fun _ => none) emptyHeap w :=
  ⟨⟨fun id b base lim o e => (by cases e), fun id id' b base lim b' base' lim' o o' _ e => (by cases e)⟩, fun _ _ => rfl, (fun _ _ _ _ _ _ _ e => by cases e), t⟩
theorem forget {P : Program} {X : Known} (hX : XOk P X) {SP : FuncId → Option SFunc} (hSP : Conv P SP) (hmix : P.follows .mixedOrders = true) {n : Nat} {f : FuncId} {args : List AV} {v : AV} {h' : Heap}
    (hr : acall X SP n (.fn f) args emptyHeap = some (v, h')) (ha : AV.bares args = true) (hv : v.bare = true) (h : Heap) (μ : Mu) (w : World) (args' : Array Value) (s : St P μ h w) (hvs : Vs μ args args'.toList) :
    (∃ fn, P.funcs[f]? = some fn ∧ fn.body.isNone = false ∧ fn.name ≠ "runtime.NumGoroutine") ∧ Calls P f args' w (RetR P μ h w v h) := by
  obtain ⟨h1, h2⟩ := (acall_calls hX hSP hmix n).1 f args emptyHeap v h' hr (fun _ => none) w args' (.empty P w (s.tb.step (Nat.le_refl _) (fun _ _ _ => rfl) (by rintro b ⟨id, _, _, _, e, _⟩; cases e))) (hvs.bare ha)
  refine ⟨h1, h2.mono fun e w' ⟨μ', v', he, hv', _, fr⟩ => ?_⟩
  have hsame : ∀ b, b < w.heap.size → w'.heap[b]? = w.heap[b]? := fun b hb => fr.same b hb (by rintro ⟨id, _, _, _, e, _⟩; cases e)
  refine ⟨μ, v', he, hv'.bare hv, ⟨⟨fun id b base lim o e1 e2 => ?_, s.r.inj⟩, s.bd, s.mkd.sameH fun id b base lim c ro m g => hsame b (s.r.lt m g rfl), s.tb.step fr.size (fun b hb _ => hsame b hb) (fun b hb => .inl hb)⟩, ⟨.refl _, fr.size, fr.os, fr.tape, fr.output, fun b hb _ => hsame b hb, fun b hb => .inl hb, Nat.le_refl _, fun _ _ h => h⟩⟩
  have ho := s.r.obj id b base lim o e1 e2
  cases hl : o.live with
  | true => exact ho.of_same (.refl _) (hsame b (s.r.lt e1 e2 hl))
  | false => cases o <;> first | trivial | simp [AObj.live] at hl
def knownBare (l : List (FuncId × List AV × AV)) : Known := fun f args h =>
  match l.find? fun x => x.1 == f && AV.beqs x.2.1 args with
  | some x => some (x.2.2, h)
  | none => none
theorem contract {H : Type} {enc : TypeId × Value → H} {P : Program} {X : Known} (hX : XOk P X) {SP : FuncId → Option SFunc} (hSP : Conv P SP) (hmix : P.follows .mixedOrders = true) (hl : laidOutB P = true) {f : FuncId} {fn : Func} {tb : TypeId} {s : ChangeSpec} (N k : Nat)
    (hts : ∀ t ∈ fn.params.toList, (inTy P k t && P.readableRec t && decide (t < P.types.size)) = true) (hres : fn.resultTypes = #[tb]) (htb : P.underlying tb = some .bool) (hgl : P.globalNamed "unicode/utf8.first" = none) (hvars : s.vars = [])
    (hs : ∀ ds : List (DataW H), ds.length = fn.params.toList.length → (s.fn H ds).results = [.lit (.bool true)] ∧ (s.fn H ds).args = ds ∧ (s.fn H ds).vars = [])
    (run : ∀ h as, argsT P N h k fn.params.toList as → argsX P N k fn.params.toList emptyHeap as h → ∃ n h', acall X SP n (.fn f) as h = some (.bool true, h') ∨ (AV.bares as = true ∧ acall X SP n (.fn f) as emptyHeap = some (.bool true, h')))
    {apart fresh handsOn again : Bool} {W : World} {base : Nat} {args : Array Value} {ds gs : List (DataW H)} {before : List MemPlace}
    (hval : ∀ (j : Nat) t v, fn.params[j]? = some t → args[j]? = some v → Value.okWide P W .any base t v)
    (hW : DataW.Whole enc P fn.params.toList s.vars apart W args.toList ds gs before) (hb : bulks ds ≤ N) :
    Calls P f args W fun e W' => ∃ v, e = .returned v ∧ s.post enc P fn apart fresh handsOn again W args v W' := by
  have hW' := hW
  obtain ⟨p, q, hA, hV, rfl, hfz, hnd⟩ := hW
  rw [hvars] at hV
  obtain ⟨rfl, rfl⟩ := trodVars_none hV
  have hts' : ∀ t ∈ fn.params.toList, (inTy P k t = true ∧ P.readableRec t = true) ∧ t < P.types.size := fun t ht => by simpa using hts t ht
  have s0 := St.empty P W (Tb.none hgl)
  have n0 : NoOwn (fun _ => none) emptyHeap := by rintro b ⟨id, _, _, _, e, _⟩; cases e
  obtain ⟨μ, h, as, _, _, st, no, hvs, hargs, hargx⟩ := take_args (N := N) (fun j t v e1 e2 => hval j t v (by simpa using e1) (by simpa using e2)) hA (fun t ht => (hts' t ht).1.1) hb s0 n0
  obtain ⟨n, h', hrun⟩ := run h as hargs hargx
  have hcalls : ∃ h'', Calls P f args W (RetR P μ h W (.bool true) h'') := by
    rcases hrun with hrun | ⟨hba, hrun⟩
    · exact ⟨h', ((acall_calls hX hSP hmix n).1 f as h _ h' hrun μ W args st hvs).2⟩
    · exact ⟨h, (forget hX hSP hmix hrun hba rfl h μ W args st hvs).2⟩
  obtain ⟨h'', hcalls⟩ := hcalls
  refine hcalls.mono fun e W' ⟨μ', v', he, hv, _, fr⟩ => ?_
  subst he
  cases hv
  have hbel : Below W.heap.size W W' := ⟨fr.os, fr.tape, fr.output, fr.size, fun b hb => fr.same b hb (no b)⟩
  have hlen : ds.length = fn.params.toList.length := trodAll_len hA
  obtain ⟨r1, r2, r3⟩ := hs (ds ++ []) (by simpa using hlen)
  have hlt := hW'.lt
  refine ⟨_, rfl, post_still (pa := p) (pv := []) hW' (fun b sp hd => ?_) (fun sp hsp => ?_) (fun sp hsp => ?_) rfl (hbel.frame _) (fun x hx b off e => ?_) ?_⟩
  · rw [r1, hres]
    exact trodAll_cons_mk (shut_bool htb _) trodAll_mk0
  · rw [r2, List.append_nil]
    exact still_args hl hbel (fun t ht => ⟨(hts' t ht).1.2, (hts' t ht).2⟩) hA (fun x hx => hlt x (by simp [hx])) (fun x hx => hsp x (by simp [hx]))
  · rw [r3, hvars]
    exact rfl
  · subst e
    exact hbel.frozen (hlt _ hx)
  · exact ok_one hres rfl (okWide_bool_mk htb _)
theorem knownBare_ok {P : Program} {X : Known} (hX : XOk P X) {SP : FuncId → Option SFunc} (hSP : Conv P SP) (hmix : P.follows .mixedOrders = true) {l : List (FuncId × List AV × AV)}
    (hl : ∀ x ∈ l, AV.bares x.2.1 = true ∧ x.2.2.bare = true ∧ ∃ n, (acall X SP n (.fn x.1) x.2.1 emptyHeap).map (·.1) = some x.2.2) : XOk P (knownBare l) := by
  intro f args h v h' e μ w args' s hvs
  unfold knownBare at e
  split at e
  · rename_i x hx
    cases e
    have hm := List.mem_of_find?_eq_some hx
    have hp := List.find?_some hx
    simp only [Bool.and_eq_true, beq_iff_eq] at hp
    obtain ⟨rfl, hb⟩ := hp
    have := AV.beqs_eq _ _ hb
    subst this
    obtain ⟨h1, h2, n, h3⟩ := hl x hm
    obtain ⟨⟨v, h'⟩, h4, h5⟩ := Option.map_eq_some_iff.1 h3
    cases h5
    exact forget hX hSP hmix h4 h1 h2 h μ w args' s hvs
  · cases e
def orK (X Y : Known) : Known := fun f args h => match X f args h with
  | some r => some r
  | none => Y f args h
theorem XOk.or {P : Program} {X Y : Known} (hX : XOk P X) (hY : XOk P Y) : XOk P (orK X Y) := by
  intro f args h v h' e
  unfold orK at e
  split at e
  · rename_i r hr; cases e; exact hX f args h v h' hr
  · exact hY f args h v h' e
end Go.Ya
namespace Go.Ya
set_option linter.unusedVariables false
set_option linter.unusedSimpArgs false
open Go.ChangeShapes Go.WideShapes Go.RowKit
theorem str_short {μ : Mu} {as : List AV} {vs : List Value} (h : Vs μ as vs) {l : List Int} (hl : AV.str l ∈ as) : l.length ≤ 9223372036854775807 := by
  obtain ⟨i, hi, e⟩ := List.mem_iff_getElem.1 hl
  obtain ⟨v, ev, hv⟩ := h.get (show as[i]? = some (.str l) by rw [List.getElem?_eq_getElem hi, e])
  cases hv with
  | str _ s e1 e2 =>
    rw [← e1]
    simpa [bytesOf] using e2
theorem contract2 {H : Type} {enc : TypeId × Value → H} {P : Program} {X : Known} (hX : XOk P X) {SP : FuncId → Option SFunc} (hSP : Conv P SP) (hmix : P.follows .mixedOrders = true) (hl : laidOutB P = true) {f : FuncId} {fn : Func} {tb : TypeId} {s : ChangeSpec} (N k : Nat)
    (hts : ∀ t ∈ fn.params.toList, (inTy P k t && P.readableRec t && decide (t < P.types.size)) = true) (hres : fn.resultTypes = #[tb]) (htb : P.underlying tb = some .bool) (hgl : P.globalNamed "unicode/utf8.first" = none) (hvars : s.vars = [])
    (hs : ∀ ds : List (DataW H), ds.length = fn.params.toList.length → (s.fn H ds).results = [.lit (.bool true)] ∧ (s.fn H ds).args = ds ∧ (s.fn H ds).vars = [])
    (run : ∀ h as, (∀ l, AV.str l ∈ as → l.length ≤ 9223372036854775807) → argsT P N h k fn.params.toList as → argsX P N k fn.params.toList emptyHeap as h → ∃ n h', acall X SP n (.fn f) as h = some (.bool true, h') ∨ (AV.bares as = true ∧ acall X SP n (.fn f) as emptyHeap = some (.bool true, h')))
    {apart fresh handsOn again : Bool} {W : World} {base : Nat} {args : Array Value} {ds gs : List (DataW H)} {before : List MemPlace}
    (hval : ∀ (j : Nat) t v, fn.params[j]? = some t → args[j]? = some v → Value.okWide P W .any base t v)
    (hW : DataW.Whole enc P fn.params.toList s.vars apart W args.toList ds gs before) (hb : bulks ds ≤ N) :
    Calls P f args W fun e W' => ∃ v, e = .returned v ∧ s.post enc P fn apart fresh handsOn again W args v W' := by
  have hW' := hW
  obtain ⟨p, q, hA, hV, rfl, hfz, hnd⟩ := hW
  rw [hvars] at hV
  obtain ⟨rfl, rfl⟩ := trodVars_none hV
  have hts' : ∀ t ∈ fn.params.toList, (inTy P k t = true ∧ P.readableRec t = true) ∧ t < P.types.size := fun t ht => by simpa using hts t ht
  have s0 := St.empty P W (Tb.none hgl)
  have n0 : NoOwn (fun _ => none) emptyHeap := by rintro b ⟨id, _, _, _, e, _⟩; cases e
  obtain ⟨μ, h, as, _, _, st, no, hvs, hargs, hargx⟩ := take_args (N := N) (fun j t v e1 e2 => hval j t v (by simpa using e1) (by simpa using e2)) hA (fun t ht => (hts' t ht).1.1) hb s0 n0
  obtain ⟨n, h', hrun⟩ := run h as (fun l hl => str_short hvs hl) hargs hargx
  have hcalls : ∃ h'', Calls P f args W (RetR P μ h W (.bool true) h'') := by
    rcases hrun with hrun | ⟨hba, hrun⟩
    · exact ⟨h', ((acall_calls hX hSP hmix n).1 f as h _ h' hrun μ W args st hvs).2⟩
    · exact ⟨h, (forget hX hSP hmix hrun hba rfl h μ W args st hvs).2⟩
  obtain ⟨h'', hcalls⟩ := hcalls
  refine hcalls.mono fun e W' ⟨μ', v', he, hv, _, fr⟩ => ?_
  subst he
  cases hv
  have hbel : Below W.heap.size W W' := ⟨fr.os, fr.tape, fr.output, fr.size, fun b hb => fr.same b hb (no b)⟩
  have hlen : ds.length = fn.params.toList.length := trodAll_len hA
  obtain ⟨r1, r2, r3⟩ := hs (ds ++ []) (by simpa using hlen)
  have hlt := hW'.lt
  refine ⟨_, rfl, post_still (pa := p) (pv := []) hW' (fun b sp hd => ?_) (fun sp hsp => ?_) (fun sp hsp => ?_) rfl (hbel.frame _) (fun x hx b off e => ?_) ?_⟩
  · rw [r1, hres]
    exact trodAll_cons_mk (shut_bool htb _) trodAll_mk0
  · rw [r2, List.append_nil]
    exact still_args hl hbel (fun t ht => ⟨(hts' t ht).1.2, (hts' t ht).2⟩) hA (fun x hx => hlt x (by simp [hx])) (fun x hx => hsp x (by simp [hx]))
  · rw [r3, hvars]
    exact rfl
  · subst e
    exact hbel.frozen (hlt _ hx)
  · exact ok_one hres rfl (okWide_bool_mk htb _)
end Go.Ya
namespace Go.Ya
set_option linter.unusedVariables false
set_option linter.unusedSimpArgs false
section
variable {P : Program} {N k : Nat} {t : TypeId} {ts : List TypeId} {h h' : Heap} {a : AV} {xs cs : List AV} {ys : List (List AV)}
theorem argsX_nil (hx : argsX P N k [] h xs h') : xs = [] ∧ h' = h := by
  cases xs with
  | nil => exact ⟨rfl, hx⟩
  | cons a r => exact hx.elim
theorem argsX_cons (hx : argsX P N k (t :: ts) h xs h') : ∃ a r h1, xs = a :: r ∧ argX P N k t h a h1 ∧ argsX P N k ts h1 r h' := by
  cases xs with
  | nil => exact hx.elim
  | cons a r => obtain ⟨h1, e1, e2⟩ := hx; exact ⟨a, r, h1, rfl, e1, e2⟩
theorem listX_nil {r : TypeId → Heap → List AV → Heap → Prop} (hx : listX r [] h ys h') : ys = [] ∧ h' = h := by
  cases ys with
  | nil => exact ⟨rfl, hx⟩
  | cons a l => exact hx.elim
theorem listX_cons {r : TypeId → Heap → List AV → Heap → Prop} (hx : listX r (t :: ts) h ys h') : ∃ a l h1, ys = a :: l ∧ r t h a h1 ∧ listX r ts h1 l h' := by
  cases ys with
  | nil => exact hx.elim
  | cons a l => obtain ⟨h1, e1, e2⟩ := hx; exact ⟨a, l, h1, rfl, e1, e2⟩
theorem cellsX_int {kd : IntKind} (hu : P.underlying t = some (.int kd)) (hx : cellsX P N (k + 1) t h cs h') : ∃ n, cs = [.int kd n] ∧ wfInt kd n = true ∧ h' = h := by
  unfold cellsX at hx; rw [hu] at hx; obtain ⟨⟨b, e, w⟩, e'⟩ := hx; exact ⟨b, e, w, e'⟩
theorem cellsX_array {n : Nat} {e : TypeId} (hu : P.underlying t = some (.array n e)) (hx : cellsX P N (k + 1) t h cs h') : ∃ ass, listX (cellsX P N k) (List.replicate n e) h ass h' ∧ cs = ass.flatten := by
  unfold cellsX at hx; rw [hu] at hx; exact hx
theorem argX_int {kd : IntKind} (hu : P.underlying t = some (.int kd)) (hx : argX P N (k + 1) t h a h') : ∃ n, a = .int kd n ∧ wfInt kd n = true ∧ h' = h := by
  unfold argX at hx; rw [hu] at hx; obtain ⟨b, e, w, e'⟩ := cellsX_int hu hx; exact ⟨b, by simpa using e, w, e'⟩
theorem argX_array {n : Nat} {e : TypeId} (hu : P.underlying t = some (.array n e)) (hx : argX P N (k + 1) t h a h') : ∃ ass, listX (cellsX P N k) (List.replicate n e) h ass h' ∧ a = .agg ass.flatten := by
  unfold argX at hx; rw [hu] at hx
  obtain ⟨cs, e, hc⟩ := hx
  obtain ⟨ass, hl, rfl⟩ := cellsX_array hu hc
  exact ⟨ass, hl, e⟩
theorem listX_ints {kd : IntKind} (hu : P.underlying t = some (.int kd)) : ∀ {n : Nat} {ys : List (List AV)}, listX (cellsX P N (k + 1)) (List.replicate n t) h ys h' → h' = h ∧ ∃ l : List Int, l.length = n ∧ (∀ i ∈ l, wfInt kd i = true) ∧ ys.flatten = l.map fun i => .int kd i
  | 0, ys, hx => by
    obtain ⟨rfl, rfl⟩ := listX_nil hx
    exact ⟨rfl, [], rfl, by simp, rfl⟩
  | n + 1, ys, hx => by
    obtain ⟨a, l, h1, rfl, e1, e2⟩ := listX_cons hx
    obtain ⟨m, rfl, w, hh⟩ := cellsX_int hu e1
    rw [hh] at e2
    obtain ⟨hh', l', g1, g2, g3⟩ := listX_ints hu e2
    exact ⟨hh', m :: l', by simp [g1], by simpa using ⟨w, g2⟩, by simp [g3]⟩
end
end Go.Ya
