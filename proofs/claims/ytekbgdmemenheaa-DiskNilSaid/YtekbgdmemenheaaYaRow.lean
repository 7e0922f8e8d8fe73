/-
  From a given statement to the abstract run: the arguments as the abstract machine reads them (read alone), and what is owed behind the call.
-/
import Derived.ProofKit
import Derived.RowKit3
import Derived.JoinedCond
import Derived.Test.YtekbgdmemenheaaYaDraw3
namespace Go.Ya
set_option linter.unusedVariables false
set_option linter.unusedSimpArgs false

mutual
def bulk {H : Type} : DataW H → Nat
  | .lit (.string bytes) => bytes.length + 1
  | .lit _ => 1
  | .nil => 1
  | .ptr d => bulk d + 1
  | .slice elems spare => bulks elems + bulks spare + 1
  | .agg parts => bulks parts + 1
  | .iface _ d => bulk d + 1
  | .map entries => bulkEs entries + 1
  | .held _ => 1
def bulks {H : Type} : List (DataW H) → Nat
  | [] => 0
  | d :: r => bulk d + bulks r
def bulkEs {H : Type} : List (Lit × DataW H) → Nat
  | [] => 0
  | x :: r => bulkE x + bulkEs r
def bulkE {H : Type} : Lit × DataW H → Nat
  | (.string bytes, d) => bytes.length + bulk d + 1
  | (_, d) => bulk d + 1
end

/-- Fields lie one behind the other. -/
def tiles (P : Program) : Nat → List Field → Option Nat
  | off, [] => some off
  | off, f :: fs => if f.offset = off then tiles P (off + P.cellsOf f.type) fs else none

/-- Types of arguments that are taken in. -/
def inTy (P : Program) : Nat → TypeId → Bool
  | 0, _ => false
  | k + 1, t =>
    match P.underlying t with
    | some .bool => P.cellsOf t == 1
    | some (.int _) => P.cellsOf t == 1
    | some .string => P.cellsOf t == 1
    | some (.slice e) => P.cellsOf t == 1 && decide (0 < P.cellsOf e) && inTy P k e
    | some (.struct fs) => tiles P 0 fs.toList == some (P.cellsOf t) && fs.toList.all fun f => inTy P k f.type
    | some (.array n e) => P.cellsOf t == n * P.cellsOf e && inTy P k e
    | _ => false

/-- What an argument of a type is, in the abstract heap; N: none of its lists is longer. -/
def isT (P : Program) (N : Nat) (h : Heap) : Nat → TypeId → List AV → Prop
  | 0, _, _ => False
  | k + 1, t, cs =>
    match P.underlying t with
    | some .bool => ∃ b, cs = [.bool b]
    | some (.int kd) => ∃ n, cs = [.int kd n] ∧ wfInt kd n = true
    | some .string => ∃ l, cs = [.str l] ∧ (∀ b ∈ l, wfInt .u8 b = true) ∧ l.length ≤ N
    | some (.slice e) => cs = [.nilsl] ∨ ∃ id len c, cs = [.slice id 0 len len false (P.cellsOf e)] ∧ h.get id = some (.cells c true) ∧ c.length = len * P.cellsOf e ∧ len ≤ N ∧
        ∀ i, i < len → isT P N h k e ((c.drop (i * P.cellsOf e)).take (P.cellsOf e))
    | some (.struct fs) => cs.length = P.cellsOf t ∧ ∀ f ∈ fs.toList, isT P N h k f.type ((cs.drop f.offset).take (P.cellsOf f.type))
    | some (.array n e) => cs.length = P.cellsOf t ∧ ∀ i, i < n → isT P N h k e ((cs.drop (i * P.cellsOf e)).take (P.cellsOf e))
    | _ => False

def listX (r : TypeId → Heap → List AV → Heap → Prop) : List TypeId → Heap → List (List AV) → Heap → Prop
  | [], h, [], h' => h' = h
  | t :: ts, h, a :: as, h' => ∃ h1, r t h a h1 ∧ listX r ts h1 as h'
  | _, _, _, _ => False

/-- The same, to the letter: the heap grows by the argument's own blocks alone, one behind the other. -/
def cellsX (P : Program) (N : Nat) : Nat → TypeId → Heap → List AV → Heap → Prop
  | 0, _, _, _, _ => False
  | k + 1, t, h, cs, h' =>
    match P.underlying t with
    | some .bool => (∃ b, cs = [.bool b]) ∧ h' = h
    | some (.int kd) => (∃ n, cs = [.int kd n] ∧ wfInt kd n = true) ∧ h' = h
    | some .string => (∃ l, cs = [.str l] ∧ (∀ b ∈ l, wfInt .u8 b = true) ∧ l.length ≤ N) ∧ h' = h
    | some (.slice e) => (cs = [.nilsl] ∧ h' = h) ∨ ∃ len ass h1, listX (cellsX P N k) (List.replicate len e) h ass h1 ∧ len ≤ N ∧ ass.flatten.length = len * P.cellsOf e ∧
        cs = [.slice h1.next 0 len len false (P.cellsOf e)] ∧ h' = h1.alloc (.cells ass.flatten true)
    | some (.struct fs) => ∃ ass, listX (cellsX P N k) (fs.toList.map (·.type)) h ass h' ∧ cs = ass.flatten
    | some (.array n e) => ∃ ass, listX (cellsX P N k) (List.replicate n e) h ass h' ∧ cs = ass.flatten
    | _ => False

def Ext (h h' : Heap) : Prop := ∀ id o, h.get id = some o → h'.get id = some o
theorem Ext.refl (h : Heap) : Ext h h := fun _ _ e => e
theorem Ext.trans {a b c : Heap} (h : Ext a b) (k : Ext b c) : Ext a c := fun id o e => k id o (h id o e)
theorem Ext.alloc (h : Heap) (o : AObj) : Ext h (h.alloc o) := fun id o' e => by
  rw [Heap.get_alloc, if_neg (by have := Heap.lt_of_get e; omega)]; exact e

theorem isT.ext {P : Program} {N : Nat} {h h' : Heap} (hx : Ext h h') : ∀ {k : Nat} {t : TypeId} {cs : List AV}, isT P N h k t cs → isT P N h' k t cs
  | 0, t, cs, hh => hh
  | k + 1, t, cs, hh => by
    unfold isT at hh ⊢
    cases hu : P.underlying t with
    | none => rw [hu] at hh; exact hh
    | some d =>
      rw [hu] at hh
      cases d <;> simp only at hh ⊢ <;> try exact hh
      · rcases hh with hh | ⟨id, len, c, h1, h2, h3, h4, h5⟩
        · exact .inl hh
        · exact .inr ⟨id, len, c, h1, hx _ _ h2, h3, h4, fun i hi => isT.ext hx (h5 i hi)⟩
      · exact ⟨hh.1, fun i hi => isT.ext hx (hh.2 i hi)⟩
      · exact ⟨hh.1, fun f hf => isT.ext hx (hh.2 f hf)⟩

def NoOwn (μ : Mu) (h : Heap) : Prop := ∀ b, ¬ Own μ h.get b

theorem mapM_some {α β : Type} (f : α → Option β) : ∀ {l : List α} {r : List β}, l.mapM f = some r → r.length = l.length ∧ ∀ (i : Nat) (x : α), l[i]? = some x → ∃ y, r[i]? = some y ∧ f x = some y
  | [], r, e => by simp at e; subst e; exact ⟨rfl, fun i x h => by simp at h⟩
  | a :: l, r, e => by
    rw [List.mapM_cons] at e
    cases ha : f a with
    | none => rw [ha] at e; cases e
    | some b =>
      rw [ha] at e
      cases hl : l.mapM f with
      | none => rw [hl] at e; cases e
      | some r' =>
        rw [hl] at e
        cases e
        obtain ⟨h1, h2⟩ := mapM_some f hl
        refine ⟨by simp [h1], fun i x hx => ?_⟩
        cases i with
        | zero => simp at hx; subst hx; exact ⟨b, rfl, ha⟩
        | succ i => simpa using h2 i x (by simpa using hx)

/-! ### chunks -/
theorem flat_chunk {α : Type} : ∀ (ls : List (List α)) (i : Nat) (l : List α), ls[i]? = some l → (ls.flatten.drop ((ls.take i).map List.length).sum).take l.length = l
  | [], i, l, h => by simp at h
  | x :: ls, 0, l, h => by simp at h; subst h; simp
  | x :: ls, i + 1, l, h => by
    have ih := flat_chunk ls i l (by simpa using h)
    simp only [List.flatten_cons, List.take_succ_cons, List.map_cons, List.sum_cons]
    rw [List.drop_append, List.drop_eq_nil_of_le (by omega), List.nil_append, Nat.add_sub_cancel_left]
    exact ih
theorem flat_len {α : Type} {m : Nat} : ∀ (ls : List (List α)), (∀ l ∈ ls, l.length = m) → ls.flatten.length = ls.length * m ∧ ∀ i, i ≤ ls.length → ((ls.take i).map List.length).sum = i * m
  | [], _ => by
    refine ⟨by simp, fun i hi => ?_⟩
    have : i = 0 := by simpa using hi
    subst this
    simp
  | x :: ls, h => by
    obtain ⟨h1, h2⟩ := flat_len ls fun l hl => h l (List.mem_cons_of_mem _ hl)
    have hx := h x List.mem_cons_self
    refine ⟨by simp only [List.flatten_cons, List.length_append, List.length_cons, h1, hx]; rw [Nat.add_mul]; omega, fun i hi => ?_⟩
    cases i with
    | zero => simp
    | succ i => simp only [List.take_succ_cons, List.map_cons, List.sum_cons]; rw [h2 i (by simpa using hi), hx, Nat.add_mul]; omega

theorem vs_flat {μ : Mu} : ∀ {ass : List (List AV)} {vss : List (List Value)}, ass.length = vss.length → (∀ (i : Nat) (a : List AV) (v : List Value), ass[i]? = some a → vss[i]? = some v → Vs μ a v) → Vs μ ass.flatten vss.flatten
  | [], [], _, _ => .nil
  | a :: ass, v :: vss, hl, h => by
    rw [List.flatten_cons, List.flatten_cons]
    exact (h 0 a v rfl rfl).append (vs_flat (by simpa using hl) fun i a v e1 e2 => h (i + 1) a v (by simpa using e1) (by simpa using e2))

/-- Rows cut into pieces of one length. -/
theorem cut_flat {α : Type} (m : Nat) : ∀ (n : Nat) (l : List α), l.length = n * m → ((List.range n).map fun i => (l.drop (i * m)).take m).flatten = l
  | 0, l, h => by simp at h; simp [h]
  | n + 1, l, h => by
    rw [List.range_succ_eq_map, List.map_cons, List.flatten_cons, List.map_map]
    have ih := cut_flat m n (l.drop m) (by simp [h, Nat.add_mul])
    have : ((fun i => (l.drop (i * m)).take m) ∘ Nat.succ) = fun i => ((l.drop m).drop (i * m)).take m := by
      funext i
      simp only [Function.comp, List.drop_drop]
      congr 2
      rw [Nat.succ_mul]; omega
    rw [this, ih, Nat.zero_mul, List.drop_zero, List.take_append_drop]

theorem tile_flat (P : Program) {α : Type} : ∀ (fs : List Field) (off n : Nat) (l : List α), tiles P off fs = some n → l.length = n → off ≤ n ∧ (fs.map fun f => (l.drop f.offset).take (P.cellsOf f.type)).flatten = l.drop off
  | [], off, n, l, h, hl => by simp [tiles] at h; subst h; simp [hl]
  | f :: fs, off, n, l, h, hl => by
    simp only [tiles] at h
    split at h
    · rename_i ho
      obtain ⟨h1, h2⟩ := tile_flat P fs _ n l h hl
      refine ⟨by omega, ?_⟩
      rw [List.map_cons, List.flatten_cons, h2, ho]
      rw [← List.drop_drop]
      rw [List.take_append_drop]
    · cases h
theorem tile_sum (P : Program) : ∀ (fs : List Field) (off n : Nat), tiles P off fs = some n → ∀ i f, fs[i]? = some f → f.offset = off + ((fs.take i).map fun f => P.cellsOf f.type).sum
  | f :: fs, off, n, h, i, g, hg => by
    simp only [tiles] at h
    split at h
    · rename_i ho
      cases i with
      | zero => simp at hg; subst hg; simp [ho]
      | succ i =>
        have := tile_sum P fs _ n h i g (by simpa using hg)
        simp only [List.take_succ_cons, List.map_cons, List.sum_cons]
        omega
    · cases h
end Go.Ya
