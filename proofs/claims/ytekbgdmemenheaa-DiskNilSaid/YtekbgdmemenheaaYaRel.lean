/-
  The relation between the abstract machine's values and heap and the model's.
-/
import GoSem.Claims
import Derived.Laws.Sem
import Derived.Laws.World
import Derived.Below
import Derived.Test.YtekbgdmemenheaaYaConv
namespace Go.Ya
set_option linter.unusedVariables false
set_option linter.unusedSimpArgs false

/-- Where an abstract block lies: block, first cell, one past the last cell that is its own. -/
abbrev Mu := Nat → Option (Nat × Nat × Nat)

mutual
inductive V (μ : Mu) : AV → Value → Prop
  | bool (b : Bool) : V μ (.bool b) (.bool b)
  | int (k : IntKind) (n : Int) : wfInt k n = true → V μ (.int k n) (.int k n)
  | str (l : List Int) (s : ByteArray) : bytesOf s = l → s.size ≤ 9223372036854775807 → V μ (.str l) (.string s)
  | nilptr : V μ .nilptr (.pointer none)
  | ptr (id off b base lim : Nat) : μ id = some (b, base, lim) → V μ (.ptr id off) (.pointer (some ⟨b, base + off, none⟩))
  | nilsl : V μ .nilsl (.slice none 0 0)
  | slice (id off len cap : Nat) (ex : Bool) (esz : Nat) (a : Addr) (cap' : Nat) : len ≤ cap → cap ≤ cap' → (ex = true → cap' = cap) → 0 < esz → cap' ≤ 9223372036854775807 →
      (cap' = 0 ∨ ∃ b base lim, μ id = some (b, base, lim) ∧ a = ⟨b, base + off, none⟩ ∧ base + off + cap' * esz ≤ lim) → V μ (.slice id off len cap ex esz) (.slice (some a) len cap')
  | nilmap : V μ .nilmap (.map none)
  | map (id b base lim : Nat) : μ id = some (b, base, lim) → V μ (.map id) (.map (some b))
  | nilf : V μ .nilf .nilFunc
  | func (f : FuncId) (x y : List AV) (x' y' : Array Value) : Vs μ x x'.toList → Vs μ y y'.toList → V μ (.func f x y) (.func (.func f) x' y')
  | yieldf (id b base lim : Nat) : μ id = some (b, base, lim) → V μ (.yieldf id) (.func (.yield b) #[] #[])
  | nilif : V μ .nilif .nilIface
  | iface (t : TypeId) (v : AV) (v' : Value) : V μ v v' → V μ (.iface t v) (.iface t v')
  | agg (cs : List AV) (cs' : Array Value) : Vs μ cs cs'.toList → cs.all AV.flat = true → V μ (.agg cs) (.agg cs')
  | tuple (vs : List AV) (vs' : Array Value) : Vs μ vs vs'.toList → V μ (.tuple vs) (.tuple vs')
inductive Vs (μ : Mu) : List AV → List Value → Prop
  | nil : Vs μ [] []
  | cons (a : AV) (v : Value) (as : List AV) (vs : List Value) : V μ a v → Vs μ as vs → Vs μ (a :: as) (v :: vs)
end

def Le (μ ν : Mu) : Prop := ∀ id x, μ id = some x → ν id = some x
theorem Le.refl (μ : Mu) : Le μ μ := fun _ _ h => h
theorem Le.trans {μ ν ξ : Mu} (h : Le μ ν) (k : Le ν ξ) : Le μ ξ := fun id x e => k id x (h id x e)

mutual
theorem V.mono {μ ν : Mu} (hl : Le μ ν) : ∀ {a : AV} {v : Value}, V μ a v → V ν a v
  | _, _, .bool b => .bool b
  | _, _, .int k n h => .int k n h
  | _, _, .str l s h h2 => .str l s h h2
  | _, _, .nilptr => .nilptr
  | _, _, .ptr id off b base lim h => .ptr id off b base lim (hl _ _ h)
  | _, _, .nilsl => .nilsl
  | _, _, .slice id off len cap ex esz a cap' h1 h2 h3 h4 h5 h6 => .slice id off len cap ex esz a cap' h1 h2 h3 h4 h5 (h6.imp (fun h => h) fun ⟨b, base, lim, e, r⟩ => ⟨b, base, lim, hl _ _ e, r⟩)
  | _, _, .nilmap => .nilmap
  | _, _, .map id b base lim h => .map id b base lim (hl _ _ h)
  | _, _, .nilf => .nilf
  | _, _, .func f x y x' y' h1 h2 => .func f x y x' y' (Vs.mono hl h1) (Vs.mono hl h2)
  | _, _, .yieldf id b base lim h => .yieldf id b base lim (hl _ _ h)
  | _, _, .nilif => .nilif
  | _, _, .iface t v v' h => .iface t v v' (V.mono hl h)
  | _, _, .agg cs cs' h h2 => .agg cs cs' (Vs.mono hl h) h2
  | _, _, .tuple vs vs' h => .tuple vs vs' (Vs.mono hl h)
theorem Vs.mono {μ ν : Mu} (hl : Le μ ν) : ∀ {as : List AV} {vs : List Value}, Vs μ as vs → Vs ν as vs
  | _, _, .nil => .nil
  | _, _, .cons a v as vs h1 h2 => .cons a v as vs (V.mono hl h1) (Vs.mono hl h2)
end

section lists
variable {μ : Mu}
theorem Vs.len : ∀ {as : List AV} {vs : List Value}, Vs μ as vs → as.length = vs.length
  | _, _, .nil => rfl
  | _, _, .cons _ _ _ _ _ h => by simp [h.len]
theorem Vs.get : ∀ {as : List AV} {vs : List Value}, Vs μ as vs → ∀ {i : Nat} {a : AV}, as[i]? = some a → ∃ v, vs[i]? = some v ∧ V μ a v
  | _, _, .nil, i, a, e => by simp at e
  | _, _, .cons a₀ v as vs h1 h2, 0, a, e => by simp at e; subst e; exact ⟨v, rfl, h1⟩
  | _, _, .cons a₀ v as vs h1 h2, i + 1, a, e => by simp at e; simpa using h2.get e
theorem Vs.get' {as : List AV} {vs : List Value} (h : Vs μ as vs) {i : Nat} {v : Value} (e : vs[i]? = some v) : ∃ a, as[i]? = some a ∧ V μ a v := by
  have hi : i < vs.length := by
    rcases Nat.lt_or_ge i vs.length with h' | h'
    · exact h'
    · simp [List.getElem?_eq_none h'] at e
  have hi' : i < as.length := by rw [h.len]; exact hi
  obtain ⟨v', e', hv⟩ := h.get (List.getElem?_eq_getElem hi')
  rw [e] at e'; cases e'
  exact ⟨_, List.getElem?_eq_getElem hi', hv⟩
theorem Vs.of_get : ∀ {as : List AV} {vs : List Value}, as.length = vs.length → (∀ (i : Nat) (a : AV) (v : Value), as[i]? = some a → vs[i]? = some v → V μ a v) → Vs μ as vs
  | [], [], _, _ => .nil
  | a :: as, v :: vs, hl, h => .cons a v as vs (h 0 a v rfl rfl) (Vs.of_get (by simpa using hl) fun i a v e1 e2 => h (i + 1) a v (by simpa using e1) (by simpa using e2))
theorem Vs.append : ∀ {as : List AV} {vs : List Value} {bs : List AV} {ws : List Value}, Vs μ as vs → Vs μ bs ws → Vs μ (as ++ bs) (vs ++ ws)
  | _, _, _, _, .nil, h => h
  | _, _, _, _, .cons a v as vs h1 h2, h => .cons _ _ _ _ h1 (h2.append h)
theorem Vs.take (n : Nat) {as : List AV} {vs : List Value} (h : Vs μ as vs) : Vs μ (as.take n) (vs.take n) :=
  .of_get (by simp [h.len]) fun i a v e1 e2 => by
    rw [List.getElem?_take] at e1 e2
    split at e1
    · rename_i hi
      rw [if_pos hi] at e2
      obtain ⟨v', e', hv⟩ := h.get e1
      rw [e2] at e'; cases e'; exact hv
    · cases e1
theorem Vs.drop (n : Nat) {as : List AV} {vs : List Value} (h : Vs μ as vs) : Vs μ (as.drop n) (vs.drop n) :=
  .of_get (by simp [h.len]) fun i a v e1 e2 => by
    rw [List.getElem?_drop] at e1 e2
    obtain ⟨v', e', hv⟩ := h.get e1
    rw [e2] at e'; cases e'; exact hv
theorem Vs.set (n : Nat) {a₀ : AV} {v₀ : Value} (h0 : V μ a₀ v₀) {as : List AV} {vs : List Value} (h : Vs μ as vs) : Vs μ (as.set n a₀) (vs.set n v₀) :=
  .of_get (by simp [h.len]) fun i a v e1 e2 => by
    rw [List.getElem?_set] at e1 e2
    split at e1
    · rename_i hi
      rw [if_pos hi] at e2
      split at e1
      · cases e1
        split at e2
        · cases e2; exact h0
        · cases e2
      · cases e1
    · rename_i hi
      rw [if_neg hi] at e2
      obtain ⟨v', e', hv⟩ := h.get e1
      rw [e2] at e'; cases e'; exact hv
theorem Vs.replicate (n : Nat) {a₀ : AV} {v₀ : Value} (h0 : V μ a₀ v₀) : Vs μ (List.replicate n a₀) (List.replicate n v₀) := by
  induction n with
  | zero => exact .nil
  | succ n ih => exact .cons _ _ _ _ h0 ih
theorem Vs.flatRep (n : Nat) {as : List AV} {vs : List Value} (h : Vs μ as vs) : Vs μ (List.replicate n as).flatten (List.replicate n vs).flatten := by
  induction n with
  | zero => exact .nil
  | succ n ih => simpa [List.replicate_succ] using h.append ih
theorem Vs.getD {as : List AV} {vs : List Value} (h : Vs μ as vs) (i : Nat) : V μ (as.getD i undefA) (vs.getD i undef) := by
  rw [List.getD_eq_getElem?_getD, List.getD_eq_getElem?_getD]
  cases e : as[i]? with
  | none =>
    have : vs[i]? = none := by
      rw [List.getElem?_eq_none_iff] at e ⊢; rw [← h.len]; exact e
    rw [this]; exact .tuple [] #[] .nil
  | some a => obtain ⟨v, e', hv⟩ := h.get e; rw [e']; exact hv
end lists

/-! ### flat values are one cell -/
theorem V.oneCell {μ : Mu} {a : AV} {v : Value} (h : V μ a v) (hf : a.flat = true) : v.oneCell' = true := by
  cases h <;> first | rfl | simp [AV.flat] at hf
theorem V.cells {μ : Mu} {a : AV} {v : Value} (h : V μ a v) : Vs μ a.cells v.cells.toList := by
  cases h with
  | agg cs cs' h _ => exact h
  | bool b => exact .cons _ _ _ _ (.bool b) .nil
  | int k n h => exact .cons _ _ _ _ (.int k n h) .nil
  | str l s h h2 => exact .cons _ _ _ _ (.str l s h h2) .nil
  | nilptr => exact .cons _ _ _ _ .nilptr .nil
  | ptr id off b base lim h => exact .cons _ _ _ _ (.ptr id off b base lim h) .nil
  | nilsl => exact .cons _ _ _ _ .nilsl .nil
  | slice id off len cap ex esz a cap' h1 h2 h3 h4 h5 h6 => exact .cons _ _ _ _ (.slice id off len cap ex esz a cap' h1 h2 h3 h4 h5 h6) .nil
  | nilmap => exact .cons _ _ _ _ .nilmap .nil
  | map id b base lim h => exact .cons _ _ _ _ (.map id b base lim h) .nil
  | nilf => exact .cons _ _ _ _ .nilf .nil
  | func f x y x' y' h1 h2 => exact .cons _ _ _ _ (.func f x y x' y' h1 h2) .nil
  | yieldf id b base lim h => exact .cons _ _ _ _ (.yieldf id b base lim h) .nil
  | nilif => exact .cons _ _ _ _ .nilif .nil
  | iface t v v' h => exact .cons _ _ _ _ (.iface t v v' h) .nil
  | tuple vs vs' h => exact .cons _ _ _ _ (.tuple vs vs' h) .nil

/-! ### constants -/
mutual
theorem cVal_sound (μ : Mu) : ∀ (v : Value) (a : AV), cVal v = some a → V μ a v
  | .bool b, a, e => by simp [cVal] at e; subst e; exact .bool b
  | .int k n, a, e => by
    simp only [cVal] at e
    split at e
    · cases e; exact .int k n ‹_›
    · cases e
  | .string s, a, e => by
    simp only [cVal] at e
    split at e
    · cases e; exact .str _ s rfl ‹_›
    · cases e
  | .pointer none, a, e => by simp [cVal] at e; subst e; exact .nilptr
  | .pointer (some _), a, e => by simp [cVal] at e
  | .slice none 0 0, a, e => by simp [cVal] at e; subst e; exact .nilsl
  | .slice none 0 (_ + 1), a, e => by simp [cVal] at e
  | .slice none (_ + 1) _, a, e => by simp [cVal] at e
  | .slice (some _) _ _, a, e => by simp [cVal] at e
  | .map none, a, e => by simp [cVal] at e; subst e; exact .nilmap
  | .map (some _), a, e => by simp [cVal] at e
  | .nilFunc, a, e => by simp [cVal] at e; subst e; exact .nilf
  | .func (.func f) ⟨[]⟩ ⟨[]⟩, a, e => by simp [cVal] at e; subst e; exact .func f [] [] #[] #[] .nil .nil
  | .func (.func f) ⟨_ :: _⟩ _, a, e => by simp [cVal] at e
  | .func (.func f) ⟨[]⟩ ⟨_ :: _⟩, a, e => by simp [cVal] at e
  | .func (.method _) _ _, a, e => by simp [cVal] at e
  | .func (.methodOf _ _) _ _, a, e => by simp [cVal] at e
  | .func (.via _ _ _ _) _ _, a, e => by simp [cVal] at e
  | .func (.yield _) _ _, a, e => by simp [cVal] at e
  | .nilIface, a, e => by simp [cVal] at e; subst e; exact .nilif
  | .iface t v, a, e => by
    simp only [cVal, Option.map_eq_some_iff] at e
    obtain ⟨b, hb, rfl⟩ := e
    exact .iface t b v (cVal_sound μ v b hb)
  | .agg ⟨cs⟩, a, e => by
    simp only [cVal] at e
    split at e
    · rename_i l hl
      split at e
      · cases e; exact .agg l ⟨cs⟩ (cVals_sound μ cs l hl) ‹_›
      · cases e
    · cases e
  | .tuple ⟨vs⟩, a, e => by
    simp only [cVal, Option.map_eq_some_iff] at e
    obtain ⟨l, hl, rfl⟩ := e
    exact .tuple l ⟨vs⟩ (cVals_sound μ vs l hl)
  | .float _ _, a, e => by simp [cVal] at e
  | .complex _ _ _, a, e => by simp [cVal] at e
  | .chan _, a, e => by simp [cVal] at e
theorem cVals_sound (μ : Mu) : ∀ (vs : List Value) (as : List AV), cVals vs = some as → Vs μ as vs
  | [], as, e => by simp [cVals] at e; subst e; exact .nil
  | v :: vs, as, e => by
    simp only [cVals] at e
    split at e
    · rename_i a l ha hl
      cases e; exact .cons _ _ _ _ (cVal_sound μ v a ha) (cVals_sound μ vs l hl)
    · cases e
end

theorem Act.eval_tmp (a : Act) (n : Nat) : a.eval (.tmp n) = a.tmps.toList.getD n undef := by
  simp [Act.eval, Array.getD_eq_getD_getElem?, List.getD_eq_getElem?_getD]

theorem cOpd_sound {μ : Mu} {tm : List AV} {a : Act} (h : Vs μ tm a.tmps.toList) {x : Operand} {s : Opd} (e : cOpd x = some s) : V μ (ev tm s) (a.eval x) := by
  cases x with
  | tmp t => simp [cOpd] at e; subst e; rw [Act.eval_tmp]; exact h.getD t
  | const v =>
    simp only [cOpd, Option.map_eq_some_iff] at e
    obtain ⟨b, hb, rfl⟩ := e
    exact cVal_sound μ v b hb
  | global g => simp [cOpd] at e
  | func f => simp [cOpd] at e; subst e; exact .func f [] [] #[] #[] .nil .nil
theorem cOpds_sound {μ : Mu} {tm : List AV} {a : Act} (h : Vs μ tm a.tmps.toList) : ∀ {xs : List Operand} {ss : List Opd}, cOpds xs = some ss → Vs μ (evs tm ss) (xs.map a.eval)
  | [], ss, e => by simp [cOpds] at e; subst e; exact .nil
  | x :: xs, ss, e => by
    simp only [cOpds] at e
    split at e
    · rename_i s l hs hl
      cases e; exact .cons _ _ _ _ (cOpd_sound h hs) (cOpds_sound h hl)
    · cases e

/-! ### the heap -/
def AObj.owned : AObj → Bool
  | .cells _ ro => !ro
  | .dead => false
  | _ => true
def AObj.live : AObj → Bool
  | .dead => false
  | _ => true

def PairsR (μ : Mu) : List (AV × AV) → List MapEntry → Prop
  | [], [] => True
  | (k, v) :: es, e :: es' => V μ k e.key ∧ V μ v e.val ∧ PairsR μ es es'
  | _, _ => False

def AExit.jump : AExit → Option Code
  | .normal => none
  | .exit id => some (.exit id)
  | .ret => some .ret

/-- One abstract block at its place. -/
def ObjR (P : Program) (μ : Mu) (o : AObj) (b base lim : Nat) (w : World) : Prop :=
  match o with
  | .cells c ro => ∃ arr t fr, w.heap[b]? = some (.cells arr t fr) ∧ lim ≤ arr.size ∧ base + c.length ≤ lim ∧
      (∀ (j : Nat) (a : AV), c[j]? = some a → ∃ v, arr[base + j]? = some v ∧ V μ a v ∧ a.flat = true) ∧
      (ro = false → ∀ j, j < arr.size → ¬ (fr.1 ≤ j ∧ j < fr.2))
  | .map es => ∃ es' clock, w.heap[b]? = some (.map es' clock) ∧ PairsR μ es es'.toList
  | .striter s pos => ∃ ba, w.heap[b]? = some (.stringIter ba pos) ∧ bytesOf ba = s ∧ ba.size ≤ 9223372036854775807 ∧ base = 0
  | .loop f tmps ps asg body st pend => ∃ l : Loop, w.heap[b]? = some (.loop l) ∧ f = f ∧ Vs μ tmps l.tmps.toList ∧ l.params.toList = ps ∧
      cCode P l.assign = some asg ∧ cCode P l.body = some body ∧ l.state = st ∧ l.pending = pend.jump
  | .dead => True

structure R (P : Program) (μ : Mu) (g : Nat → Option AObj) (w : World) : Prop where
  obj : ∀ id b base lim o, μ id = some (b, base, lim) → g id = some o → ObjR P μ o b base lim w
  inj : ∀ id id' b base lim b' base' lim' o o', id ≠ id' → μ id = some (b, base, lim) → μ id' = some (b', base', lim') → g id = some o → g id' = some o' → o.owned = true → o'.live = true → b ≠ b'

def Own (μ : Mu) (g : Nat → Option AObj) (b : Nat) : Prop := ∃ id base lim o, μ id = some (b, base, lim) ∧ g id = some o ∧ o.owned = true

structure Fr (μ : Mu) (h : Heap) (w : World) (μ' : Mu) (h' : Heap) (w' : World) : Prop where
  le : Le μ μ'
  size : w.heap.size ≤ w'.heap.size
  os : w'.os = w.os
  tape : w'.tape = w.tape
  output : w'.output = w.output
  same : ∀ b, b < w.heap.size → ¬ Own μ h.get b → w'.heap[b]? = w.heap[b]?
  own : ∀ b, Own μ' h'.get b → Own μ h.get b ∨ w.heap.size ≤ b
  nx : h.next ≤ h'.next
  dom : ∀ id, id < h.next → μ id = none → μ' id = none

theorem Fr.refl (μ : Mu) (h : Heap) (w : World) : Fr μ h w μ h w := ⟨.refl μ, Nat.le_refl _, rfl, rfl, rfl, fun _ _ _ => rfl, fun _ h => .inl h, Nat.le_refl _, fun _ _ h => h⟩
theorem Fr.trans {μ μ' μ'' : Mu} {g g' g'' : Heap} {w w' w'' : World} (h : Fr μ g w μ' g' w') (k : Fr μ' g' w' μ'' g'' w'') : Fr μ g w μ'' g'' w'' where
  le := h.le.trans k.le
  size := Nat.le_trans h.size k.size
  os := k.os.trans h.os
  tape := k.tape.trans h.tape
  output := k.output.trans h.output
  same := fun b hb hn => by
    rw [k.same b (Nat.lt_of_lt_of_le hb h.size) fun ho => ?_, h.same b hb hn]
    rcases h.own b ho with h1 | h1
    · exact hn h1
    · omega
  own := fun b hb => by
    rcases k.own b hb with h1 | h1
    · exact h.own b h1
    · exact .inr (Nat.le_trans h.size h1)
  nx := Nat.le_trans h.nx k.nx
  dom := fun id hid hn => k.dom id (Nat.lt_of_lt_of_le hid h.nx) (h.dom id hid hn)

theorem R.lt {P : Program} {μ : Mu} {g : Nat → Option AObj} {w : World} (h : R P μ g w) {id b base lim : Nat} {o : AObj} (e : μ id = some (b, base, lim)) (eg : g id = some o) (hl : o.live = true) : b < w.heap.size := by
  have := h.obj id b base lim o e eg
  cases o with
  | cells c ro => obtain ⟨arr, t, fr, hb, _⟩ := this; exact (Array.getElem?_eq_some_iff.1 hb).1
  | map es => obtain ⟨_, _, hb, _⟩ := this; exact (Array.getElem?_eq_some_iff.1 hb).1
  | striter s pos => obtain ⟨_, hb, _⟩ := this; exact (Array.getElem?_eq_some_iff.1 hb).1
  | loop => obtain ⟨_, hb, _⟩ := this; exact (Array.getElem?_eq_some_iff.1 hb).1
  | dead => simp [AObj.live] at hl

/-- An object reads as before where its block is as before. -/
theorem ObjR.of_same {P : Program} {μ ν : Mu} (hl : Le μ ν) {o : AObj} {b base lim : Nat} {w w' : World} (h : ObjR P μ o b base lim w) (e : w'.heap[b]? = w.heap[b]?) : ObjR P ν o b base lim w' := by
  cases o with
  | cells c ro =>
    obtain ⟨arr, t, fr, hb, h1, h2, h3, h4⟩ := h
    exact ⟨arr, t, fr, e.trans hb, h1, h2, fun j a ha => let ⟨v, x, y, z⟩ := h3 j a ha; ⟨v, x, y.mono hl, z⟩, h4⟩
  | map es =>
    obtain ⟨es', c, hb, h1⟩ := h
    refine ⟨es', c, e.trans hb, ?_⟩
    clear hb e
    revert h1
    generalize es'.toList = l
    induction es generalizing l with
    | nil => cases l <;> simp [PairsR]
    | cons p es ih =>
      obtain ⟨k, v⟩ := p
      cases l with
      | nil => simp [PairsR]
      | cons e l => exact fun ⟨a, b, c⟩ => ⟨a.mono hl, b.mono hl, ih l c⟩
  | striter s pos => obtain ⟨ba, hb, h1⟩ := h; exact ⟨ba, e.trans hb, h1⟩
  | loop f tmps ps asg body st pend =>
    obtain ⟨l, hb, h1, h2, h3⟩ := h
    exact ⟨l, e.trans hb, h1, h2.mono hl, h3⟩
  | dead => trivial

/-! ### what an operation leaves -/
/-- Nothing was touched. -/
theorem R.drew {P : Program} {μ : Mu} {g : Nat → Option AObj} {w : World} (h : R P μ g w) : R P μ g w.drew :=
  ⟨fun id b base lim o e1 e2 => (h.obj id b base lim o e1 e2).of_same (.refl _) rfl, h.inj⟩
theorem Fr.drew (μ : Mu) (h : Heap) (w : World) : Fr μ h w μ h w.drew := ⟨.refl μ, Nat.le_refl _, rfl, rfl, rfl, fun _ _ _ => rfl, fun _ h => .inl h, Nat.le_refl _, fun _ _ h => h⟩

def muAdd (μ : Mu) (id : Nat) (x : Nat × Nat × Nat) : Mu := fun j => if j = id then some x else μ j
theorem muAdd_same (μ : Mu) (id : Nat) (x : Nat × Nat × Nat) : muAdd μ id x id = some x := by simp [muAdd]
theorem muAdd_ne (μ : Mu) (id j : Nat) (x : Nat × Nat × Nat) (h : j ≠ id) : muAdd μ id x j = μ j := by simp [muAdd, h]
theorem Le.add {μ : Mu} {id : Nat} {x : Nat × Nat × Nat} (h : μ id = none) : Le μ (muAdd μ id x) := fun j y e => by
  unfold muAdd; split
  · subst_vars; rw [h] at e; cases e
  · exact e

/-- A new block. -/
theorem R.alloc {P : Program} {μ : Mu} {h : Heap} {w : World} (hr : R P μ h.get w) (o : AObj) (ob : Obj) (lim : Nat) (hμ : μ h.next = none)
    (ho : ObjR P (muAdd μ h.next (w.heap.size, 0, lim)) o w.heap.size 0 lim (w.alloc ob)) :
    R P (muAdd μ h.next (w.heap.size, 0, lim)) (h.alloc o).get (w.alloc ob) ∧ Fr μ h w (muAdd μ h.next (w.heap.size, 0, lim)) (h.alloc o) (w.alloc ob) := by
  have hold : ∀ b, b < w.heap.size → (w.alloc ob).heap[b]? = w.heap[b]? := fun b hb => by
    simp only [World.alloc, Array.getElem?_push]; rw [if_neg (by omega)]
  have hnone : h.get h.next = none := by simp [Heap.get]
  refine ⟨⟨?_, ?_⟩, ⟨.add hμ, by simp, rfl, rfl, rfl, fun b hb _ => hold b hb, ?_, by simp, fun id hid hn => by rw [muAdd_ne _ _ _ _ (by omega)]; exact hn⟩⟩
  · intro id b base lim' o' e1 e2
    rw [Heap.get_alloc] at e2
    by_cases hid : id = h.next
    · subst hid
      rw [muAdd_same] at e1; cases e1
      rw [if_pos rfl] at e2; cases e2
      exact ho
    · rw [muAdd_ne _ _ _ _ hid] at e1
      rw [if_neg hid] at e2
      cases hlv : o'.live with
      | true => exact (hr.obj id b base lim' o' e1 e2).of_same (.add hμ) (hold b (hr.lt e1 e2 hlv))
      | false => cases o' <;> first | trivial | simp [AObj.live] at hlv
  · intro id id' b base lim1 b' base' lim2 o1 o2 hne e1 e2 g1 g2 ho1 ho2
    rw [Heap.get_alloc] at g1 g2
    have l1 : o1.live = true := by cases o1 <;> first | rfl | simp [AObj.owned] at ho1
    by_cases hid : id = h.next
    · subst hid
      rw [muAdd_same] at e1; cases e1
      have hid' : id' ≠ h.next := fun e => hne e.symm
      rw [muAdd_ne _ _ _ _ hid'] at e2
      rw [if_neg hid'] at g2
      have := hr.lt e2 g2 ho2
      omega
    · rw [muAdd_ne _ _ _ _ hid] at e1
      rw [if_neg hid] at g1
      by_cases hid' : id' = h.next
      · subst hid'
        rw [muAdd_same] at e2; cases e2
        have := hr.lt e1 g1 l1
        omega
      · rw [muAdd_ne _ _ _ _ hid'] at e2
        rw [if_neg hid'] at g2
        exact hr.inj id id' b base lim1 b' base' lim2 o1 o2 hne e1 e2 g1 g2 ho1 ho2
  · rintro b ⟨id, base, lim', o', e1, e2, e3⟩
    rw [Heap.get_alloc] at e2
    by_cases hid : id = h.next
    · subst hid
      rw [muAdd_same] at e1; cases e1
      exact .inr (Nat.le_refl _)
    · rw [muAdd_ne _ _ _ _ hid] at e1
      rw [if_neg hid] at e2
      exact .inl ⟨id, base, lim', o', e1, e2, e3⟩

/-- A block written: only its own block of the model's heap has changed. -/
theorem R.write {P : Program} {μ : Mu} {h : Heap} {w w' : World} (hr : R P μ h.get w) {id b base lim : Nat} {o o' : AObj} (e1 : μ id = some (b, base, lim)) (e2 : h.get id = some o)
    (ho : o.owned = true) (ho' : o'.owned = true) (hsz : w'.heap.size = w.heap.size) (hos : w'.os = w.os) (htp : w'.tape = w.tape) (hout : w'.output = w.output) (hold : ∀ j, j ≠ b → w'.heap[j]? = w.heap[j]?)
    (hobj : ObjR P μ o' b base lim w') : R P μ (h.set id o').get w' ∧ Fr μ h w μ (h.set id o') w' := by
  have hlt := Heap.lt_of_get e2
  refine ⟨⟨?_, ?_⟩, ⟨.refl μ, by omega, hos, htp, hout, fun j hj hn => hold j fun e => ?_, ?_, by simp, fun _ _ h => h⟩⟩
  · intro id1 b1 base1 lim1 o1 g1 g2
    rw [Heap.get_set _ _ _ _ hlt] at g2
    by_cases hid : id1 = id
    · subst hid
      rw [if_pos rfl] at g2; cases g2
      rw [e1] at g1; cases g1
      exact hobj
    · rw [if_neg hid] at g2
      cases hlv : o1.live with
      | true => exact (hr.obj _ _ _ _ _ g1 g2).of_same (.refl μ) (hold b1 fun e => hr.inj id id1 b base lim b1 base1 lim1 o o1 (Ne.symm hid) e1 g1 e2 g2 ho hlv e.symm)
      | false => cases o1 <;> first | trivial | simp [AObj.live] at hlv
  · intro i1 i2 b1 base1 lim1 b2 base2 lim2 o1 o2 hne m1 m2 g1 g2 ho1 ho2
    rw [Heap.get_set _ _ _ _ hlt] at g1 g2
    have live_of : ∀ x : AObj, x.owned = true → x.live = true := fun x hx => by cases x <;> first | rfl | simp [AObj.owned] at hx
    by_cases c1 : i1 = id <;> by_cases c2 : i2 = id
    · exact absurd (c1.trans c2.symm) hne
    · subst c1
      rw [if_neg c2] at g2
      exact hr.inj i1 i2 _ _ _ _ _ _ o o2 hne m1 m2 e2 g2 ho ho2
    · subst c2
      rw [if_neg c1] at g1
      exact hr.inj i1 i2 _ _ _ _ _ _ o1 o hne m1 m2 g1 e2 ho1 (live_of _ ho)
    · rw [if_neg c1] at g1; rw [if_neg c2] at g2
      exact hr.inj i1 i2 _ _ _ _ _ _ o1 o2 hne m1 m2 g1 g2 ho1 ho2
  · subst e; exact hn ⟨id, base, lim, o, e1, e2, ho⟩
  · rintro b1 ⟨i1, base1, lim1, o1, m1, g1, ho1⟩
    rw [Heap.get_set _ _ _ _ hlt] at g1
    by_cases c1 : i1 = id
    · subst c1
      exact .inl ⟨i1, base1, lim1, o, m1, e2, ho⟩
    · rw [if_neg c1] at g1
      exact .inl ⟨i1, base1, lim1, o1, m1, g1, ho1⟩

end Go.Ya
