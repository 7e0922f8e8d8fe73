/-
  The abstract machine: YaRel, YaMem.
-/
import GoSem.Claims
import Derived.Laws.Sem
import Derived.Laws.World
import Derived.Below
import Derived.Lib.DecodeN
import Derived.Test.YtekbgdmemenheaaYbA
namespace Go.Ya
set_option linter.unusedVariables false
set_option linter.unusedSimpArgs false
abbrev Mu := Nat → Option (Nat × Nat × Nat)
mutual
inductive V (μ : Mu) : AV → Value → Prop
  | bool (b : Bool) : V μ (.bool b) (.bool b)
  | int (k : IntKind) (n : Int) : wfInt k n = true → V μ (.int k n) (.int k n)
  | str (l : List Int) (s : ByteArray) : bytesOf s = l → s.size ≤ 9223372036854775807 → V μ (.str l) (.string s)
  | nilptr : V μ .nilptr (.pointer none)
  | ptr (id off b base lim : Nat) : μ id = some (b, base, lim) → V μ (.ptr id off) (.pointer (some ⟨b, base + off, none⟩))
  | nilsl : V μ .nilsl (.slice none 0 0)
  | slice (id off len cap : Nat) (ex : Bool) (esz : Nat) (a : Addr) (cap' : Nat) : len ≤ cap → cap ≤ cap' → (ex = true → cap' = cap) → 0 < esz → cap' ≤ 9223372036854775807 →
      (cap' = 0 ∨ ∃ b base lim, μ id = some (b, base, lim) ∧ a = ⟨b, base + off, none⟩ ∧ base + off + cap' * esz ≤ lim) → V μ (.slice id off len cap ex esz) (.slice (some a) len cap')
  | nilmap : V μ .nilmap (.map none)
  | map (id b base lim : Nat) : μ id = some (b, base, lim) → V μ (.map id) (.map (some b))
  | nilf : V μ .nilf .nilFunc
  | func (f : FuncId) (x y : List AV) (x' y' : Array Value) : Vs μ x x'.toList → Vs μ y y'.toList → V μ (.func f x y) (.func (.func f) x' y')
  | yieldf (id b base lim : Nat) : μ id = some (b, base, lim) → V μ (.yieldf id) (.func (.yield b) #[] #[])
  | nilif : V μ .nilif .nilIface
  | iface (t : TypeId) (v : AV) (v' : Value) : V μ v v' → V μ (.iface t v) (.iface t v')
  | meth (m : String) (x : AV) (x' : Value) : V μ x x' → V μ (.meth m x) (.func (.method m) #[x'] #[])
  | agg (cs : List AV) (cs' : Array Value) : Vs μ cs cs'.toList → cs.all AV.flat = true → V μ (.agg cs) (.agg cs')
  | tuple (vs : List AV) (vs' : Array Value) : Vs μ vs vs'.toList → V μ (.tuple vs) (.tuple vs')
inductive Vs (μ : Mu) : List AV → List Value → Prop
  | nil : Vs μ [] []
  | cons (a : AV) (v : Value) (as : List AV) (vs : List Value) : V μ a v → Vs μ as vs → Vs μ (a :: as) (v :: vs)
end
def Le (μ ν : Mu) : Prop := ∀ id x, μ id = some x → ν id = some x
theorem Le.refl (μ : Mu) : Le μ μ := fun _ _ h => h
theorem Le.trans {μ ν ξ : Mu} (h : Le μ ν) (k : Le ν ξ) : Le μ ξ := fun id x e => k id x (h id x e)
mutual
theorem V.mono {μ ν : Mu} (hl : Le μ ν) : ∀ {a : AV} {v : Value}, V μ a v → V ν a v
  | _, _, .bool b => .bool b
  | _, _, .int k n h => .int k n h
  | _, _, .str l s h h2 => .str l s h h2
  | _, _, .nilptr => .nilptr
  | _, _, .ptr id off b base lim h => .ptr id off b base lim (hl _ _ h)
  | _, _, .nilsl => .nilsl
  | _, _, .slice id off len cap ex esz a cap' h1 h2 h3 h4 h5 h6 => .slice id off len cap ex esz a cap' h1 h2 h3 h4 h5 (h6.imp (fun h => h) fun ⟨b, base, lim, e, r⟩ => ⟨b, base, lim, hl _ _ e, r⟩)
  | _, _, .nilmap => .nilmap
  | _, _, .map id b base lim h => .map id b base lim (hl _ _ h)
  | _, _, .nilf => .nilf
  | _, _, .func f x y x' y' h1 h2 => .func f x y x' y' (Vs.mono hl h1) (Vs.mono hl h2)
  | _, _, .yieldf id b base lim h => .yieldf id b base lim (hl _ _ h)
  | _, _, .nilif => .nilif
  | _, _, .iface t v v' h => .iface t v v' (V.mono hl h)
  | _, _, .meth m v v' h => .meth m v v' (V.mono hl h)
  | _, _, .agg cs cs' h h2 => .agg cs cs' (Vs.mono hl h) h2
  | _, _, .tuple vs vs' h => .tuple vs vs' (Vs.mono hl h)
theorem Vs.mono {μ ν : Mu} (hl : Le μ ν) : ∀ {as : List AV} {vs : List Value}, Vs μ as vs → Vs ν as vs
  | _, _, .nil => .nil
  | _, _, .cons a v as vs h1 h2 => .cons a v as vs (V.mono hl h1) (Vs.mono hl h2)
end
section lists
variable {μ : Mu}
theorem Vs.len : ∀ {as : List AV} {vs : List Value}, Vs μ as vs → as.length = vs.length
  | _, _, .nil => rfl
  | _, _, .cons _ _ _ _ _ h => by simp [h.len]
theorem Vs.get : ∀ {as : List AV} {vs : List Value}, Vs μ as vs → ∀ {i : Nat} {a : AV}, as[i]? = some a → ∃ v, vs[i]? = some v ∧ V μ a v
  | _, _, .nil, i, a, e => by simp at e
  | _, _, .cons a₀ v as vs h1 h2, 0, a, e => by simp at e; subst e; exact ⟨v, rfl, h1⟩
  | _, _, .cons a₀ v as vs h1 h2, i + 1, a, e => by simp at e; simpa using h2.get e
theorem Vs.get' {as : List AV} {vs : List Value} (h : Vs μ as vs) {i : Nat} {v : Value} (e : vs[i]? = some v) : ∃ a, as[i]? = some a ∧ V μ a v := by
  have hi : i < vs.length := by
    rcases Nat.lt_or_ge i vs.length with h' | h'
    · exact h'
    · simp [List.getElem?_eq_none h'] at e
  have hi' : i < as.length := by rw [h.len]; exact hi
  obtain ⟨v', e', hv⟩ := h.get (List.getElem?_eq_getElem hi')
  rw [e] at e'; cases e'
  exact ⟨_, List.getElem?_eq_getElem hi', hv⟩
theorem Vs.of_get : ∀ {as : List AV} {vs : List Value}, as.length = vs.length → (∀ (i : Nat) (a : AV) (v : Value), as[i]? = some a → vs[i]? = some v → V μ a v) → Vs μ as vs
  | [], [], _, _ => .nil
  | a :: as, v :: vs, hl, h => .cons a v as vs (h 0 a v rfl rfl) (Vs.of_get (by simpa using hl) fun i a v e1 e2 => h (i + 1) a v (by simpa using e1) (by simpa using e2))
theorem Vs.append : ∀ {as : List AV} {vs : List Value} {bs : List AV} {ws : List Value}, Vs μ as vs → Vs μ bs ws → Vs μ (as ++ bs) (vs ++ ws)
  | _, _, _, _, .nil, h => h
  | _, _, _, _, .cons a v as vs h1 h2, h => .cons _ _ _ _ h1 (h2.append h)
theorem Vs.take (n : Nat) {as : List AV} {vs : List Value} (h : Vs μ as vs) : Vs μ (as.take n) (vs.take n) :=
  .of_get (by simp [h.len]) fun i a v e1 e2 => by
    rw [List.getElem?_take] at e1 e2
    split at e1
    · rename_i hi
      rw [if_pos hi] at e2
      obtain ⟨v', e', hv⟩ := h.get e1
      rw [e2] at e'; cases e'; exact hv
    · cases e1
theorem Vs.drop (n : Nat) {as : List AV} {vs : List Value} (h : Vs μ as vs) : Vs μ (as.drop n) (vs.drop n) :=
  .of_get (by simp [h.len]) fun i a v e1 e2 => by
    rw [List.getElem?_drop] at e1 e2
    obtain ⟨v', e', hv⟩ := h.get e1
    rw [e2] at e'; cases e'; exact hv
theorem Vs.set (n : Nat) {a₀ : AV} {v₀ : Value} (h0 : V μ a₀ v₀) {as : List AV} {vs : List Value} (h : Vs μ as vs) : Vs μ (as.set n a₀) (vs.set n v₀) :=
  .of_get (by simp [h.len]) fun i a v e1 e2 => by
    rw [List.getElem?_set] at e1 e2
    split at e1
    · rename_i hi
      rw [if_pos hi] at e2
      split at e1
      · cases e1
        split at e2
        · cases e2; exact h0
        · cases e2
      · cases e1
    · rename_i hi
      rw [if_neg hi] at e2
      obtain ⟨v', e', hv⟩ := h.get e1
      rw [e2] at e'; cases e'; exact hv
theorem Vs.replicate (n : Nat) {a₀ : AV} {v₀ : Value} (h0 : V μ a₀ v₀) : Vs μ (List.replicate n a₀) (List.replicate n v₀) := by
  induction n with
  | zero => exact .nil
  | succ n ih => exact .cons _ _ _ _ h0 ih
theorem Vs.flatRep (n : Nat) {as : List AV} {vs : List Value} (h : Vs μ as vs) : Vs μ (List.replicate n as).flatten (List.replicate n vs).flatten := by
  induction n with
  | zero => exact .nil
  | succ n ih => simpa [List.replicate_succ] using h.append ih
theorem Vs.getD {as : List AV} {vs : List Value} (h : Vs μ as vs) (i : Nat) : V μ (as.getD i undefA) (vs.getD i undef) := by
  rw [List.getD_eq_getElem?_getD, List.getD_eq_getElem?_getD]
  cases e : as[i]? with
  | none =>
    have : vs[i]? = none := by
      rw [List.getElem?_eq_none_iff] at e ⊢; rw [← h.len]; exact e
    rw [this]; exact .tuple [] #[] .nil
  | some a => obtain ⟨v, e', hv⟩ := h.get e; rw [e']; exact hv
end lists
/-! ### flat values are one cell -/
theorem V.oneCell {μ : Mu} {a : AV} {v : Value} (h : V μ a v) (hf : a.flat = true) : v.oneCell' = true := by
  cases h <;> first | rfl | simp [AV.flat] at hf
theorem V.cells {μ : Mu} {a : AV} {v : Value} (h : V μ a v) : Vs μ a.cells v.cells.toList := by
  cases h with
  | agg cs cs' h _ => exact h
  | bool b => exact .cons _ _ _ _ (.bool b) .nil
  | int k n h => exact .cons _ _ _ _ (.int k n h) .nil
  | str l s h h2 => exact .cons _ _ _ _ (.str l s h h2) .nil
  | nilptr => exact .cons _ _ _ _ .nilptr .nil
  | ptr id off b base lim h => exact .cons _ _ _ _ (.ptr id off b base lim h) .nil
  | nilsl => exact .cons _ _ _ _ .nilsl .nil
  | slice id off len cap ex esz a cap' h1 h2 h3 h4 h5 h6 => exact .cons _ _ _ _ (.slice id off len cap ex esz a cap' h1 h2 h3 h4 h5 h6) .nil
  | nilmap => exact .cons _ _ _ _ .nilmap .nil
  | map id b base lim h => exact .cons _ _ _ _ (.map id b base lim h) .nil
  | nilf => exact .cons _ _ _ _ .nilf .nil
  | func f x y x' y' h1 h2 => exact .cons _ _ _ _ (.func f x y x' y' h1 h2) .nil
  | yieldf id b base lim h => exact .cons _ _ _ _ (.yieldf id b base lim h) .nil
  | nilif => exact .cons _ _ _ _ .nilif .nil
  | iface t v v' h => exact .cons _ _ _ _ (.iface t v v' h) .nil
  | meth m v v' h => exact .cons _ _ _ _ (.meth m v v' h) .nil
  | tuple vs vs' h => exact .cons _ _ _ _ (.tuple vs vs' h) .nil
/-! ### constants -/
mutual
theorem cVal_sound (μ : Mu) : ∀ (v : Value) (a : AV), cVal v = some a → V μ a v
  | .bool b, a, e => by simp [cVal] at e; subst e; exact .bool b
  | .int k n, a, e => by
    simp only [cVal] at e
    split at e
    · cases e; exact .int k n ‹_›
    · cases e
  | .string s, a, e => by
    simp only [cVal] at e
    split at e
    · cases e; exact .str _ s rfl ‹_›
    · cases e
  | .pointer none, a, e => by simp [cVal] at e; subst e; exact .nilptr
  | .pointer (some _), a, e => by simp [cVal] at e
  | .slice none 0 0, a, e => by simp [cVal] at e; subst e; exact .nilsl
  | .slice none 0 (_ + 1), a, e => by simp [cVal] at e
  | .slice none (_ + 1) _, a, e => by simp [cVal] at e
  | .slice (some _) _ _, a, e => by simp [cVal] at e
  | .map none, a, e => by simp [cVal] at e; subst e; exact .nilmap
  | .map (some _), a, e => by simp [cVal] at e
  | .nilFunc, a, e => by simp [cVal] at e; subst e; exact .nilf
  | .func (.func f) ⟨[]⟩ ⟨[]⟩, a, e => by simp [cVal] at e; subst e; exact .func f [] [] #[] #[] .nil .nil
  | .func (.func f) ⟨_ :: _⟩ _, a, e => by simp [cVal] at e
  | .func (.func f) ⟨[]⟩ ⟨_ :: _⟩, a, e => by simp [cVal] at e
  | .func (.method _) _ _, a, e => by simp [cVal] at e
  | .func (.methodOf _ _) _ _, a, e => by simp [cVal] at e
  | .func (.via _ _ _ _) _ _, a, e => by simp [cVal] at e
  | .func (.yield _) _ _, a, e => by simp [cVal] at e
  | .nilIface, a, e => by simp [cVal] at e; subst e; exact .nilif
  | .iface t v, a, e => by
    simp only [cVal, Option.map_eq_some_iff] at e
    obtain ⟨b, hb, rfl⟩ := e
    exact .iface t b v (cVal_sound μ v b hb)
  | .agg ⟨cs⟩, a, e => by
    simp only [cVal] at e
    split at e
    · rename_i l hl
      split at e
      · cases e; exact .agg l ⟨cs⟩ (cVals_sound μ cs l hl) ‹_›
      · cases e
    · cases e
  | .tuple ⟨vs⟩, a, e => by
    simp only [cVal, Option.map_eq_some_iff] at e
    obtain ⟨l, hl, rfl⟩ := e
    exact .tuple l ⟨vs⟩ (cVals_sound μ vs l hl)
  | .float _ _, a, e => by simp [cVal] at e
  | .complex _ _ _, a, e => by simp [cVal] at e
  | .chan _, a, e => by simp [cVal] at e
theorem cVals_sound (μ : Mu) : ∀ (vs : List Value) (as : List AV), cVals vs = some as → Vs μ as vs
  | [], as, e => by simp [cVals] at e; subst e; exact .nil
  | v :: vs, as, e => by
    simp only [cVals] at e
    split at e
    · rename_i a l ha hl
      cases e; exact .cons _ _ _ _ (cVal_sound μ v a ha) (cVals_sound μ vs l hl)
    · cases e
end
theorem Act.eval_tmp (a : Act) (n : Nat) : a.eval (.tmp n) = a.tmps.toList.getD n undef := by
  simp [Act.eval, Array.getD_eq_getD_getElem?, List.getD_eq_getElem?_getD]
theorem cOpd_sound {μ : Mu} {tm : List AV} {a : Act} (h : Vs μ tm a.tmps.toList) {x : Operand} {s : Opd} (e : cOpd x = some s) : V μ (ev tm s) (a.eval x) := by
  cases x with
  | tmp t => simp [cOpd] at e; subst e; rw [Act.eval_tmp]; exact h.getD t
  | const v =>
    simp only [cOpd, Option.map_eq_some_iff] at e
    obtain ⟨b, hb, rfl⟩ := e
    exact cVal_sound μ v b hb
  | global g => simp [cOpd] at e
  | func f => simp [cOpd] at e; subst e; exact .func f [] [] #[] #[] .nil .nil
theorem cOpds_sound {μ : Mu} {tm : List AV} {a : Act} (h : Vs μ tm a.tmps.toList) : ∀ {xs : List Operand} {ss : List Opd}, cOpds xs = some ss → Vs μ (evs tm ss) (xs.map a.eval)
  | [], ss, e => by simp [cOpds] at e; subst e; exact .nil
  | x :: xs, ss, e => by
    simp only [cOpds] at e
    split at e
    · rename_i s l hs hl
      cases e; exact .cons _ _ _ _ (cOpd_sound h hs) (cOpds_sound h hl)
    · cases e
/-! ### the heap -/
def AObj.owned : AObj → Bool
  | .cells _ ro => !ro
  | .dead => false
  | _ => true
def AObj.live : AObj → Bool
  | .dead => false
  | _ => true
def PairsR (μ : Mu) : List (AV × AV) → List MapEntry → Prop
  | [], [] => True
  | (k, v) :: es, e :: es' => V μ k e.key ∧ V μ v e.val ∧ PairsR μ es es'
  | _, _ => False
def AExit.jump : AExit → Option Code
  | .normal => none
  | .exit id => some (.exit id)
  | .ret => some .ret
def Stampd (es : Array MapEntry) (clock : Nat) : Prop := (∀ x ∈ es.toList, x.born < clock) ∧ (es.toList.map (·.born)).Nodup
theorem stampd_empty (c : Nat) : Stampd #[] c := ⟨by simp, by simp⟩
theorem stampd_push {es : Array MapEntry} {clock : Nat} (h : Stampd es clock) {key val : Value} : Stampd (es.push { key, val, born := clock }) (clock + 1) := by
  obtain ⟨h1, h2⟩ := h
  refine ⟨?_, ?_⟩
  · intro x hx
    simp only [Array.toList_push, List.mem_append, List.mem_singleton] at hx
    rcases hx with hx | rfl
    · exact Nat.lt_succ_of_lt (h1 x hx)
    · exact Nat.lt_succ_self _
  · simp only [Array.toList_push, List.map_append, List.map_cons, List.map_nil]
    refine List.nodup_append.2 ⟨h2, by simp, ?_⟩
    intro a ha b hb
    simp only [List.mem_singleton] at hb
    subst hb
    obtain ⟨x, hx, rfl⟩ := List.mem_map.1 ha
    exact Nat.ne_of_lt (h1 x hx)
theorem stampd_modify {es : Array MapEntry} {clock : Nat} (h : Stampd es clock) (i : Nat) (f : MapEntry → MapEntry) (hb : ∀ e, (f e).born = e.born) : Stampd (es.modify i f) clock := by
  have e : (es.modify i f).toList.map (·.born) = es.toList.map (·.born) := by
    apply List.ext_getElem?
    intro j
    simp only [List.getElem?_map, Array.getElem?_toList, Array.getElem?_modify]
    split
    · cases es[j]? with
      | none => rfl
      | some x => simp [hb]
    · rfl
  refine ⟨fun x hx => ?_, by rw [e]; exact h.2⟩
  have : x.born ∈ es.toList.map (·.born) := by rw [← e]; exact List.mem_map.2 ⟨x, hx, rfl⟩
  obtain ⟨y, hy, hxy⟩ := List.mem_map.1 this
  rw [← hxy]; exact h.1 y hy
def ObjR (P : Program) (μ : Mu) (o : AObj) (b base lim : Nat) (w : World) : Prop :=
  match o with
  | .cells c ro => ∃ arr t fr, w.heap[b]? = some (.cells arr t fr) ∧ lim ≤ arr.size ∧ base + c.length ≤ lim ∧
      (∀ (j : Nat) (a : AV), c[j]? = some a → ∃ v, arr[base + j]? = some v ∧ V μ a v ∧ a.flat = true) ∧
      (ro = false → ∀ j, j < arr.size → ¬ (fr.1 ≤ j ∧ j < fr.2))
  | .map es => ∃ es' clock, w.heap[b]? = some (.map es' clock) ∧ PairsR μ es es'.toList ∧ Stampd es' clock
  | .striter s pos => ∃ ba, w.heap[b]? = some (.stringIter ba pos) ∧ bytesOf ba = s ∧ ba.size ≤ 9223372036854775807 ∧ base = 0
  | .loop f tmps ps asg body st pend => ∃ l : Loop, w.heap[b]? = some (.loop l) ∧ f = f ∧ Vs μ tmps l.tmps.toList ∧ l.params.toList = ps ∧
      cCode P l.assign = some asg ∧ cCode P l.body = some body ∧ l.state = st ∧ l.pending = pend.jump
  | .dead => True
structure R (P : Program) (μ : Mu) (g : Nat → Option AObj) (w : World) : Prop where
  obj : ∀ id b base lim o, μ id = some (b, base, lim) → g id = some o → ObjR P μ o b base lim w
  inj : ∀ id id' b base lim b' base' lim' o o', id ≠ id' → μ id = some (b, base, lim) → μ id' = some (b', base', lim') → g id = some o → g id' = some o' → o.owned = true → o'.live = true → b ≠ b'
def Own (μ : Mu) (g : Nat → Option AObj) (b : Nat) : Prop := ∃ id base lim o, μ id = some (b, base, lim) ∧ g id = some o ∧ o.owned = true
structure Fr (μ : Mu) (h : Heap) (w : World) (μ' : Mu) (h' : Heap) (w' : World) : Prop where
  le : Le μ μ'
  size : w.heap.size ≤ w'.heap.size
  os : w'.os = w.os
  tape : w'.tape = w.tape
  output : w'.output = w.output
  same : ∀ b, b < w.heap.size → ¬ Own μ h.get b → w'.heap[b]? = w.heap[b]?
  own : ∀ b, Own μ' h'.get b → Own μ h.get b ∨ w.heap.size ≤ b
  nx : h.next ≤ h'.next
  dom : ∀ id, id < h.next → μ id = none → μ' id = none
theorem Fr.refl (μ : Mu) (h : Heap) (w : World) : Fr μ h w μ h w := ⟨.refl μ, Nat.le_refl _, rfl, rfl, rfl, fun _ _ _ => rfl, fun _ h => .inl h, Nat.le_refl _, fun _ _ h => h⟩
theorem Fr.trans {μ μ' μ'' : Mu} {g g' g'' : Heap} {w w' w'' : World} (h : Fr μ g w μ' g' w') (k : Fr μ' g' w' μ'' g'' w'') : Fr μ g w μ'' g'' w'' where
  le := h.le.trans k.le
  size := Nat.le_trans h.size k.size
  os := k.os.trans h.os
  tape := k.tape.trans h.tape
  output := k.output.trans h.output
  same := fun b hb hn => by
    rw [k.same b (Nat.lt_of_lt_of_le hb h.size) fun ho => ?_, h.same b hb hn]
    rcases h.own b ho with h1 | h1
    · exact hn h1
    · omega
  own := fun b hb => by
    rcases k.own b hb with h1 | h1
    · exact h.own b h1
    · exact .inr (Nat.le_trans h.size h1)
  nx := Nat.le_trans h.nx k.nx
  dom := fun id hid hn => k.dom id (Nat.lt_of_lt_of_le hid h.nx) (h.dom id hid hn)
theorem R.lt {P : Program} {μ : Mu} {g : Nat → Option AObj} {w : World} (h : R P μ g w) {id b base lim : Nat} {o : AObj} (e : μ id = some (b, base, lim)) (eg : g id = some o) (hl : o.live = true) : b < w.heap.size := by
  have := h.obj id b base lim o e eg
  cases o with
  | cells c ro => obtain ⟨arr, t, fr, hb, _⟩ := this; exact (Array.getElem?_eq_some_iff.1 hb).1
  | map es => obtain ⟨_, _, hb, _⟩ := this; exact (Array.getElem?_eq_some_iff.1 hb).1
  | striter s pos => obtain ⟨_, hb, _⟩ := this; exact (Array.getElem?_eq_some_iff.1 hb).1
  | loop => obtain ⟨_, hb, _⟩ := this; exact (Array.getElem?_eq_some_iff.1 hb).1
  | dead => simp [AObj.live] at hl
theorem ObjR.of_same {P : Program} {μ ν : Mu} (hl : Le μ ν) {o : AObj} {b base lim : Nat} {w w' : World} (h : ObjR P μ o b base lim w) (e : w'.heap[b]? = w.heap[b]?) : ObjR P ν o b base lim w' := by
  cases o with
  | cells c ro =>
    obtain ⟨arr, t, fr, hb, h1, h2, h3, h4⟩ := h
    exact ⟨arr, t, fr, e.trans hb, h1, h2, fun j a ha => let ⟨v, x, y, z⟩ := h3 j a ha; ⟨v, x, y.mono hl, z⟩, h4⟩
  | map es =>
    obtain ⟨es', c, hb, h1, hst⟩ := h
    refine ⟨es', c, e.trans hb, ?_, hst⟩
    clear hb e hst
    revert h1
    generalize es'.toList = l
    induction es generalizing l with
    | nil => cases l <;> simp [PairsR]
    | cons p es ih =>
      obtain ⟨k, v⟩ := p
      cases l with
      | nil => simp [PairsR]
      | cons e l => exact fun ⟨a, b, c⟩ => ⟨a.mono hl, b.mono hl, ih l c⟩
  | striter s pos => obtain ⟨ba, hb, h1⟩ := h; exact ⟨ba, e.trans hb, h1⟩
  | loop f tmps ps asg body st pend =>
    obtain ⟨l, hb, h1, h2, h3⟩ := h
    exact ⟨l, e.trans hb, h1, h2.mono hl, h3⟩
  | dead => trivial
/-! ### what an operation leaves -/
theorem R.drew {P : Program} {μ : Mu} {g : Nat → Option AObj} {w : World} (h : R P μ g w) : R P μ g w.drew :=
  ⟨fun id b base lim o e1 e2 => (h.obj id b base lim o e1 e2).of_same (.refl _) rfl, h.inj⟩
theorem Fr.drew (μ : Mu) (h : Heap) (w : World) : Fr μ h w μ h w.drew := ⟨.refl μ, Nat.le_refl _, rfl, rfl, rfl, fun _ _ _ => rfl, fun _ h => .inl h, Nat.le_refl _, fun _ _ h => h⟩
def muAdd (μ : Mu) (id : Nat) (x : Nat × Nat × Nat) : Mu := fun j => if j = id then some x else μ j
theorem muAdd_same (μ : Mu) (id : Nat) (x : Nat × Nat × Nat) : muAdd μ id x id = some x := by simp [muAdd]
theorem muAdd_ne (μ : Mu) (id j : Nat) (x : Nat × Nat × Nat) (h : j ≠ id) : muAdd μ id x j = μ j := by simp [muAdd, h]
theorem Le.add {μ : Mu} {id : Nat} {x : Nat × Nat × Nat} (h : μ id = none) : Le μ (muAdd μ id x) := fun j y e => by
  unfold muAdd; split
  · subst_vars; rw [h] at e; cases e
  · exact e
theorem R.alloc {P : Program} {μ : Mu} {h : Heap} {w : World} (hr : R P μ h.get w) (o : AObj) (ob : Obj) (lim : Nat) (hμ : μ h.next = none)
    (ho : ObjR P (muAdd μ h.next (w.heap.size, 0, lim)) o w.heap.size 0 lim (w.alloc ob)) :
    R P (muAdd μ h.next (w.heap.size, 0, lim)) (h.alloc o).get (w.alloc ob) ∧ Fr μ h w (muAdd μ h.next (w.heap.size, 0, lim)) (h.alloc o) (w.alloc ob) := by
  have hold : ∀ b, b < w.heap.size → (w.alloc ob).heap[b]? = w.heap[b]? := fun b hb => by
    simp only [World.alloc, Array.getElem?_push]; rw [if_neg (by omega)]
  have hnone : h.get h.next = none := by simp [Heap.get]
  refine ⟨⟨?_, ?_⟩, ⟨.add hμ, by simp, rfl, rfl, rfl, fun b hb _ => hold b hb, ?_, by simp, fun id hid hn => by rw [muAdd_ne _ _ _ _ (by omega)]; exact hn⟩⟩
  · intro id b base lim' o' e1 e2
    rw [Heap.get_alloc] at e2
    by_cases hid : id = h.next
    · subst hid
      rw [muAdd_same] at e1; cases e1
      rw [if_pos rfl] at e2; cases e2
      exact ho
    · rw [muAdd_ne _ _ _ _ hid] at e1
      rw [if_neg hid] at e2
      cases hlv : o'.live with
      | true => exact (hr.obj id b base lim' o' e1 e2).of_same (.add hμ) (hold b (hr.lt e1 e2 hlv))
      | false => cases o' <;> first | trivial | simp [AObj.live] at hlv
  · intro id id' b base lim1 b' base' lim2 o1 o2 hne e1 e2 g1 g2 ho1 ho2
    rw [Heap.get_alloc] at g1 g2
    have l1 : o1.live = true := by cases o1 <;> first | rfl | simp [AObj.owned] at ho1
    by_cases hid : id = h.next
    · subst hid
      rw [muAdd_same] at e1; cases e1
      have hid' : id' ≠ h.next := fun e => hne e.symm
      rw [muAdd_ne _ _ _ _ hid'] at e2
      rw [if_neg hid'] at g2
      have := hr.lt e2 g2 ho2
      omega
    · rw [muAdd_ne _ _ _ _ hid] at e1
      rw [if_neg hid] at g1
      by_cases hid' : id' = h.next
      · subst hid'
        rw [muAdd_same] at e2; cases e2
        have := hr.lt e1 g1 l1
        omega
      · rw [muAdd_ne _ _ _ _ hid'] at e2
        rw [if_neg hid'] at g2
        exact hr.inj id id' b base lim1 b' base' lim2 o1 o2 hne e1 e2 g1 g2 ho1 ho2
  · rintro b ⟨id, base, lim', o', e1, e2, e3⟩
    rw [Heap.get_alloc] at e2
    by_cases hid : id = h.next
    · subst hid
      rw [muAdd_same] at e1; cases e1
      exact .inr (Nat.le_refl _)
    · rw [muAdd_ne _ _ _ _ hid] at e1
      rw [if_neg hid] at e2
      exact .inl ⟨id, base, lim', o', e1, e2, e3⟩
theorem R.write {P : Program} {μ : Mu} {h : Heap} {w w' : World} (hr : R P μ h.get w) {id b base lim : Nat} {o o' : AObj} (e1 : μ id = some (b, base, lim)) (e2 : h.get id = some o)
    (ho : o.owned = true) (ho' : o'.owned = true) (hsz : w'.heap.size = w.heap.size) (hos : w'.os = w.os) (htp : w'.tape = w.tape) (hout : w'.output = w.output) (hold : ∀ j, j ≠ b → w'.heap[j]? = w.heap[j]?)
    (hobj : ObjR P μ o' b base lim w') : R P μ (h.set id o').get w' ∧ Fr μ h w μ (h.set id o') w' := by
  have hlt := Heap.lt_of_get e2
  refine ⟨⟨?_, ?_⟩, ⟨.refl μ, by omega, hos, htp, hout, fun j hj hn => hold j fun e => ?_, ?_, by simp, fun _ _ h => h⟩⟩
  · intro id1 b1 base1 lim1 o1 g1 g2
    rw [Heap.get_set _ _ _ _ hlt] at g2
    by_cases hid : id1 = id
    · subst hid
      rw [if_pos rfl] at g2; cases g2
      rw [e1] at g1; cases g1
      exact hobj
    · rw [if_neg hid] at g2
      cases hlv : o1.live with
      | true => exact (hr.obj _ _ _ _ _ g1 g2).of_same (.refl μ) (hold b1 fun e => hr.inj id id1 b base lim b1 base1 lim1 o o1 (Ne.symm hid) e1 g1 e2 g2 ho hlv e.symm)
      | false => cases o1 <;> first | trivial | simp [AObj.live] at hlv
  · intro i1 i2 b1 base1 lim1 b2 base2 lim2 o1 o2 hne m1 m2 g1 g2 ho1 ho2
    rw [Heap.get_set _ _ _ _ hlt] at g1 g2
    have live_of : ∀ x : AObj, x.owned = true → x.live = true := fun x hx => by cases x <;> first | rfl | simp [AObj.owned] at hx
    by_cases c1 : i1 = id <;> by_cases c2 : i2 = id
    · exact absurd (c1.trans c2.symm) hne
    · subst c1
      rw [if_neg c2] at g2
      exact hr.inj i1 i2 _ _ _ _ _ _ o o2 hne m1 m2 e2 g2 ho ho2
    · subst c2
      rw [if_neg c1] at g1
      exact hr.inj i1 i2 _ _ _ _ _ _ o1 o hne m1 m2 g1 e2 ho1 (live_of _ ho)
    · rw [if_neg c1] at g1; rw [if_neg c2] at g2
      exact hr.inj i1 i2 _ _ _ _ _ _ o1 o2 hne m1 m2 g1 g2 ho1 ho2
  · subst e; exact hn ⟨id, base, lim, o, e1, e2, ho⟩
  · rintro b1 ⟨i1, base1, lim1, o1, m1, g1, ho1⟩
    rw [Heap.get_set _ _ _ _ hlt] at g1
    by_cases c1 : i1 = id
    · subst c1
      exact .inl ⟨i1, base1, lim1, o, m1, e2, ho⟩
    · rw [if_neg c1] at g1
      exact .inl ⟨i1, base1, lim1, o1, m1, g1, ho1⟩
end Go.Ya
namespace Go.Ya
set_option linter.unusedVariables false
set_option linter.unusedSimpArgs false
def Mk (μ : Mu) (h : Heap) (w : World) : Prop := ∀ id, h.byteAt id = true → ∀ b base lim c ro, μ id = some (b, base, lim) → h.get id = some (.cells c ro) →
  ∃ arr t fr, w.heap[b]? = some (.cells arr t fr) ∧ ∀ j, base + c.length ≤ j → j < lim → ∃ n, arr[j]? = some (.int .u8 n) ∧ wfInt .u8 n = true
def Tb (P : Program) (μ : Mu) (h : Heap) (w : World) : Prop := ∀ g3 g4, P.globalNamed "unicode/utf8.first" = some g3 → P.globalNamed "unicode/utf8.acceptRanges" = some g4 →
  (g3 < w.heap.size ∧ g4 < w.heap.size) ∧ (¬ Own μ h.get g3 ∧ ¬ Own μ h.get g4) ∧
  (∀ c, c < 256 → w.cell? ⟨g3, c, none⟩ = some (.int .u8 (Lib.firstT c))) ∧
  (∀ i, i < 16 → w.cell? ⟨g4, 2 * i, none⟩ = some (.int .u8 (Lib.accLo i)) ∧ w.cell? ⟨g4, 2 * i + 1, none⟩ = some (.int .u8 (Lib.accHi i)))
theorem cell_same {w w' : World} {b o : Nat} (e : w'.heap[b]? = w.heap[b]?) : w'.cell? ⟨b, o, none⟩ = w.cell? ⟨b, o, none⟩ := by
  simp only [World.cell?]; rw [e]
theorem Tb.at {P : Program} {μ ν : Mu} {h h' : Heap} {w w' : World} (t : Tb P μ h w) (h1 : w.heap.size ≤ w'.heap.size)
    (h2 : ∀ g, P.globalNamed "unicode/utf8.first" = some g ∨ P.globalNamed "unicode/utf8.acceptRanges" = some g → g < w.heap.size → ¬ Own μ h.get g → w'.heap[g]? = w.heap[g]?) (h3 : ∀ b, Own ν h'.get b → Own μ h.get b ∨ w.heap.size ≤ b) : Tb P ν h' w' := fun g3 g4 e3 e4 => by
  obtain ⟨⟨l3, l4⟩, ⟨o3, o4⟩, c3, c4⟩ := t g3 g4 e3 e4
  have s3 := h2 g3 (.inl e3) l3 o3
  have s4 := h2 g4 (.inr e4) l4 o4
  refine ⟨⟨by omega, by omega⟩, ⟨fun o => (h3 g3 o).elim o3 (by omega), fun o => (h3 g4 o).elim o4 (by omega)⟩, fun c hc => (cell_same s3).trans (c3 c hc), fun i hi => ⟨(cell_same s4).trans (c4 i hi).1, (cell_same s4).trans (c4 i hi).2⟩⟩
theorem Tb.step {P : Program} {μ ν : Mu} {h h' : Heap} {w w' : World} (t : Tb P μ h w) (h1 : w.heap.size ≤ w'.heap.size)
    (h2 : ∀ b, b < w.heap.size → ¬ Own μ h.get b → w'.heap[b]? = w.heap[b]?) (h3 : ∀ b, Own ν h'.get b → Own μ h.get b ∨ w.heap.size ≤ b) : Tb P ν h' w' := t.at h1 (fun g _ => h2 g) h3
theorem Tb.fr {P : Program} {μ ν : Mu} {h h' : Heap} {w w' : World} (t : Tb P μ h w) (f : Fr μ h w ν h' w') : Tb P ν h' w' := t.step f.size f.same f.own
theorem Tb.own {P : Program} {μ : Mu} {h h' : Heap} {w : World} (t : Tb P μ h w) (h3 : ∀ b, Own μ h'.get b → Own μ h.get b) : Tb P μ h' w := t.step (Nat.le_refl _) (fun _ _ _ => rfl) fun b hb => .inl (h3 b hb)
theorem Tb.put {P : Program} {μ : Mu} {h : Heap} {w w' : World} (t : Tb P μ h w) {r : Nat} {o : Obj} (hr : w.heap[r]? = some o) (ho : ∀ a t f, o ≠ .cells a t f) (h1 : w.heap.size ≤ w'.heap.size) (h2 : ∀ b, b ≠ r → w'.heap[b]? = w.heap[b]?) : Tb P μ h w' := by
  refine fun g3 g4 e3 e4 => t.at h1 (fun g hg _ _ => h2 g fun e => ?_) (fun b hb => .inl hb) g3 g4 e3 e4
  subst e
  obtain ⟨_, _, c3, c4⟩ := t g3 g4 e3 e4
  have k : ∀ {x : Value} {i : Nat}, w.cell? ⟨g, i, none⟩ = some x → False := fun {x i} e => by
    simp only [World.cell?, hr] at e
    cases o with
    | cells a t f => exact ho a t f rfl
    | _ => cases e
  rcases hg with q | q
  · rw [q] at e3; cases e3; exact k (c3 0 (by omega))
  · rw [q] at e4; cases e4; exact k (c4 0 (by omega)).1
structure St (P : Program) (μ : Mu) (h : Heap) (w : World) : Prop where
  r : R P μ h.get w
  bd : ∀ id, h.next ≤ id → μ id = none
  mkd : Mk μ h w
  tb : Tb P μ h w
theorem notMark (ba : ByteArray) (n : Nat) : (AObj.striter (bytesOf ba) n).isMark = false := by
  unfold AObj.isMark
  rw [beq_eq_false_iff_ne]
  intro e
  have : (-1 : Int) ∈ bytesOf ba := by rw [e]; simp
  simp [bytesOf] at this
theorem Mk.same {μ ν : Mu} {h h' : Heap} {w w' : World} (mk : Mk μ h w) (hb : ∀ id, h'.byteAt id = true → h.byteAt id = true ∧ ν id = μ id ∧ h'.get id = h.get id)
    (hw : ∀ id b base lim c ro, h.byteAt id = true → μ id = some (b, base, lim) → h.get id = some (.cells c ro) → w'.heap[b]? = w.heap[b]?) : Mk ν h' w' := by
  intro id e b base lim c ro m g
  obtain ⟨e1, e2, e3⟩ := hb id e
  rw [e2] at m
  rw [e3] at g
  obtain ⟨arr, t, fr, h1, h2⟩ := mk id e1 b base lim c ro m g
  exact ⟨arr, t, fr, (hw id b base lim c ro e1 m g).trans h1, h2⟩
theorem Mk.sameH {μ : Mu} {h : Heap} {w w' : World} (mk : Mk μ h w) (hw : ∀ id b base lim c ro, μ id = some (b, base, lim) → h.get id = some (.cells c ro) → w'.heap[b]? = w.heap[b]?) : Mk μ h w' :=
  mk.same (fun id e => ⟨e, rfl, rfl⟩) fun id b base lim c ro _ m g => hw id b base lim c ro m g
theorem Mk.alloc {P : Program} {μ : Mu} {h : Heap} {w : World} (mk : Mk μ h w) (hr : R P μ h.get w) (o : AObj) (ho : o.isMark = false) (ob : Obj) (x : Nat × Nat × Nat) : Mk (muAdd μ h.next x) (h.alloc o) (w.alloc ob) := by
  refine mk.same (fun id e => ?_) fun id b base lim c ro e m g => ?_
  · have e1 := Heap.byteAt_alloc ho e
    have := Heap.byteAt_lt e1
    exact ⟨e1, muAdd_ne _ _ _ _ (by omega), by rw [Heap.get_alloc, if_neg (by omega)]⟩
  · have := hr.lt m g rfl
    simp only [World.alloc, Array.getElem?_push]; rw [if_neg (by omega)]
theorem Mk.write {P : Program} {μ : Mu} {h : Heap} {w w' : World} (mk : Mk μ h w) (hr : R P μ h.get w) {i b base lim : Nat} {o o' : AObj} (e1 : μ i = some (b, base, lim)) (e2 : h.get i = some o) (ho : o.owned = true) (ho' : o'.isMark = false)
    (hold : ∀ j, j ≠ b → w'.heap[j]? = w.heap[j]?)
    (hrest : ∀ c' ro', o' = .cells c' ro' → ∃ c ro, o = .cells c ro ∧ c'.length = c.length ∧ ∀ arr t fr, w.heap[b]? = some (.cells arr t fr) → ∃ arr' t' fr', w'.heap[b]? = some (.cells arr' t' fr') ∧ ∀ j, base + c.length ≤ j → arr'[j]? = arr[j]?) : Mk μ (h.set i o') w' := by
  have hi := Heap.lt_of_get e2
  intro id e b1 base1 lim1 c' ro' m g
  have e' := Heap.byteAt_set hi ho' e
  rw [Heap.get_set _ _ _ _ hi] at g
  by_cases hid : id = i
  · subst hid
    rw [if_pos rfl] at g
    rw [e1] at m
    cases m
    obtain ⟨c, ro, q1, q2, q3⟩ := hrest c' ro' (by cases g; rfl)
    subst q1
    obtain ⟨arr, t, fr, h1, h2⟩ := mk id e' b base lim c ro e1 e2
    obtain ⟨arr', t', fr', k1, k2⟩ := q3 arr t fr h1
    exact ⟨arr', t', fr', k1, fun j j1 j2 => by rw [q2] at j1; rw [k2 j j1]; exact h2 j j1 j2⟩
  · rw [if_neg hid] at g
    obtain ⟨arr, t, fr, h1, h2⟩ := mk id e' b1 base1 lim1 c' ro' m g
    exact ⟨arr, t, fr, (hold b1 fun e => hr.inj i id b base lim b1 base1 lim1 o _ (Ne.symm hid) e1 m e2 g ho rfl e.symm).trans h1, h2⟩
theorem St.drew {P : Program} {μ : Mu} {h : Heap} {w : World} (s : St P μ h w) : St P μ h w.drew := ⟨s.r.drew, s.bd, s.mkd, s.tb.fr (Fr.drew μ h w)⟩
theorem St.note {P : Program} {μ : Mu} {h : Heap} {w : World} (s : St P μ h w) {id : Nat} (hid : id + 1 = h.next) (bt : Bool)
    (hrest : bt = true → ∀ b base lim c ro, μ id = some (b, base, lim) → h.get id = some (.cells c ro) → ∃ arr t fr, w.heap[b]? = some (.cells arr t fr) ∧ ∀ j, base + c.length ≤ j → j < lim → ∃ n, arr[j]? = some (.int .u8 n) ∧ wfInt .u8 n = true) :
    St P μ (h.note bt id) w ∧ Fr μ h w μ (h.note bt id) w := by
  cases bt
  · exact ⟨s, Fr.refl ..⟩
  · have hn : μ h.next = none := s.bd _ (Nat.le_refl _)
    have hget : ∀ j, (h.note true id).get j = if j = h.next then some (.mark id) else h.get j := fun j => by rw [Heap.get_note]; simp
    have hback : ∀ j x o, μ j = some x → (h.note true id).get j = some o → h.get j = some o := fun j x o m g => by
      rw [hget] at g
      by_cases hj : j = h.next
      · subst hj; rw [hn] at m; cases m
      · rw [if_neg hj] at g; exact g
    have hown : ∀ b, Own μ (h.note true id).get b → Own μ h.get b := by
      rintro b ⟨j, base, lim, o, m, g, ho⟩
      exact ⟨j, base, lim, o, m, hback _ _ _ m g, ho⟩
    refine ⟨⟨⟨fun j b base lim o m g => s.r.obj j b base lim o m (hback j _ o m g), fun i j b base lim b' base' lim' o o' hne m1 m2 g1 g2 => s.r.inj i j b base lim b' base' lim' o o' hne m1 m2 (hback _ _ _ m1 g1) (hback _ _ _ m2 g2)⟩, fun j hj => s.bd j (by rw [Heap.next_note] at hj; simp at hj; omega), fun j e b base lim c ro m g => ?_, s.tb.own hown⟩,
      ⟨.refl μ, Nat.le_refl _, rfl, rfl, rfl, fun _ _ _ => rfl, ?_, by rw [Heap.next_note]; omega, fun _ _ h => h⟩⟩
    · have g' := hback _ _ _ m g
      by_cases hj : j = id
      · subst hj; exact hrest rfl b base lim c ro m g'
      · refine s.mkd j ?_ b base lim c ro m g'
        rw [← e]; refine (Heap.byteAt_of ?_).symm
        rw [hget, if_neg (by omega)]
    · rintro b ⟨j, base, lim, o, m, g, ho⟩
      exact .inl ⟨j, base, lim, o, m, hback _ _ _ m g, ho⟩
section
variable {P : Program} {w : World}
theorem alloc_new (w : World) (o : Obj) : (w.alloc o).heap[w.heap.size]? = some o := by
  show (w.heap.push o)[w.heap.size]? = some o
  simp
theorem add0 (b o j : Nat) : (⟨b, o, none⟩ : Addr).add j = ⟨b, o + j, none⟩ := by
  unfold Addr.add; split
  · subst_vars; rfl
  · rfl
theorem run_loadFrom (b o : Nat) : ∀ (n i : Nat) (acc : Array Value) (cs : List Value), cs.length = n → (∀ j v, cs[j]? = some v → w.cell? ⟨b, o + (i + j), none⟩ = some v) →
    (loadCellsFrom ⟨b, o, none⟩ i n acc).run P w = .ok (acc ++ cs.toArray) w
  | 0, i, acc, cs, hl, _ => by
    have : cs = [] := List.eq_nil_of_length_eq_zero hl
    subst this; simp [loadCellsFrom]
  | n + 1, i, acc, cs, hl, h => by
    cases cs with
    | nil => simp at hl
    | cons v cs =>
      have h0 := h 0 v rfl
      simp only [Nat.add_zero] at h0
      have ih := run_loadFrom b o n (i + 1) (acc.push v) cs (by simpa using hl) fun j u hu => by
        have := h (j + 1) u (by simpa using hu)
        rw [show i + 1 + j = i + (j + 1) by omega]; exact this
      simp only [loadCellsFrom, Sem.run_bind, run_load, add0, h0, Result.andThen_ok, ih]
      congr 1
      apply Array.toList_inj.1
      simp
theorem run_loadCells (b o n : Nat) (cs : List Value) (hl : cs.length = n) (h : ∀ j v, cs[j]? = some v → w.cell? ⟨b, o + j, none⟩ = some v) :
    (loadCells ⟨b, o, none⟩ n).run P w = .ok cs.toArray w := by
  have := run_loadFrom (P := P) (w := w) b o n 0 #[] cs hl (by simpa using h)
  simpa [loadCells] using this
theorem cell_of {b : Nat} {arr : Array Value} {t : TypeId} {fr : Nat × Nat} (hb : w.heap[b]? = some (.cells arr t fr)) (j : Nat) : w.cell? ⟨b, j, none⟩ = arr[j]? := by
  simp [World.cell?, hb]
theorem frozen_of {b : Nat} {arr : Array Value} {t : TypeId} {fr : Nat × Nat} (hb : w.heap[b]? = some (.cells arr t fr)) (j : Nat) (h : ¬ (fr.1 ≤ j ∧ j < fr.2)) : w.frozen? ⟨b, j, none⟩ = false := by
  obtain ⟨lo, hi⟩ := fr
  simp only [World.frozen?, hb, Bool.and_eq_false_iff, decide_eq_false_iff_not]
  simp only at h
  omega
structure Wrote (w w' : World) (b : Nat) (arr arr' : Array Value) (t : TypeId) (fr : Nat × Nat) (o : Nat) (vs : List Value) : Prop where
  size : w'.heap.size = w.heap.size
  os : w'.os = w.os
  tape : w'.tape = w.tape
  output : w'.output = w.output
  other : ∀ j, j ≠ b → w'.heap[j]? = w.heap[j]?
  here : w'.heap[b]? = some (.cells arr' t fr)
  asize : arr'.size = arr.size
  cells : ∀ j, arr'[j]? = if o ≤ j ∧ j < o + vs.length then vs[j - o]? else arr[j]?
theorem run_storeFrom (b o : Nat) (t : TypeId) (fr : Nat × Nat) : ∀ (vs : List Value) (i : Nat) (arr : Array Value) (w : World), w.heap[b]? = some (.cells arr t fr) → o + i + vs.length ≤ arr.size →
    (∀ j, j < arr.size → ¬ (fr.1 ≤ j ∧ j < fr.2)) → (∀ v ∈ vs, v.oneCell' = true) →
    ∃ w' arr', (storeCells ⟨b, o, none⟩ vs i).run P w = .ok () w' ∧ Wrote w w' b arr arr' t fr (o + i) vs
  | [], i, arr, w, hb, _, _, _ => ⟨w, arr, by simp [storeCells], ⟨rfl, rfl, rfl, rfl, fun _ _ => rfl, hb, rfl, fun j => by
      rw [if_neg]; simp only [List.length_nil]; omega⟩⟩
  | v :: vs, i, arr, w, hb, hle, hfz, hone => by
    simp only [List.length_cons] at hle
    have hlt : o + i < arr.size := by omega
    have hc : w.cell? ⟨b, o + i, none⟩ = some arr[o + i] := by rw [cell_of hb]; simp [hlt]
    have hf : w.frozen? ⟨b, o + i, none⟩ = false := frozen_of hb _ (hfz _ hlt)
    have hbs : b < w.heap.size := (Array.getElem?_eq_some_iff.1 hb).1
    have hb1 : (w.setCell ⟨b, o + i, none⟩ v).heap[b]? = some (.cells (arr.setIfInBounds (o + i) v) t fr) := by
      simp only [World.setCell, Array.getElem?_modify, if_true, hb, Option.map_some]
      simp
    obtain ⟨w', arr', hrun, hw⟩ := run_storeFrom b o t fr vs (i + 1) (arr.setIfInBounds (o + i) v) (w.setCell ⟨b, o + i, none⟩ v) hb1 (by simp; omega) (by simpa using hfz) (fun u hu => hone u (List.mem_cons_of_mem _ hu))
    refine ⟨w', arr', ?_, ?_⟩
    · simp only [storeCells, Sem.run_bind, add0]
      rw [run_store _ _ _ _ _ (hone v (List.mem_cons_self))]
      simp only [hc, hf, Bool.false_eq_true, if_false, Result.andThen_ok]
      exact hrun
    · refine ⟨by simpa using hw.size, hw.os, hw.tape, hw.output, fun j hj => ?_, hw.here, by simpa using hw.asize, fun j => ?_⟩
      · rw [hw.other j hj]
        simp only [World.setCell, Array.getElem?_modify]
        rw [if_neg (Ne.symm hj)]
      · rw [hw.cells j]
        by_cases h1 : o + (i + 1) ≤ j ∧ j < o + (i + 1) + vs.length
        · rw [if_pos h1, if_pos (by simp only [List.length_cons]; omega)]
          rw [show j - (o + i) = (j - (o + (i + 1))) + 1 by omega]; rfl
        · rw [if_neg h1]
          by_cases h2 : j = o + i
          · subst h2
            rw [if_pos (by simp only [List.length_cons]; omega)]
            simp [hlt]
          · rw [if_neg (by simp only [List.length_cons]; omega)]
            rw [Array.getElem?_setIfInBounds_ne (by omega)]
theorem run_storeCells {b o : Nat} {t : TypeId} {fr : Nat × Nat} {vs : List Value} {arr : Array Value} (hb : w.heap[b]? = some (.cells arr t fr)) (hle : o + vs.length ≤ arr.size)
    (hfz : ∀ j, j < arr.size → ¬ (fr.1 ≤ j ∧ j < fr.2)) (hone : ∀ v ∈ vs, v.oneCell' = true) :
    ∃ w' arr', (storeCells ⟨b, o, none⟩ vs).run P w = .ok () w' ∧ Wrote w w' b arr arr' t fr o vs := by
  have := run_storeFrom (P := P) b o t fr vs 0 arr w hb (by omega) hfz hone
  simpa using this
theorem run_newRow (e : TypeId) (cs : Array Value) : (newRow e cs).run P w = .ok ⟨w.heap.size, 0, none⟩ (w.alloc (.cells cs e)) := by
  simp [newRow]
end
section
variable {P : Program} {μ : Mu} {h : Heap} {w : World}
theorem St.same (s : St P μ h w) {h' : Heap} (e : h'.get = h.get) (e2 : h'.next = h.next) : St P μ h' w ∧ Fr μ h w μ h' w :=
  ⟨⟨by rw [e]; exact s.r, fun j hj => s.bd j (by omega), s.mkd.same (fun id hid => ⟨by rw [← hid]; exact (Heap.byteAt_of (by rw [e])).symm, rfl, by rw [e]⟩) fun _ _ _ _ _ _ _ _ _ => rfl, s.tb.own (by rw [e]; exact fun _ h => h)⟩, ⟨.refl μ, Nat.le_refl _, rfl, rfl, rfl, fun _ _ _ => rfl, by rw [e]; exact fun _ h => .inl h, by omega, fun _ _ h => h⟩⟩
/-! ### lists -/
theorem splice_get (c : List AV) (o : Nat) (vs : List AV) (h : o + vs.length ≤ c.length) (j : Nat) : (splice c o vs)[j]? = if o ≤ j ∧ j < o + vs.length then vs[j - o]? else c[j]? := by
  unfold splice
  by_cases h1 : j < o
  · rw [if_neg (by omega), List.append_assoc, List.getElem?_append_left (by simp; omega), List.getElem?_take, if_pos h1]
  · by_cases h2 : j < o + vs.length
    · rw [if_pos ⟨by omega, h2⟩, List.getElem?_append_left (by simp; omega), List.getElem?_append_right (by simp; omega)]
      simp [Nat.min_eq_left (show o ≤ c.length by omega)]
    · rw [if_neg (by omega), List.getElem?_append_right (by simp; omega), List.getElem?_drop]
      simp only [List.length_append, List.length_take]
      rw [Nat.min_eq_left (show o ≤ c.length by omega)]
      congr 1; omega
theorem splice_len (c : List AV) (o : Nat) (vs : List AV) (h : o + vs.length ≤ c.length) : (splice c o vs).length = c.length := by
  simp [splice]; omega
theorem ones_of {as : List AV} {vs : List Value} (h : Vs μ as vs) (hf : as.all AV.flat = true) : ∀ v ∈ vs, v.oneCell' = true := by
  intro v hv
  obtain ⟨i, hi, rfl⟩ := List.mem_iff_getElem.1 hv
  obtain ⟨a, ha, hva⟩ := h.get' (List.getElem?_eq_getElem hi)
  exact hva.oneCell (List.all_eq_true.1 hf a (List.mem_of_getElem? ha))
/-! ### reading a row -/
theorem readRow (s : St P μ h w) {id b base lim : Nat} (hm : μ id = some (b, base, lim)) {c : List AV} {ro : Bool} (hg : h.get id = some (.cells c ro)) :
    ∃ arr t fr, w.heap[b]? = some (.cells arr t fr) ∧ lim ≤ arr.size ∧ base + c.length ≤ lim ∧
      (∀ (o n : Nat), o + n ≤ c.length → ∃ vs : List Value, vs.length = n ∧ Vs μ ((c.drop o).take n) vs ∧ (∀ j v, vs[j]? = some v → w.cell? ⟨b, base + o + j, none⟩ = some v)) ∧
      (c.all AV.flat = true) ∧ (ro = false → ∀ j, j < arr.size → ¬ (fr.1 ≤ j ∧ j < fr.2)) := by
  obtain ⟨arr, t, fr, hb, h1, h2, h3, h4⟩ := s.r.obj id b base lim _ hm hg
  refine ⟨arr, t, fr, hb, h1, h2, fun o n hn => ?_, ?_, h4⟩
  · refine ⟨(arr.toList.drop (base + o)).take n, by simp; omega, ?_, ?_⟩
    · refine Vs.of_get (by simp; omega) fun i a v e1 e2 => ?_
      rw [List.getElem?_take] at e1 e2
      split at e1
      · rename_i hi
        rw [if_pos hi] at e2
        rw [List.getElem?_drop] at e1 e2
        obtain ⟨v', x, y, _⟩ := h3 _ _ e1
        rw [show base + o + i = base + (o + i) by omega, Array.getElem?_toList, x] at e2
        cases e2; exact y
      · cases e1
    · intro j v e
      rw [List.getElem?_take] at e
      split at e
      · rw [List.getElem?_drop] at e
        rw [cell_of hb]; simpa using e
      · cases e
  · rw [List.all_eq_true]
    intro a ha
    obtain ⟨i, hi, rfl⟩ := List.mem_iff_getElem.1 ha
    obtain ⟨_, _, _, hf⟩ := h3 i _ (List.getElem?_eq_getElem hi)
    exact hf
theorem loadA_sim (s : St P μ h w) {aggr : Bool} {n id off b base lim : Nat} {v : AV} (hm : μ id = some (b, base, lim)) (e : loadA h aggr n id off = some v) {t : TypeId}
    (ha : aggr? P t = some aggr) (hs : sz P t = some n) : ∃ v', (loadVar t ⟨b, base + off, none⟩).run P w = .ok v' w ∧ V μ v v' := by
  unfold loadA at e
  split at e
  · rename_i c ro hg
    obtain ⟨arr, tt, fr, hb, h1, h2, h3, hf, h4⟩ := readRow s hm hg
    simp only [aggr?] at ha
    simp only [sz, Option.map_eq_some_iff] at hs
    obtain ⟨i, hi, hsz⟩ := hs
    cases aggr with
    | true =>
      simp only [if_true] at e
      split at e
      · rename_i hle
        cases e
        obtain ⟨vs, hl, hv, hc⟩ := h3 off n hle
        refine ⟨.agg vs.toArray, ?_, .agg _ _ (by simpa using hv) ?_⟩
        · have hagg : (isAgg t).run P w = .ok true w := by
            simp only [isAgg, underlying, Sem.run_bind, run_program, Result.andThen_ok]
            cases hu : P.underlying t with
            | none => rw [hu] at ha; cases ha
            | some d => rw [hu] at ha; cases d <;> simp at ha ⊢
          simp only [loadVar, Sem.run_bind, hagg, Result.andThen_ok, if_true]
          simp only [sizeOf, typeInfo, Sem.run_bind, run_program, Result.andThen_ok, hi]
          simp only [Sem.run_pure, Result.andThen_ok, hsz]
          rw [run_loadCells b (base + off) n vs hl hc]
          simp
        · rw [List.all_eq_true] at hf ⊢
          intro x hx
          exact hf x (List.mem_of_mem_drop (List.mem_of_mem_take hx))
      · cases e
    | false =>
      simp only [Bool.false_eq_true, if_false] at e
      obtain ⟨arr', t', fr', hb', _, _, h3', _⟩ := s.r.obj id b base lim _ hm hg
      obtain ⟨v', x, y, _⟩ := h3' _ _ e
      refine ⟨v', ?_, y⟩
      have hagg : (isAgg t).run P w = .ok false w := by
        simp only [isAgg, underlying, Sem.run_bind, run_program, Result.andThen_ok]
        cases hu : P.underlying t with
        | none => rw [hu] at ha; cases ha
        | some d => rw [hu] at ha; cases d <;> simp at ha ⊢
      simp only [loadVar, Sem.run_bind, hagg, Result.andThen_ok, Bool.false_eq_true, if_false, run_load, cell_of hb', x]
  · cases e
theorem storeA_sim (s : St P μ h w) {id off b base lim : Nat} {vs : List AV} {vs' : List Value} {h' : Heap} (hm : μ id = some (b, base, lim)) (e : storeA h id off vs = some h')
    (hv : Vs μ vs vs') (hf : vs.all AV.flat = true) : ∃ w', (storeCells ⟨b, base + off, none⟩ vs').run P w = .ok () w' ∧ St P μ h' w' ∧ Fr μ h w μ h' w' ∧ w'.heap.size = w.heap.size := by
  unfold storeA at e
  split at e
  · rename_i c hg
    split at e
    · rename_i hle
      cases e
      obtain ⟨arr, t, fr, hb, h1, h2, h3, h4⟩ := s.r.obj id b base lim _ hm hg
      have hlen := hv.len
      obtain ⟨w', arr', hrun, hw⟩ := run_storeCells (P := P) (o := base + off) (vs := vs') hb (by omega) (h4 rfl) (ones_of hv hf)
      have := s.r.write (w' := w') hm hg rfl (o' := .cells (splice c off vs) false) rfl hw.size hw.os hw.tape hw.output hw.other
        ⟨arr', t, fr, hw.here, by rw [hw.asize]; exact h1, by rw [splice_len _ _ _ hle]; exact h2, fun j a ha => by
          rw [splice_get _ _ _ hle] at ha
          rw [hw.cells]
          split at ha
          · rename_i hj
            rw [if_pos (by omega)]
            obtain ⟨v', ev', hv'⟩ := hv.get ha
            exact ⟨v', by rw [show base + j - (base + off) = j - off by omega]; exact ev', hv', List.all_eq_true.1 hf a (List.mem_of_getElem? ha)⟩
          · rename_i hj
            rw [if_neg (by omega)]
            exact h3 j a ha, fun _ => by rw [hw.asize]; exact h4 rfl⟩
      have hmk := s.mkd.write (w' := w') s.r hm hg rfl (o' := .cells (splice c off vs) false) rfl hw.other fun c' ro' e => ⟨c, false, rfl, by cases e; exact splice_len _ _ _ hle, fun arr2 t2 fr2 e2 => by
        rw [hb] at e2; cases e2
        exact ⟨arr', t, fr, hw.here, fun j hj => by rw [hw.cells, if_neg (by omega)]⟩⟩
      exact ⟨w', hrun, ⟨this.1, s.bd, hmk, s.tb.fr this.2⟩, this.2, hw.size⟩
    · cases e
  · cases e
theorem alloc_sim (s : St P μ h w) (t : TypeId) {cs : List AV} {cs' : Array Value} (k : Nat) (hk : cs.length ≤ k) (hk' : k ≤ cs'.size) (hv : Vs μ cs (cs'.toList.take cs.length)) (hf : cs.all AV.flat = true) :
    St P (muAdd μ h.next (w.heap.size, 0, k)) (h.alloc (.cells cs false)) (w.alloc (.cells cs' t)) ∧
    Fr μ h w (muAdd μ h.next (w.heap.size, 0, k)) (h.alloc (.cells cs false)) (w.alloc (.cells cs' t)) := by
  have hn : μ h.next = none := s.bd _ (Nat.le_refl _)
  have := s.r.alloc (.cells cs false) (.cells cs' t) k hn
    ⟨cs', t, (0, 0), alloc_new w _, hk', by omega, fun j a ha => by
      obtain ⟨v, ev', hv'⟩ := hv.get ha
      have hj : j < cs.length := by
        rcases Nat.lt_or_ge j cs.length with h' | h'
        · exact h'
        · simp [List.getElem?_eq_none h'] at ha
      rw [List.getElem?_take, if_pos hj] at ev'
      exact ⟨v, by simpa using ev', hv'.mono (.add hn), List.all_eq_true.1 hf a (List.mem_of_getElem? ha)⟩, fun _ j _ h' => by omega⟩
  refine ⟨⟨this.1, fun id hid => ?_, s.mkd.alloc s.r _ rfl _ _, s.tb.fr this.2⟩, this.2⟩
  simp only [Heap.next_alloc] at hid
  rw [muAdd_ne _ _ _ _ (by omega)]
  exact s.bd id (by omega)
theorem alloc_sim' (s : St P μ h w) (t : TypeId) {cs : List AV} {cs' : List Value} (hv : Vs μ cs cs') (hf : cs.all AV.flat = true) :
    St P (muAdd μ h.next (w.heap.size, 0, cs.length)) (h.alloc (.cells cs false)) (w.alloc (.cells cs'.toArray t)) ∧
    Fr μ h w (muAdd μ h.next (w.heap.size, 0, cs.length)) (h.alloc (.cells cs false)) (w.alloc (.cells cs'.toArray t)) :=
  alloc_sim s t cs.length (Nat.le_refl _) (by simp [hv.len]) (by rw [List.take_of_length_le (by simp [hv.len])]; simpa using hv) hf
theorem allocObj_sim (s : St P μ h w) (o : AObj) (ob : Obj) (hmk : o.isMark = false) (ho : ObjR P (muAdd μ h.next (w.heap.size, 0, 0)) o w.heap.size 0 0 (w.alloc ob)) :
    St P (muAdd μ h.next (w.heap.size, 0, 0)) (h.alloc o) (w.alloc ob) ∧ Fr μ h w (muAdd μ h.next (w.heap.size, 0, 0)) (h.alloc o) (w.alloc ob) := by
  have hn : μ h.next = none := s.bd _ (Nat.le_refl _)
  have := s.r.alloc o ob 0 hn ho
  refine ⟨⟨this.1, fun id hid => ?_, s.mkd.alloc s.r _ hmk _ _, s.tb.fr this.2⟩, this.2⟩
  simp only [Heap.next_alloc] at hid
  rw [muAdd_ne _ _ _ _ (by omega)]
  exact s.bd id (by omega)
theorem St.congr {μ : Mu} {h g : Heap} (s : St P μ h w) (hn : g.next = h.next) (hg : ∀ id, g.get id = h.get id) : St P μ g w :=
  ⟨by rw [show g.get = h.get from funext hg]; exact s.r, fun id hid => s.bd id (by omega), fun id e => by
    rw [Heap.byteAt_of (hg (id + 1))] at e
    intro b base lim c ro m q
    rw [hg] at q
    exact s.mkd id e b base lim c ro m q, s.tb.own (by rw [show g.get = h.get from funext hg]; exact fun _ h => h)⟩
theorem Fr.congr {μ₀ μ : Mu} {h₀ h g : Heap} {w₀ w : World} (f : Fr μ₀ h₀ w₀ μ h w) (hn : g.next = h.next) (hg : ∀ id, g.get id = h.get id) : Fr μ₀ h₀ w₀ μ g w := by
  have e : g.get = h.get := funext hg
  exact ⟨f.le, f.size, f.os, f.tape, f.output, f.same, fun b hb => f.own b (e ▸ hb), hn ▸ f.nx, f.dom⟩
theorem fill_box {μ : Mu} {g g' : Heap} (s : St P μ g w) (t : TypeId) {id : Nat} {c : List AV} {c' : List Value} (hv : Vs μ c c') (hf : c.all AV.flat = true) (h1 : g'.get id = some (.cells c false)) (h2 : μ id = none) (h4 : g.next ≤ g'.next)
    (h5 : ∀ j, j ≠ id → g'.get j = g.get j ∨ (g.next ≤ j ∧ g'.get j = some .dead)) (h6 : g'.byteAt id = false) :
    St P (muAdd μ id (w.heap.size, 0, c.length)) g' (w.alloc (.cells c'.toArray t)) ∧
    ∀ {μ₀ : Mu} {h₀ : Heap} {w₀ : World}, Fr μ₀ h₀ w₀ μ g w → h₀.next ≤ id → Fr μ₀ h₀ w₀ (muAdd μ id (w.heap.size, 0, c.length)) g' (w.alloc (.cells c'.toArray t)) := by
  have h3 := Heap.lt_of_get h1
  have hold : ∀ b, b < w.heap.size → (w.alloc (.cells c'.toArray t)).heap[b]? = w.heap[b]? := fun b hb => by
    simp only [World.alloc, Array.getElem?_push]; rw [if_neg (by omega)]
  have hle : Le μ (muAdd μ id (w.heap.size, 0, c.length)) := .add h2
  have back : ∀ j o, j ≠ id → g'.get j = some o → o.live = true → g.get j = some o := fun j o hj e hl => by
    rcases h5 j hj with q | ⟨_, q⟩
    · rw [← q]; exact e
    · rw [e] at q; cases q; simp [AObj.live] at hl
  have live_of : ∀ x : AObj, x.owned = true → x.live = true := fun x hx => by cases x <;> first | rfl | simp [AObj.owned] at hx
  have hown : ∀ b, Own (muAdd μ id (w.heap.size, 0, c.length)) g'.get b → Own μ g.get b ∨ w.heap.size ≤ b := by
    rintro b ⟨j, base, lim, o, m, q, ho⟩
    by_cases hj : j = id
    · subst hj
      rw [muAdd_same] at m; cases m
      exact .inr (Nat.le_refl _)
    · rw [muAdd_ne _ _ _ _ hj] at m
      exact .inl ⟨j, base, lim, o, m, back j o hj q (live_of _ ho), ho⟩
  refine ⟨⟨⟨fun j b base lim o e1 e2 => ?_, fun i j b base lim b' base' lim' o1 o2 hne e1 e2 g1 g2 ho1 ho2 => ?_⟩, fun j hj => ?_, ?_, s.tb.step (by show w.heap.size ≤ (w.heap.push _).size; simp) (fun b hb _ => hold b hb) hown⟩, fun f hid => ⟨f.le.trans hle, ?_, f.os, f.tape, f.output, fun b hb hn => ?_, ?_, Nat.le_trans f.nx h4, fun j hj hn => ?_⟩⟩
  · by_cases hj : j = id
    · subst hj
      rw [muAdd_same] at e1; cases e1
      rw [h1] at e2; cases e2
      refine ⟨_, t, (0, 0), alloc_new w _, by simp [hv.len], by simp, fun k a ha => ?_, fun _ k _ h' => by simp at h'⟩
      obtain ⟨v, ev', hv'⟩ := hv.get ha
      exact ⟨v, by simpa using ev', hv'.mono hle, List.all_eq_true.1 hf a (List.mem_of_getElem? ha)⟩
    · rw [muAdd_ne _ _ _ _ hj] at e1
      cases hlv : o.live with
      | true =>
        have e3 := back j o hj e2 hlv
        exact (s.r.obj j b base lim o e1 e3).of_same hle (hold b (s.r.lt e1 e3 hlv))
      | false => cases o <;> first | trivial | simp [AObj.live] at hlv
  · have l1 := live_of _ ho1
    by_cases hi : i = id
    · subst hi
      rw [muAdd_same] at e1; cases e1
      have hj : j ≠ i := fun e => hne e.symm
      rw [muAdd_ne _ _ _ _ hj] at e2
      have := s.r.lt e2 (back j o2 hj g2 ho2) ho2
      omega
    · rw [muAdd_ne _ _ _ _ hi] at e1
      have q1 := back i o1 hi g1 l1
      by_cases hj : j = id
      · subst hj
        rw [muAdd_same] at e2; cases e2
        have := s.r.lt e1 q1 l1
        omega
      · rw [muAdd_ne _ _ _ _ hj] at e2
        exact s.r.inj i j b base lim b' base' lim' o1 o2 hne e1 e2 q1 (back j o2 hj g2 ho2) ho1 ho2
  · rw [muAdd_ne _ _ _ _ (by omega)]; exact s.bd j (by omega)
  · refine s.mkd.same (fun j e => ?_) fun j b base lim c ro e m q => hold b (s.r.lt m q rfl)
    have hji : j ≠ id := fun e' => by rw [e', h6] at e; cases e
    obtain ⟨o', m1, m2⟩ := Heap.byteAt_mark e
    have hj1 : j + 1 ≠ id := fun e' => by rw [e', h1] at m1; cases m1; cases m2
    have q1 : g'.get (j + 1) = g.get (j + 1) := (h5 (j + 1) hj1).elim (fun e => e) fun ⟨_, e'⟩ => by rw [e'] at m1; cases m1; cases m2
    have e1 : g.byteAt j = true := by rw [← Heap.byteAt_of q1]; exact e
    refine ⟨e1, muAdd_ne _ _ _ _ hji, (h5 j hji).elim (fun e => e) fun ⟨e', _⟩ => ?_⟩
    have := Heap.byteAt_lt e1; omega
  · have := f.size
    have e : (w.alloc (.cells c'.toArray t)).heap.size = w.heap.size + 1 := by show (w.heap.push _).size = _; simp
    omega
  · have := f.size
    rw [hold b (by omega)]; exact f.same b hb hn
  · rintro b ⟨j, base, lim, o, m, q, ho⟩
    by_cases hj : j = id
    · subst hj
      rw [muAdd_same] at m; cases m
      exact .inr f.size
    · rw [muAdd_ne _ _ _ _ hj] at m
      exact f.own b ⟨j, base, lim, o, m, back j o hj q (live_of _ ho), ho⟩
  · rw [muAdd_ne _ _ _ _ (by omega)]; exact f.dom j hj hn
end
end Go.Ya
