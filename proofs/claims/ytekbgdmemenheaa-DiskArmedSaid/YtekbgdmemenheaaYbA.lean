/-
  The abstract machine: YaDef, YaConv.
-/
import GoSem.Claims
namespace Go.Ya
set_option linter.unusedVariables false
set_option linter.unusedSimpArgs false
/-! ### values -/
inductive AV where
  | bool (b : Bool)
  | int (k : IntKind) (n : Int)
  | str (s : List Int)
  | nilptr
  | ptr (id off : Nat)
  | nilsl
  | slice (id off len cap : Nat) (ex : Bool) (esz : Nat)
  | nilmap
  | map (id : Nat)
  | nilf
  | func (f : FuncId) (first captured : List AV)
  | yieldf (id : Nat)
  | nilif
  | iface (t : TypeId) (v : AV)
  | meth (m : String) (x : AV)
  | agg (cs : List AV)
  | tuple (vs : List AV)
  deriving Inhabited
def AV.flat : AV → Bool
  | .agg _ => false
  | .tuple _ => false
  | _ => true
def AV.cells : AV → List AV
  | .agg cs => cs
  | v => [v]
abbrev undefA : AV := .tuple []
/-! ### operations -/
inductive Opd where
  | t (n : Nat)
  | c (v : AV)
  deriving Inhabited
inductive Tgt where
  | fn (f : FuncId)
  | yield (id : Nat)
inductive EqK where
  | bool | ptr | sl | map | fn | iface | str | other
  deriving DecidableEq, Inhabited
inductive SOp where
  | mov (x : Opd)
  | pick (c a b : Opd)
  | box (x : Opd)
  | build (base : List AV) (parts : List (Nat × Nat × Opd))
  | buildSlice (base : List AV) (len esz : Nat) (parts : List (Nat × Nat × Opd))
  | load (aggr : Bool) (n : Nat) (a : Opd)
  | store (n : Nat) (a x : Opd)
  | nilChk (x : Opd)
  | bin (op : BinOp) (ek : EqK) (x y : Opd)
  | eqAgg (neg : Bool) (ks : List Nat) (x y : Opd)
  | un (op : UnOp) (x : Opd)
  | convInt (k : IntKind) (x : Opd)
  | strToBytes (x : Opd)
  | bytesToStr (x : Opd)
  | convStr (x : Opd)
  | iface (t : TypeId) (x : Opd)
  | mkFunc (f : FuncId) (first captured : List Opd)
  | mkMap
  | mkSlice (zero : List AV) (esz bytes : Nat) (l c : Opd)
  | slice (esz : Nat) (x : Opd) (lo hi mx : Option Opd)
  | sliceStr (x : Opd) (lo hi : Option Opd)
  | sliceArr (n esz : Nat) (x : Opd) (lo hi mx : Option Opd)
  | fieldAddr (off : Nat) (x : Opd)
  | field (aggr : Bool) (off n : Nat) (x : Opd)
  | idxAddrSl (esz : Nat) (x i : Opd)
  | idxAddrArr (len esz : Nat) (x i : Opd)
  | idxArr (aggr : Bool) (len esz : Nat) (x i : Opd)
  | idxStr (x i : Opd)
  | extract (x : Opd) (i : Nat)
  | call (f : FuncId) (args : List Opd)
  | callV (x : Opd) (args : List Opd)
  | invoke (tbl : List (TypeId × FuncId × Option (Bool × Nat))) (x : Opd) (args : List Opd)
  | assert (t : TypeId) (zero : AV) (ok : Bool) (x : Opd)
  | mkMeth (m : String) (x : Opd)
  | nilChkM (m : String) (tbl : List (TypeId × FuncId × Option (Bool × Nat))) (x : Opd)
  | append (esz bytes : Nat) (x y : Opd)
  | appendZ (zero : List AV) (esz bytes : Nat) (x n : Opd)
  | trap
  | copy (esz : Nat) (x y : Opd)
  | clear (zero : List AV) (esz : Nat) (x : Opd)
  | len (ek : EqK) (x : Opd)
  | lenC (n : Nat)
  | cap (x : Opd)
  | min (x : Opd) (ys : List Opd)
  | max (x : Opd) (ys : List Opd)
  | lookup (sk : Bool) (zero : AV) (commaOk : Bool) (m k : Opd)
  | mapUpdate (sk : Bool) (m k v : Opd)
  | rangeStr (x : Opd)
  | nextStr (it : Opd)
  deriving Inhabited
structure SOper where
  dst : Option Nat
  op : SOp
  guard : Option (Nat × Bool)
  deriving Inhabited
inductive AExit where
  | normal
  | exit (id : Nat)
  | ret
  deriving DecidableEq, Inhabited
inductive SC where
  | skip
  | ops (l : List SOper)
  | drawOps (l : List SOper) (chk : List (Nat × Nat))
  | seq (a b : SC)
  | cond (c : Opd) (a b : SC)
  | block (id : Nat) (c : SC)
  | loop (c : SC)
  | exit (id : Nat)
  | ret
  | rangeFunc (f : Opd) (params : List Nat) (assign body : SC)
  deriving Inhabited
inductive SRes where
  | tmp (t : Nat)
  | cell (a : Nat) (aggr : Bool) (n : Nat)
  deriving Inhabited
structure SFunc where
  ntmps : Nat
  results : List SRes
  body : SC
  deriving Inhabited
/-! ### the heap -/
inductive AObj where
  | cells (c : List AV) (ro : Bool)
  | map (es : List (AV × AV))
  | striter (s : List Int) (pos : Nat)
  | loop (f : FuncId) (tmps : List AV) (params : List Nat) (assign body : SC) (state : LoopState) (pending : AExit)
  | dead
  deriving Inhabited
inductive Tr where
  | nil
  | node (o : Option AObj) (l r : Tr)
  deriving Inhabited
def Tr.get : Tr → Nat → Option AObj
  | .nil, _ => none
  | .node o _ _, 0 => o
  | .node _ l r, k + 1 => if k % 2 = 0 then l.get (k / 2) else r.get (k / 2)
def Tr.root : Tr → Option AObj
  | .nil => none
  | .node o _ _ => o
def Tr.left : Tr → Tr
  | .nil => .nil
  | .node _ l _ => l
def Tr.right : Tr → Tr
  | .nil => .nil
  | .node _ _ r => r
def Tr.setF : Nat → Tr → Nat → AObj → Tr
  | 0, t, _, _ => t
  | _ + 1, t, 0, o => .node (some o) t.left t.right
  | f + 1, t, k + 1, o => if k % 2 = 0 then .node t.root (Tr.setF f t.left (k / 2) o) t.right else .node t.root t.left (Tr.setF f t.right (k / 2) o)
structure Heap where
  next : Nat
  tr : Tr
  deriving Inhabited
def Heap.get (h : Heap) (id : Nat) : Option AObj := if id < h.next then h.tr.get id else none
def Heap.set (h : Heap) (id : Nat) (o : AObj) : Heap := { h with tr := h.tr.setF (id + 1) id o }
def Heap.alloc (h : Heap) (o : AObj) : Heap := { next := h.next + 1, tr := h.tr.setF (h.next + 1) h.next o }
theorem Tr.get_setF (o : AObj) : ∀ (f : Nat) (t : Tr) (k j : Nat), k < f → (Tr.setF f t k o).get j = if j = k then some o else t.get j := by
  intro f
  induction f with
  | zero => intro t k j h; omega
  | succ f ih =>
    intro t k j h
    cases k with
    | zero =>
      simp only [Tr.setF]
      cases j with
      | zero => simp [Tr.get]
      | succ j => cases t <;> simp [Tr.get, Tr.left, Tr.right]
    | succ k =>
      simp only [Tr.setF]
      by_cases hk : k % 2 = 0
      · rw [if_pos hk]
        cases j with
        | zero => cases t <;> simp [Tr.get, Tr.root]
        | succ j =>
          by_cases hj : j % 2 = 0
          · simp only [Tr.get, hj, if_true]
            rw [ih _ _ _ (by omega)]
            by_cases e : j = k
            · subst e; simp
            · have : ¬ j / 2 = k / 2 := by omega
              have e' : ¬ (j + 1 = k + 1) := by omega
              rw [if_neg this, if_neg e']
              cases t <;> simp [Tr.get, Tr.left, hj]
          · have e' : ¬ (j + 1 = k + 1) := by intro h; have : j = k := by omega
                                              subst this; exact hj hk
            rw [if_neg e']
            simp only [Tr.get, hj, if_false]
            cases t <;> simp [Tr.get, Tr.right, hj]
      · rw [if_neg hk]
        cases j with
        | zero => cases t <;> simp [Tr.get, Tr.root]
        | succ j =>
          by_cases hj : j % 2 = 0
          · have e' : ¬ (j + 1 = k + 1) := by intro h; have : j = k := by omega
                                              subst this; exact hk hj
            rw [if_neg e']
            simp only [Tr.get, hj, if_true]
            cases t <;> simp [Tr.get, Tr.left, hj]
          · simp only [Tr.get, hj, if_false]
            rw [ih _ _ _ (by omega)]
            by_cases e : j = k
            · subst e; simp
            · have : ¬ j / 2 = k / 2 := by omega
              have e' : ¬ (j + 1 = k + 1) := by omega
              rw [if_neg this, if_neg e']
              cases t <;> simp [Tr.get, Tr.right, hj]
theorem Heap.get_set (h : Heap) (id j : Nat) (o : AObj) (hid : id < h.next) : (h.set id o).get j = if j = id then some o else h.get j := by
  simp only [Heap.get, Heap.set]
  rw [Tr.get_setF _ _ _ _ _ (by omega)]
  by_cases e : j = id
  · subst e; simp [hid]
  · simp [e]
theorem Heap.get_alloc (h : Heap) (j : Nat) (o : AObj) : (h.alloc o).get j = if j = h.next then some o else h.get j := by
  simp only [Heap.get, Heap.alloc]
  rw [Tr.get_setF _ _ _ _ _ (by omega)]
  by_cases e : j = h.next
  · subst e; simp
  · by_cases hl : j < h.next
    · simp [e, hl, show j < h.next + 1 by omega]
    · simp [e, hl, show ¬ j < h.next + 1 by omega]
@[simp] theorem Heap.next_set (h : Heap) (id : Nat) (o : AObj) : (h.set id o).next = h.next := rfl
@[simp] theorem Heap.next_alloc (h : Heap) (o : AObj) : (h.alloc o).next = h.next + 1 := rfl
theorem Heap.lt_of_get {h : Heap} {id : Nat} {o : AObj} (e : h.get id = some o) : id < h.next := by
  unfold Heap.get at e
  split at e
  · assumption
  · cases e
/-! ### the run -/
abbrev AR := Option (AV × Heap)
def ev (tm : List AV) : Opd → AV
  | .t n => tm.getD n undefA
  | .c v => v
def evs (tm : List AV) (l : List Opd) : List AV := l.map (ev tm)
def splice (c : List AV) (off : Nat) (vs : List AV) : List AV := c.take off ++ vs ++ c.drop (off + vs.length)
def fillA (cells : List AV) (tm : List AV) : List (Nat × Nat × Opd) → Option (List AV)
  | [] => some cells
  | (off, size, x) :: rest =>
    let vs := (ev tm x).cells
    if vs.length = size ∧ off + size ≤ cells.length ∧ vs.all AV.flat then fillA (splice cells off vs) tm rest else none
def loadA (h : Heap) (aggr : Bool) (n id off : Nat) : Option AV :=
  match h.get id with
  | some (.cells c _) =>
    if aggr then (if off + n ≤ c.length then some (.agg ((c.drop off).take n)) else none)
    else c[off]?
  | _ => none
def storeA (h : Heap) (id off : Nat) (vs : List AV) : Option Heap :=
  match h.get id with
  | some (.cells c false) => if off + vs.length ≤ c.length then some (h.set id (.cells (splice c off vs) false)) else none
  | _ => none
def binInt (op : BinOp) (k : IntKind) (a b : Int) : Option AV :=
  match op with
  | .add => some (.int k (k.wrap (a + b)))
  | .sub => some (.int k (k.wrap (a - b)))
  | .mul => some (.int k (k.wrap (a * b)))
  | .quo => if b = 0 then none else some (.int k (k.wrap (a.tdiv b)))
  | .rem => if b = 0 then none else some (.int k (a.tmod b))
  | .and => some (.int k (k.wrap (BitVec.ofInt k.bits a &&& BitVec.ofInt k.bits b).toNat))
  | .or => some (.int k (k.wrap (BitVec.ofInt k.bits a ||| BitVec.ofInt k.bits b).toNat))
  | .xor => some (.int k (k.wrap (BitVec.ofInt k.bits a ^^^ BitVec.ofInt k.bits b).toNat))
  | .andNot => some (.int k (k.wrap (BitVec.ofInt k.bits a &&& ~~~ BitVec.ofInt k.bits b).toNat))
  | .eql => some (.bool (a == b))
  | .neq => some (.bool (a != b))
  | .lss => some (.bool (decide (a < b)))
  | .leq => some (.bool (decide (a ≤ b)))
  | .gtr => some (.bool (decide (a > b)))
  | .geq => some (.bool (decide (a ≥ b)))
  | _ => none
def shiftInt (op : BinOp) (k : IntKind) (a b : Int) : Option AV :=
  if b < 0 then none else
  match op with
  | .shl => some (.int k (k.wrap (a * 2 ^ (Nat.min b.toNat k.bits))))
  | .shr => some (.int k (a.fdiv (2 ^ (Nat.min b.toNat k.bits))))
  | _ => none
def lessA : List Int → List Int → Bool
  | _, [] => false
  | [], _ :: _ => true
  | a :: x, b :: y => decide (a < b) || (a == b && lessA x y)
def binStr (op : BinOp) (a b : List Int) : Option AV :=
  match op with
  | .add => if a.length + b.length ≤ 9223372036854775807 then some (.str (a ++ b)) else none
  | .eql => some (.bool (a == b))
  | .neq => some (.bool (a != b))
  | .lss => some (.bool (lessA a b))
  | .leq => some (.bool (lessA a b || a == b))
  | .gtr => some (.bool !(lessA a b || a == b))
  | .geq => some (.bool !(lessA a b))
  | _ => none
def nilEq : EqK → AV → AV → Option Bool
  | .bool, .bool a, .bool b => some (a == b)
  | .ptr, .nilptr, .nilptr => some true
  | .ptr, .nilptr, .ptr _ _ => some false
  | .ptr, .ptr _ _, .nilptr => some false
  | .sl, .nilsl, .nilsl => some true
  | .sl, .nilsl, .slice .. => some false
  | .sl, .slice .., .nilsl => some false
  | .map, .nilmap, .nilmap => some true
  | .map, .nilmap, .map _ => some false
  | .map, .map _, .nilmap => some false
  | .fn, .nilf, .nilf => some true
  | .fn, .nilf, .func .. => some false
  | .fn, .func .., .nilf => some false
  | .fn, .nilf, .yieldf .. => some false
  | .fn, .yieldf .., .nilf => some false
  | .iface, .nilif, .iface .. => some false
  | .iface, .iface .., .nilif => some false
  | _, _, _ => none
def binA (op : BinOp) (ek : EqK) (x y : AV) : Option AV :=
  match x, y with
  | .int k a, .int k' b =>
    if op = .shl ∨ op = .shr then shiftInt op k a b
    else if k = k' then binInt op k a b else none
  | .str a, .str b => binStr op a b
  | x, y =>
    match op with
    | .eql => (nilEq ek x y).map .bool
    | .neq => (nilEq ek x y).map fun b => .bool !b
    | _ => none
def kindOk : Nat → AV → Bool
  | 0, .bool _ => true
  | 1, .int _ _ => true
  | 2, .str _ => true
  | _, _ => false
def kindsOk : List Nat → List AV → Bool
  | [], [] => true
  | k :: ks, v :: vs => kindOk k v && kindsOk ks vs
  | _, _ => false
def plainEq : List AV → List AV → Option Bool
  | [], [] => some true
  | .bool a :: xs, .bool b :: ys => if a = b then plainEq xs ys else some false
  | .int j a :: xs, .int k b :: ys => if j = k then (if a = b then plainEq xs ys else some false) else none
  | .str a :: xs, .str b :: ys => if a = b then plainEq xs ys else some false
  | _, _ => none
def unA (op : UnOp) (x : AV) : Option AV :=
  match op, x with
  | .neg, .int k n => some (.int k (k.wrap (0 - n)))
  | .xor, .int k n => some (.int k (k.wrap (BitVec.ofInt k.bits (if k.signed then -1 else k.max) ^^^ BitVec.ofInt k.bits n).toNat))
  | .not, .bool b => some (.bool !b)
  | _, _ => none
def byteCells : List AV → Option (List Int)
  | [] => some []
  | .int .u8 n :: rest => (byteCells rest).map (n :: ·)
  | _ => none
def sliceBoundA (v : AV) (y : Nat) : Option Nat :=
  match v with
  | .int _ i => if 0 ≤ i ∧ i ≤ y then some i.toNat else none
  | _ => none
def boundsA (len cap : Nat) (lo hi mx : Option AV) : Option (Nat × Nat × Nat) :=
  match (match mx with | some v => sliceBoundA v cap | none => some cap) with
  | none => none
  | some m =>
    match (match hi, mx with | some v, some _ => sliceBoundA v m | some v, none => sliceBoundA v m | none, none => some len | none, some _ => none) with
    | none => none
    | some h =>
      match (match lo with | some v => sliceBoundA v h | none => some 0) with
      | none => none
      | some l => some (l, h, m)
def sliceA (esz : Nat) (x : AV) (lo hi mx : Option AV) : Option AV :=
  match x with
  | .nilsl => (boundsA 0 0 lo hi mx).map fun _ => .nilsl
  | .slice id off len cap ex esz' =>
    if esz = esz' then
      match boundsA len cap lo hi mx with
      | some (l, h, m) => some (.slice id (off + l * esz) (h - l) (m - l) (ex || mx.isSome) esz)
      | none => none
    else none
  | _ => none
def lenA : AV → Option Nat
  | .nilsl => some 0
  | .slice _ _ len _ _ _ => some len
  | .str s => some s.length
  | _ => none
def firstA (h : Heap) (esz n : Nat) : AV → Option (List AV)
  | .nilsl => some []
  | .slice id off _ _ _ esz' =>
    if esz = esz' then
      match h.get id with
      | some (.cells c _) => if off + n * esz ≤ c.length then some ((c.drop off).take (n * esz)) else none
      | _ => none
    else none
  | .str s => if esz = 1 then some ((s.take n).map (AV.int .u8)) else none
  | _ => none
def AV.zeroU8 : AV → Bool
  | .int .u8 0 => true
  | _ => false
def AObj.mark (id : Nat) : AObj := .striter [-1] id
def Heap.byteAt (h : Heap) (id : Nat) : Bool := match h.get (id + 1) with
  | some (.striter l j) => l == [-1] && j == id
  | _ => false
def Heap.note (h : Heap) (b : Bool) (id : Nat) : Heap := if b then h.alloc (.mark id) else h
def AObj.isMark : AObj → Bool
  | .striter l _ => l == [-1]
  | _ => false
theorem Heap.byteAt_lt {h : Heap} {id : Nat} (e : h.byteAt id = true) : id + 1 < h.next := by
  unfold Heap.byteAt at e
  split at e
  · rename_i l j hg; exact Heap.lt_of_get hg
  · cases e
theorem Heap.byteAt_mark {h : Heap} {id : Nat} (e : h.byteAt id = true) : ∃ o, h.get (id + 1) = some o ∧ o.isMark = true := by
  unfold Heap.byteAt at e
  split at e
  · rename_i l j hg
    simp only [Bool.and_eq_true] at e
    exact ⟨_, hg, by simpa [AObj.isMark] using e.1⟩
  · cases e
theorem Heap.byteAt_of {h h' : Heap} {id : Nat} (hg : h'.get (id + 1) = h.get (id + 1)) : h'.byteAt id = h.byteAt id := by
  unfold Heap.byteAt; rw [hg]
theorem Heap.byteAt_alloc {h : Heap} {id : Nat} {o : AObj} (ho : o.isMark = false) (e : (h.alloc o).byteAt id = true) : h.byteAt id = true := by
  obtain ⟨o', e1, e2⟩ := Heap.byteAt_mark e
  rw [Heap.get_alloc] at e1
  by_cases hid : id + 1 = h.next
  · rw [if_pos hid] at e1; cases e1; rw [ho] at e2; cases e2
  · rw [← e]; refine (Heap.byteAt_of ?_).symm
    rw [Heap.get_alloc, if_neg hid]
theorem Heap.byteAt_set {h : Heap} {i id : Nat} {o : AObj} (hi : i < h.next) (ho : o.isMark = false) (e : (h.set i o).byteAt id = true) : h.byteAt id = true := by
  obtain ⟨o', e1, e2⟩ := Heap.byteAt_mark e
  rw [Heap.get_set _ _ _ _ hi] at e1
  by_cases hid : id + 1 = i
  · rw [if_pos hid] at e1; cases e1; rw [ho] at e2; cases e2
  · rw [← e]; refine (Heap.byteAt_of ?_).symm
    rw [Heap.get_set _ _ _ _ hi, if_neg hid]
theorem Heap.get_note (h : Heap) (b : Bool) (id j : Nat) : (h.note b id).get j = if b = true ∧ j = h.next then some (.mark id) else h.get j := by
  cases b
  · simp [Heap.note]
  · simp only [Heap.note, if_true, Heap.get_alloc, true_and]
theorem Heap.next_note (h : Heap) (b : Bool) (id : Nat) : (h.note b id).next = h.next + (if b = true then 1 else 0) := by
  cases b <;> simp [Heap.note]
def appendA (h : Heap) (esz bytes : Nat) (x y : AV) : AR :=
  match lenA y with
  | none => none
  | some n =>
    match firstA h esz n y with
    | none => none
    | some new =>
      match x with
      | .nilsl =>
        if n = 0 then some (.nilsl, h)
        else if n * bytes ≤ 140737488355328 ∧ n ≤ 140737488355328 then some (.slice h.next 0 n n false esz, (h.alloc (.cells new false)).note (decide (esz = 1 ∧ bytes = 1)) h.next) else none
      | .slice id off len cap ex esz' =>
        if esz = esz' then
          if len + n ≤ cap then
            (match storeA h id (off + len * esz) new with
             | some h' => some (.slice id off (len + n) cap ex esz, h')
             | none => none)
          else if (len + n) * bytes ≤ 140737488355328 ∧ len + n ≤ 140737488355328 then
            match h.get id with
            | some (.cells c ro) =>
              if off + len * esz ≤ c.length then
                if ex then some (.slice h.next 0 (len + n) (len + n) false esz, (h.alloc (.cells ((c.drop off).take (len * esz) ++ new) false)).note (decide (esz = 1 ∧ bytes = 1)) h.next)
                else if ro then none
                else some (.slice h.next 0 (len + n) (len + n) false esz, ((h.alloc (.cells ((c.drop off).take (len * esz) ++ new) false)).set id .dead).note (decide (esz = 1 ∧ bytes = 1) && h.byteAt id && decide (c.length ≤ off + (len + n))) h.next)
              else none
            | _ => none
          else none
        else none
      | _ => none
def appendZA (h : Heap) (zero : List AV) (esz bytes : Nat) (x n : AV) : AR :=
  match x, n with
  | .nilsl, .int .i64 n =>
    if n = 0 then some (.nilsl, h)
    else if 0 < n ∧ n.toNat * bytes ≤ 140737488355328 ∧ n.toNat ≤ 140737488355328 then some (.slice h.next 0 n.toNat n.toNat false esz, (h.alloc (.cells (List.replicate n.toNat zero).flatten false)).note (decide (esz = 1 ∧ bytes = 1)) h.next) else none
  | _, _ => none
def copyA (h : Heap) (esz : Nat) (x y : AV) : AR :=
  match lenA x, lenA y with
  | some dl, some sl =>
    let n := Nat.min sl dl
    match firstA h esz n y with
    | none => none
    | some new =>
      match x with
      | .nilsl => some (.int .i64 0, h)
      | .slice id off _ _ _ esz' =>
        if esz = esz' then
          match storeA h id off new with
          | some h' => some (.int .i64 n, h')
          | none => none
        else none
      | _ => none
  | _, _ => none
def clearA (h : Heap) (zero : List AV) (esz : Nat) (x : AV) : AR :=
  match x with
  | .nilsl => some (undefA, h)
  | .slice id off len _ _ esz' =>
    if esz = esz' then
      if len = 0 then some (undefA, h) else
      match storeA h id off ((List.replicate len zero).flatten) with
      | some h' => some (undefA, h')
      | none => none
    else none
  | _ => none
def minA : AV → List AV → Option AV
  | x, [] => some x
  | .int k x, .int k' y :: ys => if k = k' then minA (.int k (if y < x then y else x)) ys else none
  | _, _ => none
def maxA : AV → List AV → Option AV
  | x, [] => some x
  | .int k x, .int k' y :: ys => if k = k' then maxA (.int k (if y > x then y else x)) ys else none
  | _, _ => none
def keyIs : AV → AV → Option Bool
  | .int j a, .int k b => if j = k then some (a == b) else none
  | .str a, .str b => some (a == b)
  | _, _ => none
def findA (k : AV) : List (AV × AV) → Option (Option AV)
  | [] => some none
  | (k', v) :: es =>
    match keyIs k k' with
    | some true => some (some v)
    | some false => findA k es
    | none => none
def putA (k v : AV) : List (AV × AV) → Option (List (AV × AV))
  | [] => some [(k, v)]
  | (k', v') :: es =>
    match keyIs k k' with
    | some true => some ((k, v) :: es)
    | some false => (putA k v es).map ((k', v') :: ·)
    | none => none
def isKey : Bool → AV → Bool
  | false, .int _ _ => true
  | true, .str _ => true
  | _, _ => false
def toBA (l : List Int) : ByteArray := ⟨(l.map fun n => UInt8.ofNat n.toNat).toArray⟩
def findM : List (TypeId × FuncId × Option (Bool × Nat)) → TypeId → Option (FuncId × Option (Bool × Nat))
  | [], _ => none
  | (k, m) :: r, t => if t = k then some m else findM r t
def invA (call : Tgt → List AV → Heap → AR) (h : Heap) (tbl : List (TypeId × FuncId × Option (Bool × Nat))) (x : AV) (args : List AV) : AR :=
  match x with
  | .iface t v =>
    match findM tbl t with
    | some (f, none) => call (.fn f) (v :: args) h
    | some (f, some (b, n)) =>
      match v with
      | .ptr id off =>
        match loadA h b n id off with
        | some r => call (.fn f) (r :: args) h
        | none => none
      | _ => none
    | none => none
  | _ => none
def assertA (t : TypeId) (zero : AV) (ok : Bool) (x : AV) (h : Heap) : AR :=
  match x with
  | .iface t' v => if t' = t then some (if ok = true then .tuple [v, .bool true] else v, h) else if ok = true then some (.tuple [zero, .bool false], h) else none
  | .nilif => if ok = true then some (.tuple [zero, .bool false], h) else none
  | _ => none
def chkM (m : String) (tbl : List (TypeId × FuncId × Option (Bool × Nat))) (x : AV) (h : Heap) : AR :=
  match x with
  | .meth m' (.iface t v) =>
    if m' = m then
      match findM tbl t with
      | some (_, none) => some (.meth m' (.iface t v), h)
      | some (_, some _) =>
        match v with
        | .ptr id off => some (.meth m' (.iface t (.ptr id off)), h)
        | _ => none
      | none => none
    else none
  | _ => none
def aop (call : Tgt → List AV → Heap → AR) (tm : List AV) (h : Heap) : SOp → AR
  | .mov x => some (ev tm x, h)
  | .pick c a b =>
    match ev tm c with
    | .bool true => some (ev tm a, h)
    | .bool false => some (ev tm b, h)
    | _ => none
  | .box x => if (ev tm x).cells.all AV.flat then some (.ptr h.next 0, h.alloc (.cells (ev tm x).cells false)) else none
  | .build base parts => (fillA base tm parts).map fun cs => (.agg cs, h)
  | .buildSlice base len esz parts => (fillA base tm parts).map fun cs => (.slice h.next 0 len len true esz, h.alloc (.cells cs false))
  | .load aggr n a =>
    match ev tm a with
    | .ptr id off => (loadA h aggr n id off).map fun v => (v, h)
    | _ => none
  | .store n a x =>
    match ev tm a with
    | .ptr id off =>
      let vs := (ev tm x).cells
      if vs.length = n ∧ vs.all AV.flat then (storeA h id off vs).map fun h' => (undefA, h') else none
    | _ => none
  | .nilChk x =>
    match ev tm x with
    | .ptr id off => some (.ptr id off, h)
    | .func f a b => some (.func f a b, h)
    | .yieldf l => some (.yieldf l, h)
    | .iface t v => some (.iface t v, h)
    | _ => none
  | .bin op ek x y => (binA op ek (ev tm x) (ev tm y)).map fun v => (v, h)
  | .eqAgg neg ks x y =>
    match ev tm x, ev tm y with
    | .agg a, .agg b => if (kindsOk ks a && kindsOk ks b) = true then (plainEq a b).map fun r => (.bool (r != neg), h) else none
    | _, _ => none
  | .un op x => (unA op (ev tm x)).map fun v => (v, h)
  | .convInt k x =>
    match ev tm x with
    | .int _ n => some (.int k (k.wrap n), h)
    | _ => none
  | .strToBytes x =>
    match ev tm x with
    | .str s => some (.slice h.next 0 s.length s.length false 1, h.alloc (.cells (s.map (AV.int .u8)) false))
    | _ => none
  | .bytesToStr x =>
    match ev tm x with
    | .nilsl => some (.str [], h)
    | .slice id off len cap ex esz =>
      match firstA h 1 len (.slice id off len cap ex esz) with
      | some cs => (byteCells cs).map fun s => (.str s, h)
      | none => none
    | _ => none
  | .convStr x =>
    match ev tm x with
    | .str s => some (.str s, h)
    | _ => none
  | .iface t x => some (.iface t (ev tm x), h)
  | .mkFunc f first captured => some (.func f (evs tm first) (evs tm captured), h)
  | .mkMap => some (.map h.next, h.alloc (.map []))
  | .mkSlice zero esz bytes l c =>
    match ev tm l, ev tm c with
    | .int .i64 l, .int .i64 c =>
      if 0 ≤ l ∧ l ≤ c ∧ bytes * c ≤ 140737488355328 ∧ c ≤ 140737488355328 then
        some (.slice h.next 0 l.toNat c.toNat true esz, h.alloc (.cells ((List.replicate c.toNat zero).flatten) false))
      else none
    | _, _ => none
  | .slice esz x lo hi mx => (sliceA esz (ev tm x) (lo.map (ev tm)) (hi.map (ev tm)) (mx.map (ev tm))).map fun v => (v, h)
  | .sliceStr x lo hi =>
    match ev tm x with
    | .str s =>
      match boundsA s.length s.length (lo.map (ev tm)) (hi.map (ev tm)) none with
      | some (l, hh, _) => some (.str ((s.drop l).take (hh - l)), h)
      | none => none
    | _ => none
  | .sliceArr n esz x lo hi mx =>
    match ev tm x with
    | .ptr id off =>
      match boundsA n n (lo.map (ev tm)) (hi.map (ev tm)) (mx.map (ev tm)), h.get id with
      | some (l, hh, m), some (.cells c _) => if off + n * esz ≤ c.length then some (.slice id (off + l * esz) (hh - l) (m - l) true esz, h) else none
      | _, _ => none
    | _ => none
  | .fieldAddr off x =>
    match ev tm x with
    | .ptr id o => some (.ptr id (o + off), h)
    | _ => none
  | .field aggr off n x =>
    match ev tm x with
    | .agg cs => if aggr then some (.agg ((cs.drop off).take n), h) else (cs[off]?).map fun v => (v, h)
    | _ => none
  | .idxAddrSl esz x i =>
    match ev tm x, ev tm i with
    | .slice id off len _ _ esz', .int _ i => if esz = esz' ∧ 0 ≤ i ∧ i < len then some (.ptr id (off + i.toNat * esz), h) else none
    | _, _ => none
  | .idxAddrArr len esz x i =>
    match ev tm x, ev tm i with
    | .ptr id off, .int _ i => if 0 ≤ i ∧ i < len then some (.ptr id (off + i.toNat * esz), h) else none
    | _, _ => none
  | .idxArr aggr len esz x i =>
    match ev tm x, ev tm i with
    | .agg cs, .int _ i =>
      if 0 ≤ i ∧ i < len then
        (if aggr then some (.agg ((cs.drop (i.toNat * esz)).take esz), h) else (cs[i.toNat * esz]?).map fun v => (v, h))
      else none
    | _, _ => none
  | .idxStr x i =>
    match ev tm x, ev tm i with
    | .str s, .int _ i => if 0 ≤ i then (s[i.toNat]?).map fun b => (.int .u8 b, h) else none
    | _, _ => none
  | .extract x i =>
    match ev tm x with
    | .tuple vs => (vs[i]?).map fun v => (v, h)
    | _ => none
  | .call f args => call (.fn f) (evs tm args) h
  | .callV x args =>
    match ev tm x with
    | .func f first captured => call (.fn f) (first ++ evs tm args ++ captured) h
    | .yieldf l => call (.yield l) (evs tm args) h
    | _ => none
  | .invoke tbl x args => invA call h tbl (ev tm x) (evs tm args)
  | .assert t zero ok x => assertA t zero ok (ev tm x) h
  | .mkMeth m x => some (.meth m (ev tm x), h)
  | .nilChkM m tbl x => chkM m tbl (ev tm x) h
  | .append esz bytes x y => appendA h esz bytes (ev tm x) (ev tm y)
  | .appendZ zero esz bytes x n => appendZA h zero esz bytes (ev tm x) (ev tm n)
  | .trap => none
  | .copy esz x y => copyA h esz (ev tm x) (ev tm y)
  | .clear zero esz x => clearA h zero esz (ev tm x)
  | .len ek x =>
    match ek, ev tm x with
    | .map, .nilmap => some (.int .i64 0, h)
    | .map, .map id =>
      match h.get id with
      | some (.map es) => some (.int .i64 es.length, h)
      | _ => none
    | .sl, .nilsl => some (.int .i64 0, h)
    | .sl, .slice _ _ len _ _ _ => some (.int .i64 len, h)
    | .str, .str s => some (.int .i64 s.length, h)
    | _, _ => none
  | .lenC n => some (.int .i64 n, h)
  | .cap x =>
    match ev tm x with
    | .nilsl => some (.int .i64 0, h)
    | .slice _ _ _ cap true _ => some (.int .i64 cap, h)
    | _ => none
  | .min x ys => (minA (ev tm x) (evs tm ys)).map fun v => (v, h)
  | .max x ys => (maxA (ev tm x) (evs tm ys)).map fun v => (v, h)
  | .lookup sk zero ok m k =>
    let es : Option (List (AV × AV)) := match ev tm m with
      | .nilmap => some []
      | .map id => match h.get id with
        | some (.map es) => some es
        | _ => none
      | _ => none
    match es with
    | none => none
    | some es =>
      if isKey sk (ev tm k) then
        match findA (ev tm k) es with
        | none => none
        | some r =>
          let v := r.getD zero
          some (if ok then .tuple [v, .bool r.isSome] else v, h)
      else none
  | .mapUpdate sk m k v =>
    match ev tm m with
    | .map id =>
      match h.get id with
      | some (.map es) =>
        if isKey sk (ev tm k) then
          match putA (ev tm k) (ev tm v) es with
          | some es' => some (undefA, h.set id (.map es'))
          | none => none
        else none
      | _ => none
    | _ => none
  | .rangeStr x =>
    match ev tm x with
    | .str s => some (.ptr h.next 0, h.alloc (.striter s 0))
    | _ => none
  | .nextStr it =>
    match ev tm it with
    | .ptr id 0 =>
      match h.get id with
      | some (.striter s pos) =>
        if pos < s.length then
          let d := Utf8.decode (toBA s) pos
          some (.tuple [.bool true, .int .i64 pos, .int .i32 d.1], h.set id (.striter s (pos + d.2)))
        else some (.tuple [.bool false], h)
      | _ => none
    | _ => none
def putT (tm : List AV) (dst : Option Nat) (v : AV) : List AV :=
  match dst with
  | some d => tm.set d v
  | none => tm
def wantedA (tm : List AV) : Option (Nat × Bool) → Bool
  | none => true
  | some (t, want) => match tm[t]? with
    | some (.bool b) => b == want
    | _ => false
def aops (call : Tgt → List AV → Heap → AR) : List SOper → List AV → Heap → Option (List AV × Heap)
  | [], tm, h => some (tm, h)
  | o :: rest, tm, h =>
    if wantedA tm o.guard then
      match aop call tm h o.op with
      | some (v, h') => aops call rest (putT tm o.dst v) h'
      | none => none
    else aops call rest (putT tm o.dst undefA) h
def readsA (tm : List AV) : SOp → Option Nat
  | .load _ _ a => match ev tm a with | .ptr id _ => some id | _ => none
  | .bytesToStr x => match ev tm x with | .slice id .. => some id | _ => none
  | .lookup _ _ _ m _ => match ev tm m with | .map id => some id | _ => none
  | .len _ x => match ev tm x with | .map id => some id | _ => none
  | .sliceArr _ _ x _ _ _ => match ev tm x with | .ptr id _ => some id | _ => none
  | _ => none
def aopsLog (call : Tgt → List AV → Heap → AR) : List SOper → List AV → Heap → Option (List AV × Heap × List (Option Nat × Heap × Heap))
  | [], tm, h => some (tm, h, [])
  | o :: rest, tm, h =>
    if wantedA tm o.guard then
      match aop call tm h o.op with
      | some (v, h') =>
        match aopsLog call rest (putT tm o.dst v) h' with
        | some (tm'', h'', lg) => some (tm'', h'', (readsA tm o.op, h, h') :: lg)
        | none => none
      | none => none
    else
      match aopsLog call rest (putT tm o.dst undefA) h with
      | some (tm'', h'', lg) => some (tm'', h'', (none, h, h) :: lg)
      | none => none
mutual
def AV.beq : AV → AV → Bool
  | .bool a, .bool b => a == b
  | .int j a, .int k b => j == k && a == b
  | .str a, .str b => a == b
  | .nilptr, .nilptr => true
  | .ptr a b, .ptr c d => a == c && b == d
  | .nilsl, .nilsl => true
  | .slice a b c d e f, .slice a' b' c' d' e' f' => a == a' && b == b' && c == c' && d == d' && e == e' && f == f'
  | .nilmap, .nilmap => true
  | .map a, .map b => a == b
  | .nilf, .nilf => true
  | .func f a b, .func f' a' b' => f == f' && AV.beqs a a' && AV.beqs b b'
  | .yieldf a, .yieldf b => a == b
  | .nilif, .nilif => true
  | .iface t v, .iface t' v' => t == t' && AV.beq v v'
  | .meth m v, .meth m' v' => m == m' && AV.beq v v'
  | .agg a, .agg b => AV.beqs a b
  | .tuple a, .tuple b => AV.beqs a b
  | _, _ => false
def AV.beqs : List AV → List AV → Bool
  | [], [] => true
  | a :: as, b :: bs => AV.beq a b && AV.beqs as bs
  | _, _ => false
end
def pairsBeq : List (AV × AV) → List (AV × AV) → Bool
  | [], [] => true
  | (a, b) :: r, (c, d) :: s => AV.beq a c && AV.beq b d && pairsBeq r s
  | _, _ => false
def sameObj : Option AObj → Option AObj → Bool
  | none, none => true
  | some (.cells a r), some (.cells b s) => r == s && AV.beqs a b
  | some (.map a), some (.map b) => pairsBeq a b
  | _, _ => false
def chkLog (lg : List (Option Nat × Heap × Heap)) : List (Nat × Nat) → Bool
  | [] => true
  | (i, q) :: rest =>
    (match lg[i]?, lg[q]? with
     | some (some id, _, _), some (_, h, h') => sameObj (h.get id) (h'.get id)
     | some (none, _, _), some _ => true
     | _, _ => false) && chkLog lg rest
abbrev AOut := Option (AExit × List AV × Heap)
def zipSet : List AV → List Nat → List AV → Option (List AV)
  | tm, [], [] => some tm
  | tm, p :: ps, v :: vs => zipSet (tm.set p v) ps vs
  | _, _, _ => none
def rdOk (h : Heap) : Option Nat → Bool
  | none => true
  | some id => match h.get id with
    | some (.loop ..) => true
    | _ => false
def acode (call : Tgt → List AV → Heap → AR) (self : FuncId) (rd : Option Nat) : Nat → SC → List AV → Heap → AOut
  | 0, _, _, _ => none
  | n + 1, c, tm, h =>
    match c with
    | .skip => some (.normal, tm, h)
    | .ops l => match aops call l tm h with
      | some (tm', h') => some (.normal, tm', h')
      | none => none
    | .drawOps l chk => match aopsLog call l tm h with
      | some (tm', h', lg) => if chkLog lg chk then some (.normal, tm', h') else none
      | none => none
    | .seq a b => match acode call self rd n a tm h with
      | some (.normal, tm', h') => acode call self rd n b tm' h'
      | r => r
    | .cond c a b => match ev tm c with
      | .bool true => acode call self rd n a tm h
      | .bool false => acode call self rd n b tm h
      | _ => none
    | .block id b => match acode call self rd n b tm h with
      | some (.exit id', tm', h') => some (if id' = id then .normal else .exit id', tm', h')
      | r => r
    | .loop b => match acode call self rd n b tm h with
      | some (.normal, tm', h') => acode call self rd n (.loop b) tm' h'
      | r => r
    | .exit id => some (.exit id, tm, h)
    | .ret => some (.ret, tm, h)
    | .rangeFunc f params assign body =>
      match ev tm f, rdOk h rd with
      | .func g first captured, true =>
        match call (.fn g) (first ++ [.yieldf h.next] ++ captured) (h.alloc (.loop self tm params assign body .ready .normal)) with
        | some (_, h') =>
          match h'.get h.next with
          | some (.loop self' tm' ps' as' bd' st pend) =>
            if st = .busy then none else some (pend, tm, h'.set h.next (.loop self' tm' ps' as' bd' .exhausted pend))
          | _ => none
        | none => none
      | _, _ => none
def resA (tm : List AV) (h : Heap) : List SRes → Option (List AV)
  | [] => some []
  | .tmp t :: rest => (resA tm h rest).map (tm.getD t undefA :: ·)
  | .cell a aggr n :: rest =>
    match tm.getD a undefA with
    | .ptr id off =>
      match loadA h aggr n id off with
      | some v => (resA tm h rest).map (v :: ·)
      | none => none
    | _ => none
def tupA : List AV → AV
  | [v] => v
  | vs => .tuple vs
abbrev Known := FuncId → List AV → Heap → AR
def acall (X : Known) (SP : FuncId → Option SFunc) : Nat → Tgt → List AV → Heap → AR
  | 0, _, _, _ => none
  | n + 1, .fn f, args, h =>
    match X f args h with
    | some r => some r
    | none =>
    match SP f with
    | none => none
    | some fn =>
      match acode (acall X SP n) f none n fn.body (args ++ List.replicate (fn.ntmps - args.length) undefA) h with
      | some (.normal, tm, h') | some (.ret, tm, h') => (resA tm h' fn.results).map fun vs => (tupA vs, h')
      | _ => none
  | n + 1, .yield l, args, h =>
    match h.get l with
    | some (.loop f tmps params assign body .ready _) =>
      match zipSet tmps params args with
      | none => none
      | some tm =>
        match acode (acall X SP n) f (some l) n assign tm h with
        | some (.normal, tm₁, h₁) =>
          match h₁.get l with
          | some (.loop f' t' p' a' b' .ready pe') =>
            match acode (acall X SP n) f (some l) n body tm₁ (h₁.set l (.loop f' t' p' a' b' .busy pe')) with
            | some (e, _, h₂) =>
              match h₂.get l with
              | some (.loop f'' t'' p'' a'' b'' _ _) =>
                if e = .normal then some (.bool true, h₂.set l (.loop f'' t'' p'' a'' b'' .ready .normal))
                else some (.bool false, h₂.set l (.loop f'' t'' p'' a'' b'' .done e))
              | _ => none
            | none => none
          | _ => none
        | _ => none
    | _ => none
end Go.Ya
namespace Go.Ya
set_option linter.unusedVariables false
set_option linter.unusedSimpArgs false
def wfInt (k : IntKind) (n : Int) : Bool := decide (k.min ≤ n) && decide (n ≤ k.max)
def bytesOf (s : ByteArray) : List Int := s.data.toList.map fun b => (b.toNat : Int)
mutual
def cVal : Value → Option AV
  | .bool b => some (.bool b)
  | .int k n => if wfInt k n then some (.int k n) else none
  | .string s => if s.size ≤ 9223372036854775807 then some (.str (bytesOf s)) else none
  | .pointer none => some .nilptr
  | .slice none 0 0 => some .nilsl
  | .map none => some .nilmap
  | .nilFunc => some .nilf
  | .func (.func f) ⟨[]⟩ ⟨[]⟩ => some (.func f [] [])
  | .nilIface => some .nilif
  | .iface t v => (cVal v).map (.iface t)
  | .agg ⟨cs⟩ =>
    match cVals cs with
    | some l => if l.all AV.flat then some (.agg l) else none
    | none => none
  | .tuple ⟨vs⟩ => (cVals vs).map .tuple
  | _ => none
def cVals : List Value → Option (List AV)
  | [] => some []
  | v :: vs =>
    match cVal v, cVals vs with
    | some a, some l => some (a :: l)
    | _, _ => none
end
def cOpd : Operand → Option Opd
  | .tmp t => some (.t t)
  | .const v => (cVal v).map .c
  | .func f => some (.c (.func f [] []))
  | .global _ => none
def cOpds : List Operand → Option (List Opd)
  | [] => some []
  | x :: xs =>
    match cOpd x, cOpds xs with
    | some a, some l => some (a :: l)
    | _, _ => none
def cOpt : Option Operand → Option (Option Opd)
  | none => some none
  | some x => (cOpd x).map some
def sz (P : Program) (t : TypeId) : Option Nat := (P.info? t).map (·.size)
def aggr? (P : Program) (t : TypeId) : Option Bool :=
  match P.underlying t with
  | some (.struct _) => some true
  | some (.array _ _) => some true
  | some _ => some false
  | none => none
def zeroA (P : Program) (t : TypeId) : Option AV :=
  match P.info? t with
  | some i => match i.zero with
    | some v => cVal v
    | none => none
  | none => none
def cParts (place : Nat → Option (Nat × Nat)) : List (Nat × Operand) → Option (List (Nat × Nat × Opd))
  | [] => some []
  | (i, x) :: rest =>
    match place i, cOpd x, cParts place rest with
    | some (off, size), some a, some l => some ((off, size, a) :: l)
    | _, _, _ => none
def plainFs (P : Program) (go : TypeId → Option (List Nat)) : Nat → List Field → Option (List Nat)
  | _, [] => some []
  | off, f :: fs =>
    match go f.type, sz P f.type, aggr? P f.type with
    | some k1, some n, some _ => if f.offset = off ∧ k1.length = n ∧ ¬ f.name = "_" then (plainFs P go (off + k1.length) fs).map (k1 ++ ·) else none
    | _, _, _ => none
def plainTy (P : Program) : Nat → TypeId → Option (List Nat)
  | 0, _ => none
  | d + 1, t =>
    match P.underlying t with
    | some .bool => some [0]
    | some (.int _) => some [1]
    | some .string => some [2]
    | some (.struct fs) => if P.stoodInHeld t = true then none else plainFs P (plainTy P d) 0 fs.toList
    | some (.array len e) =>
      match plainTy P d e, sz P e, aggr? P e with
      | some k1, some n, some _ => if k1.length = n then some (List.replicate len k1).flatten else none
      | _, _, _ => none
    | _ => none
def eqKind (P : Program) (t : TypeId) : EqK :=
  match P.underlying t with
  | some .bool => .bool
  | some (.pointer _) => .ptr
  | some (.slice _) => .sl
  | some (.map _ _) => .map
  | some (.func _ _ _) => .fn
  | some (.interface _) => .iface
  | some .string => .str
  | _ => .other
def keyTy (P : Program) (t : TypeId) : Option Bool :=
  match P.underlying t with
  | some (.int _) => some false
  | some .string => some true
  | _ => none
def isU8 (P : Program) (t : TypeId) : Bool :=
  match P.underlying t with
  | some (.int .u8) => true
  | _ => false
def notInt : TypeDesc → Bool
  | .int _ => false
  | _ => true
def isI64 : TypeDesc → Bool
  | .int .i64 => true
  | _ => false
def methOf (P : Program) (name : String) (t : TypeId) : Option (FuncId × Option (Bool × Nat)) :=
  match P.info? t with
  | none => none
  | some i =>
    match i.methods.find? (·.name == name) with
    | none => none
    | some m =>
      if m.path.toList.isEmpty = true then
        match m.func, P.underlying t with
        | some (f, true), some (.pointer _) => some (f, none)
        | some (f, false), some (.pointer e) =>
          match aggr? P e, sz P e with
          | some b, some n => some (f, some (b, n))
          | _, _ => none
        | some (f, false), some _ => some (f, none)
        | _, _ => none
      else none
def methTbl (P : Program) (name : String) : List (TypeId × FuncId × Option (Bool × Nat)) :=
  (List.range P.types.size).filterMap fun t => (methOf P name t).map fun m => (t, m)
theorem methTbl_find {P : Program} {name : String} {t : TypeId} {m : FuncId × Option (Bool × Nat)} (h : findM (methTbl P name) t = some m) : methOf P name t = some m := by
  unfold methTbl at h
  generalize List.range P.types.size = l at h
  induction l with
  | nil => cases h
  | cons k r ih =>
    rw [List.filterMap_cons] at h
    cases hm : methOf P name k with
    | none => rw [hm] at h; exact ih h
    | some q =>
      rw [hm] at h
      simp only [Option.map_some, findM] at h
      split at h
      · rename_i e; subst e; rw [hm]; exact h
      · exact ih h
def cCall (P : Program) (c : Call) : Option SOp :=
  match c.callee with
  | .value (.func f) => (cOpds c.args.toList).map (.call f)
  | .value x =>
    match cOpd x, cOpds c.args.toList with
    | some a, some l => some (.callV a l)
    | _, _ => none
  | .invoke x m =>
    match cOpd x, cOpds c.args.toList with
    | some a, some l => some (.invoke (methTbl P m) a l)
    | _, _ => none
  | .builtin b =>
    match b, c.argTypes.toList, c.args.toList with
    | .append, [t, u], [x, y] =>
      match P.underlying t, P.underlying u, cOpd x, cOpd y with
      | some (.slice e), some ut, some a, some b =>
        match P.info? e, zeroA P e with
        | some i, some z => if notInt ut = true ∧ 0 < i.size ∧ 0 < i.bytes ∧ z.cells.length = i.size ∧ (¬ (i.size = 1 ∧ i.bytes = 1) ∨ z.zeroU8 = true) then some (.append i.size i.bytes a b)
          else if isI64 ut = true ∧ 0 < i.size ∧ 0 < i.bytes ∧ z.cells.length = i.size ∧ z.cells.all AV.flat = true ∧ (¬ (i.size = 1 ∧ i.bytes = 1) ∨ z.zeroU8 = true) then some (.appendZ z.cells i.size i.bytes a b) else none
        | _, _ => none
      | _, _, _, _ => none
    | .copy, t :: _, [x, y] =>
      match P.underlying t, cOpd x, cOpd y with
      | some (.slice e), some a, some b => (sz P e).map fun n => .copy n a b
      | _, _, _ => none
    | .clear, [t], [x] =>
      match P.underlying t, cOpd x with
      | some (.slice e), some a =>
        match zeroA P e, sz P e with
        | some z, some n => if z.cells.length = n ∧ z.cells.all AV.flat then some (.clear z.cells n a) else none
        | _, _ => none
      | _, _ => none
    | .len, t :: _, x :: _ =>
      match P.underlying t with
      | some (.array n _) => if n ≤ 9223372036854775807 then some (.lenC n) else none
      | some (.pointer arr) => match P.underlying arr with
        | some (.array n _) => if n ≤ 9223372036854775807 then some (.lenC n) else none
        | _ => none
      | some .string => (cOpd x).map (.len .str)
      | some (.slice _) => (cOpd x).map (.len .sl)
      | _ => none
    | .cap, t :: _, x :: _ =>
      match P.underlying t with
      | some (.slice _) => (cOpd x).map .cap
      | _ => none
    | .min, _, x :: ys =>
      match cOpd x, cOpds ys with
      | some a, some l => some (.min a l)
      | _, _ => none
    | .max, _, x :: ys =>
      match cOpd x, cOpds ys with
      | some a, some l => some (.max a l)
      | _, _ => none
    | _, _, _ => none
def cOp (P : Program) (o : Op) : Option SOp :=
  match o with
  | .move x => (cOpd x).map .mov
  | .assign x => (cOpd x).map .mov
  | .pick c a b =>
    match cOpd c, cOpd a, cOpd b with
    | some c, some a, some b => some (.pick c a b)
    | _, _, _ => none
  | .alloc e =>
    match zeroA P e with
    | some v => some (.box (.c v))
    | none => none
  | .box _ x => (cOpd x).map .box
  | .build t parts =>
    match zeroA P t, P.underlying t with
    | some z, some (.struct fs) =>
      match cParts (fun i => (fs[i]?).bind fun f => (sz P f.type).map fun n => (f.offset, n)) parts.toList with
      | some ps => if fs.toList.all (fun f => (sz P f.type).isSome) ∧ z.cells.all AV.flat then some (.build z.cells ps) else none
      | none => none
    | some z, some (.array _ e) =>
      match sz P e with
      | some n =>
        match cParts (fun i => some (i * n, n)) parts.toList with
        | some ps => if z.cells.all AV.flat then some (.build z.cells ps) else none
        | none => none
      | none => none
    | _, _ => none
  | .buildSlice t len parts =>
    match P.underlying t with
    | some (.slice e) =>
      match zeroA P e, sz P e with
      | some z, some n =>
        match cParts (fun i => some (i * n, n)) parts.toList with
        | some ps => if z.cells.length = n ∧ 0 < n ∧ len * n ≤ 2 ^ 24 ∧ z.cells.all AV.flat then some (.buildSlice ((List.replicate len z.cells).flatten) len n ps) else none
        | none => none
      | _, _ => none
    | _ => none
  | .load t a =>
    match aggr? P t, sz P t, cOpd a with
    | some b, some n, some x => some (.load b n x)
    | _, _, _ => none
  | .store t a x =>
    match sz P t, cOpd a, cOpd x with
    | some n, some a, some x => some (.store n a x)
    | _, _, _ => none
  | .nilCheck x => (cOpd x).map .nilChk
  | .binOp op t x y _ =>
    match cOpd x, cOpd y with
    | some a, some b =>
      match P.underlying t with
      | some (.struct _) | some (.array _ _) =>
        match plainTy P 8 t, P.eqGuardType P.depth t with
        | some ks, false =>
          match op with
          | .eql => some (.eqAgg false ks a b)
          | .neq => some (.eqAgg true ks a b)
          | _ => none
        | _, _ => none
      | some _ => some (.bin op (eqKind P t) a b)
      | none => none
    | _, _ => none
  | .unOp op _ x => (cOpd x).map (.un op)
  | .convert src dst x =>
    match P.underlying src, P.underlying dst, cOpd x with
    | some (.int _), some (.int k), some a => some (.convInt k a)
    | some .string, some .string, some a => some (.convStr a)
    | some .string, some (.slice e), some a => if isU8 P e then some (.strToBytes a) else none
    | some (.slice e), some .string, some a => if isU8 P e then some (.bytesToStr a) else none
    | _, _, _ => none
  | .makeInterface t x =>
    match P.underlying t with
    | some (.interface _) => none
    | some _ => (cOpd x).map (.iface t)
    | none => none
  | .makeFunc fn first captured =>
    match fn, cOpds first.toList, cOpds captured.toList with
    | .func f, some a, some b => some (.mkFunc f a b)
    | .method m, some [a], some [] => some (.mkMeth m a)
    | _, _, _ => none
  | .makeSlice t l c =>
    match P.underlying t with
    | some (.slice e) =>
      match P.info? e, zeroA P e, cOpd l, cOpd c with
      | some i, some z, some l, some c => if z.cells.length = i.size ∧ 0 < i.size ∧ 0 < i.bytes ∧ z.cells.all AV.flat then some (.mkSlice z.cells i.size i.bytes l c) else none
      | _, _, _, _ => none
    | _ => none
  | .slice t x lo hi mx =>
    match cOpd x, cOpt lo, cOpt hi, cOpt mx with
    | some x, some lo, some hi, some mx =>
      match P.underlying t with
      | some (.array n e) => match sz P e with
        | some s => if 0 < s ∧ n ≤ 9223372036854775807 then some (.sliceArr n s x lo hi mx) else none
        | none => none
      | some (.slice e) => match sz P e with
        | some s => some (.slice s x lo hi mx)
        | none => none
      | some .string => if mx.isSome then none else some (.sliceStr x lo hi)
      | some (.pointer arr) =>
        match P.underlying arr with
        | some (.array n e) => match sz P e with
          | some s => if 0 < s ∧ n ≤ 9223372036854775807 then some (.sliceArr n s x lo hi mx) else none
          | none => none
        | _ => none
      | _ => none
    | _, _, _, _ => none
  | .fieldAddr s x f =>
    match P.underlying s, cOpd x with
    | some (.struct fs), some a =>
      match fs[f]? with
      | some fl => match sz P fl.type with
        | some n => if n = 0 then none else some (.fieldAddr fl.offset a)
        | none => none
      | none => none
    | _, _ => none
  | .field t x f =>
    match P.underlying t, cOpd x with
    | some (.struct fs), some a =>
      match fs[f]? with
      | some fl => match aggr? P fl.type, sz P fl.type with
        | some b, some n => some (.field b fl.offset n a)
        | _, _ => none
      | none => none
    | _, _ => none
  | .indexAddr t x i =>
    match cOpd x, cOpd i with
    | some a, some j =>
      match P.underlying t with
      | some (.array len e) => (sz P e).map fun n => .idxAddrArr len n a j
      | some (.slice e) => (sz P e).map fun n => .idxAddrSl n a j
      | _ => none
    | _, _ => none
  | .index t x i =>
    match cOpd x, cOpd i with
    | some a, some j =>
      match P.underlying t with
      | some (.array len e) => match aggr? P e, sz P e with
        | some b, some n => some (.idxArr b len n a j)
        | _, _ => none
      | some .string => some (.idxStr a j)
      | _ => none
    | _, _ => none
  | .lookup t m k ok =>
    match P.underlying t, cOpd m, cOpd k with
    | some (.map kt e), some a, some b =>
      match zeroA P e with
      | some z => match keyTy P kt with
        | some sk => some (.lookup sk z ok a b)
        | none => none
      | none => none
    | _, _, _ => none
  | .mapUpdate t m k v =>
    match P.underlying t, cOpd m, cOpd k, cOpd v with
    | some (.map kt _), some a, some b, some c => match keyTy P kt with
      | some sk => some (.mapUpdate sk a b c)
      | none => none
    | _, _, _, _ => none
  | .insert t m k v =>
    match P.underlying t, cOpd m, cOpd k, cOpd v with
    | some (.map kt _), some a, some b, some c => match keyTy P kt with
      | some sk => some (.mapUpdate sk a b c)
      | none => none
    | _, _, _, _ => none
  | .makeMap t r =>
    match r, P.underlying t with
    | none, _ => some .mkMap
    | some (.const (.int _ _)), some (.map _ _) => some .mkMap
    | _, _ => none
  | .range t x =>
    match P.underlying t, cOpd x with
    | some .string, some a => some (.rangeStr a)
    | _, _ => none
  | .next it true => (cOpd it).map .nextStr
  | .extract t i => (cOpd t).map (.extract · i)
  | .panic _ => some .trap
  | .typeAssert x _ t ok =>
    match P.underlying t, cOpd x, zeroA P t with
    | some (.interface _), _, _ => none
    | some _, some a, some z => some (.assert t z ok a)
    | _, _, _ => none
  | .call c => cCall P c
  | _ => none
def methIn (ops : List Oper) (t : Nat) : Option String :=
  ops.findSome? fun o => match o.dst, o.op with
    | some d, .makeFunc (.method m) _ _ => if d = t then some m else none
    | _, _ => none
def cOpR (P : Program) (ops : Array Oper) (o : Op) : Option SOp :=
  match o with
  | .nilCheck (.tmp t) =>
    match methIn ops.toList t with
    | some m => some (.nilChkM m (methTbl P m) (.t t))
    | none => cOp P (.nilCheck (.tmp t))
  | _ => cOp P o
theorem cOpR_spec {P : Program} {ops : Array Oper} {o : Op} {s : SOp} (h : cOpR P ops o = some s) : cOp P o = some s ∨ ∃ m t, o = .nilCheck (.tmp t) ∧ s = .nilChkM m (methTbl P m) (.t t) := by
  unfold cOpR at h
  split at h
  · split at h
    · cases h; exact .inr ⟨_, _, rfl, rfl⟩
    · exact .inl h
  · exact .inl h
def cOper (P : Program) (ops : Array Oper) (o : Oper) : Option SOper :=
  match cOpR P ops o.op with
  | none => none
  | some s =>
    match o.guard with
    | none => some ⟨o.dst, s, none⟩
    | some (j, want) =>
      match (ops[j]?).bind (·.dst) with
      | some t => some ⟨o.dst, s, some (t, want)⟩
      | none => none
def cOpers (P : Program) (ops : Array Oper) : List Oper → Option (List SOper)
  | [] => some []
  | o :: rest =>
    match cOper P ops o, cOpers P ops rest with
    | some s, some l => some (s :: l)
    | _, _ => none
inductive Class where
  | light | read | heavy
  deriving DecidableEq
def SOp.class : SOp → Class
  | .load .. | .bytesToStr _ | .sliceArr .. | .lookup .. | .len .map _ => .read
  | .store .. | .call .. | .callV .. | .invoke .. | .append .. | .appendZ .. | .trap | .copy .. | .clear .. | .mapUpdate .. | .nextStr _ | .rangeStr _ => .heavy
  | .box _ | .buildSlice .. | .strToBytes _ | .mkMap | .mkSlice .. => .heavy
  | _ => .light
def Opd.names : Opd → List Nat
  | .t n => [n]
  | .c _ => []
def optNames : Option Opd → List Nat
  | none => []
  | some x => x.names
def partNames (l : List (Nat × Nat × Opd)) : List Nat := l.flatMap fun p => p.2.2.names
def SOp.names : SOp → List Nat
  | .mov x | .box x | .load _ _ x | .nilChk x | .un _ x | .convInt _ x | .strToBytes x | .bytesToStr x | .convStr x | .iface _ x
  | .fieldAddr _ x | .field _ _ _ x | .extract x _ | .clear _ _ x | .len _ x | .cap x | .rangeStr x | .nextStr x | .assert _ _ _ x | .mkMeth _ x | .nilChkM _ _ x => x.names
  | .pick a b c | .mapUpdate _ a b c => a.names ++ b.names ++ c.names
  | .build _ ps | .buildSlice _ _ _ ps => partNames ps
  | .store _ x y | .bin _ _ x y | .eqAgg _ _ x y | .mkSlice _ _ _ x y | .idxAddrSl _ x y | .idxAddrArr _ _ x y | .idxArr _ _ _ x y | .idxStr x y
  | .append _ _ x y | .appendZ _ _ _ x y | .copy _ x y | .lookup _ _ _ x y => x.names ++ y.names
  | .mkFunc _ a b => a.flatMap Opd.names ++ b.flatMap Opd.names
  | .mkMap | .lenC _ | .trap => []
  | .slice _ x lo hi mx | .sliceArr _ _ x lo hi mx => x.names ++ optNames lo ++ optNames hi ++ optNames mx
  | .sliceStr x lo hi => x.names ++ optNames lo ++ optNames hi
  | .call _ l => l.flatMap Opd.names
  | .callV x l | .invoke _ x l | .min x l | .max x l => x.names ++ l.flatMap Opd.names
def SOper.names (o : SOper) : List Nat := o.op.names ++ (match o.guard with | some (t, _) => [t] | none => []) ++ o.dst.toList
def uni (s : List Nat) : List Nat → List Nat
  | [] => s
  | x :: a => uni (if s.contains x then s else x :: s) a
def befores (ops : List Oper) : List (List Nat) :=
  ops.foldl (init := []) fun acc o =>
    acc ++ [o.after.toList.foldl (init := []) fun s e => if Region.binds .any e then uni s (e.on :: (acc.getD e.on [])) else s]
def edgesOk (ops : List Oper) : Bool := ops.zipIdx.all fun (o, i) => o.after.toList.all fun e => !Region.binds .any e || decide (e.on < i)
def ordered (bs : List (List Nat)) (i j : Nat) : Bool := (bs.getD (max i j) []).contains (min i j)
def loosePairs (bs : List (List Nat)) (l : List SOper) : List (Nat × SOper × Nat × SOper) :=
  l.zipIdx.flatMap fun (a, i) => l.zipIdx.filterMap fun (b, j) => if i ≠ j ∧ !ordered bs i j then some (i, a, j, b) else none
def constBox : SOper → Bool
  | ⟨_, .box (.c _), none⟩ => true
  | _ => false
def drawOkR (bs : List (List Nat)) (l : List SOper) (p q : Nat) : Bool :=
  ((loosePairs bs l).all fun (i, a, j, b) =>
    (!(a.op.class = .heavy ∧ b.op.class = .heavy) || decide ((p ≤ i ∧ i < q) ∧ p ≤ j ∧ j < q)) &&
    (match b.dst with | some d => !a.names.contains d | none => true)) &&
  l.zipIdx.all fun (o, i) => !(decide ((p ≤ i ∧ i < q) ∧ o.op.class = .heavy)) || constBox o
def boxRun (l : List SOper) : Nat × Nat :=
  match (l.zipIdx.filter fun (o, _) => constBox o).map (·.2) with
  | [] => (0, 0)
  | i :: rest => (i, (rest.getLast?.getD i) + 1)
def drawOk (bs : List (List Nat)) (l : List SOper) : Bool := drawOkR bs l 0 0 || drawOkR bs l (boxRun l).1 (boxRun l).2
def drawChk (bs : List (List Nat)) (l : List SOper) : List (Nat × Nat) :=
  (loosePairs bs l).filterMap fun (i, a, j, b) => if a.op.class = .read ∧ b.op.class = .heavy then some (i, j) else none
def cCode (P : Program) : Code → Option SC
  | .skip => some .skip
  | .region _ ops draw =>
    match cOpers P ops ops.toList with
    | none => none
    | some l =>
      if draw then
        let bs := befores ops.toList
        if edgesOk ops.toList && drawOk bs l then
          match drawChk bs l with
          | [] => some (.ops l)
          | chk => some (.drawOps l chk)
        else none
      else some (.ops l)
  | .seq a b =>
    match cCode P a, cCode P b with
    | some x, some y => some (.seq x y)
    | _, _ => none
  | .cond c a b =>
    match cOpd c, cCode P a, cCode P b with
    | some c, some x, some y => some (.cond c x y)
    | _, _, _ => none
  | .block id b => (cCode P b).map (.block id)
  | .loop b => (cCode P b).map .loop
  | .rangeFunc f params assign body =>
    match cOpd f, cCode P assign, cCode P body with
    | some f, some x, some y => some (.rangeFunc f params.toList x y)
    | _, _, _ => none
  | .exit id => some (.exit id)
  | .ret => some .ret
  | _ => none
def cRes (P : Program) : ResultVar → Option SRes
  | .tmp t => some (.tmp t)
  | .cell a t =>
    match aggr? P t, sz P t with
    | some b, some n => some (.cell a b n)
    | _, _ => none
def cRess (P : Program) : List ResultVar → Option (List SRes)
  | [] => some []
  | r :: rs =>
    match cRes P r, cRess P rs with
    | some a, some l => some (a :: l)
    | _, _ => none
def cFunc (P : Program) (fn : Func) : Option SFunc :=
  match fn.body with
  | none => none
  | some b =>
    match cCode P b, cRess P fn.results.toList with
    | some c, some rs => if fn.name = "runtime.NumGoroutine" then none else some ⟨fn.ntmps, rs, c⟩
    | _, _ => none
end Go.Ya
