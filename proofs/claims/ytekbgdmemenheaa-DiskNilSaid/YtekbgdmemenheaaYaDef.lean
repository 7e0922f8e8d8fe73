/-
  An abstract machine for the Go model: values without capacities and orders, a heap without addresses.
  Definitions alone: the values, the operations, the code, the run.
-/
import GoSem.Claims
namespace Go.Ya
set_option linter.unusedVariables false
set_option linter.unusedSimpArgs false

/-! ### values -/
inductive AV where
  | bool (b : Bool)
  | int (k : IntKind) (n : Int)
  | str (s : List Int)
  | nilptr
  | ptr (id off : Nat)
  | nilsl
  | slice (id off len cap : Nat) (ex : Bool) (esz : Nat)
  | nilmap
  | map (id : Nat)
  | nilf
  | func (f : FuncId) (first captured : List AV)
  | yieldf (id : Nat)
  | nilif
  | iface (t : TypeId) (v : AV)
  | agg (cs : List AV)
  | tuple (vs : List AV)
  deriving Inhabited

def AV.flat : AV → Bool
  | .agg _ => false
  | .tuple _ => false
  | _ => true

def AV.cells : AV → List AV
  | .agg cs => cs
  | v => [v]

abbrev undefA : AV := .tuple []

/-! ### operations -/
inductive Opd where
  | t (n : Nat)
  | c (v : AV)
  deriving Inhabited

inductive Tgt where
  | fn (f : FuncId)
  | yield (id : Nat)

/-- What kind of type two compared values have. -/
inductive EqK where
  | bool | ptr | sl | map | fn | iface | str | other
  deriving DecidableEq, Inhabited

inductive SOp where
  | mov (x : Opd)
  | pick (c a b : Opd)
  | box (x : Opd)
  | build (base : List AV) (parts : List (Nat × Nat × Opd))
  | buildSlice (base : List AV) (len esz : Nat) (parts : List (Nat × Nat × Opd))
  | load (aggr : Bool) (n : Nat) (a : Opd)
  | store (n : Nat) (a x : Opd)
  | nilChk (x : Opd)
  | bin (op : BinOp) (ek : EqK) (x y : Opd)
  | eqAgg (neg : Bool) (ks : List Nat) (x y : Opd)
  | un (op : UnOp) (x : Opd)
  | convInt (k : IntKind) (x : Opd)
  | strToBytes (x : Opd)
  | bytesToStr (x : Opd)
  | convStr (x : Opd)
  | iface (t : TypeId) (x : Opd)
  | mkFunc (f : FuncId) (first captured : List Opd)
  | mkMap
  | mkSlice (zero : List AV) (esz bytes : Nat) (l c : Opd)
  | slice (esz : Nat) (x : Opd) (lo hi mx : Option Opd)
  | sliceStr (x : Opd) (lo hi : Option Opd)
  | sliceArr (n esz : Nat) (x : Opd) (lo hi mx : Option Opd)
  | fieldAddr (off : Nat) (x : Opd)
  | field (aggr : Bool) (off n : Nat) (x : Opd)
  | idxAddrSl (esz : Nat) (x i : Opd)
  | idxAddrArr (len esz : Nat) (x i : Opd)
  | idxArr (aggr : Bool) (len esz : Nat) (x i : Opd)
  | idxStr (x i : Opd)
  | extract (x : Opd) (i : Nat)
  | call (f : FuncId) (args : List Opd)
  | callV (x : Opd) (args : List Opd)
  | append (esz bytes : Nat) (x y : Opd)
  | copy (esz : Nat) (x y : Opd)
  | clear (zero : List AV) (esz : Nat) (x : Opd)
  | len (ek : EqK) (x : Opd)
  | lenC (n : Nat)
  | cap (x : Opd)
  | min (x : Opd) (ys : List Opd)
  | max (x : Opd) (ys : List Opd)
  | lookup (sk : Bool) (zero : AV) (commaOk : Bool) (m k : Opd)
  | mapUpdate (sk : Bool) (m k v : Opd)
  | rangeStr (x : Opd)
  | nextStr (it : Opd)
  deriving Inhabited

structure SOper where
  dst : Option Nat
  op : SOp
  guard : Option (Nat × Bool)
  deriving Inhabited

inductive AExit where
  | normal
  | exit (id : Nat)
  | ret
  deriving DecidableEq, Inhabited

inductive SC where
  | skip
  | ops (l : List SOper)
  | drawOps (l : List SOper) (chk : List (Nat × Nat))
  | seq (a b : SC)
  | cond (c : Opd) (a b : SC)
  | block (id : Nat) (c : SC)
  | loop (c : SC)
  | exit (id : Nat)
  | ret
  | rangeFunc (f : Opd) (params : List Nat) (assign body : SC)
  deriving Inhabited

inductive SRes where
  | tmp (t : Nat)
  | cell (a : Nat) (aggr : Bool) (n : Nat)
  deriving Inhabited

structure SFunc where
  ntmps : Nat
  results : List SRes
  body : SC
  deriving Inhabited

/-! ### the heap -/
inductive AObj where
  | cells (c : List AV) (ro : Bool)
  | map (es : List (AV × AV))
  | striter (s : List Int) (pos : Nat)
  | loop (f : FuncId) (tmps : List AV) (params : List Nat) (assign body : SC) (state : LoopState) (pending : AExit)
  | dead
  deriving Inhabited

inductive Tr where
  | nil
  | node (o : Option AObj) (l r : Tr)
  deriving Inhabited

def Tr.get : Tr → Nat → Option AObj
  | .nil, _ => none
  | .node o _ _, 0 => o
  | .node _ l r, k + 1 => if k % 2 = 0 then l.get (k / 2) else r.get (k / 2)

def Tr.root : Tr → Option AObj
  | .nil => none
  | .node o _ _ => o
def Tr.left : Tr → Tr
  | .nil => .nil
  | .node _ l _ => l
def Tr.right : Tr → Tr
  | .nil => .nil
  | .node _ _ r => r

def Tr.setF : Nat → Tr → Nat → AObj → Tr
  | 0, t, _, _ => t
  | _ + 1, t, 0, o => .node (some o) t.left t.right
  | f + 1, t, k + 1, o => if k % 2 = 0 then .node t.root (Tr.setF f t.left (k / 2) o) t.right else .node t.root t.left (Tr.setF f t.right (k / 2) o)

structure Heap where
  next : Nat
  tr : Tr
  deriving Inhabited

def Heap.get (h : Heap) (id : Nat) : Option AObj := if id < h.next then h.tr.get id else none
def Heap.set (h : Heap) (id : Nat) (o : AObj) : Heap := { h with tr := h.tr.setF (id + 1) id o }
def Heap.alloc (h : Heap) (o : AObj) : Heap := { next := h.next + 1, tr := h.tr.setF (h.next + 1) h.next o }

theorem Tr.get_setF (o : AObj) : ∀ (f : Nat) (t : Tr) (k j : Nat), k < f → (Tr.setF f t k o).get j = if j = k then some o else t.get j := by
  intro f
  induction f with
  | zero => intro t k j h; omega
  | succ f ih =>
    intro t k j h
    cases k with
    | zero =>
      simp only [Tr.setF]
      cases j with
      | zero => simp [Tr.get]
      | succ j => cases t <;> simp [Tr.get, Tr.left, Tr.right]
    | succ k =>
      simp only [Tr.setF]
      by_cases hk : k % 2 = 0
      · rw [if_pos hk]
        cases j with
        | zero => cases t <;> simp [Tr.get, Tr.root]
        | succ j =>
          by_cases hj : j % 2 = 0
          · simp only [Tr.get, hj, if_true]
            rw [ih _ _ _ (by omega)]
            by_cases e : j = k
            · subst e; simp
            · have : ¬ j / 2 = k / 2 := by omega
              have e' : ¬ (j + 1 = k + 1) := by omega
              rw [if_neg this, if_neg e']
              cases t <;> simp [Tr.get, Tr.left, hj]
          · have e' : ¬ (j + 1 = k + 1) := by intro h; have : j = k := by omega
                                              subst this; exact hj hk
            rw [if_neg e']
            simp only [Tr.get, hj, if_false]
            cases t <;> simp [Tr.get, Tr.right, hj]
      · rw [if_neg hk]
        cases j with
        | zero => cases t <;> simp [Tr.get, Tr.root]
        | succ j =>
          by_cases hj : j % 2 = 0
          · have e' : ¬ (j + 1 = k + 1) := by intro h; have : j = k := by omega
                                              subst this; exact hk hj
            rw [if_neg e']
            simp only [Tr.get, hj, if_true]
            cases t <;> simp [Tr.get, Tr.left, hj]
          · simp only [Tr.get, hj, if_false]
            rw [ih _ _ _ (by omega)]
            by_cases e : j = k
            · subst e; simp
            · have : ¬ j / 2 = k / 2 := by omega
              have e' : ¬ (j + 1 = k + 1) := by omega
              rw [if_neg this, if_neg e']
              cases t <;> simp [Tr.get, Tr.right, hj]

theorem Heap.get_set (h : Heap) (id j : Nat) (o : AObj) (hid : id < h.next) : (h.set id o).get j = if j = id then some o else h.get j := by
  simp only [Heap.get, Heap.set]
  rw [Tr.get_setF _ _ _ _ _ (by omega)]
  by_cases e : j = id
  · subst e; simp [hid]
  · simp [e]
theorem Heap.get_alloc (h : Heap) (j : Nat) (o : AObj) : (h.alloc o).get j = if j = h.next then some o else h.get j := by
  simp only [Heap.get, Heap.alloc]
  rw [Tr.get_setF _ _ _ _ _ (by omega)]
  by_cases e : j = h.next
  · subst e; simp
  · by_cases hl : j < h.next
    · simp [e, hl, show j < h.next + 1 by omega]
    · simp [e, hl, show ¬ j < h.next + 1 by omega]
@[simp] theorem Heap.next_set (h : Heap) (id : Nat) (o : AObj) : (h.set id o).next = h.next := rfl
@[simp] theorem Heap.next_alloc (h : Heap) (o : AObj) : (h.alloc o).next = h.next + 1 := rfl
theorem Heap.lt_of_get {h : Heap} {id : Nat} {o : AObj} (e : h.get id = some o) : id < h.next := by
  unfold Heap.get at e
  split at e
  · assumption
  · cases e

/-! ### the run -/
abbrev AR := Option (AV × Heap)

def ev (tm : List AV) : Opd → AV
  | .t n => tm.getD n undefA
  | .c v => v

def evs (tm : List AV) (l : List Opd) : List AV := l.map (ev tm)

def splice (c : List AV) (off : Nat) (vs : List AV) : List AV := c.take off ++ vs ++ c.drop (off + vs.length)

def fillA (cells : List AV) (tm : List AV) : List (Nat × Nat × Opd) → Option (List AV)
  | [] => some cells
  | (off, size, x) :: rest =>
    let vs := (ev tm x).cells
    if vs.length = size ∧ off + size ≤ cells.length ∧ vs.all AV.flat then fillA (splice cells off vs) tm rest else none

def loadA (h : Heap) (aggr : Bool) (n id off : Nat) : Option AV :=
  match h.get id with
  | some (.cells c _) =>
    if aggr then (if off + n ≤ c.length then some (.agg ((c.drop off).take n)) else none)
    else c[off]?
  | _ => none

def storeA (h : Heap) (id off : Nat) (vs : List AV) : Option Heap :=
  match h.get id with
  | some (.cells c false) => if off + vs.length ≤ c.length then some (h.set id (.cells (splice c off vs) false)) else none
  | _ => none

def binInt (op : BinOp) (k : IntKind) (a b : Int) : Option AV :=
  match op with
  | .add => some (.int k (k.wrap (a + b)))
  | .sub => some (.int k (k.wrap (a - b)))
  | .mul => some (.int k (k.wrap (a * b)))
  | .quo => if b = 0 then none else some (.int k (k.wrap (a.tdiv b)))
  | .rem => if b = 0 then none else some (.int k (a.tmod b))
  | .and => some (.int k (k.wrap (BitVec.ofInt k.bits a &&& BitVec.ofInt k.bits b).toNat))
  | .or => some (.int k (k.wrap (BitVec.ofInt k.bits a ||| BitVec.ofInt k.bits b).toNat))
  | .xor => some (.int k (k.wrap (BitVec.ofInt k.bits a ^^^ BitVec.ofInt k.bits b).toNat))
  | .andNot => some (.int k (k.wrap (BitVec.ofInt k.bits a &&& ~~~ BitVec.ofInt k.bits b).toNat))
  | .eql => some (.bool (a == b))
  | .neq => some (.bool (a != b))
  | .lss => some (.bool (decide (a < b)))
  | .leq => some (.bool (decide (a ≤ b)))
  | .gtr => some (.bool (decide (a > b)))
  | .geq => some (.bool (decide (a ≥ b)))
  | _ => none

def shiftInt (op : BinOp) (k : IntKind) (a b : Int) : Option AV :=
  if b < 0 then none else
  match op with
  | .shl => some (.int k (k.wrap (a * 2 ^ (Nat.min b.toNat k.bits))))
  | .shr => some (.int k (a.fdiv (2 ^ (Nat.min b.toNat k.bits))))
  | _ => none

def lessA : List Int → List Int → Bool
  | _, [] => false
  | [], _ :: _ => true
  | a :: x, b :: y => decide (a < b) || (a == b && lessA x y)

def binStr (op : BinOp) (a b : List Int) : Option AV :=
  match op with
  | .add => if a.length + b.length ≤ 9223372036854775807 then some (.str (a ++ b)) else none
  | .eql => some (.bool (a == b))
  | .neq => some (.bool (a != b))
  | .lss => some (.bool (lessA a b))
  | .leq => some (.bool (lessA a b || a == b))
  | .gtr => some (.bool !(lessA a b || a == b))
  | .geq => some (.bool !(lessA a b))
  | _ => none

def nilEq : EqK → AV → AV → Option Bool
  | .bool, .bool a, .bool b => some (a == b)
  | .ptr, .nilptr, .nilptr => some true
  | .ptr, .nilptr, .ptr _ _ => some false
  | .ptr, .ptr _ _, .nilptr => some false
  | .sl, .nilsl, .nilsl => some true
  | .sl, .nilsl, .slice .. => some false
  | .sl, .slice .., .nilsl => some false
  | .map, .nilmap, .nilmap => some true
  | .map, .nilmap, .map _ => some false
  | .map, .map _, .nilmap => some false
  | .fn, .nilf, .nilf => some true
  | .fn, .nilf, .func .. => some false
  | .fn, .func .., .nilf => some false
  | .fn, .nilf, .yieldf .. => some false
  | .fn, .yieldf .., .nilf => some false
  | .iface, .nilif, .iface .. => some false
  | .iface, .iface .., .nilif => some false
  | _, _, _ => none

def binA (op : BinOp) (ek : EqK) (x y : AV) : Option AV :=
  match x, y with
  | .int k a, .int k' b =>
    if op = .shl ∨ op = .shr then shiftInt op k a b
    else if k = k' then binInt op k a b else none
  | .str a, .str b => binStr op a b
  | x, y =>
    match op with
    | .eql => (nilEq ek x y).map .bool
    | .neq => (nilEq ek x y).map fun b => .bool !b
    | _ => none

/-- Cells of these kinds: 0 a truth, 1 a number, 2 a text. -/
def kindOk : Nat → AV → Bool
  | 0, .bool _ => true
  | 1, .int _ _ => true
  | 2, .str _ => true
  | _, _ => false
def kindsOk : List Nat → List AV → Bool
  | [], [] => true
  | k :: ks, v :: vs => kindOk k v && kindsOk ks vs
  | _, _ => false
def plainEq : List AV → List AV → Option Bool
  | [], [] => some true
  | .bool a :: xs, .bool b :: ys => if a = b then plainEq xs ys else some false
  | .int j a :: xs, .int k b :: ys => if j = k then (if a = b then plainEq xs ys else some false) else none
  | .str a :: xs, .str b :: ys => if a = b then plainEq xs ys else some false
  | _, _ => none

def unA (op : UnOp) (x : AV) : Option AV :=
  match op, x with
  | .neg, .int k n => some (.int k (k.wrap (0 - n)))
  | .xor, .int k n => some (.int k (k.wrap (BitVec.ofInt k.bits (if k.signed then -1 else k.max) ^^^ BitVec.ofInt k.bits n).toNat))
  | .not, .bool b => some (.bool !b)
  | _, _ => none

def byteCells : List AV → Option (List Int)
  | [] => some []
  | .int .u8 n :: rest => (byteCells rest).map (n :: ·)
  | _ => none

def sliceBoundA (v : AV) (y : Nat) : Option Nat :=
  match v with
  | .int _ i => if 0 ≤ i ∧ i ≤ y then some i.toNat else none
  | _ => none

/-- low, high, max; len and the known capacity: what comes of them. -/
def boundsA (len cap : Nat) (lo hi mx : Option AV) : Option (Nat × Nat × Nat) :=
  match (match mx with | some v => sliceBoundA v cap | none => some cap) with
  | none => none
  | some m =>
    match (match hi, mx with | some v, some _ => sliceBoundA v m | some v, none => sliceBoundA v m | none, none => some len | none, some _ => none) with
    | none => none
    | some h =>
      match (match lo with | some v => sliceBoundA v h | none => some 0) with
      | none => none
      | some l => some (l, h, m)

def sliceA (esz : Nat) (x : AV) (lo hi mx : Option AV) : Option AV :=
  match x with
  | .nilsl => (boundsA 0 0 lo hi mx).map fun _ => .nilsl
  | .slice id off len cap ex esz' =>
    if esz = esz' then
      match boundsA len cap lo hi mx with
      | some (l, h, m) => some (.slice id (off + l * esz) (h - l) (m - l) (ex || mx.isSome) esz)
      | none => none
    else none
  | _ => none

def lenA : AV → Option Nat
  | .nilsl => some 0
  | .slice _ _ len _ _ _ => some len
  | .str s => some s.length
  | _ => none

/-- The first n elements' cells of a slice or a string. -/
def firstA (h : Heap) (esz n : Nat) : AV → Option (List AV)
  | .nilsl => some []
  | .slice id off _ _ _ esz' =>
    if esz = esz' then
      match h.get id with
      | some (.cells c _) => if off + n * esz ≤ c.length then some ((c.drop off).take (n * esz)) else none
      | _ => none
    else none
  | .str s => if esz = 1 then some ((s.take n).map (AV.int .u8)) else none
  | _ => none

def AV.zeroU8 : AV → Bool
  | .int .u8 0 => true
  | _ => false

/-- A mark behind a block: what lies behind the block's known cells are bytes. No block of the model's stands for it. -/
def AObj.mark (id : Nat) : AObj := .striter [-1] id
def Heap.byteAt (h : Heap) (id : Nat) : Bool := match h.get (id + 1) with
  | some (.striter l j) => l == [-1] && j == id
  | _ => false
def Heap.note (h : Heap) (b : Bool) (id : Nat) : Heap := if b then h.alloc (.mark id) else h

def AObj.isMark : AObj → Bool
  | .striter l _ => l == [-1]
  | _ => false
theorem Heap.byteAt_lt {h : Heap} {id : Nat} (e : h.byteAt id = true) : id + 1 < h.next := by
  unfold Heap.byteAt at e
  split at e
  · rename_i l j hg; exact Heap.lt_of_get hg
  · cases e
theorem Heap.byteAt_mark {h : Heap} {id : Nat} (e : h.byteAt id = true) : ∃ o, h.get (id + 1) = some o ∧ o.isMark = true := by
  unfold Heap.byteAt at e
  split at e
  · rename_i l j hg
    simp only [Bool.and_eq_true] at e
    exact ⟨_, hg, by simpa [AObj.isMark] using e.1⟩
  · cases e
theorem Heap.byteAt_of {h h' : Heap} {id : Nat} (hg : h'.get (id + 1) = h.get (id + 1)) : h'.byteAt id = h.byteAt id := by
  unfold Heap.byteAt; rw [hg]
theorem Heap.byteAt_alloc {h : Heap} {id : Nat} {o : AObj} (ho : o.isMark = false) (e : (h.alloc o).byteAt id = true) : h.byteAt id = true := by
  obtain ⟨o', e1, e2⟩ := Heap.byteAt_mark e
  rw [Heap.get_alloc] at e1
  by_cases hid : id + 1 = h.next
  · rw [if_pos hid] at e1; cases e1; rw [ho] at e2; cases e2
  · rw [← e]; refine (Heap.byteAt_of ?_).symm
    rw [Heap.get_alloc, if_neg hid]
theorem Heap.byteAt_set {h : Heap} {i id : Nat} {o : AObj} (hi : i < h.next) (ho : o.isMark = false) (e : (h.set i o).byteAt id = true) : h.byteAt id = true := by
  obtain ⟨o', e1, e2⟩ := Heap.byteAt_mark e
  rw [Heap.get_set _ _ _ _ hi] at e1
  by_cases hid : id + 1 = i
  · rw [if_pos hid] at e1; cases e1; rw [ho] at e2; cases e2
  · rw [← e]; refine (Heap.byteAt_of ?_).symm
    rw [Heap.get_set _ _ _ _ hi, if_neg hid]
theorem Heap.get_note (h : Heap) (b : Bool) (id j : Nat) : (h.note b id).get j = if b = true ∧ j = h.next then some (.mark id) else h.get j := by
  cases b
  · simp [Heap.note]
  · simp only [Heap.note, if_true, Heap.get_alloc, true_and]
theorem Heap.next_note (h : Heap) (b : Bool) (id : Nat) : (h.note b id).next = h.next + (if b = true then 1 else 0) := by
  cases b <;> simp [Heap.note]

def appendA (h : Heap) (esz bytes : Nat) (x y : AV) : AR :=
  match lenA y with
  | none => none
  | some n =>
    match firstA h esz n y with
    | none => none
    | some new =>
      match x with
      | .nilsl =>
        if n = 0 then some (.nilsl, h)
        else if n * bytes ≤ 140737488355328 ∧ n ≤ 140737488355328 then some (.slice h.next 0 n n false esz, (h.alloc (.cells new false)).note (decide (esz = 1 ∧ bytes = 1)) h.next) else none
      | .slice id off len cap ex esz' =>
        if esz = esz' then
          if len + n ≤ cap then
            (match storeA h id (off + len * esz) new with
             | some h' => some (.slice id off (len + n) cap ex esz, h')
             | none => none)
          else if (len + n) * bytes ≤ 140737488355328 ∧ len + n ≤ 140737488355328 then
            match h.get id with
            | some (.cells c ro) =>
              if off + len * esz ≤ c.length then
                if ex then some (.slice h.next 0 (len + n) (len + n) false esz, (h.alloc (.cells ((c.drop off).take (len * esz) ++ new) false)).note (decide (esz = 1 ∧ bytes = 1)) h.next)
                else if ro then none
                else some (.slice h.next 0 (len + n) (len + n) false esz, ((h.alloc (.cells ((c.drop off).take (len * esz) ++ new) false)).set id .dead).note (decide (esz = 1 ∧ bytes = 1) && h.byteAt id && decide (c.length ≤ off + (len + n))) h.next)
              else none
            | _ => none
          else none
        else none
      | _ => none

def copyA (h : Heap) (esz : Nat) (x y : AV) : AR :=
  match lenA x, lenA y with
  | some dl, some sl =>
    let n := Nat.min sl dl
    match firstA h esz n y with
    | none => none
    | some new =>
      match x with
      | .nilsl => some (.int .i64 0, h)
      | .slice id off _ _ _ esz' =>
        if esz = esz' then
          match storeA h id off new with
          | some h' => some (.int .i64 n, h')
          | none => none
        else none
      | _ => none
  | _, _ => none

def clearA (h : Heap) (zero : List AV) (esz : Nat) (x : AV) : AR :=
  match x with
  | .nilsl => some (undefA, h)
  | .slice id off len _ _ esz' =>
    if esz = esz' then
      if len = 0 then some (undefA, h) else
      match storeA h id off ((List.replicate len zero).flatten) with
      | some h' => some (undefA, h')
      | none => none
    else none
  | _ => none

def minA : AV → List AV → Option AV
  | x, [] => some x
  | .int k x, .int k' y :: ys => if k = k' then minA (.int k (if y < x then y else x)) ys else none
  | _, _ => none
def maxA : AV → List AV → Option AV
  | x, [] => some x
  | .int k x, .int k' y :: ys => if k = k' then maxA (.int k (if y > x then y else x)) ys else none
  | _, _ => none

def keyIs : AV → AV → Option Bool
  | .int j a, .int k b => if j = k then some (a == b) else none
  | .str a, .str b => some (a == b)
  | _, _ => none
def findA (k : AV) : List (AV × AV) → Option (Option AV)
  | [] => some none
  | (k', v) :: es =>
    match keyIs k k' with
    | some true => some (some v)
    | some false => findA k es
    | none => none
def putA (k v : AV) : List (AV × AV) → Option (List (AV × AV))
  | [] => some [(k, v)]
  | (k', v') :: es =>
    match keyIs k k' with
    | some true => some ((k, v) :: es)
    | some false => (putA k v es).map ((k', v') :: ·)
    | none => none

/-- A key: a text, or a number. -/
def isKey : Bool → AV → Bool
  | false, .int _ _ => true
  | true, .str _ => true
  | _, _ => false

def toBA (l : List Int) : ByteArray := ⟨(l.map fun n => UInt8.ofNat n.toNat).toArray⟩

/-- One operation. -/
def aop (call : Tgt → List AV → Heap → AR) (tm : List AV) (h : Heap) : SOp → AR
  | .mov x => some (ev tm x, h)
  | .pick c a b =>
    match ev tm c with
    | .bool true => some (ev tm a, h)
    | .bool false => some (ev tm b, h)
    | _ => none
  | .box x => if (ev tm x).cells.all AV.flat then some (.ptr h.next 0, h.alloc (.cells (ev tm x).cells false)) else none
  | .build base parts => (fillA base tm parts).map fun cs => (.agg cs, h)
  | .buildSlice base len esz parts => (fillA base tm parts).map fun cs => (.slice h.next 0 len len true esz, h.alloc (.cells cs false))
  | .load aggr n a =>
    match ev tm a with
    | .ptr id off => (loadA h aggr n id off).map fun v => (v, h)
    | _ => none
  | .store n a x =>
    match ev tm a with
    | .ptr id off =>
      let vs := (ev tm x).cells
      if vs.length = n ∧ vs.all AV.flat then (storeA h id off vs).map fun h' => (undefA, h') else none
    | _ => none
  | .nilChk x =>
    match ev tm x with
    | .ptr id off => some (.ptr id off, h)
    | .func f a b => some (.func f a b, h)
    | .yieldf l => some (.yieldf l, h)
    | .iface t v => some (.iface t v, h)
    | _ => none
  | .bin op ek x y => (binA op ek (ev tm x) (ev tm y)).map fun v => (v, h)
  | .eqAgg neg ks x y =>
    match ev tm x, ev tm y with
    | .agg a, .agg b => if (kindsOk ks a && kindsOk ks b) = true then (plainEq a b).map fun r => (.bool (r != neg), h) else none
    | _, _ => none
  | .un op x => (unA op (ev tm x)).map fun v => (v, h)
  | .convInt k x =>
    match ev tm x with
    | .int _ n => some (.int k (k.wrap n), h)
    | _ => none
  | .strToBytes x =>
    match ev tm x with
    | .str s => some (.slice h.next 0 s.length s.length false 1, h.alloc (.cells (s.map (AV.int .u8)) false))
    | _ => none
  | .bytesToStr x =>
    match ev tm x with
    | .nilsl => some (.str [], h)
    | .slice id off len cap ex esz =>
      match firstA h 1 len (.slice id off len cap ex esz) with
      | some cs => (byteCells cs).map fun s => (.str s, h)
      | none => none
    | _ => none
  | .convStr x =>
    match ev tm x with
    | .str s => some (.str s, h)
    | _ => none
  | .iface t x => some (.iface t (ev tm x), h)
  | .mkFunc f first captured => some (.func f (evs tm first) (evs tm captured), h)
  | .mkMap => some (.map h.next, h.alloc (.map []))
  | .mkSlice zero esz bytes l c =>
    match ev tm l, ev tm c with
    | .int .i64 l, .int .i64 c =>
      if 0 ≤ l ∧ l ≤ c ∧ bytes * c ≤ 140737488355328 ∧ c ≤ 140737488355328 then
        some (.slice h.next 0 l.toNat c.toNat true esz, h.alloc (.cells ((List.replicate c.toNat zero).flatten) false))
      else none
    | _, _ => none
  | .slice esz x lo hi mx => (sliceA esz (ev tm x) (lo.map (ev tm)) (hi.map (ev tm)) (mx.map (ev tm))).map fun v => (v, h)
  | .sliceStr x lo hi =>
    match ev tm x with
    | .str s =>
      match boundsA s.length s.length (lo.map (ev tm)) (hi.map (ev tm)) none with
      | some (l, hh, _) => some (.str ((s.drop l).take (hh - l)), h)
      | none => none
    | _ => none
  | .sliceArr n esz x lo hi mx =>
    match ev tm x with
    | .ptr id off =>
      match boundsA n n (lo.map (ev tm)) (hi.map (ev tm)) (mx.map (ev tm)), h.get id with
      | some (l, hh, m), some (.cells c _) => if off + n * esz ≤ c.length then some (.slice id (off + l * esz) (hh - l) (m - l) true esz, h) else none
      | _, _ => none
    | _ => none
  | .fieldAddr off x =>
    match ev tm x with
    | .ptr id o => some (.ptr id (o + off), h)
    | _ => none
  | .field aggr off n x =>
    match ev tm x with
    | .agg cs => if aggr then some (.agg ((cs.drop off).take n), h) else (cs[off]?).map fun v => (v, h)
    | _ => none
  | .idxAddrSl esz x i =>
    match ev tm x, ev tm i with
    | .slice id off len _ _ esz', .int _ i => if esz = esz' ∧ 0 ≤ i ∧ i < len then some (.ptr id (off + i.toNat * esz), h) else none
    | _, _ => none
  | .idxAddrArr len esz x i =>
    match ev tm x, ev tm i with
    | .ptr id off, .int _ i => if 0 ≤ i ∧ i < len then some (.ptr id (off + i.toNat * esz), h) else none
    | _, _ => none
  | .idxArr aggr len esz x i =>
    match ev tm x, ev tm i with
    | .agg cs, .int _ i =>
      if 0 ≤ i ∧ i < len then
        (if aggr then some (.agg ((cs.drop (i.toNat * esz)).take esz), h) else (cs[i.toNat * esz]?).map fun v => (v, h))
      else none
    | _, _ => none
  | .idxStr x i =>
    match ev tm x, ev tm i with
    | .str s, .int _ i => if 0 ≤ i then (s[i.toNat]?).map fun b => (.int .u8 b, h) else none
    | _, _ => none
  | .extract x i =>
    match ev tm x with
    | .tuple vs => (vs[i]?).map fun v => (v, h)
    | _ => none
  | .call f args => call (.fn f) (evs tm args) h
  | .callV x args =>
    match ev tm x with
    | .func f first captured => call (.fn f) (first ++ evs tm args ++ captured) h
    | .yieldf l => call (.yield l) (evs tm args) h
    | _ => none
  | .append esz bytes x y => appendA h esz bytes (ev tm x) (ev tm y)
  | .copy esz x y => copyA h esz (ev tm x) (ev tm y)
  | .clear zero esz x => clearA h zero esz (ev tm x)
  | .len ek x =>
    match ek, ev tm x with
    | .map, .nilmap => some (.int .i64 0, h)
    | .map, .map id =>
      match h.get id with
      | some (.map es) => some (.int .i64 es.length, h)
      | _ => none
    | .sl, .nilsl => some (.int .i64 0, h)
    | .sl, .slice _ _ len _ _ _ => some (.int .i64 len, h)
    | .str, .str s => some (.int .i64 s.length, h)
    | _, _ => none
  | .lenC n => some (.int .i64 n, h)
  | .cap x =>
    match ev tm x with
    | .nilsl => some (.int .i64 0, h)
    | .slice _ _ _ cap true _ => some (.int .i64 cap, h)
    | _ => none
  | .min x ys => (minA (ev tm x) (evs tm ys)).map fun v => (v, h)
  | .max x ys => (maxA (ev tm x) (evs tm ys)).map fun v => (v, h)
  | .lookup sk zero ok m k =>
    let es : Option (List (AV × AV)) := match ev tm m with
      | .nilmap => some []
      | .map id => match h.get id with
        | some (.map es) => some es
        | _ => none
      | _ => none
    match es with
    | none => none
    | some es =>
      if isKey sk (ev tm k) then
        match findA (ev tm k) es with
        | none => none
        | some r =>
          let v := r.getD zero
          some (if ok then .tuple [v, .bool r.isSome] else v, h)
      else none
  | .mapUpdate sk m k v =>
    match ev tm m with
    | .map id =>
      match h.get id with
      | some (.map es) =>
        if isKey sk (ev tm k) then
          match putA (ev tm k) (ev tm v) es with
          | some es' => some (undefA, h.set id (.map es'))
          | none => none
        else none
      | _ => none
    | _ => none
  | .rangeStr x =>
    match ev tm x with
    | .str s => some (.ptr h.next 0, h.alloc (.striter s 0))
    | _ => none
  | .nextStr it =>
    match ev tm it with
    | .ptr id 0 =>
      match h.get id with
      | some (.striter s pos) =>
        if pos < s.length then
          let d := Utf8.decode (toBA s) pos
          some (.tuple [.bool true, .int .i64 pos, .int .i32 d.1], h.set id (.striter s (pos + d.2)))
        else some (.tuple [.bool false], h)
      | _ => none
    | _ => none

def putT (tm : List AV) (dst : Option Nat) (v : AV) : List AV :=
  match dst with
  | some d => tm.set d v
  | none => tm

def wantedA (tm : List AV) : Option (Nat × Bool) → Bool
  | none => true
  | some (t, want) => match tm[t]? with
    | some (.bool b) => b == want
    | _ => false

def aops (call : Tgt → List AV → Heap → AR) : List SOper → List AV → Heap → Option (List AV × Heap)
  | [], tm, h => some (tm, h)
  | o :: rest, tm, h =>
    if wantedA tm o.guard then
      match aop call tm h o.op with
      | some (v, h') => aops call rest (putT tm o.dst v) h'
      | none => none
    else aops call rest (putT tm o.dst undefA) h

/-- The block that an operation reads. -/
def readsA (tm : List AV) : SOp → Option Nat
  | .load _ _ a => match ev tm a with | .ptr id _ => some id | _ => none
  | .bytesToStr x => match ev tm x with | .slice id .. => some id | _ => none
  | .lookup _ _ _ m _ => match ev tm m with | .map id => some id | _ => none
  | .len _ x => match ev tm x with | .map id => some id | _ => none
  | .sliceArr _ _ x _ _ _ => match ev tm x with | .ptr id _ => some id | _ => none
  | _ => none

/-- As aops; with what each operation read, and the heaps around it. -/
def aopsLog (call : Tgt → List AV → Heap → AR) : List SOper → List AV → Heap → Option (List AV × Heap × List (Option Nat × Heap × Heap))
  | [], tm, h => some (tm, h, [])
  | o :: rest, tm, h =>
    if wantedA tm o.guard then
      match aop call tm h o.op with
      | some (v, h') =>
        match aopsLog call rest (putT tm o.dst v) h' with
        | some (tm'', h'', lg) => some (tm'', h'', (readsA tm o.op, h, h') :: lg)
        | none => none
      | none => none
    else
      match aopsLog call rest (putT tm o.dst undefA) h with
      | some (tm'', h'', lg) => some (tm'', h'', (none, h, h) :: lg)
      | none => none

mutual
def AV.beq : AV → AV → Bool
  | .bool a, .bool b => a == b
  | .int j a, .int k b => j == k && a == b
  | .str a, .str b => a == b
  | .nilptr, .nilptr => true
  | .ptr a b, .ptr c d => a == c && b == d
  | .nilsl, .nilsl => true
  | .slice a b c d e f, .slice a' b' c' d' e' f' => a == a' && b == b' && c == c' && d == d' && e == e' && f == f'
  | .nilmap, .nilmap => true
  | .map a, .map b => a == b
  | .nilf, .nilf => true
  | .func f a b, .func f' a' b' => f == f' && AV.beqs a a' && AV.beqs b b'
  | .yieldf a, .yieldf b => a == b
  | .nilif, .nilif => true
  | .iface t v, .iface t' v' => t == t' && AV.beq v v'
  | .agg a, .agg b => AV.beqs a b
  | .tuple a, .tuple b => AV.beqs a b
  | _, _ => false
def AV.beqs : List AV → List AV → Bool
  | [], [] => true
  | a :: as, b :: bs => AV.beq a b && AV.beqs as bs
  | _, _ => false
end

def pairsBeq : List (AV × AV) → List (AV × AV) → Bool
  | [], [] => true
  | (a, b) :: r, (c, d) :: s => AV.beq a c && AV.beq b d && pairsBeq r s
  | _, _ => false

/-- Is the block as it was? -/
def sameObj : Option AObj → Option AObj → Bool
  | none, none => true
  | some (.cells a r), some (.cells b s) => r == s && AV.beqs a b
  | some (.map a), some (.map b) => pairsBeq a b
  | _, _ => false

def chkLog (lg : List (Option Nat × Heap × Heap)) : List (Nat × Nat) → Bool
  | [] => true
  | (i, q) :: rest =>
    (match lg[i]?, lg[q]? with
     | some (some id, _, _), some (_, h, h') => sameObj (h.get id) (h'.get id)
     | some (none, _, _), some _ => true
     | _, _ => false) && chkLog lg rest

abbrev AOut := Option (AExit × List AV × Heap)

def zipSet : List AV → List Nat → List AV → Option (List AV)
  | tm, [], [] => some tm
  | tm, p :: ps, v :: vs => zipSet (tm.set p v) ps vs
  | _, _, _ => none

/-- The round that the code stands in: its loop's record is there. -/
def rdOk (h : Heap) : Option Nat → Bool
  | none => true
  | some id => match h.get id with
    | some (.loop ..) => true
    | _ => false

def acode (call : Tgt → List AV → Heap → AR) (self : FuncId) (rd : Option Nat) : Nat → SC → List AV → Heap → AOut
  | 0, _, _, _ => none
  | n + 1, c, tm, h =>
    match c with
    | .skip => some (.normal, tm, h)
    | .ops l => match aops call l tm h with
      | some (tm', h') => some (.normal, tm', h')
      | none => none
    | .drawOps l chk => match aopsLog call l tm h with
      | some (tm', h', lg) => if chkLog lg chk then some (.normal, tm', h') else none
      | none => none
    | .seq a b => match acode call self rd n a tm h with
      | some (.normal, tm', h') => acode call self rd n b tm' h'
      | r => r
    | .cond c a b => match ev tm c with
      | .bool true => acode call self rd n a tm h
      | .bool false => acode call self rd n b tm h
      | _ => none
    | .block id b => match acode call self rd n b tm h with
      | some (.exit id', tm', h') => some (if id' = id then .normal else .exit id', tm', h')
      | r => r
    | .loop b => match acode call self rd n b tm h with
      | some (.normal, tm', h') => acode call self rd n (.loop b) tm' h'
      | r => r
    | .exit id => some (.exit id, tm, h)
    | .ret => some (.ret, tm, h)
    | .rangeFunc f params assign body =>
      match ev tm f, rdOk h rd with
      | .func g first captured, true =>
        match call (.fn g) (first ++ [.yieldf h.next] ++ captured) (h.alloc (.loop self tm params assign body .ready .normal)) with
        | some (_, h') =>
          match h'.get h.next with
          | some (.loop self' tm' ps' as' bd' st pend) =>
            if st = .busy then none else some (pend, tm, h'.set h.next (.loop self' tm' ps' as' bd' .exhausted pend))
          | _ => none
        | none => none
      | _, _ => none

def resA (tm : List AV) (h : Heap) : List SRes → Option (List AV)
  | [] => some []
  | .tmp t :: rest => (resA tm h rest).map (tm.getD t undefA :: ·)
  | .cell a aggr n :: rest =>
    match tm.getD a undefA with
    | .ptr id off =>
      match loadA h aggr n id off with
      | some v => (resA tm h rest).map (v :: ·)
      | none => none
    | _ => none

def tupA : List AV → AV
  | [v] => v
  | vs => .tuple vs

/-- What is known of a function before it is walked (X): its answer at these arguments and this heap. -/
abbrev Known := FuncId → List AV → Heap → AR

def acall (X : Known) (SP : FuncId → Option SFunc) : Nat → Tgt → List AV → Heap → AR
  | 0, _, _, _ => none
  | n + 1, .fn f, args, h =>
    match X f args h with
    | some r => some r
    | none =>
    match SP f with
    | none => none
    | some fn =>
      match acode (acall X SP n) f none n fn.body (args ++ List.replicate (fn.ntmps - args.length) undefA) h with
      | some (.normal, tm, h') | some (.ret, tm, h') => (resA tm h' fn.results).map fun vs => (tupA vs, h')
      | _ => none
  | n + 1, .yield l, args, h =>
    match h.get l with
    | some (.loop f tmps params assign body .ready _) =>
      match zipSet tmps params args with
      | none => none
      | some tm =>
        match acode (acall X SP n) f (some l) n assign tm h with
        | some (.normal, tm₁, h₁) =>
          match h₁.get l with
          | some (.loop f' t' p' a' b' .ready pe') =>
            match acode (acall X SP n) f (some l) n body tm₁ (h₁.set l (.loop f' t' p' a' b' .busy pe')) with
            | some (e, _, h₂) =>
              match h₂.get l with
              | some (.loop f'' t'' p'' a'' b'' _ _) =>
                if e = .normal then some (.bool true, h₂.set l (.loop f'' t'' p'' a'' b'' .ready .normal))
                else some (.bool false, h₂.set l (.loop f'' t'' p'' a'' b'' .done e))
              | _ => none
            | none => none
          | _ => none
        | _ => none
    | _ => none

end Go.Ya
