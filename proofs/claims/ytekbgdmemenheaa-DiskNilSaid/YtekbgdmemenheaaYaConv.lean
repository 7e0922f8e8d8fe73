/-
  The conversion of the loaded program's code into the abstract machine's code: each step by a function that the kernel runs.
-/
import GoSem.Claims
import Derived.Test.YtekbgdmemenheaaYaDef
namespace Go.Ya
set_option linter.unusedVariables false
set_option linter.unusedSimpArgs false

def wfInt (k : IntKind) (n : Int) : Bool := decide (k.min ≤ n) && decide (n ≤ k.max)

def bytesOf (s : ByteArray) : List Int := s.data.toList.map fun b => (b.toNat : Int)

mutual
def cVal : Value → Option AV
  | .bool b => some (.bool b)
  | .int k n => if wfInt k n then some (.int k n) else none
  | .string s => if s.size ≤ 9223372036854775807 then some (.str (bytesOf s)) else none
  | .pointer none => some .nilptr
  | .slice none 0 0 => some .nilsl
  | .map none => some .nilmap
  | .nilFunc => some .nilf
  | .func (.func f) ⟨[]⟩ ⟨[]⟩ => some (.func f [] [])
  | .nilIface => some .nilif
  | .iface t v => (cVal v).map (.iface t)
  | .agg ⟨cs⟩ =>
    match cVals cs with
    | some l => if l.all AV.flat then some (.agg l) else none
    | none => none
  | .tuple ⟨vs⟩ => (cVals vs).map .tuple
  | _ => none
def cVals : List Value → Option (List AV)
  | [] => some []
  | v :: vs =>
    match cVal v, cVals vs with
    | some a, some l => some (a :: l)
    | _, _ => none
end

def cOpd : Operand → Option Opd
  | .tmp t => some (.t t)
  | .const v => (cVal v).map .c
  | .func f => some (.c (.func f [] []))
  | .global _ => none

def cOpds : List Operand → Option (List Opd)
  | [] => some []
  | x :: xs =>
    match cOpd x, cOpds xs with
    | some a, some l => some (a :: l)
    | _, _ => none

def cOpt : Option Operand → Option (Option Opd)
  | none => some none
  | some x => (cOpd x).map some

def sz (P : Program) (t : TypeId) : Option Nat := (P.info? t).map (·.size)
def aggr? (P : Program) (t : TypeId) : Option Bool :=
  match P.underlying t with
  | some (.struct _) => some true
  | some (.array _ _) => some true
  | some _ => some false
  | none => none
/-- The zero's cells. -/
def zeroA (P : Program) (t : TypeId) : Option AV :=
  match P.info? t with
  | some i => match i.zero with
    | some v => cVal v
    | none => none
  | none => none

def cParts (place : Nat → Option (Nat × Nat)) : List (Nat × Operand) → Option (List (Nat × Nat × Opd))
  | [] => some []
  | (i, x) :: rest =>
    match place i, cOpd x, cParts place rest with
    | some (off, size), some a, some l => some ((off, size, a) :: l)
    | _, _, _ => none

/-- The kinds of the cells of types whose values == compares cell by cell, without a panic. -/
def plainFs (P : Program) (go : TypeId → Option (List Nat)) : Nat → List Field → Option (List Nat)
  | _, [] => some []
  | off, f :: fs =>
    match go f.type, sz P f.type, aggr? P f.type with
    | some k1, some n, some _ => if f.offset = off ∧ k1.length = n ∧ ¬ f.name = "_" then (plainFs P go (off + k1.length) fs).map (k1 ++ ·) else none
    | _, _, _ => none
def plainTy (P : Program) : Nat → TypeId → Option (List Nat)
  | 0, _ => none
  | d + 1, t =>
    match P.underlying t with
    | some .bool => some [0]
    | some (.int _) => some [1]
    | some .string => some [2]
    | some (.struct fs) => if P.stoodInHeld t = true then none else plainFs P (plainTy P d) 0 fs.toList
    | some (.array len e) =>
      match plainTy P d e, sz P e, aggr? P e with
      | some k1, some n, some _ => if k1.length = n then some (List.replicate len k1).flatten else none
      | _, _, _ => none
    | _ => none

def eqKind (P : Program) (t : TypeId) : EqK :=
  match P.underlying t with
  | some .bool => .bool
  | some (.pointer _) => .ptr
  | some (.slice _) => .sl
  | some (.map _ _) => .map
  | some (.func _ _ _) => .fn
  | some (.interface _) => .iface
  | some .string => .str
  | _ => .other

/-- A key's type: a text's, or a number's. -/
def keyTy (P : Program) (t : TypeId) : Option Bool :=
  match P.underlying t with
  | some (.int _) => some false
  | some .string => some true
  | _ => none

def isU8 (P : Program) (t : TypeId) : Bool :=
  match P.underlying t with
  | some (.int .u8) => true
  | _ => false

def notInt : TypeDesc → Bool
  | .int _ => false
  | _ => true

def cCall (P : Program) (c : Call) : Option SOp :=
  match c.callee with
  | .value (.func f) => (cOpds c.args.toList).map (.call f)
  | .value x =>
    match cOpd x, cOpds c.args.toList with
    | some a, some l => some (.callV a l)
    | _, _ => none
  | .invoke _ _ => none
  | .builtin b =>
    match b, c.argTypes.toList, c.args.toList with
    | .append, [t, u], [x, y] =>
      match P.underlying t, P.underlying u, cOpd x, cOpd y with
      | some (.slice e), some ut, some a, some b =>
        match P.info? e, zeroA P e with
        | some i, some z => if notInt ut = true ∧ 0 < i.size ∧ 0 < i.bytes ∧ z.cells.length = i.size ∧ (¬ (i.size = 1 ∧ i.bytes = 1) ∨ z.zeroU8 = true) then some (.append i.size i.bytes a b) else none
        | _, _ => none
      | _, _, _, _ => none
    | .copy, t :: _, [x, y] =>
      match P.underlying t, cOpd x, cOpd y with
      | some (.slice e), some a, some b => (sz P e).map fun n => .copy n a b
      | _, _, _ => none
    | .clear, [t], [x] =>
      match P.underlying t, cOpd x with
      | some (.slice e), some a =>
        match zeroA P e, sz P e with
        | some z, some n => if z.cells.length = n ∧ z.cells.all AV.flat then some (.clear z.cells n a) else none
        | _, _ => none
      | _, _ => none
    | .len, t :: _, x :: _ =>
      match P.underlying t with
      | some (.array n _) => if n ≤ 9223372036854775807 then some (.lenC n) else none
      | some (.pointer arr) => match P.underlying arr with
        | some (.array n _) => if n ≤ 9223372036854775807 then some (.lenC n) else none
        | _ => none
      | some .string => (cOpd x).map (.len .str)
      | some (.slice _) => (cOpd x).map (.len .sl)
      | _ => none
    | .cap, t :: _, x :: _ =>
      match P.underlying t with
      | some (.slice _) => (cOpd x).map .cap
      | _ => none
    | .min, _, x :: ys =>
      match cOpd x, cOpds ys with
      | some a, some l => some (.min a l)
      | _, _ => none
    | .max, _, x :: ys =>
      match cOpd x, cOpds ys with
      | some a, some l => some (.max a l)
      | _, _ => none
    | _, _, _ => none

def cOp (P : Program) (o : Op) : Option SOp :=
  match o with
  | .move x => (cOpd x).map .mov
  | .assign x => (cOpd x).map .mov
  | .pick c a b =>
    match cOpd c, cOpd a, cOpd b with
    | some c, some a, some b => some (.pick c a b)
    | _, _, _ => none
  | .alloc e =>
    match zeroA P e with
    | some v => some (.box (.c v))
    | none => none
  | .box _ x => (cOpd x).map .box
  | .build t parts =>
    match zeroA P t, P.underlying t with
    | some z, some (.struct fs) =>
      match cParts (fun i => (fs[i]?).bind fun f => (sz P f.type).map fun n => (f.offset, n)) parts.toList with
      | some ps => if fs.toList.all (fun f => (sz P f.type).isSome) ∧ z.cells.all AV.flat then some (.build z.cells ps) else none
      | none => none
    | some z, some (.array _ e) =>
      match sz P e with
      | some n =>
        match cParts (fun i => some (i * n, n)) parts.toList with
        | some ps => if z.cells.all AV.flat then some (.build z.cells ps) else none
        | none => none
      | none => none
    | _, _ => none
  | .buildSlice t len parts =>
    match P.underlying t with
    | some (.slice e) =>
      match zeroA P e, sz P e with
      | some z, some n =>
        match cParts (fun i => some (i * n, n)) parts.toList with
        | some ps => if z.cells.length = n ∧ 0 < n ∧ len * n ≤ 2 ^ 24 ∧ z.cells.all AV.flat then some (.buildSlice ((List.replicate len z.cells).flatten) len n ps) else none
        | none => none
      | _, _ => none
    | _ => none
  | .load t a =>
    match aggr? P t, sz P t, cOpd a with
    | some b, some n, some x => some (.load b n x)
    | _, _, _ => none
  | .store t a x =>
    match sz P t, cOpd a, cOpd x with
    | some n, some a, some x => some (.store n a x)
    | _, _, _ => none
  | .nilCheck x => (cOpd x).map .nilChk
  | .binOp op t x y _ =>
    match cOpd x, cOpd y with
    | some a, some b =>
      match P.underlying t with
      | some (.struct _) | some (.array _ _) =>
        match plainTy P 8 t, P.eqGuardType P.depth t with
        | some ks, false =>
          match op with
          | .eql => some (.eqAgg false ks a b)
          | .neq => some (.eqAgg true ks a b)
          | _ => none
        | _, _ => none
      | some _ => some (.bin op (eqKind P t) a b)
      | none => none
    | _, _ => none
  | .unOp op _ x => (cOpd x).map (.un op)
  | .convert src dst x =>
    match P.underlying src, P.underlying dst, cOpd x with
    | some (.int _), some (.int k), some a => some (.convInt k a)
    | some .string, some .string, some a => some (.convStr a)
    | some .string, some (.slice e), some a => if isU8 P e then some (.strToBytes a) else none
    | some (.slice e), some .string, some a => if isU8 P e then some (.bytesToStr a) else none
    | _, _, _ => none
  | .makeInterface t x =>
    match P.underlying t with
    | some (.interface _) => none
    | some _ => (cOpd x).map (.iface t)
    | none => none
  | .makeFunc fn first captured =>
    match fn, cOpds first.toList, cOpds captured.toList with
    | .func f, some a, some b => some (.mkFunc f a b)
    | _, _, _ => none
  | .makeSlice t l c =>
    match P.underlying t with
    | some (.slice e) =>
      match P.info? e, zeroA P e, cOpd l, cOpd c with
      | some i, some z, some l, some c => if z.cells.length = i.size ∧ 0 < i.size ∧ 0 < i.bytes ∧ z.cells.all AV.flat then some (.mkSlice z.cells i.size i.bytes l c) else none
      | _, _, _, _ => none
    | _ => none
  | .slice t x lo hi mx =>
    match cOpd x, cOpt lo, cOpt hi, cOpt mx with
    | some x, some lo, some hi, some mx =>
      match P.underlying t with
      | some (.array n e) => match sz P e with
        | some s => if 0 < s ∧ n ≤ 9223372036854775807 then some (.sliceArr n s x lo hi mx) else none
        | none => none
      | some (.slice e) => match sz P e with
        | some s => some (.slice s x lo hi mx)
        | none => none
      | some .string => if mx.isSome then none else some (.sliceStr x lo hi)
      | some (.pointer arr) =>
        match P.underlying arr with
        | some (.array n e) => match sz P e with
          | some s => if 0 < s ∧ n ≤ 9223372036854775807 then some (.sliceArr n s x lo hi mx) else none
          | none => none
        | _ => none
      | _ => none
    | _, _, _, _ => none
  | .fieldAddr s x f =>
    match P.underlying s, cOpd x with
    | some (.struct fs), some a =>
      match fs[f]? with
      | some fl => match sz P fl.type with
        | some n => if n = 0 then none else some (.fieldAddr fl.offset a)
        | none => none
      | none => none
    | _, _ => none
  | .field t x f =>
    match P.underlying t, cOpd x with
    | some (.struct fs), some a =>
      match fs[f]? with
      | some fl => match aggr? P fl.type, sz P fl.type with
        | some b, some n => some (.field b fl.offset n a)
        | _, _ => none
      | none => none
    | _, _ => none
  | .indexAddr t x i =>
    match cOpd x, cOpd i with
    | some a, some j =>
      match P.underlying t with
      | some (.array len e) => (sz P e).map fun n => .idxAddrArr len n a j
      | some (.slice e) => (sz P e).map fun n => .idxAddrSl n a j
      | _ => none
    | _, _ => none
  | .index t x i =>
    match cOpd x, cOpd i with
    | some a, some j =>
      match P.underlying t with
      | some (.array len e) => match aggr? P e, sz P e with
        | some b, some n => some (.idxArr b len n a j)
        | _, _ => none
      | some .string => some (.idxStr a j)
      | _ => none
    | _, _ => none
  | .lookup t m k ok =>
    match P.underlying t, cOpd m, cOpd k with
    | some (.map kt e), some a, some b =>
      match zeroA P e with
      | some z => match keyTy P kt with
        | some sk => some (.lookup sk z ok a b)
        | none => none
      | none => none
    | _, _, _ => none
  | .mapUpdate t m k v =>
    match P.underlying t, cOpd m, cOpd k, cOpd v with
    | some (.map kt _), some a, some b, some c => match keyTy P kt with
      | some sk => some (.mapUpdate sk a b c)
      | none => none
    | _, _, _, _ => none
  | .makeMap t r =>
    match r, P.underlying t with
    | none, _ => some .mkMap
    | some (.const (.int _ _)), some (.map _ _) => some .mkMap
    | _, _ => none
  | .range t x =>
    match P.underlying t, cOpd x with
    | some .string, some a => some (.rangeStr a)
    | _, _ => none
  | .next it true => (cOpd it).map .nextStr
  | .extract t i => (cOpd t).map (.extract · i)
  | .call c => cCall P c
  | _ => none

def cOper (P : Program) (ops : Array Oper) (o : Oper) : Option SOper :=
  match cOp P o.op with
  | none => none
  | some s =>
    match o.guard with
    | none => some ⟨o.dst, s, none⟩
    | some (j, want) =>
      match (ops[j]?).bind (·.dst) with
      | some t => some ⟨o.dst, s, some (t, want)⟩
      | none => none

def cOpers (P : Program) (ops : Array Oper) : List Oper → Option (List SOper)
  | [] => some []
  | o :: rest =>
    match cOper P ops o, cOpers P ops rest with
    | some s, some l => some (s :: l)
    | _, _ => none

/-- What an operation does to memory. -/
inductive Class where
  | light | read | heavy
  deriving DecidableEq

def SOp.class : SOp → Class
  | .load .. | .bytesToStr _ | .sliceArr .. | .lookup .. | .len .map _ => .read
  | .store .. | .call .. | .callV .. | .append .. | .copy .. | .clear .. | .mapUpdate .. | .nextStr _ | .rangeStr _ => .heavy
  | .box _ | .buildSlice .. | .strToBytes _ | .mkMap | .mkSlice .. => .heavy
  | _ => .light

def Opd.names : Opd → List Nat
  | .t n => [n]
  | .c _ => []
def optNames : Option Opd → List Nat
  | none => []
  | some x => x.names
def partNames (l : List (Nat × Nat × Opd)) : List Nat := l.flatMap fun p => p.2.2.names
def SOp.names : SOp → List Nat
  | .mov x | .box x | .load _ _ x | .nilChk x | .un _ x | .convInt _ x | .strToBytes x | .bytesToStr x | .convStr x | .iface _ x
  | .fieldAddr _ x | .field _ _ _ x | .extract x _ | .clear _ _ x | .len _ x | .cap x | .rangeStr x | .nextStr x => x.names
  | .pick a b c | .mapUpdate _ a b c => a.names ++ b.names ++ c.names
  | .build _ ps | .buildSlice _ _ _ ps => partNames ps
  | .store _ x y | .bin _ _ x y | .eqAgg _ _ x y | .mkSlice _ _ _ x y | .idxAddrSl _ x y | .idxAddrArr _ _ x y | .idxArr _ _ _ x y | .idxStr x y
  | .append _ _ x y | .copy _ x y | .lookup _ _ _ x y => x.names ++ y.names
  | .mkFunc _ a b => a.flatMap Opd.names ++ b.flatMap Opd.names
  | .mkMap | .lenC _ => []
  | .slice _ x lo hi mx | .sliceArr _ _ x lo hi mx => x.names ++ optNames lo ++ optNames hi ++ optNames mx
  | .sliceStr x lo hi => x.names ++ optNames lo ++ optNames hi
  | .call _ l => l.flatMap Opd.names
  | .callV x l | .min x l | .max x l => x.names ++ l.flatMap Opd.names
def SOper.names (o : SOper) : List Nat := o.op.names ++ (match o.guard with | some (t, _) => [t] | none => []) ++ o.dst.toList

/-- Both, each once. -/
def uni (s : List Nat) : List Nat → List Nat
  | [] => s
  | x :: a => uni (if s.contains x then s else x :: s) a
/-- Which operations stand before which, by the edges that bind. -/
def befores (ops : List Oper) : List (List Nat) :=
  ops.foldl (init := []) fun acc o =>
    acc ++ [o.after.toList.foldl (init := []) fun s e => if Region.binds .any e then uni s (e.on :: (acc.getD e.on [])) else s]

def edgesOk (ops : List Oper) : Bool := ops.zipIdx.all fun (o, i) => o.after.toList.all fun e => !Region.binds .any e || decide (e.on < i)

def ordered (bs : List (List Nat)) (i j : Nat) : Bool := (bs.getD (max i j) []).contains (min i j)

/-- Pairs (i, j) of two operations not in order, by a test. -/
def loosePairs (bs : List (List Nat)) (l : List SOper) : List (Nat × SOper × Nat × SOper) :=
  l.zipIdx.flatMap fun (a, i) => l.zipIdx.filterMap fun (b, j) => if i ≠ j ∧ !ordered bs i j then some (i, a, j, b) else none

/-- A box of a constant, always made. -/
def constBox : SOper → Bool
  | ⟨_, .box (.c _), none⟩ => true
  | _ => false
/-- Two heavy ones that are not in order are boxes of constants in the stretch p, q; there all heavy ones are. -/
def drawOkR (bs : List (List Nat)) (l : List SOper) (p q : Nat) : Bool :=
  ((loosePairs bs l).all fun (i, a, j, b) =>
    (!(a.op.class = .heavy ∧ b.op.class = .heavy) || decide ((p ≤ i ∧ i < q) ∧ p ≤ j ∧ j < q)) &&
    (match b.dst with | some d => !a.names.contains d | none => true)) &&
  l.zipIdx.all fun (o, i) => !(decide ((p ≤ i ∧ i < q) ∧ o.op.class = .heavy)) || constBox o
def boxRun (l : List SOper) : Nat × Nat :=
  match (l.zipIdx.filter fun (o, _) => constBox o).map (·.2) with
  | [] => (0, 0)
  | i :: rest => (i, (rest.getLast?.getD i) + 1)
def drawOk (bs : List (List Nat)) (l : List SOper) : Bool := drawOkR bs l 0 0 || drawOkR bs l (boxRun l).1 (boxRun l).2

def drawChk (bs : List (List Nat)) (l : List SOper) : List (Nat × Nat) :=
  (loosePairs bs l).filterMap fun (i, a, j, b) => if a.op.class = .read ∧ b.op.class = .heavy then some (i, j) else none

def cCode (P : Program) : Code → Option SC
  | .skip => some .skip
  | .region _ ops draw =>
    match cOpers P ops ops.toList with
    | none => none
    | some l =>
      if draw then
        let bs := befores ops.toList
        if edgesOk ops.toList && drawOk bs l then
          match drawChk bs l with
          | [] => some (.ops l)
          | chk => some (.drawOps l chk)
        else none
      else some (.ops l)
  | .seq a b =>
    match cCode P a, cCode P b with
    | some x, some y => some (.seq x y)
    | _, _ => none
  | .cond c a b =>
    match cOpd c, cCode P a, cCode P b with
    | some c, some x, some y => some (.cond c x y)
    | _, _, _ => none
  | .block id b => (cCode P b).map (.block id)
  | .loop b => (cCode P b).map .loop
  | .rangeFunc f params assign body =>
    match cOpd f, cCode P assign, cCode P body with
    | some f, some x, some y => some (.rangeFunc f params.toList x y)
    | _, _, _ => none
  | .exit id => some (.exit id)
  | .ret => some .ret
  | _ => none

def cRes (P : Program) : ResultVar → Option SRes
  | .tmp t => some (.tmp t)
  | .cell a t =>
    match aggr? P t, sz P t with
    | some b, some n => some (.cell a b n)
    | _, _ => none
def cRess (P : Program) : List ResultVar → Option (List SRes)
  | [] => some []
  | r :: rs =>
    match cRes P r, cRess P rs with
    | some a, some l => some (a :: l)
    | _, _ => none

def cFunc (P : Program) (fn : Func) : Option SFunc :=
  match fn.body with
  | none => none
  | some b =>
    match cCode P b, cRess P fn.results.toList with
    | some c, some rs => if fn.name = "runtime.NumGoroutine" then none else some ⟨fn.ntmps, rs, c⟩
    | _, _ => none

end Go.Ya
