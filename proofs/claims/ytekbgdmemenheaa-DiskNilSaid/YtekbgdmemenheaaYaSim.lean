/-
  Equations by which 'simp only' runs the abstract machine with unknown values.
-/
import Derived.IntWalk
import Derived.Test.YtekbgdmemenheaaYaLim
namespace Go.Ya
set_option linter.unusedVariables false
set_option linter.unusedSimpArgs false

def aopsR (c : Tgt → List AV → Heap → AR) (l : List SOper) (d : Option Nat) (tm : List AV) : AR → Option (List AV × Heap)
  | some (v, h') => aops c l (putT tm d v) h'
  | none => none
def aopsG (c : Tgt → List AV → Heap → AR) (o : SOper) (l : List SOper) (tm : List AV) (h : Heap) : Bool → Option (List AV × Heap)
  | true => aopsR c l o.dst tm (aop c tm h o.op)
  | false => aops c l (putT tm o.dst undefA) h
def opsR : Option (List AV × Heap) → AOut
  | some (tm, h) => some (.normal, tm, h)
  | none => none
def retR (rs : List SRes) : AOut → AR
  | some (.normal, tm, h) | some (.ret, tm, h) => (resA tm h rs).map fun vs => (tupA vs, h)
  | _ => none

section
variable {c : Tgt → List AV → Heap → AR} {l : List SOper} {tm : List AV} {h h' : Heap} {d : Option Nat} {o : SOper} {op : SOp} {v : AV}
theorem s_nil : aops c [] tm h = some (tm, h) := rfl
theorem s_op : aops c (⟨d, op, none⟩ :: l) tm h = aopsR c l d tm (aop c tm h op) := by
  unfold aops aopsR; rfl
theorem s_guard {g : Nat × Bool} : aops c (⟨d, op, some g⟩ :: l) tm h = aopsG c ⟨d, op, none⟩ l tm h (wantedA tm (some g)) := by
  unfold aopsG aopsR
  rw [aops]
  cases wantedA tm (some g) <;> rfl
theorem s_some : aopsR c l d tm (some (v, h')) = aops c l (putT tm d v) h' := rfl
theorem s_true : aopsG c ⟨d, op, none⟩ l tm h true = aopsR c l d tm (aop c tm h op) := rfl
theorem s_false : aopsG c ⟨d, op, none⟩ l tm h false = aops c l (putT tm d undefA) h := rfl
theorem s_put {n : Nat} : putT tm (some n) v = tm.set n v := rfl
theorem s_put0 : putT tm none v = tm := rfl
theorem s_opsR : opsR (some (tm, h)) = some (.normal, tm, h) := rfl
theorem s_ret {rs : List SRes} : retR rs (some (.ret, tm, h)) = (resA tm h rs).map fun vs => (tupA vs, h) := rfl
theorem s_norm {rs : List SRes} : retR rs (some (.normal, tm, h)) = (resA tm h rs).map fun vs => (tupA vs, h) := rfl
end

section
variable {X : Known} {SP : FuncId → Option SFunc} {self : FuncId} {rd : Option Nat} {tm : List AV} {h : Heap} {a b : SC}

noncomputable def condX (X : Known) (SP : FuncId → Option SFunc) (self : FuncId) (rd : Option Nat) (a b : SC) (tm : List AV) (h : Heap) : AV → AOut
  | .bool true => xcode X SP self rd a tm h
  | .bool false => xcode X SP self rd b tm h
  | _ => none
noncomputable def thenX (X : Known) (SP : FuncId → Option SFunc) (self : FuncId) (rd : Option Nat) (b : SC) : AOut → AOut
  | some (.normal, tm', h') => xcode X SP self rd b tm' h'
  | r => r

theorem x_skip : xcode X SP self rd .skip tm h = some (.normal, tm, h) := xcode_step ..
theorem x_exit {id : Nat} : xcode X SP self rd (.exit id) tm h = some (.exit id, tm, h) := xcode_step ..
theorem x_ret : xcode X SP self rd .ret tm h = some (.ret, tm, h) := xcode_step ..
theorem x_ops {l : List SOper} : xcode X SP self rd (.ops l) tm h = opsR (aops (xcall X SP) l tm h) := by
  rw [xcode_step]
  simp only [acodeStep, code_ops, aopsF_eq]
  cases aops (xcall X SP) l tm h <;> rfl
theorem x_draw {l : List SOper} {chk : List (Nat × Nat)} : xcode X SP self rd (.drawOps l chk) tm h = code_draw (xcall X SP) l chk tm h := xcode_step ..
theorem x_seq : xcode X SP self rd (.seq a b) tm h = thenX X SP self rd b (xcode X SP self rd a tm h) := by
  rw [xcode_step]
  simp only [acodeStep, code_then]
  rcases xcode X SP self rd a tm h with _ | ⟨_ | _ | _, _, _⟩ <;> rfl
theorem x_cond {q : Opd} : xcode X SP self rd (.cond q a b) tm h = condX X SP self rd a b tm h (ev tm q) := by
  rw [xcode_step]
  simp only [acodeStep, code_cond, condX]
  cases ev tm q <;> first | rfl | (rename_i z; cases z <;> rfl)
theorem x_block {id : Nat} : xcode X SP self rd (.block id b) tm h = code_block id (xcode X SP self rd b tm h) := xcode_step ..
theorem x_loop : xcode X SP self rd (.loop b) tm h = thenX X SP self rd (.loop b) (xcode X SP self rd b tm h) := by
  rw [xcode_step]
  simp only [acodeStep, code_then]
  rcases xcode X SP self rd b tm h with _ | ⟨_ | _ | _, _, _⟩ <;> rfl
theorem x_true : condX X SP self rd a b tm h (.bool true) = xcode X SP self rd a tm h := rfl
theorem x_false : condX X SP self rd a b tm h (.bool false) = xcode X SP self rd b tm h := rfl
theorem x_then : thenX X SP self rd b (some (.normal, tm, h)) = xcode X SP self rd b tm h := rfl
theorem x_thenE {id : Nat} : thenX X SP self rd b (some (.exit id, tm, h)) = some (.exit id, tm, h) := rfl
theorem x_thenR : thenX X SP self rd b (some (.ret, tm, h)) = some (.ret, tm, h) := rfl
theorem x_blockN {id : Nat} : code_block id (some (.normal, tm, h)) = some (.normal, tm, h) := rfl
theorem x_blockR {id : Nat} : code_block id (some (.ret, tm, h)) = some (.ret, tm, h) := rfl
theorem x_blockE {id : Nat} : code_block id (some (.exit id, tm, h)) = some (.normal, tm, h) := by simp [code_block]
theorem x_blockO {id id' : Nat} (hne : id' ≠ id) : code_block id (some (.exit id', tm, h)) = some (.exit id', tm, h) := by simp [code_block, hne]

/-- A call, walked. -/
theorem x_fn {f : FuncId} {args : List AV} {n : Nat} {rs : List SRes} {body : SC} (hx : X f args h = none) (hf : SP f = some ⟨n, rs, body⟩) :
    xcall X SP (.fn f) args h = retR rs (xcode X SP f none body (args ++ List.replicate (n - args.length) undefA) h) := by
  rw [xcall_fn, hx]
  simp only [hf]
  rcases xcode X SP f none body (args ++ List.replicate (n - args.length) undefA) h with _ | ⟨_ | _ | _, _, _⟩ <;> rfl
theorem ranX {f : FuncId} {xs : List AV} {h h' : Heap} (hr : xcall X SP (.fn f) xs h = some (.bool true, h')) :
    ∃ n h', acall X SP n (.fn f) xs h = some (.bool true, h') ∨ (AV.bares xs = true ∧ acall X SP n (.fn f) xs emptyHeap = some (.bool true, h')) :=
  let ⟨n, e⟩ := xcall_iff.1 hr
  ⟨n, h', .inl e⟩
theorem ofRun {t : Tgt} {xs : List AV} {n : Nat} {r : AV × Heap} (hr : acall X SP n t xs h = some r) : xcall X SP t xs h = some r := xcall_iff.2 ⟨n, hr⟩
end
theorem f_bool (b : Bool) : AV.flat (.bool b) = true := rfl
theorem c_bool (b : Bool) : AV.cells (.bool b) = [.bool b] := rfl
theorem f_int (k : IntKind) (n : Int) : AV.flat (.int k n) = true := rfl
theorem c_int (k : IntKind) (n : Int) : AV.cells (.int k n) = [.int k n] := rfl
theorem f_str (l : List Int) : AV.flat (.str l) = true := rfl
theorem c_str (l : List Int) : AV.cells (.str l) = [.str l] := rfl
theorem f_nilptr  : AV.flat (.nilptr) = true := rfl
theorem c_nilptr  : AV.cells (.nilptr) = [.nilptr] := rfl
theorem f_ptr (a b : Nat) : AV.flat (.ptr a b) = true := rfl
theorem c_ptr (a b : Nat) : AV.cells (.ptr a b) = [.ptr a b] := rfl
theorem f_nilsl  : AV.flat (.nilsl) = true := rfl
theorem c_nilsl  : AV.cells (.nilsl) = [.nilsl] := rfl
theorem f_slice (a b c d : Nat) (e : Bool) (f : Nat) : AV.flat (.slice a b c d e f) = true := rfl
theorem c_slice (a b c d : Nat) (e : Bool) (f : Nat) : AV.cells (.slice a b c d e f) = [.slice a b c d e f] := rfl
theorem f_nilmap  : AV.flat (.nilmap) = true := rfl
theorem c_nilmap  : AV.cells (.nilmap) = [.nilmap] := rfl
theorem f_map (a : Nat) : AV.flat (.map a) = true := rfl
theorem c_map (a : Nat) : AV.cells (.map a) = [.map a] := rfl
theorem f_nilf  : AV.flat (.nilf) = true := rfl
theorem c_nilf  : AV.cells (.nilf) = [.nilf] := rfl
theorem f_func (f : FuncId) (a b : List AV) : AV.flat (.func f a b) = true := rfl
theorem c_func (f : FuncId) (a b : List AV) : AV.cells (.func f a b) = [.func f a b] := rfl
theorem f_yieldf (a : Nat) : AV.flat (.yieldf a) = true := rfl
theorem c_yieldf (a : Nat) : AV.cells (.yieldf a) = [.yieldf a] := rfl
theorem f_nilif  : AV.flat (.nilif) = true := rfl
theorem c_nilif  : AV.cells (.nilif) = [.nilif] := rfl
theorem f_iface (t : TypeId) (v : AV) : AV.flat (.iface t v) = true := rfl
theorem c_iface (t : TypeId) (v : AV) : AV.cells (.iface t v) = [.iface t v] := rfl
theorem c_agg (l : List AV) : AV.cells (.agg l) = l := rfl
theorem cells_of {v : AV} (h : v.flat = true) : v.cells = [v] := by cases v <;> first | rfl | simp [AV.flat] at h
theorem q_t {b : Bool} : (b == true) = b := by cases b <;> rfl
theorem q_f {b : Bool} : (b == false) = !b := by cases b <;> rfl
/-! ### two numbers -/
section
variable {k : IntKind} {ek : EqK} {a b : Int}
theorem b_add : binA .add ek (.int k a) (.int k b) = some (.int k (k.wrap (a + b))) := by simp [binA, binInt]
theorem b_sub : binA .sub ek (.int k a) (.int k b) = some (.int k (k.wrap (a - b))) := by simp [binA, binInt]
theorem b_mul : binA .mul ek (.int k a) (.int k b) = some (.int k (k.wrap (a * b))) := by simp [binA, binInt]
theorem b_eql : binA .eql ek (.int k a) (.int k b) = some (.bool (a == b)) := by simp [binA, binInt]
theorem b_neq : binA .neq ek (.int k a) (.int k b) = some (.bool (a != b)) := by simp [binA, binInt]
theorem b_lss : binA .lss ek (.int k a) (.int k b) = some (.bool (decide (a < b))) := by simp [binA, binInt]
theorem b_leq : binA .leq ek (.int k a) (.int k b) = some (.bool (decide (a ≤ b))) := by simp [binA, binInt]
theorem b_gtr : binA .gtr ek (.int k a) (.int k b) = some (.bool (decide (a > b))) := by simp [binA, binInt]
theorem b_geq : binA .geq ek (.int k a) (.int k b) = some (.bool (decide (a ≥ b))) := by simp [binA, binInt]
theorem b_and : binA .and ek (.int k a) (.int k b) = some (.int k (k.wrap (BitVec.ofInt k.bits a &&& BitVec.ofInt k.bits b).toNat)) := by simp [binA, binInt]
theorem b_or : binA .or ek (.int k a) (.int k b) = some (.int k (k.wrap (BitVec.ofInt k.bits a ||| BitVec.ofInt k.bits b).toNat)) := by simp [binA, binInt]
theorem b_xor : binA .xor ek (.int k a) (.int k b) = some (.int k (k.wrap (BitVec.ofInt k.bits a ^^^ BitVec.ofInt k.bits b).toNat)) := by simp [binA, binInt]
theorem b_quo : binA .quo ek (.int k a) (.int k b) = (if b = 0 then none else some (.int k (k.wrap (a.tdiv b)))) := by simp [binA, binInt]
theorem b_rem : binA .rem ek (.int k a) (.int k b) = (if b = 0 then none else some (.int k (a.tmod b))) := by simp [binA, binInt]
theorem b_shl {k' : IntKind} (hb : ¬ b < 0) : binA .shl ek (.int k a) (.int k' b) = some (.int k (k.wrap (a * 2 ^ (Nat.min b.toNat k.bits)))) := by simp [binA, shiftInt, hb]
theorem b_shr {k' : IntKind} (hb : ¬ b < 0) : binA .shr ek (.int k a) (.int k' b) = some (.int k (a.fdiv (2 ^ (Nat.min b.toNat k.bits)))) := by simp [binA, shiftInt, hb]
end

/-- Old blocks are as they were. -/
def Grow (h h' : Heap) : Prop := h.next ≤ h'.next ∧ ∀ id, id < h.next → h'.get id = h.get id
theorem Grow.refl (h : Heap) : Grow h h := ⟨Nat.le_refl _, fun _ _ => rfl⟩
theorem Grow.trans {a b c : Heap} (h : Grow a b) (k : Grow b c) : Grow a c := ⟨Nat.le_trans h.1 k.1, fun id hid => (k.2 id (Nat.lt_of_lt_of_le hid h.1)).trans (h.2 id hid)⟩
theorem Grow.alloc (h : Heap) (o : AObj) : Grow h (h.alloc o) := ⟨by simp, fun id hid => by rw [Heap.get_alloc, if_neg (by omega)]⟩
theorem Grow.set {g h : Heap} (hg : Grow g h) {id : Nat} (o : AObj) (h1 : g.next ≤ id) (h2 : id < h.next) : Grow g (h.set id o) :=
  ⟨hg.1, fun j hj => by rw [Heap.get_set _ _ _ _ h2, if_neg (by omega)]; exact hg.2 j hj⟩
theorem Grow.get {h h' : Heap} (hg : Grow h h') {id : Nat} {o : AObj} (e : h.get id = some o) : h'.get id = some o := (hg.2 id (Heap.lt_of_get e)).trans e
theorem Grow.note (h : Heap) (b : Bool) (id : Nat) : Grow h (h.note b id) := by
  cases b
  · exact Grow.refl h
  · exact Grow.alloc h _
theorem Grow.byteAt {h h' : Heap} (hg : Grow h h') {id : Nat} (e : h.byteAt id = true) : h'.byteAt id = true := by
  rw [Heap.byteAt_of (hg.2 _ (Heap.byteAt_lt e))]; exact e
theorem byteAt_note (h : Heap) (id : Nat) (e : id + 1 = h.next) : (h.note true id).byteAt id = true := by
  unfold Heap.byteAt
  rw [Heap.get_note, if_pos ⟨rfl, e⟩]
  simp [AObj.mark]
theorem note_false (h : Heap) (id : Nat) : h.note false id = h := rfl
/-- Reading behind a write, with no condition. -/
theorem get_set (h : Heap) (id j : Nat) (o : AObj) : (h.set id o).get j = if j = id then (if id < h.next then some o else none) else h.get j := by
  simp only [Heap.get, Heap.set]
  rw [Tr.get_setF _ _ _ _ _ (by omega)]
  by_cases e : j = id
  · subst e; simp
  · simp [e]
/-- A store, done. -/
theorem store_of {h : Heap} {id off : Nat} {vs c : List AV} (e : h.get id = some (.cells c false)) (hl : off + vs.length ≤ c.length) : storeA h id off vs = some (h.set id (.cells (splice c off vs) false)) := by
  simp [storeA, e, hl]
theorem load_of {h : Heap} {id off : Nat} {c : List AV} {ro : Bool} (e : h.get id = some (.cells c ro)) : loadA h false 1 id off = c[off]? := by
  simp [loadA, e]

/-! ### regions that draw -/
abbrev Log := List (Option Nat × Heap × Heap)
def lacc (c : Tgt → List AV → Heap → AR) (l : List SOper) (tm : List AV) (h : Heap) (acc : Log) : Option (List AV × Heap × Log) :=
  match aopsLog c l tm h with
  | some (tm', h', lg) => some (tm', h', acc ++ lg)
  | none => none
def laccR (c : Tgt → List AV → Heap → AR) (l : List SOper) (d : Option Nat) (tm : List AV) (r : Option Nat) (h : Heap) (acc : Log) : AR → Option (List AV × Heap × Log)
  | some (v, h') => lacc c l (putT tm d v) h' (acc ++ [(r, h, h')])
  | none => none
def laccG (c : Tgt → List AV → Heap → AR) (o : SOper) (l : List SOper) (tm : List AV) (h : Heap) (acc : Log) : Bool → Option (List AV × Heap × Log)
  | true => laccR c l o.dst tm (readsA tm o.op) h acc (aop c tm h o.op)
  | false => lacc c l (putT tm o.dst undefA) h (acc ++ [(none, h, h)])
def drawR (chk : List (Nat × Nat)) : Option (List AV × Heap × Log) → AOut
  | some (tm, h, lg) => if chkLog lg chk then some (.normal, tm, h) else none
  | none => none
section
variable {c : Tgt → List AV → Heap → AR} {l : List SOper} {tm : List AV} {h h' : Heap} {d : Option Nat} {op : SOp} {v : AV} {acc : Log} {r : Option Nat}
theorem l_nil : lacc c [] tm h acc = some (tm, h, acc) := by simp [lacc, aopsLog]
theorem l_op : lacc c (⟨d, op, none⟩ :: l) tm h acc = laccR c l d tm (readsA tm op) h acc (aop c tm h op) := by
  unfold lacc laccR
  rw [aopsLog]
  simp only [show wantedA tm none = true from rfl, if_true]
  cases aop c tm h op with
  | none => rfl
  | some q =>
    simp only [lacc]
    cases aopsLog c l (putT tm d q.1) q.2 with
    | none => rfl
    | some z => simp
theorem l_guard {g : Nat × Bool} : lacc c (⟨d, op, some g⟩ :: l) tm h acc = laccG c ⟨d, op, none⟩ l tm h acc (wantedA tm (some g)) := by
  unfold lacc laccG
  rw [aopsLog]
  cases wantedA tm (some g) with
  | true =>
    simp only [if_true, laccR, lacc]
    cases aop c tm h op with
    | none => rfl
    | some q =>
      simp only
      cases aopsLog c l (putT tm d q.1) q.2 with
      | none => rfl
      | some z => simp
  | false =>
    simp only [Bool.false_eq_true, if_false, lacc]
    cases aopsLog c l (putT tm d undefA) h with
    | none => rfl
    | some z => simp
theorem l_some : laccR c l d tm r h acc (some (v, h')) = lacc c l (putT tm d v) h' (acc ++ [(r, h, h')]) := rfl
theorem l_true : laccG c ⟨d, op, none⟩ l tm h acc true = laccR c l d tm (readsA tm op) h acc (aop c tm h op) := rfl
theorem l_false : laccG c ⟨d, op, none⟩ l tm h acc false = lacc c l (putT tm d undefA) h (acc ++ [(none, h, h)]) := rfl
theorem l_draw {chk : List (Nat × Nat)} {lg : Log} : drawR chk (some (tm, h, lg)) = if chkLog lg chk then some (.normal, tm, h) else none := rfl
end
theorem x_drawn {X : Known} {SP : FuncId → Option SFunc} {self : FuncId} {rd : Option Nat} {tm : List AV} {h : Heap} {l : List SOper} {chk : List (Nat × Nat)} :
    xcode X SP self rd (.drawOps l chk) tm h = drawR chk (lacc (xcall X SP) l tm h []) := by
  rw [x_draw]
  unfold code_draw drawR lacc
  cases aopsLog (xcall X SP) l tm h <;> rfl

mutual
theorem AV.beq_refl : ∀ a : AV, AV.beq a a = true
  | .bool a => by simp [AV.beq]
  | .int j a => by simp [AV.beq]
  | .str a => by simp [AV.beq]
  | .nilptr => rfl
  | .ptr a b => by simp [AV.beq]
  | .nilsl => rfl
  | .slice a b c d e f => by simp [AV.beq]
  | .nilmap => rfl
  | .map a => by simp [AV.beq]
  | .nilf => rfl
  | .func f a b => by simp [AV.beq, AV.beqs_refl a, AV.beqs_refl b]
  | .yieldf a => by simp [AV.beq]
  | .nilif => rfl
  | .iface t v => by simp [AV.beq, AV.beq_refl v]
  | .agg a => by simp [AV.beq, AV.beqs_refl a]
  | .tuple a => by simp [AV.beq, AV.beqs_refl a]
theorem AV.beqs_refl : ∀ a : List AV, AV.beqs a a = true
  | [] => rfl
  | a :: as => by simp [AV.beqs, AV.beq_refl a, AV.beqs_refl as]
end
theorem same_cells {a : List AV} {r : Bool} : sameObj (some (.cells a r)) (some (.cells a r)) = true := by simp [sameObj, AV.beqs_refl]
/-! ### bounds of slices -/
theorem sb {k : IntKind} {i y : Nat} (hi : i ≤ y) : sliceBoundA (.int k (i : Int)) y = some i := by
  have : (0 : Int) ≤ i ∧ (i : Int) ≤ y := by omega
  simp [sliceBoundA, this]
section
variable {k k' k'' : IntKind} {len cap i j m : Nat}
theorem bd_lhm (h1 : m ≤ cap) (h2 : j ≤ m) (h3 : i ≤ j) : boundsA len cap (some (.int k (i : Int))) (some (.int k' (j : Int))) (some (.int k'' (m : Int))) = some (i, j, m) := by
  delta boundsA; simp only [sb h1, sb h2, sb h3]
theorem bd_lh (h2 : j ≤ cap) (h3 : i ≤ j) : boundsA len cap (some (.int k (i : Int))) (some (.int k' (j : Int))) none = some (i, j, cap) := by
  delta boundsA; simp only [sb h2, sb h3]
theorem bd_h (h2 : j ≤ cap) : boundsA len cap none (some (.int k' (j : Int))) none = some (0, j, cap) := by
  delta boundsA; simp only [sb h2]
theorem bd_l (h3 : i ≤ len) : boundsA len cap (some (.int k (i : Int))) none none = some (i, len, cap) := by
  delta boundsA; simp only [sb h3]
theorem bd_hm (h1 : m ≤ cap) (h2 : j ≤ m) : boundsA len cap none (some (.int k' (j : Int))) (some (.int k'' (m : Int))) = some (0, j, m) := by
  delta boundsA; simp only [sb h1, sb h2]
end
end Go.Ya
