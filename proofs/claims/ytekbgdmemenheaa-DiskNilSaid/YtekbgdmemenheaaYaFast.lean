/-
  The abstract machine once more, told so that the kernel runs it fast: each operation in a function of its own.
-/
import Derived.Test.YtekbgdmemenheaaYaArgs
namespace Go.Ya
set_option linter.unusedVariables false
set_option linter.unusedSimpArgs false

def aop_pick (tm : List AV) (h : Heap) (c : Opd) (a : Opd) (b : Opd) : AR :=
    match ev tm c with
    | .bool true => some (ev tm a, h)
    | .bool false => some (ev tm b, h)
    | _ => none

def aop_box (tm : List AV) (h : Heap) (x : Opd) : AR :=
  if (ev tm x).cells.all AV.flat then some (.ptr h.next 0, h.alloc (.cells (ev tm x).cells false)) else none

def aop_buildSlice (tm : List AV) (h : Heap) (base : List AV) (len : Nat) (esz : Nat) (parts : List (Nat × Nat × Opd)) : AR :=
  (fillA base tm parts).map fun cs => (.slice h.next 0 len len true esz, h.alloc (.cells cs false))

def aop_load (tm : List AV) (h : Heap) (aggr : Bool) (n : Nat) (a : Opd) : AR :=
    match ev tm a with
    | .ptr id off => (loadA h aggr n id off).map fun v => (v, h)
    | _ => none

def aop_store (tm : List AV) (h : Heap) (n : Nat) (a : Opd) (x : Opd) : AR :=
    match ev tm a with
    | .ptr id off =>
      let vs := (ev tm x).cells
      if vs.length = n ∧ vs.all AV.flat then (storeA h id off vs).map fun h' => (undefA, h') else none
    | _ => none

def aop_nilChk (tm : List AV) (h : Heap) (x : Opd) : AR :=
    match ev tm x with
    | .ptr id off => some (.ptr id off, h)
    | .func f a b => some (.func f a b, h)
    | .yieldf l => some (.yieldf l, h)
    | .iface t v => some (.iface t v, h)
    | _ => none

def aop_eqAgg (tm : List AV) (h : Heap) (neg : Bool) (ks : List Nat) (x : Opd) (y : Opd) : AR :=
    match ev tm x, ev tm y with
    | .agg a, .agg b => if (kindsOk ks a && kindsOk ks b) = true then (plainEq a b).map fun r => (.bool (r != neg), h) else none
    | _, _ => none

def aop_convInt (tm : List AV) (h : Heap) (k : IntKind) (x : Opd) : AR :=
    match ev tm x with
    | .int _ n => some (.int k (k.wrap n), h)
    | _ => none

def aop_strToBytes (tm : List AV) (h : Heap) (x : Opd) : AR :=
    match ev tm x with
    | .str s => some (.slice h.next 0 s.length s.length false 1, h.alloc (.cells (s.map (AV.int .u8)) false))
    | _ => none

def aop_bytesToStr (tm : List AV) (h : Heap) (x : Opd) : AR :=
    match ev tm x with
    | .nilsl => some (.str [], h)
    | .slice id off len cap ex esz =>
      match firstA h 1 len (.slice id off len cap ex esz) with
      | some cs => (byteCells cs).map fun s => (.str s, h)
      | none => none
    | _ => none

def aop_convStr (tm : List AV) (h : Heap) (x : Opd) : AR :=
    match ev tm x with
    | .str s => some (.str s, h)
    | _ => none

def aop_mkSlice (tm : List AV) (h : Heap) (zero : List AV) (esz : Nat) (bytes : Nat) (l : Opd) (c : Opd) : AR :=
    match ev tm l, ev tm c with
    | .int .i64 l, .int .i64 c =>
      if 0 ≤ l ∧ l ≤ c ∧ bytes * c ≤ 140737488355328 ∧ c ≤ 140737488355328 then
        some (.slice h.next 0 l.toNat c.toNat true esz, h.alloc (.cells ((List.replicate c.toNat zero).flatten) false))
      else none
    | _, _ => none

def aop_slice (tm : List AV) (h : Heap) (esz : Nat) (x : Opd) (lo : Option Opd) (hi : Option Opd) (mx : Option Opd) : AR :=
  (sliceA esz (ev tm x) (lo.map (ev tm)) (hi.map (ev tm)) (mx.map (ev tm))).map fun v => (v, h)

def aop_sliceStr (tm : List AV) (h : Heap) (x : Opd) (lo : Option Opd) (hi : Option Opd) : AR :=
    match ev tm x with
    | .str s =>
      match boundsA s.length s.length (lo.map (ev tm)) (hi.map (ev tm)) none with
      | some (l, hh, _) => some (.str ((s.drop l).take (hh - l)), h)
      | none => none
    | _ => none

def aop_sliceArr (tm : List AV) (h : Heap) (n : Nat) (esz : Nat) (x : Opd) (lo : Option Opd) (hi : Option Opd) (mx : Option Opd) : AR :=
    match ev tm x with
    | .ptr id off =>
      match boundsA n n (lo.map (ev tm)) (hi.map (ev tm)) (mx.map (ev tm)), h.get id with
      | some (l, hh, m), some (.cells c _) => if off + n * esz ≤ c.length then some (.slice id (off + l * esz) (hh - l) (m - l) true esz, h) else none
      | _, _ => none
    | _ => none

def aop_fieldAddr (tm : List AV) (h : Heap) (off : Nat) (x : Opd) : AR :=
    match ev tm x with
    | .ptr id o => some (.ptr id (o + off), h)
    | _ => none

def aop_field (tm : List AV) (h : Heap) (aggr : Bool) (off : Nat) (n : Nat) (x : Opd) : AR :=
    match ev tm x with
    | .agg cs => if aggr then some (.agg ((cs.drop off).take n), h) else (cs[off]?).map fun v => (v, h)
    | _ => none

def aop_idxAddrSl (tm : List AV) (h : Heap) (esz : Nat) (x : Opd) (i : Opd) : AR :=
    match ev tm x, ev tm i with
    | .slice id off len _ _ esz', .int _ i => if esz = esz' ∧ 0 ≤ i ∧ i < len then some (.ptr id (off + i.toNat * esz), h) else none
    | _, _ => none

def aop_idxAddrArr (tm : List AV) (h : Heap) (len : Nat) (esz : Nat) (x : Opd) (i : Opd) : AR :=
    match ev tm x, ev tm i with
    | .ptr id off, .int _ i => if 0 ≤ i ∧ i < len then some (.ptr id (off + i.toNat * esz), h) else none
    | _, _ => none

def aop_idxArr (tm : List AV) (h : Heap) (aggr : Bool) (len : Nat) (esz : Nat) (x : Opd) (i : Opd) : AR :=
    match ev tm x, ev tm i with
    | .agg cs, .int _ i =>
      if 0 ≤ i ∧ i < len then
        (if aggr then some (.agg ((cs.drop (i.toNat * esz)).take esz), h) else (cs[i.toNat * esz]?).map fun v => (v, h))
      else none
    | _, _ => none

def aop_idxStr (tm : List AV) (h : Heap) (x : Opd) (i : Opd) : AR :=
    match ev tm x, ev tm i with
    | .str s, .int _ i => if 0 ≤ i then (s[i.toNat]?).map fun b => (.int .u8 b, h) else none
    | _, _ => none

def aop_extract (tm : List AV) (h : Heap) (x : Opd) (i : Nat) : AR :=
    match ev tm x with
    | .tuple vs => (vs[i]?).map fun v => (v, h)
    | _ => none

def aop_callV (call : Tgt → List AV → Heap → AR) (tm : List AV) (h : Heap) (x : Opd) (args : List Opd) : AR :=
    match ev tm x with
    | .func f first captured => call (.fn f) (first ++ evs tm args ++ captured) h
    | .yieldf l => call (.yield l) (evs tm args) h
    | _ => none

def aop_len (tm : List AV) (h : Heap) (ek : EqK) (x : Opd) : AR :=
    match ek, ev tm x with
    | .map, .nilmap => some (.int .i64 0, h)
    | .map, .map id =>
      match h.get id with
      | some (.map es) => some (.int .i64 es.length, h)
      | _ => none
    | .sl, .nilsl => some (.int .i64 0, h)
    | .sl, .slice _ _ len _ _ _ => some (.int .i64 len, h)
    | .str, .str s => some (.int .i64 s.length, h)
    | _, _ => none

def aop_cap (tm : List AV) (h : Heap) (x : Opd) : AR :=
    match ev tm x with
    | .nilsl => some (.int .i64 0, h)
    | .slice _ _ _ cap true _ => some (.int .i64 cap, h)
    | _ => none

def aop_lookup (tm : List AV) (h : Heap) (sk : Bool) (zero : AV) (ok : Bool) (m : Opd) (k : Opd) : AR :=
    let es : Option (List (AV × AV)) := match ev tm m with
      | .nilmap => some []
      | .map id => match h.get id with
        | some (.map es) => some es
        | _ => none
      | _ => none
    match es with
    | none => none
    | some es =>
      if isKey sk (ev tm k) then
        match findA (ev tm k) es with
        | none => none
        | some r =>
          let v := r.getD zero
          some (if ok then .tuple [v, .bool r.isSome] else v, h)
      else none

def aop_mapUpdate (tm : List AV) (h : Heap) (sk : Bool) (m : Opd) (k : Opd) (v : Opd) : AR :=
    match ev tm m with
    | .map id =>
      match h.get id with
      | some (.map es) =>
        if isKey sk (ev tm k) then
          match putA (ev tm k) (ev tm v) es with
          | some es' => some (undefA, h.set id (.map es'))
          | none => none
        else none
      | _ => none
    | _ => none

def aop_rangeStr (tm : List AV) (h : Heap) (x : Opd) : AR :=
    match ev tm x with
    | .str s => some (.ptr h.next 0, h.alloc (.striter s 0))
    | _ => none

def aop_nextStr (tm : List AV) (h : Heap) (it : Opd) : AR :=
    match ev tm it with
    | .ptr id 0 =>
      match h.get id with
      | some (.striter s pos) =>
        if pos < s.length then
          let d := Utf8.decode (toBA s) pos
          some (.tuple [.bool true, .int .i64 pos, .int .i32 d.1], h.set id (.striter s (pos + d.2)))
        else some (.tuple [.bool false], h)
      | _ => none
    | _ => none

def aopF (call : Tgt → List AV → Heap → AR) (tm : List AV) (h : Heap) : SOp → AR
  | .mov x => some (ev tm x, h)
  | .pick c a b => aop_pick tm h c a b
  | .box x => aop_box tm h x
  | .build base parts => (fillA base tm parts).map fun cs => (.agg cs, h)
  | .buildSlice base len esz parts => aop_buildSlice tm h base len esz parts
  | .load aggr n a => aop_load tm h aggr n a
  | .store n a x => aop_store tm h n a x
  | .nilChk x => aop_nilChk tm h x
  | .bin op ek x y => (binA op ek (ev tm x) (ev tm y)).map fun v => (v, h)
  | .eqAgg neg ks x y => aop_eqAgg tm h neg ks x y
  | .un op x => (unA op (ev tm x)).map fun v => (v, h)
  | .convInt k x => aop_convInt tm h k x
  | .strToBytes x => aop_strToBytes tm h x
  | .bytesToStr x => aop_bytesToStr tm h x
  | .convStr x => aop_convStr tm h x
  | .iface t x => some (.iface t (ev tm x), h)
  | .mkFunc f first captured => some (.func f (evs tm first) (evs tm captured), h)
  | .mkMap => some (.map h.next, h.alloc (.map []))
  | .mkSlice zero esz bytes l c => aop_mkSlice tm h zero esz bytes l c
  | .slice esz x lo hi mx => aop_slice tm h esz x lo hi mx
  | .sliceStr x lo hi => aop_sliceStr tm h x lo hi
  | .sliceArr n esz x lo hi mx => aop_sliceArr tm h n esz x lo hi mx
  | .fieldAddr off x => aop_fieldAddr tm h off x
  | .field aggr off n x => aop_field tm h aggr off n x
  | .idxAddrSl esz x i => aop_idxAddrSl tm h esz x i
  | .idxAddrArr len esz x i => aop_idxAddrArr tm h len esz x i
  | .idxArr aggr len esz x i => aop_idxArr tm h aggr len esz x i
  | .idxStr x i => aop_idxStr tm h x i
  | .extract x i => aop_extract tm h x i
  | .call f args => call (.fn f) (evs tm args) h
  | .callV x args => aop_callV call tm h x args
  | .append esz bytes x y => appendA h esz bytes (ev tm x) (ev tm y)
  | .copy esz x y => copyA h esz (ev tm x) (ev tm y)
  | .clear zero esz x => clearA h zero esz (ev tm x)
  | .len ek x => aop_len tm h ek x
  | .lenC n => some (.int .i64 n, h)
  | .cap x => aop_cap tm h x
  | .min x ys => (minA (ev tm x) (evs tm ys)).map fun v => (v, h)
  | .max x ys => (maxA (ev tm x) (evs tm ys)).map fun v => (v, h)
  | .lookup sk zero ok m k => aop_lookup tm h sk zero ok m k
  | .mapUpdate sk m k v => aop_mapUpdate tm h sk m k v
  | .rangeStr x => aop_rangeStr tm h x
  | .nextStr it => aop_nextStr tm h it

theorem aopF_eq (call : Tgt → List AV → Heap → AR) (tm : List AV) (h : Heap) (o : SOp) : aopF call tm h o = aop call tm h o := by cases o <;> rfl

def aopsF (call : Tgt → List AV → Heap → AR) : List SOper → List AV → Heap → Option (List AV × Heap)
  | [], tm, h => some (tm, h)
  | o :: rest, tm, h =>
    if wantedA tm o.guard then
      match aopF call tm h o.op with
      | some (v, h') => aopsF call rest (putT tm o.dst v) h'
      | none => none
    else aopsF call rest (putT tm o.dst undefA) h
theorem aopsF_eq (call : Tgt → List AV → Heap → AR) : ∀ (l : List SOper) (tm : List AV) (h : Heap), aopsF call l tm h = aops call l tm h
  | [], tm, h => rfl
  | o :: rest, tm, h => by
    unfold aopsF aops
    rw [aopF_eq]
    split
    · split <;> rename_i e <;> rw [e] <;> simp only [aopsF_eq call rest]
    · exact aopsF_eq call rest _ h

def code_ops (call : Tgt → List AV → Heap → AR) (l : List SOper) (tm : List AV) (h : Heap) : AOut :=
  match aopsF call l tm h with
  | some (tm', h') => some (.normal, tm', h')
  | none => none
def code_draw (call : Tgt → List AV → Heap → AR) (l : List SOper) (chk : List (Nat × Nat)) (tm : List AV) (h : Heap) : AOut :=
  match aopsLog call l tm h with
  | some (tm', h', lg) => if chkLog lg chk then some (.normal, tm', h') else none
  | none => none
def code_range (call : Tgt → List AV → Heap → AR) (self : FuncId) (rd : Option Nat) (f : Opd) (params : List Nat) (assign body : SC) (tm : List AV) (h : Heap) : AOut :=
  match ev tm f, rdOk h rd with
  | .func g first captured, true =>
    match call (.fn g) (first ++ [.yieldf h.next] ++ captured) (h.alloc (.loop self tm params assign body .ready .normal)) with
    | some (_, h') =>
      match h'.get h.next with
      | some (.loop self' tm' ps' as' bd' st pend) =>
        if st = .busy then none else some (pend, tm, h'.set h.next (.loop self' tm' ps' as' bd' .exhausted pend))
      | _ => none
    | none => none
  | _, _ => none
def code_block (id : Nat) : AOut → AOut
  | some (.exit id', tm', h') => some (if id' = id then .normal else .exit id', tm', h')
  | r => r
def code_then (r : AOut) (k : List AV → Heap → AOut) : AOut :=
  match r with
  | some (.normal, tm', h') => k tm' h'
  | r => r
def code_cond (v : AV) (a b : AOut) : AOut :=
  match v with
  | .bool true => a
  | .bool false => b
  | _ => none

def acodeStep (call : Tgt → List AV → Heap → AR) (self : FuncId) (rd : Option Nat) (ih : SC → List AV → Heap → AOut) (c : SC) (tm : List AV) (h : Heap) : AOut :=
  match c with
  | .skip => some (.normal, tm, h)
  | .ops l => code_ops call l tm h
  | .drawOps l chk => code_draw call l chk tm h
  | .seq a b => code_then (ih a tm h) (ih b)
  | .cond c a b => code_cond (ev tm c) (ih a tm h) (ih b tm h)
  | .block id b => code_block id (ih b tm h)
  | .loop b => code_then (ih b tm h) (ih (.loop b))
  | .exit id => some (.exit id, tm, h)
  | .ret => some (.ret, tm, h)
  | .rangeFunc f params assign body => code_range call self rd f params assign body tm h
def acodeF (call : Tgt → List AV → Heap → AR) (self : FuncId) (rd : Option Nat) (n : Nat) : SC → List AV → Heap → AOut :=
  Nat.rec (fun _ _ _ => none) (fun _ ih c tm h => acodeStep call self rd ih c tm h) n
theorem acodeF_eq (call : Tgt → List AV → Heap → AR) (self : FuncId) (rd : Option Nat) : ∀ n c tm h, acodeF call self rd n c tm h = acode call self rd n c tm h
  | 0, c, tm, h => rfl
  | n + 1, c, tm, h => by
    show acodeStep call self rd (acodeF call self rd n) c tm h = _
    have ih := acodeF_eq call self rd n
    cases c with
    | skip => rfl
    | exit id => rfl
    | ret => rfl
    | ops l =>
      simp only [acodeStep, code_ops, acode, aopsF_eq]
      cases aops call l tm h <;> rfl
    | drawOps l chk => rfl
    | rangeFunc => rfl
    | seq a b =>
      simp only [acodeStep, code_then, acode, ih]
      rcases acode call self rd n a tm h with _ | ⟨_ | _ | _, _, _⟩ <;> first | rfl | simp only [ih]
    | loop b =>
      simp only [acodeStep, code_then, acode, ih]
      rcases acode call self rd n b tm h with _ | ⟨_ | _ | _, _, _⟩ <;> first | rfl | simp only [ih]
    | cond c a b =>
      simp only [acodeStep, code_cond, acode, ih]
      rcases ev tm c with _ | _ <;> first | rfl | (rename_i q; cases q <;> rfl)
    | block id b =>
      simp only [acodeStep, code_block, acode, ih]
      rcases acode call self rd n b tm h with _ | ⟨_ | _ | _, _, _⟩ <;> rfl

def retA (fn : SFunc) : AOut → AR
  | some (.normal, tm, h') | some (.ret, tm, h') => (resA tm h' fn.results).map fun vs => (tupA vs, h')
  | _ => none
def fnF (fn : SFunc) (code : SC → List AV → Heap → AOut) (args : List AV) (h : Heap) : AR :=
  retA fn (code fn.body (args ++ List.replicate (fn.ntmps - args.length) undefA) h)
def yieldF (code : FuncId → SC → List AV → Heap → AOut) (l : Nat) (args : List AV) (h : Heap) : AR :=
  match h.get l with
  | some (.loop f tmps params assign body .ready _) =>
    match zipSet tmps params args with
    | none => none
    | some tm =>
      match code f assign tm h with
      | some (.normal, tm₁, h₁) =>
        match h₁.get l with
        | some (.loop f' t' p' a' b' .ready pe') =>
          match code f body tm₁ (h₁.set l (.loop f' t' p' a' b' .busy pe')) with
          | some (e, _, h₂) =>
            match h₂.get l with
            | some (.loop f'' t'' p'' a'' b'' _ _) =>
              if e = .normal then some (.bool true, h₂.set l (.loop f'' t'' p'' a'' b'' .ready .normal))
              else some (.bool false, h₂.set l (.loop f'' t'' p'' a'' b'' .done e))
            | _ => none
          | none => none
        | _ => none
      | _ => none
  | _ => none
def acallStep (X : Known) (SP : FuncId → Option SFunc) (n : Nat) (ih : Tgt → List AV → Heap → AR) (t : Tgt) (args : List AV) (h : Heap) : AR :=
  match t with
  | .fn f =>
    match X f args h with
    | some r => some r
    | none =>
    match SP f with
    | none => none
    | some fn => fnF fn (acodeF ih f none n) args h
  | .yield l => yieldF (fun f => acodeF ih f (some l) n) l args h
def acallF (X : Known) (SP : FuncId → Option SFunc) (n : Nat) : Tgt → List AV → Heap → AR :=
  Nat.rec (fun _ _ _ => none) (fun n ih t args h => acallStep X SP n ih t args h) n
theorem acallF_eq (X : Known) (SP : FuncId → Option SFunc) : ∀ n, acallF X SP n = acall X SP n
  | 0 => by funext t args h; rfl
  | n + 1 => by
    have ih := acallF_eq X SP n
    funext t args h
    show acallStep X SP n (acallF X SP n) t args h = _
    rw [ih]
    cases t with
    | fn f =>
      simp only [acallStep, acall, fnF, retA, acodeF_eq]
      cases X f args h with
      | some r => rfl
      | none => 
        cases SP f with
        | none => rfl
        | some fn => 
          simp only
          rcases acode (acall X SP n) f none n fn.body (args ++ List.replicate (fn.ntmps - args.length) undefA) h with _ | ⟨_ | _ | _, _, _⟩ <;> rfl
    | yield l =>
      simp only [acallStep, acall, yieldF, acodeF_eq]
      repeat' (first | rfl | split)
theorem ranF {X : Known} {SP : FuncId → Option SFunc} (n : Nat) {f : FuncId} {xs : List AV} {h : Heap} (hr : (acallF X SP n (.fn f) xs h).map (·.1) = some (.bool true)) :
    ∃ n h', acall X SP n (.fn f) xs h = some (.bool true, h') ∨ (AV.bares xs = true ∧ acall X SP n (.fn f) xs emptyHeap = some (.bool true, h')) := by
  rw [acallF_eq] at hr
  exact ran n hr
end Go.Ya