/-
  The abstract machine: YaFast, YaLim, YaSim.
-/
import Derived.IntWalk
import Derived.Test.YtekbgdmemenheaaYbG
namespace Go.Ya
set_option linter.unusedVariables false
set_option linter.unusedSimpArgs false
def aop_pick (tm : List AV) (h : Heap) (c : Opd) (a : Opd) (b : Opd) : AR :=
    match ev tm c with
    | .bool true => some (ev tm a, h)
    | .bool false => some (ev tm b, h)
    | _ => none
def aop_box (tm : List AV) (h : Heap) (x : Opd) : AR :=
  if (ev tm x).cells.all AV.flat then some (.ptr h.next 0, h.alloc (.cells (ev tm x).cells false)) else none
def aop_buildSlice (tm : List AV) (h : Heap) (base : List AV) (len : Nat) (esz : Nat) (parts : List (Nat × Nat × Opd)) : AR :=
  (fillA base tm parts).map fun cs => (.slice h.next 0 len len true esz, h.alloc (.cells cs false))
def aop_load (tm : List AV) (h : Heap) (aggr : Bool) (n : Nat) (a : Opd) : AR :=
    match ev tm a with
    | .ptr id off => (loadA h aggr n id off).map fun v => (v, h)
    | _ => none
def aop_store (tm : List AV) (h : Heap) (n : Nat) (a : Opd) (x : Opd) : AR :=
    match ev tm a with
    | .ptr id off =>
      let vs := (ev tm x).cells
      if vs.length = n ∧ vs.all AV.flat then (storeA h id off vs).map fun h' => (undefA, h') else none
    | _ => none
def aop_nilChk (tm : List AV) (h : Heap) (x : Opd) : AR :=
    match ev tm x with
    | .ptr id off => some (.ptr id off, h)
    | .func f a b => some (.func f a b, h)
    | .yieldf l => some (.yieldf l, h)
    | .iface t v => some (.iface t v, h)
    | _ => none
def aop_eqAgg (tm : List AV) (h : Heap) (neg : Bool) (ks : List Nat) (x : Opd) (y : Opd) : AR :=
    match ev tm x, ev tm y with
    | .agg a, .agg b => if (kindsOk ks a && kindsOk ks b) = true then (plainEq a b).map fun r => (.bool (r != neg), h) else none
    | _, _ => none
def aop_convInt (tm : List AV) (h : Heap) (k : IntKind) (x : Opd) : AR :=
    match ev tm x with
    | .int _ n => some (.int k (k.wrap n), h)
    | _ => none
def aop_strToBytes (tm : List AV) (h : Heap) (x : Opd) : AR :=
    match ev tm x with
    | .str s => some (.slice h.next 0 s.length s.length false 1, h.alloc (.cells (s.map (AV.int .u8)) false))
    | _ => none
def aop_bytesToStr (tm : List AV) (h : Heap) (x : Opd) : AR :=
    match ev tm x with
    | .nilsl => some (.str [], h)
    | .slice id off len cap ex esz =>
      match firstA h 1 len (.slice id off len cap ex esz) with
      | some cs => (byteCells cs).map fun s => (.str s, h)
      | none => none
    | _ => none
def aop_convStr (tm : List AV) (h : Heap) (x : Opd) : AR :=
    match ev tm x with
    | .str s => some (.str s, h)
    | _ => none
def aop_mkSlice (tm : List AV) (h : Heap) (zero : List AV) (esz : Nat) (bytes : Nat) (l : Opd) (c : Opd) : AR :=
    match ev tm l, ev tm c with
    | .int .i64 l, .int .i64 c =>
      if 0 ≤ l ∧ l ≤ c ∧ bytes * c ≤ 140737488355328 ∧ c ≤ 140737488355328 then
        some (.slice h.next 0 l.toNat c.toNat true esz, h.alloc (.cells ((List.replicate c.toNat zero).flatten) false))
      else none
    | _, _ => none
def aop_slice (tm : List AV) (h : Heap) (esz : Nat) (x : Opd) (lo : Option Opd) (hi : Option Opd) (mx : Option Opd) : AR :=
  (sliceA esz (ev tm x) (lo.map (ev tm)) (hi.map (ev tm)) (mx.map (ev tm))).map fun v => (v, h)
def aop_sliceStr (tm : List AV) (h : Heap) (x : Opd) (lo : Option Opd) (hi : Option Opd) : AR :=
    match ev tm x with
    | .str s =>
      match boundsA s.length s.length (lo.map (ev tm)) (hi.map (ev tm)) none with
      | some (l, hh, _) => some (.str ((s.drop l).take (hh - l)), h)
      | none => none
    | _ => none
def aop_sliceArr (tm : List AV) (h : Heap) (n : Nat) (esz : Nat) (x : Opd) (lo : Option Opd) (hi : Option Opd) (mx : Option Opd) : AR :=
    match ev tm x with
    | .ptr id off =>
      match boundsA n n (lo.map (ev tm)) (hi.map (ev tm)) (mx.map (ev tm)), h.get id with
      | some (l, hh, m), some (.cells c _) => if off + n * esz ≤ c.length then some (.slice id (off + l * esz) (hh - l) (m - l) true esz, h) else none
      | _, _ => none
    | _ => none
def aop_fieldAddr (tm : List AV) (h : Heap) (off : Nat) (x : Opd) : AR :=
    match ev tm x with
    | .ptr id o => some (.ptr id (o + off), h)
    | _ => none
def aop_field (tm : List AV) (h : Heap) (aggr : Bool) (off : Nat) (n : Nat) (x : Opd) : AR :=
    match ev tm x with
    | .agg cs => if aggr then some (.agg ((cs.drop off).take n), h) else (cs[off]?).map fun v => (v, h)
    | _ => none
def aop_idxAddrSl (tm : List AV) (h : Heap) (esz : Nat) (x : Opd) (i : Opd) : AR :=
    match ev tm x, ev tm i with
    | .slice id off len _ _ esz', .int _ i => if esz = esz' ∧ 0 ≤ i ∧ i < len then some (.ptr id (off + i.toNat * esz), h) else none
    | _, _ => none
def aop_idxAddrArr (tm : List AV) (h : Heap) (len : Nat) (esz : Nat) (x : Opd) (i : Opd) : AR :=
    match ev tm x, ev tm i with
    | .ptr id off, .int _ i => if 0 ≤ i ∧ i < len then some (.ptr id (off + i.toNat * esz), h) else none
    | _, _ => none
def aop_idxArr (tm : List AV) (h : Heap) (aggr : Bool) (len : Nat) (esz : Nat) (x : Opd) (i : Opd) : AR :=
    match ev tm x, ev tm i with
    | .agg cs, .int _ i =>
      if 0 ≤ i ∧ i < len then
        (if aggr then some (.agg ((cs.drop (i.toNat * esz)).take esz), h) else (cs[i.toNat * esz]?).map fun v => (v, h))
      else none
    | _, _ => none
def aop_idxStr (tm : List AV) (h : Heap) (x : Opd) (i : Opd) : AR :=
    match ev tm x, ev tm i with
    | .str s, .int _ i => if 0 ≤ i then (s[i.toNat]?).map fun b => (.int .u8 b, h) else none
    | _, _ => none
def aop_extract (tm : List AV) (h : Heap) (x : Opd) (i : Nat) : AR :=
    match ev tm x with
    | .tuple vs => (vs[i]?).map fun v => (v, h)
    | _ => none
def aop_callV (call : Tgt → List AV → Heap → AR) (tm : List AV) (h : Heap) (x : Opd) (args : List Opd) : AR :=
    match ev tm x with
    | .func f first captured => call (.fn f) (first ++ evs tm args ++ captured) h
    | .yieldf l => call (.yield l) (evs tm args) h
    | _ => none
def aop_len (tm : List AV) (h : Heap) (ek : EqK) (x : Opd) : AR :=
    match ek, ev tm x with
    | .map, .nilmap => some (.int .i64 0, h)
    | .map, .map id =>
      match h.get id with
      | some (.map es) => some (.int .i64 es.length, h)
      | _ => none
    | .sl, .nilsl => some (.int .i64 0, h)
    | .sl, .slice _ _ len _ _ _ => some (.int .i64 len, h)
    | .str, .str s => some (.int .i64 s.length, h)
    | _, _ => none
def aop_cap (tm : List AV) (h : Heap) (x : Opd) : AR :=
    match ev tm x with
    | .nilsl => some (.int .i64 0, h)
    | .slice _ _ _ cap true _ => some (.int .i64 cap, h)
    | _ => none
def aop_lookup (tm : List AV) (h : Heap) (sk : Bool) (zero : AV) (ok : Bool) (m : Opd) (k : Opd) : AR :=
    let es : Option (List (AV × AV)) := match ev tm m with
      | .nilmap => some []
      | .map id => match h.get id with
        | some (.map es) => some es
        | _ => none
      | _ => none
    match es with
    | none => none
    | some es =>
      if isKey sk (ev tm k) then
        match findA (ev tm k) es with
        | none => none
        | some r =>
          let v := r.getD zero
          some (if ok then .tuple [v, .bool r.isSome] else v, h)
      else none
def aop_mapUpdate (tm : List AV) (h : Heap) (sk : Bool) (m : Opd) (k : Opd) (v : Opd) : AR :=
    match ev tm m with
    | .map id =>
      match h.get id with
      | some (.map es) =>
        if isKey sk (ev tm k) then
          match putA (ev tm k) (ev tm v) es with
          | some es' => some (undefA, h.set id (.map es'))
          | none => none
        else none
      | _ => none
    | _ => none
def aop_rangeStr (tm : List AV) (h : Heap) (x : Opd) : AR :=
    match ev tm x with
    | .str s => some (.ptr h.next 0, h.alloc (.striter s 0))
    | _ => none
def aop_nextStr (tm : List AV) (h : Heap) (it : Opd) : AR :=
    match ev tm it with
    | .ptr id 0 =>
      match h.get id with
      | some (.striter s pos) =>
        if pos < s.length then
          let d := Utf8.decode (toBA s) pos
          some (.tuple [.bool true, .int .i64 pos, .int .i32 d.1], h.set id (.striter s (pos + d.2)))
        else some (.tuple [.bool false], h)
      | _ => none
    | _ => none
def aopF (call : Tgt → List AV → Heap → AR) (tm : List AV) (h : Heap) : SOp → AR
  | .mov x => some (ev tm x, h)
  | .pick c a b => aop_pick tm h c a b
  | .box x => aop_box tm h x
  | .build base parts => (fillA base tm parts).map fun cs => (.agg cs, h)
  | .buildSlice base len esz parts => aop_buildSlice tm h base len esz parts
  | .load aggr n a => aop_load tm h aggr n a
  | .store n a x => aop_store tm h n a x
  | .nilChk x => aop_nilChk tm h x
  | .bin op ek x y => (binA op ek (ev tm x) (ev tm y)).map fun v => (v, h)
  | .eqAgg neg ks x y => aop_eqAgg tm h neg ks x y
  | .un op x => (unA op (ev tm x)).map fun v => (v, h)
  | .convInt k x => aop_convInt tm h k x
  | .strToBytes x => aop_strToBytes tm h x
  | .bytesToStr x => aop_bytesToStr tm h x
  | .convStr x => aop_convStr tm h x
  | .iface t x => some (.iface t (ev tm x), h)
  | .mkFunc f first captured => some (.func f (evs tm first) (evs tm captured), h)
  | .mkMap => some (.map h.next, h.alloc (.map []))
  | .mkSlice zero esz bytes l c => aop_mkSlice tm h zero esz bytes l c
  | .slice esz x lo hi mx => aop_slice tm h esz x lo hi mx
  | .sliceStr x lo hi => aop_sliceStr tm h x lo hi
  | .sliceArr n esz x lo hi mx => aop_sliceArr tm h n esz x lo hi mx
  | .fieldAddr off x => aop_fieldAddr tm h off x
  | .field aggr off n x => aop_field tm h aggr off n x
  | .idxAddrSl esz x i => aop_idxAddrSl tm h esz x i
  | .idxAddrArr len esz x i => aop_idxAddrArr tm h len esz x i
  | .idxArr aggr len esz x i => aop_idxArr tm h aggr len esz x i
  | .idxStr x i => aop_idxStr tm h x i
  | .extract x i => aop_extract tm h x i
  | .call f args => call (.fn f) (evs tm args) h
  | .callV x args => aop_callV call tm h x args
  | .invoke tbl x args => invA call h tbl (ev tm x) (evs tm args)
  | .assert t zero ok x => assertA t zero ok (ev tm x) h
  | .mkMeth m x => some (.meth m (ev tm x), h)
  | .nilChkM m tbl x => chkM m tbl (ev tm x) h
  | .append esz bytes x y => appendA h esz bytes (ev tm x) (ev tm y)
  | .appendZ zero esz bytes x n => appendZA h zero esz bytes (ev tm x) (ev tm n)
  | .trap => none
  | .copy esz x y => copyA h esz (ev tm x) (ev tm y)
  | .clear zero esz x => clearA h zero esz (ev tm x)
  | .len ek x => aop_len tm h ek x
  | .lenC n => some (.int .i64 n, h)
  | .cap x => aop_cap tm h x
  | .min x ys => (minA (ev tm x) (evs tm ys)).map fun v => (v, h)
  | .max x ys => (maxA (ev tm x) (evs tm ys)).map fun v => (v, h)
  | .lookup sk zero ok m k => aop_lookup tm h sk zero ok m k
  | .mapUpdate sk m k v => aop_mapUpdate tm h sk m k v
  | .rangeStr x => aop_rangeStr tm h x
  | .nextStr it => aop_nextStr tm h it
theorem aopF_eq (call : Tgt → List AV → Heap → AR) (tm : List AV) (h : Heap) (o : SOp) : aopF call tm h o = aop call tm h o := by cases o <;> rfl
def aopsF (call : Tgt → List AV → Heap → AR) : List SOper → List AV → Heap → Option (List AV × Heap)
  | [], tm, h => some (tm, h)
  | o :: rest, tm, h =>
    if wantedA tm o.guard then
      match aopF call tm h o.op with
      | some (v, h') => aopsF call rest (putT tm o.dst v) h'
      | none => none
    else aopsF call rest (putT tm o.dst undefA) h
theorem aopsF_eq (call : Tgt → List AV → Heap → AR) : ∀ (l : List SOper) (tm : List AV) (h : Heap), aopsF call l tm h = aops call l tm h
  | [], tm, h => rfl
  | o :: rest, tm, h => by
    unfold aopsF aops
    rw [aopF_eq]
    split
    · split <;> rename_i e <;> rw [e] <;> simp only [aopsF_eq call rest]
    · exact aopsF_eq call rest _ h
def code_ops (call : Tgt → List AV → Heap → AR) (l : List SOper) (tm : List AV) (h : Heap) : AOut :=
  match aopsF call l tm h with
  | some (tm', h') => some (.normal, tm', h')
  | none => none
def code_draw (call : Tgt → List AV → Heap → AR) (l : List SOper) (chk : List (Nat × Nat)) (tm : List AV) (h : Heap) : AOut :=
  match aopsLog call l tm h with
  | some (tm', h', lg) => if chkLog lg chk then some (.normal, tm', h') else none
  | none => none
def code_range (call : Tgt → List AV → Heap → AR) (self : FuncId) (rd : Option Nat) (f : Opd) (params : List Nat) (assign body : SC) (tm : List AV) (h : Heap) : AOut :=
  match ev tm f, rdOk h rd with
  | .func g first captured, true =>
    match call (.fn g) (first ++ [.yieldf h.next] ++ captured) (h.alloc (.loop self tm params assign body .ready .normal)) with
    | some (_, h') =>
      match h'.get h.next with
      | some (.loop self' tm' ps' as' bd' st pend) =>
        if st = .busy then none else some (pend, tm, h'.set h.next (.loop self' tm' ps' as' bd' .exhausted pend))
      | _ => none
    | none => none
  | _, _ => none
def code_block (id : Nat) : AOut → AOut
  | some (.exit id', tm', h') => some (if id' = id then .normal else .exit id', tm', h')
  | r => r
def code_then (r : AOut) (k : List AV → Heap → AOut) : AOut :=
  match r with
  | some (.normal, tm', h') => k tm' h'
  | r => r
def code_cond (v : AV) (a b : AOut) : AOut :=
  match v with
  | .bool true => a
  | .bool false => b
  | _ => none
def acodeStep (call : Tgt → List AV → Heap → AR) (self : FuncId) (rd : Option Nat) (ih : SC → List AV → Heap → AOut) (c : SC) (tm : List AV) (h : Heap) : AOut :=
  match c with
  | .skip => some (.normal, tm, h)
  | .ops l => code_ops call l tm h
  | .drawOps l chk => code_draw call l chk tm h
  | .seq a b => code_then (ih a tm h) (ih b)
  | .cond c a b => code_cond (ev tm c) (ih a tm h) (ih b tm h)
  | .block id b => code_block id (ih b tm h)
  | .loop b => code_then (ih b tm h) (ih (.loop b))
  | .exit id => some (.exit id, tm, h)
  | .ret => some (.ret, tm, h)
  | .rangeFunc f params assign body => code_range call self rd f params assign body tm h
def acodeF (call : Tgt → List AV → Heap → AR) (self : FuncId) (rd : Option Nat) (n : Nat) : SC → List AV → Heap → AOut :=
  Nat.rec (fun _ _ _ => none) (fun _ ih c tm h => acodeStep call self rd ih c tm h) n
theorem acodeF_eq (call : Tgt → List AV → Heap → AR) (self : FuncId) (rd : Option Nat) : ∀ n c tm h, acodeF call self rd n c tm h = acode call self rd n c tm h
  | 0, c, tm, h => rfl
  | n + 1, c, tm, h => by
    show acodeStep call self rd (acodeF call self rd n) c tm h = _
    have ih := acodeF_eq call self rd n
    cases c with
    | skip => rfl
    | exit id => rfl
    | ret => rfl
    | ops l =>
      simp only [acodeStep, code_ops, acode, aopsF_eq]
      cases aops call l tm h <;> rfl
    | drawOps l chk => rfl
    | rangeFunc => rfl
    | seq a b =>
      simp only [acodeStep, code_then, acode, ih]
      rcases acode call self rd n a tm h with _ | ⟨_ | _ | _, _, _⟩ <;> first | rfl | simp only [ih]
    | loop b =>
      simp only [acodeStep, code_then, acode, ih]
      rcases acode call self rd n b tm h with _ | ⟨_ | _ | _, _, _⟩ <;> first | rfl | simp only [ih]
    | cond c a b =>
      simp only [acodeStep, code_cond, acode, ih]
      rcases ev tm c with _ | _ <;> first | rfl | (rename_i q; cases q <;> rfl)
    | block id b =>
      simp only [acodeStep, code_block, acode, ih]
      rcases acode call self rd n b tm h with _ | ⟨_ | _ | _, _, _⟩ <;> rfl
def retA (fn : SFunc) : AOut → AR
  | some (.normal, tm, h') | some (.ret, tm, h') => (resA tm h' fn.results).map fun vs => (tupA vs, h')
  | _ => none
def fnF (fn : SFunc) (code : SC → List AV → Heap → AOut) (args : List AV) (h : Heap) : AR :=
  retA fn (code fn.body (args ++ List.replicate (fn.ntmps - args.length) undefA) h)
def yieldF (code : FuncId → SC → List AV → Heap → AOut) (l : Nat) (args : List AV) (h : Heap) : AR :=
  match h.get l with
  | some (.loop f tmps params assign body .ready _) =>
    match zipSet tmps params args with
    | none => none
    | some tm =>
      match code f assign tm h with
      | some (.normal, tm₁, h₁) =>
        match h₁.get l with
        | some (.loop f' t' p' a' b' .ready pe') =>
          match code f body tm₁ (h₁.set l (.loop f' t' p' a' b' .busy pe')) with
          | some (e, _, h₂) =>
            match h₂.get l with
            | some (.loop f'' t'' p'' a'' b'' _ _) =>
              if e = .normal then some (.bool true, h₂.set l (.loop f'' t'' p'' a'' b'' .ready .normal))
              else some (.bool false, h₂.set l (.loop f'' t'' p'' a'' b'' .done e))
            | _ => none
          | none => none
        | _ => none
      | _ => none
  | _ => none
def acallStep (X : Known) (SP : FuncId → Option SFunc) (n : Nat) (ih : Tgt → List AV → Heap → AR) (t : Tgt) (args : List AV) (h : Heap) : AR :=
  match t with
  | .fn f =>
    match X f args h with
    | some r => some r
    | none =>
    match SP f with
    | none => none
    | some fn => fnF fn (acodeF ih f none n) args h
  | .yield l => yieldF (fun f => acodeF ih f (some l) n) l args h
def acallF (X : Known) (SP : FuncId → Option SFunc) (n : Nat) : Tgt → List AV → Heap → AR :=
  Nat.rec (fun _ _ _ => none) (fun n ih t args h => acallStep X SP n ih t args h) n
theorem acallF_eq (X : Known) (SP : FuncId → Option SFunc) : ∀ n, acallF X SP n = acall X SP n
  | 0 => by funext t args h; rfl
  | n + 1 => by
    have ih := acallF_eq X SP n
    funext t args h
    show acallStep X SP n (acallF X SP n) t args h = _
    rw [ih]
    cases t with
    | fn f =>
      simp only [acallStep, acall, fnF, retA, acodeF_eq]
      cases X f args h with
      | some r => rfl
      | none => 
        cases SP f with
        | none => rfl
        | some fn => 
          simp only
          rcases acode (acall X SP n) f none n fn.body (args ++ List.replicate (fn.ntmps - args.length) undefA) h with _ | ⟨_ | _ | _, _, _⟩ <;> rfl
    | yield l =>
      simp only [acallStep, acall, yieldF, acodeF_eq]
      repeat' (first | rfl | split)
end Go.Ya
namespace Go.Ya
set_option linter.unusedVariables false
set_option linter.unusedSimpArgs false
def Sub (c c' : Tgt → List AV → Heap → AR) : Prop := ∀ t args h r, c t args h = some r → c' t args h = some r
theorem Sub.refl (c : Tgt → List AV → Heap → AR) : Sub c c := fun _ _ _ _ e => e
section
variable {c c' : Tgt → List AV → Heap → AR}
theorem aop_mono (hs : Sub c c') {tm : List AV} {h : Heap} {o : SOp} {r : AV × Heap} (e : aop c tm h o = some r) : aop c' tm h o = some r := by
  cases o with
  | call f args => exact hs _ _ _ _ e
  | callV x args =>
    simp only [aop] at e ⊢
    split at e
    · exact hs _ _ _ _ e
    · exact hs _ _ _ _ e
    · cases e
  | invoke tbl x args =>
    simp only [aop, invA] at e ⊢
    split at e
    · split at e
      · exact hs _ _ _ _ e
      · split at e
        · split at e
          · exact hs _ _ _ _ e
          · cases e
        · cases e
      · cases e
    · cases e
  | _ => exact e
theorem aops_mono (hs : Sub c c') : ∀ {l : List SOper} {tm : List AV} {h : Heap} {r : List AV × Heap}, aops c l tm h = some r → aops c' l tm h = some r
  | [], tm, h, r, e => e
  | o :: l, tm, h, r, e => by
    unfold aops at e ⊢
    split
    · rename_i hw
      rw [if_pos hw] at e
      cases ho : aop c tm h o.op with
      | none => rw [ho] at e; cases e
      | some p =>
        rw [ho] at e
        rw [aop_mono hs ho]
        exact aops_mono hs e
    · rename_i hw
      rw [if_neg hw] at e
      exact aops_mono hs e
theorem aopsLog_mono (hs : Sub c c') : ∀ {l : List SOper} {tm : List AV} {h : Heap} {r : List AV × Heap × List (Option Nat × Heap × Heap)}, aopsLog c l tm h = some r → aopsLog c' l tm h = some r
  | [], tm, h, r, e => e
  | o :: l, tm, h, r, e => by
    unfold aopsLog at e ⊢
    split
    · rename_i hw
      rw [if_pos hw] at e
      cases ho : aop c tm h o.op with
      | none => rw [ho] at e; cases e
      | some p =>
        rw [ho] at e
        rw [aop_mono hs ho]
        simp only at e ⊢
        cases hl : aopsLog c l (putT tm o.dst p.1) p.2 with
        | none => rw [hl] at e; cases e
        | some q => rw [aopsLog_mono hs hl]; rw [hl] at e; exact e
    · rename_i hw
      rw [if_neg hw] at e
      cases hl : aopsLog c l (putT tm o.dst undefA) h with
      | none => rw [hl] at e; cases e
      | some q => rw [aopsLog_mono hs hl]; rw [hl] at e; exact e
theorem acode_succ (call : Tgt → List AV → Heap → AR) (self : FuncId) (rd : Option Nat) (n : Nat) (cd : SC) (tm : List AV) (h : Heap) :
    acode call self rd (n + 1) cd tm h = acodeStep call self rd (acode call self rd n) cd tm h := by
  have e : acodeF call self rd n = acode call self rd n := by funext cd tm h; exact acodeF_eq call self rd n cd tm h
  rw [← acodeF_eq]
  show acodeStep call self rd (acodeF call self rd n) cd tm h = _
  rw [e]
def SubC (k k' : SC → List AV → Heap → AOut) : Prop := ∀ cd tm h r, k cd tm h = some r → k' cd tm h = some r
theorem acodeStep_mono (hs : Sub c c') {k k' : SC → List AV → Heap → AOut} (hk : SubC k k') {self : FuncId} {rd : Option Nat} {cd : SC} {tm : List AV} {h : Heap} {r : AExit × List AV × Heap}
    (e : acodeStep c self rd k cd tm h = some r) : acodeStep c' self rd k' cd tm h = some r := by
  cases cd with
  | skip => exact e
  | exit id => exact e
  | ret => exact e
  | ops l =>
    simp only [acodeStep, code_ops, aopsF_eq] at e ⊢
    cases hl : aops c l tm h with
    | none => rw [hl] at e; cases e
    | some q => rw [aops_mono hs hl]; rw [hl] at e; exact e
  | drawOps l chk =>
    simp only [acodeStep, code_draw] at e ⊢
    cases hl : aopsLog c l tm h with
    | none => rw [hl] at e; cases e
    | some q => rw [aopsLog_mono hs hl]; rw [hl] at e; exact e
  | seq a b =>
    simp only [acodeStep] at e ⊢
    cases ha : k a tm h with
    | none => rw [ha] at e; cases e
    | some q =>
      rw [ha] at e; rw [hk _ _ _ _ ha]
      obtain ⟨x, tm', h'⟩ := q
      cases x <;> simp only [code_then] at e ⊢ <;> first | exact e | exact hk _ _ _ _ e
  | loop b =>
    simp only [acodeStep] at e ⊢
    cases ha : k b tm h with
    | none => rw [ha] at e; cases e
    | some q =>
      rw [ha] at e; rw [hk _ _ _ _ ha]
      obtain ⟨x, tm', h'⟩ := q
      cases x <;> simp only [code_then] at e ⊢ <;> first | exact e | exact hk _ _ _ _ e
  | cond x a b =>
    simp only [acodeStep, code_cond] at e ⊢
    split at e
    · exact hk _ _ _ _ e
    · exact hk _ _ _ _ e
    · cases e
  | block id b =>
    simp only [acodeStep] at e ⊢
    cases ha : k b tm h with
    | none => rw [ha] at e; cases e
    | some q => rw [ha] at e; rw [hk _ _ _ _ ha]; exact e
  | rangeFunc f ps asg body =>
    simp only [acodeStep, code_range] at e ⊢
    split
    · rename_i g first captured hf hrd
      rw [hf, hrd] at e
      simp only at e
      cases hc : c (.fn g) (first ++ [.yieldf h.next] ++ captured) (h.alloc (.loop self tm ps asg body .ready .normal)) with
      | none => rw [hc] at e; cases e
      | some q => rw [hs _ _ _ _ hc]; rw [hc] at e; exact e
    · rename_i hne
      split at e
      · rename_i g first captured hf hrd
        exact absurd hrd (hne g first captured hf)
      · cases e
theorem acode_mono (hs : Sub c c') (self : FuncId) (rd : Option Nat) : ∀ n m, n ≤ m → SubC (acode c self rd n) (acode c' self rd m)
  | 0, _, _, _, _, _, _, e => by simp [acode] at e
  | n + 1, 0, h, _, _, _, _, _ => by omega
  | n + 1, m + 1, h, cd, tm, hp, r, e => by
    rw [acode_succ] at e ⊢
    exact acodeStep_mono hs (acode_mono hs self rd n m (by omega)) e
end
section
variable {X : Known} {SP : FuncId → Option SFunc}
theorem acall_succ (n : Nat) (t : Tgt) (args : List AV) (h : Heap) : acall X SP (n + 1) t args h = acallStep X SP n (acall X SP n) t args h := by
  rw [← acallF_eq, ← acallF_eq]; rfl
theorem yieldF_mono {k k' : FuncId → SC → List AV → Heap → AOut} (hk : ∀ f, SubC (k f) (k' f)) {l : Nat} {args : List AV} {h : Heap} {r : AV × Heap} (e : yieldF k l args h = some r) : yieldF k' l args h = some r := by
  unfold yieldF at e
  split at e
  case h_2 => cases e
  rename_i f tmps params asg body p hg
  split at e
  case h_1 => cases e
  rename_i tm hz
  split at e
  case h_2 => cases e
  rename_i tm₁ h₁ hc
  split at e
  case h_2 => cases e
  rename_i f' t' p' a' b' pe' hg1
  split at e
  case h_2 => cases e
  rename_i x tm₂ h₂ hb
  unfold yieldF
  rw [hg]
  simp only [hz]
  rw [hk _ _ _ _ _ hc]
  simp only [hg1]
  rw [hk _ _ _ _ _ hb]
  exact e
theorem acall_mono : ∀ n m, n ≤ m → Sub (acall X SP n) (acall X SP m)
  | 0, _, _, _, _, _, _, e => by simp [acall] at e
  | n + 1, 0, h, _, _, _, _, _ => by omega
  | n + 1, m + 1, hnm, t, args, h, r, e => by
    have ih := acall_mono n m (by omega)
    rw [acall_succ] at e ⊢
    cases t with
    | fn f =>
      simp only [acallStep] at e ⊢
      cases hx : X f args h with
      | some q => rw [hx] at e; exact e
      | none =>
        rw [hx] at e
        simp only at e ⊢
        cases hf : SP f with
        | none => rw [hf] at e; cases e
        | some fn =>
          rw [hf] at e
          simp only [fnF, acodeF_eq] at e ⊢
          cases hc : acode (acall X SP n) f none n fn.body (args ++ List.replicate (fn.ntmps - args.length) undefA) h with
          | none => rw [hc] at e; cases e
          | some q => rw [acode_mono ih f none n m (by omega) _ _ _ _ hc]; rw [hc] at e; exact e
    | yield l =>
      simp only [acallStep] at e ⊢
      refine yieldF_mono (fun f => ?_) e
      intro cd tm h r e
      rw [acodeF_eq] at e ⊢
      exact acode_mono ih f (some l) n m (by omega) _ _ _ _ e
noncomputable def lim {α : Type} (g : Nat → Option α) : Option α := open Classical in if h : ∃ n, (g n).isSome = true then g h.choose else none
theorem lim_iff {α : Type} {g : Nat → Option α} (hm : ∀ n m, n ≤ m → ∀ r, g n = some r → g m = some r) (r : α) : lim g = some r ↔ ∃ n, g n = some r := by
  unfold lim
  split
  · rename_i h
    refine ⟨fun e => ⟨_, e⟩, fun ⟨n, e⟩ => ?_⟩
    obtain ⟨q, hq⟩ := Option.isSome_iff_exists.1 h.choose_spec
    have h1 := hm _ (max h.choose n) (by omega) _ hq
    have h2 := hm _ (max h.choose n) (by omega) _ e
    rw [hq, ← h1, h2]
  · rename_i h
    exact ⟨fun e => (by cases e), fun ⟨n, e⟩ => absurd ⟨n, by rw [e]; rfl⟩ h⟩
noncomputable def xcall (X : Known) (SP : FuncId → Option SFunc) : Tgt → List AV → Heap → AR := fun t args h => lim fun n => acall X SP n t args h
noncomputable def xcode (X : Known) (SP : FuncId → Option SFunc) (self : FuncId) (rd : Option Nat) : SC → List AV → Heap → AOut := fun cd tm h => lim fun n => acode (acall X SP n) self rd n cd tm h
theorem xcall_iff {t : Tgt} {args : List AV} {h : Heap} {r : AV × Heap} : xcall X SP t args h = some r ↔ ∃ n, acall X SP n t args h = some r :=
  lim_iff (fun n m hnm r e => acall_mono n m hnm _ _ _ _ e) r
theorem xcode_iff {self : FuncId} {rd : Option Nat} {cd : SC} {tm : List AV} {h : Heap} {r : AExit × List AV × Heap} : xcode X SP self rd cd tm h = some r ↔ ∃ n, acode (acall X SP n) self rd n cd tm h = some r :=
  lim_iff (fun n m hnm r e => acode_mono (acall_mono n m hnm) self rd n m hnm _ _ _ _ e) r
theorem sub_x (n : Nat) : Sub (acall X SP n) (xcall X SP) := fun _ _ _ _ e => xcall_iff.2 ⟨n, e⟩
theorem subC_x (self : FuncId) (rd : Option Nat) (n m : Nat) : SubC (acode (acall X SP n) self rd m) (xcode X SP self rd) := fun _ _ _ _ e =>
  xcode_iff.2 ⟨max n m, acode_mono (acall_mono n (max n m) (by omega)) self rd m (max n m) (by omega) _ _ _ _ e⟩
theorem aop_x {tm : List AV} {h : Heap} {o : SOp} {r : AV × Heap} (e : aop (xcall X SP) tm h o = some r) : ∃ n, aop (acall X SP n) tm h o = some r := by
  cases o with
  | call f args => exact xcall_iff.1 e
  | callV x args =>
    simp only [aop] at e ⊢
    split at e
    · exact xcall_iff.1 e
    · exact xcall_iff.1 e
    · cases e
  | invoke tbl x args =>
    simp only [aop, invA] at e ⊢
    split at e
    · split at e
      · exact xcall_iff.1 e
      · split at e
        · split at e
          · exact xcall_iff.1 e
          · cases e
        · cases e
      · cases e
    · cases e
  | _ => exact ⟨0, e⟩
theorem aops_x : ∀ {l : List SOper} {tm : List AV} {h : Heap} {r : List AV × Heap}, aops (xcall X SP) l tm h = some r → ∃ n, aops (acall X SP n) l tm h = some r
  | [], tm, h, r, e => ⟨0, e⟩
  | o :: l, tm, h, r, e => by
    unfold aops at e
    split at e
    · rename_i hw
      split at e
      · rename_i v h' ho
        obtain ⟨n, hn⟩ := aop_x ho
        obtain ⟨m, hm⟩ := aops_x e
        refine ⟨max n m, ?_⟩
        unfold aops
        rw [if_pos hw, aop_mono (acall_mono n (max n m) (by omega)) hn]
        exact aops_mono (acall_mono m (max n m) (by omega)) hm
      · cases e
    · rename_i hw
      obtain ⟨m, hm⟩ := aops_x e
      refine ⟨m, ?_⟩
      unfold aops
      rw [if_neg hw]
      exact hm
theorem aopsLog_x : ∀ {l : List SOper} {tm : List AV} {h : Heap} {r : List AV × Heap × List (Option Nat × Heap × Heap)}, aopsLog (xcall X SP) l tm h = some r → ∃ n, aopsLog (acall X SP n) l tm h = some r
  | [], tm, h, r, e => ⟨0, e⟩
  | o :: l, tm, h, r, e => by
    unfold aopsLog at e
    split at e
    · rename_i hw
      split at e
      · rename_i v h' ho
        obtain ⟨n, hn⟩ := aop_x ho
        split at e
        · rename_i a b lg hl
          obtain ⟨m, hm⟩ := aopsLog_x hl
          refine ⟨max n m, ?_⟩
          unfold aopsLog
          rw [if_pos hw, aop_mono (acall_mono n (max n m) (by omega)) hn]
          simp only
          rw [aopsLog_mono (acall_mono m (max n m) (by omega)) hm]
          exact e
        · cases e
      · cases e
    · rename_i hw
      split at e
      · rename_i a b lg hl
        obtain ⟨m, hm⟩ := aopsLog_x hl
        refine ⟨m, ?_⟩
        unfold aopsLog
        rw [if_neg hw, hm]
        exact e
      · cases e
theorem xcode_step (self : FuncId) (rd : Option Nat) (cd : SC) (tm : List AV) (h : Heap) : xcode X SP self rd cd tm h = acodeStep (xcall X SP) self rd (xcode X SP self rd) cd tm h := by
  apply Option.ext
  intro r
  constructor
  · intro e
    obtain ⟨n, hn⟩ := xcode_iff.1 e
    cases n with
    | zero => simp [acode] at hn
    | succ n =>
      rw [acode_succ] at hn
      exact acodeStep_mono (sub_x (n + 1)) (subC_x self rd (n + 1) n) hn
  · intro e
    have key : ∃ n m, acodeStep (acall X SP n) self rd (acode (acall X SP n) self rd m) cd tm h = some r := by
      cases cd with
      | skip => exact ⟨0, 0, e⟩
      | exit id => exact ⟨0, 0, e⟩
      | ret => exact ⟨0, 0, e⟩
      | ops l =>
        simp only [acodeStep, code_ops, aopsF_eq] at e ⊢
        split at e
        · rename_i a b hl
          obtain ⟨n, hn⟩ := aops_x hl
          exact ⟨n, 0, by rw [hn]; exact e⟩
        · cases e
      | drawOps l chk =>
        simp only [acodeStep, code_draw] at e ⊢
        split at e
        · rename_i a b lg hl
          obtain ⟨n, hn⟩ := aopsLog_x hl
          exact ⟨n, 0, by rw [hn]; exact e⟩
        · cases e
      | seq a b =>
        simp only [acodeStep] at e ⊢
        cases ha : xcode X SP self rd a tm h with
        | none => rw [ha] at e; cases e
        | some q =>
          rw [ha] at e
          obtain ⟨n, hn⟩ := xcode_iff.1 ha
          obtain ⟨x, tm', h'⟩ := q
          cases x with
          | normal =>
            obtain ⟨m, hm⟩ := xcode_iff.1 (show xcode X SP self rd b tm' h' = some r from e)
            refine ⟨max n m, max n m, ?_⟩
            rw [acode_mono (acall_mono n (max n m) (by omega)) self rd n (max n m) (by omega) _ _ _ _ hn]
            exact acode_mono (acall_mono m (max n m) (by omega)) self rd m (max n m) (by omega) _ _ _ _ hm
          | exit id => exact ⟨n, n, by rw [hn]; exact e⟩
          | ret => exact ⟨n, n, by rw [hn]; exact e⟩
      | loop b =>
        simp only [acodeStep] at e ⊢
        cases ha : xcode X SP self rd b tm h with
        | none => rw [ha] at e; cases e
        | some q =>
          rw [ha] at e
          obtain ⟨n, hn⟩ := xcode_iff.1 ha
          obtain ⟨x, tm', h'⟩ := q
          cases x with
          | normal =>
            obtain ⟨m, hm⟩ := xcode_iff.1 (show xcode X SP self rd (.loop b) tm' h' = some r from e)
            refine ⟨max n m, max n m, ?_⟩
            rw [acode_mono (acall_mono n (max n m) (by omega)) self rd n (max n m) (by omega) _ _ _ _ hn]
            exact acode_mono (acall_mono m (max n m) (by omega)) self rd m (max n m) (by omega) _ _ _ _ hm
          | exit id => exact ⟨n, n, by rw [hn]; exact e⟩
          | ret => exact ⟨n, n, by rw [hn]; exact e⟩
      | cond x a b =>
        simp only [acodeStep, code_cond] at e ⊢
        split at e
        · obtain ⟨n, hn⟩ := xcode_iff.1 e; exact ⟨n, n, by simpa using hn⟩
        · obtain ⟨n, hn⟩ := xcode_iff.1 e; exact ⟨n, n, by simpa using hn⟩
        · cases e
      | block id b =>
        simp only [acodeStep] at e ⊢
        cases ha : xcode X SP self rd b tm h with
        | none => rw [ha] at e; cases e
        | some q =>
          rw [ha] at e
          obtain ⟨n, hn⟩ := xcode_iff.1 ha
          exact ⟨n, n, by rw [hn]; exact e⟩
      | rangeFunc f ps asg body =>
        simp only [acodeStep, code_range] at e ⊢
        split at e
        · rename_i g first captured hf hrd
          cases hc : xcall X SP (.fn g) (first ++ [.yieldf h.next] ++ captured) (h.alloc (.loop self tm ps asg body .ready .normal)) with
          | none => rw [hc] at e; cases e
          | some q =>
            rw [hc] at e
            obtain ⟨n, hn⟩ := xcall_iff.1 hc
            exact ⟨n, 0, by rw [hn]; exact e⟩
        · cases e
    obtain ⟨n, m, hk⟩ := key
    refine xcode_iff.2 ⟨max n m + 1, ?_⟩
    rw [acode_succ]
    exact acodeStep_mono (acall_mono n _ (by omega)) (acode_mono (acall_mono n _ (by omega)) self rd m _ (by omega)) hk
theorem xcall_fn (f : FuncId) (args : List AV) (h : Heap) : xcall X SP (.fn f) args h = (match X f args h with
    | some r => some r
    | none => match SP f with
      | none => none
      | some fn => retA fn (xcode X SP f none fn.body (args ++ List.replicate (fn.ntmps - args.length) undefA) h)) := by
  apply Option.ext
  intro r
  constructor
  · intro e
    obtain ⟨n, hn⟩ := xcall_iff.1 e
    cases n with
    | zero => simp [acall] at hn
    | succ n =>
      rw [acall_succ] at hn
      simp only [acallStep] at hn
      cases hx : X f args h with
      | some q => rw [hx] at hn; exact hn
      | none =>
        rw [hx] at hn
        simp only at hn ⊢
        cases hf : SP f with
        | none => rw [hf] at hn; cases hn
        | some fn =>
          rw [hf] at hn
          simp only [fnF, acodeF_eq] at hn ⊢
          cases hc : acode (acall X SP n) f none n fn.body (args ++ List.replicate (fn.ntmps - args.length) undefA) h with
          | none => rw [hc] at hn; cases hn
          | some q => rw [subC_x f none n n _ _ _ _ hc]; rw [hc] at hn; exact hn
  · intro e
    cases hx : X f args h with
    | some q => rw [hx] at e; exact xcall_iff.2 ⟨1, by rw [acall_succ]; simp only [acallStep, hx]; exact e⟩
    | none =>
      rw [hx] at e
      simp only at e
      cases hf : SP f with
      | none => rw [hf] at e; cases e
      | some fn =>
        rw [hf] at e
        simp only at e
        cases hc : xcode X SP f none fn.body (args ++ List.replicate (fn.ntmps - args.length) undefA) h with
        | none => rw [hc] at e; cases e
        | some q =>
          obtain ⟨n, hn⟩ := xcode_iff.1 hc
          refine xcall_iff.2 ⟨n + 1, ?_⟩
          rw [acall_succ]
          simp only [acallStep, hx, hf, fnF, acodeF_eq, hn]
          rw [hc] at e
          exact e
theorem xcall_yield (l : Nat) (args : List AV) (h : Heap) : xcall X SP (.yield l) args h = yieldF (fun f => xcode X SP f (some l)) l args h := by
  apply Option.ext
  intro r
  constructor
  · intro e
    obtain ⟨n, hn⟩ := xcall_iff.1 e
    cases n with
    | zero => simp [acall] at hn
    | succ n =>
      rw [acall_succ] at hn
      simp only [acallStep] at hn
      refine yieldF_mono (fun f => ?_) hn
      intro cd tm h r e
      rw [acodeF_eq] at e
      exact subC_x f (some l) n n _ _ _ _ e
  · intro e
    have key : ∃ n, yieldF (fun f => acode (acall X SP n) f (some l) n) l args h = some r := by
      unfold yieldF at e
      split at e
      case h_2 => cases e
      rename_i f tmps params asg body p hg
      split at e
      case h_1 => cases e
      rename_i tm hz
      split at e
      case h_2 => cases e
      rename_i tm₁ h₁ hc
      obtain ⟨n, hn⟩ := xcode_iff.1 hc
      split at e
      case h_2 => cases e
      rename_i f' t' p' a' b' pe' hg1
      split at e
      case h_2 => cases e
      rename_i x tm₂ h₂ hb
      obtain ⟨m, hm⟩ := xcode_iff.1 hb
      refine ⟨max n m, ?_⟩
      unfold yieldF
      rw [hg]
      simp only [hz]
      rw [acode_mono (acall_mono n (max n m) (by omega)) f (some l) n (max n m) (by omega) _ _ _ _ hn]
      simp only [hg1]
      rw [acode_mono (acall_mono m (max n m) (by omega)) f (some l) m (max n m) (by omega) _ _ _ _ hm]
      exact e
    obtain ⟨n, hn⟩ := key
    refine xcall_iff.2 ⟨n + 1, ?_⟩
    rw [acall_succ]
    simp only [acallStep]
    refine yieldF_mono (fun f => ?_) hn
    intro cd tm h r e
    rw [acodeF_eq]
    exact e
end
end Go.Ya
namespace Go.Ya
set_option linter.unusedVariables false
set_option linter.unusedSimpArgs false
def aopsR (c : Tgt → List AV → Heap → AR) (l : List SOper) (d : Option Nat) (tm : List AV) : AR → Option (List AV × Heap)
  | some (v, h') => aops c l (putT tm d v) h'
  | none => none
def aopsG (c : Tgt → List AV → Heap → AR) (o : SOper) (l : List SOper) (tm : List AV) (h : Heap) : Bool → Option (List AV × Heap)
  | true => aopsR c l o.dst tm (aop c tm h o.op)
  | false => aops c l (putT tm o.dst undefA) h
def opsR : Option (List AV × Heap) → AOut
  | some (tm, h) => some (.normal, tm, h)
  | none => none
def retR (rs : List SRes) : AOut → AR
  | some (.normal, tm, h) | some (.ret, tm, h) => (resA tm h rs).map fun vs => (tupA vs, h)
  | _ => none
section
variable {c : Tgt → List AV → Heap → AR} {l : List SOper} {tm : List AV} {h h' : Heap} {d : Option Nat} {o : SOper} {op : SOp} {v : AV}
theorem s_op : aops c (⟨d, op, none⟩ :: l) tm h = aopsR c l d tm (aop c tm h op) := by
  unfold aops aopsR; rfl
theorem s_guard {g : Nat × Bool} : aops c (⟨d, op, some g⟩ :: l) tm h = aopsG c ⟨d, op, none⟩ l tm h (wantedA tm (some g)) := by
  unfold aopsG aopsR
  rw [aops]
  cases wantedA tm (some g) <;> rfl
theorem s_put {n : Nat} : putT tm (some n) v = tm.set n v := rfl
theorem s_put0 : putT tm none v = tm := rfl
end
section
variable {X : Known} {SP : FuncId → Option SFunc} {self : FuncId} {rd : Option Nat} {tm : List AV} {h : Heap} {a b : SC}
noncomputable def condX (X : Known) (SP : FuncId → Option SFunc) (self : FuncId) (rd : Option Nat) (a b : SC) (tm : List AV) (h : Heap) : AV → AOut
  | .bool true => xcode X SP self rd a tm h
  | .bool false => xcode X SP self rd b tm h
  | _ => none
noncomputable def thenX (X : Known) (SP : FuncId → Option SFunc) (self : FuncId) (rd : Option Nat) (b : SC) : AOut → AOut
  | some (.normal, tm', h') => xcode X SP self rd b tm' h'
  | r => r
theorem x_skip : xcode X SP self rd .skip tm h = some (.normal, tm, h) := xcode_step ..
theorem x_exit {id : Nat} : xcode X SP self rd (.exit id) tm h = some (.exit id, tm, h) := xcode_step ..
theorem x_ret : xcode X SP self rd .ret tm h = some (.ret, tm, h) := xcode_step ..
theorem x_ops {l : List SOper} : xcode X SP self rd (.ops l) tm h = opsR (aops (xcall X SP) l tm h) := by
  rw [xcode_step]
  simp only [acodeStep, code_ops, aopsF_eq]
  cases aops (xcall X SP) l tm h <;> rfl
theorem x_draw {l : List SOper} {chk : List (Nat × Nat)} : xcode X SP self rd (.drawOps l chk) tm h = code_draw (xcall X SP) l chk tm h := xcode_step ..
theorem x_seq : xcode X SP self rd (.seq a b) tm h = thenX X SP self rd b (xcode X SP self rd a tm h) := by
  rw [xcode_step]
  simp only [acodeStep, code_then]
  rcases xcode X SP self rd a tm h with _ | ⟨_ | _ | _, _, _⟩ <;> rfl
theorem x_cond {q : Opd} : xcode X SP self rd (.cond q a b) tm h = condX X SP self rd a b tm h (ev tm q) := by
  rw [xcode_step]
  simp only [acodeStep, code_cond, condX]
  all_goals (cases ev tm q <;> first | rfl | (rename_i z; cases z <;> rfl))
theorem x_block {id : Nat} : xcode X SP self rd (.block id b) tm h = code_block id (xcode X SP self rd b tm h) := xcode_step ..
theorem x_loop : xcode X SP self rd (.loop b) tm h = thenX X SP self rd (.loop b) (xcode X SP self rd b tm h) := by
  rw [xcode_step]
  simp only [acodeStep, code_then]
  rcases xcode X SP self rd b tm h with _ | ⟨_ | _ | _, _, _⟩ <;> rfl
theorem x_fn {f : FuncId} {args : List AV} {n : Nat} {rs : List SRes} {body : SC} (hx : X f args h = none) (hf : SP f = some ⟨n, rs, body⟩) :
    xcall X SP (.fn f) args h = retR rs (xcode X SP f none body (args ++ List.replicate (n - args.length) undefA) h) := by
  rw [xcall_fn, hx]
  simp only [hf]
  rcases xcode X SP f none body (args ++ List.replicate (n - args.length) undefA) h with _ | ⟨_ | _ | _, _, _⟩ <;> rfl
theorem ranX {f : FuncId} {xs : List AV} {h h' : Heap} (hr : xcall X SP (.fn f) xs h = some (.bool true, h')) :
    ∃ n h', acall X SP n (.fn f) xs h = some (.bool true, h') ∨ (AV.bares xs = true ∧ acall X SP n (.fn f) xs emptyHeap = some (.bool true, h')) :=
  let ⟨n, e⟩ := xcall_iff.1 hr
  ⟨n, h', .inl e⟩
theorem ofRun {t : Tgt} {xs : List AV} {n : Nat} {r : AV × Heap} (hr : acall X SP n t xs h = some r) : xcall X SP t xs h = some r := xcall_iff.2 ⟨n, hr⟩
end
theorem f_bool (b : Bool) : AV.flat (.bool b) = true := rfl
theorem c_bool (b : Bool) : AV.cells (.bool b) = [.bool b] := rfl
theorem f_int (k : IntKind) (n : Int) : AV.flat (.int k n) = true := rfl
theorem c_int (k : IntKind) (n : Int) : AV.cells (.int k n) = [.int k n] := rfl
theorem f_str (l : List Int) : AV.flat (.str l) = true := rfl
theorem c_str (l : List Int) : AV.cells (.str l) = [.str l] := rfl
theorem f_nilptr  : AV.flat (.nilptr) = true := rfl
theorem c_nilptr  : AV.cells (.nilptr) = [.nilptr] := rfl
theorem f_ptr (a b : Nat) : AV.flat (.ptr a b) = true := rfl
theorem c_ptr (a b : Nat) : AV.cells (.ptr a b) = [.ptr a b] := rfl
theorem f_nilsl  : AV.flat (.nilsl) = true := rfl
theorem c_nilsl  : AV.cells (.nilsl) = [.nilsl] := rfl
theorem f_slice (a b c d : Nat) (e : Bool) (f : Nat) : AV.flat (.slice a b c d e f) = true := rfl
theorem c_slice (a b c d : Nat) (e : Bool) (f : Nat) : AV.cells (.slice a b c d e f) = [.slice a b c d e f] := rfl
theorem f_nilmap  : AV.flat (.nilmap) = true := rfl
theorem c_nilmap  : AV.cells (.nilmap) = [.nilmap] := rfl
theorem f_map (a : Nat) : AV.flat (.map a) = true := rfl
theorem c_map (a : Nat) : AV.cells (.map a) = [.map a] := rfl
theorem f_nilf  : AV.flat (.nilf) = true := rfl
theorem c_nilf  : AV.cells (.nilf) = [.nilf] := rfl
theorem f_func (f : FuncId) (a b : List AV) : AV.flat (.func f a b) = true := rfl
theorem c_func (f : FuncId) (a b : List AV) : AV.cells (.func f a b) = [.func f a b] := rfl
theorem f_yieldf (a : Nat) : AV.flat (.yieldf a) = true := rfl
theorem c_yieldf (a : Nat) : AV.cells (.yieldf a) = [.yieldf a] := rfl
theorem f_nilif  : AV.flat (.nilif) = true := rfl
theorem c_nilif  : AV.cells (.nilif) = [.nilif] := rfl
theorem f_iface (t : TypeId) (v : AV) : AV.flat (.iface t v) = true := rfl
theorem c_iface (t : TypeId) (v : AV) : AV.cells (.iface t v) = [.iface t v] := rfl
theorem c_agg (l : List AV) : AV.cells (.agg l) = l := rfl
theorem cells_of {v : AV} (h : v.flat = true) : v.cells = [v] := by cases v <;> first | rfl | simp [AV.flat] at h
theorem q_t {b : Bool} : (b == true) = b := by cases b <;> rfl
theorem q_f {b : Bool} : (b == false) = !b := by cases b <;> rfl
/-! ### two numbers -/
section
variable {k : IntKind} {ek : EqK} {a b : Int}
theorem b_add : binA .add ek (.int k a) (.int k b) = some (.int k (k.wrap (a + b))) := by simp [binA, binInt]
theorem b_sub : binA .sub ek (.int k a) (.int k b) = some (.int k (k.wrap (a - b))) := by simp [binA, binInt]
theorem b_mul : binA .mul ek (.int k a) (.int k b) = some (.int k (k.wrap (a * b))) := by simp [binA, binInt]
theorem b_eql : binA .eql ek (.int k a) (.int k b) = some (.bool (a == b)) := by simp [binA, binInt]
theorem b_neq : binA .neq ek (.int k a) (.int k b) = some (.bool (a != b)) := by simp [binA, binInt]
theorem b_lss : binA .lss ek (.int k a) (.int k b) = some (.bool (decide (a < b))) := by simp [binA, binInt]
theorem b_leq : binA .leq ek (.int k a) (.int k b) = some (.bool (decide (a ≤ b))) := by simp [binA, binInt]
theorem b_gtr : binA .gtr ek (.int k a) (.int k b) = some (.bool (decide (a > b))) := by simp [binA, binInt]
theorem b_geq : binA .geq ek (.int k a) (.int k b) = some (.bool (decide (a ≥ b))) := by simp [binA, binInt]
theorem b_and : binA .and ek (.int k a) (.int k b) = some (.int k (k.wrap (BitVec.ofInt k.bits a &&& BitVec.ofInt k.bits b).toNat)) := by simp [binA, binInt]
theorem b_or : binA .or ek (.int k a) (.int k b) = some (.int k (k.wrap (BitVec.ofInt k.bits a ||| BitVec.ofInt k.bits b).toNat)) := by simp [binA, binInt]
theorem b_xor : binA .xor ek (.int k a) (.int k b) = some (.int k (k.wrap (BitVec.ofInt k.bits a ^^^ BitVec.ofInt k.bits b).toNat)) := by simp [binA, binInt]
theorem b_quo : binA .quo ek (.int k a) (.int k b) = (if b = 0 then none else some (.int k (k.wrap (a.tdiv b)))) := by simp [binA, binInt]
theorem b_rem : binA .rem ek (.int k a) (.int k b) = (if b = 0 then none else some (.int k (a.tmod b))) := by simp [binA, binInt]
theorem b_shl {k' : IntKind} (hb : ¬ b < 0) : binA .shl ek (.int k a) (.int k' b) = some (.int k (k.wrap (a * 2 ^ (Nat.min b.toNat k.bits)))) := by simp [binA, shiftInt, hb]
theorem b_shr {k' : IntKind} (hb : ¬ b < 0) : binA .shr ek (.int k a) (.int k' b) = some (.int k (a.fdiv (2 ^ (Nat.min b.toNat k.bits)))) := by simp [binA, shiftInt, hb]
end
def Grow (h h' : Heap) : Prop := h.next ≤ h'.next ∧ ∀ id, id < h.next → h'.get id = h.get id
theorem Grow.refl (h : Heap) : Grow h h := ⟨Nat.le_refl _, fun _ _ => rfl⟩
theorem Grow.trans {a b c : Heap} (h : Grow a b) (k : Grow b c) : Grow a c := ⟨Nat.le_trans h.1 k.1, fun id hid => (k.2 id (Nat.lt_of_lt_of_le hid h.1)).trans (h.2 id hid)⟩
theorem Grow.alloc (h : Heap) (o : AObj) : Grow h (h.alloc o) := ⟨by simp, fun id hid => by rw [Heap.get_alloc, if_neg (by omega)]⟩
theorem Grow.set {g h : Heap} (hg : Grow g h) {id : Nat} (o : AObj) (h1 : g.next ≤ id) (h2 : id < h.next) : Grow g (h.set id o) :=
  ⟨hg.1, fun j hj => by rw [Heap.get_set _ _ _ _ h2, if_neg (by omega)]; exact hg.2 j hj⟩
theorem Grow.get {h h' : Heap} (hg : Grow h h') {id : Nat} {o : AObj} (e : h.get id = some o) : h'.get id = some o := (hg.2 id (Heap.lt_of_get e)).trans e
theorem Grow.note (h : Heap) (b : Bool) (id : Nat) : Grow h (h.note b id) := by
  cases b
  · exact Grow.refl h
  · exact Grow.alloc h _
theorem Grow.byteAt {h h' : Heap} (hg : Grow h h') {id : Nat} (e : h.byteAt id = true) : h'.byteAt id = true := by
  rw [Heap.byteAt_of (hg.2 _ (Heap.byteAt_lt e))]; exact e
theorem note_false (h : Heap) (id : Nat) : h.note false id = h := rfl
theorem get_set (h : Heap) (id j : Nat) (o : AObj) : (h.set id o).get j = if j = id then (if id < h.next then some o else none) else h.get j := by
  simp only [Heap.get, Heap.set]
  rw [Tr.get_setF _ _ _ _ _ (by omega)]
  by_cases e : j = id
  · subst e; simp
  · simp [e]
theorem store_of {h : Heap} {id off : Nat} {vs c : List AV} (e : h.get id = some (.cells c false)) (hl : off + vs.length ≤ c.length) : storeA h id off vs = some (h.set id (.cells (splice c off vs) false)) := by
  simp [storeA, e, hl]
theorem load_of {h : Heap} {id off : Nat} {c : List AV} {ro : Bool} (e : h.get id = some (.cells c ro)) : loadA h false 1 id off = c[off]? := by
  simp [loadA, e]
/-! ### regions that draw -/
abbrev Log := List (Option Nat × Heap × Heap)
def lacc (c : Tgt → List AV → Heap → AR) (l : List SOper) (tm : List AV) (h : Heap) (acc : Log) : Option (List AV × Heap × Log) :=
  match aopsLog c l tm h with
  | some (tm', h', lg) => some (tm', h', acc ++ lg)
  | none => none
def laccR (c : Tgt → List AV → Heap → AR) (l : List SOper) (d : Option Nat) (tm : List AV) (r : Option Nat) (h : Heap) (acc : Log) : AR → Option (List AV × Heap × Log)
  | some (v, h') => lacc c l (putT tm d v) h' (acc ++ [(r, h, h')])
  | none => none
def laccG (c : Tgt → List AV → Heap → AR) (o : SOper) (l : List SOper) (tm : List AV) (h : Heap) (acc : Log) : Bool → Option (List AV × Heap × Log)
  | true => laccR c l o.dst tm (readsA tm o.op) h acc (aop c tm h o.op)
  | false => lacc c l (putT tm o.dst undefA) h (acc ++ [(none, h, h)])
def drawR (chk : List (Nat × Nat)) : Option (List AV × Heap × Log) → AOut
  | some (tm, h, lg) => if chkLog lg chk then some (.normal, tm, h) else none
  | none => none
section
variable {c : Tgt → List AV → Heap → AR} {l : List SOper} {tm : List AV} {h h' : Heap} {d : Option Nat} {op : SOp} {v : AV} {acc : Log} {r : Option Nat}
theorem l_nil : lacc c [] tm h acc = some (tm, h, acc) := by simp [lacc, aopsLog]
theorem l_op : lacc c (⟨d, op, none⟩ :: l) tm h acc = laccR c l d tm (readsA tm op) h acc (aop c tm h op) := by
  unfold lacc laccR
  rw [aopsLog]
  simp only [show wantedA tm none = true from rfl, if_true]
  cases aop c tm h op with
  | none => rfl
  | some q =>
    simp only [lacc]
    cases aopsLog c l (putT tm d q.1) q.2 with
    | none => rfl
    | some z => simp
theorem l_guard {g : Nat × Bool} : lacc c (⟨d, op, some g⟩ :: l) tm h acc = laccG c ⟨d, op, none⟩ l tm h acc (wantedA tm (some g)) := by
  unfold lacc laccG
  rw [aopsLog]
  cases wantedA tm (some g) with
  | true =>
    simp only [if_true, laccR, lacc]
    cases aop c tm h op with
    | none => rfl
    | some q =>
      simp only
      cases aopsLog c l (putT tm d q.1) q.2 with
      | none => rfl
      | some z => simp
  | false =>
    simp only [Bool.false_eq_true, if_false, lacc]
    cases aopsLog c l (putT tm d undefA) h with
    | none => rfl
    | some z => simp
theorem l_draw {chk : List (Nat × Nat)} {lg : Log} : drawR chk (some (tm, h, lg)) = if chkLog lg chk then some (.normal, tm, h) else none := rfl
end
theorem x_drawn {X : Known} {SP : FuncId → Option SFunc} {self : FuncId} {rd : Option Nat} {tm : List AV} {h : Heap} {l : List SOper} {chk : List (Nat × Nat)} :
    xcode X SP self rd (.drawOps l chk) tm h = drawR chk (lacc (xcall X SP) l tm h []) := by
  rw [x_draw]
  unfold code_draw drawR lacc
  cases aopsLog (xcall X SP) l tm h <;> rfl
mutual
theorem AV.beq_refl : ∀ a : AV, AV.beq a a = true
  | .bool a => by simp [AV.beq]
  | .int j a => by simp [AV.beq]
  | .str a => by simp [AV.beq]
  | .nilptr => rfl
  | .ptr a b => by simp [AV.beq]
  | .nilsl => rfl
  | .slice a b c d e f => by simp [AV.beq]
  | .nilmap => rfl
  | .map a => by simp [AV.beq]
  | .nilf => rfl
  | .func f a b => by simp [AV.beq, AV.beqs_refl a, AV.beqs_refl b]
  | .yieldf a => by simp [AV.beq]
  | .nilif => rfl
  | .meth m v => by simp [AV.beq, AV.beq_refl v]
  | .iface t v => by simp [AV.beq, AV.beq_refl v]
  | .agg a => by simp [AV.beq, AV.beqs_refl a]
  | .tuple a => by simp [AV.beq, AV.beqs_refl a]
theorem AV.beqs_refl : ∀ a : List AV, AV.beqs a a = true
  | [] => rfl
  | a :: as => by simp [AV.beqs, AV.beq_refl a, AV.beqs_refl as]
end
theorem same_cells {a : List AV} {r : Bool} : sameObj (some (.cells a r)) (some (.cells a r)) = true := by simp [sameObj, AV.beqs_refl]
/-! ### bounds of slices -/
theorem sb {k : IntKind} {i y : Nat} (hi : i ≤ y) : sliceBoundA (.int k (i : Int)) y = some i := by
  have : (0 : Int) ≤ i ∧ (i : Int) ≤ y := by omega
  simp [sliceBoundA, this]
section
variable {k k' k'' : IntKind} {len cap i j m : Nat}
theorem bd_lhm (h1 : m ≤ cap) (h2 : j ≤ m) (h3 : i ≤ j) : boundsA len cap (some (.int k (i : Int))) (some (.int k' (j : Int))) (some (.int k'' (m : Int))) = some (i, j, m) := by
  delta boundsA; simp only [sb h1, sb h2, sb h3]
theorem bd_lh (h2 : j ≤ cap) (h3 : i ≤ j) : boundsA len cap (some (.int k (i : Int))) (some (.int k' (j : Int))) none = some (i, j, cap) := by
  delta boundsA; simp only [sb h2, sb h3]
theorem bd_h (h2 : j ≤ cap) : boundsA len cap none (some (.int k' (j : Int))) none = some (0, j, cap) := by
  delta boundsA; simp only [sb h2]
theorem bd_l (h3 : i ≤ len) : boundsA len cap (some (.int k (i : Int))) none none = some (i, len, cap) := by
  delta boundsA; simp only [sb h3]
theorem bd_hm (h1 : m ≤ cap) (h2 : j ≤ m) : boundsA len cap none (some (.int k' (j : Int))) (some (.int k'' (m : Int))) = some (0, j, m) := by
  delta boundsA; simp only [sb h1, sb h2]
end
end Go.Ya
