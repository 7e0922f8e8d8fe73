/-
  Contracts of the library as what is known: a text's first rune; how often, and where, a slash stands in a text; texts joined.
-/
import Derived.Shelf.Unicode.DecodeAny
import Derived.Shelf.Strings.Count
import Derived.Shelf.Strings.Search3
import Derived.Shelf.Strings.OnBuilder
import Derived.Test.YtpdfpbdkiaekpaaDoorYbG
import Derived.Test.YtpdfpbdkiaekpaaDoorYbI

namespace Go.Ya
set_option linter.unusedVariables false
set_option linter.unusedSimpArgs false
open Go.Shelf Go.RowKit
section
variable {P : Program} {ρ : Ren} {μ : Mu} {h : Heap} {w w' : World}

/-- Blocks of others' come to be. -/
theorem St.below (s : St P μ h w) (hb : Below w.heap.size w w') : St P μ h w' ∧ Fr μ h w μ h w' := by
  have hsame := hb.block
  have fr : Fr μ h w μ h w' := ⟨.refl _, hb.size, hb.os, hb.tape, hb.output, fun b hb _ => hsame b hb, fun b hb => .inl hb, Nat.le_refl _, fun _ _ h => h⟩
  refine ⟨⟨⟨fun id b base lim o e1 e2 => ?_, s.r.inj⟩, s.bd, s.mkd.sameH fun id b base lim c ro m g => hsame b (s.r.lt m g rfl), s.tb.fr fr⟩, fr⟩
  have ho := s.r.obj id b base lim o e1 e2
  cases hl : o.live with
  | true => exact ho.of_same (.refl _) (hsame b (s.r.lt e1 e2 hl))
  | false => cases o <;> first | trivial | simp [AObj.live] at hl

/-- The first rune of a text, and how many bytes it has. -/
def decA (s : List Int) : Nat × Nat := Lib.decodeGo (toBA s)
theorem decode_width (st : ByteArray) (pos : Nat) : (Utf8.decode st pos).2 ≤ 4 := by
  rw [Lib.decode_at]
  unfold Lib.decodeN
  repeat' split
  all_goals simp
theorem decA_bound (s : List Int) : (decA s).1 ≤ 2147483647 ∧ (decA s).2 ≤ 4 := by
  unfold decA Lib.decodeGo
  split
  · exact ⟨by decide, by decide⟩
  · exact ⟨decode_bound _ _, decode_width _ _⟩
def decK (f : FuncId) : Known := fun g args h => if g = f then match args with | [.str a] => some (.tuple [.int .i32 (decA a).1, .int .i64 (decA a).2], h) | _ => none else none
theorem decK_ok (L : Go.Proofs.Lays.n197 P ρ) (e3 : P.globalNamed "unicode/utf8.first" = some (ρ.g 3)) (e4 : P.globalNamed "unicode/utf8.acceptRanges" = some (ρ.g 4)) {f : FuncId} (hf : ρ.f 197 = f) : XOk P (decK f) := by
  subst hf
  intro g args h v h' e μ w args' s hv
  unfold decK at e
  split at e
  · rename_i hg
    subst hg
    split at e
    · rename_i a
      cases e
      obtain ⟨l⟩ := args'
      cases hv with | cons _ x _ xs h1 h2 =>
      cases h2
      cases h1 with | str _ s1 e1 _ =>
      obtain ⟨_, _, t3, t4⟩ := s.tb _ _ e3 e4
      refine ⟨⟨_, L.f197, by kernel_rfl, by rw [show (Go.Proofs.Body.n197 ρ).name = "unicode/utf8.DecodeRuneInString" by kernel_rfl]; decide⟩, (Go.Proofs.Any.utf8_DecodeRuneInString L s1 w ⟨t3, t4⟩).mono fun e w' ⟨q1, q2⟩ => ?_⟩
      have hb := decA_bound (bytesOf s1)
      subst e1
      rw [show Lib.decodeGo s1 = decA (bytesOf s1) by unfold decA; rw [toBA_bytesOf]] at q1
      obtain ⟨k1, k2⟩ := s.below q2
      refine ⟨μ, _, q1, ?_, k1, k2⟩
      exact .tuple _ _ (.cons _ _ _ _ (.int _ _ (wf_of (by simp [IntKind.min, IntKind.signed, IntKind.bits]) (by simp [IntKind.max, IntKind.signed, IntKind.bits]; omega))) (.cons _ _ _ _ (.int _ _ (wf_nat (by omega))) .nil))
    · cases e
  · cases e

/-! ### a slash -/
/-- Where a byte stands first; -1: nowhere. -/
def idxA : List Int → Int → Int
  | [], _ => -1
  | b :: l, c => if b = c then 0 else if idxA l c = -1 then -1 else idxA l c + 1
theorem byte_eq (b c : UInt8) : (b == c) = decide ((b.toNat : Int) = c.toNat) := by
  rw [Bool.eq_iff_iff, beq_iff_eq, decide_eq_true_eq]
  constructor
  · rintro rfl; rfl
  · intro e; exact UInt8.toNat_inj.1 (by omega)
theorem idxA_eq (c : UInt8) : ∀ l : List UInt8, Lib.indexByte l c = idxA (l.map fun x => (x.toNat : Int)) c.toNat
  | [] => rfl
  | b :: l => by
    simp only [Lib.indexByte, List.map_cons, idxA, byte_eq, decide_eq_true_eq, idxA_eq c l, beq_iff_eq]
theorem cnt_eq (c : UInt8) : ∀ l : List UInt8, l.count c = (l.map fun x => (x.toNat : Int)).count (c.toNat : Int)
  | [] => rfl
  | b :: l => by
    rw [List.map_cons, List.count_cons, List.count_cons, cnt_eq c l, byte_eq]
    congr 1
def cntK (f : FuncId) : Known := fun g args h => if g = f then match args with | [.str a, .str [47]] => some (.int .i64 (a.count 47 : Nat), h) | _ => none else none
def idxK (f : FuncId) : Known := fun g args h => if g = f then match args with | [.str a, .str [47]] => some (.int .i64 (idxA a 47), h) | _ => none else none
theorem slash_of {s : ByteArray} (e : bytesOf s = [47]) : s = ⟨#[47]⟩ := by
  rw [← toBA_bytesOf s, e]; rfl
theorem idxA_bound (c : Int) : ∀ l : List Int, -1 ≤ idxA l c ∧ idxA l c ≤ l.length
  | [] => by simp [idxA]
  | b :: l => by
    have := idxA_bound c l
    simp only [idxA, List.length_cons]
    split
    · omega
    · split <;> omega
theorem cntK_ok (L : Go.Proofs.Lays.n138 P ρ) {f : FuncId} (hf : ρ.f 138 = f) : XOk P (cntK f) := by
  subst hf
  intro g args h v h' e μ w args' s hv
  unfold cntK at e
  split at e
  · rename_i hg
    subst hg
    split at e
    · rename_i a
      cases e
      obtain ⟨l⟩ := args'
      cases hv with | cons _ x _ xs h1 h2 =>
      cases h2 with | cons _ y _ ys h2 h3 =>
      cases h3
      cases h1 with | str _ s1 e1 z1 =>
      cases h2 with | str _ s2 e2 _ =>
      obtain rfl := slash_of e2
      refine ⟨⟨_, L.f138, by kernel_rfl, by rw [show (Go.Proofs.Body.n138 ρ).name = "strings.Count" by kernel_rfl]; decide⟩, (Go.Proofs.Any.strings_Count_one L s1 47 w).mono fun e w' ⟨q1, q2⟩ => ?_⟩
      subst q2
      subst e1
      refine ⟨μ, _, q1, ?_, s, .refl _ _ _⟩
      rw [show (Lib.countByte s1.data.toList 47 : Nat) = (bytesOf s1).count 47 from cnt_eq 47 _]
      have := List.count_le_length (a := (47 : Int)) (l := bytesOf s1)
      exact .int _ _ (wf_nat (by rw [bytesOf_len] at this; omega))
    · cases e
  · cases e
theorem idxK_ok (L : Go.Proofs.Lays.n143 P ρ) {f : FuncId} (hf : ρ.f 143 = f) : XOk P (idxK f) := by
  subst hf
  intro g args h v h' e μ w args' s hv
  unfold idxK at e
  split at e
  · rename_i hg
    subst hg
    split at e
    · rename_i a
      cases e
      obtain ⟨l⟩ := args'
      cases hv with | cons _ x _ xs h1 h2 =>
      cases h2 with | cons _ y _ ys h2 h3 =>
      cases h3
      cases h1 with | str _ s1 e1 z1 =>
      cases h2 with | str _ s2 e2 _ =>
      obtain rfl := slash_of e2
      refine ⟨⟨_, L.f143, by kernel_rfl, by rw [show (Go.Proofs.Body.n143 ρ).name = "strings.Index" by kernel_rfl]; decide⟩, (Go.Proofs.Any.strings_Index_one L s1 47 w).mono fun e w' ⟨q1, q2⟩ => ?_⟩
      subst q2
      subst e1
      refine ⟨μ, _, q1, ?_, s, .refl _ _ _⟩
      rw [show Lib.indexByte s1.data.toList 47 = idxA (bytesOf s1) 47 from idxA_eq 47 _]
      have := idxA_bound 47 (bytesOf s1)
      rw [bytesOf_len] at this
      exact .int _ _ (wf_of (by simp [IntKind.min, IntKind.signed, IntKind.bits]; omega) (by simp [IntKind.max, IntKind.signed, IntKind.bits]; omega))
    · cases e
  · cases e

/-! ### texts joined by slashes -/
def strsA : List AV → Option (List (List Int))
  | [] => some []
  | .str s :: r => (strsA r).map (s :: ·)
  | _ => none
theorem strsA_at : ∀ {cs : List AV} {l : List (List Int)}, strsA cs = some l → cs = l.map AV.str
  | [], l, e => by cases e; rfl
  | .str s :: r, l, e => by
    simp only [strsA, Option.map_eq_some_iff] at e
    obtain ⟨l', e1, rfl⟩ := e
    rw [strsA_at e1]; rfl
  | .bool _ :: _, _, e => nomatch e
  | .int .. :: _, _, e => nomatch e
  | .nilptr :: _, _, e => nomatch e
  | .ptr .. :: _, _, e => nomatch e
  | .nilsl :: _, _, e => nomatch e
  | .slice .. :: _, _, e => nomatch e
  | .nilmap :: _, _, e => nomatch e
  | .map .. :: _, _, e => nomatch e
  | .nilf :: _, _, e => nomatch e
  | .func .. :: _, _, e => nomatch e
  | .yieldf .. :: _, _, e => nomatch e
  | .nilif :: _, _, e => nomatch e
  | .iface .. :: _, _, e => nomatch e
  | .agg .. :: _, _, e => nomatch e
  | .tuple .. :: _, _, e => nomatch e
theorem strsA_map : ∀ l : List (List Int), strsA (l.map AV.str) = some l
  | [] => rfl
  | s :: r => by simp only [List.map_cons, strsA, strsA_map r]; rfl
def joinI : List (List Int) → List Int
  | [] => []
  | x :: r => x ++ r.flatMap (47 :: ·)
theorem joinI_eq (xs : List ByteArray) : (Lib.join (xs.map (·.data.toList)) [47]).map (fun b => (b.toNat : Int)) = joinI (xs.map bytesOf) := by
  cases xs with
  | nil => rfl
  | cons x r =>
    rw [List.map_cons, Lib.join_cons, List.map_append, List.map_cons, joinI]
    congr 1
    induction r with
    | nil => rfl
    | cons y r ih =>
      simp only [Lib.joinTail, List.map_cons, List.flatten_cons, List.map_append, List.flatMap_cons] at ih ⊢
      rw [ih]; rfl
def joinK (f : FuncId) : Known := fun g args h => if g = f then match args with
  | [.slice id off len cap ex 1, .str [47]] => match firstA h 1 len (.slice id off len cap ex 1) with
    | some cs => match strsA cs with
      | some l => if 0 < len ∧ len ≤ 140737488355328 ∧ (joinI l).length ≤ 140737488355328 then some (.str (joinI l), h) else none
      | none => none
    | none => none
  | _ => none else none
theorem joinK_ok (L : Go.Proofs.Lays.n156 P ρ) (X : Go.Proofs.Builder.Extra P ρ) {f : FuncId} (hf : ρ.f 156 = f) : XOk P (joinK f) := by
  subst hf
  intro g args h v h' e μ w args' s hv
  unfold joinK at e
  split at e
  · rename_i hg
    subst hg
    split at e
    · rename_i id off len cap ex
      split at e
      · rename_i cs hcs
        split at e
        · rename_i l hl
          split at e
          · rename_i hz
            obtain ⟨z1, z2, z3⟩ := hz
            cases e
            obtain ⟨al⟩ := args'
            cases hv with | cons _ x _ xs h1 h2 =>
            cases h2 with | cons _ y _ ys h2 h3 =>
            cases h3
            cases h2 with | str _ s2 e2 _ =>
            obtain rfl := slash_of e2
            cases h1 with | slice _ _ _ _ _ _ a cap' q1 q2 q3 q4 q5 q6 =>
            rcases q6 with q6 | ⟨b, base, lim, m, rfl, q7⟩
            · omega
            simp only [firstA] at hcs
            split at hcs
            · cases hg : h.get id with
              | none => rw [hg] at hcs; cases hcs
              | some o =>
                rw [hg] at hcs
                cases o with
                | cells c ro =>
                  simp only at hcs
                  split at hcs
                  · rename_i hle
                    cases hcs
                    obtain ⟨arr, t, fr, k1, k2, k3, k4, k5⟩ := s.r.obj id b base lim _ m hg
                    have hcl := strsA_at hl
                    simp only [Nat.mul_one] at hcl hle
                    have hll : l.length = len := by
                      have := congrArg List.length hcl
                      simp only [List.length_take, List.length_drop, List.length_map] at this
                      omega
                    have hat : ∀ (j : Nat) (x : ByteArray), (l.map toBA)[j]? = some x → w.cell? ⟨b, base + off + j, none⟩ = some (.string x) ∧ bytesOf x = l.getD j [] ∧ x.size ≤ 9223372036854775807 := fun j x hx => by
                      have hj : j < l.length := by
                        rcases Nat.lt_or_ge j l.length with q | q
                        · exact q
                        · rw [List.getElem?_eq_none (by rw [List.length_map]; exact q)] at hx; cases hx
                      rw [List.getElem?_map, List.getElem?_eq_getElem hj] at hx
                      cases hx
                      have h2 := congrArg (·[j]?) hcl
                      simp only [List.getElem?_map, List.getElem?_eq_getElem hj, Option.map_some, List.getElem?_take, if_pos (show j < len by omega), List.getElem?_drop] at h2
                      obtain ⟨v', e1, e3, _⟩ := k4 (off + j) _ h2
                      cases e3 with | str _ s3 e4 e5 =>
                      have hx : toBA l[j] = s3 := by rw [← e4, toBA_bytesOf]
                      rw [hx]
                      refine ⟨?_, by rw [e4, List.getD_eq_getElem?_getD, List.getElem?_eq_getElem hj]; rfl, e5⟩
                      simp only [World.cell?, k1]
                      rw [show base + off + j = base + (off + j) by omega]
                      simpa using e1
                    have hbs : (l.map toBA).map bytesOf = l := by
                      apply List.ext_getElem (by simp)
                      intro i i1 i2
                      have := (hat i (toBA (l[i]'i2)) (by rw [List.getElem?_map, List.getElem?_eq_getElem i2]; rfl)).2.1
                      simp only [List.getElem_map]
                      rw [this, List.getD_eq_getElem?_getD, List.getElem?_eq_getElem i2]; rfl
                    have hje := joinI_eq (l.map toBA)
                    rw [hbs] at hje
                    have hlen : (Lib.join ((l.map toBA).map (·.data.toList)) [47]).length = (joinI l).length := by rw [← hje, List.length_map]
                    have hC := Go.Proofs.Any.strings_Join L X b (base + off) cap' (l.map toBA) ⟨#[47]⟩ w (fun j x hx => (hat j x hx).1) ((Array.getElem?_eq_some_iff.1 k1).1) (by rw [List.length_map]; omega) (by rw [List.length_map]; omega) (by show (Lib.join ((l.map toBA).map (·.data.toList)) [47]).length ≤ _; omega)
                    rw [List.length_map, hll] at hC
                    refine ⟨⟨_, L.f156, by kernel_rfl, by rw [show (Go.Proofs.Body.n156 ρ).name = "strings.Join" by kernel_rfl]; decide⟩, hC.mono fun e w' ⟨q1, q2⟩ => ?_⟩
                    obtain ⟨k1, k2⟩ := s.below q2
                    refine ⟨μ, _, q1, .str _ _ ?_ ?_, k1, k2⟩
                    · exact hje
                    · have : (⟨(Lib.join ((l.map toBA).map (·.data.toList)) [47]).toArray⟩ : ByteArray).size = (joinI l).length := by rw [← hlen]; simp [ByteArray.size]
                      show (⟨(Lib.join ((l.map toBA).map (·.data.toList)) [47]).toArray⟩ : ByteArray).size ≤ _
                      omega
                  · cases hcs
                | _ => cases hcs
            · cases hcs
          · cases e
        · cases e
      · cases e
    · cases e
  · cases e
end
end Go.Ya
