/-
  A disk: blocks, plain.
-/
import Derived.Test.YtekbgdmemenheaaYaDiSpec
import Derived.Test.YtekbgdmemenheaaYbL
namespace Go.Proofs.Ytekbgdmemenheaa.Ya
open Go.Ya
set_option linter.unusedVariables false
set_option linter.unusedSimpArgs false
set_option maxRecDepth 100000
def cellsB (b : List Int) : List AV := (List.range 64).map fun j => .int .u8 (b.getD j 0)
theorem cellsB_len (b : List Int) : (cellsB b).length = 64 := by simp [cellsB]
theorem cellsB_flat (b : List Int) : (cellsB b).all AV.flat = true := by
  rw [List.all_eq_true]
  intro x hx
  obtain ⟨j, _, rfl⟩ := List.mem_map.1 hx
  rfl
theorem cellsB_all (b : List Int) : ((cellsB b).drop 0).take 64 = cellsB b := by rw [List.drop_zero, List.take_of_length_le (by rw [cellsB_len]; exact Nat.le_refl _)]
theorem cellsB_take (b : List Int) : (cellsB b).take 64 = cellsB b := List.take_of_length_le (by rw [cellsB_len]; exact Nat.le_refl _)
def encW (e : Nat × List Int) : List AV := .int .i64 (e.1 : Nat) :: cellsB e.2
theorem encW_len (e : Nat × List Int) : (encW e).length = 65 := by rw [encW, List.length_cons, cellsB_len]
def encY (e : Nat × List Int) : AV × AV := (.int .i64 (e.1 : Nat), .agg (cellsB e.2))
def putY (k : Nat) (b : List Int) : List (Nat × List Int) → List (Nat × List Int)
  | [] => [(k, b)]
  | (j, c) :: r => if k = j then (k, b) :: r else (j, c) :: putY k b r
def getY (k : Nat) : List (Nat × List Int) → Option (List Int)
  | [] => none
  | (j, c) :: r => if k = j then some c else getY k r
theorem key_nat {a b : Nat} : keyIs (.int .i64 (a : Nat)) (.int .i64 (b : Nat)) = some (decide (a = b)) := by
  show (if IntKind.i64 = IntKind.i64 then some (((a : Nat) : Int) == ((b : Nat) : Int)) else none) = _
  rw [if_pos rfl]
  congr 1
  by_cases h : a = b
  · subst h; simp
  · rw [decide_eq_false h]; exact beq_false_of_ne qo
theorem putA_Y (k : Nat) (b : List Int) : ∀ Y : List (Nat × List Int), putA (.int .i64 (k : Nat)) (.agg (cellsB b)) (Y.map encY) = some ((putY k b Y).map encY)
  | [] => rfl
  | (j, c) :: r => by
    rw [List.map_cons]
    simp only [encY, putA, key_nat]
    by_cases h : k = j
    · rw [decide_eq_true h]
      simp only [putY, if_pos h, List.map_cons, encY]
    · rw [decide_eq_false h]
      have ih := putA_Y k b r
      simp only [putY, if_neg h, List.map_cons, encY, ih, Option.map_some]
theorem isKey_nat (k : Nat) : isKey false (.int .i64 (k : Nat)) = true := rfl
theorem prs_Y : ∀ Y : List (Nat × List Int), prs (Y.map encY) = some (Y.map fun e => (e.1, cellsB e.2))
  | [] => rfl
  | (j, c) :: r => by
    rw [List.map_cons]
    show prs ((.int .i64 (j : Nat), .agg (cellsB c)) :: r.map encY) = _
    unfold prs
    rw [if_pos ⟨by omega, cellsB_len c, cellsB_flat c⟩, prs_Y r]
    rfl
def keysY (n : Nat) (Y : List (Nat × List Int)) : Prop := (Y.map (·.1)).Nodup ∧ ∀ e ∈ Y, e.1 < n
theorem mem_putY {k : Nat} {b : List Int} : ∀ {Y : List (Nat × List Int)} {x : Nat}, x ∈ (putY k b Y).map (·.1) → x = k ∨ x ∈ Y.map (·.1)
  | [], x, h => by simpa [putY] using h
  | (j, c) :: r, x, h => by
    unfold putY at h
    split at h
    · rename_i e
      rw [List.map_cons, List.mem_cons] at h
      rcases h with h | h
      · exact .inl h
      · exact .inr (by rw [List.map_cons]; exact List.mem_cons_of_mem _ h)
    · rw [List.map_cons, List.mem_cons] at h
      rcases h with h | h
      · exact .inr (by rw [List.map_cons, h]; simp)
      · rcases mem_putY h with h | h
        · exact .inl h
        · exact .inr (by rw [List.map_cons]; exact List.mem_cons_of_mem _ h)
theorem putY_keys {n k : Nat} {b : List Int} (hk : k < n) : ∀ {Y : List (Nat × List Int)}, keysY n Y → keysY n (putY k b Y)
  | [], _ => ⟨by simp [putY], fun e he => by simp [putY] at he; rw [he]; exact hk⟩
  | (j, c) :: r, h => by
    obtain ⟨h1, h2⟩ := h
    rw [List.map_cons, List.nodup_cons] at h1
    have ih := putY_keys (b := b) hk (Y := r) ⟨h1.2, fun e he => h2 e (List.mem_cons_of_mem _ he)⟩
    unfold putY
    split
    · rename_i e
      refine ⟨by rw [List.map_cons, List.nodup_cons]; exact ⟨by rw [e]; exact h1.1, h1.2⟩, fun x hx => ?_⟩
      rcases List.mem_cons.1 hx with rfl | hx
      · exact hk
      · exact h2 x (List.mem_cons_of_mem _ hx)
    · rename_i e
      refine ⟨by
        rw [List.map_cons, List.nodup_cons]
        refine ⟨fun hin => ?_, ih.1⟩
        rcases mem_putY hin with q | q
        · exact e q.symm
        · exact h1.1 q, fun x hx => ?_⟩
      rcases List.mem_cons.1 hx with rfl | hx
      · exact h2 _ (by simp)
      · exact ih.2 x hx
theorem keysY_nil (n : Nat) : keysY n [] := ⟨List.nodup_nil, fun e he => nomatch he⟩
def cellsL (l : List (List Int)) : List AV := l.flatMap cellsB
theorem cellsL_len : ∀ l : List (List Int), (cellsL l).length = l.length * 64
  | [] => rfl
  | b :: l => by
    show (cellsB b ++ cellsL l).length = _
    rw [List.length_append, cellsB_len, cellsL_len l, List.length_cons]; omega
theorem cellsL_get : ∀ (l : List (List Int)) (j : Nat), (cellsL l)[j]? = (l[j / 64]?).bind fun b => (cellsB b)[j % 64]?
  | [], j => by simp [cellsL]
  | b :: l, j => by
    show (cellsB b ++ cellsL l)[j]? = _
    by_cases h : j < 64
    · rw [List.getElem?_append_left (by rw [cellsB_len]; exact h), show j / 64 = 0 by omega, show j % 64 = j by omega]; rfl
    · rw [List.getElem?_append_right (by rw [cellsB_len]; omega), cellsB_len, cellsL_get l, show j / 64 = (j - 64) / 64 + 1 by omega, show j % 64 = (j - 64) % 64 by omega]; rfl
def layY (Y : List (Nat × List Int)) (l : List (List Int)) : List (List Int) := (List.range l.length).map fun k => (getY k Y).getD (l.getD k [])
theorem layY_len (Y : List (Nat × List Int)) (l : List (List Int)) : (layY Y l).length = l.length := by simp [layY]
theorem find_getY (k : Nat) : ∀ Y : List (Nat × List Int), ((Y.map fun e => (e.1, cellsB e.2)).find? fun e => e.1 == k) = (getY k Y).map fun b => (k, cellsB b)
  | [] => rfl
  | (j, c) :: r => by
    rw [List.map_cons, List.find?_cons]
    by_cases h : k = j
    · subst h; simp [getY]
    · rw [show ((j, cellsB c).1 == k) = false by simpa using fun e => h e.symm]
      simp only [getY, if_neg h]
      exact find_getY k r
theorem upd_Y {Y : List (Nat × List Int)} {l : List (List Int)} (hY : ∀ e ∈ Y, e.1 < l.length) : upd (Y.map fun e => (e.1, cellsB e.2)) (cellsL l) = cellsL (layY Y l) := by
  refine List.ext_getElem? fun j => ?_
  rw [upd_get (n := l.length) (by rw [cellsL_len]; exact Nat.le_refl _) j (fun e he => by
    obtain ⟨e0, h0, rfl⟩ := List.mem_map.1 he
    exact ⟨hY e0 h0, cellsB_len _⟩), find_getY, cellsL_get, cellsL_get, layY, List.getElem?_map]
  by_cases h : j / 64 < l.length
  · rw [List.getElem?_range h, Option.map_some, Option.bind_some]
    cases hg : getY (j / 64) Y with
    | none =>
      rw [Option.map_none, Option.getD_none, List.getD_eq_getElem?_getD, List.getElem?_eq_getElem h]; rfl
    | some b => rfl
  · rw [List.getElem?_eq_none (by simpa using h), List.getElem?_eq_none (by simpa using h)]
    cases hg : getY (j / 64) Y with
    | none => rfl
    | some b =>
      exfalso
      have : ∀ {Y : List (Nat × List Int)}, (∀ e ∈ Y, e.1 < l.length) → getY (j / 64) Y = some b → j / 64 < l.length := by
        intro Y
        induction Y with
        | nil => intro _ q; cases q
        | cons e r ih =>
          intro hY q
          obtain ⟨i, c⟩ := e
          simp only [getY] at q
          split at q
          · rename_i e1; rw [e1]; exact hY (i, c) (by simp)
          · exact ih (fun e he => hY e (List.mem_cons_of_mem _ he)) q
      exact h (this hY hg)
end Go.Proofs.Ytekbgdmemenheaa.Ya
