/-
  f0.Wide's bytes, Left and Spoil of them; Spoil of what is new.
-/
import Derived.Test.YtndcokalnpnbgaaYaRows
namespace Go.Ya
set_option linter.unusedVariables false
set_option linter.unusedSimpArgs false

/-- Bytes with three 9s behind them. -/
def WideAt (h : Heap) (w : Nat) (bs : List Int) : Prop := h.get w = some (.cells (ints (bs ++ [9, 9, 9])) false) ∧ h.byteAt w = true
theorem WideAt.at {h : Heap} {w : Nat} {bs : List Int} (hw : WideAt h w bs) : BytesAt h (.slice w 0 bs.length (bs.length + 3) false 1) bs :=
  .inr ⟨w, 0, _, false, _, _, rfl, by omega, hw.1, by simp, by simp [ints]⟩
theorem WideAt.keep {h h' : Heap} {w : Nat} {bs : List Int} (hw : WideAt h w bs) (h1 : h'.get w = h.get w) (h2 : h'.get (w + 1) = h.get (w + 1)) : WideAt h' w bs :=
  ⟨h1.trans hw.1, by rw [Heap.byteAt_of h2]; exact hw.2⟩
theorem WideAt.grow {h h' : Heap} {w : Nat} {bs : List Int} (hw : WideAt h w bs) (g : Grow h h') : WideAt h' w bs := ⟨g.get hw.1, g.byteAt hw.2⟩

section
variable {X : Known} {SP : FuncId → Option SFunc}
theorem left_wide {f : FuncId} (hk : ∀ args h r, leftK f f args h = some r → X f args h = some r) {h : Heap} {w : Nat} {bs : List Int} {v : AV} (hw : WideAt h w bs) (hb : BytesAt h v bs) : xcall X SP (.fn f) [.slice w 0 bs.length (bs.length + 3) false 1, v] h = some (.bool true, h) := by
  have e1 := hw.at.bytesA
  have e2 := hb.bytesA
  have e3 : bytesA h (.slice w (0 + bs.length) 3 3 false 1) = some [9, 9, 9] := by
    have : BytesAt h (.slice w (0 + bs.length) [9, 9, 9].length 3 false 1) [9, 9, 9] :=
      .inr ⟨w, 0 + bs.length, 3, false, _, _, rfl, Nat.le_refl _, hw.1, by simp, by simp [ints]⟩
    exact this.bytesA
  have hk1 : leftK f f [.slice w 0 bs.length (bs.length + 3) false 1, v] h = some (.bool true, h) := by
    simp only [leftK, if_true, Nat.le_refl, e1, e2, e3]
    simp
  rw [xcall_fn, hk _ _ _ hk1]
theorem spoil_wide {f : FuncId} (hk : ∀ args h r, spoilK f f args h = some r → X f args h = some r) {h : Heap} {w : Nat} {bs : List Int} (hw : WideAt h w bs) (by_ : Int) :
    ∃ h', xcall X SP (.fn f) [.slice w 0 bs.length (bs.length + 3) false 1, .int .u8 by_] h = some (undefA, h') ∧ h'.next = h.next ∧ ∀ j, j ≠ w → h'.get j = h.get j := by
  obtain ⟨h1, h2⟩ := hw
  have hk1 : spoilK f f [.slice w 0 bs.length (bs.length + 3) false 1, .int .u8 by_] h = some (undefA, h.set w (.cells (ints ((bs ++ [9, 9, 9]).map (spoiled by_))) false)) := by
    have e1 : 0 + (bs.length + 3) ≤ (ints (bs ++ [9, 9, 9])).length ∧ ((false : Bool) = true ∨ (h.byteAt w = true ∧ 0 + (bs.length + 3) = (ints (bs ++ [9, 9, 9])).length)) := ⟨by simp, .inr ⟨h2, by simp⟩⟩
    have e2 : ((ints (bs ++ [9, 9, 9])).drop 0).take (bs.length + 3) = ints (bs ++ [9, 9, 9]) := by rw [List.drop_zero, List.take_of_length_le (by simp)]
    have e3 : (ints (bs ++ [9, 9, 9])).drop (0 + (bs.length + 3)) = [] := List.drop_eq_nil_of_le (by simp)
    simp only [spoilK, if_true, h1, e1, e2, byteCells_ints, e3, List.take_zero, List.nil_append, List.append_nil]
    simp
  exact ⟨_, by rw [xcall_fn, hk _ _ _ hk1], by simp, fun j hj => by rw [get_set, if_neg hj]⟩
theorem spoil_new {f : FuncId} (hk : ∀ args h r, spoilK f f args h = some r → X f args h = some r) {h0 h : Heap} {v : AV} {bs : List Int} (hb : NewBytes h0 h v bs) (by_ : Int) :
    ∃ h', xcall X SP (.fn f) [v, .int .u8 by_] h = some (undefA, h') ∧ h'.next = h.next ∧ ∀ j, j < h0.next → h'.get j = h.get j := by
  rcases hb with ⟨rfl, rfl⟩ | ⟨i, cap, ex, rfl, e2, e3, e4, e6, e7⟩
  · have hk1 : spoilK f f [.nilsl, .int .u8 by_] h = some (undefA, h) := by simp [spoilK]
    exact ⟨h, by rw [xcall_fn, hk _ _ _ hk1], rfl, fun _ _ => rfl⟩
  · obtain rfl : cap = bs.length := by omega
    have hk1 : spoilK f f [.slice i 0 bs.length bs.length ex 1, .int .u8 by_] h = some (undefA, h.set i (.cells (ints (bs.map (spoiled by_))) false)) := by
      have h1 : 0 + bs.length ≤ (ints bs).length ∧ (ex = true ∨ (h.byteAt i = true ∧ 0 + bs.length = (ints bs).length)) := ⟨by simp, e7.imp (fun e => e) fun e => ⟨e, by simp⟩⟩
      have h2 : ((ints bs).drop 0).take bs.length = ints bs := by simp [List.take_of_length_le]
      have h3 : (ints bs).drop (0 + bs.length) = [] := List.drop_eq_nil_of_le (by simp)
      simp only [spoilK, if_true, e6, h1, h2, byteCells_ints, h3, List.take_zero, List.nil_append, List.append_nil]
      simp
    exact ⟨_, by rw [xcall_fn, hk _ _ _ hk1], by simp, fun j hj => by rw [get_set, if_neg (by omega)]⟩
end
/-- A row of the arguments, read. -/
theorem load_row {esz : Nat} {h : Heap} {b : Nat} {rows : List (List AV)} {ro : Bool} (hg : h.get b = some (.cells rows.flatten ro)) (hall : ∀ r ∈ rows, r.length = esz) {i : Nat} {row : List AV} (hi : rows[i]? = some row) : loadA h true esz b (i * esz) = some (.agg row) := by
  have hlt : i < rows.length := by
    rcases Nat.lt_or_ge i rows.length with h | h
    · exact h
    · rw [List.getElem?_eq_none h] at hi; cases hi
  have hr : rows[i] = row := by rw [List.getElem?_eq_getElem hlt] at hi; exact Option.some.inj hi
  have hsp : rows = rows.take i ++ row :: rows.drop (i + 1) := by rw [← hr, ← List.drop_eq_getElem_cons hlt, List.take_append_drop]
  have ht : (rows.take i).flatten.length = i * esz := by
    rw [rows_len (fun r hr => hall r (List.mem_of_mem_take hr)), List.length_take, Nat.min_eq_left (by omega)]
  have hrl : row.length = esz := hall row (List.mem_of_getElem? hi)
  have hc : rows.flatten = (rows.take i).flatten ++ (row ++ (rows.drop (i + 1)).flatten) := by
    conv => lhs; rw [hsp]
    simp
  have hle : i * esz + esz ≤ rows.flatten.length := by rw [hc]; simp only [List.length_append, ht, hrl]; omega
  simp only [loadA, hg, hle, if_true]
  rw [hc, ← ht, List.drop_left, ← hrl, List.take_left]
end Go.Ya
