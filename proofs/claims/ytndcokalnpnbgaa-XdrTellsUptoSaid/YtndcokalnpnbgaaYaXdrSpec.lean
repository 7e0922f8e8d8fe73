/-
  Xdr: what is known, and the writer.
-/
import Derived.Test.YtndcokalnpnbgaaYaTab
import Derived.Test.YtndcokalnpnbgaaRows
import Derived.Test.YtndcokalnpnbgaaYaXdrW
import Derived.Test.YtndcokalnpnbgaaYaWide
import Derived.Test.YtndcokalnpnbgaaYaXdrR
namespace Go.Proofs.Ytndcokalnpnbgaa.Ya
open Go.Ya
set_option linter.unusedVariables false
set_option linter.unusedSimpArgs false
set_option maxRecDepth 100000
set_option maxHeartbeats 4000000

def noX : Known := fun _ _ _ => none
theorem lives : (acallF noX tab 300 (.fn 20) [] emptyHeap).map (·.1) = some (.bool true) := by kernel_rfl
def X1 : Known := orK (knownBare [(20, [], .bool true)]) (orK (leftK 16) (spoilK 19))
theorem x1ok : XOk Try.prog X1 := (knownBare_ok (XOk.none _) conv mixed (by
  intro x hx
  simp only [List.mem_singleton] at hx
  subst hx
  exact ⟨rfl, rfl, 300, by rw [← acallF_eq]; exact lives⟩)).or ((leftK_ok conv mixed (f := 16) (fS := 18) rfl rfl).or (spoilK_ok conv mixed (f := 19) rfl))
theorem lives20 (h : Heap) : xcall X1 tab (.fn 20) [] h = some (.bool true, h) := ofRun (n := 1) (by kernel_rfl)
theorem hk16 : ∀ args h r, leftK 16 16 args h = some r → X1 16 args h = some r := fun args h r e => by
  show (match leftK 16 16 args h with | some r => some r | none => spoilK 19 16 args h) = some r
  rw [e]
theorem hk19 : ∀ args h r, spoilK 19 19 args h = some r → X1 19 args h = some r := fun args h r e => by
  show (match leftK 16 19 args h with | some r => some r | none => spoilK 19 19 args h) = some r
  have : leftK 16 19 args h = none := by simp [leftK]
  rw [this, e]
def W : XdrW X1 tab where
  sized := 54
  len64 := 55
  put := 48
  rsize := 49
  rput := 36
  pad := 38
  rpad := 39
  kx := fun f args h e => by rcases e with rfl | rfl | rfl | rfl | rfl | rfl | rfl <;> rfl
  s1 := rfl
  s2 := rfl
  s3 := rfl
  s4 := rfl
  s5 := rfl
  s6 := rfl
  s7 := rfl
  lay := 37
  wnum := 35
  wNumber := 8
  wGreat := 10
  wTruth := 12
  wBytes := 14
  bare := 17
  clone := 40
  rNumber := 9
  rGreat := 11
  rTruth := 13
  rBytes := 15
  kx2 := fun f args h e => by rcases e with rfl | rfl | rfl | rfl | rfl | rfl | rfl | rfl | rfl | rfl | rfl | rfl <;> rfl
  s8 := rfl
  s9 := rfl
  s10 := rfl
  s11 := rfl
  s12 := rfl
  s13 := rfl
  s14 := rfl
  s15 := rfl
  s16 := rfl
  s17 := rfl
  s18 := rfl
  s19 := rfl

/-- A thing. -/
structure Thing where
  what : Int
  n : Int
  is : Bool
  b : List Int
  most : Int
def ThingAt (h : Heap) (row : List AV) (a : Thing) : Prop := ∃ v, row = [.int .u8 a.what, .int .u64 a.n, .bool a.is, v, .int .i64 a.most] ∧ BytesAt h v a.b ∧ a.b.length ≤ 1048576 ∧ (0 ≤ a.n ∧ a.n ≤ 18446744073709551615) ∧ (0 ≤ a.what ∧ a.what ≤ 255) ∧ (-9223372036854775808 ≤ a.most ∧ a.most ≤ 9223372036854775807) ∧ ∀ c ∈ a.b, 0 ≤ c ∧ c ≤ 255
theorem ThingAt.grow {h h' : Heap} {row : List AV} {a : Thing} (ha : ThingAt h row a) (g : Grow h h') : ThingAt h' row a := by
  obtain ⟨v, e, hb, hn⟩ := ha
  exact ⟨v, e, hb.grow g, hn⟩
/-- A row of the arguments is a thing. -/
theorem thing_row {h h' : Heap} {cs : List AV} (hx : cellsX Try.prog 1048576 4 29 h cs h') : ∃ a, ThingAt h' cs a ∧ cs.length = 5 ∧ Grow h h' := by
  obtain ⟨l, hl, rfl⟩ := cellsX_struct Try.underlying29 hx
  obtain ⟨c1, _, h1, rfl, e1, hl⟩ := listX_cons hl
  obtain ⟨c2, _, h2, rfl, e2, hl⟩ := listX_cons hl
  obtain ⟨c3, _, h3, rfl, e3, hl⟩ := listX_cons hl
  obtain ⟨c4, _, h4, rfl, e4, hl⟩ := listX_cons hl
  obtain ⟨c5, _, h5, rfl, e5, hl⟩ := listX_cons hl
  obtain ⟨rfl, rfl⟩ := listX_nil hl
  obtain ⟨what, rfl, w1, rfl⟩ := cellsX_int Try.underlying5 e1
  obtain ⟨n, rfl, w2, rfl⟩ := cellsX_int Try.underlying27 e2
  obtain ⟨is, rfl, rfl⟩ := cellsX_bool Try.underlying4 e3
  obtain ⟨most, rfl, w5, rfl⟩ := cellsX_int Try.underlying3 e5
  have b1 : 0 ≤ what ∧ what ≤ 255 := by simpa [wfInt, IntKind.signed, IntKind.bits, IntKind.min, IntKind.max] using w1
  have b2 : 0 ≤ n ∧ n ≤ 18446744073709551615 := by simpa [wfInt, IntKind.signed, IntKind.bits, IntKind.min, IntKind.max] using w2
  have b5 : -9223372036854775808 ≤ most ∧ most ≤ 9223372036854775807 := by simpa [wfInt, IntKind.signed, IntKind.bits, IntKind.min, IntKind.max] using w5
  rcases cellsX_slice Try.underlying24 e4 with ⟨rfl, rfl⟩ | ⟨len, ys, h7, e7, hN, _, rfl, rfl⟩
  · exact ⟨⟨what, n, is, [], most⟩, ⟨.nilsl, rfl, .inl ⟨rfl, rfl⟩, by simp, b2, b1, b5, by simp⟩, rfl, .refl _⟩
  · obtain ⟨rfl, bs, hbl, hwf, e8⟩ := listX_ints Try.underlying5 e7
    have hc : Try.prog.cellsOf 5 = 1 := by kernel_rfl
    subst hbl
    refine ⟨⟨what, n, is, bs, most⟩, ⟨.slice _ 0 bs.length bs.length false 1, by rw [hc]; rfl, .inr ⟨_, 0, bs.length, false, ys.flatten, true, rfl, Nat.le_refl _, by rw [Heap.get_alloc, if_pos rfl], by rw [e8]; simp, by rw [e8]; simp [ints, List.take_of_length_le]⟩, hN, b2, b1, b5, fun c hc => by simpa [wfInt, IntKind.signed, IntKind.bits, IntKind.min, IntKind.max] using hwf c hc⟩, rfl, Grow.alloc _ _⟩
theorem thing_rows : ∀ (n : Nat) {h h' : Heap} {ass : List (List AV)}, listX (cellsX Try.prog 1048576 4) (List.replicate n 29) h ass h' → ass.length = n ∧ Grow h h' ∧ ∀ row ∈ ass, row.length = 5 ∧ ∃ a, ThingAt h' row a
  | 0, h, h', ass, hx => by
    obtain ⟨rfl, rfl⟩ := listX_nil hx
    exact ⟨rfl, .refl _, fun r hr => by cases hr⟩
  | n + 1, h, h', ass, hx => by
    obtain ⟨row, l, h1, rfl, e1, e2⟩ := listX_cons hx
    obtain ⟨a, q1, q2, q3⟩ := thing_row e1
    obtain ⟨r1, r2, r3⟩ := thing_rows n e2
    refine ⟨by simp [r1], q3.trans r2, fun x hx => ?_⟩
    rcases List.mem_cons.1 hx with rfl | hx
    · exact ⟨q2, a, q1.grow r2⟩
    · exact r3 x hx
/-- The rows are these things. -/
def Things2 (h0 : Heap) (rows : List (List AV)) (ts : List Thing) : Prop := ts.length = rows.length ∧ ∀ (i : Nat) (row : List AV), rows[i]? = some row → ∃ a, ts[i]? = some a ∧ ThingAt h0 row a
theorem things_of {h0 : Heap} : ∀ (rows : List (List AV)), (∀ row ∈ rows, ∃ a, ThingAt h0 row a) → ∃ ts, Things2 h0 rows ts
  | [], _ => ⟨[], rfl, fun i row e => by simp at e⟩
  | row :: rows, h => by
    obtain ⟨a, ha⟩ := h row (List.mem_cons_self)
    obtain ⟨ts, h1, h2⟩ := things_of rows fun r hr => h r (List.mem_cons_of_mem _ hr)
    refine ⟨a :: ts, by simp [h1], fun i r e => ?_⟩
    cases i with
    | zero => simp at e; subst e; exact ⟨a, rfl, ha⟩
    | succ i => simpa using h2 i r (by simpa using e)
theorem load_cell {esz : Nat} {h : Heap} {b : Nat} {rows : List (List AV)} {ro : Bool} (hg : h.get b = some (.cells rows.flatten ro)) (hall : ∀ r ∈ rows, r.length = esz) {i : Nat} {row : List AV} (hi : rows[i]? = some row) {k : Nat} {v : AV} (hk : row[k]? = some v) : loadA h false 1 b (i * esz + k) = some v := by
  have hlt : i < rows.length := by
    rcases Nat.lt_or_ge i rows.length with h | h
    · exact h
    · rw [List.getElem?_eq_none h] at hi; cases hi
  have hr : rows[i] = row := by rw [List.getElem?_eq_getElem hlt] at hi; exact Option.some.inj hi
  have hsp : rows = rows.take i ++ row :: rows.drop (i + 1) := by rw [← hr, ← List.drop_eq_getElem_cons hlt, List.take_append_drop]
  have ht : (rows.take i).flatten.length = i * esz := by
    rw [rows_len (fun r hr => hall r (List.mem_of_mem_take hr)), List.length_take, Nat.min_eq_left (by omega)]
  have hrl : row.length = esz := hall row (List.mem_of_getElem? hi)
  have hc : rows.flatten = (rows.take i).flatten ++ (row ++ (rows.drop (i + 1)).flatten) := by
    conv => lhs; rw [hsp]
    simp
  have hkl : k < row.length := by
    rcases Nat.lt_or_ge k row.length with h | h
    · exact h
    · rw [List.getElem?_eq_none h] at hk; cases hk
  rw [load_of hg, hc, List.getElem?_append_right (by omega), ht, show i * esz + k - i * esz = k by omega, List.getElem?_append_left hkl]
  exact hk
def ThingsAt (h0 : Heap) (b : Nat) (rows : List (List AV)) : Prop := b < h0.next ∧ h0.get b = some (.cells rows.flatten true) ∧ (∀ r ∈ rows, r.length = 5) ∧ ∀ (i : Nat) (row : List AV), rows[i]? = some row → ∃ a, ThingAt h0 row a
end Go.Proofs.Ytndcokalnpnbgaa.Ya
