/-
  Arguments opened, shape by shape.
-/
import Derived.Test.YtekbgdmemenheaaYaLaw
namespace Go.Ya
set_option linter.unusedVariables false
set_option linter.unusedSimpArgs false

section
variable {P : Program} {N k : Nat} {t : TypeId} {ts : List TypeId} {h h' : Heap} {a : AV} {xs cs : List AV} {ys : List (List AV)}

theorem argsX_nil (hx : argsX P N k [] h xs h') : xs = [] ∧ h' = h := by
  cases xs with
  | nil => exact ⟨rfl, hx⟩
  | cons a r => exact hx.elim
theorem argsX_cons (hx : argsX P N k (t :: ts) h xs h') : ∃ a r h1, xs = a :: r ∧ argX P N k t h a h1 ∧ argsX P N k ts h1 r h' := by
  cases xs with
  | nil => exact hx.elim
  | cons a r => obtain ⟨h1, e1, e2⟩ := hx; exact ⟨a, r, h1, rfl, e1, e2⟩
theorem listX_nil {r : TypeId → Heap → List AV → Heap → Prop} (hx : listX r [] h ys h') : ys = [] ∧ h' = h := by
  cases ys with
  | nil => exact ⟨rfl, hx⟩
  | cons a l => exact hx.elim
theorem listX_cons {r : TypeId → Heap → List AV → Heap → Prop} (hx : listX r (t :: ts) h ys h') : ∃ a l h1, ys = a :: l ∧ r t h a h1 ∧ listX r ts h1 l h' := by
  cases ys with
  | nil => exact hx.elim
  | cons a l => obtain ⟨h1, e1, e2⟩ := hx; exact ⟨a, l, h1, rfl, e1, e2⟩

theorem cellsX_bool (hu : P.underlying t = some .bool) (hx : cellsX P N (k + 1) t h cs h') : ∃ b, cs = [.bool b] ∧ h' = h := by
  unfold cellsX at hx; rw [hu] at hx; obtain ⟨⟨b, e⟩, e'⟩ := hx; exact ⟨b, e, e'⟩
theorem cellsX_int {kd : IntKind} (hu : P.underlying t = some (.int kd)) (hx : cellsX P N (k + 1) t h cs h') : ∃ n, cs = [.int kd n] ∧ wfInt kd n = true ∧ h' = h := by
  unfold cellsX at hx; rw [hu] at hx; obtain ⟨⟨b, e, w⟩, e'⟩ := hx; exact ⟨b, e, w, e'⟩
theorem cellsX_string (hu : P.underlying t = some .string) (hx : cellsX P N (k + 1) t h cs h') : ∃ l, cs = [.str l] ∧ (∀ b ∈ l, wfInt .u8 b = true) ∧ l.length ≤ N ∧ h' = h := by
  unfold cellsX at hx; rw [hu] at hx; obtain ⟨⟨b, e, w, q⟩, e'⟩ := hx; exact ⟨b, e, w, q, e'⟩
theorem cellsX_slice {e : TypeId} (hu : P.underlying t = some (.slice e)) (hx : cellsX P N (k + 1) t h cs h') : (cs = [.nilsl] ∧ h' = h) ∨ ∃ len ass h1, listX (cellsX P N k) (List.replicate len e) h ass h1 ∧ len ≤ N ∧ ass.flatten.length = len * P.cellsOf e ∧
    cs = [.slice h1.next 0 len len false (P.cellsOf e)] ∧ h' = h1.alloc (.cells ass.flatten true) := by
  unfold cellsX at hx; rw [hu] at hx; exact hx
theorem cellsX_struct {fs : Array Field} (hu : P.underlying t = some (.struct fs)) (hx : cellsX P N (k + 1) t h cs h') : ∃ ass, listX (cellsX P N k) (fs.toList.map (·.type)) h ass h' ∧ cs = ass.flatten := by
  unfold cellsX at hx; rw [hu] at hx; exact hx
theorem cellsX_array {n : Nat} {e : TypeId} (hu : P.underlying t = some (.array n e)) (hx : cellsX P N (k + 1) t h cs h') : ∃ ass, listX (cellsX P N k) (List.replicate n e) h ass h' ∧ cs = ass.flatten := by
  unfold cellsX at hx; rw [hu] at hx; exact hx

theorem argX_bool (hu : P.underlying t = some .bool) (hx : argX P N (k + 1) t h a h') : ∃ b, a = .bool b ∧ h' = h := by
  unfold argX at hx; rw [hu] at hx; obtain ⟨b, e, e'⟩ := cellsX_bool hu hx; exact ⟨b, by simpa using e, e'⟩
theorem argX_int {kd : IntKind} (hu : P.underlying t = some (.int kd)) (hx : argX P N (k + 1) t h a h') : ∃ n, a = .int kd n ∧ wfInt kd n = true ∧ h' = h := by
  unfold argX at hx; rw [hu] at hx; obtain ⟨b, e, w, e'⟩ := cellsX_int hu hx; exact ⟨b, by simpa using e, w, e'⟩
theorem argX_string (hu : P.underlying t = some .string) (hx : argX P N (k + 1) t h a h') : ∃ l, a = .str l ∧ (∀ b ∈ l, wfInt .u8 b = true) ∧ l.length ≤ N ∧ h' = h := by
  unfold argX at hx; rw [hu] at hx; obtain ⟨b, e, w, q, e'⟩ := cellsX_string hu hx; exact ⟨b, by simpa using e, w, q, e'⟩
theorem argX_slice {e : TypeId} (hu : P.underlying t = some (.slice e)) (hx : argX P N (k + 1) t h a h') : (a = .nilsl ∧ h' = h) ∨ ∃ len ass h1, listX (cellsX P N k) (List.replicate len e) h ass h1 ∧ len ≤ N ∧ ass.flatten.length = len * P.cellsOf e ∧
    a = .slice h1.next 0 len len false (P.cellsOf e) ∧ h' = h1.alloc (.cells ass.flatten true) := by
  unfold argX at hx; rw [hu] at hx
  rcases cellsX_slice hu hx with ⟨e1, e2⟩ | ⟨len, ass, h1, g1, g2, g3, g4, g5⟩
  · exact .inl ⟨by simpa using e1, e2⟩
  · exact .inr ⟨len, ass, h1, g1, g2, g3, by simpa using g4, g5⟩
theorem argX_struct {fs : Array Field} (hu : P.underlying t = some (.struct fs)) (hx : argX P N (k + 1) t h a h') : ∃ ass, listX (cellsX P N k) (fs.toList.map (·.type)) h ass h' ∧ a = .agg ass.flatten := by
  unfold argX at hx; rw [hu] at hx
  obtain ⟨cs, e, hc⟩ := hx
  obtain ⟨ass, hl, rfl⟩ := cellsX_struct hu hc
  exact ⟨ass, hl, e⟩
theorem argX_array {n : Nat} {e : TypeId} (hu : P.underlying t = some (.array n e)) (hx : argX P N (k + 1) t h a h') : ∃ ass, listX (cellsX P N k) (List.replicate n e) h ass h' ∧ a = .agg ass.flatten := by
  unfold argX at hx; rw [hu] at hx
  obtain ⟨cs, e, hc⟩ := hx
  obtain ⟨ass, hl, rfl⟩ := cellsX_array hu hc
  exact ⟨ass, hl, e⟩

/-- A row of numbers. -/
theorem listX_ints {kd : IntKind} (hu : P.underlying t = some (.int kd)) : ∀ {n : Nat} {ys : List (List AV)}, listX (cellsX P N (k + 1)) (List.replicate n t) h ys h' → h' = h ∧ ∃ l : List Int, l.length = n ∧ (∀ i ∈ l, wfInt kd i = true) ∧ ys.flatten = l.map fun i => .int kd i
  | 0, ys, hx => by
    obtain ⟨rfl, rfl⟩ := listX_nil hx
    exact ⟨rfl, [], rfl, by simp, rfl⟩
  | n + 1, ys, hx => by
    obtain ⟨a, l, h1, rfl, e1, e2⟩ := listX_cons hx
    obtain ⟨m, rfl, w, hh⟩ := cellsX_int hu e1
    rw [hh] at e2
    obtain ⟨hh', l', g1, g2, g3⟩ := listX_ints hu e2
    exact ⟨hh', m :: l', by simp [g1], by simpa using ⟨w, g2⟩, by simp [g3]⟩
theorem listX_bools (hu : P.underlying t = some .bool) : ∀ {n : Nat} {ys : List (List AV)}, listX (cellsX P N (k + 1)) (List.replicate n t) h ys h' → h' = h ∧ ∃ l : List Bool, l.length = n ∧ ys.flatten = l.map fun i => .bool i
  | 0, ys, hx => by
    obtain ⟨rfl, rfl⟩ := listX_nil hx
    exact ⟨rfl, [], rfl, rfl⟩
  | n + 1, ys, hx => by
    obtain ⟨a, l, h1, rfl, e1, e2⟩ := listX_cons hx
    obtain ⟨m, rfl, hh⟩ := cellsX_bool hu e1
    rw [hh] at e2
    obtain ⟨hh', l', g1, g3⟩ := listX_bools hu e2
    exact ⟨hh', m :: l', by simp [g1], by simp [g3]⟩
theorem listX_strs (hu : P.underlying t = some .string) : ∀ {n : Nat} {ys : List (List AV)}, listX (cellsX P N (k + 1)) (List.replicate n t) h ys h' → h' = h ∧ ∃ l : List (List Int), l.length = n ∧ (∀ s ∈ l, s.length ≤ N ∧ ∀ b ∈ s, wfInt .u8 b = true) ∧ ys.flatten = l.map fun i => .str i
  | 0, ys, hx => by
    obtain ⟨rfl, rfl⟩ := listX_nil hx
    exact ⟨rfl, [], rfl, by simp, rfl⟩
  | n + 1, ys, hx => by
    obtain ⟨a, l, h1, rfl, e1, e2⟩ := listX_cons hx
    obtain ⟨m, rfl, w, q, hh⟩ := cellsX_string hu e1
    rw [hh] at e2
    obtain ⟨hh', l', g1, g2, g3⟩ := listX_strs hu e2
    exact ⟨hh', m :: l', by simp [g1], fun s hs => (List.mem_cons.1 hs).elim (fun e => e ▸ ⟨q, w⟩) (g2 s), by simp [g3]⟩
end
theorem fromMap {o : Option (AV × Heap)} {v : AV} (h : o.map (·.1) = some v) : ∃ h', o = some (v, h') := by
  obtain ⟨⟨a, b⟩, e, rfl⟩ := Option.map_eq_some_iff.1 h
  exact ⟨b, e⟩
theorem bulks_le {H : Type} (a b : List (DataW H)) : bulks a ≤ bulks (a ++ b) := by
  induction a with
  | nil => simp [bulks]
  | cons d r ih => simp [bulks]; omega

/-- A run that the kernel has done. -/
theorem ran {X : Known} {SP : FuncId → Option SFunc} (n : Nat) {f : FuncId} {xs : List AV} {h : Heap} (hr : (acall X SP n (.fn f) xs h).map (·.1) = some (.bool true)) :
    ∃ n h', acall X SP n (.fn f) xs h = some (.bool true, h') ∨ (AV.bares xs = true ∧ acall X SP n (.fn f) xs emptyHeap = some (.bool true, h')) :=
  let ⟨h', e⟩ := fromMap hr
  ⟨n, h', .inl e⟩
end Go.Ya
