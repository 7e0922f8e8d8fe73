/-
  Structs and arrays of plain parts: what == tells of them.
-/
import Derived.Laws.StructEq
import Derived.Test.YtekbgdmemenheaaYaOps3
namespace Go.Ya
set_option linter.unusedVariables false
set_option linter.unusedSimpArgs false

/-- Two plain cells. -/
def plain1 : AV → AV → Option Bool
  | .bool a, .bool b => some (a == b)
  | .int j a, .int k b => if j = k then some (a == b) else none
  | .str a, .str b => some (a == b)
  | _, _ => none
theorem plainEq_cons (x y : AV) (xs ys : List AV) : plainEq (x :: xs) (y :: ys) = (match plain1 x y with | some true => plainEq xs ys | r => r) := by
  cases x <;> cases y <;> simp only [plainEq, plain1]
  case bool.bool a b => cases a <;> cases b <;> rfl
  case int.int j a k b =>
    by_cases h : j = k
    · by_cases h2 : a = b
      · simp [h, h2]
      · simp [h, h2]
    · simp [h]
  case str.str a b =>
    by_cases h2 : a = b
    · simp [h2]
    · simp [h2]
theorem plainEq_append : ∀ {a b c d : List AV}, a.length = b.length → plainEq (a ++ c) (b ++ d) = (match plainEq a b with | some true => plainEq c d | r => r)
  | [], [], c, d, _ => rfl
  | x :: a, y :: b, c, d, h => by
    rw [List.cons_append, List.cons_append, plainEq_cons, plainEq_cons, plainEq_append (by simpa using h)]
    rcases plain1 x y with _ | _ | _ <;> rfl
theorem kindsOk_append : ∀ {k1 k2 : List Nat} {l : List AV}, kindsOk (k1 ++ k2) l = true → kindsOk k1 (l.take k1.length) = true ∧ kindsOk k2 (l.drop k1.length) = true ∧ k1.length ≤ l.length
  | [], k2, l, h => ⟨rfl, by simpa using h, by simp⟩
  | k :: k1, k2, [], h => by cases k with | zero => simp [kindsOk] at h | succ k => simp [kindsOk] at h
  | k :: k1, k2, v :: l, h => by
    rw [List.cons_append, kindsOk, Bool.and_eq_true] at h
    obtain ⟨h1, h2, h3⟩ := kindsOk_append h.2
    refine ⟨?_, by simpa using h2, by simpa using h3⟩
    rw [List.length_cons, List.take_succ_cons, kindsOk, Bool.and_eq_true]
    exact ⟨h.1, h1⟩
theorem kindsOk_len : ∀ {ks : List Nat} {l : List AV}, kindsOk ks l = true → l.length = ks.length
  | [], [], _ => rfl
  | k :: ks, v :: l, h => by
    rw [kindsOk, Bool.and_eq_true] at h
    simp [kindsOk_len h.2]

/-- What a value of a type is: one that has cells, or a cell. -/
def Cov (b : Bool) (x : AV) (xs : List AV) : Prop := (b = true ∧ x = .agg xs) ∨ (b = false ∧ xs = [x])

section
variable {P : Program} {μ : Mu}
theorem plainTy_flat {d : Nat} {t : TypeId} {ks : List Nat} (e : plainTy P (d + 1) t = some ks) (ha : aggr? P t = some false) : (P.underlying t = some .bool ∧ ks = [0]) ∨ (∃ k, P.underlying t = some (.int k) ∧ ks = [1]) ∨ (P.underlying t = some .string ∧ ks = [2]) := by
  simp only [plainTy] at e
  split at e
  · cases e; exact .inl ⟨‹_›, rfl⟩
  · cases e; exact .inr (.inl ⟨_, ‹_›, rfl⟩)
  · cases e; exact .inr (.inr ⟨‹_›, rfl⟩)
  · rename_i h; simp [aggr?, h] at ha
  · rename_i h; simp [aggr?, h] at ha
  · cases e

theorem eq_flat {d : Nat} {t : TypeId} {ks : List Nat} {x y : AV} {x' y' : Value} {w : World} {r : Bool} (D : Nat) (e : plainTy P (d + 1) t = some ks) (ha : aggr? P t = some false) (hx : V μ x x') (hy : V μ y y') (kx : kindsOk ks [x] = true) (ky : kindsOk ks [y] = true)
    (hr : plainEq [x] [y] = some r) : (Op.equalIn (D + 1) t x' y').run P w = .ok r w := by
  rw [plainEq_cons] at hr
  have hr : plain1 x y = some r := by
    cases hp : plain1 x y with
    | none => rw [hp] at hr; cases hr
    | some b => rw [hp] at hr; cases b <;> exact hr
  rcases plainTy_flat e ha with ⟨hu, rfl⟩ | ⟨k0, hu, rfl⟩ | ⟨hu, rfl⟩ <;>
    cases x <;> simp [kindsOk, kindOk] at kx <;> cases y <;> simp [kindsOk, kindOk] at ky <;> cases hx <;> cases hy
  · cases hr; rw [run_equalIn_bool' _ _ _ _ _ hu]
  · rename_i j a k b _ _
    simp only [plain1] at hr
    split at hr
    · subst_vars; cases hr; rw [run_equalIn_int _ _ _ _ _ _ _ hu]
    · cases hr
  · rename_i a b _ _ _ _ _ _
    simp only [plain1] at hr
    cases hr
    subst_vars
    rw [run_equalIn_string _ _ _ _ _ hu, bytesOf_beq]

theorem eq_struct {D d : Nat} (ih : ∀ {t : TypeId} {ks : List Nat} {b : Bool} {x y : AV} {x' y' : Value} {xs ys : List AV} {w : World} {r : Bool}, plainTy P d t = some ks → aggr? P t = some b → V μ x x' → V μ y y' → Cov b x xs → Cov b y ys →
      kindsOk ks xs = true → kindsOk ks ys = true → plainEq xs ys = some r → (Op.equalIn D t x' y').run P w = .ok r w) :
    ∀ {fs : List Field} {off : Nat} {ks : List Nat} {xs ys : List AV} {xs' ys' : Array Value} {w : World} {r : Bool}, plainFs P (plainTy P d) off fs = some ks → Vs μ xs xs'.toList → Vs μ ys ys'.toList → xs.all AV.flat = true → ys.all AV.flat = true →
      kindsOk ks (xs.drop off) = true → kindsOk ks (ys.drop off) = true → plainEq (xs.drop off) (ys.drop off) = some r → (Op.eqFields D xs' ys' fs).run P w = .ok r w
  | [], off, ks, xs, ys, xs', ys', w, r, e, hx, hy, fx, fy, kx, ky, hr => by
    simp only [plainFs, Option.some.injEq] at e
    subst e
    have h1 := kindsOk_len kx
    have h2 := kindsOk_len ky
    rw [List.length_nil, List.length_eq_zero_iff] at h1 h2
    rw [h1, h2] at hr
    cases hr
    simp [Op.eqFields]
  | f :: fs, off, ks, xs, ys, xs', ys', w, r, e, hx, hy, fx, fy, kx, ky, hr => by
    simp only [plainFs] at e
    split at e
    case h_2 => cases e
    rename_i k1 n b hk hn hb
    split at e
    case isFalse => cases e
    rename_i hc
    obtain ⟨hc1, hc2, hc3⟩ := hc
    simp only [Option.map_eq_some_iff] at e
    obtain ⟨k2, e2, rfl⟩ := e
    obtain ⟨x1, x2, x3⟩ := kindsOk_append kx
    obtain ⟨y1, y2, y3⟩ := kindsOk_append ky
    rw [List.drop_drop] at x2 y2
    have hsp : ∀ l : List AV, l.drop off = (l.drop off).take k1.length ++ l.drop (off + k1.length) := fun l => by rw [← List.drop_drop, List.take_append_drop]
    rw [hsp xs, hsp ys, plainEq_append (by rw [kindsOk_len x1, kindsOk_len y1])] at hr
    -- the part
    have part_of : ∀ {l : List AV} {l' : Array Value}, Vs μ l l'.toList → l.all AV.flat = true → kindsOk k1 ((l.drop off).take k1.length) = true → ∃ v v', (part f.type l' f.offset).run P w = .ok v' w ∧ V μ v v' ∧ Cov b v ((l.drop off).take k1.length) := by
      intro l l' hl hf hk'
      cases b with
      | true =>
        obtain ⟨v', q1, q2⟩ := part_sim (w := w) hb hn hl hf (off := f.offset) (v := .agg ((l.drop f.offset).take n)) rfl
        exact ⟨_, v', q1, q2, .inl ⟨rfl, by rw [hc1, hc2]⟩⟩
      | false =>
        have h1 : k1.length = 1 := by
          cases d with
          | zero => simp [plainTy] at hk
          | succ d => rcases plainTy_flat hk hb with ⟨_, rfl⟩ | ⟨_, _, rfl⟩ | ⟨_, rfl⟩ <;> rfl
        have hl1 := kindsOk_len hk'
        rw [h1] at hl1 ⊢
        obtain ⟨v, hv⟩ := List.length_eq_one_iff.1 hl1
        have hv2 : l[off]? = some v := by
          have : ((l.drop off).take 1)[0]? = some v := by rw [hv]; rfl
          rw [List.getElem?_take] at this
          simpa using this
        obtain ⟨v', q1, q2⟩ := part_sim (w := w) hb hn hl hf (off := f.offset) (v := v) (by rw [hc1]; simpa using hv2)
        exact ⟨v, v', q1, q2, .inr ⟨rfl, hv⟩⟩
    obtain ⟨vx, vx', px, qx, cx⟩ := part_of hx fx x1
    obtain ⟨vy, vy', py, qy, cy⟩ := part_of hy fy y1
    simp only [Op.eqFields, ne_eq, hc3, not_false_eq_true, if_true, Sem.run_bind, px, py, Result.andThen_ok]
    cases hq : plainEq ((xs.drop off).take k1.length) ((ys.drop off).take k1.length) with
    | none => rw [hq] at hr; cases hr
    | some q =>
      rw [hq] at hr
      rw [ih hk hb qx qy cx cy x1 y1 hq, Result.andThen_ok]
      cases q with
      | false => cases hr; simp
      | true =>
        simp only [Bool.not_true, Bool.false_eq_true, if_false]
        exact eq_struct ih e2 hx hy fx fy x2 y2 hr

/-- What is told of the elements from one on. -/
def eqElems (D : Nat) (e : TypeId) (n : Nat) (xs ys : Array Value) : List Nat → Sem Bool
  | [] => pure true
  | i :: l => do
    let a ← part e xs (i * n)
    let b ← part e ys (i * n)
    let r ← Op.equalIn D e a b
    if (!r) = true then pure false else eqElems D e n xs ys l
theorem run_equalIn_array (w : World) (D : Nat) {t e : TypeId} {len n : Nat} (xs ys : Array Value) (ht : P.underlying t = some (.array len e)) (hn : sz P e = some n) :
    (Op.equalIn (D + 1) t (.agg xs) (.agg ys)).run P w = (eqElems D e n xs ys (List.range' 0 len)).run P w := by
  simp only [Op.equalIn, Sem.run_bind, und_run ht, Result.andThen_ok, sz_run hn, Std.Legacy.Range.forIn_eq_forIn_range', Std.Legacy.Range.size, Nat.sub_zero, Nat.add_one_sub_one, Nat.div_one]
  generalize List.range' 0 len = fs
  clear ht
  induction fs generalizing w with
  | nil => simp [eqElems]
  | cons f fs ih =>
    simp only [List.forIn_cons, eqElems, Sem.run_bind, Sem.run_ite]
    generalize (part e xs (f * n)).run P w = r1
    cases r1 with
    | ok a w1 =>
      simp only [Result.andThen_ok]
      generalize (part e ys (f * n)).run P w1 = r2
      cases r2 with
      | ok b w2 =>
        simp only [Result.andThen_ok]
        generalize (Op.equalIn D e a b).run P w2 = r3
        cases r3 with
        | ok r w3 =>
          cases r
          · simp only [Result.andThen_ok, Bool.not_false, if_true, Sem.run_pure]
          · simp only [Result.andThen_ok, Bool.not_true, Bool.false_eq_true, if_false, Sem.run_pure]
            exact ih w3
        | halt x w3 => simp [Result.andThen]
      | halt x w2 => simp [Result.andThen]
    | halt x w1 => simp [Result.andThen]

theorem eq_array {D d : Nat} {e : TypeId} {k1 : List Nat} {b : Bool} {n : Nat} (hk : plainTy P d e = some k1) (hb : aggr? P e = some b) (hn : sz P e = some n) (hc1 : k1.length = n)
    (ih : ∀ {x y : AV} {x' y' : Value} {xs ys : List AV} {w : World} {r : Bool}, V μ x x' → V μ y y' → Cov b x xs → Cov b y ys →
      kindsOk k1 xs = true → kindsOk k1 ys = true → plainEq xs ys = some r → (Op.equalIn D e x' y').run P w = .ok r w) :
    ∀ {m i : Nat} {xs ys : List AV} {xs' ys' : Array Value} {w : World} {r : Bool}, Vs μ xs xs'.toList → Vs μ ys ys'.toList → xs.all AV.flat = true → ys.all AV.flat = true →
      kindsOk (List.replicate m k1).flatten (xs.drop (i * n)) = true → kindsOk (List.replicate m k1).flatten (ys.drop (i * n)) = true → plainEq (xs.drop (i * n)) (ys.drop (i * n)) = some r → (eqElems D e n xs' ys' (List.range' i m)).run P w = .ok r w
  | 0, i, xs, ys, xs', ys', w, r, hx, hy, fx, fy, kx, ky, hr => by
    have h1 := kindsOk_len kx
    have h2 := kindsOk_len ky
    rw [List.replicate_zero, List.flatten_nil, List.length_nil, List.length_eq_zero_iff] at h1 h2
    rw [h1, h2] at hr
    cases hr
    simp [eqElems]
  | m + 1, i, xs, ys, xs', ys', w, r, hx, hy, fx, fy, kx, ky, hr => by
    rw [List.replicate_succ, List.flatten_cons] at kx ky
    obtain ⟨x1, x2, x3⟩ := kindsOk_append kx
    obtain ⟨y1, y2, y3⟩ := kindsOk_append ky
    have hin : i * n + k1.length = (i + 1) * n := by rw [hc1, Nat.succ_mul]
    rw [List.drop_drop, hin] at x2 y2
    have hsp : ∀ l : List AV, l.drop (i * n) = (l.drop (i * n)).take k1.length ++ l.drop ((i + 1) * n) := fun l => by rw [← hin, ← List.drop_drop, List.take_append_drop]
    rw [hsp xs, hsp ys, plainEq_append (by rw [kindsOk_len x1, kindsOk_len y1])] at hr
    have part_of : ∀ {l : List AV} {l' : Array Value}, Vs μ l l'.toList → l.all AV.flat = true → kindsOk k1 ((l.drop (i * n)).take k1.length) = true → ∃ v v', (part e l' (i * n)).run P w = .ok v' w ∧ V μ v v' ∧ Cov b v ((l.drop (i * n)).take k1.length) := by
      intro l l' hl hf hk'
      cases b with
      | true =>
        obtain ⟨v', q1, q2⟩ := part_sim (w := w) hb hn hl hf (off := i * n) (v := .agg ((l.drop (i * n)).take n)) rfl
        exact ⟨_, v', q1, q2, .inl ⟨rfl, by rw [hc1]⟩⟩
      | false =>
        have h1 : k1.length = 1 := by
          cases d with
          | zero => simp [plainTy] at hk
          | succ d => rcases plainTy_flat hk hb with ⟨_, rfl⟩ | ⟨_, _, rfl⟩ | ⟨_, rfl⟩ <;> rfl
        have hl1 := kindsOk_len hk'
        rw [h1] at hl1 ⊢
        obtain ⟨v, hv⟩ := List.length_eq_one_iff.1 hl1
        have hv2 : l[i * n]? = some v := by
          have : ((l.drop (i * n)).take 1)[0]? = some v := by rw [hv]; rfl
          rw [List.getElem?_take] at this
          simpa using this
        obtain ⟨v', q1, q2⟩ := part_sim (w := w) hb hn hl hf (off := i * n) (v := v) (by simpa using hv2)
        exact ⟨v, v', q1, q2, .inr ⟨rfl, hv⟩⟩
    obtain ⟨vx, vx', px, qx, cx⟩ := part_of hx fx x1
    obtain ⟨vy, vy', py, qy, cy⟩ := part_of hy fy y1
    rw [List.range'_succ]
    simp only [eqElems, Sem.run_bind, px, py, Result.andThen_ok]
    cases hq : plainEq ((xs.drop (i * n)).take k1.length) ((ys.drop (i * n)).take k1.length) with
    | none => rw [hq] at hr; cases hr
    | some q =>
      rw [hq] at hr
      rw [ih qx qy cx cy x1 y1 hq, Result.andThen_ok]
      cases q with
      | false => cases hr; simp
      | true =>
        simp only [Bool.not_true, Bool.false_eq_true, if_false]
        exact eq_array hk hb hn hc1 ih hx hy fx fy x2 y2 hr

theorem eq_sim : ∀ (d : Nat) {D : Nat} {t : TypeId} {ks : List Nat} {b : Bool} {x y : AV} {x' y' : Value} {xs ys : List AV} {w : World} {r : Bool}, plainTy P d t = some ks → d ≤ D → aggr? P t = some b → V μ x x' → V μ y y' → Cov b x xs → Cov b y ys →
    kindsOk ks xs = true → kindsOk ks ys = true → plainEq xs ys = some r → (Op.equalIn D t x' y').run P w = .ok r w
  | 0, _, _, _, _, _, _, _, _, _, _, _, _, e, _, _, _, _, _, _, _, _, _ => by simp [plainTy] at e
  | d + 1, 0, _, _, _, _, _, _, _, _, _, _, _, _, h, _, _, _, _, _, _, _, _ => by omega
  | d + 1, D + 1, t, ks, b, x, y, x', y', xs, ys, w, r, e, hd, hb, hx, hy, cx, cy, kx, ky, hr => by
    cases b with
    | false =>
      rcases cx with ⟨h, _⟩ | ⟨_, rfl⟩
      · cases h
      rcases cy with ⟨h, _⟩ | ⟨_, rfl⟩
      · cases h
      exact eq_flat D e hb hx hy kx ky hr
    | true =>
      rcases cx with ⟨_, rfl⟩ | ⟨h, _⟩
      case inr => cases h
      rcases cy with ⟨_, rfl⟩ | ⟨h, _⟩
      case inr => cases h
      cases hx with | agg _ xs' hvx hfx => cases hy with | agg _ ys' hvy hfy =>
      simp only [plainTy] at e
      split at e
      · rename_i h; simp [aggr?, h] at hb
      · rename_i h; simp [aggr?, h] at hb
      · rename_i h; simp [aggr?, h] at hb
      · rename_i fs hu
        split at e
        case isTrue => cases e
        rename_i hst
        have hfo : P.fieldsOf t = fs := by simp [Program.fieldsOf, hu]
        rw [run_equalIn_struct w D t xs' ys' (by rw [hfo]; exact hu) (by simpa using hst), hfo]
        exact eq_struct (d := d) (fun e hb hx hy cx cy kx ky hr => eq_sim d e (by omega) hb hx hy cx cy kx ky hr) e hvx hvy hfx hfy (by simpa using kx) (by simpa using ky) (by simpa using hr)
      · rename_i len el hu
        split at e
        case h_2 => cases e
        rename_i k1 n b' hk hn hb'
        split at e
        case isFalse => cases e
        rename_i hc
        cases e
        rw [run_equalIn_array w D xs' ys' hu hn]
        exact eq_array hk hb' hn hc (fun hx hy cx cy kx ky hr => eq_sim d hk (by omega) hb' hx hy cx cy kx ky hr) (i := 0) hvx hvy hfx hfy (by simpa using kx) (by simpa using ky) (by simpa using hr)
      · cases e
end
end Go.Ya
