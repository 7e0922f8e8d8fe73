/-
  Xdr: what was laid is told, a part of it is not; what was told was laid.
-/
import Derived.Test.YtpoccinfeekdhaaDoorYaXT
import Derived.Test.YtpoccinfeekdhaaDoorYbL
namespace Go.Proofs.YtpoccinfeekdhaaDoor.Ya
open Go.Ya
set_option linter.unusedVariables false
set_option linter.unusedSimpArgs false
set_option maxRecDepth 100000
theorem valBE_beL (N : Nat) : ∀ k, valBE (beL (N : Int) k) = ((N % 256 ^ k : Nat) : Int)
  | 0 => by simp [beL, valBE, Nat.mod_one]
  | k + 1 => by
    simp only [beL]
    rw [valBE_cons, valBE_beL N k, beL_len]
    have hb : beB (N : Int) k = ((N / 256 ^ k % 256 : Nat) : Int) := by unfold beB; simp
    rw [hb, Nat.pow_succ, Nat.mod_mul]
    have hp : ((256 : Int) ^ k) = ((256 ^ k : Nat) : Int) := by simp
    rw [hp]
    generalize 256 ^ k = p
    rw [Nat.mul_comm p, ← Int.natCast_mul, ← Int.natCast_add, Nat.add_comm]
theorem p4 : (256 : Int) ^ 4 = 4294967296 := by decide
theorem p8 : (256 : Int) ^ 8 = 18446744073709551616 := by decide
structure TellsA {α : Type} (f : List Int × Int → α × (List Int × Int)) (E : List Int) (v : α) : Prop where
  all : ∀ tl, f (E ++ tl, 0) = (v, (tl, 0))
  cut : ∀ c, c < E.length → (f (E.take c, 0)).2.2 = 4
  bad : ∀ s : List Int × Int, s.2 ≠ 0 → (f s).2 = s
def Part (s : List Int × Int) (R : List Int) : Prop := s.2 = 4 ∨ ∃ c, c < R.length ∧ s = (R.take c, 0)
theorem Part.end {s : List Int × Int} (p : Part s []) : s.2 = 4 := by
  rcases p with e | ⟨c, h, _⟩
  · exact e
  · simp at h
theorem TellsA.step {α : Type} {f : List Int × Int → α × (List Int × Int)} {E R : List Int} {v : α} (t : TellsA f E v) {s : List Int × Int} (p : Part s (E ++ R)) : (f s).2.2 = 4 ∨ ((f s).1 = v ∧ Part (f s).2 R) := by
  rcases p with e | ⟨c, h, rfl⟩
  · exact .inl (by rw [t.bad s qo]; exact e)
  · rcases Nat.lt_or_ge c E.length with hc | hc
    · rw [List.take_append_of_le_length qo]; exact .inl (t.cut c hc)
    · rw [List.take_append, List.take_of_length_le hc, t.all]
      rw [List.length_append] at h
      exact .inr ⟨rfl, .inr ⟨c - E.length, by omega, rfl⟩⟩
theorem TellsA.go {α : Type} {f : List Int × Int → α × (List Int × Int)} {E R : List Int} {v : α} (t : TellsA f E v) {s s1 : List Int × Int} {w : α} (p : Part s (E ++ R)) (e : f s = (w, s1)) : s1.2 = 4 ∨ (w = v ∧ Part s1 R) := by
  have := t.step p
  rw [e] at this
  exact this
theorem TellsA.at {α : Type} {f : List Int × Int → α × (List Int × Int)} {E R : List Int} {v : α} (t : TellsA f E v) {s s1 : List Int × Int} {w : α} (p : s = (E ++ R, 0)) (e : f s = (w, s1)) : w = v ∧ s1 = (R, 0) := by
  rw [p, t.all] at e
  injection e with e1 e2
  exact ⟨e1.symm, e2.symm⟩
theorem TellsA.st {α : Type} {f : List Int × Int → α × (List Int × Int)} {E : List Int} {v : α} (t : TellsA f E v) {s s1 : List Int × Int} {w : α} (p : s.2 = 4) (e : f s = (w, s1)) : s1.2 = 4 := by
  have := t.bad s qo
  rw [e] at this
  rw [show s1 = s from this]; exact p
theorem rdN_tells {n : Int} {k : Nat} (h0 : 0 ≤ n) (h1 : n < 256 ^ k) : TellsA (rdN k) (beL n k) n where
  all tl := by
    have hl : ¬ (beL n k ++ tl).length < k := by simp [beL_len]
    have ht : (beL n k ++ tl).take k = beL n k := List.take_left' (beL_len n k)
    have hd : (beL n k ++ tl).drop k = tl := by rw [List.drop_left' (beL_len n k)]
    obtain ⟨N, rfl⟩ : ∃ N : Nat, n = N := ⟨n.toNat, by omega⟩
    have hN : N < 256 ^ k := by
      have hp : ((256 : Int) ^ k) = ((256 ^ k : Nat) : Int) := by simp
      rw [hp] at h1; omega
    simp only [rdN, if_true, hl, if_false, ht, hd, valBE_beL, Nat.mod_eq_of_lt hN]
  cut c hc := by
    rw [beL_len] at hc
    rw [rdN_short rfl (by simp only [List.length_take, beL_len]; omega)]
  bad s hs := by rw [rdN_bad hs]
theorem rdT_tells (t : Bool) : TellsA rdT (beL (if t = true then 1 else 0) 4) t where
  all tl := by
    have h := (rdN_tells (k := 4) (n := if t = true then 1 else 0) (by split <;> decide) (by split <;> decide)).all tl
    unfold rdT
    rw [h]
    cases t <;> rfl
  cut c hc := by
    have h := (rdN_tells (k := 4) (n := if t = true then 1 else 0) (by split <;> decide) (by split <;> decide)).cut c hc
    rw [beL_len] at hc
    unfold rdT
    rw [rdN_short rfl (by simp only [List.length_take, beL_len]; omega)]
    rfl
  bad s hs := by
    unfold rdT
    rw [rdN_bad hs]; rfl
theorem zeros_posB (p : Nat) : (List.replicate p (0 : Int)).any posB = false := by
  induction p with
  | zero => rfl
  | succ p ih => rw [List.replicate_succ, List.any_cons, ih]; rfl
theorem rdB_tells {most : Nat} {xs : List Int} (h : xs.length ≤ most) (hm : most ≤ 1000000000) : TellsA (rdB most) (encB xs) xs where
  all tl := by
    have hr : rdN 4 (encB xs ++ tl, 0) = ((xs.length : Int), (xs ++ (List.replicate (padN xs.length) 0 ++ tl), 0)) := by
      unfold encB
      rw [List.append_assoc, List.append_assoc]
      exact (rdN_tells (k := 4) qo (by rw [p4]; omega)).all _
    unfold rdB
    rw [hr]
    have hl : ¬ ((xs ++ (List.replicate (padN xs.length) 0 ++ tl)).length < (xs.length : Int).toNat + padN (xs.length : Int).toNat) := by
      simp
    have tn : (xs.length : Int).toNat = xs.length := by omega
    have hd : ((xs ++ (List.replicate (padN xs.length) 0 ++ tl)).drop xs.length).take (padN xs.length) = List.replicate (padN xs.length) 0 := by
      rw [List.drop_left, List.take_left' (by simp)]
    rw [if_neg (by simp), if_neg (by rw [tn]; omega), if_neg hl]
    simp only [tn]
    rw [hd, zeros_posB, if_neg (by decide), List.take_left]
    congr 2
    rw [← List.drop_drop, List.drop_left, List.drop_left' (by simp)]
  cut c hc := by
    rw [encB_len] at hc
    rcases Nat.lt_or_ge c 4 with h4 | h4
    · have hr : rdN 4 ((encB xs).take c, 0) = (0, ((encB xs).take c, 4)) := rdN_short rfl (by simp only [List.length_take]; omega)
      unfold rdB
      rw [hr, if_pos (show ¬ (4 : Int) = 0 by decide)]
    · have e1 : (encB xs).take c = beL xs.length 4 ++ (xs ++ List.replicate (padN xs.length) 0).take (c - 4) := by
        unfold encB
        rw [List.append_assoc, List.take_append, List.take_of_length_le (by rw [beL_len]; omega), beL_len]
      have hr : rdN 4 ((encB xs).take c, 0) = ((xs.length : Int), ((xs ++ List.replicate (padN xs.length) 0).take (c - 4), 0)) := by
        rw [e1]
        exact (rdN_tells (k := 4) qo (by rw [p4]; omega)).all _
      have tn : (xs.length : Int).toNat = xs.length := by omega
      unfold rdB
      rw [hr, if_neg (by simp), if_neg (by rw [tn]; omega), if_pos (by simp only [tn, List.length_take, List.length_append, List.length_replicate]; omega)]
  bad s hs := by
    unfold rdB
    rw [rdN_bad hs, if_pos hs]
def NBt (lo hi : Nat) (H : Heap) (v : AV) (bs : List Int) : Prop := (v = .nilsl ∧ bs = []) ∨ ∃ id ex, v = .slice id 0 bs.length bs.length ex 1 ∧ lo ≤ id ∧ id < hi ∧ H.get id = some (.cells (ints bs) false) ∧ (ex = true ∨ (id + 1 < hi ∧ H.byteAt id = true))
theorem NewBytes.nbt {h h' : Heap} {v : AV} {bs : List Int} (n : NewBytes h h' v bs) : NBt h.next h'.next h' v bs := by
  rcases n with e | ⟨id, cap, ex, e, e1, e2, e3, e4, e5⟩
  · exact .inl e
  · obtain rfl : cap = bs.length := by omega
    exact .inr ⟨id, ex, e, e3, Heap.lt_of_get e4, e4, e5.imp (fun q => q) fun q => ⟨Heap.byteAt_lt q, q⟩⟩
theorem NBt.keep {lo hi : Nat} {H H' : Heap} {v : AV} {bs : List Int} (n : NBt lo hi H v bs) (k : ∀ j, lo ≤ j → j < hi → H'.get j = H.get j) : NBt lo hi H' v bs := by
  rcases n with e | ⟨id, ex, e, e1, e2, e3, e4⟩
  · exact .inl e
  · exact .inr ⟨id, ex, e, e1, e2, (k id e1 e2).trans e3, e4.imp (fun q => q) fun q => ⟨q.1, by rw [Heap.byteAt_of (k (id + 1) qo q.1)]; exact q.2⟩⟩
theorem NBt.at {lo hi : Nat} {H : Heap} {v : AV} {bs : List Int} (n : NBt lo hi H v bs) : BytesAt H v bs := by
  rcases n with e | ⟨id, ex, e, e1, e2, e3, e4⟩
  · exact .inl e
  · exact .inr ⟨id, 0, _, ex, _, false, e, Nat.le_refl _, e3, by simp, by simp [List.take_of_length_le]⟩
theorem NBt.num {lo hi : Nat} {H : Heap} {v : AV} {bs : List Int} (n : NBt lo hi H v bs) : own v = 0 ∨ (lo < own v ∧ own v ≤ hi) := by
  rcases n with ⟨rfl, _⟩ | ⟨id, ex, rfl, e1, e2, _⟩
  · exact .inl rfl
  · exact .inr ⟨by simp only [own_sl]; omega, by simp only [own_sl]; omega⟩
theorem rdN_nat {k : Nat} {s : List Int × Int} (hy : Bytes s.1) : ∃ n : Nat, ∃ l e, rdN k s = ((n : Int), (l, e)) := by
  have := rdN_lt (k := k) hy
  exact ⟨(rdN k s).1.toNat, (rdN k s).2.1, (rdN k s).2.2, Prod.ext (show (rdN k s).1 = ((rdN k s).1.toNat : Int) by omega) rfl⟩
theorem rdN_by {k : Nat} {s : List Int × Int} (hy : Bytes s.1) : Bytes (rdN k s).2.1 := by
  unfold rdN
  split
  · split
    · exact hy
    · exact hy.drop k
  · exact hy
theorem rdT_by {s : List Int × Int} (hy : Bytes s.1) : Bytes (rdT s).2.1 := by
  unfold rdT
  have := rdN_by (k := 4) hy
  dsimp only
  split <;> exact this
theorem rdB_by {most : Nat} {s : List Int × Int} (hy : Bytes s.1) : Bytes (rdB most s).2.1 ∧ Bytes (rdB most s).1 := by
  have := rdN_by (k := 4) hy
  have h0 : Bytes [] := fun c h => nomatch h
  unfold rdB
  repeat' split
  all_goals first | exact ⟨this, h0⟩ | exact ⟨this.drop _, this.take _⟩
theorem NBt.le {lo lo' hi : Nat} {H : Heap} {v : AV} {bs : List Int} (n : NBt lo hi H v bs) (hl : lo' ≤ lo) : NBt lo' hi H v bs := by
  rcases n with e | ⟨id, ex, e, e1, e2, e3, e4⟩
  · exact .inl e
  · exact .inr ⟨id, ex, e, Nat.le_trans hl e1, e2, e3, e4⟩
theorem rdB_len {most : Nat} {s : List Int × Int} : (rdB most s).1.length ≤ most := by
  unfold rdB
  repeat' split
  all_goals first | exact Nat.zero_le _ | (rw [List.length_take]; omega)
theorem NBt.clip {lo hi : Nat} {H : Heap} {v : AV} {bs : List Int} (n : NBt lo hi H v bs) : NBt lo (min hi H.next) H v bs := by
  rcases n with e | ⟨id, ex, e, e1, e2, e3, e4⟩
  · exact .inl e
  · have := Heap.lt_of_get e3
    exact .inr ⟨id, ex, e, e1, by omega, e3, e4.imp (fun q => q) fun q => ⟨by have := Heap.byteAt_lt q.2; omega, q.2⟩⟩
end Go.Proofs.YtpoccinfeekdhaaDoor.Ya
