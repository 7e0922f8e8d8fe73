/-
  Xdr, law XdrBack: what was laid is told; cut, it is not.
-/
import Derived.Test.YtndcokalnpnbgaaYaXdrRd
import Derived.Test.YtndcokalnpnbgaaYaBack0
namespace Go.Proofs.Ytndcokalnpnbgaa.Ya
open Go.Ya
set_option linter.unusedVariables false
set_option linter.unusedSimpArgs false
set_option maxRecDepth 100000

theorem valBE_beL (N : Nat) : ∀ k, valBE (beL (N : Int) k) = ((N % 256 ^ k : Nat) : Int)
  | 0 => by simp [beL, valBE, Nat.mod_one]
  | k + 1 => by
    simp only [beL]
    rw [valBE_cons, valBE_beL N k, beL_len]
    have hb : beB (N : Int) k = ((N / 256 ^ k % 256 : Nat) : Int) := by unfold beB; simp
    rw [hb, Nat.pow_succ, Nat.mod_mul]
    have hp : ((256 : Int) ^ k) = ((256 ^ k : Nat) : Int) := by simp
    rw [hp]
    generalize 256 ^ k = p
    rw [Nat.mul_comm p, ← Int.natCast_mul, ← Int.natCast_add, Nat.add_comm]
theorem beL_bytes (n : Int) : ∀ k, Bytes (beL n k)
  | 0 => fun c h => by cases h
  | k + 1 => fun c h => by
    rcases List.mem_cons.1 h with rfl | h
    · unfold beB; omega
    · exact beL_bytes n k c h
theorem rdN_beL {n : Int} {k : Nat} (h0 : 0 ≤ n) (h1 : n < 256 ^ k) (tl : List Int) : rdN k (beL n k ++ tl, 0) = (n, (tl, 0)) := by
  have hl : ¬ (beL n k ++ tl).length < k := by simp [beL_len]
  have ht : (beL n k ++ tl).take k = beL n k := List.take_left' (beL_len n k)
  have hd : (beL n k ++ tl).drop k = tl := by rw [List.drop_left' (beL_len n k)]
  obtain ⟨N, rfl⟩ : ∃ N : Nat, n = N := ⟨n.toNat, by omega⟩
  have hN : N < 256 ^ k := by
    have hp : ((256 : Int) ^ k) = ((256 ^ k : Nat) : Int) := by simp
    rw [hp] at h1; omega
  simp only [rdN, if_true, hl, if_false, ht, hd, valBE_beL, Nat.mod_eq_of_lt hN]
theorem rdN_short {k : Nat} {l : List Int} (h : l.length < k) : rdN k (l, 0) = (0, (l, 4)) := by simp [rdN, h]
theorem p4 : (256 : Int) ^ 4 = 4294967296 := by decide
theorem p8 : (256 : Int) ^ 8 = 18446744073709551616 := by decide
def Good (a : Thing) : Prop := (0 ≤ a.n ∧ a.n ≤ 18446744073709551615) ∧ a.b.length ≤ 1048576 ∧ Bytes a.b
theorem zeros_pos (p : Nat) : (List.replicate p (0 : Int)).any pos = false := by
  induction p with
  | zero => rfl
  | succ p ih => rw [List.replicate_succ, List.any_cons, ih]; rfl
theorem rdB_encB {xs : List Int} (h : xs.length ≤ 1048576) (tl : List Int) : rdB xs.length (encB xs ++ tl, 0) = (xs, (tl, 0)) := by
  have hp := padZ_le xs.length
  have hm : maxZ (xs.length : Int) = xs.length := by unfold maxZ; rw [if_neg (by omega)]
  have hr : rdN 4 (encB xs ++ tl, 0) = ((xs.length : Int), (xs ++ (List.replicate (padZ xs.length).toNat 0 ++ tl), 0)) := by
    unfold encB
    rw [List.append_assoc, List.append_assoc]
    exact rdN_beL (by omega) (by rw [p4]; omega) _
  unfold rdB
  rw [hr]
  simp only [hm, Int.lt_irrefl, gt_iff_lt, decide_false, failed, Bool.false_eq_true, and_false, if_false, if_true]
  have hl : ¬ (((xs ++ (List.replicate (padZ xs.length).toNat 0 ++ tl)).length : Int) < (xs.length : Int) + padZ xs.length) := by
    simp; omega
  rw [if_neg hl]
  have tn : (xs.length : Int).toNat = xs.length := by omega
  rw [tn]
  have hd : ((xs ++ (List.replicate (padZ xs.length).toNat 0 ++ tl)).drop xs.length).take (padZ xs.length).toNat = List.replicate (padZ xs.length).toNat 0 := by
    rw [List.drop_left, List.take_left' (by simp)]
  rw [hd, zeros_pos]
  simp only [Bool.false_eq_true, if_false]
  rw [List.take_left]
  congr 2
  rw [← List.drop_drop, List.drop_left, List.drop_left' (by simp)]
theorem rdThing_enc {a : Thing} (g : Good a) (tl : List Int) : rdThing a (encT a ++ tl, 0) = (true, (tl, 0)) := by
  obtain ⟨g1, g2, g3⟩ := g
  unfold rdThing encT
  split
  · have hu := wrap_u32 a.n
    rw [rdN_beL hu.1 (by rw [p4]; exact hu.2)]; simp
  · split
    · rw [rdN_beL g1.1 (by rw [p8]; omega)]; simp
    · split
      · cases h : a.is
        · simp only [rdT, Bool.false_eq_true, if_false]
          rw [rdN_beL (by decide) (by decide)]; simp [failed]
        · simp only [rdT, if_true]
          rw [rdN_beL (by decide) (by decide)]; simp [failed]
      · rw [rdB_encB g2]; simp
theorem rdThing_cut {a : Thing} (g : Good a) {c : Nat} (hc : c < (encT a).length) : (rdThing a ((encT a).take c, 0)).2.2 = 4 := by
  obtain ⟨g1, g2, g3⟩ := g
  have hl : ((encT a).take c).length = c := by rw [List.length_take]; omega
  unfold rdThing
  split
  · rename_i c0
    have : (encT a).length = 4 := by simp [encT, c0, beL_len]
    rw [rdN_short (by omega)]
  · rename_i c0
    split
    · rename_i c1
      have : (encT a).length = 8 := by simp [encT, c0, c1, beL_len]
      rw [rdN_short (by omega)]
    · rename_i c1
      split
      · rename_i c2
        have : (encT a).length = 4 := by simp [encT, c0, c1, c2, beL_len]
        simp only [rdT]
        rw [rdN_short (by omega)]
        simp [failed]
      · rename_i c2
        have henc : encT a = encB a.b := by simp [encT, c0, c1, c2]
        rw [henc] at hc hl ⊢
        have hp := padZ_le a.b.length
        have hm : maxZ (a.b.length : Int) = a.b.length := by unfold maxZ; rw [if_neg (by omega)]
        by_cases h4 : c < 4
        · unfold rdB
          rw [rdN_short (by omega)]
          simp [failed]
        · have hlen : (encB a.b).length = 4 + a.b.length + (padZ a.b.length).toNat := by simp [encB, beL_len]; omega
          have hsp : (encB a.b).take c = beL a.b.length 4 ++ (a.b ++ List.replicate (padZ a.b.length).toNat 0).take (c - 4) := by
            unfold encB
            rw [List.append_assoc, List.take_append, beL_len, List.take_of_length_le (by rw [beL_len]; omega)]
          rw [hsp]
          have hr : rdN 4 (beL a.b.length 4 ++ (a.b ++ List.replicate (padZ a.b.length).toNat 0).take (c - 4), 0) = ((a.b.length : Int), ((a.b ++ List.replicate (padZ a.b.length).toNat 0).take (c - 4), 0)) := rdN_beL (by omega) (by rw [p4]; omega) _
          unfold rdB
          rw [hr]
          simp only [hm, Int.lt_irrefl, gt_iff_lt, decide_false, failed, Bool.false_eq_true, and_false, if_false, if_true]
          rw [if_pos (by
            rw [List.length_take]
            have : min (c - 4) (a.b ++ List.replicate (padZ a.b.length).toNat 0).length ≤ c - 4 := Nat.min_le_left _ _
            omega)]

/-- Things that are told, one behind the other. -/
def goesP : List Thing → List Int × Int → Bool × (List Int × Int)
  | [], s => (true, s)
  | a :: ts, s => if (rdThing a s).1 = true ∧ (rdThing a s).2.2 = 0 then goesP ts (rdThing a s).2 else (false, (rdThing a s).2)
theorem goesP_enc : ∀ (ts : List Thing) (tl : List Int), (∀ a ∈ ts, Good a) → goesP ts (encs ts ++ tl, 0) = (true, (tl, 0))
  | [], tl, _ => by simp [goesP, encs]
  | a :: ts, tl, h => by
    have : encs (a :: ts) ++ tl = encT a ++ (encs ts ++ tl) := by simp [encs]
    rw [this, goesP, rdThing_enc (h a (List.mem_cons_self))]
    simp only [and_self, if_true]
    exact goesP_enc ts tl fun x hx => h x (List.mem_cons_of_mem _ hx)
theorem goesP_cut : ∀ (ts : List Thing) (c : Nat), (∀ a ∈ ts, Good a) → c < (encs ts).length → (goesP ts ((encs ts).take c, 0)).1 = false ∧ (goesP ts ((encs ts).take c, 0)).2.2 = 4
  | [], c, _, hc => by simp [encs] at hc
  | a :: ts, c, h, hc => by
    have he : encs (a :: ts) = encT a ++ encs ts := by simp [encs]
    rw [he] at hc ⊢
    by_cases hca : c < (encT a).length
    · have ht : (encT a ++ encs ts).take c = (encT a).take c := by rw [List.take_append_of_le_length (by omega)]
      rw [ht]
      have h4 := rdThing_cut (h a (List.mem_cons_self)) hca
      have hn : ¬ ((rdThing a ((encT a).take c, 0)).1 = true ∧ (rdThing a ((encT a).take c, 0)).2.2 = 0) := fun e => by rw [h4] at e; exact absurd e.2 (by decide)
      rw [goesP, if_neg hn]
      exact ⟨rfl, h4⟩
    · have ht : (encT a ++ encs ts).take c = encT a ++ (encs ts).take (c - (encT a).length) := by
        rw [List.take_append, List.take_of_length_le (by omega)]
      rw [ht, goesP, rdThing_enc (h a (List.mem_cons_self))]
      simp only [and_self, if_true]
      rw [List.length_append] at hc
      exact goesP_cut ts _ (fun x hx => h x (List.mem_cons_of_mem _ hx)) (by omega)
theorem encT_mod {a : Thing} : (encT a).length % 4 = 0 := by
  have hp := padZ_le a.b.length
  unfold encT
  split
  · simp [beL_len]
  · split
    · simp [beL_len]
    · split
      · simp [beL_len]
      · simp only [encB, List.length_append, beL_len, List.length_replicate]
        unfold padZ at hp ⊢
        omega
theorem encs_mod : ∀ (ts : List Thing), (encs ts).length % 4 = 0
  | [] => rfl
  | a :: ts => by
    have he : encs (a :: ts) = encT a ++ encs ts := by simp [encs]
    have := encs_mod ts
    have := encT_mod (a := a)
    rw [he, List.length_append]; omega
theorem encT_bytes {a : Thing} (g : Good a) : Bytes (encT a) := by
  unfold encT
  split
  · exact beL_bytes _ _
  · split
    · exact beL_bytes _ _
    · split
      · exact beL_bytes _ _
      · intro c hc
        unfold encB at hc
        simp only [List.mem_append] at hc
        rcases hc with (hc | hc) | hc
        · exact beL_bytes _ _ c hc
        · exact g.2.2 c hc
        · have := List.eq_of_mem_replicate hc; omega
theorem encs_bytes {ts : List Thing} (h : ∀ a ∈ ts, Good a) : Bytes (encs ts) := by
  intro c hc
  unfold encs at hc
  rw [List.mem_flatten] at hc
  obtain ⟨l, hl, hc⟩ := hc
  obtain ⟨a, ha, rfl⟩ := List.mem_map.1 hl
  exact encT_bytes (h a ha) c hc
end Go.Proofs.Ytndcokalnpnbgaa.Ya
