/-
  Batch: what is put is got, what is got is put; the run of BatchCarries.
-/
import Derived.Test.YtbcmdlaffjmfdaaYaBatD
import Derived.Test.YtbcmdlaffjmfdaaYbL
namespace Go.Proofs.Ytbcmdlaffjmfdaa.Ya
open Go.Ya Go.Ya.Bat
set_option linter.unusedVariables false
set_option linter.unusedSimpArgs false
set_option maxRecDepth 100000
set_option maxHeartbeats 8000000

theorem beL2 {z : Int} (h0 : 0 ≤ z) (h1 : z < 65536) : valBE (beL z 2) = z := by
  simp only [beL, beB, valBE, List.foldl_cons, List.foldl_nil]
  omega
theorem beL2_val : ∀ {l : Bs}, Bytes l → l.length = 2 → beL (valBE l) 2 = l
  | [a, b], hy, _ => by
    have ha := hy a (by simp)
    have hb := hy b (by simp)
    have h1 : valBE [a, b] = 256 * a + b := by simp [valBE]; omega
    rw [h1]
    simp only [beL, beB, Int.pow_succ, Int.pow_zero]
    have e1 : (256 * a + b) / (1 * 256) % 256 = a := by omega
    have e2 : (256 * a + b) / 1 % 256 = b := by omega
    rw [e1, e2]
theorem shared_take : ∀ (a b : Bs), a.take (sharedP a b) = b.take (sharedP a b)
  | [], _ => by simp [sharedP]
  | _ :: _, [] => by simp [sharedP]
  | a :: x, b :: y => by
    simp only [sharedP]
    split
    · rename_i e
      rw [List.take_succ_cons, List.take_succ_cons, shared_take x y, e]
    · simp
/-- The parts of a change's bytes. -/
theorem put_parts {last : Bs} {x : En} {rest : Bs} (h1 : x.key.length ≤ 16) : (putOne last x ++ rest).getD 0 0 = (sharedP last x.key : Int) ∧ ((putOne last x ++ rest).drop 1).getD 0 0 = ((x.key.length - sharedP last x.key : Nat) : Int) ∧ ((putOne last x ++ rest).drop 1).drop 1 = x.key.drop (sharedP last x.key) ++ (beL (sizeP x) 2 ++ (x.val ++ rest)) := by
  unfold putOne
  simp [List.append_assoc]
def okE (last : Bs) (x : En) : Prop := fitsP last x.key x.val = true ∧ (x.gone = true → x.val = [])
theorem okE.at {last : Bs} {x : En} (h : okE last x) : x.key.length ≤ 16 ∧ lessA last x.key = true ∧ x.val.length ≤ 8192 := by
  have := h.1
  unfold fitsP at this
  simp only [Bool.and_eq_true, decide_eq_true_eq] at this
  exact ⟨this.1.1, this.1.2, this.2⟩
theorem size_z {x : En} {last : Bs} (h : okE last x) : 0 ≤ sizeP x ∧ sizeP x < 65536 ∧ (sizeP x - 1).toNat = x.val.length ∧ (sizeP x == 0) = x.gone := by
  have hv := h.at.2.2
  unfold sizeP
  cases hg : x.gone with
  | true => rw [h.2 hg]; simp
  | false =>
    simp only [Bool.false_eq_true, if_false]
    refine ⟨by omega, by omega, by omega, ?_⟩
    rw [beq_eq_false_iff_ne]; omega
theorem take2 {a b : Bs} (h : a.length = 2) : (a ++ b).take 2 = a := by rw [← h, List.take_left]
theorem drop2 {a b : Bs} (h : a.length = 2) : (a ++ b).drop 2 = b := by rw [← h, List.drop_left]
theorem two_of : ∀ {bs : Bs}, ¬ bs.length - 1 < 1 → [bs.getD 0 0, (bs.drop 1).getD 0 0] ++ (bs.drop 1).drop 1 = bs
  | [], h => by simp at h
  | [a], h => by simp at h
  | a :: b :: t, _ => rfl
theorem take_app {a b : Bs} : (a ++ b).take a.length = a := List.take_left
theorem takeC_put {last : Bs} {x : En} (rest : Bs) (h : okE last x) : takeC last (putOne last x ++ rest) = (0, x, rest) := by
  obtain ⟨k16, hls, v8⟩ := h.at
  obtain ⟨p1, p2, p3⟩ := put_parts (last := last) (x := x) (rest := rest) k16
  obtain ⟨z0, z1, z2, z3⟩ := size_z h
  have hsl := shared_le last x.key
  have hkl : (x.key.drop (sharedP last x.key)).length = x.key.length - sharedP last x.key := by rw [List.length_drop]
  have hR : restC (putOne last x ++ rest) = beL (sizeP x) 2 ++ (x.val ++ rest) := by
    unfold restC
    rw [p3, p2, Int.toNat_natCast, ← hkl, List.drop_left]
  have hK : keyC last (putOne last x ++ rest) = x.key := by
    unfold keyC
    rw [p3, p2, p1, Int.toNat_natCast, Int.toNat_natCast, ← hkl, List.take_left, shared_take, List.take_append_drop]
  have hb2 : (beL (sizeP x) 2).length = 2 := beL_len _ 2
  have hT2 : (restC (putOne last x ++ rest)).take 2 = beL (sizeP x) 2 := by rw [hR, take2 hb2]
  have hD2 : (restC (putOne last x ++ rest)).drop 2 = x.val ++ rest := by rw [hR, drop2 hb2]
  have hV : valC (putOne last x ++ rest) = x.val := by
    unfold valC
    rw [hT2, hD2, beL2 z0 z1, z2, List.take_left]
  have hlen : (putOne last x ++ rest).length = 2 + (x.key.length - sharedP last x.key) + 2 + x.val.length + rest.length := by
    unfold putOne
    simp only [List.length_append, List.length_cons, List.length_nil, List.length_drop, beL_len]
  rw [takeC_ok (last := last) (bs := putOne last x ++ rest) (by rw [p1, Int.toNat_natCast]; omega) (by rw [List.length_drop]; omega) (by rw [p2, Int.toNat_natCast, List.length_drop, List.length_drop]; omega) (by rw [hR]; simp only [List.length_append, hb2]; omega)
    (by rw [hT2, hD2, beL2 z0 z1, z2, List.length_append]; omega) (by rw [hK]; exact hls) (by
      rw [hK, hV, hT2, beL2 z0 z1, z3, may_one hls h.2]; exact h.1) (by rw [hK, p1, Int.toNat_natCast])]
  rw [hK, hV, hT2, hD2, beL2 z0 z1, z2, z3, List.drop_left]
theorem may_cons {last : Bs} {x : En} {l : List En} : mayG last (x :: l) = true ↔ okE last x ∧ mayG x.key l = true := by
  unfold okE fitsP
  simp only [mayG, fineP, Bool.and_eq_true, decide_eq_true_eq]
  constructor
  · rintro ⟨⟨⟨h1, h2⟩, h3⟩, h4⟩
    refine ⟨⟨⟨⟨h2, h3⟩, ?_⟩, fun hg => ?_⟩, h4⟩
    · cases hg : x.gone
      · rw [hg] at h1; simpa using h1
      · rw [hg] at h1; simp at h1; simp [h1]
    · rw [hg] at h1; simpa using h1
  · rintro ⟨⟨⟨⟨h2, h3⟩, h1⟩, hg⟩, h4⟩
    refine ⟨⟨⟨?_, h2⟩, h3⟩, h4⟩
    cases hq : x.gone
    · simpa using h1
    · rw [hg hq]; simp
theorem putOne_pos (last : Bs) (x : En) : 4 ≤ (putOne last x).length := by
  unfold putOne
  simp only [List.length_append, List.length_cons, List.length_nil, beL_len]; omega
/-- What is put is got. -/
theorem get_put : ∀ {l : List En} {last : Bs} {n : Nat}, mayG last l = true → (putAll last l).length ≤ n → getF n last (putAll last l) = (0, l)
  | [], last, n, _, _ => by cases n <;> simp [getF, putAll]
  | x :: l, last, n, h, hn => by
    obtain ⟨h1, h2⟩ := may_cons.1 h
    have hp := putOne_pos last x
    rw [putAll, List.length_append] at hn
    obtain ⟨m, rfl⟩ : ∃ m, n = m + 1 := ⟨n - 1, by omega⟩
    rw [putAll, getF, if_neg (by rw [List.length_append]; omega), takeC_put _ h1, if_pos rfl]
    simp only
    rw [get_put h2 qo, if_pos rfl]
/-- One that is got is one that was put. -/
theorem takeC_inv {last bs : Bs} (hy : Bytes bs) (h : (takeC last bs).1 = 0) : okE last (takeC last bs).2.1 ∧ bs = putOne last (takeC last bs).2.1 ++ (takeC last bs).2.2 := by
  by_cases h1 : last.length < (bs.getD 0 0).toNat
  · rw [takeC_a h1] at h; cases h
  by_cases h2 : (bs.drop 1).length < 1
  · rw [takeC_b h1 h2] at h; cases h
  by_cases h3 : ((bs.drop 1).drop 1).length < ((bs.drop 1).getD 0 0).toNat
  · rw [takeC_c h1 h2 h3] at h; cases h
  by_cases h4 : (restC bs).length < 2
  · rw [takeC_d h1 h2 h3 h4] at h; cases h
  by_cases h5 : ((restC bs).drop 2).length < (valBE ((restC bs).take 2) - 1).toNat
  · rw [takeC_e h1 h2 h3 h4 h5] at h; cases h
  rw [takeC_f h1 h2 h3 h4 h5] at h ⊢
  split
  case isFalse q => rw [if_neg q] at h; cases h
  rename_i hq
  simp only [Bool.and_eq_true, beq_iff_eq] at hq
  obtain ⟨hf, hs⟩ := hq
  have hyR : Bytes (restC bs) := ((hy.drop 1).drop 1).drop _
  have hz := valBE_lt _ (hyR.take 2)
  have hzb := val_small hyR (s := 2) (.inr rfl)
  have hvl : (valC bs).length = (valBE ((restC bs).take 2) - 1).toNat := by unfold valC; rw [List.length_take]; omega
  refine ⟨⟨hf, fun e => ?_⟩, ?_⟩
  · simp only [beq_iff_eq] at e
    apply List.eq_nil_of_length_eq_zero
    show (valC bs).length = 0
    rw [hvl, e]; rfl
  · have hsz : sizeP ⟨keyC last bs, valC bs, valBE ((restC bs).take 2) == 0⟩ = valBE ((restC bs).take 2) := by
      unfold sizeP
      simp only [hvl]
      split
      · rename_i e; rw [beq_iff_eq] at e; exact e.symm
      · rename_i e
        have : valBE ((restC bs).take 2) ≠ 0 := fun e' => e (by rw [e']; rfl)
        omega
    unfold putOne
    rw [hsz, hs, beL2_val (hyR.take 2) (by rw [List.length_take]; omega)]
    have hkl : (keyC last bs).length = (bs.getD 0 0).toNat + ((bs.drop 1).getD 0 0).toNat := by
      unfold keyC
      rw [List.length_append, List.length_take, List.length_take]; omega
    have hkd : (keyC last bs).drop (bs.getD 0 0).toNat = ((bs.drop 1).drop 1).take ((bs.drop 1).getD 0 0).toNat := by
      unfold keyC
      have : (last.take (bs.getD 0 0).toNat).length = (bs.getD 0 0).toNat := by rw [List.length_take]; omega
      conv => lhs; rw [← this]
      rw [List.drop_left' (by rw [List.length_take, List.length_take]; omega)]
    have c0 := hy.at 0
    have c1 := (hy.drop 1).at 0
    simp only [hkl, hkd, Nat.add_sub_cancel_left]
    rw [Int.toNat_of_nonneg c0.1, Int.toNat_of_nonneg c1.1]
    have e3 : valC bs ++ ((restC bs).drop 2).drop (valBE ((restC bs).take 2) - 1).toNat = (restC bs).drop 2 := List.take_append_drop _ _
    have e4 : (restC bs).take 2 ++ (restC bs).drop 2 = restC bs := List.take_append_drop _ _
    have e5 : ((bs.drop 1).drop 1).take ((bs.drop 1).getD 0 0).toNat ++ restC bs = (bs.drop 1).drop 1 := List.take_append_drop _ _
    rw [List.append_assoc, e3, List.append_assoc, e4, List.append_assoc, e5]
    rw [List.length_drop] at h2
    exact (two_of h2).symm
/-- What is got is put as the same bytes. -/
theorem put_get : ∀ {n : Nat} {last bs : Bs}, Bytes bs → bs.length ≤ n → (getF n last bs).1 = 0 → mayG last (getF n last bs).2 = true ∧ putAll last (getF n last bs).2 = bs
  | 0, last, bs, _, hn, _ => by
    have : bs = [] := List.eq_nil_of_length_eq_zero qo
    subst this; exact ⟨rfl, rfl⟩
  | n + 1, last, bs, hy, hn, h => by
    rw [getF] at h ⊢
    by_cases h0 : bs.length = 0
    · have : bs = [] := List.eq_nil_of_length_eq_zero h0
      subst this; exact ⟨rfl, rfl⟩
    rw [if_neg h0] at h ⊢
    by_cases h1 : (takeC last bs).1 = 0
    · rw [if_pos h1] at h ⊢
      by_cases h2 : (getF n (takeC last bs).2.1.key (takeC last bs).2.2).1 = 0
      · rw [if_pos h2]
        have hl := takeC_less h1
        obtain ⟨q1, q2⟩ := takeC_inv hy h1
        obtain ⟨r1, r2⟩ := put_get (takeC_bytes hy h1) qo h2
        refine ⟨may_cons.2 ⟨q1, r1⟩, ?_⟩
        show putOne last (takeC last bs).2.1 ++ putAll (takeC last bs).2.1.key _ = bs
        rw [r2, ← q2]
      · rw [if_neg h2] at h; exact absurd h h2
    · rw [if_neg h1] at h; exact absurd h h1
theorem drop_put {last : Bs} {x : En} {c : Nat} (hc : 2 ≤ c) : (putOne last x).take c = (sharedP last x.key : Int) :: ((x.key.length - sharedP last x.key : Nat) : Int) :: (x.key.drop (sharedP last x.key) ++ (beL (sizeP x) 2 ++ x.val)).take (c - 2) := by
  obtain ⟨d, rfl⟩ : ∃ d, c = d + 2 := ⟨c - 2, by omega⟩
  unfold putOne
  simp [List.append_assoc]
theorem takeC_short {last : Bs} {x : En} {c : Nat} (h : okE last x) (h0 : 0 < c) (hc : c < (putOne last x).length) : (takeC last ((putOne last x).take c)).1 = 4 := by
  obtain ⟨z0, z1, z2, z3⟩ := size_z h
  have hsl := shared_le last x.key
  have hkl : (x.key.drop (sharedP last x.key)).length = x.key.length - sharedP last x.key := by rw [List.length_drop]
  have hb2 : (beL (sizeP x) 2).length = 2 := beL_len _ 2
  have hlen : (putOne last x).length = 2 + (x.key.length - sharedP last x.key) + 2 + x.val.length := by
    unfold putOne
    simp only [List.length_append, List.length_cons, List.length_nil, List.length_drop, beL_len]
  by_cases c1 : c = 1
  · subst c1
    have e : (putOne last x).take 1 = [(sharedP last x.key : Int)] := by unfold putOne; simp [List.append_assoc]
    rw [e]
    exact takeC_b (by simp; omega) (by simp)
  · have e := drop_put (last := last) (x := x) (c := c) qo
    rw [e]
    generalize hT : x.key.drop (sharedP last x.key) ++ (beL (sizeP x) 2 ++ x.val) = T
    have hTl : T.length = (x.key.length - sharedP last x.key) + (2 + x.val.length) := by rw [← hT]; simp only [List.length_append, hkl, hb2]
    have g0 : ((sharedP last x.key : Int) :: ((x.key.length - sharedP last x.key : Nat) : Int) :: T.take (c - 2)).getD 0 0 = (sharedP last x.key : Int) := rfl
    have g1 : (((sharedP last x.key : Int) :: ((x.key.length - sharedP last x.key : Nat) : Int) :: T.take (c - 2)).drop 1).getD 0 0 = ((x.key.length - sharedP last x.key : Nat) : Int) := rfl
    have g2 : (((sharedP last x.key : Int) :: ((x.key.length - sharedP last x.key : Nat) : Int) :: T.take (c - 2)).drop 1).drop 1 = T.take (c - 2) := rfl
    have a1 : ¬ last.length < (((sharedP last x.key : Int) :: ((x.key.length - sharedP last x.key : Nat) : Int) :: T.take (c - 2)).getD 0 0).toNat := by rw [g0, Int.toNat_natCast]; omega
    have a2 : ¬ (((sharedP last x.key : Int) :: ((x.key.length - sharedP last x.key : Nat) : Int) :: T.take (c - 2)).drop 1).length < 1 := by simp
    by_cases q1 : c - 2 < x.key.length - sharedP last x.key
    · exact takeC_c a1 a2 (by rw [g2, g1, Int.toNat_natCast, List.length_take]; omega)
    have a3 : ¬ ((((sharedP last x.key : Int) :: ((x.key.length - sharedP last x.key : Nat) : Int) :: T.take (c - 2)).drop 1).drop 1).length < ((((sharedP last x.key : Int) :: ((x.key.length - sharedP last x.key : Nat) : Int) :: T.take (c - 2)).drop 1).getD 0 0).toNat := by rw [g2, g1, Int.toNat_natCast, List.length_take]; omega
    have hR : restC ((sharedP last x.key : Int) :: ((x.key.length - sharedP last x.key : Nat) : Int) :: T.take (c - 2)) = (beL (sizeP x) 2 ++ x.val).take (c - 2 - (x.key.length - sharedP last x.key)) := by
      unfold restC
      rw [g2, g1, Int.toNat_natCast, List.drop_take, ← hT, ← hkl, List.drop_left]
    by_cases q2 : c - 2 - (x.key.length - sharedP last x.key) < 2
    · exact takeC_d a1 a2 a3 (by rw [hR, List.length_take]; omega)
    have hT2 : (restC ((sharedP last x.key : Int) :: ((x.key.length - sharedP last x.key : Nat) : Int) :: T.take (c - 2))).take 2 = beL (sizeP x) 2 := by
      rw [hR, List.take_take, Nat.min_eq_left qo, take2 hb2]
    exact takeC_e a1 a2 a3 (by rw [hR, List.length_take, List.length_append, hb2]; omega) (by
      rw [hT2, beL2 z0 z1, z2, List.length_drop, hR, List.length_take, List.length_append, hb2]; omega)
/-- Cut, what is put is got in part, or falls short. -/
theorem get_cut : ∀ {l : List En} {last : Bs} {n c : Nat}, mayG last l = true → c < (putAll last l).length → c ≤ n → (∃ k, k < l.length ∧ getF n last ((putAll last l).take c) = (0, l.take k)) ∨ getF n last ((putAll last l).take c) = (4, [])
  | [], last, n, c, _, hc, _ => by simp [putAll] at hc
  | x :: l, last, n, c, h, hc, hn => by
    obtain ⟨h1, h2⟩ := may_cons.1 h
    have hp := putOne_pos last x
    rw [putAll, List.length_append] at hc
    by_cases c0 : c = 0
    · subst c0
      refine .inl ⟨0, by simp, ?_⟩
      cases n <;> simp [getF]
    obtain ⟨m, rfl⟩ : ∃ m, n = m + 1 := ⟨n - 1, by omega⟩
    by_cases c1 : c < (putOne last x).length
    · right
      rw [putAll, List.take_append_of_le_length qo, getF, if_neg (by rw [List.length_take]; omega), takeC_short h1 qo c1, if_neg (by decide)]
    · have e : (putAll last (x :: l)).take c = putOne last x ++ (putAll x.key l).take (c - (putOne last x).length) := by
        rw [putAll, List.take_append, List.take_of_length_le qo]
      rw [e, getF, if_neg (by rw [List.length_append]; omega), takeC_put _ h1, if_pos rfl]
      simp only
      rcases get_cut (n := m) (c := c - (putOne last x).length) h2 qo qo with ⟨k, hk, q⟩ | q
      · rw [q, if_pos rfl]
        exact .inl ⟨k + 1, by simpa using hk, rfl⟩
      · rw [q, if_neg (by decide)]
        exact .inr rfl
theorem putOne_bytes {last : Bs} {x : En} (hk : Bytes x.key) (hv : Bytes x.val) (h1 : x.key.length ≤ 16) : Bytes (putOne last x) := by
  have hs := shared_le last x.key
  intro c hc
  unfold putOne at hc
  simp only [List.mem_append, List.mem_cons, List.not_mem_nil, or_false] at hc
  rcases hc with (((rfl | rfl) | hc) | hc) | hc
  · omega
  · omega
  · exact hk c (List.mem_of_mem_drop hc)
  · simp only [beL, beB, List.mem_cons, List.not_mem_nil, or_false] at hc
    rcases hc with rfl | rfl <;> omega
  · exact hv c hc
theorem putAll_bytes : ∀ {l : List En} {last : Bs}, mayG last l = true → (∀ x ∈ l, Bytes x.key ∧ Bytes x.val) → Bytes (putAll last l)
  | [], _, _, _ => fun c hc => nomatch hc
  | x :: l, last, h, hb => fun c hc => by
    obtain ⟨h1, h2⟩ := may_cons.1 h
    rw [putAll, List.mem_append] at hc
    rcases hc with hc | hc
    · exact putOne_bytes (hb x (by simp)).1 (hb x (by simp)).2 h1.at.1 c hc
    · exact putAll_bytes h2 (fun y hy => hb y (List.mem_cons_of_mem _ hy)) c hc
theorem en_get2 {l : List Ro} {m : List En} (e : l.map Ro.en = m) : l.length = m.length := by rw [← e, List.length_map]
theorem putAll_len : ∀ {l : List En} {last : Bs}, mayG last l = true → (putAll last l).length ≤ l.length * 10000
  | [], _, _ => by simp [putAll]
  | x :: l, last, h => by
    obtain ⟨h1, h2⟩ := may_cons.1 h
    have := putAll_len h2
    have := putOne_len (last := last) h1.at.1 h1.at.2.2
    rw [putAll, List.length_append, List.length_cons]; omega
/-- What Put comes to, in two cases. -/
theorem errP_cases (l : List Ro) (hb : ∀ x ∈ l, Bytes x.key ∧ Bytes x.val) : (mayP (l.map Ro.en) = true ∧ errP l = 0 ∧ getAll (putP l) = (0, l.map Ro.en) ∧ Bytes (putP l) ∧ (putP l).length ≤ l.length * 10000 ∧
      ∀ c, c < (putP l).length → (∃ k, k < l.length ∧ getAll ((putP l).take c) = (0, (l.map Ro.en).take k)) ∨ getAll ((putP l).take c) = (4, [])) ∨
    (mayP (l.map Ro.en) = false ∧ errP l = 2 ∧ getAll (putP l) = (0, []) ∧ Bytes (putP l) ∧ (putP l).length ≤ l.length * 10000 ∧ ∀ c, c < (putP l).length → (∃ k, k < l.length ∧ getAll ((putP l).take c) = (0, (l.map Ro.en).take k)) ∨ getAll ((putP l).take c) = (4, [])) := by
  by_cases h : mayP (l.map Ro.en) = true
  · left
    have hp : putP l = putAll [] (l.map Ro.en) := by unfold putP; rw [if_pos h]
    rw [hp]
    refine ⟨h, by unfold errP; rw [if_pos h], get_put h (Nat.le_refl _), putAll_bytes h (fun x hx => ?_), by have := putAll_len h; rwa [List.length_map] at this, fun c hc => ?_⟩
    · obtain ⟨y, hy, rfl⟩ := List.mem_map.1 hx
      exact hb y hy
    · have := get_cut (n := ((putAll [] (l.map Ro.en)).take c).length) h hc (by rw [List.length_take]; omega)
      rwa [List.length_map] at this
  · right
    have hp : putP l = [] := by unfold putP; rw [if_neg h]
    rw [hp]
    exact ⟨by simpa using h, by unfold errP; rw [if_neg h], rfl, (fun c hc => nomatch hc), Nat.zero_le _, fun c hc => by simp at hc⟩
section
variable {l : List Ro} {bs : Bs}
theorem got_all (e : l.map Ro.en = (getAll bs).2) (hy : Bytes bs) (h : (getAll bs).1 = 0) : mayP (l.map Ro.en) = true ∧ putAll [] (l.map Ro.en) = bs := by
  rw [e]; exact put_get hy (Nat.le_refl _) h
theorem errP_got (e : Asm (l.map Ro.en = (getAll bs).2)) (hy : Asm (Bytes bs)) (h : (getAll bs).1 = 0) : errP l = 0 := by unfold errP; rw [if_pos (got_all e.out hy.out h).1]
theorem putP_got (e : Asm (l.map Ro.en = (getAll bs).2)) (hy : Asm (Bytes bs)) (h : (getAll bs).1 = 0) : putP l = bs := by unfold putP; rw [if_pos (got_all e.out hy.out h).1]; exact (got_all e.out hy.out h).2
theorem mayP_got (e : Asm (l.map Ro.en = (getAll bs).2)) (hy : Asm (Bytes bs)) (h : (getAll bs).1 = 0) : mayP (l.map Ro.en) = true := (got_all e.out hy.out h).1
theorem none_got (e : l.map Ro.en = (getAll bs).2) (h : ¬ (getAll bs).1 = 0) : l.length = 0 := by
  rw [en_get2 e, show (getAll bs).2 = [] from getF_err h]; rfl
end
def b5 : SC := (.seq (.ops [⟨some 6, .mov (.c (.bool false)), none⟩]) (.seq (.seq (.ops [⟨some 17, .mov (.t 0), none⟩, ⟨some 18, .len (.sl) (.t 17), none⟩, ⟨some 19, .bin (.gtr) (.other) (.t 18) (.c (.int (.i64) 200)), none⟩, ⟨some 20, .mov (.t 19), none⟩, ⟨some 21, .mov (.t 1), some (20, false)⟩, ⟨some 22, .len (.sl) (.t 21), some (20, false)⟩, ⟨some 23, .bin (.gtr) (.other) (.t 22) (.c (.int (.i64) 262144)), some (20, false)⟩, ⟨some 24, .pick (.t 20) (.c (.bool true)) (.t 23), none⟩]) (.cond (.t 24) (.seq (.ops [⟨some 25, .call 8 [], none⟩, ⟨some 6, .mov (.t 25), none⟩]) .ret) .skip)) (.seq (.ops [⟨some 27, .mov (.t 0), none⟩, ⟨some 28, .call 10 [.t 27], none⟩, ⟨some 26, .mov (.t 28), none⟩, ⟨some 29, .extract (.t 26) 0, none⟩, ⟨some 30, .extract (.t 26) 1, none⟩, ⟨some 7, .mov (.t 29), none⟩, ⟨some 8, .mov (.t 30), none⟩]) (.seq (.seq (.ops [⟨some 31, .mov (.t 8), none⟩, ⟨some 32, .bin (.eql) (.other) (.t 31) (.c (.int (.i64) 0)), none⟩, ⟨some 33, .mov (.t 0), none⟩, ⟨some 34, .call 14 [.t 33], none⟩, ⟨some 35, .bin (.neq) (.bool) (.t 32) (.t 34), none⟩]) (.cond (.t 35) (.seq (.ops [⟨some 6, .mov (.c (.bool false)), none⟩]) .ret) .skip)) (.seq (.seq (.ops [⟨some 36, .mov (.t 8), none⟩, ⟨some 37, .bin (.eql) (.other) (.t 36) (.c (.int (.i64) 0)), none⟩]) (.cond (.t 37) (.seq (.ops [⟨some 39, .mov (.t 7), none⟩, ⟨some 40, .call 12 [.t 39], none⟩, ⟨some 38, .mov (.t 40), none⟩, ⟨some 41, .extract (.t 38) 0, none⟩, ⟨some 42, .extract (.t 38) 1, none⟩, ⟨some 9, .mov (.t 41), none⟩, ⟨some 10, .mov (.t 42), none⟩]) (.seq (.seq (.ops [⟨some 43, .mov (.t 10), none⟩, ⟨some 44, .bin (.neq) (.other) (.t 43) (.c (.int (.i64) 0)), none⟩, ⟨some 45, .mov (.t 44), none⟩, ⟨some 46, .mov (.t 9), some (45, false)⟩, ⟨some 47, .mov (.t 0), some (45, false)⟩, ⟨some 48, .call 17 [.t 46, .t 47], some (45, false)⟩, ⟨some 49, .un (.not) (.t 48), some (45, false)⟩, ⟨some 50, .pick (.t 45) (.c (.bool true)) (.t 49), none⟩]) (.cond (.t 50) (.seq (.ops [⟨some 6, .mov (.c (.bool false)), none⟩]) .ret) .skip)) (.seq (.ops [⟨some 51, .mov (.t 2), none⟩, ⟨some 52, .bin (.geq) (.other) (.t 51) (.c (.int (.i64) 0)), none⟩, ⟨some 53, .mov (.t 52), none⟩, ⟨some 54, .mov (.t 2), some (53, true)⟩, ⟨some 55, .mov (.t 7), some (53, true)⟩, ⟨some 56, .len (.sl) (.t 55), some (53, true)⟩, ⟨some 57, .bin (.lss) (.other) (.t 54) (.t 56), some (53, true)⟩, ⟨some 58, .pick (.t 53) (.t 57) (.c (.bool false)), none⟩]) (.cond (.t 58) (.seq (.ops [⟨some 60, .mov (.t 7), none⟩, ⟨some 61, .mov (.t 2), none⟩, ⟨some 62, .slice 1 (.t 60) none (some (.t 61)) none, none⟩, ⟨some 63, .call 12 [.t 62], none⟩, ⟨some 59, .mov (.t 63), none⟩, ⟨some 64, .extract (.t 59) 0, none⟩, ⟨some 65, .extract (.t 59) 1, none⟩, ⟨some 11, .mov (.t 64), none⟩, ⟨some 12, .mov (.t 65), none⟩]) (.seq (.ops [⟨some 66, .mov (.t 12), none⟩, ⟨some 67, .bin (.neq) (.other) (.t 66) (.c (.int (.i64) 0)), none⟩, ⟨some 68, .mov (.t 67), none⟩, ⟨some 69, .mov (.t 12), some (68, true)⟩, ⟨some 70, .bin (.neq) (.other) (.t 69) (.c (.int (.i64) 4)), some (68, true)⟩, ⟨some 71, .pick (.t 68) (.t 70) (.c (.bool false)), none⟩, ⟨some 72, .mov (.t 71), none⟩, ⟨some 73, .mov (.t 11), some (72, false)⟩, ⟨some 74, .len (.sl) (.t 73), some (72, false)⟩, ⟨some 75, .mov (.t 0), some (72, false)⟩, ⟨some 76, .len (.sl) (.t 75), some (72, false)⟩, ⟨some 77, .bin (.geq) (.other) (.t 74) (.t 76), some (72, false)⟩, ⟨some 78, .pick (.t 72) (.c (.bool true)) (.t 77), none⟩, ⟨some 79, .mov (.t 78), none⟩, ⟨some 80, .mov (.t 12), some (79, false)⟩, ⟨some 81, .bin (.eql) (.other) (.t 80) (.c (.int (.i64) 0)), some (79, false)⟩, ⟨some 82, .mov (.t 81), some (79, false)⟩, ⟨some 83, .mov (.t 11), some (82, true)⟩, ⟨some 84, .mov (.t 0), some (82, true)⟩, ⟨some 85, .mov (.t 11), some (82, true)⟩, ⟨some 86, .len (.sl) (.t 85), some (82, true)⟩, ⟨some 87, .slice 3 (.t 84) none (some (.t 86)) none, some (82, true)⟩, ⟨some 88, .call 17 [.t 83, .t 87], some (82, true)⟩, ⟨some 89, .un (.not) (.t 88), some (82, true)⟩, ⟨some 90, .pick (.t 82) (.t 89) (.c (.bool false)), some (79, false)⟩, ⟨some 91, .pick (.t 79) (.c (.bool true)) (.t 90), none⟩]) (.cond (.t 91) (.seq (.ops [⟨some 6, .mov (.c (.bool false)), none⟩]) .ret) .skip))) .skip)))) .skip)) (.seq (.ops [⟨some 93, .mov (.t 1), none⟩, ⟨some 94, .call 12 [.t 93], none⟩, ⟨some 92, .mov (.t 94), none⟩, ⟨some 95, .extract (.t 92) 0, none⟩, ⟨some 96, .extract (.t 92) 1, none⟩, ⟨some 13, .mov (.t 95), none⟩, ⟨some 14, .mov (.t 96), none⟩]) (.seq (.seq (.ops [⟨some 97, .mov (.t 14), none⟩, ⟨some 98, .bin (.neq) (.other) (.t 97) (.c (.int (.i64) 0)), none⟩]) (.cond (.t 98) (.seq (.ops [⟨some 99, .mov (.t 13), none⟩, ⟨some 100, .len (.sl) (.t 99), none⟩, ⟨some 101, .bin (.eql) (.other) (.t 100) (.c (.int (.i64) 0)), none⟩, ⟨some 102, .mov (.t 101), none⟩, ⟨some 103, .call 8 [], some (102, true)⟩, ⟨some 104, .pick (.t 102) (.t 103) (.c (.bool false)), none⟩, ⟨some 6, .mov (.t 104), none⟩]) .ret) .skip)) (.seq (.ops [⟨some 106, .mov (.t 13), none⟩, ⟨some 107, .call 10 [.t 106], none⟩, ⟨some 105, .mov (.t 107), none⟩, ⟨some 108, .extract (.t 105) 0, none⟩, ⟨some 109, .extract (.t 105) 1, none⟩, ⟨some 15, .mov (.t 108), none⟩, ⟨some 16, .mov (.t 109), none⟩]) (.seq (.ops [⟨some 110, .mov (.t 16), none⟩, ⟨some 111, .bin (.eql) (.other) (.t 110) (.c (.int (.i64) 0)), none⟩, ⟨some 112, .mov (.t 111), none⟩, ⟨some 113, .mov (.t 15), some (112, true)⟩, ⟨some 114, .mov (.t 1), some (112, true)⟩, ⟨some 115, .call 16 [.t 113, .t 114], some (112, true)⟩, ⟨some 116, .pick (.t 112) (.t 115) (.c (.bool false)), none⟩, ⟨some 117, .mov (.t 116), none⟩, ⟨some 118, .mov (.t 13), some (117, true)⟩, ⟨some 119, .call 14 [.t 118], some (117, true)⟩, ⟨some 120, .pick (.t 117) (.t 119) (.c (.bool false)), none⟩, ⟨some 121, .mov (.t 120), none⟩, ⟨some 122, .call 8 [], some (121, true)⟩, ⟨some 123, .pick (.t 121) (.t 122) (.c (.bool false)), none⟩, ⟨some 6, .mov (.t 123), none⟩]) .ret)))))))))
theorem t5 : tab 5 = some ⟨124, [.tmp 6], b5⟩ := rfl
theorem go_Carries (l : List Ro) {bs : Bs} {h : Heap} {V B : AV} (hV : CAt h V l) (hv : VAt h l) (hcap : capOk V) (hB : BytesAt h B bs) (hy : Bytes bs) (hb : ∀ x ∈ l, Bytes x.key ∧ Bytes x.val) (cut : Int) : Runs (xcall X1 tab (.fn 5) [V, B, .int .i64 cut] h) fun v h' => v = .bool true := by
  refine Runs.intro fun K hK => ?_
  rcases errP_cases l hb with ⟨hm, he, hgp, hyp, hpl, hcut⟩ | ⟨hm, he, hgp, hyp, hpl, hcut⟩
  all_goals rw [w_fn rfl t5 (Nat.le_of_ble_eq_true rfl)]
  all_goals delta b5
  all_goals repeat' (first
    | simp (disch := first | exact qd | fail) only [WB, ↓WP, ↓WL, WR, WC, if_true, if_false, ite_true, ite_false, aop, ev, evs, readsA, List.replicate, numF, unA, resA, tupA, loadA, storeA, splice, fillA, kindsOk, plainEq, ↓reduceIte, Nat.reduceEqDiff, Nat.reduceLT, Int.reduceToNat, Int.reduceBEq, Int.reduceBNe, Nat.reduceAdd, Nat.reduceMul, Nat.reduceLeDiff, Int.reduceLT, Int.reduceSub, Int.reduceAdd, hm, he, hgp, errP_got, putP_got, mayP_got]
    | ((first | refine atC ?_ ?_ | refine atG ?_ ?_ | refine atH ?_ ?_ | refine atP ?_ ?_) <;> intro hc <;> (try rw [hc]) <;> (try simp only [BD] at hc) <;> try (exfalso; omega))
    | ((first
      | (refine Runs.call (lives_r _) ?_; rintro _ _ ⟨rfl, rfl⟩)
      | (refine Runs.call (put_t (bat_Put l hV hv qo)) ?_; rintro v1 H1 ⟨gr, w1, rfl, hO1⟩)
      | (refine Runs.call (bat_MayChange l (hV.grow qg) (hv.grow qg) qo) ?_; rintro _ _ ⟨rfl, gr⟩)
      | (refine Runs.call (bat_Get (hO1.at.grow qg) hyp qo) ?_; rintro v3 H3 ⟨gr, w3, l3, rfl, e3, c3, q3⟩; rw [hgp] at e3 ⊢)
      | (refine Runs.call (f0_Changes l3 l (c3.grow qg) (q3.grow qg) (hV.grow qg) (hv.grow qg) (by have := en_get2 e3; simp only [List.length_map] at this; omega)) ?_; rintro _ _ ⟨rfl, rfl⟩)
      | (refine Runs.call (BytesAt.cutR hO1.at (a := 0) (b := cut.toNat) qg (.inr ⟨rfl, rfl⟩) (.inl (by rw [Int.toNat_of_nonneg qo])) qo qo) ?_; rintro u _ ⟨rfl, hu⟩; simp only [List.drop_zero] at hu)
      | (refine Runs.call (bat_Get (hu.grow qg) (hyp.take _) ql) ?_; rintro v4 H4 ⟨gr, w4, l4, rfl, e4, c4, q4⟩; rcases hcut cut.toNat qo with ⟨k, hk, hq⟩ | hq <;> (rw [hq] at e4 ⊢; have hl4 := en_get2 e4; simp only [List.length_take, List.length_map, List.length_nil] at hl4))
      | (refine Runs.call (Rd.cutR (hV.grow qg) hcap rfl qo) ?_; rintro u5 _ ⟨rfl, hu5⟩)
      | (refine Runs.call (f0_Changes l4 (l.take l4.length) (c4.grow qg) (q4.grow qg) (hu5.grow qg) (fun x hx => hv.grow qg x (List.mem_of_mem_take hx)) qo) ?_; rintro _ _ ⟨rfl, rfl⟩)
      | (refine Runs.call (bat_Get (hB.grow qg) hy qo) ?_; rintro v6 H6 ⟨gr, w6, l6, rfl, e6, c6, q6⟩; have hl6 := got_len e6; have hn6 := none_got e6)
      | (refine Runs.call (put_t (bat_Put l6 (c6.grow qg) (q6.grow qg) qo)) ?_; rintro v7 H7 ⟨gr, w7, rfl, hO7⟩)
      | (refine Runs.call (f0_Same (hO7.at.grow qg) (hB.grow qg)) ?_; rintro _ _ ⟨rfl, rfl⟩)
      | (refine Runs.call (bat_MayChange l6 (c6.grow qg) (q6.grow qg) qo) ?_; rintro _ _ ⟨rfl, gr⟩)
      | fail); all_goals ((try (have gn := gr.1; try simp only [nx_alloc, nx_set] at gn)); (try (have an := ha.num; try simp only [nx_alloc, nx_set, own_sl, own_nil] at an)); (try (have on := hO.num; try simp only [nx_alloc, nx_set] at on)); (try (have kn := hk.1; try simp only [nx_alloc, nx_set] at kn)); try have hB := hO.at)))
  all_goals try (first
    | (refine hK _ _ ?_; (first | rfl | exact absurd (by rw [e4, hl4, Nat.min_eq_left qo, List.map_take]) hc | exact absurd e3 hc | fail); done))
theorem run_Carries (N : Nat) : ∀ h xs, (∀ l, AV.str l ∈ xs → l.length ≤ 9223372036854775807) → argsT Try.prog N h 5 Try.f5.params.toList xs → argsX Try.prog N 5 Try.f5.params.toList emptyHeap xs h →
    ∃ n h', acall X1 tab n (.fn 5) xs h = some (.bool true, h') ∨ (AV.bares xs = true ∧ acall X1 tab n (.fn 5) xs emptyHeap = some (.bool true, h')) := by
  intro h xs hs _ hx
  rw [Try.params5] at hx
  obtain ⟨V, _, h1, rfl, e1, hx⟩ := argsX_cons hx
  obtain ⟨B, _, h2, rfl, e2, hx⟩ := argsX_cons hx
  obtain ⟨x, _, h3, rfl, e3, hx⟩ := argsX_cons hx
  obtain ⟨rfl, rfl⟩ := argsX_nil hx
  have hcap := arg_cap (k := 4) Try.underlying22 e1
  obtain ⟨l, c1, q1, n1, g1⟩ := arg_chg e1
  obtain ⟨bs, b1, b2, b3, g2⟩ := arg_bytes Try.underlying23 Try.underlying5 (by kernel_rfl) e2
  obtain ⟨cut, rfl, _, rfl⟩ := argX_int Try.underlying3 e3
  obtain ⟨v, h', e, rfl⟩ := go_Carries l (c1.grow g2) (fun z hz => (q1 z hz).1.grow g2) hcap b1 b2 (fun z hz => ⟨(q1 z hz).2.2.2.1, (q1 z hz).2.2.2.2⟩) cut
  exact ranX e
end Go.Proofs.Ytbcmdlaffjmfdaa.Ya

