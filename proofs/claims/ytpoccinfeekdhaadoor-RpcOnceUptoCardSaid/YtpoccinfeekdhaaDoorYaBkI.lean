/-
  Replies: what is laid is told, and back.
-/
import Derived.Test.YtpoccinfeekdhaaDoorYaBkG
import Derived.Test.YtpoccinfeekdhaaDoorYbL
import Derived.Test.YtpoccinfeekdhaaDoorYaXP
namespace Go.Proofs.YtpoccinfeekdhaaDoor.Ya.B
open Go.Ya Go.Ya.Na
set_option linter.unusedVariables false
set_option linter.unusedSimpArgs false
set_option maxRecDepth 100000
set_option maxHeartbeats 8000000
theorem encP_eq (z : Bk) : encP z = beL z.client 4 ++ (beL z.inc 4 ++ (beL z.seq 8 ++ (beL z.status 4 ++ (beL z.boot 4 ++ (beL z.ino 4 ++ (beL z.gen 4 ++ (beL (if z.dir = true then 1 else 0) 4 ++ (beL z.size 4 ++ (beL z.change 8 ++ (beL z.before 8 ++ (encB z.data ++ (beL (z.names.length : Nat) 4 ++ (z.names.flatMap encB))))))))))))) := by
  simp [encP, encC, encA, encNs, enc4, List.append_assoc]
theorem drop_cons' {l : List Bs} {k : Nat} (h : k < l.length) : l.drop k = l[k] :: l.drop (k + 1) := List.drop_eq_getElem_cons h
theorem namesR_all {l : List Bs} (h : ∀ p ∈ l, p.length ≤ 4096) (tl : List Int) : ∀ k, k ≤ l.length → namesR (l.flatMap encB ++ tl, 0) k = (l.take k, ((l.drop k).flatMap encB ++ tl, 0))
  | 0, _ => by simp [namesR]
  | k + 1, hk => by
    have hk' : k < l.length := by omega
    have ht := rdB_tells (most := 4096) (h _ (List.getElem_mem hk')) qo
    show ((namesR _ k).1 ++ [(rdB 4096 (namesR _ k).2).1], (rdB 4096 (namesR _ k).2).2) = _
    rw [namesR_all h tl k qo, drop_cons' hk', List.flatMap_cons, List.append_assoc, ht.all, List.take_add_one, List.getElem?_eq_getElem hk']
    rfl
theorem mayB_n {z : Bk} (hm : mayB z = true) : ∀ p ∈ z.names, p.length ≤ 32 := fun p hp => by
  obtain ⟨i, hi, rfl⟩ := List.mem_iff_getElem.1 hp
  have := (may_bd hm).2.2 i hi
  rwa [List.getD_eq_getElem?_getD, List.getElem?_eq_getElem hi] at this
theorem flat_le : ∀ {l : List Bs}, (∀ p ∈ l, p.length ≤ 32) → (l.flatMap encB).length ≤ 40 * l.length
  | [], _ => Nat.zero_le _
  | p :: l, h => by
    have ih := flat_le fun q hq => h q (List.mem_cons_of_mem _ hq)
    have h1 := h p (by simp)
    have h2 := padN_le p.length
    rw [List.flatMap_cons, List.length_append, encB_len, List.length_cons]; omega
theorem encP_le {z : Bk} (hm : mayB z = true) : (encP z).length ≤ 4096 := by
  have h1 := may_bd hm
  have h2 := flat_le (mayB_n hm)
  have h3 := padN_le z.data.length
  rw [encP_eq]
  simp only [List.length_append, beL_len, encB_len]
  omega
theorem got_enc {z : Bk} (ho : BkOk z) (hm : mayB z = true) {tl : List Int} {d : Hd} (hd : HdOk (encP z ++ tl) d) : gotZ d = z.en ∧ (gotE (encP z ++ tl) d = 0 ↔ tl = []) := by
  obtain ⟨o1, o2, o3, o4, o5, o6, o7, o8, o9, o10⟩ := ho
  have hb := may_bd hm
  have hn := mayB_n hm
  have t1 := rdN_tells (n := z.client) (k := 4) qo (by rw [p4]; omega)
  have t2 := rdN_tells (n := z.inc) (k := 4) qo (by rw [p4]; omega)
  have t3 := rdN_tells (n := z.seq) (k := 8) qo (by rw [p8]; omega)
  have t4 := rdN_tells (n := z.status) (k := 4) qo (by rw [p4]; omega)
  have t5 := rdN_tells (n := z.boot) (k := 4) qo (by rw [p4]; omega)
  have t6 := rdN_tells (n := z.ino) (k := 4) qo (by rw [p4]; omega)
  have t7 := rdN_tells (n := z.gen) (k := 4) qo (by rw [p4]; omega)
  have t8 := rdT_tells z.dir
  have t9 := rdN_tells (n := z.size) (k := 4) qo (by rw [p4]; omega)
  have t10 := rdN_tells (n := z.change) (k := 8) qo (by rw [p8]; omega)
  have t11 := rdN_tells (n := z.before) (k := 8) qo (by rw [p8]; omega)
  have t12 := rdB_tells (most := 4096) (xs := z.data) qo qo
  have t13 := rdN_tells (n := (z.names.length : Nat)) (k := 4) qo (by rw [p4]; omega)
  have q0 : (encP z ++ tl, (0 : Int)) = (beL z.client 4 ++ (beL z.inc 4 ++ (beL z.seq 8 ++ (beL z.status 4 ++ (beL z.boot 4 ++ (beL z.ino 4 ++ (beL z.gen 4 ++ (beL (if z.dir = true then 1 else 0) 4 ++ (beL z.size 4 ++ (beL z.change 8 ++ (beL z.before 8 ++ (encB z.data ++ (beL (z.names.length : Nat) 4 ++ (z.names.flatMap encB ++ tl))))))))))))), 0) := by rw [encP_eq]; simp only [List.append_assoc]
  obtain ⟨v1, q1⟩ := t1.at q0 hd.h1
  obtain ⟨v2, q2⟩ := t2.at q1 hd.h2
  obtain ⟨v3, q3⟩ := t3.at q2 hd.h3
  obtain ⟨v4, q4⟩ := t4.at q3 hd.h4
  obtain ⟨v5, q5⟩ := t5.at q4 hd.h5
  obtain ⟨v6, q6⟩ := t6.at q5 hd.h6
  obtain ⟨v7, q7⟩ := t7.at q6 hd.h7
  obtain ⟨v8, q8⟩ := t8.at q7 hd.h8
  obtain ⟨v9, q9⟩ := t9.at q8 hd.h9
  obtain ⟨v10, q10⟩ := t10.at q9 hd.h10
  obtain ⟨v11, q11⟩ := t11.at q10 hd.h11
  obtain ⟨v12, q12⟩ := t12.at q11 hd.h12
  obtain ⟨v13, q13⟩ := t13.at q12 hd.h13
  have hn13 : d.n13 = z.names.length := by omega
  have hR : namesR d.s13 d.n13 = (z.names, (tl, 0)) := by
    rw [q13, hn13, namesR_all (fun p hp => by have := hn p hp; omega) tl _ (Nat.le_refl _), List.take_length, List.drop_length]
    rfl
  have hz : gotZ d = z.en := by
    unfold mayB at hm
    rw [Bool.and_eq_true, decide_eq_true_eq] at hm
    have hm := hm.1
    have e1 : ((min d.n1 255 : Nat) : Int) = z.client := by omega
    have e4 : ((min d.n4 255 : Nat) : Int) = z.status := by omega
    unfold gotZ gotBk Bk.en
    rw [hR, e1, e4, v2, v3, v5, v6, v7, v8, v9, v10, v11, v12]
  refine ⟨hz, ?_⟩
  have hmz : mayB (gotZ d) = true := by rw [hz]; exact hm
  have hle := encP_le hm
  by_cases ht : tl = []
  · subst ht
    refine ⟨fun _ => rfl, fun _ => ?_⟩
    have e1 : getE (encP z ++ []) d = 0 := by
      rw [getE_end (by rw [List.append_nil]; omega) qo, hR]; rfl
    unfold gotE
    rw [if_pos e1, if_pos hmz]
  · refine ⟨fun e => ?_, fun e => absurd e ht⟩
    exfalso
    have hp : 0 < tl.length := List.length_pos_iff.2 ht
    have e1 : getE (encP z ++ tl) d ≠ 0 := by
      by_cases hlong : 4096 < (encP z ++ tl).length
      · rw [getE_long hlong]; decide
      · rw [getE_end hlong qo, hR]
        unfold endE
        rw [if_pos ⟨rfl, hp⟩]; decide
    unfold gotE at e
    rw [if_neg e1] at e
    exact e1 e
end Go.Proofs.YtpoccinfeekdhaaDoor.Ya.B
