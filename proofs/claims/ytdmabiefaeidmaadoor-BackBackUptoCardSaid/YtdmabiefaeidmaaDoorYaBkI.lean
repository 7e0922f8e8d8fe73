/-
  Replies: what is laid is told, and back.
-/
import Derived.Test.YtdmabiefaeidmaaDoorYaBkH
import Derived.Test.YtdmabiefaeidmaaDoorYbL
import Derived.Test.YtdmabiefaeidmaaDoorYaXP
namespace Go.Proofs.YtdmabiefaeidmaaDoor.Ya
open Go.Ya Go.Ya.Na
set_option linter.unusedVariables false
set_option linter.unusedSimpArgs false
set_option maxRecDepth 100000
set_option maxHeartbeats 8000000
theorem encP_eq (z : Bk) : encP z = beL z.client 4 ++ (beL z.inc 4 ++ (beL z.seq 8 ++ (beL z.status 4 ++ (beL z.boot 4 ++ (beL z.ino 4 ++ (beL z.gen 4 ++ (beL (if z.dir = true then 1 else 0) 4 ++ (beL z.size 4 ++ (beL z.change 8 ++ (beL z.before 8 ++ (encB z.data ++ (beL (z.names.length : Nat) 4 ++ (z.names.flatMap encB))))))))))))) := by
  simp [encP, encC, encA, encNs, enc4, List.append_assoc]
theorem drop_cons' {l : List Bs} {k : Nat} (h : k < l.length) : l.drop k = l[k] :: l.drop (k + 1) := List.drop_eq_getElem_cons h
theorem namesR_all {l : List Bs} (h : ∀ p ∈ l, p.length ≤ 4096) (tl : List Int) : ∀ k, k ≤ l.length → namesR (l.flatMap encB ++ tl, 0) k = (l.take k, ((l.drop k).flatMap encB ++ tl, 0))
  | 0, _ => by simp [namesR]
  | k + 1, hk => by
    have hk' : k < l.length := by omega
    have ht := rdB_tells (most := 4096) (h _ (List.getElem_mem hk')) qo
    show ((namesR _ k).1 ++ [(rdB 4096 (namesR _ k).2).1], (rdB 4096 (namesR _ k).2).2) = _
    rw [namesR_all h tl k qo, drop_cons' hk', List.flatMap_cons, List.append_assoc, ht.all, List.take_add_one, List.getElem?_eq_getElem hk']
    rfl
theorem namesR_cut {l : List Bs} (h : ∀ p ∈ l, p.length ≤ 4096) {s : List Int × Int} (p : Part s (l.flatMap encB)) : ∀ k, k ≤ l.length → Part (namesR s k).2 ((l.drop k).flatMap encB)
  | 0, _ => by simpa [namesR] using p
  | k + 1, hk => by
    have hk' : k < l.length := by omega
    have ht := rdB_tells (most := 4096) (h _ (List.getElem_mem hk')) qo
    have ih := namesR_cut h p k qo
    rw [drop_cons' hk', List.flatMap_cons] at ih
    rcases ht.step ih with e | ⟨_, e⟩
    · exact .inl e
    · exact e
theorem namesR_bad {s : List Int × Int} (h : s.2 = 4) : ∀ k, (namesR s k).2.2 = 4
  | 0 => h
  | k + 1 => by
    show (rdB 4096 (namesR s k).2).2.2 = 4
    have ih := namesR_bad h k
    rw [rdB_bad (by rw [ih]; decide)]; exact ih
theorem namesR_inv {s : List Int × Int} (hy : Bytes s.1) : ∀ k, (namesR s k).2.2 = 0 → s.2 = 0 ∧ s.1 = (namesR s k).1.flatMap encB ++ (namesR s k).2.1
  | 0, h => ⟨h, by simp [namesR]⟩
  | k + 1, h => by
    have hb := rdB_inv (most := 4096) (s := (namesR s k).2) (xs := (rdB 4096 (namesR s k).2).1) (s1 := (rdB 4096 (namesR s k).2).2) (namesR_by hy k).1 rfl h
    have ih := namesR_inv hy k hb.1
    refine ⟨ih.1, ?_⟩
    show s.1 = ((namesR s k).1 ++ [(rdB 4096 (namesR s k).2).1]).flatMap encB ++ (rdB 4096 (namesR s k).2).2.1
    rw [List.flatMap_append, List.flatMap_singleton, List.append_assoc, ← hb.2]
    exact ih.2
theorem fin4 {bs : List Int} {d : Hd} (hl : bs.length ≤ 4096) (h : (namesR d.s13 d.n13).2.2 = 4) (hm : d.s13.2 = 4 ∨ d.n13 ≤ 32) : gotE bs d = 4 := by
  have e1 : getE bs d = 4 := by
    rw [getE_end qo qo]
    unfold endE
    rw [if_neg qo]; exact h
  unfold gotE
  rw [if_neg (by rw [e1]; decide)]; exact e1
theorem mayB_n {z : Bk} (hm : mayB z = true) : ∀ p ∈ z.names, p.length ≤ 32 := fun p hp => by
  obtain ⟨i, hi, rfl⟩ := List.mem_iff_getElem.1 hp
  have := (may_bd hm).2.2 i hi
  rwa [List.getD_eq_getElem?_getD, List.getElem?_eq_getElem hi] at this
theorem flat_le : ∀ {l : List Bs}, (∀ p ∈ l, p.length ≤ 32) → (l.flatMap encB).length ≤ 40 * l.length
  | [], _ => Nat.zero_le _
  | p :: l, h => by
    have ih := flat_le fun q hq => h q (List.mem_cons_of_mem _ hq)
    have h1 := h p (by simp)
    have h2 := padN_le p.length
    rw [List.flatMap_cons, List.length_append, encB_len, List.length_cons]; omega
theorem encP_le {z : Bk} (hm : mayB z = true) : (encP z).length ≤ 4096 := by
  have h1 := may_bd hm
  have h2 := flat_le (mayB_n hm)
  have h3 := padN_le z.data.length
  rw [encP_eq]
  simp only [List.length_append, beL_len, encB_len]
  omega
theorem got_enc {z : Bk} (ho : BkOk z) (hm : mayB z = true) {tl : List Int} {d : Hd} (hd : HdOk (encP z ++ tl) d) : gotZ d = z.en ∧ (gotE (encP z ++ tl) d = 0 ↔ tl = []) := by
  obtain ⟨o1, o2, o3, o4, o5, o6, o7, o8, o9, o10⟩ := ho
  have hb := may_bd hm
  have hn := mayB_n hm
  have t1 := rdN_tells (n := z.client) (k := 4) qo (by rw [p4]; omega)
  have t2 := rdN_tells (n := z.inc) (k := 4) qo (by rw [p4]; omega)
  have t3 := rdN_tells (n := z.seq) (k := 8) qo (by rw [p8]; omega)
  have t4 := rdN_tells (n := z.status) (k := 4) qo (by rw [p4]; omega)
  have t5 := rdN_tells (n := z.boot) (k := 4) qo (by rw [p4]; omega)
  have t6 := rdN_tells (n := z.ino) (k := 4) qo (by rw [p4]; omega)
  have t7 := rdN_tells (n := z.gen) (k := 4) qo (by rw [p4]; omega)
  have t8 := rdT_tells z.dir
  have t9 := rdN_tells (n := z.size) (k := 4) qo (by rw [p4]; omega)
  have t10 := rdN_tells (n := z.change) (k := 8) qo (by rw [p8]; omega)
  have t11 := rdN_tells (n := z.before) (k := 8) qo (by rw [p8]; omega)
  have t12 := rdB_tells (most := 4096) (xs := z.data) qo qo
  have t13 := rdN_tells (n := (z.names.length : Nat)) (k := 4) qo (by rw [p4]; omega)
  have q0 : (encP z ++ tl, (0 : Int)) = (beL z.client 4 ++ (beL z.inc 4 ++ (beL z.seq 8 ++ (beL z.status 4 ++ (beL z.boot 4 ++ (beL z.ino 4 ++ (beL z.gen 4 ++ (beL (if z.dir = true then 1 else 0) 4 ++ (beL z.size 4 ++ (beL z.change 8 ++ (beL z.before 8 ++ (encB z.data ++ (beL (z.names.length : Nat) 4 ++ (z.names.flatMap encB ++ tl))))))))))))), 0) := by rw [encP_eq]; simp only [List.append_assoc]
  obtain ⟨v1, q1⟩ := t1.at q0 hd.h1
  obtain ⟨v2, q2⟩ := t2.at q1 hd.h2
  obtain ⟨v3, q3⟩ := t3.at q2 hd.h3
  obtain ⟨v4, q4⟩ := t4.at q3 hd.h4
  obtain ⟨v5, q5⟩ := t5.at q4 hd.h5
  obtain ⟨v6, q6⟩ := t6.at q5 hd.h6
  obtain ⟨v7, q7⟩ := t7.at q6 hd.h7
  obtain ⟨v8, q8⟩ := t8.at q7 hd.h8
  obtain ⟨v9, q9⟩ := t9.at q8 hd.h9
  obtain ⟨v10, q10⟩ := t10.at q9 hd.h10
  obtain ⟨v11, q11⟩ := t11.at q10 hd.h11
  obtain ⟨v12, q12⟩ := t12.at q11 hd.h12
  obtain ⟨v13, q13⟩ := t13.at q12 hd.h13
  have hn13 : d.n13 = z.names.length := by omega
  have hR : namesR d.s13 d.n13 = (z.names, (tl, 0)) := by
    rw [q13, hn13, namesR_all (fun p hp => by have := hn p hp; omega) tl _ (Nat.le_refl _), List.take_length, List.drop_length]
    rfl
  have hz : gotZ d = z.en := by
    unfold mayB at hm
    rw [Bool.and_eq_true, decide_eq_true_eq] at hm
    have hm := hm.1
    have e1 : ((min d.n1 255 : Nat) : Int) = z.client := by omega
    have e4 : ((min d.n4 255 : Nat) : Int) = z.status := by omega
    unfold gotZ gotBk Bk.en
    rw [hR, e1, e4, v2, v3, v5, v6, v7, v8, v9, v10, v11, v12]
  refine ⟨hz, ?_⟩
  have hmz : mayB (gotZ d) = true := by rw [hz]; exact hm
  have hle := encP_le hm
  by_cases ht : tl = []
  · subst ht
    refine ⟨fun _ => rfl, fun _ => ?_⟩
    have e1 : getE (encP z ++ []) d = 0 := by
      rw [getE_end (by rw [List.append_nil]; omega) qo, hR]; rfl
    unfold gotE
    rw [if_pos e1, if_pos hmz]
  · refine ⟨fun e => ?_, fun e => absurd e ht⟩
    exfalso
    have hp : 0 < tl.length := List.length_pos_iff.2 ht
    have e1 : getE (encP z ++ tl) d ≠ 0 := by
      by_cases hlong : 4096 < (encP z ++ tl).length
      · rw [getE_long hlong]; decide
      · rw [getE_end hlong qo, hR]
        unfold endE
        rw [if_pos ⟨rfl, hp⟩]; decide
    unfold gotE at e
    rw [if_neg e1] at e
    exact e1 e
theorem got_cut {z : Bk} (ho : BkOk z) (hm : mayB z = true) {c : Nat} (hc : c < (encP z).length) {d : Hd} (hd : HdOk ((encP z).take c) d) : gotE ((encP z).take c) d = 4 := by
  obtain ⟨o1, o2, o3, o4, o5, o6, o7, o8, o9, o10⟩ := ho
  have hb := may_bd hm
  have hn := mayB_n hm
  have hln : ∀ p ∈ z.names, p.length ≤ 4096 := fun p hp => by have := hn p hp; omega
  have hle := encP_le hm
  have hl : ((encP z).take c).length ≤ 4096 := by rw [List.length_take]; omega
  have t1 := rdN_tells (n := z.client) (k := 4) qo (by rw [p4]; omega)
  have t2 := rdN_tells (n := z.inc) (k := 4) qo (by rw [p4]; omega)
  have t3 := rdN_tells (n := z.seq) (k := 8) qo (by rw [p8]; omega)
  have t4 := rdN_tells (n := z.status) (k := 4) qo (by rw [p4]; omega)
  have t5 := rdN_tells (n := z.boot) (k := 4) qo (by rw [p4]; omega)
  have t6 := rdN_tells (n := z.ino) (k := 4) qo (by rw [p4]; omega)
  have t7 := rdN_tells (n := z.gen) (k := 4) qo (by rw [p4]; omega)
  have t8 := rdT_tells z.dir
  have t9 := rdN_tells (n := z.size) (k := 4) qo (by rw [p4]; omega)
  have t10 := rdN_tells (n := z.change) (k := 8) qo (by rw [p8]; omega)
  have t11 := rdN_tells (n := z.before) (k := 8) qo (by rw [p8]; omega)
  have t12 := rdB_tells (most := 4096) (xs := z.data) qo qo
  have t13 := rdN_tells (n := (z.names.length : Nat)) (k := 4) qo (by rw [p4]; omega)
  have p0 : Part ((encP z).take c, 0) (beL z.client 4 ++ (beL z.inc 4 ++ (beL z.seq 8 ++ (beL z.status 4 ++ (beL z.boot 4 ++ (beL z.ino 4 ++ (beL z.gen 4 ++ (beL (if z.dir = true then 1 else 0) 4 ++ (beL z.size 4 ++ (beL z.change 8 ++ (beL z.before 8 ++ (encB z.data ++ (beL (z.names.length : Nat) 4 ++ (z.names.flatMap encB)))))))))))))) := .inr ⟨c, by rw [← encP_eq]; exact hc, by rw [← encP_eq]⟩
  rcases t1.go p0 hd.h1 with x1 | ⟨v1, p1⟩
  · have x2 := t2.st x1 hd.h2; have x3 := t3.st x2 hd.h3; have x4 := t4.st x3 hd.h4; have x5 := t5.st x4 hd.h5; have x6 := t6.st x5 hd.h6; have x7 := t7.st x6 hd.h7; have x8 := t8.st x7 hd.h8; have x9 := t9.st x8 hd.h9; have x10 := t10.st x9 hd.h10; have x11 := t11.st x10 hd.h11; have x12 := t12.st x11 hd.h12; have x13 := t13.st x12 hd.h13; exact fin4 hl (namesR_bad x13 _) qo
  · skip
    rcases t2.go p1 hd.h2 with x2 | ⟨v2, p2⟩
    · have x3 := t3.st x2 hd.h3; have x4 := t4.st x3 hd.h4; have x5 := t5.st x4 hd.h5; have x6 := t6.st x5 hd.h6; have x7 := t7.st x6 hd.h7; have x8 := t8.st x7 hd.h8; have x9 := t9.st x8 hd.h9; have x10 := t10.st x9 hd.h10; have x11 := t11.st x10 hd.h11; have x12 := t12.st x11 hd.h12; have x13 := t13.st x12 hd.h13; exact fin4 hl (namesR_bad x13 _) qo
    · skip
      rcases t3.go p2 hd.h3 with x3 | ⟨v3, p3⟩
      · have x4 := t4.st x3 hd.h4; have x5 := t5.st x4 hd.h5; have x6 := t6.st x5 hd.h6; have x7 := t7.st x6 hd.h7; have x8 := t8.st x7 hd.h8; have x9 := t9.st x8 hd.h9; have x10 := t10.st x9 hd.h10; have x11 := t11.st x10 hd.h11; have x12 := t12.st x11 hd.h12; have x13 := t13.st x12 hd.h13; exact fin4 hl (namesR_bad x13 _) qo
      · skip
        rcases t4.go p3 hd.h4 with x4 | ⟨v4, p4⟩
        · have x5 := t5.st x4 hd.h5; have x6 := t6.st x5 hd.h6; have x7 := t7.st x6 hd.h7; have x8 := t8.st x7 hd.h8; have x9 := t9.st x8 hd.h9; have x10 := t10.st x9 hd.h10; have x11 := t11.st x10 hd.h11; have x12 := t12.st x11 hd.h12; have x13 := t13.st x12 hd.h13; exact fin4 hl (namesR_bad x13 _) qo
        · skip
          rcases t5.go p4 hd.h5 with x5 | ⟨v5, p5⟩
          · have x6 := t6.st x5 hd.h6; have x7 := t7.st x6 hd.h7; have x8 := t8.st x7 hd.h8; have x9 := t9.st x8 hd.h9; have x10 := t10.st x9 hd.h10; have x11 := t11.st x10 hd.h11; have x12 := t12.st x11 hd.h12; have x13 := t13.st x12 hd.h13; exact fin4 hl (namesR_bad x13 _) qo
          · skip
            rcases t6.go p5 hd.h6 with x6 | ⟨v6, p6⟩
            · have x7 := t7.st x6 hd.h7; have x8 := t8.st x7 hd.h8; have x9 := t9.st x8 hd.h9; have x10 := t10.st x9 hd.h10; have x11 := t11.st x10 hd.h11; have x12 := t12.st x11 hd.h12; have x13 := t13.st x12 hd.h13; exact fin4 hl (namesR_bad x13 _) qo
            · skip
              rcases t7.go p6 hd.h7 with x7 | ⟨v7, p7⟩
              · have x8 := t8.st x7 hd.h8; have x9 := t9.st x8 hd.h9; have x10 := t10.st x9 hd.h10; have x11 := t11.st x10 hd.h11; have x12 := t12.st x11 hd.h12; have x13 := t13.st x12 hd.h13; exact fin4 hl (namesR_bad x13 _) qo
              · skip
                rcases t8.go p7 hd.h8 with x8 | ⟨v8, p8⟩
                · have x9 := t9.st x8 hd.h9; have x10 := t10.st x9 hd.h10; have x11 := t11.st x10 hd.h11; have x12 := t12.st x11 hd.h12; have x13 := t13.st x12 hd.h13; exact fin4 hl (namesR_bad x13 _) qo
                · skip
                  rcases t9.go p8 hd.h9 with x9 | ⟨v9, p9⟩
                  · have x10 := t10.st x9 hd.h10; have x11 := t11.st x10 hd.h11; have x12 := t12.st x11 hd.h12; have x13 := t13.st x12 hd.h13; exact fin4 hl (namesR_bad x13 _) qo
                  · skip
                    rcases t10.go p9 hd.h10 with x10 | ⟨v10, p10⟩
                    · have x11 := t11.st x10 hd.h11; have x12 := t12.st x11 hd.h12; have x13 := t13.st x12 hd.h13; exact fin4 hl (namesR_bad x13 _) qo
                    · skip
                      rcases t11.go p10 hd.h11 with x11 | ⟨v11, p11⟩
                      · have x12 := t12.st x11 hd.h12; have x13 := t13.st x12 hd.h13; exact fin4 hl (namesR_bad x13 _) qo
                      · skip
                        rcases t12.go p11 hd.h12 with x12 | ⟨v12, p12⟩
                        · have x13 := t13.st x12 hd.h13; exact fin4 hl (namesR_bad x13 _) qo
                        · skip
                          rcases t13.go p12 hd.h13 with x13 | ⟨v13, p13⟩
                          · exact fin4 hl (namesR_bad x13 _) qo
                          · skip
                            have hc := namesR_cut hln p13 z.names.length (Nat.le_refl _)
                            rw [List.drop_length] at hc
                            have h4 := hc.end
                            have hn : d.n13 = z.names.length := by omega
                            rw [← hn] at h4
                            exact fin4 hl h4 qo
theorem got_inv {bs : List Int} {d : Hd} (hy : Bytes bs) (hd : HdOk bs d) (h : gotE bs d = 0) : encP (gotZ d) = bs ∧ mayB (gotZ d) = true := by
  have h0 : getE bs d = 0 := by
    unfold gotE at h
    split at h
    · assumption
    · exact h
  have hm : mayB (gotZ d) = true := by
    unfold gotE at h
    rw [if_pos h0] at h
    by_cases q : mayB (gotZ d) = true
    · exact q
    · rw [if_neg q] at h; cases h
  refine ⟨?_, hm⟩
  have hlen : ¬ 4096 < bs.length := fun q => by rw [getE_long q] at h0; cases h0
  have hmany : ¬ (32 < d.n13 ∧ d.s13.2 = 0) := fun q => by rw [getE_many hlen q.1 q.2] at h0; cases h0
  rw [getE_end hlen hmany] at h0
  have hend := endE_0 h0
  have htl : (namesR d.s13 d.n13).2.1 = [] := by
    unfold endE at h0
    split at h0
    · cases h0
    · exact List.eq_nil_of_length_eq_zero qo
  obtain ⟨z13, e13⟩ := namesR_inv hd.by13 _ hend
  rw [htl, List.append_nil] at e13
  have y0 : Bytes (bs, (0 : Int)).1 := hy
  have y1 : Bytes d.s1.1 := by have := rdN_by (k := 4) y0; rw [hd.h1] at this; exact this
  have y2 : Bytes d.s2.1 := by have := rdN_by (k := 4) y1; rw [hd.h2] at this; exact this
  have y3 : Bytes d.s3.1 := by have := rdN_by (k := 8) y2; rw [hd.h3] at this; exact this
  have y4 : Bytes d.s4.1 := by have := rdN_by (k := 4) y3; rw [hd.h4] at this; exact this
  have y5 : Bytes d.s5.1 := by have := rdN_by (k := 4) y4; rw [hd.h5] at this; exact this
  have y6 : Bytes d.s6.1 := by have := rdN_by (k := 4) y5; rw [hd.h6] at this; exact this
  have y7 : Bytes d.s7.1 := by have := rdN_by (k := 4) y6; rw [hd.h7] at this; exact this
  have y8 : Bytes d.s8.1 := by have := rdT_by y7; rw [hd.h8] at this; exact this
  have y9 : Bytes d.s9.1 := by have := rdN_by (k := 4) y8; rw [hd.h9] at this; exact this
  have y10 : Bytes d.s10.1 := by have := rdN_by (k := 8) y9; rw [hd.h10] at this; exact this
  have y11 : Bytes d.s11.1 := by have := rdN_by (k := 8) y10; rw [hd.h11] at this; exact this
  have y12 : Bytes d.s12.1 := by have := (rdB_by (most := 4096) y11).1; rw [hd.h12] at this; exact this
  have y13 : Bytes d.s13.1 := by have := rdN_by (k := 4) y12; rw [hd.h13] at this; exact this
  obtain ⟨z12, e12⟩ := rdN_inv y12 hd.h13 z13
  obtain ⟨z11, e11⟩ := rdB_inv y11 hd.h12 z12
  obtain ⟨z10, e10⟩ := rdN_inv y10 hd.h11 z11
  obtain ⟨z9, e9⟩ := rdN_inv y9 hd.h10 z10
  obtain ⟨z8, e8⟩ := rdN_inv y8 hd.h9 z9
  obtain ⟨z7, e7⟩ := rdT_inv y7 hd.h8 z8
  obtain ⟨z6, e6⟩ := rdN_inv y6 hd.h7 z7
  obtain ⟨z5, e5⟩ := rdN_inv y5 hd.h6 z6
  obtain ⟨z4, e4⟩ := rdN_inv y4 hd.h5 z5
  obtain ⟨z3, e3⟩ := rdN_inv y3 hd.h4 z4
  obtain ⟨z2, e2⟩ := rdN_inv y2 hd.h3 z3
  obtain ⟨z1, e1⟩ := rdN_inv y1 hd.h2 z2
  obtain ⟨z0, e0⟩ := rdN_inv y0 hd.h1 z1
  unfold mayB at hm
  rw [Bool.and_eq_true, decide_eq_true_eq] at hm
  have hm1 : ((min d.n1 255 : Nat) : Int) < 4 := hm.1.1
  have hm4 : ((min d.n4 255 : Nat) : Int) ≤ 9 := hm.1.2.2.2.1
  have c1 : ((min d.n1 255 : Nat) : Int) = (d.n1 : Int) := by omega
  have c4 : ((min d.n4 255 : Nat) : Int) = (d.n4 : Int) := by omega
  rw [encP_eq]
  show beL ((min d.n1 255 : Nat) : Int) 4 ++ (beL (d.n2 : Int) 4 ++ (beL (d.n3 : Int) 8 ++ (beL ((min d.n4 255 : Nat) : Int) 4 ++ (beL (d.n5 : Int) 4 ++ (beL (d.n6 : Int) 4 ++ (beL (d.n7 : Int) 4 ++ (beL (if d.t8 = true then 1 else 0) 4 ++ (beL (d.n9 : Int) 4 ++ (beL (d.n10 : Int) 8 ++ (beL (d.n11 : Int) 8 ++ (encB d.data ++ (beL ((namesR d.s13 d.n13).1.length : Nat) 4 ++ ((namesR d.s13 d.n13).1.flatMap encB))))))))))))) = bs
  rw [c1, c4, namesR_len, ← e13, ← e12, ← e11, ← e10, ← e9, ← e8, ← e7, ← e6, ← e5, ← e4, ← e3, ← e2, ← e1, ← e0]
end Go.Proofs.YtdmabiefaeidmaaDoor.Ya
