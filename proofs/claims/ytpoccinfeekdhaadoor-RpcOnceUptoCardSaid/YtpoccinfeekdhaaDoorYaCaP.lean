/-
  Calls: plain law.
-/
import Derived.Test.YtpoccinfeekdhaaDoorYaCaD
import Derived.Test.YtpoccinfeekdhaaDoorYbL
namespace Go.Proofs.YtpoccinfeekdhaaDoor.Ya
open Go.Ya Go.Ya.Na
set_option linter.unusedVariables false
set_option linter.unusedSimpArgs false
set_option maxRecDepth 100000
set_option maxHeartbeats 4000000
def seqR {α β : Type} (f : List Int × Int → α × (List Int × Int)) (g : List Int × Int → β × (List Int × Int)) (s : List Int × Int) : (α × β) × (List Int × Int) := (((f s).1, (g (f s).2).1), (g (f s).2).2)
theorem TellsA.seq {α β : Type} {f : List Int × Int → α × (List Int × Int)} {g : List Int × Int → β × (List Int × Int)} {E R : List Int} {v : α} {w : β} (tf : TellsA f E v) (tg : TellsA g R w) : TellsA (seqR f g) (E ++ R) (v, w) where
  all tl := by
    unfold seqR
    rw [List.append_assoc, tf.all, tg.all]
  cut c hc := by
    unfold seqR
    have p : Part ((E ++ R).take c, 0) (E ++ R) := .inr ⟨c, hc, rfl⟩
    rcases tf.step p with h | ⟨h, q⟩
    · dsimp only
      rw [tg.bad _ (by rw [h]; decide)]; exact h
    · have q : Part (f ((E ++ R).take c, 0)).2 (R ++ []) := by rw [List.append_nil]; exact q
      rcases tg.step q with h2 | ⟨_, q2⟩
      · exact h2
      · exact q2.end
  bad s hs := by
    unfold seqR
    dsimp only
    rw [tf.bad s hs, tg.bad s hs]
theorem TellsA.cast {α : Type} {f : List Int × Int → α × (List Int × Int)} {E R : List Int} {v : α} (t : TellsA f E v) (e : E = R) : TellsA f R v := e ▸ t
def InvA {α : Type} (f : List Int × Int → α × (List Int × Int)) (enc : α → List Int) : Prop := ∀ s : List Int × Int, Bytes s.1 → Bytes (f s).2.1 ∧ ((f s).2.2 = 0 → s.2 = 0 ∧ s.1 = enc (f s).1 ++ (f s).2.1)
theorem InvA.seq {α β : Type} {f : List Int × Int → α × (List Int × Int)} {g : List Int × Int → β × (List Int × Int)} {ef : α → List Int} {eg : β → List Int} (hf : InvA f ef) (hg : InvA g eg) : InvA (seqR f g) (fun x => ef x.1 ++ eg x.2) := fun s hy => by
  obtain ⟨y1, i1⟩ := hf s hy
  obtain ⟨y2, i2⟩ := hg _ y1
  refine ⟨y2, fun h => ?_⟩
  obtain ⟨a, b⟩ := i2 h
  obtain ⟨c, d⟩ := i1 a
  refine ⟨c, ?_⟩
  show s.1 = (ef (f s).1 ++ eg (g (f s).2).1) ++ (g (f s).2).2.1
  rw [List.append_assoc, ← b]; exact d
abbrev hN := seqR (rdN 4) (seqR (rdN 4) (seqR (rdN 8) (rdN 4)))
abbrev f1N := seqR (rdN 4) (rdN 4)
abbrev f2N := seqR f1N (rdN 4)
abbrev f3N := seqR f1N (rdB 4096)
abbrev f4N := seqR f1N (seqR (rdN 4) (rdN 4))
abbrev f5N := seqR f1N (seqR (rdN 4) (rdB 4096))
abbrev f11N := seqR f1N (seqR (rdB 4096) (seqR f1N (rdB 4096)))
theorem hdS_eq (bs : List Int) : hdS bs = (hN (bs, 0)).2 := rfl
abbrev named (k : Int) : Prop := k = 3 ∨ k = 7 ∨ k = 8 ∨ k = 9 ∨ k = 10
def wholeC (z : Cl) : Bool := if z.kind = 2 then decide (z.size ≤ 4096) else if named z.kind then isP z.name else if z.kind = 4 then decide (z.off ≤ 4096 ∧ z.size ≤ 64) else if z.kind = 5 then decide (z.off ≤ 4032 ∧ 0 < z.data.length ∧ z.data.length ≤ 64) else if z.kind = 11 then isP z.name && isP z.toName else true
def onlyC (z : Cl) : Cl :=
  if z.kind = 2 then ⟨z.client, z.inc, z.seq, z.kind, z.hi, z.hg, [], 0, 0, [], 0, z.size, .nilsl, []⟩
  else if named z.kind then ⟨z.client, z.inc, z.seq, z.kind, z.hi, z.hg, z.name, 0, 0, [], 0, 0, .nilsl, []⟩
  else if z.kind = 4 then ⟨z.client, z.inc, z.seq, z.kind, z.hi, z.hg, [], 0, 0, [], z.off, z.size, .nilsl, []⟩
  else if z.kind = 5 then ⟨z.client, z.inc, z.seq, z.kind, z.hi, z.hg, [], 0, 0, [], z.off, 0, z.dv, z.data⟩
  else if z.kind = 11 then ⟨z.client, z.inc, z.seq, z.kind, z.hi, z.hg, z.name, z.ti, z.tg, z.toName, 0, 0, .nilsl, []⟩
  else ⟨z.client, z.inc, z.seq, z.kind, z.hi, z.hg, [], 0, 0, [], 0, 0, .nilsl, []⟩
def sameC (a c : Cl) : Bool := decide (a.client = c.client ∧ a.inc = c.inc ∧ a.seq = c.seq ∧ a.kind = c.kind ∧ (a.hi = c.hi ∧ a.hg = c.hg) ∧ a.name = c.name ∧ (a.ti = c.ti ∧ a.tg = c.tg) ∧ a.toName = c.toName ∧ a.off = c.off ∧ a.size = c.size ∧ a.data = c.data)
theorem sameC_iff {a c : Cl} : sameC a c = true ↔ a.en = c.en := by
  unfold sameC
  rw [decide_eq_true_eq]
  cases a; cases c
  simp only [Cl.en, Cl.mk.injEq, true_and, and_assoc]
theorem sameC_en {a b c d : Cl} (h1 : a.en = b.en) (h2 : c.en = d.en) : sameC a c = sameC b d := Bool.eq_iff_iff.2 (by rw [sameC_iff, sameC_iff, h1, h2])
def mayC (z : Cl) : Bool := decide (z.client < 4 ∧ 0 < z.inc ∧ 0 < z.seq) && wholeC z && kindC z.kind && sameC (onlyC z) z
theorem onlyC_en (z : Cl) : (onlyC z.en).en = (onlyC z).en := by
  show (onlyC { z with dv := .nilsl }).en = _
  unfold onlyC Cl.en
  dsimp only
  repeat' split
  all_goals first | contradiction | rfl
theorem mayC_en {a c : Cl} (h : a.en = c.en) : mayC a = mayC c := by
  have h1 : ∀ z : Cl, mayC z.en = mayC z := fun z => by
    show (_ && wholeC z && kindC z.kind && sameC (onlyC z.en) z.en) = _
    rw [sameC_en (onlyC_en z) (show z.en.en = z.en from rfl)]
    rfl
  rw [← h1 a, h]; exact h1 c
theorem wholeC_len {z : Cl} (h : wholeC z = true) : (z.kind = 5 → z.data.length ≤ 64) ∧ ((named z.kind ∨ z.kind = 11) → z.name.length ≤ 32) ∧ (z.kind = 11 → z.toName.length ≤ 32) := by
  unfold wholeC at h
  refine ⟨fun e => ?_, fun e => ?_, fun e => ?_⟩
  · rw [if_neg qo, if_neg (by unfold named; omega), if_neg qo, if_pos e, decide_eq_true_eq] at h
    exact h.2.2
  · rcases e with e | e
    · rw [if_neg (by unfold named at e; omega), if_pos e] at h
      exact (isP_len h).2
    · rw [if_neg qo, if_neg (by unfold named; omega), if_neg qo, if_neg qo, if_pos e, Bool.and_eq_true] at h
      exact (isP_len h.1).2
  · rw [if_neg qo, if_neg (by unfold named; omega), if_neg qo, if_neg qo, if_pos e, Bool.and_eq_true] at h
    exact (isP_len h.2).2
theorem hd_tells {z : Cl} (ho : ClOk z) : TellsA hN (beL z.client 4 ++ (beL z.inc 4 ++ (beL z.seq 8 ++ beL z.kind 4))) (z.client, (z.inc, (z.seq, z.kind))) := by
  obtain ⟨o1, o2, o3, o4, o5, o6, o7, o8, o9, o10⟩ := ho
  exact (rdN_tells qo (by rw [p4]; omega)).seq ((rdN_tells qo (by rw [p4]; omega)).seq ((rdN_tells qo (by rw [p8]; omega)).seq (rdN_tells qo (by rw [p4]; omega))))
theorem encC_eq (z : Cl) : encC z = (beL z.client 4 ++ (beL z.inc 4 ++ (beL z.seq 8 ++ beL z.kind 4))) ++ tailC z := by simp [encC, List.append_assoc]
theorem f1_tells {a b : Int} (h1 : 0 ≤ a ∧ a ≤ 4294967295) (h2 : 0 ≤ b ∧ b ≤ 4294967295) : TellsA f1N (beL a 4 ++ beL b 4) (a, b) := (rdN_tells qo (by rw [p4]; omega)).seq (rdN_tells qo (by rw [p4]; omega))
theorem t4 {a : Int} (h1 : 0 ≤ a ∧ a ≤ 4294967295) : TellsA (rdN 4) (beL a 4) a := rdN_tells qo (by rw [p4]; omega)
theorem tB {xs : List Int} (h : xs.length ≤ 64) : TellsA (rdB 4096) (encB xs) xs := rdB_tells qo qo
theorem kind_cases {k : Int} (h : kindC k = true) : k = 2 ∨ named k ∨ k = 4 ∨ k = 5 ∨ k = 11 ∨ (k = 1 ∨ k = 6 ∨ k = 12) := by
  unfold kindC at h
  rw [decide_eq_true_eq] at h
  unfold named
  omega
theorem kind_tail {z : Cl} (h : kindC z.kind = true) : tailC z = (beL z.hi 4 ++ beL z.hg 4) ++ tailK z := by
  unfold kindC at h
  rw [decide_eq_true_eq] at h
  unfold tailC
  rw [if_pos h]
theorem hdZ_of {bs : List Int} {c i s k : Int} (h : (hN (bs, 0)).1 = (c, (i, (s, k)))) : hdZ bs = { zC with client := c % 256, inc := i, seq := s, kind := min k 255 } := by
  have e1 : (rdN 4 (bs, 0)).1 = c := congrArg Prod.fst h
  have e2 := congrArg (fun x => x.2.1) h
  have e3 := congrArg (fun x => x.2.2.1) h
  have e4 := congrArg (fun x => x.2.2.2) h
  unfold hdZ
  unfold hN seqR at e2 e3 e4
  dsimp only at e2 e3 e4
  rw [e1, e2, e3, e4]
theorem hd_all {z : Cl} (ho : ClOk z) (tl : List Int) : hdZ (encC z ++ tl) = { zC with client := z.client, inc := z.inc, seq := z.seq, kind := z.kind } ∧ hdS (encC z ++ tl) = (tailC z ++ tl, 0) ∧ (rdN 4 (encC z ++ tl, 0)).1 = z.client := by
  have h := (hd_tells ho).all (tailC z ++ tl)
  rw [← List.append_assoc, ← encC_eq] at h
  obtain ⟨o1, o2, o3, o4, o5, o6, o7, o8, o9, o10⟩ := ho
  refine ⟨?_, ?_, ?_⟩
  · rw [hdZ_of (congrArg Prod.fst h), show z.client % 256 = z.client by omega, show min z.kind 255 = z.kind by omega]
  · rw [hdS_eq, h]
  · exact congrArg (fun x => x.1.1) h
theorem fld_tells {z y : Cl} (ho : ClOk z) (hk : kindC z.kind = true) (hw : wholeC z = true) (hy : y = { zC with client := z.client, inc := z.inc, seq := z.seq, kind := z.kind }) :
    (∀ tl, (fldZ y (tailC z ++ tl, 0) .nilsl).en = (onlyC z).en ∧ fldS y (tailC z ++ tl, 0) = (tl, 0)) ∧ (∀ s : List Int × Int, Part s (tailC z) → (fldS y s).2 = 4) := by
  obtain ⟨o1, o2, o3, o4, o5, o6, o7, o8, o9, o10⟩ := ho
  obtain ⟨w1, w2, w3⟩ := wholeC_len hw
  have hh := f1_tells o5 o6
  rw [kind_tail hk]
  have yk : y.kind = z.kind := by rw [hy]
  rcases kind_cases hk with e | e | e | e | e | e
  · skip
    have t : TellsA f2N (beL z.hi 4 ++ beL z.hg 4 ++ tailK z) ((z.hi, z.hg), z.size) := by
      unfold tailK
      (repeat (first | rw [if_pos qo] | rw [if_neg qo]))
      exact hh.seq (t4 o10)
    have es : ∀ s, fldS y s = (f2N s).2 := fun s => by
      unfold fldS
      rw [yk]
      (repeat (first | rw [if_pos qo] | rw [if_neg qo])); (try rfl)
    refine ⟨fun tl => ⟨?_, by rw [es, t.all]⟩, fun s p => ?_⟩
    · have ez := congrArg Prod.fst (t.all tl)
      have a0 := congrArg (fun x => x.1.1) ez
      have a1 := congrArg (fun x => x.1.2) ez
      have a2 := congrArg (fun x => x.2) ez
      unfold f2N seqR at a0 a1 a2
      try unfold f1N seqR at a0 a1 a2
      dsimp only at a0 a1 a2
      unfold fldZ onlyC
      rw [yk, hy]
      (repeat (first | rw [if_pos qo] | rw [if_neg qo]))
      unfold Cl.en
      dsimp only [zC]
      (try simp only [Cl.mk.injEq, true_and, and_true]); (repeat' apply And.intro) <;> first | rfl | assumption
    · rw [es]
      have p' : Part s (beL z.hi 4 ++ beL z.hg 4 ++ tailK z ++ []) := by rw [List.append_nil]; exact p
      rcases t.step p' with q | ⟨_, q⟩
      · exact q
      · exact q.end
  · unfold named at e w2
    have t : TellsA f3N (beL z.hi 4 ++ beL z.hg 4 ++ tailK z) ((z.hi, z.hg), z.name) := by
      unfold tailK
      (repeat (first | rw [if_pos qo] | rw [if_neg qo]))
      exact hh.seq (tB qo)
    have es : ∀ s, fldS y s = (f3N s).2 := fun s => by
      unfold fldS
      rw [yk]
      (repeat (first | rw [if_pos qo] | rw [if_neg qo])); (try rfl)
    refine ⟨fun tl => ⟨?_, by rw [es, t.all]⟩, fun s p => ?_⟩
    · have ez := congrArg Prod.fst (t.all tl)
      have a0 := congrArg (fun x => x.1.1) ez
      have a1 := congrArg (fun x => x.1.2) ez
      have a2 := congrArg (fun x => x.2) ez
      unfold f3N seqR at a0 a1 a2
      try unfold f1N seqR at a0 a1 a2
      dsimp only at a0 a1 a2
      unfold fldZ onlyC
      rw [yk, hy]
      (repeat (first | rw [if_pos qo] | rw [if_neg qo]))
      unfold Cl.en
      dsimp only [zC]
      (try simp only [Cl.mk.injEq, true_and, and_true]); (repeat' apply And.intro) <;> first | rfl | assumption
    · rw [es]
      have p' : Part s (beL z.hi 4 ++ beL z.hg 4 ++ tailK z ++ []) := by rw [List.append_nil]; exact p
      rcases t.step p' with q | ⟨_, q⟩
      · exact q
      · exact q.end
  · skip
    have t : TellsA f4N (beL z.hi 4 ++ beL z.hg 4 ++ tailK z) ((z.hi, z.hg), (z.off, z.size)) := by
      unfold tailK
      (repeat (first | rw [if_pos qo] | rw [if_neg qo]))
      exact hh.seq ((t4 o9).seq (t4 o10))
    have es : ∀ s, fldS y s = (f4N s).2 := fun s => by
      unfold fldS
      rw [yk]
      (repeat (first | rw [if_pos qo] | rw [if_neg qo])); (try rfl)
    refine ⟨fun tl => ⟨?_, by rw [es, t.all]⟩, fun s p => ?_⟩
    · have ez := congrArg Prod.fst (t.all tl)
      have a0 := congrArg (fun x => x.1.1) ez
      have a1 := congrArg (fun x => x.1.2) ez
      have a2 := congrArg (fun x => x.2.1) ez
      have a3 := congrArg (fun x => x.2.2) ez
      unfold f4N seqR at a0 a1 a2 a3
      try unfold f1N seqR at a0 a1 a2 a3
      dsimp only at a0 a1 a2 a3
      unfold fldZ onlyC
      rw [yk, hy]
      (repeat (first | rw [if_pos qo] | rw [if_neg qo]))
      unfold Cl.en
      dsimp only [zC]
      (try simp only [Cl.mk.injEq, true_and, and_true]); (repeat' apply And.intro) <;> first | rfl | assumption
    · rw [es]
      have p' : Part s (beL z.hi 4 ++ beL z.hg 4 ++ tailK z ++ []) := by rw [List.append_nil]; exact p
      rcases t.step p' with q | ⟨_, q⟩
      · exact q
      · exact q.end
  · skip
    have t : TellsA f5N (beL z.hi 4 ++ beL z.hg 4 ++ tailK z) ((z.hi, z.hg), (z.off, z.data)) := by
      unfold tailK
      (repeat (first | rw [if_pos qo] | rw [if_neg qo]))
      exact hh.seq ((t4 o9).seq (tB qo))
    have es : ∀ s, fldS y s = (f5N s).2 := fun s => by
      unfold fldS
      rw [yk]
      (repeat (first | rw [if_pos qo] | rw [if_neg qo])); (try rfl)
    refine ⟨fun tl => ⟨?_, by rw [es, t.all]⟩, fun s p => ?_⟩
    · have ez := congrArg Prod.fst (t.all tl)
      have a0 := congrArg (fun x => x.1.1) ez
      have a1 := congrArg (fun x => x.1.2) ez
      have a2 := congrArg (fun x => x.2.1) ez
      have a3 := congrArg (fun x => x.2.2) ez
      unfold f5N seqR at a0 a1 a2 a3
      try unfold f1N seqR at a0 a1 a2 a3
      dsimp only at a0 a1 a2 a3
      unfold fldZ onlyC
      rw [yk, hy]
      (repeat (first | rw [if_pos qo] | rw [if_neg qo]))
      unfold Cl.en
      dsimp only [zC]
      (try simp only [Cl.mk.injEq, true_and, and_true]); (repeat' apply And.intro) <;> first | rfl | assumption
    · rw [es]
      have p' : Part s (beL z.hi 4 ++ beL z.hg 4 ++ tailK z ++ []) := by rw [List.append_nil]; exact p
      rcases t.step p' with q | ⟨_, q⟩
      · exact q
      · exact q.end
  · unfold named at w2
    have t : TellsA f11N (beL z.hi 4 ++ beL z.hg 4 ++ tailK z) ((z.hi, z.hg), (z.name, ((z.ti, z.tg), z.toName))) := by
      unfold tailK
      (repeat (first | rw [if_pos qo] | rw [if_neg qo]))
      exact (hh.seq ((tB qo).seq ((f1_tells o7 o8).seq (tB qo)))).cast (by simp only [List.append_assoc])
    have es : ∀ s, fldS y s = (f11N s).2 := fun s => by
      unfold fldS
      rw [yk]
      (repeat (first | rw [if_pos qo] | rw [if_neg qo])); (try rfl)
    refine ⟨fun tl => ⟨?_, by rw [es, t.all]⟩, fun s p => ?_⟩
    · have ez := congrArg Prod.fst (t.all tl)
      have a0 := congrArg (fun x => x.1.1) ez
      have a1 := congrArg (fun x => x.1.2) ez
      have a2 := congrArg (fun x => x.2.1) ez
      have a3 := congrArg (fun x => x.2.2.1.1) ez
      have a4 := congrArg (fun x => x.2.2.1.2) ez
      have a5 := congrArg (fun x => x.2.2.2) ez
      unfold f11N seqR at a0 a1 a2 a3 a4 a5
      try unfold f1N seqR at a0 a1 a2 a3 a4 a5
      dsimp only at a0 a1 a2 a3 a4 a5
      unfold fldZ onlyC
      rw [yk, hy]
      (repeat (first | rw [if_pos qo] | rw [if_neg qo]))
      unfold Cl.en
      dsimp only [zC]
      (try simp only [Cl.mk.injEq, true_and, and_true]); (repeat' apply And.intro) <;> first | rfl | assumption
    · rw [es]
      have p' : Part s (beL z.hi 4 ++ beL z.hg 4 ++ tailK z ++ []) := by rw [List.append_nil]; exact p
      rcases t.step p' with q | ⟨_, q⟩
      · exact q
      · exact q.end
  · skip
    have t : TellsA f1N (beL z.hi 4 ++ beL z.hg 4 ++ tailK z) (z.hi, z.hg) := by
      unfold tailK
      (repeat (first | rw [if_pos qo] | rw [if_neg qo]))
      exact hh.cast (List.append_nil _).symm
    have es : ∀ s, fldS y s = (f1N s).2 := fun s => by
      unfold fldS
      rw [yk]
      (repeat (first | rw [if_pos qo] | rw [if_neg qo])); (try rfl)
    refine ⟨fun tl => ⟨?_, by rw [es, t.all]⟩, fun s p => ?_⟩
    · have ez := congrArg Prod.fst (t.all tl)
      have a0 := congrArg (fun x => x.1) ez
      have a1 := congrArg (fun x => x.2) ez
      unfold f1N seqR at a0 a1
      try unfold f1N seqR at a0 a1
      dsimp only at a0 a1
      unfold fldZ onlyC
      rw [yk, hy]
      (repeat (first | rw [if_pos qo] | rw [if_neg qo]))
      unfold Cl.en
      dsimp only [zC]
      (try simp only [Cl.mk.injEq, true_and, and_true]); (repeat' apply And.intro) <;> first | rfl | assumption
    · rw [es]
      have p' : Part s (beL z.hi 4 ++ beL z.hg 4 ++ tailK z ++ []) := by rw [List.append_nil]; exact p
      rcases t.step p' with q | ⟨_, q⟩
      · exact q
      · exact q.end
theorem read_enc {z : Cl} (ho : ClOk z) (hk : kindC z.kind = true) (hw : wholeC z = true) (tl : List Int) : (readZ (encC z ++ tl)).en = (onlyC z).en ∧ readE (encC z ++ tl) = endE (tl, 0) ∧ (rdN 4 (encC z ++ tl, 0)).1 = z.client := by
  obtain ⟨h1, h2, h3⟩ := hd_all ho tl
  obtain ⟨h4, h5⟩ := fld_tells ho hk hw h1
  refine ⟨?_, ?_, h3⟩
  · unfold readZ
    rw [h2]; exact (h4 tl).1
  · unfold readE
    rw [h2, if_neg (fun q => q rfl), if_pos (show kindC (hdZ _).kind = true by rw [h1]; exact hk), (h4 tl).2]
theorem encC_le {z : Cl} (hk : kindC z.kind = true) (hw : wholeC z = true) : (encC z).length ≤ 4096 := by
  obtain ⟨w1, w2, w3⟩ := wholeC_len hw
  have h1 := padN_le z.data.length
  have h2 := padN_le z.name.length
  have h3 := padN_le z.toName.length
  rw [encC_eq, kind_tail hk]
  unfold tailK
  simp only [List.length_append, beL_len]
  repeat' split
  all_goals simp only [List.length_append, beL_len, encB_len, List.length_nil] <;> omega
def getE (bs : List Int) : Int := if 4096 < bs.length then 3 else if ¬ readE bs = 0 then readE bs else if (rdN 4 (bs, 0)).1 < 4 ∧ mayC (readZ bs) = true then 0 else 5
def getP (bs : List Int) : Cl := if getE bs = 0 then (readZ bs).en else zC
end Go.Proofs.YtpoccinfeekdhaaDoor.Ya
