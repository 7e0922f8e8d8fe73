/-
  Batch: the run of BatchLeads.
-/
import Derived.Test.YtbcmdlaffjmfdaaYaBatO
import Derived.Test.YtbcmdlaffjmfdaaYbL
namespace Go.Proofs.Ytbcmdlaffjmfdaa.Ya
open Go.Ya Go.Ya.Bat
set_option linter.unusedVariables false
set_option linter.unusedSimpArgs false
set_option maxRecDepth 100000
set_option maxHeartbeats 8000000

theorem errA_ok {t l : List Ro} (h : errA t l = 0) : okA t l := by
  unfold errA at h
  split at h
  · assumption
  · exact absurd h (by decide)
theorem err_ok {t l : List Ro} (h : okA t l) : errA t l = 0 := if_pos h
theorem err_no {t l : List Ro} (h : ¬ errA t l = 0) : ¬ okA t l := fun q => h (err_ok q)
theorem stay_of {l : List Ro} (h : NoGo l) : Stay (l.map Ro.en) := enN_nogo h
section
variable {t u l m n c : List Ro}
/-- Done once, the table may be; done twice it is the same. -/
theorem once_ok (hm : m.map Ro.en = tblA t l) (h : okA t l) : mayP (m.map Ro.en) = true ∧ okA m l ∧ tblA m l = tblA t l := by
  have h1 : mayP (m.map Ro.en) = true := by rw [hm, tblA, if_pos h]; exact apply_may h.1 h.2
  have h2 : okA m l := ⟨h1, h.2⟩
  refine ⟨h1, h2, ?_⟩
  rw [tblA, if_pos h2, hm, tblA, if_pos h, apply_twice (up_of_may h.1) (up_of_may h.2)]
theorem bet_ok (hc : c.map Ro.en = tblB t u) (h : okA t u) (s1 : NoGo t) (s2 : NoGo u) : okA t c ∧ tblA t c = u.map Ro.en := by
  have e : c.map Ro.en = betP (t.map Ro.en) (u.map Ro.en) := by rw [hc, tblB, if_pos h]
  have h2 : okA t c := ⟨h.1, by rw [e]; exact bet_may h.1 h.2⟩
  refine ⟨h2, ?_⟩
  rw [tblA, if_pos h2, e]
  exact bet_leads (up_of_may h.1) (up_of_may h.2) (stay_of s1) (stay_of s2)
theorem bet_none (hc : c.map Ro.en = tblB t u) (h : okA t u) (s1 : NoGo t) (s2 : NoGo u) (h0 : c.length = 0) : t.map Ro.en = u.map Ro.en := by
  obtain rfl := List.eq_nil_of_length_eq_zero h0
  obtain ⟨h1, h2⟩ := bet_ok hc h s1 s2
  rw [tblA, if_pos h1] at h2
  rw [← h2]; exact (apply_nil _).symm
theorem bet_less (hc : c.map Ro.en = tblB t u) (h : okA t u) {k : Nat} (hk : k < c.length) (hn : n = c.take k ++ c.drop (k + 1)) : okA t n ∧ tblA t n ≠ u.map Ro.en := by
  have e : c.map Ro.en = betP (t.map Ro.en) (u.map Ro.en) := by rw [hc, tblB, if_pos h]
  have e2 : n.map Ro.en = (c.map Ro.en).eraseIdx k := by rw [hn, List.eraseIdx_eq_take_drop_succ, List.map_append, List.map_take, List.map_drop]
  have h2 : okA t n := ⟨h.1, by rw [e2, e]; exact may_erase (bet_may h.1 h.2)⟩
  refine ⟨h2, ?_⟩
  rw [tblA, if_pos h2, e2, e]
  exact bet_needed (up_of_may h.1) (up_of_may h.2) (by rw [← e, List.length_map]; exact hk)
theorem tblB_no (hc : c.map Ro.en = tblB t u) (h : ¬ okA t u) : c.length = 0 := by
  rw [tblB, if_neg h] at hc
  rw [List.map_eq_nil_iff.1 hc]; rfl
end
/-- A part of rows. -/
theorem Rd.partR {α : Type} {esz : Nat} {h : Heap} {v : AV} {l : List α} {enc : α → List AV} (r : Rd esz h v (l.map enc)) (hc : capOk v) {h' : Heap} {lo hi : Option AV} {a b : Nat} (hlo : lo = some (.int .i64 (a : Int)) ∨ (lo = none ∧ a = 0)) (hhi : hi = some (.int .i64 (b : Int)) ∨ (hi = none ∧ b = l.length)) (h1 : a ≤ b) (h2 : b ≤ l.length) :
    Runs (cutS esz v lo hi none h') fun v' h2 => h' = h2 ∧ Rd esz h v' (((l.take b).drop a).map enc) := by
  obtain ⟨r1, r2⟩ := r
  have r1' : ∀ r ∈ ((l.take b).drop a).map enc, r.length = esz := fun r hr => r1 r (by rw [List.map_drop, List.map_take] at hr; exact List.mem_of_mem_take (List.mem_of_mem_drop hr))
  have hl : (((l.take b).drop a).map enc).length = b - a := by rw [List.length_map, List.length_drop, List.length_take]; omega
  rcases r2 with ⟨rfl, e⟩ | ⟨id, off, cap, ex, c, ro, rfl, e2, e3, e4⟩
  · have : l = [] := by simpa using e
    subst this
    have hb : b = 0 := by simpa using h2
    subst hb
    obtain rfl : a = 0 := by omega
    refine ⟨.nilsl, h', ?_, rfl, r1', .inl ⟨rfl, rfl⟩⟩
    rcases hlo with rfl | ⟨rfl, _⟩ <;> rcases hhi with rfl | ⟨rfl, _⟩ <;> rfl
  · simp only [capOk, List.length_map] at hc
    rw [List.length_map] at e3 e4
    have key : boundsA (l.map enc).length cap lo hi none = some (a, b, cap) := by
      rw [List.length_map]
      rcases hlo with rfl | ⟨rfl, rfl⟩ <;> rcases hhi with rfl | ⟨rfl, rfl⟩
      · exact bd_lh qo h1
      · exact bd_l h1
      · exact bd_h qo
      · rfl
    have hm : b * esz ≤ l.length * esz := Nat.mul_le_mul_right esz h2
    have ha : a * esz ≤ b * esz := Nat.mul_le_mul_right esz h1
    refine ⟨.slice id (off + a * esz) (b - a) (cap - a) (ex || false) esz, h', ?_, rfl, r1', .inr ⟨id, off + a * esz, cap - a, ex || false, c, ro, ?_, e2, ?_, ?_⟩⟩
    · simp only [cutS, sliceA, if_true, key]; rfl
    · rw [hl]
    · rw [hl, Nat.sub_mul]; omega
    · rw [hl]
      have q := congrArg (fun z => (z.take (b * esz)).drop (a * esz)) e4
      simp only [List.take_take, Nat.min_eq_left hm] at q
      rw [List.drop_take, List.drop_drop, ← Nat.sub_mul] at q
      rw [q]
      have hs : l.map enc = (l.take a).map enc ++ (((l.take b).drop a).map enc ++ (l.drop b).map enc) := by
        rw [← List.map_append, ← List.map_append]
        congr 1
        rw [← List.take_append_drop a l]
        conv => lhs; rw [List.take_append_drop]
        have e1 : (l.take b).drop a ++ l.drop b = l.drop a := by
          have := List.take_append_drop b l
          have h3 : (l.take b ++ l.drop b).drop a = (l.take b).drop a ++ l.drop b := by rw [List.drop_append_of_le_length (by rw [List.length_take]; omega)]
          rw [← h3, this]
        rw [List.take_append_drop, e1, List.take_append_drop]
      have la : ((l.take a).map enc).flatten.length = a * esz := by
        rw [rows_len (fun r hr => r1 r (by rw [List.map_take] at hr; exact List.mem_of_mem_take hr)), List.length_map, List.length_take, Nat.min_eq_left qo]
      have lb : (((l.take b).drop a).map enc).flatten.length = (b - a) * esz := by rw [rows_len r1', hl]
      rw [hs, List.flatten_append, List.flatten_append, List.take_append, la, List.take_of_length_le (by rw [la]; omega), List.drop_left' la, ← Nat.sub_mul, ← lb, List.take_left]
theorem cap_of {α : Type} {esz n : Nat} {enc : α → List AV} {h : Heap} {sl : AV} {l : List α} (o : OwR esz enc n h sl l) : capOk sl := by
  rcases o with ⟨rfl, _⟩ | ⟨b, len, cap, ex, rest, rfl, _, _, _, _, e⟩
  · trivial
  · exact e
theorem kmod {s : Int} {n : Nat} (h0 : 0 ≤ s) (hn : 0 < n) : ∃ k : Nat, s % (n : Int) = (k : Int) ∧ k < n := by
  have h1 := Int.emod_nonneg s (show (n : Int) ≠ 0 by omega)
  have h2 := Int.emod_lt_of_pos s (show 0 < (n : Int) by omega)
  exact ⟨(s % (n : Int)).toNat, (Int.toNat_of_nonneg h1).symm, by omega⟩
theorem errA_z {t l : List Ro} (a : Asm (okA t l)) : errA t l = 0 := if_pos a.out
theorem errA_2 {t l : List Ro} (a : Asm (¬ okA t l)) : errA t l = 2 := if_neg a.out
theorem may_asm {l : List En} (a : Asm (mayP l = true)) : mayP l = true := a.out
theorem VAt.sub {h : Heap} {l m : List Ro} (a : VAt h l) (hs : ∀ x ∈ m, x ∈ l) : VAt h m := fun x hx => a x (hs x hx)
theorem part_mem {l : List Ro} {k : Nat} : ∀ x ∈ l.take k ++ l.drop (k + 1), x ∈ l := fun x hx => by
  rcases List.mem_append.1 hx with hx | hx
  · exact List.mem_of_mem_take hx
  · exact List.mem_of_mem_drop hx
def b6 : SC := (.seq (.ops [⟨some 8, .mov (.c (.bool false)), none⟩]) (.seq (.seq (.ops [⟨some 21, .mov (.t 0), none⟩, ⟨some 22, .len (.sl) (.t 21), none⟩, ⟨some 23, .bin (.gtr) (.other) (.t 22) (.c (.int (.i64) 60)), none⟩, ⟨some 24, .mov (.t 23), none⟩, ⟨some 25, .mov (.t 1), some (24, false)⟩, ⟨some 26, .len (.sl) (.t 25), some (24, false)⟩, ⟨some 27, .bin (.gtr) (.other) (.t 26) (.c (.int (.i64) 60)), some (24, false)⟩, ⟨some 28, .pick (.t 24) (.c (.bool true)) (.t 27), none⟩, ⟨some 29, .mov (.t 28), none⟩, ⟨some 30, .mov (.t 2), some (29, false)⟩, ⟨some 31, .len (.sl) (.t 30), some (29, false)⟩, ⟨some 32, .bin (.gtr) (.other) (.t 31) (.c (.int (.i64) 60)), some (29, false)⟩, ⟨some 33, .pick (.t 29) (.c (.bool true)) (.t 32), none⟩]) (.cond (.t 33) (.seq (.ops [⟨some 34, .call 8 [], none⟩, ⟨some 8, .mov (.t 34), none⟩]) .ret) .skip)) (.seq (.ops [⟨some 36, .mov (.t 0), none⟩, ⟨some 37, .mov (.t 2), none⟩, ⟨some 38, .call 21 [.t 36, .t 37], none⟩, ⟨some 35, .mov (.t 38), none⟩, ⟨some 39, .extract (.t 35) 0, none⟩, ⟨some 40, .extract (.t 35) 1, none⟩, ⟨some 9, .mov (.t 39), none⟩, ⟨some 10, .mov (.t 40), none⟩]) (.seq (.ops [⟨some 42, .mov (.t 9), none⟩, ⟨some 43, .mov (.t 2), none⟩, ⟨some 44, .call 21 [.t 42, .t 43], none⟩, ⟨some 41, .mov (.t 44), none⟩, ⟨some 45, .extract (.t 41) 0, none⟩, ⟨some 46, .extract (.t 41) 1, none⟩, ⟨some 11, .mov (.t 45), none⟩, ⟨some 12, .mov (.t 46), none⟩]) (.seq (.seq (.ops [⟨some 47, .mov (.t 10), none⟩, ⟨some 48, .bin (.eql) (.other) (.t 47) (.c (.int (.i64) 0)), none⟩, ⟨some 49, .mov (.t 48), none⟩, ⟨some 50, .mov (.t 12), some (49, true)⟩, ⟨some 51, .bin (.neq) (.other) (.t 50) (.c (.int (.i64) 0)), some (49, true)⟩, ⟨some 52, .mov (.t 51), some (49, true)⟩, ⟨some 53, .mov (.t 9), some (52, false)⟩, ⟨some 54, .mov (.t 11), some (52, false)⟩, ⟨some 55, .call 25 [.t 53, .t 54], some (52, false)⟩, ⟨some 56, .un (.not) (.t 55), some (52, false)⟩, ⟨some 57, .pick (.t 52) (.c (.bool true)) (.t 56), some (49, true)⟩, ⟨some 58, .mov (.t 57), some (49, true)⟩, ⟨some 59, .mov (.t 9), some (58, false)⟩, ⟨some 60, .call 23 [.t 59], some (58, false)⟩, ⟨some 61, .un (.not) (.t 60), some (58, false)⟩, ⟨some 62, .pick (.t 58) (.c (.bool true)) (.t 61), some (49, true)⟩, ⟨some 63, .pick (.t 49) (.t 62) (.c (.bool false)), none⟩]) (.cond (.t 63) (.seq (.ops [⟨some 8, .mov (.c (.bool false)), none⟩]) .ret) .skip)) (.seq (.ops [⟨some 65, .mov (.t 0), none⟩, ⟨some 66, .mov (.t 1), none⟩, ⟨some 67, .call 26 [.t 65, .t 66], none⟩, ⟨some 64, .mov (.t 67), none⟩, ⟨some 68, .extract (.t 64) 0, none⟩, ⟨some 69, .extract (.t 64) 1, none⟩, ⟨some 13, .mov (.t 68), none⟩, ⟨some 14, .mov (.t 69), none⟩]) (.seq (.seq (.ops [⟨some 70, .mov (.t 14), none⟩, ⟨some 71, .bin (.neq) (.other) (.t 70) (.c (.int (.i64) 0)), none⟩]) (.cond (.t 71) (.seq (.ops [⟨some 72, .mov (.t 13), none⟩, ⟨some 73, .len (.sl) (.t 72), none⟩, ⟨some 74, .bin (.eql) (.other) (.t 73) (.c (.int (.i64) 0)), none⟩, ⟨some 75, .mov (.t 74), none⟩, ⟨some 76, .call 8 [], some (75, true)⟩, ⟨some 77, .pick (.t 75) (.t 76) (.c (.bool false)), none⟩, ⟨some 8, .mov (.t 77), none⟩]) .ret) .skip)) (.seq (.ops [⟨some 79, .mov (.t 0), none⟩, ⟨some 80, .mov (.t 13), none⟩, ⟨some 81, .call 21 [.t 79, .t 80], none⟩, ⟨some 78, .mov (.t 81), none⟩, ⟨some 82, .extract (.t 78) 0, none⟩, ⟨some 83, .extract (.t 78) 1, none⟩, ⟨some 15, .mov (.t 82), none⟩, ⟨some 16, .mov (.t 83), none⟩]) (.seq (.seq (.ops [⟨some 84, .mov (.t 16), none⟩, ⟨some 85, .bin (.neq) (.other) (.t 84) (.c (.int (.i64) 0)), none⟩, ⟨some 86, .mov (.t 85), none⟩, ⟨some 87, .mov (.t 15), some (86, false)⟩, ⟨some 88, .mov (.t 1), some (86, false)⟩, ⟨some 89, .call 25 [.t 87, .t 88], some (86, false)⟩, ⟨some 90, .un (.not) (.t 89), some (86, false)⟩, ⟨some 91, .pick (.t 86) (.c (.bool true)) (.t 90), none⟩]) (.cond (.t 91) (.seq (.ops [⟨some 8, .mov (.c (.bool false)), none⟩]) .ret) .skip)) (.seq (.seq (.ops [⟨some 92, .mov (.t 13), none⟩, ⟨some 93, .len (.sl) (.t 92), none⟩, ⟨some 94, .bin (.gtr) (.other) (.t 93) (.c (.int (.i64) 0)), none⟩]) (.cond (.t 94) (.seq (.ops [⟨some 95, .mov (.t 3), none⟩, ⟨some 96, .convInt (.i64) (.t 95), none⟩, ⟨some 97, .mov (.t 13), none⟩, ⟨some 98, .len (.sl) (.t 97), none⟩, ⟨some 99, .bin (.rem) (.other) (.t 96) (.t 98), none⟩, ⟨some 17, .mov (.t 99), none⟩]) (.seq (.ops [⟨some 18, .mov (.c (.nilsl)), none⟩]) (.seq (.ops [⟨some 100, .mov (.t 18), none⟩, ⟨some 101, .mov (.t 13), none⟩, ⟨some 102, .mov (.t 17), none⟩, ⟨some 103, .slice 3 (.t 101) none (some (.t 102)) none, none⟩, ⟨some 104, .append 3 48 (.t 100) (.t 103), none⟩, ⟨some 18, .mov (.t 104), none⟩]) (.seq (.ops [⟨some 105, .mov (.t 18), none⟩, ⟨some 106, .mov (.t 13), none⟩, ⟨some 107, .mov (.t 17), none⟩, ⟨some 108, .bin (.add) (.other) (.t 107) (.c (.int (.i64) 1)), none⟩, ⟨some 109, .slice 3 (.t 106) (some (.t 108)) none none, none⟩, ⟨some 110, .append 3 48 (.t 105) (.t 109), none⟩, ⟨some 18, .mov (.t 110), none⟩]) (.seq (.ops [⟨some 112, .mov (.t 0), none⟩, ⟨some 113, .mov (.t 18), none⟩, ⟨some 114, .call 21 [.t 112, .t 113], none⟩, ⟨some 111, .mov (.t 114), none⟩, ⟨some 115, .extract (.t 111) 0, none⟩, ⟨some 116, .extract (.t 111) 1, none⟩, ⟨some 19, .mov (.t 115), none⟩, ⟨some 20, .mov (.t 116), none⟩]) (.seq (.ops [⟨some 117, .mov (.t 20), none⟩, ⟨some 118, .bin (.eql) (.other) (.t 117) (.c (.int (.i64) 0)), none⟩, ⟨some 119, .mov (.t 118), none⟩, ⟨some 120, .mov (.t 19), some (119, true)⟩, ⟨some 121, .mov (.t 1), some (119, true)⟩, ⟨some 122, .call 25 [.t 120, .t 121], some (119, true)⟩, ⟨some 123, .un (.not) (.t 122), some (119, true)⟩, ⟨some 124, .pick (.t 119) (.t 123) (.c (.bool false)), none⟩, ⟨some 125, .mov (.t 124), none⟩, ⟨some 126, .call 8 [], some (125, true)⟩, ⟨some 127, .pick (.t 125) (.t 126) (.c (.bool false)), none⟩, ⟨some 8, .mov (.t 127), none⟩]) .ret)))))) .skip)) (.seq (.ops [⟨some 128, .mov (.t 0), none⟩, ⟨some 129, .mov (.t 1), none⟩, ⟨some 130, .call 25 [.t 128, .t 129], none⟩, ⟨some 131, .mov (.t 130), none⟩, ⟨some 132, .call 8 [], some (131, true)⟩, ⟨some 133, .pick (.t 131) (.t 132) (.c (.bool false)), none⟩, ⟨some 8, .mov (.t 133), none⟩]) .ret)))))))))))
theorem t6 : tab 6 = some ⟨134, [.tmp 8], b6⟩ := rfl
theorem go_Leads (t u l : List Ro) {skip : Int} (hs : 0 ≤ skip ∧ skip ≤ 255) {h : Heap} {V U W : AV} (hV : RAt h V t) (hv : VAt h t) (hg : NoGo t) (hU : RAt h U u) (hu : VAt h u) (hgu : NoGo u) (hW : CAt h W l) (hw : VAt h l) : Runs (xcall X1 tab (.fn 6) [V, U, W, .int .u8 skip] h) fun v h' => v = .bool true := by
  refine Runs.intro fun K hK => ?_
  rw [w_fn rfl t6 (Nat.le_of_ble_eq_true rfl)]
  delta b6
  repeat' (first
    | simp (disch := first | exact qd | fail) only [WB, ↓WP, ↓WL, WR, WC, if_true, if_false, ite_true, ite_false, aop, ev, evs, readsA, List.replicate, numF, unA, resA, tupA, loadA, storeA, splice, fillA, kindsOk, plainEq, ↓reduceIte, Nat.reduceEqDiff, Nat.reduceLT, Int.reduceToNat, Int.reduceBEq, Int.reduceBNe, Nat.reduceAdd, Nat.reduceMul, Nat.reduceLeDiff, Int.reduceLT, Int.reduceSub, Int.reduceAdd, errA_z, errA_2, may_asm]
    | ((first | refine atC ?_ ?_ | refine atG ?_ ?_ | refine atH ?_ ?_ | refine atP ?_ ?_) <;> intro hc <;> (try rw [hc]) <;> (try simp only [BD] at hc) <;> try (exfalso; omega))
    | (obtain ⟨k, hk1, hk2⟩ := kmod (s := skip) (n := m3.length) hs.1 qo; rw [hk1]; have hless := bet_less hm3 hbk hk2 rfl; obtain ⟨hbl, hne⟩ := hless)
    | ((first
      | (refine Runs.call (lives_r _) ?_; rintro _ _ ⟨rfl, rfl⟩)
      | (refine Runs.call (apply_t (bat_Apply t l (hV.grow qg) (hv.grow qg) hg (hW.grow qg) (hw.grow qg) qo)) ?_; rintro v1 H1 ⟨gr, o1, m1, rfl, hO1, hva1, hng1, hml1, hm1, hvr1⟩; rcases Classical.em (okA t l) with hok | hok; (obtain ⟨hmay1, hok1, hre1⟩ := once_ok hm1 hok))
      | (refine Runs.call (apply_t (bat_Apply m1 l (OwR.rd encR_len qo (hO1.grow qg)) (hva1.va.grow qg) hng1 (hW.grow qg) (hw.grow qg) qo)) ?_; rintro v2 H2 ⟨gr, o2, m2, rfl, hO2, hva2, hng2, hml2, hm2, hvr2⟩)
      | (refine Runs.call (rows_t (f0_Rows (h0 := h) m1 m2 (OwR.rd encR_len qo (hO1.grow qg)) (hva1.va.grow qg) hng1 (OwR.rd encR_len qo (hO2.grow qg)) (hva2.va.grow qg) hng2 qo hvr1 hvr2)) ?_; rintro _ _ ⟨rfl, rfl⟩)
      | (refine Runs.call (bat_May m1 (OwR.rd encR_len qo (hO1.grow qg)) (hva1.va.grow qg) qo hng1.at) ?_; rintro _ _ ⟨rfl, gr⟩)
      | (refine Runs.call (bet_t (bat_Between t u (hV.grow qg) (hv.grow qg) hg (hU.grow qg) (hu.grow qg) hgu qo)) ?_; rintro v3 H3 ⟨gr, o3, m3, rfl, hO3, hva3, hml3, hm3⟩; have hR3 := OwR.rd encC_len qo hO3; rcases Classical.em (okA t u) with hbk | hbk; (obtain ⟨hbc, hre3⟩ := bet_ok hm3 hbk hg hgu; have hvt := may_VR hbk.1; have hvu := may_VR hbk.2); rotate_left; (have h30 := tblB_no hm3 hbk); rotate_left)
      | (refine Runs.call (apply_t (bat_Apply t m3 (hV.grow qg) (hv.grow qg) hg (OwR.rd encC_len qo (hO3.grow qg)) (hva3.va.grow qg) qo)) ?_; rintro v4 H4 ⟨gr, o4, m4, rfl, hO4, hva4, hng4, hml4, hm4, hvr4⟩)
      | (refine Runs.call (rows_t (f0_Rows (h0 := h) m4 u (OwR.rd encR_len qo (hO4.grow qg)) (hva4.va.grow qg) hng4 (hU.grow qg) (hu.grow qg) hgu qo hvr4 hvu)) ?_; rintro _ _ ⟨rfl, rfl⟩)
      | (refine Runs.call (Rd.partR hR3 (cap_of hO3) (a := 0) (b := k) (.inr ⟨rfl, rfl⟩) (.inl rfl) qo qo) ?_; rintro u5 _ ⟨rfl, hu5⟩; simp only [List.drop_zero] at hu5)
      | (refine Runs.call (OwR.cat encC_len qo (OwR.nil (n := h.next)) ql (hu5.grow qg) ql) ?_; rintro o5 H5 ⟨hO5, ha⟩; simp only [List.nil_append] at hO5; have g5 := ha.grow (Grow.refl _) (.inl rfl); have an5 := ha.num; simp only [own_nil] at an5; clear ha)
      | (refine Runs.call (Rd.partR hR3 (cap_of hO3) (a := k + 1) (b := m3.length) (.inl rfl) (.inr ⟨rfl, rfl⟩) qo qo) ?_; rintro u6 _ ⟨rfl, hu6⟩; simp only [List.take_length] at hu6)
      | (refine Runs.call (OwR.cat encC_len qo hO5 ql (hu6.grow (gr.trans g5)) ql) ?_; rintro o6 H6 ⟨hO6, ha⟩; have g6 := ha.grow (g := H4) g5 qo; have an6 := ha.num; clear ha)
      | (refine Runs.call (apply_t (bat_Apply t (m3.take k ++ m3.drop (k + 1)) (hV.grow qg) (hv.grow qg) hg (OwR.rd encC_len qo hO6) (VAt.sub (hva3.va.grow qg) part_mem) ql)) ?_; rintro v7 H7 ⟨gr, o7, m7, rfl, hO7, hva7, hng7, hml7, hm7, hvr7⟩; simp only [List.length_append, List.length_take, List.length_drop] at hml7)
      | (refine Runs.call (rows_t (f0_Rows (h0 := h) m7 u (OwR.rd encR_len qo (hO7.grow qg)) (hva7.va.grow qg) hng7 (hU.grow qg) (hu.grow qg) hgu ql hvr7 hvu)) ?_; rintro _ _ ⟨rfl, rfl⟩)
      | (refine Runs.call (rows_t (f0_Rows (h0 := h) t u (hV.grow qg) (hv.grow qg) hg (hU.grow qg) (hu.grow qg) hgu qo hvt hvu)) ?_; rintro _ _ ⟨rfl, rfl⟩)
      | fail); all_goals ((try (have gn := gr.1; try simp only [nx_alloc, nx_set] at gn)); (try (have an := ha.num; try simp only [nx_alloc, nx_set, own_sl, own_nil] at an)); (try (have on := hO.num; try simp only [nx_alloc, nx_set] at on)); (try (have kn := hk.1; try simp only [nx_alloc, nx_set] at kn)); try have hB := hO.at)))
  all_goals try (first
    | (refine hK _ _ ?_; (first | rfl | exact absurd (by rw [hm1, hm2, hre1]) hc | exact absurd (by rw [hm4, hre3]) hc | exact absurd (by rw [← hm7]; exact hc) hne | exact absurd (bet_none hm3 hbk hg hgu qo) hc | fail); done))
theorem run_Leads (N : Nat) : ∀ h xs, (∀ l, AV.str l ∈ xs → l.length ≤ 9223372036854775807) → argsT Try.prog N h 5 Try.f6.params.toList xs → argsX Try.prog N 5 Try.f6.params.toList emptyHeap xs h →
    ∃ n h', acall X1 tab n (.fn 6) xs h = some (.bool true, h') ∨ (AV.bares xs = true ∧ acall X1 tab n (.fn 6) xs emptyHeap = some (.bool true, h')) := by
  intro h xs hs _ hx
  rw [Try.params6] at hx
  obtain ⟨V, _, h1, rfl, e1, hx⟩ := argsX_cons hx
  obtain ⟨U, _, h2, rfl, e2, hx⟩ := argsX_cons hx
  obtain ⟨W, _, h3, rfl, e3, hx⟩ := argsX_cons hx
  obtain ⟨y, _, h4, rfl, e4, hx⟩ := argsX_cons hx
  obtain ⟨rfl, rfl⟩ := argsX_nil hx
  obtain ⟨t, c1, q1, n1, g1⟩ := arg_row e1
  obtain ⟨u, c2, q2, n2, g2⟩ := arg_row e2
  obtain ⟨l, c3, q3, n3, g3⟩ := arg_chg e3
  obtain ⟨s, rfl, w4, rfl⟩ := argX_int Try.underlying5 e4
  obtain ⟨v, h', e, rfl⟩ := go_Leads t u l (wf_u8 w4) (c1.grow (g2.trans g3)) (fun z hz => (q1 z hz).1.grow (g2.trans g3)) (fun z hz => (q1 z hz).2.1) (c2.grow g3) (fun z hz => (q2 z hz).1.grow g3) (fun z hz => (q2 z hz).2.1) c3 (fun z hz => (q3 z hz).1)
  exact ranX e
end Go.Proofs.Ytbcmdlaffjmfdaa.Ya

