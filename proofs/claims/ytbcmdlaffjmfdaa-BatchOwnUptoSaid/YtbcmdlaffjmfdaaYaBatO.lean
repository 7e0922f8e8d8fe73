/-
  Batch: results in one form; the run of BatchTables.
-/
import Derived.Test.YtbcmdlaffjmfdaaYaBatN
import Derived.Test.YtbcmdlaffjmfdaaYbL
namespace Go.Proofs.Ytbcmdlaffjmfdaa.Ya
open Go.Ya Go.Ya.Bat
set_option linter.unusedVariables false
set_option linter.unusedSimpArgs false
set_option maxRecDepth 100000
set_option maxHeartbeats 8000000

/-- What Apply answers: the error, the table. -/
def okA (t l : List Ro) : Prop := mayP (t.map Ro.en) = true ∧ mayP (l.map Ro.en) = true
instance {t l : List Ro} : Decidable (okA t l) := by unfold okA; infer_instance
def errA (t l : List Ro) : Int := if okA t l then 0 else 2
def tblA (t l : List Ro) : List En := if okA t l then applyP (t.map Ro.en) (l.map Ro.en) else []
def tblB (t l : List Ro) : List En := if okA t l then betP (t.map Ro.en) (l.map Ro.en) else []
theorem tblA_vr {t l m : List Ro} (h : m.map Ro.en = tblA t l) : VR m := by
  unfold tblA at h
  split at h
  · rename_i q; exact may_VR (by rw [h]; exact apply_may q.1 q.2)
  · obtain rfl := List.map_eq_nil_iff.1 h
    exact fun x hx => nomatch hx
theorem apply_t {E : AR} {h : Heap} {t l : List Ro} (r : Runs E fun v h' => Grow h h' ∧ ((¬ (mayP (t.map Ro.en) = true ∧ mayP (l.map Ro.en) = true) ∧ v = .tuple [.nilsl, .int .i64 2]) ∨ (mayP (t.map Ro.en) = true ∧ mayP (l.map Ro.en) = true ∧ ∃ o m, v = .tuple [o, .int .i64 0] ∧ OwR 2 encR h.next h' o m ∧ VO h.next h' o m ∧ NoGo m ∧ m.length ≤ t.length + l.length ∧ m.map Ro.en = applyP (t.map Ro.en) (l.map Ro.en)))) :
    Runs E fun v h' => Grow h h' ∧ ∃ o m, v = .tuple [o, .int .i64 (errA t l)] ∧ OwR 2 encR h.next h' o m ∧ VO h.next h' o m ∧ NoGo m ∧ m.length ≤ t.length + l.length ∧ m.map Ro.en = tblA t l ∧ VR m := r.mono fun v h' ⟨g, q⟩ => by
  rcases q with ⟨q, rfl⟩ | ⟨q1, q2, o, m, rfl, a1, a2, a3, a4, a5⟩
  · exact ⟨g, .nilsl, [], by rw [errA, if_neg (show ¬ okA t l from q)], OwC.nil, (fun x hx => nomatch hx), (fun x hx => nomatch hx), Nat.zero_le _, by rw [tblA, if_neg (show ¬ okA t l from q)]; rfl, fun x hx => nomatch hx⟩
  · have e : m.map Ro.en = tblA t l := by rw [tblA, if_pos ⟨q1, q2⟩, a5]
    exact ⟨g, o, m, by rw [errA, if_pos ⟨q1, q2⟩], a1, a2, a3, a4, e, tblA_vr e⟩
theorem rapply_t {E : AR} {h : Heap} {t l : List Ro} (r : Runs E fun v h' => Grow h h' ∧ ((¬ (mayP (t.map Ro.en) = true ∧ mayP (l.map Ro.en) = true) ∧ v = .tuple [.nilsl, .int .i64 2]) ∨ (mayP (t.map Ro.en) = true ∧ mayP (l.map Ro.en) = true ∧ ∃ o m, v = .tuple [o, .int .i64 0] ∧ OwR 2 encR h.next h' o m ∧ VO h.next h' o m ∧ NoGo m ∧ m.length ≤ t.length + l.length ∧ m.map Ro.en = (l.map Ro.en).foldl stepP (withoutP (t.map Ro.en) [])))) :
    Runs E fun v h' => Grow h h' ∧ ∃ o m, v = .tuple [o, .int .i64 (errA t l)] ∧ OwR 2 encR h.next h' o m ∧ VO h.next h' o m ∧ NoGo m ∧ m.length ≤ t.length + l.length ∧ m.map Ro.en = tblA t l ∧ VR m := apply_t (r.mono fun v h' ⟨g, q⟩ => ⟨g, by
  rcases q with q | ⟨q1, q2, o, m, rfl, a1, a2, a3, a4, a5⟩
  · exact .inl q
  · exact .inr ⟨q1, q2, o, m, rfl, a1, a2, a3, a4, by rw [a5, ref_apply q1 q2]⟩⟩)
theorem bet_t {E : AR} {h : Heap} {t l : List Ro} (r : Runs E fun v h' => Grow h h' ∧ ((¬ (mayP (t.map Ro.en) = true ∧ mayP (l.map Ro.en) = true) ∧ v = .tuple [.nilsl, .int .i64 2]) ∨ (mayP (t.map Ro.en) = true ∧ mayP (l.map Ro.en) = true ∧ ∃ o m, v = .tuple [o, .int .i64 0] ∧ OwR 3 encC h.next h' o m ∧ VO h.next h' o m ∧ m.length ≤ t.length + l.length ∧ m.map Ro.en = betP (t.map Ro.en) (l.map Ro.en)))) :
    Runs E fun v h' => Grow h h' ∧ ∃ o m, v = .tuple [o, .int .i64 (errA t l)] ∧ OwR 3 encC h.next h' o m ∧ VO h.next h' o m ∧ m.length ≤ t.length + l.length ∧ m.map Ro.en = tblB t l := r.mono fun v h' ⟨g, q⟩ => by
  rcases q with ⟨q, rfl⟩ | ⟨q1, q2, o, m, rfl, a1, a2, a4, a5⟩
  · exact ⟨g, .nilsl, [], by rw [errA, if_neg (show ¬ okA t l from q)], OwC.nil, (fun x hx => nomatch hx), Nat.zero_le _, by rw [tblB, if_neg (show ¬ okA t l from q)]; rfl⟩
  · exact ⟨g, o, m, by rw [errA, if_pos ⟨q1, q2⟩], a1, a2, a4, by rw [tblB, if_pos ⟨q1, q2⟩, a5]⟩
theorem rbet_t {E : AR} {h : Heap} {t l : List Ro} (r : Runs E fun v h' => Grow h h' ∧ ((¬ (mayP (t.map Ro.en) = true ∧ mayP (l.map Ro.en) = true) ∧ v = .tuple [.nilsl, .int .i64 2]) ∨ (mayP (t.map Ro.en) = true ∧ mayP (l.map Ro.en) = true ∧ ∃ o m, v = .tuple [o, .int .i64 0] ∧ OwR 3 encC h.next h' o m ∧ VO h.next h' o m ∧ m.map Ro.en = betP (t.map Ro.en) (l.map Ro.en)))) :
    Runs E fun v h' => Grow h h' ∧ ∃ o m, v = .tuple [o, .int .i64 (errA t l)] ∧ OwR 3 encC h.next h' o m ∧ VO h.next h' o m ∧ m.map Ro.en = tblB t l := r.mono fun v h' ⟨g, q⟩ => by
  rcases q with ⟨q, rfl⟩ | ⟨q1, q2, o, m, rfl, a1, a2, a5⟩
  · exact ⟨g, .nilsl, [], by rw [errA, if_neg (show ¬ okA t l from q)], OwC.nil, (fun x hx => nomatch hx), by rw [tblB, if_neg (show ¬ okA t l from q)]; rfl⟩
  · exact ⟨g, o, m, by rw [errA, if_pos ⟨q1, q2⟩], a1, a2, by rw [tblB, if_pos ⟨q1, q2⟩, a5]⟩
def fndB (t : List Ro) (k : Bs) : Bool := (findP (t.map Ro.en) k).isSome
def fndV (t : List Ro) (k : Bs) : Bs := (findP (t.map Ro.en) k).getD []
theorem find_t {E : AR} {h : Heap} {t : List Ro} {k : Bs} (r : Runs E fun v h' => Grow h h' ∧ ((∃ w val, findP (t.map Ro.en) k = some val ∧ v = .tuple [w, .bool true] ∧ NewBytes h h' w val) ∨ (findP (t.map Ro.en) k = none ∧ v = .tuple [.nilsl, .bool false]))) :
    Runs E fun v h' => Grow h h' ∧ ∃ w, v = .tuple [w, .bool (fndB t k)] ∧ OwB h.next h' w (fndV t k) := r.mono fun v h' ⟨g, q⟩ => by
  unfold fndB fndV
  rcases q with ⟨w, val, e, rfl, n⟩ | ⟨e, rfl⟩
  · rw [e]; exact ⟨g, w, rfl, n.own (Nat.le_refl _)⟩
  · rw [e]; exact ⟨g, .nilsl, rfl, OwC.nil⟩
theorem rfind_t {E : AR} {h : Heap} {t : List Ro} {k : Bs} (r : Runs E fun v h' => Grow h h' ∧ ((∃ w val, findP (t.map Ro.en) k = some val ∧ v = .tuple [w, .bool true] ∧ OwB h.next h' w val) ∨ (findP (t.map Ro.en) k = none ∧ v = .tuple [.nilsl, .bool false]))) :
    Runs E fun v h' => Grow h h' ∧ ∃ w, v = .tuple [w, .bool (fndB t k)] ∧ OwB h.next h' w (fndV t k) := r.mono fun v h' ⟨g, q⟩ => by
  unfold fndB fndV
  rcases q with ⟨w, val, e, rfl, n⟩ | ⟨e, rfl⟩
  · rw [e]; exact ⟨g, w, rfl, n⟩
  · rw [e]; exact ⟨g, .nilsl, rfl, OwC.nil⟩
theorem rows_t {E : AR} {h : Heap} {t u : List Ro} (r : Runs E fun v h' => (∃ b, v = .bool b ∧ (b = true ↔ t.map Ro.en = u.map Ro.en)) ∧ h = h') : Runs E fun v h' => v = .bool (decide (t.map Ro.en = u.map Ro.en)) ∧ h = h' := r.mono fun v h' ⟨⟨b, e, i⟩, g⟩ => ⟨by rw [e]; congr 1; exact Bool.eq_iff_iff.2 (by simpa using i), g⟩
def b4 : SC := (.seq (.ops [⟨some 8, .mov (.c (.bool false)), none⟩]) (.seq (.seq (.ops [⟨some 19, .mov (.t 0), none⟩, ⟨some 20, .len (.sl) (.t 19), none⟩, ⟨some 21, .bin (.gtr) (.other) (.t 20) (.c (.int (.i64) 60)), none⟩, ⟨some 22, .mov (.t 21), none⟩, ⟨some 23, .mov (.t 1), some (22, false)⟩, ⟨some 24, .len (.sl) (.t 23), some (22, false)⟩, ⟨some 25, .bin (.gtr) (.other) (.t 24) (.c (.int (.i64) 60)), some (22, false)⟩, ⟨some 26, .pick (.t 22) (.c (.bool true)) (.t 25), none⟩, ⟨some 27, .mov (.t 26), none⟩, ⟨some 28, .mov (.t 2), some (27, false)⟩, ⟨some 29, .len (.sl) (.t 28), some (27, false)⟩, ⟨some 30, .bin (.gtr) (.other) (.t 29) (.c (.int (.i64) 60)), some (27, false)⟩, ⟨some 31, .pick (.t 27) (.c (.bool true)) (.t 30), none⟩]) (.cond (.t 31) (.seq (.ops [⟨some 32, .call 8 [], none⟩, ⟨some 8, .mov (.t 32), none⟩]) .ret) .skip)) (.seq (.ops [⟨some 34, .mov (.t 0), none⟩, ⟨some 35, .mov (.t 2), none⟩, ⟨some 36, .call 21 [.t 34, .t 35], none⟩, ⟨some 33, .mov (.t 36), none⟩, ⟨some 37, .extract (.t 33) 0, none⟩, ⟨some 38, .extract (.t 33) 1, none⟩, ⟨some 9, .mov (.t 37), none⟩, ⟨some 10, .mov (.t 38), none⟩]) (.seq (.ops [⟨some 40, .mov (.t 0), none⟩, ⟨some 41, .mov (.t 2), none⟩, ⟨some 42, .call 22 [.t 40, .t 41], none⟩, ⟨some 39, .mov (.t 42), none⟩, ⟨some 43, .extract (.t 39) 0, none⟩, ⟨some 44, .extract (.t 39) 1, none⟩, ⟨some 11, .mov (.t 43), none⟩, ⟨some 12, .mov (.t 44), none⟩]) (.seq (.seq (.ops [⟨some 45, .mov (.t 0), none⟩, ⟨some 46, .call 23 [.t 45], none⟩, ⟨some 47, .mov (.t 0), none⟩, ⟨some 48, .call 24 [.t 47], none⟩, ⟨some 49, .bin (.neq) (.bool) (.t 46) (.t 48), none⟩, ⟨some 50, .mov (.t 49), none⟩, ⟨some 51, .mov (.t 9), some (50, false)⟩, ⟨some 52, .mov (.t 11), some (50, false)⟩, ⟨some 53, .call 25 [.t 51, .t 52], some (50, false)⟩, ⟨some 54, .un (.not) (.t 53), some (50, false)⟩, ⟨some 55, .pick (.t 50) (.c (.bool true)) (.t 54), none⟩, ⟨some 56, .mov (.t 55), none⟩, ⟨some 57, .mov (.t 10), some (56, false)⟩, ⟨some 58, .mov (.t 12), some (56, false)⟩, ⟨some 59, .bin (.neq) (.other) (.t 57) (.t 58), some (56, false)⟩, ⟨some 60, .pick (.t 56) (.c (.bool true)) (.t 59), none⟩]) (.cond (.t 60) (.seq (.ops [⟨some 8, .mov (.c (.bool false)), none⟩]) .ret) .skip)) (.seq (.ops [⟨some 62, .mov (.t 0), none⟩, ⟨some 63, .mov (.t 1), none⟩, ⟨some 64, .call 26 [.t 62, .t 63], none⟩, ⟨some 61, .mov (.t 64), none⟩, ⟨some 65, .extract (.t 61) 0, none⟩, ⟨some 66, .extract (.t 61) 1, none⟩, ⟨some 13, .mov (.t 65), none⟩, ⟨some 10, .mov (.t 66), none⟩]) (.seq (.ops [⟨some 68, .mov (.t 0), none⟩, ⟨some 69, .mov (.t 1), none⟩, ⟨some 70, .call 27 [.t 68, .t 69], none⟩, ⟨some 67, .mov (.t 70), none⟩, ⟨some 71, .extract (.t 67) 0, none⟩, ⟨some 72, .extract (.t 67) 1, none⟩, ⟨some 14, .mov (.t 71), none⟩, ⟨some 12, .mov (.t 72), none⟩]) (.seq (.ops [⟨some 74, .mov (.t 0), none⟩, ⟨some 75, .mov (.t 3), none⟩, ⟨some 76, .call 28 [.t 74, .t 75], none⟩, ⟨some 73, .mov (.t 76), none⟩, ⟨some 77, .extract (.t 73) 0, none⟩, ⟨some 78, .extract (.t 73) 1, none⟩, ⟨some 15, .mov (.t 77), none⟩, ⟨some 16, .mov (.t 78), none⟩]) (.seq (.ops [⟨some 80, .mov (.t 0), none⟩, ⟨some 81, .mov (.t 3), none⟩, ⟨some 82, .call 29 [.t 80, .t 81], none⟩, ⟨some 79, .mov (.t 82), none⟩, ⟨some 83, .extract (.t 79) 0, none⟩, ⟨some 84, .extract (.t 79) 1, none⟩, ⟨some 17, .mov (.t 83), none⟩, ⟨some 18, .mov (.t 84), none⟩]) (.seq (.ops [⟨some 85, .mov (.t 13), none⟩, ⟨some 86, .mov (.t 14), none⟩, ⟨some 87, .call 17 [.t 85, .t 86], none⟩, ⟨some 88, .mov (.t 87), none⟩, ⟨some 89, .mov (.t 10), some (88, true)⟩, ⟨some 90, .mov (.t 12), some (88, true)⟩, ⟨some 91, .bin (.eql) (.other) (.t 89) (.t 90), some (88, true)⟩, ⟨some 92, .pick (.t 88) (.t 91) (.c (.bool false)), none⟩, ⟨some 93, .mov (.t 92), none⟩, ⟨some 94, .mov (.t 15), some (93, true)⟩, ⟨some 95, .mov (.t 17), some (93, true)⟩, ⟨some 96, .call 16 [.t 94, .t 95], some (93, true)⟩, ⟨some 97, .pick (.t 93) (.t 96) (.c (.bool false)), none⟩, ⟨some 98, .mov (.t 97), none⟩, ⟨some 99, .mov (.t 16), some (98, true)⟩, ⟨some 100, .mov (.t 18), some (98, true)⟩, ⟨some 101, .bin (.eql) (.bool) (.t 99) (.t 100), some (98, true)⟩, ⟨some 102, .pick (.t 98) (.t 101) (.c (.bool false)), none⟩, ⟨some 103, .mov (.t 102), none⟩, ⟨some 104, .call 8 [], some (103, true)⟩, ⟨some 105, .pick (.t 103) (.t 104) (.c (.bool false)), none⟩, ⟨some 8, .mov (.t 105), none⟩]) .ret))))))))))
theorem t4 : tab 4 = some ⟨106, [.tmp 8], b4⟩ := rfl
theorem go_Tables (t u l : List Ro) {k : Bs} {h : Heap} {V U W : AV} (hV : RAt h V t) (hv : VAt h t) (hg : NoGo t) (hU : RAt h U u) (hu : VAt h u) (hgu : NoGo u) (hW : CAt h W l) (hw : VAt h l) : Runs (xcall X1 tab (.fn 4) [V, U, W, .str k] h) fun v h' => v = .bool true := by
  refine Runs.intro fun K hK => ?_
  rw [w_fn rfl t4 (Nat.le_of_ble_eq_true rfl)]
  delta b4
  repeat' (first
    | simp (disch := first | exact qd | fail) only [WB, ↓WP, ↓WL, WR, WC, if_true, if_false, ite_true, ite_false, aop, ev, evs, readsA, List.replicate, numF, unA, resA, tupA, loadA, storeA, splice, fillA, kindsOk, plainEq, ↓reduceIte, Nat.reduceEqDiff, Nat.reduceLT, Int.reduceToNat, Int.reduceBEq, Int.reduceBNe, Nat.reduceAdd, Nat.reduceMul, Nat.reduceLeDiff, Int.reduceLT, Int.reduceSub, Int.reduceAdd]
    | ((first | refine atC ?_ ?_ | refine atG ?_ ?_ | refine atH ?_ ?_ | refine atP ?_ ?_) <;> intro hc <;> (try rw [hc]) <;> (try simp only [BD] at hc) <;> try (exfalso; omega))
    | ((first
      | (refine Runs.call (lives_r _) ?_; rintro _ _ ⟨rfl, rfl⟩)
      | (refine Runs.call (apply_t (bat_Apply t l (hV.grow qg) (hv.grow qg) hg (hW.grow qg) (hw.grow qg) qo)) ?_; rintro v1 H1 ⟨gr, o1, m1, rfl, hO1, hva1, hng1, hml1, hm1, hvr1⟩)
      | (refine Runs.call (rapply_t (rbat_Apply t l (hV.grow qg) (hv.grow qg) hg (hW.grow qg) (hw.grow qg) qo)) ?_; rintro v2 H2 ⟨gr, o2, m2, rfl, hO2, hva2, hng2, hml2, hm2, hvr2⟩)
      | (refine Runs.call (bat_May t (hV.grow qg) (hv.grow qg) qo hg.at) ?_; rintro _ _ ⟨rfl, gr⟩)
      | (refine Runs.call (rbat_May t (hV.grow qg) (hv.grow qg) qo hg.at) ?_; rintro _ _ ⟨rfl, rfl⟩)
      | (refine Runs.call (rows_t (f0_Rows (h0 := h) m1 m2 (OwR.rd encR_len qo (hO1.grow qg)) (hva1.va.grow qg) hng1 (OwR.rd encR_len qo (hO2.grow qg)) (hva2.va.grow qg) hng2 qo hvr1 hvr2)) ?_; rintro _ _ ⟨rfl, rfl⟩)
      | (refine Runs.call (bet_t (bat_Between t u (hV.grow qg) (hv.grow qg) hg (hU.grow qg) (hu.grow qg) hgu qo)) ?_; rintro v3 H3 ⟨gr, o3, m3, rfl, hO3, hva3, hml3, hm3⟩)
      | (refine Runs.call (rbet_t (rbat_Between t u (hV.grow qg) (hv.grow qg) hg (hU.grow qg) (hu.grow qg) hgu qo)) ?_; rintro v4 H4 ⟨gr, o4, m4, rfl, hO4, hva4, hm4⟩)
      | (refine Runs.call (find_t (bat_Find t (k := k) (hV.grow qg) (hv.grow qg) hg qo)) ?_; rintro v5 H5 ⟨gr, w5, rfl, hO5⟩)
      | (refine Runs.call (rfind_t (rbat_Find t (k := k) (hV.grow qg) (hv.grow qg) hg qo)) ?_; rintro v6 H6 ⟨gr, w6, rfl, hO6⟩)
      | (refine Runs.call (f0_Changes m3 m4 (OwR.rd encC_len qo (hO3.grow qg)) (hva3.va.grow qg) (OwR.rd encC_len qo (hO4.grow qg)) (hva4.va.grow qg) qo) ?_; rintro _ _ ⟨rfl, rfl⟩)
      | (refine Runs.call (f0_Same (hO5.at.grow qg) (hO6.at.grow qg)) ?_; rintro _ _ ⟨rfl, rfl⟩)
      | fail); all_goals ((try (have gn := gr.1; try simp only [nx_alloc, nx_set] at gn)); (try (have an := ha.num; try simp only [nx_alloc, nx_set, own_sl, own_nil] at an)); (try (have on := hO.num; try simp only [nx_alloc, nx_set] at on)); (try (have kn := hk.1; try simp only [nx_alloc, nx_set] at kn)); try have hB := hO.at)))
  all_goals try (first
    | (refine hK _ _ ?_; (first | rfl | (exfalso; rw [hm1, hm2] at hc; exact hc rfl) | (exfalso; rw [hm3, hm4] at hc; exact hc rfl) | (exfalso; exact hc rfl) | fail); done)
    | fail)
theorem row_row {N k : Nat} {h h' : Heap} {cs : List AV} (hx : cellsX Try.prog N (k + 3) 50 h cs h') : ∃ x : Ro, cs = encR x ∧ (BytesAt h' x.v x.val ∧ x.gone = false ∧ x.key.length ≤ N ∧ x.val.length ≤ N ∧ Bytes x.key ∧ Bytes x.val) ∧ Grow h h' := by
  obtain ⟨ass, hl, rfl⟩ := cellsX_struct Try.underlying50 hx
  obtain ⟨c1, r, h1, rfl, e1, hl⟩ := listX_cons hl
  obtain ⟨c2, r, h2, rfl, e2, hl⟩ := listX_cons hl
  obtain ⟨rfl, rfl⟩ := listX_nil hl
  obtain ⟨key, rfl, w1, n1, rfl⟩ := cellsX_string Try.underlying9 e1
  obtain ⟨v, val, rfl, b1, b2, b3, g⟩ := cells_bytes Try.underlying23 Try.underlying5 (by kernel_rfl) e2
  exact ⟨⟨key, v, val, false⟩, rfl, ⟨b1, rfl, n1, b3, wf_bytes w1, b2⟩, g⟩
abbrev RQ (N : Nat) (h : Heap) (x : Ro) : Prop := BytesAt h x.v x.val ∧ x.gone = false ∧ x.key.length ≤ N ∧ x.val.length ≤ N ∧ Bytes x.key ∧ Bytes x.val
theorem arg_row {N : Nat} {h h' : Heap} {a : AV} (hx : argX Try.prog N 5 36 h a h') : ∃ l : List Ro, RAt h' a l ∧ (∀ x ∈ l, RQ N h' x) ∧ l.length ≤ N ∧ Grow h h' :=
  arg_rows (enc := encR) (Q := RQ N) Try.underlying36 (by kernel_rfl) encR_len (fun q g => ⟨q.1.grow g, q.2⟩) (fun hx => row_row hx) hx
theorem run_Tables (N : Nat) : ∀ h xs, (∀ l, AV.str l ∈ xs → l.length ≤ 9223372036854775807) → argsT Try.prog N h 5 Try.f4.params.toList xs → argsX Try.prog N 5 Try.f4.params.toList emptyHeap xs h →
    ∃ n h', acall X1 tab n (.fn 4) xs h = some (.bool true, h') ∨ (AV.bares xs = true ∧ acall X1 tab n (.fn 4) xs emptyHeap = some (.bool true, h')) := by
  intro h xs hs _ hx
  rw [Try.params4] at hx
  obtain ⟨V, _, h1, rfl, e1, hx⟩ := argsX_cons hx
  obtain ⟨U, _, h2, rfl, e2, hx⟩ := argsX_cons hx
  obtain ⟨W, _, h3, rfl, e3, hx⟩ := argsX_cons hx
  obtain ⟨y, _, h4, rfl, e4, hx⟩ := argsX_cons hx
  obtain ⟨rfl, rfl⟩ := argsX_nil hx
  obtain ⟨t, c1, q1, n1, g1⟩ := arg_row e1
  obtain ⟨u, c2, q2, n2, g2⟩ := arg_row e2
  obtain ⟨l, c3, q3, n3, g3⟩ := arg_chg e3
  obtain ⟨y, rfl, _, _, rfl⟩ := argX_string Try.underlying9 e4
  obtain ⟨v, h', e, rfl⟩ := go_Tables t u l (k := y) (c1.grow (g2.trans g3)) (fun z hz => (q1 z hz).1.grow (g2.trans g3)) (fun z hz => (q1 z hz).2.1) (c2.grow g3) (fun z hz => (q2 z hz).1.grow g3) (fun z hz => (q2 z hz).2.1) c3 (fun z hz => (q3 z hz).1)
  exact ranX e
end Go.Proofs.Ytbcmdlaffjmfdaa.Ya

