/-
  Calls: read.
-/
import Derived.Test.YtpoccinfeekdhaaDoorYaCaR
import Derived.Test.YtpoccinfeekdhaaDoorYbL
namespace Go.Proofs.YtpoccinfeekdhaaDoor.Ya
open Go.Ya Go.Ya.Na
set_option linter.unusedVariables false
set_option linter.unusedSimpArgs false
set_option maxRecDepth 100000
set_option maxHeartbeats 8000000
def zC : Cl := ⟨0, 0, 0, 0, 0, 0, [], 0, 0, [], 0, 0, .nilsl, []⟩
def Cl.en (z : Cl) : Cl := { z with dv := .nilsl }
def hdZ (bs : List Int) : Cl := { zC with client := (rdN 4 (bs, 0)).1 % 256, inc := (rdN 4 (rdN 4 (bs, 0)).2).1, seq := (rdN 8 (rdN 4 (rdN 4 (bs, 0)).2).2).1, kind := min (rdN 4 (rdN 8 (rdN 4 (rdN 4 (bs, 0)).2).2).2).1 255 }
def hdS (bs : List Int) : List Int × Int := (rdN 4 (rdN 8 (rdN 4 (rdN 4 (bs, 0)).2).2).2).2
def readE (bs : List Int) : Int := if ¬ (hdS bs).2 = 0 then (hdS bs).2 else if kindC (hdZ bs).kind = true then endE (fldS (hdZ bs) (hdS bs)) else 5
def readZ (bs : List Int) : Cl := fldZ (hdZ bs) (hdS bs) .nilsl
theorem min255i {n : Int} (h : 0 ≤ n) : minA (.int .u32 n) [.int .u32 255] = some (.int .u32 (min n 255)) := by
  simp only [minA, if_true]
  congr 2
  split <;> omega
theorem fld_dv {z : Cl} {s : List Int × Int} {dv : AV} (h : ¬ z.kind = 5) : (fldZ z s dv).dv = z.dv ∧ (fldZ z s dv).data = z.data := by
  unfold fldZ
  repeat' split
  all_goals first | contradiction | exact ⟨rfl, rfl⟩
theorem fld_5 {z : Cl} {s : List Int × Int} {dv : AV} (h : z.kind = 5) : (fldZ z s dv).dv = dv ∧ (fldZ z s dv).data = (rdB 4096 (rdN 4 (rdN 4 (rdN 4 s).2).2).2).1 := by
  unfold fldZ
  rw [if_neg qo, if_neg qo, if_neg qo, if_pos h]
  exact ⟨rfl, rfl⟩
theorem fld_en {z : Cl} {s : List Int × Int} {dv : AV} (h : z.dv = .nilsl) : (fldZ z s dv).en = (fldZ z s .nilsl).en := by
  unfold fldZ Cl.en
  repeat' split
  all_goals first | rfl | simp [h]
theorem t31 : tab 31 = some ⟨46, [.cell 2 true 13, .tmp 3, .tmp 4], b31⟩ := rfl
theorem wrap_hd (bs : List Int) : IntKind.u8.wrap (rdN 4 (bs, 0)).1 = (rdN 4 (bs, 0)).1 % 256 := by rw [IntKind.wrap_u8]
theorem c_read {v : AV} {bs : List Int} {h : Heap} (hv : BytesAt h v bs) (hy : Bytes bs) (hl : bs.length ≤ 2000000) : Runs (xcall X1 tab (.fn 31) [v] h) fun w h' => Grow h h' ∧ ∃ z : Cl, w = .tuple [.agg [.int .u8 z.client, .int .u32 z.inc, .int .u64 z.seq, .int .u8 z.kind, .int .u32 z.hi, .int .u32 z.hg, .str z.name, .int .u32 z.ti, .int .u32 z.tg, .str z.toName, .int .u32 z.off, .int .u32 z.size, z.dv], .int .u32 (rdN 4 (bs, 0)).1, .int .i64 (readE bs)] ∧ (readE bs = 0 → z.en = (readZ bs).en) ∧ NBt h.next h'.next h' z.dv z.data := by
  refine Runs.intro fun K hK => ?_
  have hfv := BytesAt.flat' hv
  have hcv := cells_of hfv
  have y1 := rdN_by (k := 4) (s := (bs, 0)) hy
  have y2 := rdN_by (k := 4) y1
  have y3 := rdN_by (k := 8) y2
  have b1 := rdN_lt (k := 4) (s := (bs, 0)) hy
  have b4 := rdN_lt (k := 4) y3
  rw [p4] at b1 b4
  have bm := min255i b4.1
  rw [w_fn rfl t31 (Nat.le_of_ble_eq_true rfl)]
  delta b31
  repeat' (first
    | simp (disch := first | exact qd | fail) only [WB, ↓WP, ↓WL, WR, WC, if_true, if_false, ite_true, ite_false, aop, ev, evs, readsA, List.replicate, numF, unA, resA, tupA, loadA, storeA, splice, fillA, kindsOk, plainEq, ↓reduceIte, Nat.reduceEqDiff, Nat.reduceLT, Int.reduceToNat, Int.reduceBEq, Int.reduceBNe, Nat.reduceAdd, Nat.reduceMul, Nat.reduceLeDiff, Int.reduceLT, Int.reduceSub, Int.reduceAdd, hfv, hcv, wrap_hd, bm]
    | ((first | refine atC ?_ ?_ | refine atG ?_ ?_ | refine atH ?_ ?_ | refine atP ?_ ?_) <;> intro hc <;> (try rw [hc]) <;> (try simp only [BD] at hc) <;> try (exfalso; omega))
    | ((first
      | (refine Runs.call (r_New (hv.grow qg) hy qo) ?_; rintro _ H0 ⟨gr, p, rfl, hp1, hp2, f0⟩; (simp only [nx_alloc] at hp1 f0); have hz : H0.get h.next = some (.cells [.int .u8 0, .int .u32 0, .int .u64 0, .int .u8 0, .int .u32 0, .int .u32 0, .str [], .int .u32 0, .int .u32 0, .str [], .int .u32 0, .int .u32 0, .nilsl] false) := qs)
      | (refine Runs.call (r_NumberP f0) ?_; rintro _ H1 ⟨rfl, k1, f1⟩; have n1 := k1.1; have hz : H1.get h.next = some (.cells [.int .u8 0, .int .u32 0, .int .u64 0, .int .u8 0, .int .u32 0, .int .u32 0, .str [], .int .u32 0, .int .u32 0, .str [], .int .u32 0, .int .u32 0, .nilsl] false) := qs)
      | (refine Runs.call (r_NumberP (Rdr.other f1 qo (fun j h1 h2 => get_setq qo))) ?_; rintro _ H2 ⟨rfl, k2, f2⟩; have n2 := k2.1; (simp only [nx_set] at n2); have hz : H2.get h.next = some (.cells [.int .u8 ((rdN 4 (bs, 0)).1 % 256), .int .u32 0, .int .u64 0, .int .u8 0, .int .u32 0, .int .u32 0, .str [], .int .u32 0, .int .u32 0, .str [], .int .u32 0, .int .u32 0, .nilsl] false) := qs)
      | (refine Runs.call (great_in (o := 2) (cs := [.int .u8 ((rdN 4 (bs, 0)).1 % 256), .int .u32 (rdN 4 (rdN 4 (bs, 0)).2).1, .int .u64 0, .int .u8 0, .int .u32 0, .int .u32 0, .str [], .int .u32 0, .int .u32 0, .str [], .int .u32 0, .int .u32 0, .nilsl]) (cs2 := [.int .u8 ((rdN 4 (bs, 0)).1 % 256), .int .u32 (rdN 4 (rdN 4 (bs, 0)).2).1, .int .u64 (rdN 8 (rdN 4 (rdN 4 (bs, 0)).2).2).1, .int .u8 0, .int .u32 0, .int .u32 0, .str [], .int .u32 0, .int .u32 0, .str [], .int .u32 0, .int .u32 0, .nilsl]) (Rdr.other f2 qo (fun j h1 h2 => get_setq qo)) qo qs (by simp) (.inl qo) rfl) ?_; rintro _ H3 ⟨hz3, f3, t3⟩; have n3 := t3.1; (simp only [nx_set] at n3); have g3 : Grow h H3 := ⟨by omega, fun j hj => (t3.2 j (by simp only [nx_set]; omega) qo qo).trans ((get_setq qo).trans qs)⟩)
      | (refine Runs.call (r_NumberP f3) ?_; rintro _ H4 ⟨rfl, k4, f4⟩; have n4 := k4.1; have hz : H4.get h.next = some (.cells [.int .u8 ((rdN 4 (bs, 0)).1 % 256), .int .u32 (rdN 4 (rdN 4 (bs, 0)).2).1, .int .u64 (rdN 8 (rdN 4 (rdN 4 (bs, 0)).2).2).1, .int .u8 0, .int .u32 0, .int .u32 0, .str [], .int .u32 0, .int .u32 0, .str [], .int .u32 0, .int .u32 0, .nilsl] false) := qs)
      | (refine Runs.call (r_Error f4) ?_; rintro _ _ ⟨rfl, rfl⟩)
      | (refine Runs.call (fields_in (hdZ bs) (lo := h.next + 1) (q := h.next) (Rdr.other f4 qo (fun j h1 h2 => get_setq qo)) qo (show _ = some (.cells [.int .u8 ((rdN 4 (bs, 0)).1 % 256), .int .u32 (rdN 4 (rdN 4 (bs, 0)).2).1, .int .u64 (rdN 8 (rdN 4 (rdN 4 (bs, 0)).2).2).1, .int .u8 (min (rdN 4 (rdN 8 (rdN 4 (rdN 4 (bs, 0)).2).2).2).1 255), .int .u32 0, .int .u32 0, .str [], .int .u32 0, .int .u32 0, .str [], .int .u32 0, .int .u32 0, .nilsl] false) from gs_new rfl qo) (.inl qo) (show (0 : Int) ≤ min (rdN 4 (rdN 8 (rdN 4 (rdN 4 (bs, 0)).2).2).2).1 255 ∧ min (rdN 4 (rdN 8 (rdN 4 (rdN 4 (bs, 0)).2).2).2).1 255 ≤ 255 by omega)) ?_; rintro _ H5 (⟨hk9, rfl, rfl⟩ | ⟨hk9, rfl, dv, hz5, f5, t5, n5⟩); all_goals (first | (have n55 := t5.1; simp only [nx_set] at n55; have g5 : Grow h H5 := ⟨by omega, fun j hj => (t5.2 j (by simp only [nx_set]; omega) qo qo).trans ((get_setq qo).trans qs)⟩; have hnz : NBt H4.next H5.next H5 (fldZ (hdZ bs) (rdN 4 (rdN 8 (rdN 4 (rdN 4 (bs, 0)).2).2).2).2 dv).dv (fldZ (hdZ bs) (rdN 4 (rdN 8 (rdN 4 (rdN 4 (bs, 0)).2).2).2).2 dv).data := (by rcases Decidable.em ((hdZ bs).kind = 5) with q | q; (rw [(fld_5 q).1, (fld_5 q).2]; exact (n5 q).le (by simp only [nx_set]; omega)); (rw [(fld_dv q).1, (fld_dv q).2]; exact .inl ⟨rfl, rfl⟩)); have hbz := hnz.at) | skip))
      | (refine Runs.call (r_End f5) ?_; rintro _ _ ⟨rfl, rfl⟩)
      | fail); all_goals ((try (have gn := gr.1; try simp only [nx_alloc, nx_set] at gn)); (try (have an := ha.num; try simp only [nx_alloc, nx_set, own_sl, own_nil] at an)); (try (have on := hO.num; try simp only [nx_alloc, nx_set] at on)); (try (have kn := hk.1; try simp only [nx_alloc, nx_set] at kn)); try have hB := hO.at)))
  all_goals try (first
    | (refine hK _ _ ?_; (first | (refine ⟨qg, { zC with client := (rdN 4 (bs, 0)).1 % 256, inc := (rdN 4 (rdN 4 (bs, 0)).2).1, seq := (rdN 8 (rdN 4 (rdN 4 (bs, 0)).2).2).1 }, ?_, ?_, .inl ⟨rfl, rfl⟩⟩; (unfold readE hdS; rw [if_pos (by assumption)]; rfl); (intro q; exfalso; unfold readE hdS at q; rw [if_pos (by assumption)] at q; contradiction)) | (refine ⟨qg, hdZ bs, ?_, ?_, .inl ⟨rfl, rfl⟩⟩; (unfold readE; rw [if_neg (by unfold hdS; omega), if_neg (by rw [hk9]; decide)]; rfl); (intro q; exfalso; unfold readE at q; rw [if_neg (by unfold hdS; omega), if_neg (by rw [hk9]; decide)] at q; cases q)) | (refine ⟨qg, fldZ (hdZ bs) (hdS bs) dv, ?_, fun _ => fld_en rfl, ?_⟩; (unfold readE; rw [if_neg (by unfold hdS; omega), if_pos hk9]; rfl); (simp only [nx_set]; exact (hnz.keep (fun j a b => get_setq qo)).le qo)) | fail); done)
    | fail)
end Go.Proofs.YtpoccinfeekdhaaDoor.Ya
