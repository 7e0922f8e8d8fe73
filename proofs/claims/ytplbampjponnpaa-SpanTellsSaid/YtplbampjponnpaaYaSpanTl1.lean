/-
  Spans, law SpanTells: the run, put together.
-/
import Derived.Test.YtplbampjponnpaaYaSpanTl0
import Derived.Test.YtplbampjponnpaaYaSpanAdd
import Derived.Test.YtplbampjponnpaaYaSpanArgs
namespace Go.Proofs.Ytplbampjponnpaa.Ya
open Go.Ya Go.Ya.Span
set_option linter.unusedVariables false
set_option linter.unusedSimpArgs false
set_option maxRecDepth 100000
set_option maxHeartbeats 40000000


/-- The law's run. -/
theorem go3 (l : List Sp) (s : Sp) (at_ : Int) {h0 : Heap} {V : AV} (hV0 : SpAt h0 V l) (hw : SpW l) (u1 : U32 s.1) (u2 : U32 s.2) : ∃ h', xcall X1 tab (.fn 3) [V, .agg [.int .u32 s.1, .int .u32 s.2], .int .u32 at_] h0 = some (.bool true, h') := by
  have ga := Grow.alloc h0 (.cells [.int .u32 s.1, .int .u32 s.2] false)
  have hV := hV0.grow ga
  have hp := ga_new (h := h0) (o := .cells [.int .u32 s.1, .int .u32 s.2] false) rfl
  by_cases hl : l.length > 60
  · refine ⟨h0.alloc (.cells [.int .u32 s.1, .int .u32 s.2] false), ?_⟩
    rcases hV.cases with ⟨rfl, rfl⟩ | ⟨id, off, cap, ex, c, ro, rfl, _⟩
    · simp at hl
    rw [x_fn rfl t3]
    delta b3
    simp (disch := first | omega | (simp only [nx_alloc, nx_set] <;> omega) | (apply Rd.grow; assumption; repeat (first | exact Grow.refl _ | assumption | exact Grow.alloc _ _ | refine Grow.allocR ?_ _ | refine Grow.setR ?_ _ ?_ ?_ | omega | (simp only [nx_alloc, nx_set] <;> omega) | (apply Grow.trans; rotate_left; assumption) | fail)) | fail) only [note_false, Int.reduceBEq, Int.reduceBNe, x_drawn, l_nil, l_op, l_guard, l_some, l_true, l_false, l_draw, readsA, x_true, x_false, x_seq, x_ops, x_cond, x_skip, x_ret, x_exit, x_block, x_then, x_thenE, x_thenR, x_blockN, x_blockR, x_blockE, s_nil, s_op, s_guard, s_some, s_true, s_false, s_put, s_put0, s_opsR, s_ret, s_norm, aop, ev, evs, List.map_cons, List.map_nil, List.cons_append, List.nil_append, List.append_nil, List.replicate, List.take_succ_cons, List.take_zero, List.take_nil, List.drop_succ_cons, List.drop_zero, List.drop_nil, Nat.zero_add, Nat.add_zero, Nat.reduceAdd, Nat.reduceMul, Nat.reduceLeDiff, Bool.false_eq_true, and_self, List.length_cons, List.length_nil, List.set_cons_zero, List.set_cons_succ, List.getD_cons_zero, List.getD_cons_succ, wantedA, List.getElem?_cons_zero, List.getElem?_cons_succ, q_t, q_f, Bool.not_true, Bool.not_false, b_add, b_sub, b_mul, b_eql, b_neq, b_lss, b_leq, b_gtr, b_geq, b_and, b_or, b_xor, b_quo, b_rem, b_shl, b_shr, unA, Option.map_some, Option.map_none, resA, tupA, Int.reduceLT, not_false_eq_true, not_true_eq_false, decide_true, decide_false, f_bool, c_bool, f_int, c_int, f_str, c_str, f_nilptr, c_nilptr, f_ptr, c_ptr, f_nilsl, c_nilsl, f_slice, c_slice, f_nilmap, c_nilmap, f_map, c_map, f_nilf, c_nilf, f_func, c_func, f_yieldf, c_yieldf, f_nilif, c_nilif, f_iface, c_iface, c_agg, List.all_cons, List.all_nil, Bool.and_true, Bool.true_and, if_true, if_false, ite_true, ite_false, ga_new, ga_old, gs_new, gs_old, Heap.next_alloc, Heap.next_set, loadA, storeA, splice, fillA, d_t, d_f, i_t, i_f, beq_t, beq_f, bne_t, bne_f, w_i64, w_u64, w_u32, w_i32, w_u8, Int.toNat_natCast, n_sub1, n_add1, Nat.sub_zero, Nat.mul_one, Nat.one_mul, Nat.zero_mul, List.append_assoc, Option.bind_some, chkLog, same_cells, List.replicate_zero, List.flatten_nil, true_and, and_true, b_eqB, b_neB, b_eqS, b_neS, Bool.true_beq, Bool.false_beq, kindsOk, k_0, k_1, k_2, plainEq, Bool.bne_true, Bool.bne_false, beq_self_eq_true, bne_self_eq_false, Int.tdiv_eq_ediv_of_nonneg, Int.tmod_eq_emod_of_nonneg, List.length_nil, lives7]
    try rfl
  have hl' : l.length ≤ 60 := by omega
  unfold U32 at u1 u2
  have gb := Grow.alloc (h0.alloc (.cells [.int .u32 s.1, .int .u32 s.2] false)) (.cells [] false)
  obtain ⟨own, H, e0, g0, f0, hO, hOb⟩ := cat_rd (bytes := 8) (l := []) (m := l) (enc := spA) (fun _ => rfl) (ga_new (h := h0.alloc (.cells [.int .u32 s.1, .int .u32 s.2] false)) (o := .cells [] false) rfl) (hV.grow gb) (by simp; omega)
  simp only [List.length_nil, nx_alloc, List.nil_append] at e0 hO hOb
  have gH : Grow h0 H := (ga.trans gb).trans g0
  have hVH := hV0.grow gH
  have hpH := (gb.trans g0).get hp
  obtain ⟨va, h1, e1, g1, m1⟩ := x8 l s hO (by omega)
  have hp1 := g1.get hpH
  obtain ⟨vb, h2, e2, g2, m2⟩ := x9 l s (hVH.grow g1) (by omega)
  have hp2 := g2.get hp1
  obtain ⟨vc, h3, e3, g3, m3⟩ := x10 l s ((hO.grow g1).grow g2) (by omega)
  have hp3 := g3.get hp2
  obtain ⟨vd, h4, e4, g4, m4⟩ := x11 l s (((hVH.grow g1).grow g2).grow g3) (by omega)
  have hp4 := g4.get hp3
  have gH4 : Grow H h4 := ((g1.trans g2).trans g3).trans g4
  have la : (if (decide (s.1 ≤ s.2) && mayP l) = true then addP l s else []).length ≤ 1000 := by
    split
    · have h1 := gather_len' (withP (restP l s) s)
      have h2 : (withP (restP l s) s).length ≤ (restP l s).length + 1 := withG_len' s _ _
      have h3 := rest_len l s
      unfold addP; omega
    · simp
  have lc : (if (decide (s.1 ≤ s.2) && mayP l) = true then cutP l s else []).length ≤ 1000 := by
    split
    · have h1 := gather_len' (restP l s)
      have h3 := rest_len l s
      unfold cutP; omega
    · simp
  have f12a := x12 _ _ (m1.rd.grow ((g2.trans g3).trans g4)) (m2.rd.grow (g3.trans g4)) (by omega) (by omega)
  have f12b := x12 _ _ (m3.rd.grow g4) m4.rd (by omega) (by omega)
  rw [decide_eq_true rfl] at f12a f12b
  have hO4 := hO.grow gH4
  have hV4 := hVH.grow gH4
  obtain ⟨h5, e5, g5⟩ := x13e l hO4 (by omega)
  have e5b := x14 l (hV4.grow g5) (by omega)
  obtain ⟨h6, e6, g6⟩ := x15e l (at_ := at_) (hO4.grow g5) (by omega)
  have e6b := x16 l (at_ := at_) ((hV4.grow g5).grow g6) (by omega)
  have hp6 := (g5.trans g6).get hp4
  obtain ⟨h7, e7, g7⟩ := x17e l s ((hO4.grow g5).grow g6) (by omega)
  have hp7 := g7.get hp6
  have e7b := x18e l s (((hV4.grow g5).grow g6).grow g7) (by omega)
  have g8 := Grow.alloc h7 (.cells [.int .u32 s.1, .int .u32 s.2] false)
  obtain ⟨h9, e9, g9⟩ := x19e l hw ((((hO4.grow g5).grow g6).grow g7).grow g8) (by omega)
  have e9b := x20 l hw (((((hV4.grow g5).grow g6).grow g7).grow g8).grow g9) (by omega)
  have hp9 := (g8.trans g9).get hp7
  obtain ⟨vp, h10, e10, g10, m10⟩ := x22 s h9 u1.1 u2.2
  have hp10 := g10.get hp9
  obtain ⟨vq, h11, e11, g11, m11⟩ := x23 s h10 u1.1
  have lp : (pagesP s).length ≤ 1000 := by
    unfold pagesP
    split
    · simp
    · rw [pgs_len]; unfold pgN; omega
  have f21 := x21 _ _ (m10.rd.grow g11) m11.rd (by omega) (by omega)
  rw [decide_eq_true rfl] at f21
  have g411 : Grow h4 h11 := (((((g5.trans g6).trans g7).trans g8).trans g9).trans g10).trans g11
  obtain ⟨tmA, hsA, hrunA⟩ : ∃ tmA, Sh3a V own va vc 0 tmA ∧ xcall X1 tab (.fn 3) [V, .agg [.int .u32 s.1, .int .u32 s.2], .int .u32 at_] h0 = retR [.tmp 6] (thenX X1 tab 3 none REST3 (code_block 0 (xcode X1 tab 3 none (.loop L3_0) tmA h11))) := by
    rcases hV0.cases with ⟨rfl, rfl⟩ | ⟨_, _, _, _, _, _, rfl, _⟩
    · exact mid3n (n := 0) (id := 0) (off := 0) (cap := 0) (ex := true) (by omega) hp e0 hpH e1 hp1 e2 hp2 e3 hp3 e4 hp4 f12a f12b e5 e5b e6 e6b hp6 e7 hp7 e7b e9 e9b hp9 e10 hp10 e11 f21
    · exact mid3s (by omega) hp e0 hpH e1 hp1 e2 hp2 e3 hp3 e4 hp4 f12a f12b e5 e5b e6 e6b hp6 e7 hp7 e7b e9 e9b hp9 e10 hp10 e11 f21
  have ma4 := m1.grow (((g2.trans g3).trans g4).trans g411)
  obtain ⟨tmA', h12, i1, eA, hsA', n12, k12⟩ := spoil0 ma4 (by simpa using Nat.le_trans la (by omega)) hsA
  obtain ⟨tmB, hsB, hrunB⟩ := mid3b (h := h12) hsA'
  have n1 := g1.1
  have n2 := g2.1
  have hdis : ∀ j, slB vc j → ¬ slB va j := fun j hc ha => by
    obtain ⟨_, _, _, _, _, hc⟩ := hc
    obtain ⟨_, _, _, _, _, ha⟩ := ha
    have q1 := (m3.lt hc).1
    have q2 := (m1.lt ha).2
    omega
  have mc12 : Mine 2 h2.next h12 vc ((if (decide (s.1 ≤ s.2) && mayP l) = true then cutP l s else []).map spA) := (m3.grow (g4.trans g411)).keep (by omega) fun b x m c e z hs => k12 b (hdis b ⟨_, _, _, _, _, hs⟩)
  obtain ⟨tmC, h13, i2, eC, hsC, n13, k13⟩ := spoil1 mc12 (by simpa using Nat.le_trans lc (by omega)) hsB
  have hO13 : SpAt h13 own l := (hO.grow (gH4.trans g411)).keep fun id o n c e z hs _ => by
    have q1 := sp_lt hO hs
    rw [k13 id fun ⟨_, _, _, _, _, hc⟩ => by
      have q2 := (m3.lt hc).1
      omega, k12 id fun ⟨_, _, _, _, _, ha⟩ => by
      have q2 := (m1.lt ha).1
      omega]
  have hV13 : SpAt h13 V l := (hVH.grow (gH4.trans g411)).keep fun id o n c e z hs _ => by
    have q1 := sp_lt hVH hs
    rw [k13 id fun ⟨_, _, _, _, _, hc⟩ => by
      have q2 := (m3.lt hc).1
      omega, k12 id fun ⟨_, _, _, _, _, ha⟩ => by
      have q2 := (m1.lt ha).1
      omega]
  have e12 := x12 _ _ hO13 hV13 (by omega) (by omega)
  rw [decide_eq_true rfl] at e12
  refine ⟨h13, ?_⟩
  rw [hrunA, eA, hrunB, eC]
  exact mid3c hsC e12
theorem run3 (M : Nat) : ∀ h xs, argsT Try.prog M h 5 Try.f3.params.toList xs → argsX Try.prog M 5 Try.f3.params.toList emptyHeap xs h →
    ∃ n h', acall X1 tab n (.fn 3) xs h = some (.bool true, h') ∨ (AV.bares xs = true ∧ acall X1 tab n (.fn 3) xs emptyHeap = some (.bool true, h')) := by
  intro h xs _ hx
  rw [Try.params3] at hx
  obtain ⟨a, _, h1, rfl, ha, hx⟩ := argsX_cons hx
  obtain ⟨b, _, h2, rfl, hb, hx⟩ := argsX_cons hx
  obtain ⟨c, _, h3, rfl, hc, hx⟩ := argsX_cons hx
  obtain ⟨rfl, rfl⟩ := argsX_nil hx
  obtain ⟨l, hV, hw, _⟩ := arg_spans ha
  obtain ⟨s, rfl, w1, w2, rfl⟩ := arg_span hb
  obtain ⟨n, rfl, w3, rfl⟩ := arg_u32 hc
  obtain ⟨h', e⟩ := go3 l s n hV hw w1 w2
  exact ranX e
end Go.Proofs.Ytplbampjponnpaa.Ya

