/-
  The law's contract where the two tables of unicode/utf8 are laid.
-/
import Derived.Lib.LaidU8
import Derived.Shelf.Unicode.DecodeSlow
import Derived.Test.YtpoccinfeekdhaaDoorYbG
namespace Go.Ya
set_option linter.unusedVariables false
set_option linter.unusedSimpArgs false
open Go.ChangeShapes Go.WideShapes Go.RowKit
theorem cell_lt {w : World} {b o : Nat} {v : Value} (h : w.cell? ⟨b, o, none⟩ = some v) : b < w.heap.size := by
  rcases Nat.lt_or_ge b w.heap.size with h' | h'
  · exact h'
  · simp [World.cell?, Array.getElem?_eq_none h'] at h
theorem tb_of {P : Program} {g3 g4 : Nat} {W : World} (e3 : P.globalNamed "unicode/utf8.first" = some g3) (e4 : P.globalNamed "unicode/utf8.acceptRanges" = some g4) (t : Lib.Utf8Tabs g3 g4 W) : Tb P (fun _ => none) emptyHeap W := fun h3 h4 q3 q4 => by
  rw [e3] at q3; cases q3
  rw [e4] at q4; cases q4
  exact ⟨⟨cell_lt (t.1 0 (by decide)), cell_lt (t.2 0 (by decide)).1⟩, ⟨(by rintro ⟨_, _, _, _, e, _⟩; cases e), (by rintro ⟨_, _, _, _, e, _⟩; cases e)⟩, t.1, t.2⟩
theorem str_short3 {μ : Mu} {zs : List AV} {vs : List Value} (h : Vs μ zs vs) {l : List Int} (hl : AV.str l ∈ zs) : l.length ≤ 9223372036854775807 := by
  obtain ⟨i, hi, e⟩ := List.mem_iff_getElem.1 hl
  obtain ⟨v, ev, hv⟩ := h.get (show zs[i]? = some (.str l) by rw [List.getElem?_eq_getElem hi, e])
  cases hv with
  | str _ s e1 e2 =>
    rw [← e1]
    simpa [bytesOf] using e2
theorem contract3 {H : Type} {enc : TypeId × Value → H} {P : Program} {X : Known} (hX : XOk P X) {SP : FuncId → Option SFunc} (hSP : Conv P SP) (hmix : P.follows .mixedOrders = true) (hl : laidOutB P = true) {f : FuncId} {fn : Func} {tb : TypeId} {s : ChangeSpec} (N k : Nat)
    (hts : ∀ t ∈ fn.params.toList, (inTy P k t && P.readableRec t && decide (t < P.types.size)) = true) (hres : fn.resultTypes = #[tb]) (htb : P.underlying tb = some .bool) (hvars : s.vars = [])
    (hs : ∀ ds : List (DataW H), ds.length = fn.params.toList.length → (s.fn H ds).results = [.lit (.bool true)] ∧ (s.fn H ds).args = ds ∧ (s.fn H ds).vars = [])
    (run : ∀ h zs, (∀ l, AV.str l ∈ zs → l.length ≤ 9223372036854775807) → argsT P N h k fn.params.toList zs → argsX P N k fn.params.toList emptyHeap zs h → ∃ n h', acall X SP n (.fn f) zs h = some (.bool true, h') ∨ (AV.bares zs = true ∧ acall X SP n (.fn f) zs emptyHeap = some (.bool true, h')))
    {apart fresh handsOn again : Bool} {W : World} {base : Nat} {args : Array Value} {ds gs : List (DataW H)} {before : List MemPlace}
    (hval : ∀ (j : Nat) t v, fn.params[j]? = some t → args[j]? = some v → Value.okWide P W .any base t v)
    (ht : Tb P (fun _ => none) emptyHeap W)
    (hW : DataW.Whole enc P fn.params.toList s.vars apart W args.toList ds gs before) (hb : bulks ds ≤ N) :
    Calls P f args W fun e W' => ∃ v, e = .returned v ∧ s.post enc P fn apart fresh handsOn again W args v W' := by
  have hW' := hW
  obtain ⟨p, q, hA, hV, rfl, hfz, hnd⟩ := hW
  rw [hvars] at hV
  obtain ⟨rfl, rfl⟩ := trodVars_none hV
  have hts' : ∀ t ∈ fn.params.toList, (inTy P k t = true ∧ P.readableRec t = true) ∧ t < P.types.size := fun t ht => by simpa using hts t ht
  have s0 := St.empty P W (ht)
  have n0 : NoOwn (fun _ => none) emptyHeap := by rintro b ⟨id, _, _, _, e, _⟩; cases e
  obtain ⟨μ, h, zs, _, _, st, no, hvs, hargs, hargx⟩ := take_args (N := N) (fun j t v e1 e2 => hval j t v (by simpa using e1) (by simpa using e2)) hA (fun t ht => (hts' t ht).1.1) hb s0 n0
  obtain ⟨n, h', hrun⟩ := run h zs (fun l hl => str_short3 hvs hl) hargs hargx
  have hcalls : ∃ h'', Calls P f args W (RetR P μ h W (.bool true) h'') := by
    rcases hrun with hrun | ⟨hba, hrun⟩
    · exact ⟨h', ((acall_calls hX hSP hmix n).1 f zs h _ h' hrun μ W args st hvs).2⟩
    · exact ⟨h, (forget hX hSP hmix hrun hba rfl h μ W args st hvs).2⟩
  obtain ⟨h'', hcalls⟩ := hcalls
  refine hcalls.mono fun e W' ⟨μ', v', he, hv, _, fr⟩ => ?_
  subst he
  cases hv
  have hbel : Below W.heap.size W W' := ⟨fr.os, fr.tape, fr.output, fr.size, fun b hb => fr.same b hb (no b)⟩
  have hlen : ds.length = fn.params.toList.length := trodAll_len hA
  obtain ⟨r1, r2, r3⟩ := hs (ds ++ []) (by simpa using hlen)
  have hlt := hW'.lt
  refine ⟨_, rfl, post_still (pa := p) (pv := []) hW' (fun b sp hd => ?_) (fun sp hsp => ?_) (fun sp hsp => ?_) rfl (hbel.frame _) (fun x hx b off e => ?_) ?_⟩
  · rw [r1, hres]
    exact trodAll_cons_mk (shut_bool htb _) trodAll_mk0
  · rw [r2, List.append_nil]
    exact still_args hl hbel (fun t ht => ⟨(hts' t ht).1.2, (hts' t ht).2⟩) hA (fun x hx => hlt x (by simp [hx])) (fun x hx => hsp x (by simp [hx]))
  · rw [r3, hvars]
    exact rfl
  · subst e
    exact hbel.frozen (hlt _ hx)
  · exact ok_one hres rfl (okWide_bool_mk htb _)
end Go.Ya
