/-
  The law RpcOnce: for every input of bulk at most 1048576 it answers true, and each argument reads as it read before; the two tables of unicode/utf8 stand as the row lists them, and the card ties them to the program's text.
-/
import Derived.Test.YtpoccinfeekdhaaDoorCards
import Derived.Test.YtpoccinfeekdhaaDoorTie
import Derived.WalkKit
import Derived.ProofKit
import Derived.OpenShut
import Derived.Deep.DeepHandedRow
import Derived.Lib.LaidTab
import Derived.Lib.LaidU8
import Derived.JoinedCond
import Derived.Test.YtpoccinfeekdhaaDoorYaRpC
import Derived.Test.YtpoccinfeekdhaaDoorYbL
import Derived.Test.YtpoccinfeekdhaaDoorYaLaid
namespace Go.Proofs.YtpoccinfeekdhaaDoor.RpcOnce
open Go.ChangeShapes Go.WideShapes Go.ChangeAt Go.RowKit Go.Shelf
set_option linter.unusedVariables false
set_option maxRecDepth 100000
theorem own : ownKnob Tryd.prog.godebug = none := by kernel_rfl
theorem said0 (H : Type) : ∀ ds : List (DataW H), ds.length = Tryd.f3.params.toList.length → (Rows.rpcOnceSpec.fn H ds).results = [.lit (.bool true)] ∧ (Rows.rpcOnceSpec.fn H ds).args = ds ∧ (Rows.rpcOnceSpec.fn H ds).vars = [] := by
  intro ds h
  rw [Tryd.params3] at h
  match ds, h with
  | [d0, d1], _ => exact ⟨rfl, rfl, rfl⟩
mutual
theorem bulk_eq {H : Type} : ∀ d : DataW H, Rows.uptoBulk d = Go.Ya.bulk d
  | .lit (.string _) => rfl
  | .lit (.bool _) => rfl
  | .lit (.int ..) => rfl
  | .lit (.float ..) => rfl
  | .lit .nil => rfl
  | .nil => rfl
  | .ptr d => by simp [Rows.uptoBulk, Go.Ya.bulk, bulk_eq d]
  | .slice elems spare => by simp [Rows.uptoBulk, Go.Ya.bulk, bulks_eq elems, bulks_eq spare]
  | .agg parts => by simp [Rows.uptoBulk, Go.Ya.bulk, bulks_eq parts]
  | .iface _ d => by simp [Rows.uptoBulk, Go.Ya.bulk, bulk_eq d]
  | .map entries => by simp [Rows.uptoBulk, Go.Ya.bulk, bulkEs_eq entries]
  | .held _ => rfl
theorem bulks_eq {H : Type} : ∀ ds : List (DataW H), Rows.uptoBulkAll ds = Go.Ya.bulks ds
  | [] => rfl
  | d :: r => by simp [Rows.uptoBulkAll, Go.Ya.bulks, bulk_eq d, bulks_eq r]
theorem bulkEs_eq {H : Type} : ∀ es : List (Lit × DataW H), Rows.uptoBulkEntries es = Go.Ya.bulkEs es
  | [] => rfl
  | x :: r => by simp [Rows.uptoBulkEntries, Go.Ya.bulkEs, bulkE_eq x, bulkEs_eq r]
theorem bulkE_eq {H : Type} : ∀ x : Lit × DataW H, Rows.uptoBulkEntry x = Go.Ya.bulkE x
  | (.string _, d) => by simp [Rows.uptoBulkEntry, Go.Ya.bulkE, bulk_eq d]
  | (.bool _, d) => by simp [Rows.uptoBulkEntry, Go.Ya.bulkE, bulk_eq d]
  | (.int .., d) => by simp [Rows.uptoBulkEntry, Go.Ya.bulkE, bulk_eq d]
  | (.float .., d) => by simp [Rows.uptoBulkEntry, Go.Ya.bulkE, bulk_eq d]
  | (.nil, d) => by simp [Rows.uptoBulkEntry, Go.Ya.bulkE, bulk_eq d]
end
theorem u8x : U8Extra Tryd.prog Tryd.lays197_ren := { n3 := by kernel_rfl, n4 := by kernel_rfl, y3 := by kernel_rfl, y4 := by kernel_rfl, c5 := by kernel_rfl, c119 := by kernel_rfl, c138 := by kernel_rfl }
theorem first_eq : Rows.laid_unicode_utf8_first = Lib.firstData := by kernel_rfl
theorem accept_eq : (Rows.laid_unicode_utf8_acceptRanges : DataW Unit) = Lib.acceptData := by kernel_rfl
theorem tables {W : World} (h : laidMet Tryd.prog Rows.rpcOnceUptoRow.laid W) : Lib.Utf8Tabs (Tryd.lays197_ren.g 3) (Tryd.lays197_ren.g 4) W :=
  utf8Tabs_of_reads { Tryd.lays197 with } u8x (by rw [← first_eq]; exact Lib.laidMet.reads h (by simp [Rows.rpcOnceUptoRow])) (by rw [← accept_eq]; exact Lib.laidMet.reads h (by simp [Rows.rpcOnceUptoRow]))
def layAt (cs : Array Value) : Obj → Obj
  | .cells _ t frozen => .cells cs t frozen
  | o => o
def firstV : Array Value := ((List.range 256).map fun c => Value.int .u8 (Lib.firstT c)).toArray
def accV : Array Value := ((List.range 16).flatMap fun i => [Value.int .u8 (Lib.accLo i), Value.int .u8 (Lib.accHi i)]).toArray
noncomputable def laidWorld (os : Os) : World :=
  { World.holding Tryd.prog os ⟨#[], #[], []⟩ with heap := Array.modify (Array.modify (World.holding Tryd.prog os ⟨#[], #[], []⟩).heap (Tryd.lays197_ren.g 3) (layAt firstV)) (Tryd.lays197_ren.g 4) (layAt accV) }
theorem laid_met (os : Os) : laidMet Tryd.prog Rows.rpcOnceUptoRow.laid ((laidWorld os).forCall (fun _ _ => 0) ⟨#[], #[.agg #[.int .u8 0, .int .u32 0, .int .u64 0, .int .u8 0, .int .u32 0, .int .u32 0, .string ⟨#[]⟩, .int .u32 0, .int .u32 0, .string ⟨#[]⟩, .int .u32 0, .int .u32 0, .slice none 0 0], .int .u16 0], []⟩).memory :=
  laidMet_of_run' 8 (by kernel_rfl) (by kernel_rfl)
theorem reads (os : Os) {H : Type} (enc : TypeId × Value → H) : ∃ places, DataW.whole enc Tryd.prog ((laidWorld os).forCall (fun _ _ => 0) ⟨#[], #[.agg #[.int .u8 0, .int .u32 0, .int .u64 0, .int .u8 0, .int .u32 0, .int .u32 0, .string ⟨#[]⟩, .int .u32 0, .int .u32 0, .string ⟨#[]⟩, .int .u32 0, .int .u32 0, .slice none 0 0], .int .u16 0], []⟩).memory Tryd.f3.params.toList Rows.rpcOnceSpec.vars false (#[.agg #[.int .u8 0, .int .u32 0, .int .u64 0, .int .u8 0, .int .u32 0, .int .u32 0, .string ⟨#[]⟩, .int .u32 0, .int .u32 0, .string ⟨#[]⟩, .int .u32 0, .int .u32 0, .slice none 0 0], .int .u16 0] : Array Value).toList 8 = some ([.agg [.lit (.int .u8 0), .lit (.int .u32 0), .lit (.int .u64 0), .lit (.int .u8 0), .agg [.lit (.int .u32 0), .lit (.int .u32 0)], .lit (.string []), .agg [.lit (.int .u32 0), .lit (.int .u32 0)], .lit (.string []), .lit (.int .u32 0), .lit (.int .u32 0), .nil], .lit (.int .u16 0)], [], places) :=
  ⟨[], by kernel_rfl⟩
theorem lifted (os : Os) (started : os.Started) (H : Type) (enc : TypeId × Value → H) (F : Stop.Interp) :
    ReturnsInHanded {} Tryd.checked os 3 .any ((Rows.OpenSpec.upto Rows.rpcOnceSpec).preRow enc Tryd.prog Tryd.f3 Rows.rpcOnceUptoRow.domain false Rows.rpcOnceUptoRow.laid) (((Rows.OpenSpec.upto Rows.rpcOnceSpec).at F).post enc Tryd.prog Tryd.f3 false true false false) := by
  obtain ⟨places, hx⟩ := reads os enc
  refine returnsInHanded_of_row (C := Tryd.checked) (s := Rows.OpenSpec.upto Rows.rpcOnceSpec) own started (by kernel_rfl) Tryd.func3
    (witness_row_at (enc := enc) (C := Tryd.checked) false (laidWorld os) #[.agg #[.int .u8 0, .int .u32 0, .int .u64 0, .int .u8 0, .int .u32 0, .int .u32 0, .string ⟨#[]⟩, .int .u32 0, .int .u32 0, .string ⟨#[]⟩, .int .u32 0, .int .u32 0, .slice none 0 0], .int .u16 0] rfl (by kernel_rfl) (by kernel_rfl) (by kernel_rfl)
      (OpenSpec.preRow_of_cond 8 hx (by kernel_rfl) (fun k hk => by cases hk; kernel_rfl) (by kernel_rfl) (laid_met os))) ?_
  intro W base args ds gs before hval hW _ hcond _ hL _ _
  have hb : Rows.uptoBulkAll (ds ++ gs) ≤ 1048576 := of_decide_eq_true (hcond _ rfl)
  rw [bulks_eq] at hb
  have hb : Go.Ya.bulks ds ≤ 1048576 := Nat.le_trans (Go.Ya.bulks_le ds gs) hb
  exact Go.Ya.contract3 (P := Tryd.prog) Ya.x1ok Ya.conv Ya.mixed Ya.laid 1048576 6 (List.all_eq_true.1 (by kernel_rfl : Tryd.f3.params.toList.all (fun t => Go.Ya.inTy Tryd.prog 6 t && Tryd.prog.readableRec t && decide (t < Tryd.prog.types.size)) = true)) (by kernel_rfl : Tryd.f3.resultTypes = #[4]) Tryd.underlying4 rfl (said0 H) (Ya.run_Once 1048576 (Nat.le_refl _)) hval (Go.Ya.tb_of (by kernel_rfl) (by kernel_rfl) (tables hL)) hW hb
theorem said : Rows.RpcOnceUptoSaid :=
  OpenClaim.holds_of_cond 3 Tryd.f3 rfl rfl rfl rfl rfl rfl rfl ⟨rfl, rfl, rfl, rfl, rfl⟩ rfl rfl rfl rfl rfl (by kernel_rfl) Tryd.func3 (by kernel_rfl)
    (of_decide_eq_true (by kernel_rfl)) (by unfold Func.isWrapper; first | (rw [if_pos (by decide +kernel)]; kernel_rfl) | (rw [if_neg (by decide +kernel)]; exact ⟨rfl, rfl⟩))
    (fun os started H enc _ F => by rw [OpenClaim.pre_eq_preRow]; exact lifted os started H enc F)
theorem plain (f : FuncId) (fn : Func) (hf : Tryd.pinned.checked.prog.funcNamed "wharfage/wharfagelaw20.RpcOnce" = some f) (hfn : Tryd.pinned.checked.prog.funcs[f]? = some fn) :
    true = Tryd.pinned.checked.prog.looks [] ∧ ∀ (j : Nat) t, fn.params[j]? = some t → Tryd.pinned.checked.prog.wantsStandIn t = false := by
  obtain rfl : f = 3 := Option.some.inj ((show Tryd.prog.funcNamed "wharfage/wharfagelaw20.RpcOnce" = some 3 by kernel_rfl).symm.trans hf) |>.symm
  obtain rfl : fn = Tryd.f3 := (Option.some.inj (Tryd.func3.symm.trans hfn)).symm
  refine ⟨by kernel_rfl, fun j t ht => ?_⟩
  rw [Tryd.params3] at ht
  have hm := Array.mem_of_getElem? ht
  simp only [List.mem_toArray, List.mem_cons, List.not_mem_nil, or_false] at hm
  rcases hm with rfl | rfl
  · exact (show Tryd.prog.wantsStandIn 28 = false by kernel_rfl)
  · exact (show Tryd.prog.wantsStandIn 29 = false by kernel_rfl)
theorem proved : Rows.RpcOnceUptoCardSaid :=
  Claim7.holds_tied_plain_at .later [] _ _ _ _ said (fun _ h => by cases h) (by kernel_rfl) (fun _ h => by cases h) rpcOnceUpto_row_tie rfl ⟨rfl, rfl⟩ (by kernel_rfl) rfl plain (by kernel_rfl)
end Go.Proofs.YtpoccinfeekdhaaDoor.RpcOnce
