/-
  num's Zero and xdr's Reader: each walked once, for any table that has them.
-/
import Derived.Test.YtndcokalnpnbgaaYaGet
namespace Go.Ya
set_option linter.unusedVariables false
set_option linter.unusedSimpArgs false
set_option maxRecDepth 100000
set_option maxHeartbeats 4000000

def zero1S : SFunc := ⟨5, [.tmp 2], .seq (.ops [⟨some 2, .mov (.c (.bool false)), none⟩]) (.seq (.ops [⟨some 3, .mov (.t 0), none⟩, ⟨some 4, .bin (.gtr) (.other) (.t 3) (.c (.int (.u8) 0)), none⟩, ⟨some 2, .mov (.t 4), none⟩]) (.ret))⟩
def idxB : SC := (.seq (.ops [⟨some 9, .bin (.lss) (.other) (.t 8) (.t 7), none⟩]) (.seq (.cond (.t 9) (.skip) (.exit 0)) (.seq (.block 1 (.seq (.ops [⟨some 10, .mov (.t 8), none⟩, ⟨some 5, .mov (.t 10), none⟩]) (.seq (.ops [⟨some 11, .mov (.t 1), none⟩, ⟨some 12, .mov (.t 0), none⟩, ⟨some 13, .mov (.t 5), none⟩, ⟨some 14, .idxAddrSl 1 (.t 12) (.t 13), none⟩, ⟨some 15, .load false 1 (.t 14), none⟩, ⟨some 16, .callV (.t 11) [.t 15], none⟩]) (.cond (.t 16) (.seq (.ops [⟨some 17, .mov (.t 5), none⟩, ⟨some 4, .mov (.t 17), none⟩]) (.ret)) (.skip))))) (.ops [⟨some 18, .bin (.add) (.other) (.t 8) (.c (.int (.i64) 1)), none⟩, ⟨some 8, .mov (.t 18), none⟩]))))
def idxS : SFunc := ⟨19, [.tmp 4], .seq (.ops [⟨some 4, .mov (.c (.int (.i64) 0)), none⟩]) (.seq (.seq (.ops [⟨some 6, .mov (.t 0), none⟩, ⟨some 7, .len (.sl) (.t 6), none⟩, ⟨some 8, .mov (.c (.int (.i64) 0)), none⟩]) (.block 0 (.loop idxB))) (.seq (.ops [⟨some 4, .mov (.c (.int (.i64) (-1))), none⟩]) (.ret)))⟩
def contS (idx : FuncId) : SFunc := ⟨9, [.tmp 4], .seq (.ops [⟨some 4, .mov (.c (.bool false)), none⟩]) (.seq (.ops [⟨some 5, .mov (.t 0), none⟩, ⟨some 6, .mov (.t 1), none⟩, ⟨some 7, .call idx [.t 5, .t 6], none⟩, ⟨some 8, .bin (.geq) (.other) (.t 7) (.c (.int (.i64) 0)), none⟩, ⟨some 4, .mov (.t 8), none⟩]) (.ret))⟩
def zeroS (cont zero1 : FuncId) : SFunc := ⟨35, [.tmp 6], .seq (.ops [⟨some 6, .mov (.c (.int (.i64) 0)), none⟩]) (.seq (.block 0 (.seq (.ops [⟨some 8, .mov (.t 1), none⟩, ⟨some 9, .bin (.lss) (.other) (.t 8) (.c (.int (.i64) 0)), none⟩, ⟨some 10, .mov (.t 9), none⟩, ⟨some 11, .mov (.t 1), some (10, false)⟩, ⟨some 12, .mov (.t 0), some (10, false)⟩, ⟨some 13, .len (.sl) (.t 12), some (10, false)⟩, ⟨some 14, .bin (.gtr) (.other) (.t 11) (.t 13), some (10, false)⟩, ⟨some 15, .pick (.t 10) (.c (.bool true)) (.t 14), none⟩, ⟨some 16, .mov (.t 15), none⟩, ⟨some 17, .mov (.t 2), some (16, false)⟩, ⟨some 18, .bin (.lss) (.other) (.t 17) (.c (.int (.i64) 0)), some (16, false)⟩, ⟨some 19, .pick (.t 16) (.c (.bool true)) (.t 18), none⟩, ⟨some 7, .mov (.t 19), none⟩]) (.cond (.t 7) (.seq (.ops [⟨some 6, .mov (.c (.int (.i64) 2)), none⟩]) (.ret)) (.seq (.ops [⟨some 21, .mov (.t 0), none⟩, ⟨some 22, .len (.sl) (.t 21), none⟩, ⟨some 23, .mov (.t 1), none⟩, ⟨some 24, .bin (.sub) (.other) (.t 22) (.t 23), none⟩, ⟨some 25, .mov (.t 2), none⟩, ⟨some 26, .bin (.lss) (.other) (.t 24) (.t 25), none⟩, ⟨some 20, .mov (.t 26), none⟩]) (.cond (.t 20) (.seq (.ops [⟨some 6, .mov (.c (.int (.i64) 4)), none⟩]) (.ret)) (.seq (.ops [⟨some 28, .mov (.t 0), none⟩, ⟨some 29, .mov (.t 1), none⟩, ⟨some 30, .mov (.t 1), none⟩, ⟨some 31, .mov (.t 2), none⟩, ⟨some 32, .bin (.add) (.other) (.t 30) (.t 31), none⟩, ⟨some 33, .slice 1 (.t 28) (some (.t 29)) (some (.t 32)) none, none⟩, ⟨some 34, .call cont [.t 33, .c (.func zero1 [] [])], none⟩, ⟨some 27, .mov (.t 34), none⟩]) (.cond (.t 27) (.seq (.ops [⟨some 6, .mov (.c (.int (.i64) 5)), none⟩]) (.ret)) (.skip)))))))) (.seq (.ops [⟨some 6, .mov (.c (.int (.i64) 0)), none⟩]) (.ret)))⟩
def noneS : SFunc := ⟨12, [.tmp 2], .seq (.ops [⟨some 2, .mov (.c (.bool false)), none⟩]) (.seq (.ops [⟨some 3, .mov (.t 0), none⟩, ⟨some 4, .bin (.eql) (.ptr) (.t 3) (.c (.nilptr)), none⟩, ⟨some 5, .mov (.t 4), none⟩, ⟨some 6, .mov (.t 0), some (5, false)⟩, ⟨some 7, .nilChk (.t 6), some (5, false)⟩, ⟨some 8, .fieldAddr 2 (.t 7), some (5, false)⟩, ⟨some 9, .load false 1 (.t 8), some (5, false)⟩, ⟨some 10, .un (.not) (.t 9), some (5, false)⟩, ⟨some 11, .pick (.t 5) (.c (.bool true)) (.t 10), none⟩, ⟨some 2, .mov (.t 11), none⟩]) (.ret))⟩
def fineS (none_ : FuncId) : SFunc := ⟨13, [.tmp 2], .seq (.ops [⟨some 2, .mov (.c (.bool false)), none⟩]) (.seq (.ops [⟨some 3, .mov (.t 0), none⟩, ⟨some 4, .call none_ [.t 3], none⟩, ⟨some 5, .un (.not) (.t 4), none⟩, ⟨some 6, .mov (.t 5), none⟩, ⟨some 7, .mov (.t 0), some (6, true)⟩, ⟨some 8, .nilChk (.t 7), some (6, true)⟩, ⟨some 9, .fieldAddr 1 (.t 8), some (6, true)⟩, ⟨some 10, .load false 1 (.t 9), some (6, true)⟩, ⟨some 11, .bin (.eql) (.other) (.t 10) (.c (.int (.i64) 0)), some (6, true)⟩, ⟨some 12, .pick (.t 6) (.t 11) (.c (.bool false)), none⟩, ⟨some 2, .mov (.t 12), none⟩]) (.ret))⟩
def failS (fine : FuncId) : SFunc := ⟨15, [], .seq (.ops [⟨some 6, .mov (.t 0), none⟩, ⟨some 7, .call fine [.t 6], none⟩, ⟨some 8, .mov (.t 7), none⟩, ⟨some 9, .mov (.t 1), some (8, true)⟩, ⟨some 10, .pick (.t 8) (.t 9) (.c (.bool false)), none⟩]) (.cond (.t 10) (.ops [⟨some 11, .mov (.t 0), none⟩, ⟨some 12, .mov (.t 2), none⟩, ⟨some 13, .nilChk (.t 11), none⟩, ⟨some 14, .fieldAddr 1 (.t 13), none⟩, ⟨none, .store 1 (.t 14) (.t 12), none⟩]) (.skip))⟩
def rdnumS (fine get : FuncId) : SFunc := ⟨35, [.tmp 4], .seq (.ops [⟨some 4, .mov (.c (.int (.u64) 0)), none⟩]) (.seq (.seq (.ops [⟨some 7, .mov (.t 0), none⟩, ⟨some 8, .call fine [.t 7], none⟩, ⟨some 9, .un (.not) (.t 8), none⟩]) (.cond (.t 9) (.seq (.ops [⟨some 4, .mov (.c (.int (.u64) 0)), none⟩]) (.ret)) (.skip))) (.seq (.ops [⟨some 11, .mov (.t 0), none⟩, ⟨some 12, .nilChk (.t 11), none⟩, ⟨some 13, .fieldAddr 0 (.t 12), none⟩, ⟨some 14, .load false 1 (.t 13), none⟩, ⟨some 15, .mov (.t 1), none⟩, ⟨some 16, .call get [.t 14, .c (.int (.i64) 0), .t 15], none⟩, ⟨some 10, .mov (.t 16), none⟩, ⟨some 17, .extract (.t 10) 0, none⟩, ⟨some 18, .extract (.t 10) 1, none⟩, ⟨some 5, .mov (.t 17), none⟩, ⟨some 6, .mov (.t 18), none⟩]) (.seq (.seq (.ops [⟨some 19, .mov (.t 6), none⟩, ⟨some 20, .bin (.neq) (.other) (.t 19) (.c (.int (.i64) 0)), none⟩]) (.cond (.t 20) (.seq (.ops [⟨some 21, .mov (.t 0), none⟩, ⟨some 22, .mov (.t 6), none⟩, ⟨some 23, .nilChk (.t 21), none⟩, ⟨some 24, .fieldAddr 1 (.t 23), none⟩, ⟨none, .store 1 (.t 24) (.t 22), none⟩]) (.seq (.ops [⟨some 4, .mov (.c (.int (.u64) 0)), none⟩]) (.ret))) (.skip))) (.seq (.ops [⟨some 25, .mov (.t 0), none⟩, ⟨some 26, .mov (.t 0), none⟩, ⟨some 27, .nilChk (.t 26), none⟩, ⟨some 28, .fieldAddr 0 (.t 27), none⟩, ⟨some 29, .load false 1 (.t 28), none⟩, ⟨some 30, .mov (.t 1), none⟩, ⟨some 31, .slice 1 (.t 29) (some (.t 30)) none none, none⟩, ⟨some 32, .nilChk (.t 25), none⟩, ⟨some 33, .fieldAddr 0 (.t 32), none⟩, ⟨none, .store 1 (.t 33) (.t 31), none⟩]) (.seq (.ops [⟨some 34, .mov (.t 5), none⟩, ⟨some 4, .mov (.t 34), none⟩]) (.ret))))))⟩
def rdNumberS (rdnum : FuncId) : SFunc := ⟨6, [.tmp 2], .seq (.ops [⟨some 2, .mov (.c (.int (.u32) 0)), none⟩]) (.seq (.ops [⟨some 3, .mov (.t 0), none⟩, ⟨some 4, .call rdnum [.t 3, .c (.int (.i64) 4)], none⟩, ⟨some 5, .convInt (.u32) (.t 4), none⟩, ⟨some 2, .mov (.t 5), none⟩]) (.ret))⟩
def rdGreatS (rdnum : FuncId) : SFunc := ⟨5, [.tmp 2], .seq (.ops [⟨some 2, .mov (.c (.int (.u64) 0)), none⟩]) (.seq (.ops [⟨some 3, .mov (.t 0), none⟩, ⟨some 4, .call rdnum [.t 3, .c (.int (.i64) 8)], none⟩, ⟨some 2, .mov (.t 4), none⟩]) (.ret))⟩
def rdTruthS (rdNumber fail : FuncId) : SFunc := ⟨12, [.tmp 2], .seq (.ops [⟨some 2, .mov (.c (.bool false)), none⟩]) (.seq (.ops [⟨some 4, .mov (.t 0), none⟩, ⟨some 5, .call rdNumber [.t 4], none⟩, ⟨some 3, .mov (.t 5), none⟩]) (.seq (.ops [⟨some 6, .mov (.t 0), none⟩, ⟨some 7, .mov (.t 3), none⟩, ⟨some 8, .bin (.gtr) (.other) (.t 7) (.c (.int (.u32) 1)), none⟩, ⟨some 9, .call fail [.t 6, .t 8, .c (.int (.i64) 5)], none⟩]) (.seq (.ops [⟨some 10, .mov (.t 3), none⟩, ⟨some 11, .bin (.eql) (.other) (.t 10) (.c (.int (.u32) 1)), none⟩, ⟨some 2, .mov (.t 11), none⟩]) (.ret))))⟩
def rdBytesS (rdNumber fail fine pad zer clone : FuncId) : SFunc := ⟨73, [.tmp 4], .seq (.ops [⟨some 4, .mov (.c (.nilsl)), none⟩]) (.seq (.ops [⟨some 9, .mov (.t 0), none⟩, ⟨some 10, .call rdNumber [.t 9], none⟩, ⟨some 11, .convInt (.u64) (.t 10), none⟩, ⟨some 5, .mov (.t 11), none⟩]) (.seq (.ops [⟨some 12, .mov (.t 0), none⟩, ⟨some 13, .mov (.t 5), none⟩, ⟨some 14, .mov (.t 1), none⟩, ⟨some 15, .max (.t 14) [.c (.int (.i64) 0)], none⟩, ⟨some 16, .convInt (.u64) (.t 15), none⟩, ⟨some 17, .bin (.gtr) (.other) (.t 13) (.t 16), none⟩, ⟨some 18, .call fail [.t 12, .t 17, .c (.int (.i64) 3)], none⟩]) (.seq (.seq (.ops [⟨some 19, .mov (.t 0), none⟩, ⟨some 20, .call fine [.t 19], none⟩, ⟨some 21, .un (.not) (.t 20), none⟩]) (.cond (.t 21) (.seq (.ops [⟨some 4, .mov (.c (.nilsl)), none⟩]) (.ret)) (.skip))) (.seq (.ops [⟨some 22, .mov (.t 5), none⟩, ⟨some 23, .convInt (.i64) (.t 22), none⟩, ⟨some 24, .mov (.t 5), none⟩, ⟨some 25, .convInt (.i64) (.t 24), none⟩, ⟨some 26, .call pad [.t 25], none⟩, ⟨some 6, .mov (.t 23), none⟩, ⟨some 7, .mov (.t 26), none⟩]) (.seq (.ops [⟨some 27, .mov (.t 0), none⟩, ⟨some 28, .mov (.t 0), none⟩, ⟨some 29, .nilChk (.t 28), none⟩, ⟨some 30, .fieldAddr 0 (.t 29), none⟩, ⟨some 31, .load false 1 (.t 30), none⟩, ⟨some 32, .len (.sl) (.t 31), none⟩, ⟨some 33, .mov (.t 6), none⟩, ⟨some 34, .mov (.t 7), none⟩, ⟨some 35, .bin (.add) (.other) (.t 33) (.t 34), none⟩, ⟨some 36, .bin (.lss) (.other) (.t 32) (.t 35), none⟩, ⟨some 37, .call fail [.t 27, .t 36, .c (.int (.i64) 4)], none⟩]) (.seq (.seq (.ops [⟨some 38, .mov (.t 0), none⟩, ⟨some 39, .call fine [.t 38], none⟩, ⟨some 40, .un (.not) (.t 39), none⟩]) (.cond (.t 40) (.seq (.ops [⟨some 4, .mov (.c (.nilsl)), none⟩]) (.ret)) (.skip))) (.seq (.ops [⟨some 41, .mov (.t 0), none⟩, ⟨some 42, .mov (.t 0), none⟩, ⟨some 43, .nilChk (.t 42), none⟩, ⟨some 44, .fieldAddr 0 (.t 43), none⟩, ⟨some 45, .load false 1 (.t 44), none⟩, ⟨some 46, .mov (.t 6), none⟩, ⟨some 47, .mov (.t 7), none⟩, ⟨some 48, .call zer [.t 45, .t 46, .t 47], none⟩, ⟨some 49, .bin (.neq) (.other) (.t 48) (.c (.int (.i64) 0)), none⟩, ⟨some 50, .call fail [.t 41, .t 49, .c (.int (.i64) 5)], none⟩]) (.seq (.seq (.ops [⟨some 51, .mov (.t 0), none⟩, ⟨some 52, .call fine [.t 51], none⟩, ⟨some 53, .un (.not) (.t 52), none⟩]) (.cond (.t 53) (.seq (.ops [⟨some 4, .mov (.c (.nilsl)), none⟩]) (.ret)) (.skip))) (.seq (.ops [⟨some 54, .mov (.t 0), none⟩, ⟨some 55, .nilChk (.t 54), none⟩, ⟨some 56, .fieldAddr 0 (.t 55), none⟩, ⟨some 57, .load false 1 (.t 56), none⟩, ⟨some 58, .mov (.t 6), none⟩, ⟨some 59, .slice 1 (.t 57) none (some (.t 58)) none, none⟩, ⟨some 60, .call clone [.t 59], none⟩, ⟨some 8, .mov (.t 60), none⟩]) (.seq (.ops [⟨some 61, .mov (.t 0), none⟩, ⟨some 62, .mov (.t 0), none⟩, ⟨some 63, .nilChk (.t 62), none⟩, ⟨some 64, .fieldAddr 0 (.t 63), none⟩, ⟨some 65, .load false 1 (.t 64), none⟩, ⟨some 66, .mov (.t 6), none⟩, ⟨some 67, .mov (.t 7), none⟩, ⟨some 68, .bin (.add) (.other) (.t 66) (.t 67), none⟩, ⟨some 69, .slice 1 (.t 65) (some (.t 68)) none none, none⟩, ⟨some 70, .nilChk (.t 61), none⟩, ⟨some 71, .fieldAddr 0 (.t 70), none⟩, ⟨none, .store 1 (.t 71) (.t 69), none⟩]) (.seq (.ops [⟨some 72, .mov (.t 8), none⟩, ⟨some 4, .mov (.t 72), none⟩]) (.ret))))))))))))⟩
def rdErrorS (none_ : FuncId) : SFunc := ⟨9, [.tmp 2], .seq (.ops [⟨some 2, .mov (.c (.int (.i64) 0)), none⟩]) (.seq (.seq (.ops [⟨some 3, .mov (.t 0), none⟩, ⟨some 4, .call none_ [.t 3], none⟩]) (.cond (.t 4) (.seq (.ops [⟨some 2, .mov (.c (.int (.i64) 4)), none⟩]) (.ret)) (.skip))) (.seq (.ops [⟨some 5, .mov (.t 0), none⟩, ⟨some 6, .nilChk (.t 5), none⟩, ⟨some 7, .fieldAddr 1 (.t 6), none⟩, ⟨some 8, .load false 1 (.t 7), none⟩, ⟨some 2, .mov (.t 8), none⟩]) (.ret)))⟩
def rdEndS (fine rdError : FuncId) : SFunc := ⟨15, [.tmp 2], .seq (.ops [⟨some 2, .mov (.c (.int (.i64) 0)), none⟩]) (.seq (.seq (.ops [⟨some 3, .mov (.t 0), none⟩, ⟨some 4, .call fine [.t 3], none⟩, ⟨some 5, .mov (.t 4), none⟩, ⟨some 6, .mov (.t 0), some (5, true)⟩, ⟨some 7, .nilChk (.t 6), some (5, true)⟩, ⟨some 8, .fieldAddr 0 (.t 7), some (5, true)⟩, ⟨some 9, .load false 1 (.t 8), some (5, true)⟩, ⟨some 10, .len (.sl) (.t 9), some (5, true)⟩, ⟨some 11, .bin (.gtr) (.other) (.t 10) (.c (.int (.i64) 0)), some (5, true)⟩, ⟨some 12, .pick (.t 5) (.t 11) (.c (.bool false)), none⟩]) (.cond (.t 12) (.seq (.ops [⟨some 2, .mov (.c (.int (.i64) 5)), none⟩]) (.ret)) (.skip))) (.seq (.ops [⟨some 13, .mov (.t 0), none⟩, ⟨some 14, .call rdError [.t 13], none⟩, ⟨some 2, .mov (.t 14), none⟩]) (.ret)))⟩
def newRdS (clone : FuncId) : SFunc := ⟨7, [.tmp 2], .seq (.ops [⟨some 2, .mov (.c (.nilptr)), none⟩]) (.seq (.ops [⟨some 3, .mov (.t 0), none⟩, ⟨some 4, .call clone [.t 3], none⟩, ⟨some 5, .build [.nilsl, .int (.i64) 0, .bool false] [(0, 1, .t 4), (2, 1, .c (.bool true))], none⟩, ⟨some 6, .box (.t 5), none⟩, ⟨some 2, .mov (.t 6), none⟩]) (.ret))⟩

/-- A table that has xdr's Reader. -/
structure XdrR (X : Known) (SP : FuncId → Option SFunc) extends GetW X SP where
  zero1 : FuncId
  idx : FuncId
  cont : FuncId
  zero : FuncId
  none_ : FuncId
  fine : FuncId
  fail : FuncId
  rdnum : FuncId
  rdNumber : FuncId
  rdGreat : FuncId
  rdTruth : FuncId
  rdBytes : FuncId
  rdError : FuncId
  rdEnd : FuncId
  newRd : FuncId
  clone2 : FuncId
  kx4 : ∀ f args h, f = zero1 ∨ f = idx ∨ f = cont ∨ f = zero ∨ f = none_ ∨ f = fine ∨ f = fail ∨ f = rdnum ∨ f = rdNumber ∨ f = rdGreat ∨ f = rdTruth ∨ f = rdBytes ∨ f = rdError ∨ f = rdEnd ∨ f = newRd ∨ f = clone2 → X f args h = none
  s23 : SP zero1 = some zero1S
  s24 : SP idx = some idxS
  s25 : SP cont = some (contS idx)
  s26 : SP zero = some (zeroS cont zero1)
  s27 : SP none_ = some noneS
  s28 : SP fine = some (fineS none_)
  s29 : SP fail = some (failS fine)
  s30 : SP rdnum = some (rdnumS fine get)
  s31 : SP rdNumber = some (rdNumberS rdnum)
  s32 : SP rdGreat = some (rdGreatS rdnum)
  s33 : SP rdTruth = some (rdTruthS rdNumber fail)
  s34 : SP rdBytes = some (rdBytesS rdNumber fail fine pad zero clone2)
  s35 : SP rdError = some (rdErrorS none_)
  s36 : SP rdEnd = some (rdEndS fine rdError)
  s37 : SP newRd = some (newRdS clone2)
  s38 : SP clone2 = some cloneS

section
variable {X : Known} {SP : FuncId → Option SFunc} (W : XdrR X SP)
theorem XdrR.zero1_spec (c : Int) (h : Heap) : xcall X SP (.fn W.zero1) [.int .u8 c] h = some (.bool (decide (c > 0)), h) := by
  rw [x_fn (W.kx4 _ _ _ (by simp)) W.s23]
  simp (decide := true) only [note_false, Int.reduceBEq, Int.reduceBNe, x_drawn, l_nil, l_op, l_guard, l_some, l_true, l_false, l_draw, readsA, x_true, x_false, x_seq, x_ops, x_cond, x_skip, x_ret, x_exit, x_block, x_then, x_thenE, x_thenR, x_blockN, x_blockR, x_blockE, s_nil, s_op, s_guard, s_some, s_true, s_false, s_put, s_put0, s_opsR, s_ret, s_norm, aop, ev, evs, List.map_cons, List.map_nil, List.cons_append, List.nil_append, List.append_nil, List.replicate, List.take_succ_cons, List.take_zero, List.take_nil, List.drop_succ_cons, List.drop_zero, List.drop_nil, Nat.zero_add, Nat.add_zero, Nat.reduceAdd, Nat.reduceMul, Nat.reduceLeDiff, Bool.false_eq_true, and_self, List.length_cons, List.length_nil, List.set_cons_zero, List.set_cons_succ, List.getD_cons_zero, List.getD_cons_succ, wantedA, List.getElem?_cons_zero, List.getElem?_cons_succ, q_t, q_f, Bool.not_true, Bool.not_false, b_add, b_sub, b_mul, b_eql, b_neq, b_lss, b_leq, b_gtr, b_geq, b_and, b_or, b_xor, b_quo, b_rem, b_shl, b_shr, unA, Option.map_some, Option.map_none, resA, tupA, Int.reduceLT, not_false_eq_true, not_true_eq_false, decide_true, decide_false, f_bool, c_bool, f_int, c_int, f_str, c_str, f_nilptr, c_nilptr, f_ptr, c_ptr, f_nilsl, c_nilsl, f_slice, c_slice, f_nilmap, c_nilmap, f_map, c_map, f_nilf, c_nilf, f_func, c_func, f_yieldf, c_yieldf, f_nilif, c_nilif, f_iface, c_iface, c_agg, List.all_cons, List.all_nil, Bool.and_true, Bool.true_and, if_true, if_false, ite_true, ite_false]
def pos (c : Int) : Bool := decide (c > 0)
def IxT (v : AV) (z n i : Nat) (tm : List AV) : Prop := tm.length = 19 ∧ tm[0]? = some v ∧ tm[1]? = some (.func z [] []) ∧ tm[7]? = some (.int .i64 (n : Nat)) ∧ tm[8]? = some (.int .i64 (i : Nat))
theorem XdrR.idx_round {f : FuncId} {id off cap i : Nat} {ex ro : Bool} {bs : List Int} {c : List AV} {h : Heap} {tm : List AV} (ht : IxT (.slice id off bs.length cap ex 1) W.zero1 bs.length i tm) (hi : i < bs.length) (hg : h.get id = some (.cells c ro)) (hct : (c.drop off).take bs.length = ints bs) (hbl : bs.length ≤ 9223372036854775807) (hp : pos bs[i] = false) :
    ∃ tm', xcode X SP f none (.loop idxB) tm h = xcode X SP f none (.loop idxB) tm' h ∧ IxT (.slice id off bs.length cap ex 1) W.zero1 bs.length (i + 1) tm' := by
  have hc0 : c[off + i]? = some (.int .u8 bs[i]) := by
    have : ((c.drop off).take bs.length)[i]? = (ints bs)[i]? := by rw [hct]
    rw [List.getElem?_take, if_pos hi, List.getElem?_drop] at this
    rw [this]; simp [ints, hi]
  generalize bs[i] = x at *
  match tm, ht with
  | a0 :: a1 :: a2 :: a3 :: a4 :: a5 :: a6 :: a7 :: a8 :: a9 :: a10 :: a11 :: a12 :: a13 :: a14 :: a15 :: a16 :: a17 :: a18 :: [], ht =>
  obtain ⟨_, t0, t1, t7, t8⟩ := ht
  simp only [List.getElem?_cons_zero, List.getElem?_cons_succ, Option.some.injEq] at t0 t1 t7 t8
  replace t0 := t0.symm; replace t1 := t1.symm; replace t7 := t7.symm; replace t8 := t8.symm
  subst t0 t1 t7 t8
  have Lc : loadA h false 1 id (off + i) = some (.int .u8 x) := by rw [load_of hg]; exact hc0
  have hlt : (i : Int) < (bs.length : Int) := by omega
  have hix : (0 : Int) ≤ (i : Int) ∧ (i : Int) < (bs.length : Int) := by omega
  have hin : (i : Int).toNat * 1 = i := by omega
  have hw : IntKind.i64.wrap ((i : Int) + 1) = ((i + 1 : Nat) : Int) := by rw [IntWalk.i64_in _ (by omega)]; simp
  have hz := W.zero1_spec x h
  rw [show decide (x > 0) = false from hp] at hz
  refine ⟨?tm, ?run, ?sh⟩
  case run =>
    rw [show ∀ tm h, xcode X SP f none (.loop idxB) tm h = thenX X SP f none (.loop idxB) (xcode X SP f none idxB tm h) from fun _ _ => x_loop]
    delta idxB
    simp (decide := true) only [note_false, Int.reduceBEq, Int.reduceBNe, x_drawn, l_nil, l_op, l_guard, l_some, l_true, l_false, l_draw, readsA, x_true, x_false, x_seq, x_ops, x_cond, x_skip, x_ret, x_exit, x_block, x_then, x_thenE, x_thenR, x_blockN, x_blockR, x_blockE, s_nil, s_op, s_guard, s_some, s_true, s_false, s_put, s_put0, s_opsR, s_ret, s_norm, aop, ev, evs, List.map_cons, List.map_nil, List.cons_append, List.nil_append, List.append_nil, List.replicate, List.take_succ_cons, List.take_zero, List.take_nil, List.drop_succ_cons, List.drop_zero, List.drop_nil, Nat.zero_add, Nat.add_zero, Nat.reduceAdd, Nat.reduceMul, Nat.reduceLeDiff, Bool.false_eq_true, and_self, List.length_cons, List.length_nil, List.set_cons_zero, List.set_cons_succ, List.getD_cons_zero, List.getD_cons_succ, wantedA, List.getElem?_cons_zero, List.getElem?_cons_succ, q_t, q_f, Bool.not_true, Bool.not_false, b_add, b_sub, b_mul, b_eql, b_neq, b_lss, b_leq, b_gtr, b_geq, b_and, b_or, b_xor, b_quo, b_rem, b_shl, b_shr, unA, Option.map_some, Option.map_none, resA, tupA, Int.reduceLT, not_false_eq_true, not_true_eq_false, decide_true, decide_false, f_bool, c_bool, f_int, c_int, f_str, c_str, f_nilptr, c_nilptr, f_ptr, c_ptr, f_nilsl, c_nilsl, f_slice, c_slice, f_nilmap, c_nilmap, f_map, c_map, f_nilf, c_nilf, f_func, c_func, f_yieldf, c_yieldf, f_nilif, c_nilif, f_iface, c_iface, c_agg, List.all_cons, List.all_nil, Bool.and_true, Bool.true_and, if_true, if_false, ite_true, ite_false, hlt, hix, hin, Lc, hz, hw]
    rfl
  case sh => exact ⟨rfl, rfl, rfl, rfl, rfl⟩
theorem XdrR.idx_hit {f : FuncId} {id off cap i : Nat} {ex ro : Bool} {bs : List Int} {c : List AV} {h : Heap} {tm : List AV} (ht : IxT (.slice id off bs.length cap ex 1) W.zero1 bs.length i tm) (hi : i < bs.length) (hg : h.get id = some (.cells c ro)) (hct : (c.drop off).take bs.length = ints bs) (hp : pos bs[i] = true) :
    ∃ tm', xcode X SP f none (.loop idxB) tm h = some (.ret, tm', h) ∧ tm'.getD 4 undefA = .int .i64 (i : Nat) := by
  have hc0 : c[off + i]? = some (.int .u8 bs[i]) := by
    have : ((c.drop off).take bs.length)[i]? = (ints bs)[i]? := by rw [hct]
    rw [List.getElem?_take, if_pos hi, List.getElem?_drop] at this
    rw [this]; simp [ints, hi]
  generalize bs[i] = x at *
  match tm, ht with
  | a0 :: a1 :: a2 :: a3 :: a4 :: a5 :: a6 :: a7 :: a8 :: a9 :: a10 :: a11 :: a12 :: a13 :: a14 :: a15 :: a16 :: a17 :: a18 :: [], ht =>
  obtain ⟨_, t0, t1, t7, t8⟩ := ht
  simp only [List.getElem?_cons_zero, List.getElem?_cons_succ, Option.some.injEq] at t0 t1 t7 t8
  replace t0 := t0.symm; replace t1 := t1.symm; replace t7 := t7.symm; replace t8 := t8.symm
  subst t0 t1 t7 t8
  have Lc : loadA h false 1 id (off + i) = some (.int .u8 x) := by rw [load_of hg]; exact hc0
  have hlt : (i : Int) < (bs.length : Int) := by omega
  have hix : (0 : Int) ≤ (i : Int) ∧ (i : Int) < (bs.length : Int) := by omega
  have hin : (i : Int).toNat * 1 = i := by omega
  have hz := W.zero1_spec x h
  rw [show decide (x > 0) = true from hp] at hz
  refine ⟨?tm, ?run, ?sh⟩
  case run =>
    rw [show ∀ tm h, xcode X SP f none (.loop idxB) tm h = thenX X SP f none (.loop idxB) (xcode X SP f none idxB tm h) from fun _ _ => x_loop]
    delta idxB
    simp (decide := true) only [note_false, Int.reduceBEq, Int.reduceBNe, x_drawn, l_nil, l_op, l_guard, l_some, l_true, l_false, l_draw, readsA, x_true, x_false, x_seq, x_ops, x_cond, x_skip, x_ret, x_exit, x_block, x_then, x_thenE, x_thenR, x_blockN, x_blockR, x_blockE, s_nil, s_op, s_guard, s_some, s_true, s_false, s_put, s_put0, s_opsR, s_ret, s_norm, aop, ev, evs, List.map_cons, List.map_nil, List.cons_append, List.nil_append, List.append_nil, List.replicate, List.take_succ_cons, List.take_zero, List.take_nil, List.drop_succ_cons, List.drop_zero, List.drop_nil, Nat.zero_add, Nat.add_zero, Nat.reduceAdd, Nat.reduceMul, Nat.reduceLeDiff, Bool.false_eq_true, and_self, List.length_cons, List.length_nil, List.set_cons_zero, List.set_cons_succ, List.getD_cons_zero, List.getD_cons_succ, wantedA, List.getElem?_cons_zero, List.getElem?_cons_succ, q_t, q_f, Bool.not_true, Bool.not_false, b_add, b_sub, b_mul, b_eql, b_neq, b_lss, b_leq, b_gtr, b_geq, b_and, b_or, b_xor, b_quo, b_rem, b_shl, b_shr, unA, Option.map_some, Option.map_none, resA, tupA, Int.reduceLT, not_false_eq_true, not_true_eq_false, decide_true, decide_false, f_bool, c_bool, f_int, c_int, f_str, c_str, f_nilptr, c_nilptr, f_ptr, c_ptr, f_nilsl, c_nilsl, f_slice, c_slice, f_nilmap, c_nilmap, f_map, c_map, f_nilf, c_nilf, f_func, c_func, f_yieldf, c_yieldf, f_nilif, c_nilif, f_iface, c_iface, c_agg, List.all_cons, List.all_nil, Bool.and_true, Bool.true_and, if_true, if_false, ite_true, ite_false, hlt, hix, hin, Lc, hz]
    rfl
  case sh => rfl
theorem XdrR.idx_out {f : FuncId} {v : AV} {n z : Nat} {h : Heap} {tm : List AV} (ht : IxT v z n n tm) : ∃ tm', xcode X SP f none (.loop idxB) tm h = some (.exit 0, tm', h) ∧ tm'.length = 19 := by
  match tm, ht with
  | a0 :: a1 :: a2 :: a3 :: a4 :: a5 :: a6 :: a7 :: a8 :: a9 :: a10 :: a11 :: a12 :: a13 :: a14 :: a15 :: a16 :: a17 :: a18 :: [], ht =>
  obtain ⟨_, t0, t1, t7, t8⟩ := ht
  simp only [List.getElem?_cons_zero, List.getElem?_cons_succ, Option.some.injEq] at t0 t1 t7 t8
  replace t0 := t0.symm; replace t1 := t1.symm; replace t7 := t7.symm; replace t8 := t8.symm
  subst t0 t1 t7 t8
  refine ⟨?tm, ?run, ?sh⟩
  case run =>
    rw [show ∀ tm h, xcode X SP f none (.loop idxB) tm h = thenX X SP f none (.loop idxB) (xcode X SP f none idxB tm h) from fun _ _ => x_loop]
    delta idxB
    simp (decide := true) only [note_false, Int.reduceBEq, Int.reduceBNe, x_drawn, l_nil, l_op, l_guard, l_some, l_true, l_false, l_draw, readsA, x_true, x_false, x_seq, x_ops, x_cond, x_skip, x_ret, x_exit, x_block, x_then, x_thenE, x_thenR, x_blockN, x_blockR, x_blockE, s_nil, s_op, s_guard, s_some, s_true, s_false, s_put, s_put0, s_opsR, s_ret, s_norm, aop, ev, evs, List.map_cons, List.map_nil, List.cons_append, List.nil_append, List.append_nil, List.replicate, List.take_succ_cons, List.take_zero, List.take_nil, List.drop_succ_cons, List.drop_zero, List.drop_nil, Nat.zero_add, Nat.add_zero, Nat.reduceAdd, Nat.reduceMul, Nat.reduceLeDiff, Bool.false_eq_true, and_self, List.length_cons, List.length_nil, List.set_cons_zero, List.set_cons_succ, List.getD_cons_zero, List.getD_cons_succ, wantedA, List.getElem?_cons_zero, List.getElem?_cons_succ, q_t, q_f, Bool.not_true, Bool.not_false, b_add, b_sub, b_mul, b_eql, b_neq, b_lss, b_leq, b_gtr, b_geq, b_and, b_or, b_xor, b_quo, b_rem, b_shl, b_shr, unA, Option.map_some, Option.map_none, resA, tupA, Int.reduceLT, not_false_eq_true, not_true_eq_false, decide_true, decide_false, f_bool, c_bool, f_int, c_int, f_str, c_str, f_nilptr, c_nilptr, f_ptr, c_ptr, f_nilsl, c_nilsl, f_slice, c_slice, f_nilmap, c_nilmap, f_map, c_map, f_nilf, c_nilf, f_func, c_func, f_yieldf, c_yieldf, f_nilif, c_nilif, f_iface, c_iface, c_agg, List.all_cons, List.all_nil, Bool.and_true, Bool.true_and, if_true, if_false, ite_true, ite_false, Int.lt_irrefl]
    rfl
  case sh => rfl
theorem XdrR.idx_loop {f : FuncId} {id off cap : Nat} {ex ro : Bool} {bs : List Int} {c : List AV} {h : Heap} (hg : h.get id = some (.cells c ro)) (hct : (c.drop off).take bs.length = ints bs) (hbl : bs.length ≤ 9223372036854775807) : ∀ (d i : Nat) (tm : List AV), i + d = bs.length → IxT (.slice id off bs.length cap ex 1) W.zero1 bs.length i tm →
    ((bs.drop i).any pos = true ∧ ∃ tm' r, xcode X SP f none (.loop idxB) tm h = some (.ret, tm', h) ∧ tm'.getD 4 undefA = .int .i64 r ∧ 0 ≤ r) ∨ ((bs.drop i).any pos = false ∧ ∃ tm', xcode X SP f none (.loop idxB) tm h = some (.exit 0, tm', h) ∧ tm'.length = 19)
  | 0, i, tm, hd, ht => by
    have hi : i = bs.length := by omega
    subst hi
    obtain ⟨tm', e⟩ := XdrR.idx_out (X := X) (SP := SP) (f := f) (h := h) ht
    exact .inr ⟨by simp, tm', e⟩
  | d + 1, i, tm, hd, ht => by
    have hi : i < bs.length := by omega
    have hdr : bs.drop i = bs[i] :: bs.drop (i + 1) := List.drop_eq_getElem_cons hi
    cases hp : pos bs[i]
    · obtain ⟨tm', e, ht'⟩ := W.idx_round (f := f) ht hi hg hct hbl hp
      rw [hdr, List.any_cons, hp, Bool.false_or, e]
      exact XdrR.idx_loop hg hct hbl d (i + 1) tm' (by omega) ht'
    · obtain ⟨tm', e, e2⟩ := W.idx_hit (f := f) ht hi hg hct hp
      exact .inl ⟨by rw [hdr, List.any_cons, hp]; rfl, tm', i, e, e2, by omega⟩
theorem XdrR.cont_spec {v : AV} {bs : List Int} {h : Heap} (hb : BytesAt h v bs) (hbl : bs.length ≤ 9223372036854775807) : xcall X SP (.fn W.cont) [v, .func W.zero1 [] []] h = some (.bool (bs.any pos), h) := by
  have hidx : ∃ r, xcall X SP (.fn W.idx) [v, .func W.zero1 [] []] h = some (.int .i64 r, h) ∧ decide (r ≥ 0) = bs.any pos := by
    rcases hb with ⟨rfl, rfl⟩ | ⟨id, off, cap, ex, c, ro, rfl, hcap, hg, hle, hct⟩
    · refine ⟨-1, ?_, rfl⟩
      rw [x_fn (W.kx4 _ _ _ (by simp)) W.s24]
      simp (decide := true) only [note_false, Int.reduceBEq, Int.reduceBNe, x_drawn, l_nil, l_op, l_guard, l_some, l_true, l_false, l_draw, readsA, x_true, x_false, x_seq, x_ops, x_cond, x_skip, x_ret, x_exit, x_block, x_then, x_thenE, x_thenR, x_blockN, x_blockR, x_blockE, s_nil, s_op, s_guard, s_some, s_true, s_false, s_put, s_put0, s_opsR, s_ret, s_norm, aop, ev, evs, List.map_cons, List.map_nil, List.cons_append, List.nil_append, List.append_nil, List.replicate, List.take_succ_cons, List.take_zero, List.take_nil, List.drop_succ_cons, List.drop_zero, List.drop_nil, Nat.zero_add, Nat.add_zero, Nat.reduceAdd, Nat.reduceMul, Nat.reduceLeDiff, Bool.false_eq_true, and_self, List.length_cons, List.length_nil, List.set_cons_zero, List.set_cons_succ, List.getD_cons_zero, List.getD_cons_succ, wantedA, List.getElem?_cons_zero, List.getElem?_cons_succ, q_t, q_f, Bool.not_true, Bool.not_false, b_add, b_sub, b_mul, b_eql, b_neq, b_lss, b_leq, b_gtr, b_geq, b_and, b_or, b_xor, b_quo, b_rem, b_shl, b_shr, unA, Option.map_some, Option.map_none, resA, tupA, Int.reduceLT, not_false_eq_true, not_true_eq_false, decide_true, decide_false, f_bool, c_bool, f_int, c_int, f_str, c_str, f_nilptr, c_nilptr, f_ptr, c_ptr, f_nilsl, c_nilsl, f_slice, c_slice, f_nilmap, c_nilmap, f_map, c_map, f_nilf, c_nilf, f_func, c_func, f_yieldf, c_yieldf, f_nilif, c_nilif, f_iface, c_iface, c_agg, List.all_cons, List.all_nil, Bool.and_true, Bool.true_and, if_true, if_false, ite_true, ite_false]
      rw [show ∀ tm h, xcode X SP W.idx none (.loop idxB) tm h = thenX X SP W.idx none (.loop idxB) (xcode X SP W.idx none idxB tm h) from fun _ _ => x_loop]
      delta idxB
      simp (decide := true) only [note_false, Int.reduceBEq, Int.reduceBNe, x_drawn, l_nil, l_op, l_guard, l_some, l_true, l_false, l_draw, readsA, x_true, x_false, x_seq, x_ops, x_cond, x_skip, x_ret, x_exit, x_block, x_then, x_thenE, x_thenR, x_blockN, x_blockR, x_blockE, s_nil, s_op, s_guard, s_some, s_true, s_false, s_put, s_put0, s_opsR, s_ret, s_norm, aop, ev, evs, List.map_cons, List.map_nil, List.cons_append, List.nil_append, List.append_nil, List.replicate, List.take_succ_cons, List.take_zero, List.take_nil, List.drop_succ_cons, List.drop_zero, List.drop_nil, Nat.zero_add, Nat.add_zero, Nat.reduceAdd, Nat.reduceMul, Nat.reduceLeDiff, Bool.false_eq_true, and_self, List.length_cons, List.length_nil, List.set_cons_zero, List.set_cons_succ, List.getD_cons_zero, List.getD_cons_succ, wantedA, List.getElem?_cons_zero, List.getElem?_cons_succ, q_t, q_f, Bool.not_true, Bool.not_false, b_add, b_sub, b_mul, b_eql, b_neq, b_lss, b_leq, b_gtr, b_geq, b_and, b_or, b_xor, b_quo, b_rem, b_shl, b_shr, unA, Option.map_some, Option.map_none, resA, tupA, Int.reduceLT, not_false_eq_true, not_true_eq_false, decide_true, decide_false, f_bool, c_bool, f_int, c_int, f_str, c_str, f_nilptr, c_nilptr, f_ptr, c_ptr, f_nilsl, c_nilsl, f_slice, c_slice, f_nilmap, c_nilmap, f_map, c_map, f_nilf, c_nilf, f_func, c_func, f_yieldf, c_yieldf, f_nilif, c_nilif, f_iface, c_iface, c_agg, List.all_cons, List.all_nil, Bool.and_true, Bool.true_and, if_true, if_false, ite_true, ite_false]
    · have hT : IxT (.slice id off bs.length cap ex 1) W.zero1 bs.length 0 [.slice id off bs.length cap ex 1, .func W.zero1 [] [], undefA, undefA, .int .i64 0, undefA, .slice id off bs.length cap ex 1, .int .i64 (bs.length : Nat), .int .i64 0, undefA, undefA, undefA, undefA, undefA, undefA, undefA, undefA, undefA, undefA] := ⟨rfl, rfl, rfl, rfl, rfl⟩
      rcases W.idx_loop (f := W.idx) (h := h) hg hct hbl bs.length 0 _ (by omega) hT with ⟨h1, tm', r, e, e2, e3⟩ | ⟨h1, tm', e, el⟩
      · refine ⟨r, ?_, ?_⟩
        · rw [x_fn (W.kx4 _ _ _ (by simp)) W.s24]
          simp (decide := true) only [note_false, Int.reduceBEq, Int.reduceBNe, x_drawn, l_nil, l_op, l_guard, l_some, l_true, l_false, l_draw, readsA, x_true, x_false, x_seq, x_ops, x_cond, x_skip, x_ret, x_exit, x_block, x_then, x_thenE, x_thenR, x_blockN, x_blockR, x_blockE, s_nil, s_op, s_guard, s_some, s_true, s_false, s_put, s_put0, s_opsR, s_ret, s_norm, aop, ev, evs, List.map_cons, List.map_nil, List.cons_append, List.nil_append, List.append_nil, List.replicate, List.take_succ_cons, List.take_zero, List.take_nil, List.drop_succ_cons, List.drop_zero, List.drop_nil, Nat.zero_add, Nat.add_zero, Nat.reduceAdd, Nat.reduceMul, Nat.reduceLeDiff, Bool.false_eq_true, and_self, List.length_cons, List.length_nil, List.set_cons_zero, List.set_cons_succ, List.getD_cons_zero, List.getD_cons_succ, wantedA, List.getElem?_cons_zero, List.getElem?_cons_succ, q_t, q_f, Bool.not_true, Bool.not_false, b_add, b_sub, b_mul, b_eql, b_neq, b_lss, b_leq, b_gtr, b_geq, b_and, b_or, b_xor, b_quo, b_rem, b_shl, b_shr, unA, Option.map_some, Option.map_none, resA, tupA, Int.reduceLT, not_false_eq_true, not_true_eq_false, decide_true, decide_false, f_bool, c_bool, f_int, c_int, f_str, c_str, f_nilptr, c_nilptr, f_ptr, c_ptr, f_nilsl, c_nilsl, f_slice, c_slice, f_nilmap, c_nilmap, f_map, c_map, f_nilf, c_nilf, f_func, c_func, f_yieldf, c_yieldf, f_nilif, c_nilif, f_iface, c_iface, c_agg, List.all_cons, List.all_nil, Bool.and_true, Bool.true_and, if_true, if_false, ite_true, ite_false, e, e2]
        · rw [List.drop_zero] at h1; rw [h1]; simpa using e3
      · have htail : ∃ tm2, xcode X SP W.idx none (.seq (.ops [⟨some 4, .mov (.c (.int (.i64) (-1))), none⟩]) (.ret)) tm' h = some (.ret, tm2, h) ∧ tm2.getD 4 undefA = .int .i64 (-1) := by
          refine ⟨tm'.set 4 (.int .i64 (-1)), ?_, ?_⟩
          · simp only [note_false, Int.reduceBEq, Int.reduceBNe, x_drawn, l_nil, l_op, l_guard, l_some, l_true, l_false, l_draw, readsA, x_true, x_false, x_seq, x_ops, x_cond, x_skip, x_ret, x_exit, x_block, x_then, x_thenE, x_thenR, x_blockN, x_blockR, x_blockE, s_nil, s_op, s_guard, s_some, s_true, s_false, s_put, s_put0, s_opsR, s_ret, s_norm, aop, ev, evs, List.map_cons, List.map_nil, List.cons_append, List.nil_append, List.append_nil, List.replicate, List.take_succ_cons, List.take_zero, List.take_nil, List.drop_succ_cons, List.drop_zero, List.drop_nil, Nat.zero_add, Nat.add_zero, Nat.reduceAdd, Nat.reduceMul, Nat.reduceLeDiff, Bool.false_eq_true, and_self, List.length_cons, List.length_nil, List.set_cons_zero, List.set_cons_succ, List.getD_cons_zero, List.getD_cons_succ, wantedA, List.getElem?_cons_zero, List.getElem?_cons_succ, q_t, q_f, Bool.not_true, Bool.not_false, b_add, b_sub, b_mul, b_eql, b_neq, b_lss, b_leq, b_gtr, b_geq, b_and, b_or, b_xor, b_quo, b_rem, b_shl, b_shr, unA, Option.map_some, Option.map_none, resA, tupA, Int.reduceLT, not_false_eq_true, not_true_eq_false, decide_true, decide_false, f_bool, c_bool, f_int, c_int, f_str, c_str, f_nilptr, c_nilptr, f_ptr, c_ptr, f_nilsl, c_nilsl, f_slice, c_slice, f_nilmap, c_nilmap, f_map, c_map, f_nilf, c_nilf, f_func, c_func, f_yieldf, c_yieldf, f_nilif, c_nilif, f_iface, c_iface, c_agg, List.all_cons, List.all_nil, Bool.and_true, Bool.true_and, if_true, if_false, ite_true, ite_false]
          · rw [List.getD_eq_getElem?_getD, List.getElem?_set_self (by omega)]; rfl
        obtain ⟨tm2, e4, e5⟩ := htail
        refine ⟨-1, ?_, ?_⟩
        · rw [x_fn (W.kx4 _ _ _ (by simp)) W.s24]
          have e4' := e4
          simp (decide := true) only [note_false, Int.reduceBEq, Int.reduceBNe, x_drawn, l_nil, l_op, l_guard, l_some, l_true, l_false, l_draw, readsA, x_true, x_false, x_seq, x_ops, x_cond, x_skip, x_ret, x_exit, x_block, x_then, x_thenE, x_thenR, x_blockN, x_blockR, x_blockE, s_nil, s_op, s_guard, s_some, s_true, s_false, s_put, s_put0, s_opsR, s_ret, s_norm, aop, ev, evs, List.map_cons, List.map_nil, List.cons_append, List.nil_append, List.append_nil, List.replicate, List.take_succ_cons, List.take_zero, List.take_nil, List.drop_succ_cons, List.drop_zero, List.drop_nil, Nat.zero_add, Nat.add_zero, Nat.reduceAdd, Nat.reduceMul, Nat.reduceLeDiff, Bool.false_eq_true, and_self, List.length_cons, List.length_nil, List.set_cons_zero, List.set_cons_succ, List.getD_cons_zero, List.getD_cons_succ, wantedA, List.getElem?_cons_zero, List.getElem?_cons_succ, q_t, q_f, Bool.not_true, Bool.not_false, b_add, b_sub, b_mul, b_eql, b_neq, b_lss, b_leq, b_gtr, b_geq, b_and, b_or, b_xor, b_quo, b_rem, b_shl, b_shr, unA, Option.map_some, Option.map_none, resA, tupA, Int.reduceLT, not_false_eq_true, not_true_eq_false, decide_true, decide_false, f_bool, c_bool, f_int, c_int, f_str, c_str, f_nilptr, c_nilptr, f_ptr, c_ptr, f_nilsl, c_nilsl, f_slice, c_slice, f_nilmap, c_nilmap, f_map, c_map, f_nilf, c_nilf, f_func, c_func, f_yieldf, c_yieldf, f_nilif, c_nilif, f_iface, c_iface, c_agg, List.all_cons, List.all_nil, Bool.and_true, Bool.true_and, if_true, if_false, ite_true, ite_false] at e4'
          simp (decide := true) only [note_false, Int.reduceBEq, Int.reduceBNe, x_drawn, l_nil, l_op, l_guard, l_some, l_true, l_false, l_draw, readsA, x_true, x_false, x_seq, x_ops, x_cond, x_skip, x_ret, x_exit, x_block, x_then, x_thenE, x_thenR, x_blockN, x_blockR, x_blockE, s_nil, s_op, s_guard, s_some, s_true, s_false, s_put, s_put0, s_opsR, s_ret, s_norm, aop, ev, evs, List.map_cons, List.map_nil, List.cons_append, List.nil_append, List.append_nil, List.replicate, List.take_succ_cons, List.take_zero, List.take_nil, List.drop_succ_cons, List.drop_zero, List.drop_nil, Nat.zero_add, Nat.add_zero, Nat.reduceAdd, Nat.reduceMul, Nat.reduceLeDiff, Bool.false_eq_true, and_self, List.length_cons, List.length_nil, List.set_cons_zero, List.set_cons_succ, List.getD_cons_zero, List.getD_cons_succ, wantedA, List.getElem?_cons_zero, List.getElem?_cons_succ, q_t, q_f, Bool.not_true, Bool.not_false, b_add, b_sub, b_mul, b_eql, b_neq, b_lss, b_leq, b_gtr, b_geq, b_and, b_or, b_xor, b_quo, b_rem, b_shl, b_shr, unA, Option.map_some, Option.map_none, resA, tupA, Int.reduceLT, not_false_eq_true, not_true_eq_false, decide_true, decide_false, f_bool, c_bool, f_int, c_int, f_str, c_str, f_nilptr, c_nilptr, f_ptr, c_ptr, f_nilsl, c_nilsl, f_slice, c_slice, f_nilmap, c_nilmap, f_map, c_map, f_nilf, c_nilf, f_func, c_func, f_yieldf, c_yieldf, f_nilif, c_nilif, f_iface, c_iface, c_agg, List.all_cons, List.all_nil, Bool.and_true, Bool.true_and, if_true, if_false, ite_true, ite_false, e, e4', e5]
        · rw [List.drop_zero] at h1; rw [h1]; rfl
  obtain ⟨r, e, e2⟩ := hidx
  rw [x_fn (W.kx4 _ _ _ (by simp)) W.s25]
  simp (decide := true) only [note_false, Int.reduceBEq, Int.reduceBNe, x_drawn, l_nil, l_op, l_guard, l_some, l_true, l_false, l_draw, readsA, x_true, x_false, x_seq, x_ops, x_cond, x_skip, x_ret, x_exit, x_block, x_then, x_thenE, x_thenR, x_blockN, x_blockR, x_blockE, s_nil, s_op, s_guard, s_some, s_true, s_false, s_put, s_put0, s_opsR, s_ret, s_norm, aop, ev, evs, List.map_cons, List.map_nil, List.cons_append, List.nil_append, List.append_nil, List.replicate, List.take_succ_cons, List.take_zero, List.take_nil, List.drop_succ_cons, List.drop_zero, List.drop_nil, Nat.zero_add, Nat.add_zero, Nat.reduceAdd, Nat.reduceMul, Nat.reduceLeDiff, Bool.false_eq_true, and_self, List.length_cons, List.length_nil, List.set_cons_zero, List.set_cons_succ, List.getD_cons_zero, List.getD_cons_succ, wantedA, List.getElem?_cons_zero, List.getElem?_cons_succ, q_t, q_f, Bool.not_true, Bool.not_false, b_add, b_sub, b_mul, b_eql, b_neq, b_lss, b_leq, b_gtr, b_geq, b_and, b_or, b_xor, b_quo, b_rem, b_shl, b_shr, unA, Option.map_some, Option.map_none, resA, tupA, Int.reduceLT, not_false_eq_true, not_true_eq_false, decide_true, decide_false, f_bool, c_bool, f_int, c_int, f_str, c_str, f_nilptr, c_nilptr, f_ptr, c_ptr, f_nilsl, c_nilsl, f_slice, c_slice, f_nilmap, c_nilmap, f_map, c_map, f_nilf, c_nilf, f_func, c_func, f_yieldf, c_yieldf, f_nilif, c_nilif, f_iface, c_iface, c_agg, List.all_cons, List.all_nil, Bool.and_true, Bool.true_and, if_true, if_false, ite_true, ite_false, e, e2]

/-- Zero, where the place is there. -/
theorem XdrR.zero_spec {v : AV} {bs : List Int} {h : Heap} (hb : BytesAt h v bs) {at_ n : Nat} (hl : at_ + n ≤ bs.length) (hbl : bs.length ≤ 4611686018427387904) :
    xcall X SP (.fn W.zero) [v, .int .i64 (at_ : Nat), .int .i64 (n : Nat)] h = some (.int .i64 (if ((bs.drop at_).take n).any pos then 5 else 0), h) := by
  rw [x_fn (W.kx4 _ _ _ (by simp)) W.s26]
  have h1 : ¬ (at_ : Int) < 0 := by omega
  have h2 : ¬ (at_ : Int) > (bs.length : Int) := by omega
  have h3 : ¬ (n : Int) < 0 := by omega
  have w1 : IntKind.i64.wrap ((bs.length : Int) - at_) = bs.length - at_ := IntWalk.i64_in _ (by omega)
  have h4 : ¬ (bs.length : Int) - at_ < n := by omega
  have w2 : IntKind.i64.wrap ((at_ : Int) + n) = ((at_ + n : Nat) : Int) := by rw [IntWalk.i64_in _ (by omega)]; simp
  rcases hb with ⟨rfl, rfl⟩ | ⟨id, off, cap, ex, c, ro, rfl, hcap, hg, hle, hct⟩
  · simp only [List.length_nil] at hl
    obtain rfl : at_ = 0 := by omega
    obtain rfl : n = 0 := by omega
    have hc := W.cont_spec (v := .nilsl) (bs := []) (h := h) (.inl ⟨rfl, rfl⟩) (by simp)
    have hs0 : sliceA 1 .nilsl (some (.int .i64 0)) (some (.int .i64 0)) none = some .nilsl := rfl
    simp (decide := true) only [note_false, Int.reduceBEq, Int.reduceBNe, x_drawn, l_nil, l_op, l_guard, l_some, l_true, l_false, l_draw, readsA, x_true, x_false, x_seq, x_ops, x_cond, x_skip, x_ret, x_exit, x_block, x_then, x_thenE, x_thenR, x_blockN, x_blockR, x_blockE, s_nil, s_op, s_guard, s_some, s_true, s_false, s_put, s_put0, s_opsR, s_ret, s_norm, aop, ev, evs, List.map_cons, List.map_nil, List.cons_append, List.nil_append, List.append_nil, List.replicate, List.take_succ_cons, List.take_zero, List.take_nil, List.drop_succ_cons, List.drop_zero, List.drop_nil, Nat.zero_add, Nat.add_zero, Nat.reduceAdd, Nat.reduceMul, Nat.reduceLeDiff, Bool.false_eq_true, and_self, List.length_cons, List.length_nil, List.set_cons_zero, List.set_cons_succ, List.getD_cons_zero, List.getD_cons_succ, wantedA, List.getElem?_cons_zero, List.getElem?_cons_succ, q_t, q_f, Bool.not_true, Bool.not_false, b_add, b_sub, b_mul, b_eql, b_neq, b_lss, b_leq, b_gtr, b_geq, b_and, b_or, b_xor, b_quo, b_rem, b_shl, b_shr, unA, Option.map_some, Option.map_none, resA, tupA, Int.reduceLT, not_false_eq_true, not_true_eq_false, decide_true, decide_false, f_bool, c_bool, f_int, c_int, f_str, c_str, f_nilptr, c_nilptr, f_ptr, c_ptr, f_nilsl, c_nilsl, f_slice, c_slice, f_nilmap, c_nilmap, f_map, c_map, f_nilf, c_nilf, f_func, c_func, f_yieldf, c_yieldf, f_nilif, c_nilif, f_iface, c_iface, c_agg, List.all_cons, List.all_nil, Bool.and_true, Bool.true_and, if_true, if_false, ite_true, ite_false, Int.ofNat_zero, show IntKind.i64.wrap (0 - 0) = 0 from rfl, show IntKind.i64.wrap (0 + 0) = 0 from rfl, hs0, hc, List.any_nil]
  · have hs0 : sliceA 1 (.slice id off bs.length cap ex 1) (some (.int .i64 (at_ : Nat))) (some (.int .i64 ((at_ + n : Nat) : Int))) none = some (.slice id (off + at_) n (cap - at_) ex 1) := by
      have := bd_lh (k := .i64) (k' := .i64) (len := bs.length) (cap := cap) (i := at_) (j := at_ + n) (by omega) (by omega)
      simp only [sliceA, this, if_true, Nat.mul_one]
      simp
    have hbt : BytesAt h (.slice id (off + at_) n (cap - at_) ex 1) ((bs.drop at_).take n) := by
      have hlen : ((bs.drop at_).take n).length = n := by simp; omega
      refine .inr ⟨id, off + at_, cap - at_, ex, c, ro, by rw [hlen], by rw [hlen]; omega, hg, by rw [hlen]; omega, ?_⟩
      rw [hlen]
      have e1 : (c.drop (off + at_)).take n = (((c.drop off).take bs.length).drop at_).take n := by
        rw [List.drop_take, List.take_take, List.drop_drop, Nat.min_eq_left (by omega)]
      rw [e1, hct]; simp [ints, List.map_take, List.map_drop]
    have hc := W.cont_spec (h := h) hbt (by simp; omega)
    cases hz : ((bs.drop at_).take n).any pos
    · rw [hz] at hc
      simp (decide := true) only [note_false, Int.reduceBEq, Int.reduceBNe, x_drawn, l_nil, l_op, l_guard, l_some, l_true, l_false, l_draw, readsA, x_true, x_false, x_seq, x_ops, x_cond, x_skip, x_ret, x_exit, x_block, x_then, x_thenE, x_thenR, x_blockN, x_blockR, x_blockE, s_nil, s_op, s_guard, s_some, s_true, s_false, s_put, s_put0, s_opsR, s_ret, s_norm, aop, ev, evs, List.map_cons, List.map_nil, List.cons_append, List.nil_append, List.append_nil, List.replicate, List.take_succ_cons, List.take_zero, List.take_nil, List.drop_succ_cons, List.drop_zero, List.drop_nil, Nat.zero_add, Nat.add_zero, Nat.reduceAdd, Nat.reduceMul, Nat.reduceLeDiff, Bool.false_eq_true, and_self, List.length_cons, List.length_nil, List.set_cons_zero, List.set_cons_succ, List.getD_cons_zero, List.getD_cons_succ, wantedA, List.getElem?_cons_zero, List.getElem?_cons_succ, q_t, q_f, Bool.not_true, Bool.not_false, b_add, b_sub, b_mul, b_eql, b_neq, b_lss, b_leq, b_gtr, b_geq, b_and, b_or, b_xor, b_quo, b_rem, b_shl, b_shr, unA, Option.map_some, Option.map_none, resA, tupA, Int.reduceLT, not_false_eq_true, not_true_eq_false, decide_true, decide_false, f_bool, c_bool, f_int, c_int, f_str, c_str, f_nilptr, c_nilptr, f_ptr, c_ptr, f_nilsl, c_nilsl, f_slice, c_slice, f_nilmap, c_nilmap, f_map, c_map, f_nilf, c_nilf, f_func, c_func, f_yieldf, c_yieldf, f_nilif, c_nilif, f_iface, c_iface, c_agg, List.all_cons, List.all_nil, Bool.and_true, Bool.true_and, if_true, if_false, ite_true, ite_false, h1, h2, h3, w1, h4, w2, hs0, hc]
    · rw [hz] at hc
      simp (decide := true) only [note_false, Int.reduceBEq, Int.reduceBNe, x_drawn, l_nil, l_op, l_guard, l_some, l_true, l_false, l_draw, readsA, x_true, x_false, x_seq, x_ops, x_cond, x_skip, x_ret, x_exit, x_block, x_then, x_thenE, x_thenR, x_blockN, x_blockR, x_blockE, s_nil, s_op, s_guard, s_some, s_true, s_false, s_put, s_put0, s_opsR, s_ret, s_norm, aop, ev, evs, List.map_cons, List.map_nil, List.cons_append, List.nil_append, List.append_nil, List.replicate, List.take_succ_cons, List.take_zero, List.take_nil, List.drop_succ_cons, List.drop_zero, List.drop_nil, Nat.zero_add, Nat.add_zero, Nat.reduceAdd, Nat.reduceMul, Nat.reduceLeDiff, Bool.false_eq_true, and_self, List.length_cons, List.length_nil, List.set_cons_zero, List.set_cons_succ, List.getD_cons_zero, List.getD_cons_succ, wantedA, List.getElem?_cons_zero, List.getElem?_cons_succ, q_t, q_f, Bool.not_true, Bool.not_false, b_add, b_sub, b_mul, b_eql, b_neq, b_lss, b_leq, b_gtr, b_geq, b_and, b_or, b_xor, b_quo, b_rem, b_shl, b_shr, unA, Option.map_some, Option.map_none, resA, tupA, Int.reduceLT, not_false_eq_true, not_true_eq_false, decide_true, decide_false, f_bool, c_bool, f_int, c_int, f_str, c_str, f_nilptr, c_nilptr, f_ptr, c_ptr, f_nilsl, c_nilsl, f_slice, c_slice, f_nilmap, c_nilmap, f_map, c_map, f_nilf, c_nilf, f_func, c_func, f_yieldf, c_yieldf, f_nilif, c_nilif, f_iface, c_iface, c_agg, List.all_cons, List.all_nil, Bool.and_true, Bool.true_and, if_true, if_false, ite_true, ite_false, h1, h2, h3, w1, h4, w2, hs0, hc]

/-- A reader: what is left, and the error; its own blocks F. -/
def RAt (h : Heap) (r : Nat) (s : List Int × Int) (F : Nat → Prop) : Prop :=
  F r ∧ (∀ j, F j → j < h.next) ∧ Bytes s.1 ∧ s.1.length ≤ 4294967296 ∧ ∃ left, h.get r = some (.cells [left, .int .i64 s.2, .bool true] false) ∧ left.flat = true ∧
    ((left = .nilsl ∧ s.1 = []) ∨ ∃ id off cap ex c, left = .slice id off s.1.length cap ex 1 ∧ s.1.length ≤ cap ∧ h.get id = some (.cells c false) ∧ off + s.1.length ≤ c.length ∧ (c.drop off).take s.1.length = ints s.1 ∧ id ≠ r ∧ F id)
theorem RAt.keep {h h' : Heap} {r : Nat} {s : List Int × Int} {F : Nat → Prop} (f : RAt h r s F) (hx : h.next ≤ h'.next) (hs : ∀ j, F j → h'.get j = h.get j) : RAt h' r s F := by
  obtain ⟨f1, f2, f3, f4, left, f5, f6, f7⟩ := f
  refine ⟨f1, fun j hj => Nat.lt_of_lt_of_le (f2 j hj) hx, f3, f4, left, (hs r f1).trans f5, f6, f7.imp (fun e => e) fun ⟨id, off, cap, ex, c, e1, e2, e3, e4, e5, e6, e7⟩ => ⟨id, off, cap, ex, c, e1, e2, (hs id e7).trans e3, e4, e5, e6, e7⟩⟩
theorem RAt.grow {h h' : Heap} {r : Nat} {s : List Int × Int} {F : Nat → Prop} (f : RAt h r s F) (g : Grow h h') : RAt h' r s F := f.keep g.1 fun j hj => g.2 j (f.2.1 j hj)
theorem RAt.view {h : Heap} {r : Nat} {s : List Int × Int} {F : Nat → Prop} (f : RAt h r s F) : ∃ left, h.get r = some (.cells [left, .int .i64 s.2, .bool true] false) ∧ BytesAt h left s.1 ∧ left.flat = true ∧ (∀ call tm, aop call tm h (.len .sl (.c left)) = some (.int .i64 s.1.length, h)) := by
  obtain ⟨f1, f2, f3, f4, left, f5, f6, f7⟩ := f
  refine ⟨left, f5, f7.imp (fun e => e) (fun ⟨id, off, cap, ex, c, e1, e2, e3, e4, e5, _⟩ => ⟨id, off, cap, ex, c, false, e1, e2, e3, e4, e5⟩), f6, fun call tm => ?_⟩
  rcases f7 with ⟨rfl, e⟩ | ⟨id, off, cap, ex, c, rfl, _⟩
  · rw [e]; rfl
  · rfl
/-- The error is written. -/
theorem RAt.err {h : Heap} {r : Nat} {s : List Int × Int} {F : Nat → Prop} (f : RAt h r s F) (e : Int) : ∃ h', storeA h r 1 [.int .i64 e] = some h' ∧ RAt h' r (s.1, e) F ∧ Stp h h' F F := by
  obtain ⟨f1, f2, f3, f4, left, f5, f6, f7⟩ := f
  have hr := Heap.lt_of_get f5
  refine ⟨h.set r (.cells [left, .int .i64 e, .bool true] false), by simp [storeA, f5, splice], ⟨f1, fun j hj => by simpa using f2 j hj, f3, f4, left, by rw [get_set, if_pos rfl, if_pos hr], f6, ?_⟩, ⟨by simp, fun j _ j2 => by rw [get_set, if_neg (show j ≠ r from fun e => j2 (e ▸ f1))], fun j hj => .inl hj⟩⟩
  exact f7.imp (fun e => e) fun ⟨id, off, cap, ex, c, e1, e2, e3, e4, e5, e6, e7⟩ => ⟨id, off, cap, ex, c, e1, e2, by rw [get_set, if_neg e6]; exact e3, e4, e5, e6, e7⟩
/-- Some bytes are behind. -/
theorem RAt.skip {h : Heap} {r : Nat} {s : List Int × Int} {F : Nat → Prop} (f : RAt h r s F) {k : Nat} (hk : k ≤ s.1.length) : ∃ left v' h', h.get r = some (.cells [left, .int .i64 s.2, .bool true] false) ∧ sliceA 1 left (some (.int .i64 (k : Nat))) none none = some v' ∧ v'.flat = true ∧ storeA h r 0 [v'] = some h' ∧ RAt h' r (s.1.drop k, s.2) F ∧ Stp h h' F F := by
  obtain ⟨f1, f2, f3, f4, left, f5, f6, f7⟩ := f
  have hr := Heap.lt_of_get f5
  rcases f7 with ⟨rfl, e⟩ | ⟨id, off, cap, ex, c, rfl, e2, e3, e4, e5, e6, e7⟩
  · rw [e] at hk
    simp at hk
    subst hk
    refine ⟨.nilsl, .nilsl, h.set r (.cells [.nilsl, .int .i64 s.2, .bool true] false), f5, rfl, rfl, by simp [storeA, f5, splice], ⟨f1, fun j hj => by simpa using f2 j hj, by simpa using f3, by simpa using f4, .nilsl, by rw [get_set, if_pos rfl, if_pos hr], rfl, .inl ⟨rfl, by simpa using e⟩⟩, ⟨by simp, fun j _ j2 => by rw [get_set, if_neg (show j ≠ r from fun e => j2 (e ▸ f1))], fun j hj => .inl hj⟩⟩
  · refine ⟨_, .slice id (off + k) (s.1.length - k) (cap - k) ex 1, h.set r (.cells [.slice id (off + k) (s.1.length - k) (cap - k) ex 1, .int .i64 s.2, .bool true] false), f5, ?_, rfl, by simp [storeA, f5, splice], ⟨f1, fun j hj => by simpa using f2 j hj, fun x hx => f3 x (List.mem_of_mem_drop hx), by simp; omega, _, by rw [get_set, if_pos rfl, if_pos hr], rfl, .inr ⟨id, off + k, cap - k, ex, c, by simp, by simp; omega, by rw [get_set, if_neg e6]; exact e3, by simp; omega, ?_, e6, e7⟩⟩, ⟨by simp, fun j _ j2 => by rw [get_set, if_neg (show j ≠ r from fun e => j2 (e ▸ f1))], fun j hj => .inl hj⟩⟩
    · have := bd_l (k := .i64) (len := s.1.length) (cap := cap) (i := k) hk
      simp only [sliceA, this, if_true, Nat.mul_one]
      simp
    · have hlen : (s.1.drop k).length = s.1.length - k := by simp
      rw [hlen]
      have : (c.drop (off + k)).take (s.1.length - k) = ((c.drop off).take s.1.length).drop k := by rw [List.drop_take, List.drop_drop]
      rw [this, e5]; simp [ints, List.map_drop]

/-- What is told of a number, and what is left. -/
def rdN (k : Nat) (s : List Int × Int) : Int × (List Int × Int) := if s.2 = 0 then (if s.1.length < k then (0, (s.1, 4)) else (valBE (s.1.take k), (s.1.drop k, 0))) else (0, s)

theorem XdrR.none_spec {h : Heap} {r : Nat} {s : List Int × Int} {F : Nat → Prop} (f : RAt h r s F) : xcall X SP (.fn W.none_) [.ptr r 0] h = some (.bool false, h) := by
  obtain ⟨left, f5, _⟩ := f.view
  have L2 : loadA h false 1 r 2 = some (.bool true) := by rw [load_of f5]; rfl
  rw [x_fn (W.kx4 _ _ _ (by simp)) W.s27]
  simp (decide := true) only [note_false, Int.reduceBEq, Int.reduceBNe, x_drawn, l_nil, l_op, l_guard, l_some, l_true, l_false, l_draw, readsA, x_true, x_false, x_seq, x_ops, x_cond, x_skip, x_ret, x_exit, x_block, x_then, x_thenE, x_thenR, x_blockN, x_blockR, x_blockE, s_nil, s_op, s_guard, s_some, s_true, s_false, s_put, s_put0, s_opsR, s_ret, s_norm, aop, ev, evs, List.map_cons, List.map_nil, List.cons_append, List.nil_append, List.append_nil, List.replicate, List.take_succ_cons, List.take_zero, List.take_nil, List.drop_succ_cons, List.drop_zero, List.drop_nil, Nat.zero_add, Nat.add_zero, Nat.reduceAdd, Nat.reduceMul, Nat.reduceLeDiff, Bool.false_eq_true, and_self, List.length_cons, List.length_nil, List.set_cons_zero, List.set_cons_succ, List.getD_cons_zero, List.getD_cons_succ, wantedA, List.getElem?_cons_zero, List.getElem?_cons_succ, q_t, q_f, Bool.not_true, Bool.not_false, b_add, b_sub, b_mul, b_eql, b_neq, b_lss, b_leq, b_gtr, b_geq, b_and, b_or, b_xor, b_quo, b_rem, b_shl, b_shr, unA, Option.map_some, Option.map_none, resA, tupA, Int.reduceLT, not_false_eq_true, not_true_eq_false, decide_true, decide_false, f_bool, c_bool, f_int, c_int, f_str, c_str, f_nilptr, c_nilptr, f_ptr, c_ptr, f_nilsl, c_nilsl, f_slice, c_slice, f_nilmap, c_nilmap, f_map, c_map, f_nilf, c_nilf, f_func, c_func, f_yieldf, c_yieldf, f_nilif, c_nilif, f_iface, c_iface, c_agg, List.all_cons, List.all_nil, Bool.and_true, Bool.true_and, if_true, if_false, ite_true, ite_false, show binA .eql .ptr (.ptr r 0) .nilptr = some (.bool false) from rfl, L2]
theorem XdrR.fine_spec {h : Heap} {r : Nat} {s : List Int × Int} {F : Nat → Prop} (f : RAt h r s F) : xcall X SP (.fn W.fine) [.ptr r 0] h = some (.bool (s.2 == 0), h) := by
  obtain ⟨left, f5, _⟩ := f.view
  have L1 : loadA h false 1 r 1 = some (.int .i64 s.2) := by rw [load_of f5]; rfl
  rw [x_fn (W.kx4 _ _ _ (by simp)) W.s28]
  simp (decide := true) only [note_false, Int.reduceBEq, Int.reduceBNe, x_drawn, l_nil, l_op, l_guard, l_some, l_true, l_false, l_draw, readsA, x_true, x_false, x_seq, x_ops, x_cond, x_skip, x_ret, x_exit, x_block, x_then, x_thenE, x_thenR, x_blockN, x_blockR, x_blockE, s_nil, s_op, s_guard, s_some, s_true, s_false, s_put, s_put0, s_opsR, s_ret, s_norm, aop, ev, evs, List.map_cons, List.map_nil, List.cons_append, List.nil_append, List.append_nil, List.replicate, List.take_succ_cons, List.take_zero, List.take_nil, List.drop_succ_cons, List.drop_zero, List.drop_nil, Nat.zero_add, Nat.add_zero, Nat.reduceAdd, Nat.reduceMul, Nat.reduceLeDiff, Bool.false_eq_true, and_self, List.length_cons, List.length_nil, List.set_cons_zero, List.set_cons_succ, List.getD_cons_zero, List.getD_cons_succ, wantedA, List.getElem?_cons_zero, List.getElem?_cons_succ, q_t, q_f, Bool.not_true, Bool.not_false, b_add, b_sub, b_mul, b_eql, b_neq, b_lss, b_leq, b_gtr, b_geq, b_and, b_or, b_xor, b_quo, b_rem, b_shl, b_shr, unA, Option.map_some, Option.map_none, resA, tupA, Int.reduceLT, not_false_eq_true, not_true_eq_false, decide_true, decide_false, f_bool, c_bool, f_int, c_int, f_str, c_str, f_nilptr, c_nilptr, f_ptr, c_ptr, f_nilsl, c_nilsl, f_slice, c_slice, f_nilmap, c_nilmap, f_map, c_map, f_nilf, c_nilf, f_func, c_func, f_yieldf, c_yieldf, f_nilif, c_nilif, f_iface, c_iface, c_agg, List.all_cons, List.all_nil, Bool.and_true, Bool.true_and, if_true, if_false, ite_true, ite_false, W.none_spec f, L1]
theorem XdrR.fail_spec {h : Heap} {r : Nat} {s : List Int × Int} {F : Nat → Prop} (f : RAt h r s F) (is : Bool) (e : Int) : ∃ h', xcall X SP (.fn W.fail) [.ptr r 0, .bool is, .int .i64 e] h = some (undefA, h') ∧ RAt h' r (if s.2 = 0 ∧ is = true then (s.1, e) else s) F ∧ Stp h h' F F := by
  have hf := W.fine_spec f
  by_cases h0 : s.2 = 0
  · have hb : (s.2 == 0) = true := by simpa using h0
    rw [hb] at hf
    cases is
    · refine ⟨h, ?_, by simpa using f, .of_grow (.refl h)⟩
      rw [x_fn (W.kx4 _ _ _ (by simp)) W.s29]
      simp (decide := true) only [note_false, Int.reduceBEq, Int.reduceBNe, x_drawn, l_nil, l_op, l_guard, l_some, l_true, l_false, l_draw, readsA, x_true, x_false, x_seq, x_ops, x_cond, x_skip, x_ret, x_exit, x_block, x_then, x_thenE, x_thenR, x_blockN, x_blockR, x_blockE, s_nil, s_op, s_guard, s_some, s_true, s_false, s_put, s_put0, s_opsR, s_ret, s_norm, aop, ev, evs, List.map_cons, List.map_nil, List.cons_append, List.nil_append, List.append_nil, List.replicate, List.take_succ_cons, List.take_zero, List.take_nil, List.drop_succ_cons, List.drop_zero, List.drop_nil, Nat.zero_add, Nat.add_zero, Nat.reduceAdd, Nat.reduceMul, Nat.reduceLeDiff, Bool.false_eq_true, and_self, List.length_cons, List.length_nil, List.set_cons_zero, List.set_cons_succ, List.getD_cons_zero, List.getD_cons_succ, wantedA, List.getElem?_cons_zero, List.getElem?_cons_succ, q_t, q_f, Bool.not_true, Bool.not_false, b_add, b_sub, b_mul, b_eql, b_neq, b_lss, b_leq, b_gtr, b_geq, b_and, b_or, b_xor, b_quo, b_rem, b_shl, b_shr, unA, Option.map_some, Option.map_none, resA, tupA, Int.reduceLT, not_false_eq_true, not_true_eq_false, decide_true, decide_false, f_bool, c_bool, f_int, c_int, f_str, c_str, f_nilptr, c_nilptr, f_ptr, c_ptr, f_nilsl, c_nilsl, f_slice, c_slice, f_nilmap, c_nilmap, f_map, c_map, f_nilf, c_nilf, f_func, c_func, f_yieldf, c_yieldf, f_nilif, c_nilif, f_iface, c_iface, c_agg, List.all_cons, List.all_nil, Bool.and_true, Bool.true_and, if_true, if_false, ite_true, ite_false, hf, resA]
    · obtain ⟨h', hst, r1, r2⟩ := f.err e
      refine ⟨h', ?_, by simpa [h0] using r1, r2⟩
      rw [x_fn (W.kx4 _ _ _ (by simp)) W.s29]
      simp (decide := true) only [note_false, Int.reduceBEq, Int.reduceBNe, x_drawn, l_nil, l_op, l_guard, l_some, l_true, l_false, l_draw, readsA, x_true, x_false, x_seq, x_ops, x_cond, x_skip, x_ret, x_exit, x_block, x_then, x_thenE, x_thenR, x_blockN, x_blockR, x_blockE, s_nil, s_op, s_guard, s_some, s_true, s_false, s_put, s_put0, s_opsR, s_ret, s_norm, aop, ev, evs, List.map_cons, List.map_nil, List.cons_append, List.nil_append, List.append_nil, List.replicate, List.take_succ_cons, List.take_zero, List.take_nil, List.drop_succ_cons, List.drop_zero, List.drop_nil, Nat.zero_add, Nat.add_zero, Nat.reduceAdd, Nat.reduceMul, Nat.reduceLeDiff, Bool.false_eq_true, and_self, List.length_cons, List.length_nil, List.set_cons_zero, List.set_cons_succ, List.getD_cons_zero, List.getD_cons_succ, wantedA, List.getElem?_cons_zero, List.getElem?_cons_succ, q_t, q_f, Bool.not_true, Bool.not_false, b_add, b_sub, b_mul, b_eql, b_neq, b_lss, b_leq, b_gtr, b_geq, b_and, b_or, b_xor, b_quo, b_rem, b_shl, b_shr, unA, Option.map_some, Option.map_none, resA, tupA, Int.reduceLT, not_false_eq_true, not_true_eq_false, decide_true, decide_false, f_bool, c_bool, f_int, c_int, f_str, c_str, f_nilptr, c_nilptr, f_ptr, c_ptr, f_nilsl, c_nilsl, f_slice, c_slice, f_nilmap, c_nilmap, f_map, c_map, f_nilf, c_nilf, f_func, c_func, f_yieldf, c_yieldf, f_nilif, c_nilif, f_iface, c_iface, c_agg, List.all_cons, List.all_nil, Bool.and_true, Bool.true_and, if_true, if_false, ite_true, ite_false, hf, hst, resA]
  · have hb : (s.2 == 0) = false := by simpa using h0
    rw [hb] at hf
    refine ⟨h, ?_, by simpa [h0] using f, .of_grow (.refl h)⟩
    rw [x_fn (W.kx4 _ _ _ (by simp)) W.s29]
    simp (decide := true) only [note_false, Int.reduceBEq, Int.reduceBNe, x_drawn, l_nil, l_op, l_guard, l_some, l_true, l_false, l_draw, readsA, x_true, x_false, x_seq, x_ops, x_cond, x_skip, x_ret, x_exit, x_block, x_then, x_thenE, x_thenR, x_blockN, x_blockR, x_blockE, s_nil, s_op, s_guard, s_some, s_true, s_false, s_put, s_put0, s_opsR, s_ret, s_norm, aop, ev, evs, List.map_cons, List.map_nil, List.cons_append, List.nil_append, List.append_nil, List.replicate, List.take_succ_cons, List.take_zero, List.take_nil, List.drop_succ_cons, List.drop_zero, List.drop_nil, Nat.zero_add, Nat.add_zero, Nat.reduceAdd, Nat.reduceMul, Nat.reduceLeDiff, Bool.false_eq_true, and_self, List.length_cons, List.length_nil, List.set_cons_zero, List.set_cons_succ, List.getD_cons_zero, List.getD_cons_succ, wantedA, List.getElem?_cons_zero, List.getElem?_cons_succ, q_t, q_f, Bool.not_true, Bool.not_false, b_add, b_sub, b_mul, b_eql, b_neq, b_lss, b_leq, b_gtr, b_geq, b_and, b_or, b_xor, b_quo, b_rem, b_shl, b_shr, unA, Option.map_some, Option.map_none, resA, tupA, Int.reduceLT, not_false_eq_true, not_true_eq_false, decide_true, decide_false, f_bool, c_bool, f_int, c_int, f_str, c_str, f_nilptr, c_nilptr, f_ptr, c_ptr, f_nilsl, c_nilsl, f_slice, c_slice, f_nilmap, c_nilmap, f_map, c_map, f_nilf, c_nilf, f_func, c_func, f_yieldf, c_yieldf, f_nilif, c_nilif, f_iface, c_iface, c_agg, List.all_cons, List.all_nil, Bool.and_true, Bool.true_and, if_true, if_false, ite_true, ite_false, hf, resA]
theorem XdrR.rdnum4 {h : Heap} {r : Nat} {s : List Int × Int} {F : Nat → Prop} (f : RAt h r s F) : ∃ h', xcall X SP (.fn W.rdnum) [.ptr r 0, .int .i64 4] h = some (.int .u64 (rdN 4 s).1, h') ∧ RAt h' r (rdN 4 s).2 F ∧ Stp h h' F F := by
  have hf := W.fine_spec f
  obtain ⟨left, f5, hb, hfl, _⟩ := f.view
  have L0 : loadA h false 1 r 0 = some left := by rw [load_of f5]; rfl
  unfold rdN
  by_cases h0 : s.2 = 0
  · have hbb : (s.2 == 0) = true := by simpa using h0
    rw [hbb] at hf
    by_cases hl : s.1.length < 4
    · obtain ⟨H1, e1, g1⟩ := W.toGetW.short4 hb hl
      obtain ⟨H2, hst, r1, r2⟩ := (f.grow g1).err 4
      refine ⟨H2, ?_, by simpa [h0, hl] using r1, (Stp.of_grow g1).trans r2⟩
      rw [x_fn (W.kx4 _ _ _ (by simp)) W.s30]
      simp (decide := true) only [note_false, Int.reduceBEq, Int.reduceBNe, x_drawn, l_nil, l_op, l_guard, l_some, l_true, l_false, l_draw, readsA, x_true, x_false, x_seq, x_ops, x_cond, x_skip, x_ret, x_exit, x_block, x_then, x_thenE, x_thenR, x_blockN, x_blockR, x_blockE, s_nil, s_op, s_guard, s_some, s_true, s_false, s_put, s_put0, s_opsR, s_ret, s_norm, aop, ev, evs, List.map_cons, List.map_nil, List.cons_append, List.nil_append, List.append_nil, List.replicate, List.take_succ_cons, List.take_zero, List.take_nil, List.drop_succ_cons, List.drop_zero, List.drop_nil, Nat.zero_add, Nat.add_zero, Nat.reduceAdd, Nat.reduceMul, Nat.reduceLeDiff, Bool.false_eq_true, and_self, List.length_cons, List.length_nil, List.set_cons_zero, List.set_cons_succ, List.getD_cons_zero, List.getD_cons_succ, wantedA, List.getElem?_cons_zero, List.getElem?_cons_succ, q_t, q_f, Bool.not_true, Bool.not_false, b_add, b_sub, b_mul, b_eql, b_neq, b_lss, b_leq, b_gtr, b_geq, b_and, b_or, b_xor, b_quo, b_rem, b_shl, b_shr, unA, Option.map_some, Option.map_none, resA, tupA, Int.reduceLT, not_false_eq_true, not_true_eq_false, decide_true, decide_false, f_bool, c_bool, f_int, c_int, f_str, c_str, f_nilptr, c_nilptr, f_ptr, c_ptr, f_nilsl, c_nilsl, f_slice, c_slice, f_nilmap, c_nilmap, f_map, c_map, f_nilf, c_nilf, f_func, c_func, f_yieldf, c_yieldf, f_nilif, c_nilif, f_iface, c_iface, c_agg, List.all_cons, List.all_nil, Bool.and_true, Bool.true_and, if_true, if_false, ite_true, ite_false, hf, L0, e1, hst, h0, hl]
    · obtain ⟨H1, e1, g1⟩ := W.toGetW.ok4 hb f.2.2.1 (by omega)
      obtain ⟨left', v', H2, f6, hsl, hfv, hst, r1, r2⟩ := (f.grow g1).skip (k := 4) (by omega)
      have hll : left' = left := by
        have := g1.get f5
        rw [this] at f6; cases f6; rfl
      subst hll
      have L1 : loadA H1 false 1 r 0 = some left' := by rw [load_of f6]; rfl
      have hsl2 : sliceA 1 left' (some (.int .i64 4)) none none = some v' := hsl
      refine ⟨H2, ?_, by simpa [h0, hl] using r1, (Stp.of_grow g1).trans r2⟩
      rw [x_fn (W.kx4 _ _ _ (by simp)) W.s30]
      simp (decide := true) only [note_false, Int.reduceBEq, Int.reduceBNe, x_drawn, l_nil, l_op, l_guard, l_some, l_true, l_false, l_draw, readsA, x_true, x_false, x_seq, x_ops, x_cond, x_skip, x_ret, x_exit, x_block, x_then, x_thenE, x_thenR, x_blockN, x_blockR, x_blockE, s_nil, s_op, s_guard, s_some, s_true, s_false, s_put, s_put0, s_opsR, s_ret, s_norm, aop, ev, evs, List.map_cons, List.map_nil, List.cons_append, List.nil_append, List.append_nil, List.replicate, List.take_succ_cons, List.take_zero, List.take_nil, List.drop_succ_cons, List.drop_zero, List.drop_nil, Nat.zero_add, Nat.add_zero, Nat.reduceAdd, Nat.reduceMul, Nat.reduceLeDiff, Bool.false_eq_true, and_self, List.length_cons, List.length_nil, List.set_cons_zero, List.set_cons_succ, List.getD_cons_zero, List.getD_cons_succ, wantedA, List.getElem?_cons_zero, List.getElem?_cons_succ, q_t, q_f, Bool.not_true, Bool.not_false, b_add, b_sub, b_mul, b_eql, b_neq, b_lss, b_leq, b_gtr, b_geq, b_and, b_or, b_xor, b_quo, b_rem, b_shl, b_shr, unA, Option.map_some, Option.map_none, resA, tupA, Int.reduceLT, not_false_eq_true, not_true_eq_false, decide_true, decide_false, f_bool, c_bool, f_int, c_int, f_str, c_str, f_nilptr, c_nilptr, f_ptr, c_ptr, f_nilsl, c_nilsl, f_slice, c_slice, f_nilmap, c_nilmap, f_map, c_map, f_nilf, c_nilf, f_func, c_func, f_yieldf, c_yieldf, f_nilif, c_nilif, f_iface, c_iface, c_agg, List.all_cons, List.all_nil, Bool.and_true, Bool.true_and, if_true, if_false, ite_true, ite_false, hf, L0, e1, L1, hsl2, hst, hfv, cells_of hfv, h0, hl]
  · have hbb : (s.2 == 0) = false := by simpa using h0
    rw [hbb] at hf
    refine ⟨h, ?_, by simpa [h0] using f, .of_grow (.refl h)⟩
    rw [x_fn (W.kx4 _ _ _ (by simp)) W.s30]
    simp (decide := true) only [note_false, Int.reduceBEq, Int.reduceBNe, x_drawn, l_nil, l_op, l_guard, l_some, l_true, l_false, l_draw, readsA, x_true, x_false, x_seq, x_ops, x_cond, x_skip, x_ret, x_exit, x_block, x_then, x_thenE, x_thenR, x_blockN, x_blockR, x_blockE, s_nil, s_op, s_guard, s_some, s_true, s_false, s_put, s_put0, s_opsR, s_ret, s_norm, aop, ev, evs, List.map_cons, List.map_nil, List.cons_append, List.nil_append, List.append_nil, List.replicate, List.take_succ_cons, List.take_zero, List.take_nil, List.drop_succ_cons, List.drop_zero, List.drop_nil, Nat.zero_add, Nat.add_zero, Nat.reduceAdd, Nat.reduceMul, Nat.reduceLeDiff, Bool.false_eq_true, and_self, List.length_cons, List.length_nil, List.set_cons_zero, List.set_cons_succ, List.getD_cons_zero, List.getD_cons_succ, wantedA, List.getElem?_cons_zero, List.getElem?_cons_succ, q_t, q_f, Bool.not_true, Bool.not_false, b_add, b_sub, b_mul, b_eql, b_neq, b_lss, b_leq, b_gtr, b_geq, b_and, b_or, b_xor, b_quo, b_rem, b_shl, b_shr, unA, Option.map_some, Option.map_none, resA, tupA, Int.reduceLT, not_false_eq_true, not_true_eq_false, decide_true, decide_false, f_bool, c_bool, f_int, c_int, f_str, c_str, f_nilptr, c_nilptr, f_ptr, c_ptr, f_nilsl, c_nilsl, f_slice, c_slice, f_nilmap, c_nilmap, f_map, c_map, f_nilf, c_nilf, f_func, c_func, f_yieldf, c_yieldf, f_nilif, c_nilif, f_iface, c_iface, c_agg, List.all_cons, List.all_nil, Bool.and_true, Bool.true_and, if_true, if_false, ite_true, ite_false, hf, h0]
theorem XdrR.rdnum8 {h : Heap} {r : Nat} {s : List Int × Int} {F : Nat → Prop} (f : RAt h r s F) : ∃ h', xcall X SP (.fn W.rdnum) [.ptr r 0, .int .i64 8] h = some (.int .u64 (rdN 8 s).1, h') ∧ RAt h' r (rdN 8 s).2 F ∧ Stp h h' F F := by
  have hf := W.fine_spec f
  obtain ⟨left, f5, hb, hfl, _⟩ := f.view
  have L0 : loadA h false 1 r 0 = some left := by rw [load_of f5]; rfl
  unfold rdN
  by_cases h0 : s.2 = 0
  · have hbb : (s.2 == 0) = true := by simpa using h0
    rw [hbb] at hf
    by_cases hl : s.1.length < 8
    · obtain ⟨H1, e1, g1⟩ := W.toGetW.short8 hb hl
      obtain ⟨H2, hst, r1, r2⟩ := (f.grow g1).err 4
      refine ⟨H2, ?_, by simpa [h0, hl] using r1, (Stp.of_grow g1).trans r2⟩
      rw [x_fn (W.kx4 _ _ _ (by simp)) W.s30]
      simp (decide := true) only [note_false, Int.reduceBEq, Int.reduceBNe, x_drawn, l_nil, l_op, l_guard, l_some, l_true, l_false, l_draw, readsA, x_true, x_false, x_seq, x_ops, x_cond, x_skip, x_ret, x_exit, x_block, x_then, x_thenE, x_thenR, x_blockN, x_blockR, x_blockE, s_nil, s_op, s_guard, s_some, s_true, s_false, s_put, s_put0, s_opsR, s_ret, s_norm, aop, ev, evs, List.map_cons, List.map_nil, List.cons_append, List.nil_append, List.append_nil, List.replicate, List.take_succ_cons, List.take_zero, List.take_nil, List.drop_succ_cons, List.drop_zero, List.drop_nil, Nat.zero_add, Nat.add_zero, Nat.reduceAdd, Nat.reduceMul, Nat.reduceLeDiff, Bool.false_eq_true, and_self, List.length_cons, List.length_nil, List.set_cons_zero, List.set_cons_succ, List.getD_cons_zero, List.getD_cons_succ, wantedA, List.getElem?_cons_zero, List.getElem?_cons_succ, q_t, q_f, Bool.not_true, Bool.not_false, b_add, b_sub, b_mul, b_eql, b_neq, b_lss, b_leq, b_gtr, b_geq, b_and, b_or, b_xor, b_quo, b_rem, b_shl, b_shr, unA, Option.map_some, Option.map_none, resA, tupA, Int.reduceLT, not_false_eq_true, not_true_eq_false, decide_true, decide_false, f_bool, c_bool, f_int, c_int, f_str, c_str, f_nilptr, c_nilptr, f_ptr, c_ptr, f_nilsl, c_nilsl, f_slice, c_slice, f_nilmap, c_nilmap, f_map, c_map, f_nilf, c_nilf, f_func, c_func, f_yieldf, c_yieldf, f_nilif, c_nilif, f_iface, c_iface, c_agg, List.all_cons, List.all_nil, Bool.and_true, Bool.true_and, if_true, if_false, ite_true, ite_false, hf, L0, e1, hst, h0, hl]
    · obtain ⟨H1, e1, g1⟩ := W.toGetW.ok8 hb f.2.2.1 (by omega)
      obtain ⟨left', v', H2, f6, hsl, hfv, hst, r1, r2⟩ := (f.grow g1).skip (k := 8) (by omega)
      have hll : left' = left := by
        have := g1.get f5
        rw [this] at f6; cases f6; rfl
      subst hll
      have L1 : loadA H1 false 1 r 0 = some left' := by rw [load_of f6]; rfl
      have hsl2 : sliceA 1 left' (some (.int .i64 8)) none none = some v' := hsl
      refine ⟨H2, ?_, by simpa [h0, hl] using r1, (Stp.of_grow g1).trans r2⟩
      rw [x_fn (W.kx4 _ _ _ (by simp)) W.s30]
      simp (decide := true) only [note_false, Int.reduceBEq, Int.reduceBNe, x_drawn, l_nil, l_op, l_guard, l_some, l_true, l_false, l_draw, readsA, x_true, x_false, x_seq, x_ops, x_cond, x_skip, x_ret, x_exit, x_block, x_then, x_thenE, x_thenR, x_blockN, x_blockR, x_blockE, s_nil, s_op, s_guard, s_some, s_true, s_false, s_put, s_put0, s_opsR, s_ret, s_norm, aop, ev, evs, List.map_cons, List.map_nil, List.cons_append, List.nil_append, List.append_nil, List.replicate, List.take_succ_cons, List.take_zero, List.take_nil, List.drop_succ_cons, List.drop_zero, List.drop_nil, Nat.zero_add, Nat.add_zero, Nat.reduceAdd, Nat.reduceMul, Nat.reduceLeDiff, Bool.false_eq_true, and_self, List.length_cons, List.length_nil, List.set_cons_zero, List.set_cons_succ, List.getD_cons_zero, List.getD_cons_succ, wantedA, List.getElem?_cons_zero, List.getElem?_cons_succ, q_t, q_f, Bool.not_true, Bool.not_false, b_add, b_sub, b_mul, b_eql, b_neq, b_lss, b_leq, b_gtr, b_geq, b_and, b_or, b_xor, b_quo, b_rem, b_shl, b_shr, unA, Option.map_some, Option.map_none, resA, tupA, Int.reduceLT, not_false_eq_true, not_true_eq_false, decide_true, decide_false, f_bool, c_bool, f_int, c_int, f_str, c_str, f_nilptr, c_nilptr, f_ptr, c_ptr, f_nilsl, c_nilsl, f_slice, c_slice, f_nilmap, c_nilmap, f_map, c_map, f_nilf, c_nilf, f_func, c_func, f_yieldf, c_yieldf, f_nilif, c_nilif, f_iface, c_iface, c_agg, List.all_cons, List.all_nil, Bool.and_true, Bool.true_and, if_true, if_false, ite_true, ite_false, hf, L0, e1, L1, hsl2, hst, hfv, cells_of hfv, h0, hl]
  · have hbb : (s.2 == 0) = false := by simpa using h0
    rw [hbb] at hf
    refine ⟨h, ?_, by simpa [h0] using f, .of_grow (.refl h)⟩
    rw [x_fn (W.kx4 _ _ _ (by simp)) W.s30]
    simp (decide := true) only [note_false, Int.reduceBEq, Int.reduceBNe, x_drawn, l_nil, l_op, l_guard, l_some, l_true, l_false, l_draw, readsA, x_true, x_false, x_seq, x_ops, x_cond, x_skip, x_ret, x_exit, x_block, x_then, x_thenE, x_thenR, x_blockN, x_blockR, x_blockE, s_nil, s_op, s_guard, s_some, s_true, s_false, s_put, s_put0, s_opsR, s_ret, s_norm, aop, ev, evs, List.map_cons, List.map_nil, List.cons_append, List.nil_append, List.append_nil, List.replicate, List.take_succ_cons, List.take_zero, List.take_nil, List.drop_succ_cons, List.drop_zero, List.drop_nil, Nat.zero_add, Nat.add_zero, Nat.reduceAdd, Nat.reduceMul, Nat.reduceLeDiff, Bool.false_eq_true, and_self, List.length_cons, List.length_nil, List.set_cons_zero, List.set_cons_succ, List.getD_cons_zero, List.getD_cons_succ, wantedA, List.getElem?_cons_zero, List.getElem?_cons_succ, q_t, q_f, Bool.not_true, Bool.not_false, b_add, b_sub, b_mul, b_eql, b_neq, b_lss, b_leq, b_gtr, b_geq, b_and, b_or, b_xor, b_quo, b_rem, b_shl, b_shr, unA, Option.map_some, Option.map_none, resA, tupA, Int.reduceLT, not_false_eq_true, not_true_eq_false, decide_true, decide_false, f_bool, c_bool, f_int, c_int, f_str, c_str, f_nilptr, c_nilptr, f_ptr, c_ptr, f_nilsl, c_nilsl, f_slice, c_slice, f_nilmap, c_nilmap, f_map, c_map, f_nilf, c_nilf, f_func, c_func, f_yieldf, c_yieldf, f_nilif, c_nilif, f_iface, c_iface, c_agg, List.all_cons, List.all_nil, Bool.and_true, Bool.true_and, if_true, if_false, ite_true, ite_false, hf, h0]

theorem rdN_lt {k : Nat} {s : List Int × Int} (hb : Bytes s.1) : 0 ≤ (rdN k s).1 ∧ (rdN k s).1 < 256 ^ k := by
  have hp : (0 : Int) < 256 ^ k := Int.pow_pos (by decide)
  unfold rdN
  split
  · split
    · exact ⟨by simp, by simpa using hp⟩
    · rename_i hl
      have := valBE_lt (s.1.take k) fun x hx => hb x (List.mem_of_mem_take hx)
      rw [List.length_take, Nat.min_eq_left (by omega)] at this
      exact this
  · exact ⟨by simp, by simpa using hp⟩
theorem XdrR.rdNumber_spec {h : Heap} {r : Nat} {s : List Int × Int} {F : Nat → Prop} (f : RAt h r s F) : ∃ h', xcall X SP (.fn W.rdNumber) [.ptr r 0] h = some (.int .u32 (rdN 4 s).1, h') ∧ RAt h' r (rdN 4 s).2 F ∧ Stp h h' F F := by
  obtain ⟨h', e, r⟩ := W.rdnum4 f
  refine ⟨h', ?_, r⟩
  have hb := rdN_lt (k := 4) f.2.2.1
  have hw : IntKind.u32.wrap (rdN 4 s).1 = (rdN 4 s).1 := IntWalk.u32_in _ (by
    have : (256 : Int) ^ 4 = 4294967296 := by decide
    omega)
  rw [x_fn (W.kx4 _ _ _ (by simp)) W.s31]
  simp (decide := true) only [note_false, Int.reduceBEq, Int.reduceBNe, x_drawn, l_nil, l_op, l_guard, l_some, l_true, l_false, l_draw, readsA, x_true, x_false, x_seq, x_ops, x_cond, x_skip, x_ret, x_exit, x_block, x_then, x_thenE, x_thenR, x_blockN, x_blockR, x_blockE, s_nil, s_op, s_guard, s_some, s_true, s_false, s_put, s_put0, s_opsR, s_ret, s_norm, aop, ev, evs, List.map_cons, List.map_nil, List.cons_append, List.nil_append, List.append_nil, List.replicate, List.take_succ_cons, List.take_zero, List.take_nil, List.drop_succ_cons, List.drop_zero, List.drop_nil, Nat.zero_add, Nat.add_zero, Nat.reduceAdd, Nat.reduceMul, Nat.reduceLeDiff, Bool.false_eq_true, and_self, List.length_cons, List.length_nil, List.set_cons_zero, List.set_cons_succ, List.getD_cons_zero, List.getD_cons_succ, wantedA, List.getElem?_cons_zero, List.getElem?_cons_succ, q_t, q_f, Bool.not_true, Bool.not_false, b_add, b_sub, b_mul, b_eql, b_neq, b_lss, b_leq, b_gtr, b_geq, b_and, b_or, b_xor, b_quo, b_rem, b_shl, b_shr, unA, Option.map_some, Option.map_none, resA, tupA, Int.reduceLT, not_false_eq_true, not_true_eq_false, decide_true, decide_false, f_bool, c_bool, f_int, c_int, f_str, c_str, f_nilptr, c_nilptr, f_ptr, c_ptr, f_nilsl, c_nilsl, f_slice, c_slice, f_nilmap, c_nilmap, f_map, c_map, f_nilf, c_nilf, f_func, c_func, f_yieldf, c_yieldf, f_nilif, c_nilif, f_iface, c_iface, c_agg, List.all_cons, List.all_nil, Bool.and_true, Bool.true_and, if_true, if_false, ite_true, ite_false, e, hw]
theorem XdrR.rdGreat_spec {h : Heap} {r : Nat} {s : List Int × Int} {F : Nat → Prop} (f : RAt h r s F) : ∃ h', xcall X SP (.fn W.rdGreat) [.ptr r 0] h = some (.int .u64 (rdN 8 s).1, h') ∧ RAt h' r (rdN 8 s).2 F ∧ Stp h h' F F := by
  obtain ⟨h', e, r⟩ := W.rdnum8 f
  refine ⟨h', ?_, r⟩
  rw [x_fn (W.kx4 _ _ _ (by simp)) W.s32]
  simp (decide := true) only [note_false, Int.reduceBEq, Int.reduceBNe, x_drawn, l_nil, l_op, l_guard, l_some, l_true, l_false, l_draw, readsA, x_true, x_false, x_seq, x_ops, x_cond, x_skip, x_ret, x_exit, x_block, x_then, x_thenE, x_thenR, x_blockN, x_blockR, x_blockE, s_nil, s_op, s_guard, s_some, s_true, s_false, s_put, s_put0, s_opsR, s_ret, s_norm, aop, ev, evs, List.map_cons, List.map_nil, List.cons_append, List.nil_append, List.append_nil, List.replicate, List.take_succ_cons, List.take_zero, List.take_nil, List.drop_succ_cons, List.drop_zero, List.drop_nil, Nat.zero_add, Nat.add_zero, Nat.reduceAdd, Nat.reduceMul, Nat.reduceLeDiff, Bool.false_eq_true, and_self, List.length_cons, List.length_nil, List.set_cons_zero, List.set_cons_succ, List.getD_cons_zero, List.getD_cons_succ, wantedA, List.getElem?_cons_zero, List.getElem?_cons_succ, q_t, q_f, Bool.not_true, Bool.not_false, b_add, b_sub, b_mul, b_eql, b_neq, b_lss, b_leq, b_gtr, b_geq, b_and, b_or, b_xor, b_quo, b_rem, b_shl, b_shr, unA, Option.map_some, Option.map_none, resA, tupA, Int.reduceLT, not_false_eq_true, not_true_eq_false, decide_true, decide_false, f_bool, c_bool, f_int, c_int, f_str, c_str, f_nilptr, c_nilptr, f_ptr, c_ptr, f_nilsl, c_nilsl, f_slice, c_slice, f_nilmap, c_nilmap, f_map, c_map, f_nilf, c_nilf, f_func, c_func, f_yieldf, c_yieldf, f_nilif, c_nilif, f_iface, c_iface, c_agg, List.all_cons, List.all_nil, Bool.and_true, Bool.true_and, if_true, if_false, ite_true, ite_false, e]
def failed (s : List Int × Int) (is : Bool) (e : Int) : List Int × Int := if s.2 = 0 ∧ is = true then (s.1, e) else s
def rdT (s : List Int × Int) : Bool × (List Int × Int) := ((rdN 4 s).1 == 1, failed (rdN 4 s).2 (decide ((rdN 4 s).1 > 1)) 5)
theorem XdrR.rdTruth_spec {h : Heap} {r : Nat} {s : List Int × Int} {F : Nat → Prop} (f : RAt h r s F) : ∃ h', xcall X SP (.fn W.rdTruth) [.ptr r 0] h = some (.bool (rdT s).1, h') ∧ RAt h' r (rdT s).2 F ∧ Stp h h' F F := by
  obtain ⟨H1, e1, f1, s1⟩ := W.rdNumber_spec f
  obtain ⟨H2, e2, f2, s2⟩ := W.fail_spec f1 (decide ((rdN 4 s).1 > 1)) 5
  refine ⟨H2, ?_, f2, s1.trans s2⟩
  rw [x_fn (W.kx4 _ _ _ (by simp)) W.s33]
  simp (decide := true) only [note_false, Int.reduceBEq, Int.reduceBNe, x_drawn, l_nil, l_op, l_guard, l_some, l_true, l_false, l_draw, readsA, x_true, x_false, x_seq, x_ops, x_cond, x_skip, x_ret, x_exit, x_block, x_then, x_thenE, x_thenR, x_blockN, x_blockR, x_blockE, s_nil, s_op, s_guard, s_some, s_true, s_false, s_put, s_put0, s_opsR, s_ret, s_norm, aop, ev, evs, List.map_cons, List.map_nil, List.cons_append, List.nil_append, List.append_nil, List.replicate, List.take_succ_cons, List.take_zero, List.take_nil, List.drop_succ_cons, List.drop_zero, List.drop_nil, Nat.zero_add, Nat.add_zero, Nat.reduceAdd, Nat.reduceMul, Nat.reduceLeDiff, Bool.false_eq_true, and_self, List.length_cons, List.length_nil, List.set_cons_zero, List.set_cons_succ, List.getD_cons_zero, List.getD_cons_succ, wantedA, List.getElem?_cons_zero, List.getElem?_cons_succ, q_t, q_f, Bool.not_true, Bool.not_false, b_add, b_sub, b_mul, b_eql, b_neq, b_lss, b_leq, b_gtr, b_geq, b_and, b_or, b_xor, b_quo, b_rem, b_shl, b_shr, unA, Option.map_some, Option.map_none, resA, tupA, Int.reduceLT, not_false_eq_true, not_true_eq_false, decide_true, decide_false, f_bool, c_bool, f_int, c_int, f_str, c_str, f_nilptr, c_nilptr, f_ptr, c_ptr, f_nilsl, c_nilsl, f_slice, c_slice, f_nilmap, c_nilmap, f_map, c_map, f_nilf, c_nilf, f_func, c_func, f_yieldf, c_yieldf, f_nilif, c_nilif, f_iface, c_iface, c_agg, List.all_cons, List.all_nil, Bool.and_true, Bool.true_and, if_true, if_false, ite_true, ite_false, e1, e2, rdT]
theorem XdrR.rdError_spec {h : Heap} {r : Nat} {s : List Int × Int} {F : Nat → Prop} (f : RAt h r s F) : xcall X SP (.fn W.rdError) [.ptr r 0] h = some (.int .i64 s.2, h) := by
  obtain ⟨left, f5, _⟩ := f.view
  have L1 : loadA h false 1 r 1 = some (.int .i64 s.2) := by rw [load_of f5]; rfl
  rw [x_fn (W.kx4 _ _ _ (by simp)) W.s35]
  simp (decide := true) only [note_false, Int.reduceBEq, Int.reduceBNe, x_drawn, l_nil, l_op, l_guard, l_some, l_true, l_false, l_draw, readsA, x_true, x_false, x_seq, x_ops, x_cond, x_skip, x_ret, x_exit, x_block, x_then, x_thenE, x_thenR, x_blockN, x_blockR, x_blockE, s_nil, s_op, s_guard, s_some, s_true, s_false, s_put, s_put0, s_opsR, s_ret, s_norm, aop, ev, evs, List.map_cons, List.map_nil, List.cons_append, List.nil_append, List.append_nil, List.replicate, List.take_succ_cons, List.take_zero, List.take_nil, List.drop_succ_cons, List.drop_zero, List.drop_nil, Nat.zero_add, Nat.add_zero, Nat.reduceAdd, Nat.reduceMul, Nat.reduceLeDiff, Bool.false_eq_true, and_self, List.length_cons, List.length_nil, List.set_cons_zero, List.set_cons_succ, List.getD_cons_zero, List.getD_cons_succ, wantedA, List.getElem?_cons_zero, List.getElem?_cons_succ, q_t, q_f, Bool.not_true, Bool.not_false, b_add, b_sub, b_mul, b_eql, b_neq, b_lss, b_leq, b_gtr, b_geq, b_and, b_or, b_xor, b_quo, b_rem, b_shl, b_shr, unA, Option.map_some, Option.map_none, resA, tupA, Int.reduceLT, not_false_eq_true, not_true_eq_false, decide_true, decide_false, f_bool, c_bool, f_int, c_int, f_str, c_str, f_nilptr, c_nilptr, f_ptr, c_ptr, f_nilsl, c_nilsl, f_slice, c_slice, f_nilmap, c_nilmap, f_map, c_map, f_nilf, c_nilf, f_func, c_func, f_yieldf, c_yieldf, f_nilif, c_nilif, f_iface, c_iface, c_agg, List.all_cons, List.all_nil, Bool.and_true, Bool.true_and, if_true, if_false, ite_true, ite_false, W.none_spec f, L1]
def endE (s : List Int × Int) : Int := if s.2 = 0 ∧ s.1 ≠ [] then 5 else s.2
theorem XdrR.rdEnd_spec {h : Heap} {r : Nat} {s : List Int × Int} {F : Nat → Prop} (f : RAt h r s F) : xcall X SP (.fn W.rdEnd) [.ptr r 0] h = some (.int .i64 (endE s), h) := by
  have hf := W.fine_spec f
  have he := W.rdError_spec f
  obtain ⟨left, f5, hb, hfl, _⟩ := f.view
  have L0 : loadA h false 1 r 0 = some left := by rw [load_of f5]; rfl
  rw [x_fn (W.kx4 _ _ _ (by simp)) W.s36]
  unfold endE
  by_cases h0 : s.2 = 0
  · have hbb : (s.2 == 0) = true := by simpa using h0
    rw [hbb] at hf
    rcases hb with ⟨rfl, e⟩ | ⟨id, off, cap, ex, c, ro, rfl, _⟩
    · simp (decide := true) only [note_false, Int.reduceBEq, Int.reduceBNe, x_drawn, l_nil, l_op, l_guard, l_some, l_true, l_false, l_draw, readsA, x_true, x_false, x_seq, x_ops, x_cond, x_skip, x_ret, x_exit, x_block, x_then, x_thenE, x_thenR, x_blockN, x_blockR, x_blockE, s_nil, s_op, s_guard, s_some, s_true, s_false, s_put, s_put0, s_opsR, s_ret, s_norm, aop, ev, evs, List.map_cons, List.map_nil, List.cons_append, List.nil_append, List.append_nil, List.replicate, List.take_succ_cons, List.take_zero, List.take_nil, List.drop_succ_cons, List.drop_zero, List.drop_nil, Nat.zero_add, Nat.add_zero, Nat.reduceAdd, Nat.reduceMul, Nat.reduceLeDiff, Bool.false_eq_true, and_self, List.length_cons, List.length_nil, List.set_cons_zero, List.set_cons_succ, List.getD_cons_zero, List.getD_cons_succ, wantedA, List.getElem?_cons_zero, List.getElem?_cons_succ, q_t, q_f, Bool.not_true, Bool.not_false, b_add, b_sub, b_mul, b_eql, b_neq, b_lss, b_leq, b_gtr, b_geq, b_and, b_or, b_xor, b_quo, b_rem, b_shl, b_shr, unA, Option.map_some, Option.map_none, resA, tupA, Int.reduceLT, not_false_eq_true, not_true_eq_false, decide_true, decide_false, f_bool, c_bool, f_int, c_int, f_str, c_str, f_nilptr, c_nilptr, f_ptr, c_ptr, f_nilsl, c_nilsl, f_slice, c_slice, f_nilmap, c_nilmap, f_map, c_map, f_nilf, c_nilf, f_func, c_func, f_yieldf, c_yieldf, f_nilif, c_nilif, f_iface, c_iface, c_agg, List.all_cons, List.all_nil, Bool.and_true, Bool.true_and, if_true, if_false, ite_true, ite_false, hf, L0, he, e]
      simp
    · cases hs : s.1 with
      | nil =>
        rw [hs] at L0
        simp (decide := true) only [note_false, Int.reduceBEq, Int.reduceBNe, x_drawn, l_nil, l_op, l_guard, l_some, l_true, l_false, l_draw, readsA, x_true, x_false, x_seq, x_ops, x_cond, x_skip, x_ret, x_exit, x_block, x_then, x_thenE, x_thenR, x_blockN, x_blockR, x_blockE, s_nil, s_op, s_guard, s_some, s_true, s_false, s_put, s_put0, s_opsR, s_ret, s_norm, aop, ev, evs, List.map_cons, List.map_nil, List.cons_append, List.nil_append, List.append_nil, List.replicate, List.take_succ_cons, List.take_zero, List.take_nil, List.drop_succ_cons, List.drop_zero, List.drop_nil, Nat.zero_add, Nat.add_zero, Nat.reduceAdd, Nat.reduceMul, Nat.reduceLeDiff, Bool.false_eq_true, and_self, List.length_cons, List.length_nil, List.set_cons_zero, List.set_cons_succ, List.getD_cons_zero, List.getD_cons_succ, wantedA, List.getElem?_cons_zero, List.getElem?_cons_succ, q_t, q_f, Bool.not_true, Bool.not_false, b_add, b_sub, b_mul, b_eql, b_neq, b_lss, b_leq, b_gtr, b_geq, b_and, b_or, b_xor, b_quo, b_rem, b_shl, b_shr, unA, Option.map_some, Option.map_none, resA, tupA, Int.reduceLT, not_false_eq_true, not_true_eq_false, decide_true, decide_false, f_bool, c_bool, f_int, c_int, f_str, c_str, f_nilptr, c_nilptr, f_ptr, c_ptr, f_nilsl, c_nilsl, f_slice, c_slice, f_nilmap, c_nilmap, f_map, c_map, f_nilf, c_nilf, f_func, c_func, f_yieldf, c_yieldf, f_nilif, c_nilif, f_iface, c_iface, c_agg, List.all_cons, List.all_nil, Bool.and_true, Bool.true_and, if_true, if_false, ite_true, ite_false, hf, L0, he, Int.ofNat_zero]
        simp
      | cons x l =>
        rw [hs] at L0
        obtain ⟨N, hN⟩ : ∃ N, (x :: l).length = N := ⟨_, rfl⟩
        rw [hN] at L0
        have hgt : (N : Int) > 0 := by
          have : N = l.length + 1 := by rw [← hN]; rfl
          omega
        simp (decide := true) only [note_false, Int.reduceBEq, Int.reduceBNe, x_drawn, l_nil, l_op, l_guard, l_some, l_true, l_false, l_draw, readsA, x_true, x_false, x_seq, x_ops, x_cond, x_skip, x_ret, x_exit, x_block, x_then, x_thenE, x_thenR, x_blockN, x_blockR, x_blockE, s_nil, s_op, s_guard, s_some, s_true, s_false, s_put, s_put0, s_opsR, s_ret, s_norm, aop, ev, evs, List.map_cons, List.map_nil, List.cons_append, List.nil_append, List.append_nil, List.replicate, List.take_succ_cons, List.take_zero, List.take_nil, List.drop_succ_cons, List.drop_zero, List.drop_nil, Nat.zero_add, Nat.add_zero, Nat.reduceAdd, Nat.reduceMul, Nat.reduceLeDiff, Bool.false_eq_true, and_self, List.length_cons, List.length_nil, List.set_cons_zero, List.set_cons_succ, List.getD_cons_zero, List.getD_cons_succ, wantedA, List.getElem?_cons_zero, List.getElem?_cons_succ, q_t, q_f, Bool.not_true, Bool.not_false, b_add, b_sub, b_mul, b_eql, b_neq, b_lss, b_leq, b_gtr, b_geq, b_and, b_or, b_xor, b_quo, b_rem, b_shl, b_shr, unA, Option.map_some, Option.map_none, resA, tupA, Int.reduceLT, not_false_eq_true, not_true_eq_false, decide_true, decide_false, f_bool, c_bool, f_int, c_int, f_str, c_str, f_nilptr, c_nilptr, f_ptr, c_ptr, f_nilsl, c_nilsl, f_slice, c_slice, f_nilmap, c_nilmap, f_map, c_map, f_nilf, c_nilf, f_func, c_func, f_yieldf, c_yieldf, f_nilif, c_nilif, f_iface, c_iface, c_agg, List.all_cons, List.all_nil, Bool.and_true, Bool.true_and, if_true, if_false, ite_true, ite_false, hf, L0, he, hgt, h0]
        simp
  · have hbb : (s.2 == 0) = false := by simpa using h0
    rw [hbb] at hf
    simp (decide := true) only [note_false, Int.reduceBEq, Int.reduceBNe, x_drawn, l_nil, l_op, l_guard, l_some, l_true, l_false, l_draw, readsA, x_true, x_false, x_seq, x_ops, x_cond, x_skip, x_ret, x_exit, x_block, x_then, x_thenE, x_thenR, x_blockN, x_blockR, x_blockE, s_nil, s_op, s_guard, s_some, s_true, s_false, s_put, s_put0, s_opsR, s_ret, s_norm, aop, ev, evs, List.map_cons, List.map_nil, List.cons_append, List.nil_append, List.append_nil, List.replicate, List.take_succ_cons, List.take_zero, List.take_nil, List.drop_succ_cons, List.drop_zero, List.drop_nil, Nat.zero_add, Nat.add_zero, Nat.reduceAdd, Nat.reduceMul, Nat.reduceLeDiff, Bool.false_eq_true, and_self, List.length_cons, List.length_nil, List.set_cons_zero, List.set_cons_succ, List.getD_cons_zero, List.getD_cons_succ, wantedA, List.getElem?_cons_zero, List.getElem?_cons_succ, q_t, q_f, Bool.not_true, Bool.not_false, b_add, b_sub, b_mul, b_eql, b_neq, b_lss, b_leq, b_gtr, b_geq, b_and, b_or, b_xor, b_quo, b_rem, b_shl, b_shr, unA, Option.map_some, Option.map_none, resA, tupA, Int.reduceLT, not_false_eq_true, not_true_eq_false, decide_true, decide_false, f_bool, c_bool, f_int, c_int, f_str, c_str, f_nilptr, c_nilptr, f_ptr, c_ptr, f_nilsl, c_nilsl, f_slice, c_slice, f_nilmap, c_nilmap, f_map, c_map, f_nilf, c_nilf, f_func, c_func, f_yieldf, c_yieldf, f_nilif, c_nilif, f_iface, c_iface, c_agg, List.all_cons, List.all_nil, Bool.and_true, Bool.true_and, if_true, if_false, ite_true, ite_false, hf, he, h0]
    simp
theorem XdrR.newRd_spec {h : Heap} {v : AV} {bs : List Int} (hb : BytesAt h v bs) (hby : Bytes bs) (hl : bs.length ≤ 4294967296) : ∃ r h' F, xcall X SP (.fn W.newRd) [v] h = some (.ptr r 0, h') ∧ RAt h' r (bs, 0) F ∧ Grow h h' ∧ (∀ j, F j → h.next ≤ j) := by
  obtain ⟨v', H1, e1, g1, nb, _⟩ := clone_spec (X := X) (SP := SP) (f := W.clone2) (fun _ _ => W.kx4 _ _ _ (by simp)) W.s38 hb (by omega)
  have hfv : v'.flat = true := by rcases nb with ⟨rfl, _⟩ | ⟨_, _, _, rfl, _⟩ <;> rfl
  have hH : ∃ H2, H1.alloc (.cells [v', .int .i64 0, .bool true] false) = H2 ∧ Grow H1 H2 ∧ H2.next = H1.next + 1 ∧ H2.get H1.next = some (.cells [v', .int .i64 0, .bool true] false) := ⟨_, rfl, .alloc _ _, by simp, by rw [Heap.get_alloc, if_pos rfl]⟩
  obtain ⟨H2, hA, gA, hn, G⟩ := hH
  have q1 := g1.1
  refine ⟨H1.next, H2, fun j => h.next ≤ j ∧ j < H2.next, ?_, ⟨⟨q1, by omega⟩, fun j hj => hj.2, hby, hl, v', G, hfv, ?_⟩, g1.trans gA, fun j hj => hj.1⟩
  · rw [x_fn (W.kx4 _ _ _ (by simp)) W.s37]
    simp (decide := true) only [note_false, Int.reduceBEq, Int.reduceBNe, x_drawn, l_nil, l_op, l_guard, l_some, l_true, l_false, l_draw, readsA, x_true, x_false, x_seq, x_ops, x_cond, x_skip, x_ret, x_exit, x_block, x_then, x_thenE, x_thenR, x_blockN, x_blockR, x_blockE, s_nil, s_op, s_guard, s_some, s_true, s_false, s_put, s_put0, s_opsR, s_ret, s_norm, aop, ev, evs, List.map_cons, List.map_nil, List.cons_append, List.nil_append, List.append_nil, List.replicate, List.take_succ_cons, List.take_zero, List.take_nil, List.drop_succ_cons, List.drop_zero, List.drop_nil, Nat.zero_add, Nat.add_zero, Nat.reduceAdd, Nat.reduceMul, Nat.reduceLeDiff, Bool.false_eq_true, and_self, List.length_cons, List.length_nil, List.set_cons_zero, List.set_cons_succ, List.getD_cons_zero, List.getD_cons_succ, wantedA, List.getElem?_cons_zero, List.getElem?_cons_succ, q_t, q_f, Bool.not_true, Bool.not_false, b_add, b_sub, b_mul, b_eql, b_neq, b_lss, b_leq, b_gtr, b_geq, b_and, b_or, b_xor, b_quo, b_rem, b_shl, b_shr, unA, Option.map_some, Option.map_none, resA, tupA, Int.reduceLT, not_false_eq_true, not_true_eq_false, decide_true, decide_false, f_bool, c_bool, f_int, c_int, f_str, c_str, f_nilptr, c_nilptr, f_ptr, c_ptr, f_nilsl, c_nilsl, f_slice, c_slice, f_nilmap, c_nilmap, f_map, c_map, f_nilf, c_nilf, f_func, c_func, f_yieldf, c_yieldf, f_nilif, c_nilif, f_iface, c_iface, c_agg, List.all_cons, List.all_nil, Bool.and_true, Bool.true_and, if_true, if_false, ite_true, ite_false, e1, fillA, splice, hfv, cells_of hfv, hA]
  · rcases nb with nb | ⟨id, cap, ex, rfl, k1, k2, k3, k4, _⟩
    · exact .inl nb
    · have := Heap.lt_of_get k4
      exact .inr ⟨id, 0, cap, ex, _, rfl, k1, gA.get k4, by simp, by simp [List.take_of_length_le], by omega, ⟨k3, by omega⟩⟩

def maxZ (most : Int) : Int := if 0 > most then 0 else most
def rdB (most : Int) (s : List Int × Int) : List Int × (List Int × Int) :=
  let n := (rdN 4 s).1
  let s2 := failed (rdN 4 s).2 (decide (n > maxZ most)) 3
  if s2.2 = 0 then
    (if (s2.1.length : Int) < n + padZ n then ([], (s2.1, 4))
     else if ((s2.1.drop n.toNat).take (padZ n).toNat).any pos then ([], (s2.1, 5))
     else (s2.1.take n.toNat, (s2.1.drop (n.toNat + (padZ n).toNat), 0)))
  else ([], s2)
theorem NewBytes.from {h h1 h' : Heap} {v : AV} {bs : List Int} (hn : NewBytes h1 h' v bs) (hle : h.next ≤ h1.next) : NewBytes h h' v bs := by
  rcases hn with hn | ⟨id, cap, ex, e, k1, k2, k3, k4⟩
  · exact .inl hn
  · exact .inr ⟨id, cap, ex, e, k1, k2, by omega, k4⟩
theorem XdrR.rdBytes_spec {h : Heap} {r : Nat} {s : List Int × Int} {F : Nat → Prop} (f : RAt h r s F) {most : Int} (hm : -9223372036854775808 ≤ most ∧ most ≤ 9223372036854775807) :
    ∃ v h', xcall X SP (.fn W.rdBytes) [.ptr r 0, .int .i64 most] h = some (v, h') ∧ NewBytes h h' v (rdB most s).1 ∧ RAt h' r (rdB most s).2 F ∧ Stp h h' F F := by
  obtain ⟨H1, e1, f1, s1⟩ := W.rdNumber_spec f
  have hb4 := rdN_lt (k := 4) f.2.2.1
  have hp4 : (256 : Int) ^ 4 = 4294967296 := by decide
  rw [hp4] at hb4
  obtain ⟨H2, e2, f2, s2⟩ := W.fail_spec f1 (decide ((rdN 4 s).1 > maxZ most)) 3
  have hfd : ∀ (a : List Int × Int) (b : Bool) (e : Int), (if a.2 = 0 ∧ b = true then (a.1, e) else a) = failed a b e := fun _ _ _ => rfl
  rw [hfd] at f2
  unfold rdB
  simp only
  generalize hs2 : failed (rdN 4 s).2 (decide ((rdN 4 s).1 > maxZ most)) 3 = t at *
  generalize hn : (rdN 4 s).1 = nn at *
  obtain ⟨n, rfl⟩ : ∃ n : Nat, nn = n := ⟨nn.toNat, by omega⟩
  have hpz := padZ_le n
  obtain ⟨p, hp⟩ : ∃ p : Nat, padZ (n : Int) = p := ⟨(padZ n).toNat, by omega⟩
  rw [hp]
  have hmax : maxA (.int .i64 most) [.int .i64 0] = some (.int .i64 (maxZ most)) := by
    unfold maxZ
    by_cases h0 : (0 : Int) > most
    · simp only [maxA, if_true, h0]
    · simp only [maxA, if_true, h0, if_false]
  have hmz : 0 ≤ maxZ most ∧ maxZ most ≤ 9223372036854775807 := by unfold maxZ; split <;> omega
  have wn : IntKind.u64.wrap (n : Int) = n := IntWalk.u64_in _ (by omega)
  have wm : IntKind.u64.wrap (maxZ most) = maxZ most := IntWalk.u64_in _ (by omega)
  have wi : IntKind.i64.wrap (n : Int) = n := IntWalk.i64_in _ (by omega)
  have s12 := s1.trans s2
  have hfine2 := W.fine_spec f2
  have epad := W.toNumW.pad_spec (n := n) (by omega) (by omega) H2
  rw [hp] at epad
  have wa : IntKind.i64.wrap ((n : Int) + p) = ((n + p : Nat) : Int) := by rw [IntWalk.i64_in _ (by omega)]; simp
  by_cases h0 : t.2 = 0
  · have hb0 : (t.2 == 0) = true := by simpa using h0
    rw [hb0] at hfine2
    obtain ⟨left, g5, gb, gfl, glen⟩ := f2.view
    have L0 : loadA H2 false 1 r 0 = some left := by rw [load_of g5]; rfl
    obtain ⟨H3, e3, f3, s3⟩ := W.fail_spec f2 (decide ((t.1.length : Int) < ((n + p : Nat) : Int))) 4
    have hfine3 := W.fine_spec f3
    by_cases hl : (t.1.length : Int) < ((n + p : Nat) : Int)
    · have hl' : (t.1.length : Int) < (n : Int) + p := by simpa using hl
      have hd : decide ((t.1.length : Int) < ((n + p : Nat) : Int)) = true := decide_eq_true hl
      rw [hd] at e3
      simp only [h0, hd, and_self, if_true] at f3 hfine3
      refine ⟨.nilsl, H3, ?_, .inl ⟨rfl, by simp only [h0, if_true, hl']⟩, by simpa only [h0, if_true, hl'] using f3, s12.trans s3⟩
      rw [x_fn (W.kx4 _ _ _ (by simp)) W.s34]
      rcases gb with ⟨rfl, ge⟩ | ⟨id, off, cap, ex, c, ro, rfl, _⟩
      · rw [ge] at hl hd
        simp only [List.length_nil, Int.ofNat_zero] at hl hd
        simp (decide := true) only [note_false, Int.reduceBEq, Int.reduceBNe, x_drawn, l_nil, l_op, l_guard, l_some, l_true, l_false, l_draw, readsA, x_true, x_false, x_seq, x_ops, x_cond, x_skip, x_ret, x_exit, x_block, x_then, x_thenE, x_thenR, x_blockN, x_blockR, x_blockE, s_nil, s_op, s_guard, s_some, s_true, s_false, s_put, s_put0, s_opsR, s_ret, s_norm, aop, ev, evs, List.map_cons, List.map_nil, List.cons_append, List.nil_append, List.append_nil, List.replicate, List.take_succ_cons, List.take_zero, List.take_nil, List.drop_succ_cons, List.drop_zero, List.drop_nil, Nat.zero_add, Nat.add_zero, Nat.reduceAdd, Nat.reduceMul, Nat.reduceLeDiff, Bool.false_eq_true, and_self, List.length_cons, List.length_nil, List.set_cons_zero, List.set_cons_succ, List.getD_cons_zero, List.getD_cons_succ, wantedA, List.getElem?_cons_zero, List.getElem?_cons_succ, q_t, q_f, Bool.not_true, Bool.not_false, b_add, b_sub, b_mul, b_eql, b_neq, b_lss, b_leq, b_gtr, b_geq, b_and, b_or, b_xor, b_quo, b_rem, b_shl, b_shr, unA, Option.map_some, Option.map_none, resA, tupA, Int.reduceLT, not_false_eq_true, not_true_eq_false, decide_true, decide_false, f_bool, c_bool, f_int, c_int, f_str, c_str, f_nilptr, c_nilptr, f_ptr, c_ptr, f_nilsl, c_nilsl, f_slice, c_slice, f_nilmap, c_nilmap, f_map, c_map, f_nilf, c_nilf, f_func, c_func, f_yieldf, c_yieldf, f_nilif, c_nilif, f_iface, c_iface, c_agg, List.all_cons, List.all_nil, Bool.and_true, Bool.true_and, if_true, if_false, ite_true, ite_false, e1, wn, hmax, wm, e2, hfine2, wi, epad, L0, wa, hl, e3, hfine3]
      · simp (decide := true) only [note_false, Int.reduceBEq, Int.reduceBNe, x_drawn, l_nil, l_op, l_guard, l_some, l_true, l_false, l_draw, readsA, x_true, x_false, x_seq, x_ops, x_cond, x_skip, x_ret, x_exit, x_block, x_then, x_thenE, x_thenR, x_blockN, x_blockR, x_blockE, s_nil, s_op, s_guard, s_some, s_true, s_false, s_put, s_put0, s_opsR, s_ret, s_norm, aop, ev, evs, List.map_cons, List.map_nil, List.cons_append, List.nil_append, List.append_nil, List.replicate, List.take_succ_cons, List.take_zero, List.take_nil, List.drop_succ_cons, List.drop_zero, List.drop_nil, Nat.zero_add, Nat.add_zero, Nat.reduceAdd, Nat.reduceMul, Nat.reduceLeDiff, Bool.false_eq_true, and_self, List.length_cons, List.length_nil, List.set_cons_zero, List.set_cons_succ, List.getD_cons_zero, List.getD_cons_succ, wantedA, List.getElem?_cons_zero, List.getElem?_cons_succ, q_t, q_f, Bool.not_true, Bool.not_false, b_add, b_sub, b_mul, b_eql, b_neq, b_lss, b_leq, b_gtr, b_geq, b_and, b_or, b_xor, b_quo, b_rem, b_shl, b_shr, unA, Option.map_some, Option.map_none, resA, tupA, Int.reduceLT, not_false_eq_true, not_true_eq_false, decide_true, decide_false, f_bool, c_bool, f_int, c_int, f_str, c_str, f_nilptr, c_nilptr, f_ptr, c_ptr, f_nilsl, c_nilsl, f_slice, c_slice, f_nilmap, c_nilmap, f_map, c_map, f_nilf, c_nilf, f_func, c_func, f_yieldf, c_yieldf, f_nilif, c_nilif, f_iface, c_iface, c_agg, List.all_cons, List.all_nil, Bool.and_true, Bool.true_and, if_true, if_false, ite_true, ite_false, e1, wn, hmax, wm, e2, hfine2, wi, epad, L0, wa, hl, e3, hfine3]
    · have hl' : ¬ (t.1.length : Int) < (n : Int) + p := by simpa using hl
      have hd : decide ((t.1.length : Int) < ((n + p : Nat) : Int)) = false := decide_eq_false hl
      rw [hd] at e3
      simp only [hd, Bool.false_eq_true, and_false, if_false] at f3 hfine3
      rw [hb0] at hfine3
      obtain ⟨left3, g53, gb3, gfl3, _⟩ := f3.view
      have L3 : loadA H3 false 1 r 0 = some left3 := by rw [load_of g53]; rfl
      have ez := W.zero_spec gb3 (at_ := n) (n := p) (by omega) (by have := f3.2.2.2.1; omega)
      obtain ⟨H4, e4, f4, s4⟩ := W.fail_spec f3 ((if ((t.1.drop n).take p).any pos then (5 : Int) else 0) != 0) 5
      have hfine4 := W.fine_spec f4
      have tn : ((n : Int)).toNat = n := by omega
      have tp : ((p : Int)).toNat = p := by omega
      by_cases hz : ((t.1.drop n).take p).any pos = true
      · simp only [hz, if_true] at ez e4 f4 hfine4
        have h5 : ((5 : Int) != 0) = true := rfl
        rw [h5] at e4
        simp only [h0, h5, and_self, if_true] at f4 hfine4
        refine ⟨.nilsl, H4, ?_, .inl ⟨rfl, by simp only [h0, if_true, hl', if_false, tn, tp, hz]⟩, by simpa only [h0, if_true, hl', if_false, tn, tp, hz] using f4, s12.trans (s3.trans s4)⟩
        rw [x_fn (W.kx4 _ _ _ (by simp)) W.s34]
        rcases gb with ⟨rfl, ge⟩ | ⟨id, off, cap, ex, c, ro, rfl, _⟩
        · rw [ge] at hz; simp at hz
        · simp (decide := true) only [note_false, Int.reduceBEq, Int.reduceBNe, x_drawn, l_nil, l_op, l_guard, l_some, l_true, l_false, l_draw, readsA, x_true, x_false, x_seq, x_ops, x_cond, x_skip, x_ret, x_exit, x_block, x_then, x_thenE, x_thenR, x_blockN, x_blockR, x_blockE, s_nil, s_op, s_guard, s_some, s_true, s_false, s_put, s_put0, s_opsR, s_ret, s_norm, aop, ev, evs, List.map_cons, List.map_nil, List.cons_append, List.nil_append, List.append_nil, List.replicate, List.take_succ_cons, List.take_zero, List.take_nil, List.drop_succ_cons, List.drop_zero, List.drop_nil, Nat.zero_add, Nat.add_zero, Nat.reduceAdd, Nat.reduceMul, Nat.reduceLeDiff, Bool.false_eq_true, and_self, List.length_cons, List.length_nil, List.set_cons_zero, List.set_cons_succ, List.getD_cons_zero, List.getD_cons_succ, wantedA, List.getElem?_cons_zero, List.getElem?_cons_succ, q_t, q_f, Bool.not_true, Bool.not_false, b_add, b_sub, b_mul, b_eql, b_neq, b_lss, b_leq, b_gtr, b_geq, b_and, b_or, b_xor, b_quo, b_rem, b_shl, b_shr, unA, Option.map_some, Option.map_none, resA, tupA, Int.reduceLT, not_false_eq_true, not_true_eq_false, decide_true, decide_false, f_bool, c_bool, f_int, c_int, f_str, c_str, f_nilptr, c_nilptr, f_ptr, c_ptr, f_nilsl, c_nilsl, f_slice, c_slice, f_nilmap, c_nilmap, f_map, c_map, f_nilf, c_nilf, f_func, c_func, f_yieldf, c_yieldf, f_nilif, c_nilif, f_iface, c_iface, c_agg, List.all_cons, List.all_nil, Bool.and_true, Bool.true_and, if_true, if_false, ite_true, ite_false, e1, wn, hmax, wm, e2, hfine2, wi, epad, L0, wa, hl, e3, hfine3, L3, ez, h5, e4, hfine4]
      · have hz' : ((t.1.drop n).take p).any pos = false := by simpa using hz
        simp only [hz', Bool.false_eq_true, if_false] at ez e4 f4 hfine4
        have h5 : ((0 : Int) != 0) = false := rfl
        rw [h5] at e4
        simp only [h5, Bool.false_eq_true, and_false, if_false] at f4 hfine4
        rw [hb0] at hfine4
        obtain ⟨left4, g54, gb4, gfl4, _⟩ := f4.view
        have L4 : loadA H4 false 1 r 0 = some left4 := by rw [load_of g54]; rfl
        have hcl : ∃ v4, sliceA 1 left4 none (some (.int .i64 (n : Nat))) none = some v4 ∧ BytesAt H4 v4 (t.1.take n) := by
          rcases gb4 with ⟨rfl, ge⟩ | ⟨id, off, cap, ex, c, ro, rfl, hcap, hg, hle, hct⟩
          · have : n = 0 := by rw [ge] at hl; simp at hl; omega
            subst this
            exact ⟨.nilsl, rfl, .inl ⟨rfl, by simp⟩⟩
          · have := bd_h (k' := .i64) (len := t.1.length) (cap := cap) (j := n) (by omega)
            have hlen : (t.1.take n).length = n := by simp; omega
            refine ⟨.slice id off n cap ex 1, ?_, .inr ⟨id, off, cap, ex, c, ro, by rw [hlen], by rw [hlen]; omega, hg, by rw [hlen]; omega, ?_⟩⟩
            · simp only [sliceA, this, if_true, Nat.zero_mul, Nat.add_zero, Nat.sub_zero]
              simp
            · rw [hlen]
              have := congrArg (List.take n) hct
              rw [List.take_take, Nat.min_eq_left (by omega)] at this
              rw [this]; simp [ints, List.map_take]
        obtain ⟨v4, hsl4, hb4'⟩ := hcl
        obtain ⟨v, H5, e5, g5', nb, _⟩ := clone_spec (X := X) (SP := SP) (f := W.clone2) (fun _ _ => W.kx4 _ _ _ (by simp)) W.s38 hb4' (by have := f4.2.2.2.1; simp; omega)
        obtain ⟨left5, v5, H6, g55, hsl5, hfv5, hst, f6, s6⟩ := (f4.grow g5').skip (k := n + p) (by omega)
        have L5 : loadA H5 false 1 r 0 = some left5 := by rw [load_of g55]; rfl
        have s46 := (Stp.of_grow (F := F) g5').trans s6
        have hfv : v.flat = true := by rcases nb with ⟨rfl, _⟩ | ⟨_, _, _, rfl, _⟩ <;> rfl
        have q12 := s12.1
        have q3 := s3.1
        have q4 := s4.1
        refine ⟨v, H6, ?_, ?_, by simpa only [h0, if_true, hl', if_false, tn, tp, hz', Bool.false_eq_true] using f6, s12.trans (s3.trans (s4.trans s46))⟩
        · rw [x_fn (W.kx4 _ _ _ (by simp)) W.s34]
          rcases gb with ⟨rfl, ge⟩ | ⟨id, off, cap, ex, c, ro, rfl, _⟩
          · rw [ge] at hl
            simp only [List.length_nil, Int.ofNat_zero] at hl
            have hd0 : decide ((0 : Int) < ((n + p : Nat) : Int)) = false := decide_eq_false hl
            simp (decide := true) only [note_false, Int.reduceBEq, Int.reduceBNe, x_drawn, l_nil, l_op, l_guard, l_some, l_true, l_false, l_draw, readsA, x_true, x_false, x_seq, x_ops, x_cond, x_skip, x_ret, x_exit, x_block, x_then, x_thenE, x_thenR, x_blockN, x_blockR, x_blockE, s_nil, s_op, s_guard, s_some, s_true, s_false, s_put, s_put0, s_opsR, s_ret, s_norm, aop, ev, evs, List.map_cons, List.map_nil, List.cons_append, List.nil_append, List.append_nil, List.replicate, List.take_succ_cons, List.take_zero, List.take_nil, List.drop_succ_cons, List.drop_zero, List.drop_nil, Nat.zero_add, Nat.add_zero, Nat.reduceAdd, Nat.reduceMul, Nat.reduceLeDiff, Bool.false_eq_true, and_self, List.length_cons, List.length_nil, List.set_cons_zero, List.set_cons_succ, List.getD_cons_zero, List.getD_cons_succ, wantedA, List.getElem?_cons_zero, List.getElem?_cons_succ, q_t, q_f, Bool.not_true, Bool.not_false, b_add, b_sub, b_mul, b_eql, b_neq, b_lss, b_leq, b_gtr, b_geq, b_and, b_or, b_xor, b_quo, b_rem, b_shl, b_shr, unA, Option.map_some, Option.map_none, resA, tupA, Int.reduceLT, not_false_eq_true, not_true_eq_false, decide_true, decide_false, f_bool, c_bool, f_int, c_int, f_str, c_str, f_nilptr, c_nilptr, f_ptr, c_ptr, f_nilsl, c_nilsl, f_slice, c_slice, f_nilmap, c_nilmap, f_map, c_map, f_nilf, c_nilf, f_func, c_func, f_yieldf, c_yieldf, f_nilif, c_nilif, f_iface, c_iface, c_agg, List.all_cons, List.all_nil, Bool.and_true, Bool.true_and, if_true, if_false, ite_true, ite_false, e1, wn, hmax, wm, e2, hfine2, wi, epad, L0, wa, hl, e3, hfine3, L3, ez, h5, e4, hfine4, L4, hsl4, e5, L5, hsl5, hst, hfv5, cells_of hfv5]
          · simp (decide := true) only [note_false, Int.reduceBEq, Int.reduceBNe, x_drawn, l_nil, l_op, l_guard, l_some, l_true, l_false, l_draw, readsA, x_true, x_false, x_seq, x_ops, x_cond, x_skip, x_ret, x_exit, x_block, x_then, x_thenE, x_thenR, x_blockN, x_blockR, x_blockE, s_nil, s_op, s_guard, s_some, s_true, s_false, s_put, s_put0, s_opsR, s_ret, s_norm, aop, ev, evs, List.map_cons, List.map_nil, List.cons_append, List.nil_append, List.append_nil, List.replicate, List.take_succ_cons, List.take_zero, List.take_nil, List.drop_succ_cons, List.drop_zero, List.drop_nil, Nat.zero_add, Nat.add_zero, Nat.reduceAdd, Nat.reduceMul, Nat.reduceLeDiff, Bool.false_eq_true, and_self, List.length_cons, List.length_nil, List.set_cons_zero, List.set_cons_succ, List.getD_cons_zero, List.getD_cons_succ, wantedA, List.getElem?_cons_zero, List.getElem?_cons_succ, q_t, q_f, Bool.not_true, Bool.not_false, b_add, b_sub, b_mul, b_eql, b_neq, b_lss, b_leq, b_gtr, b_geq, b_and, b_or, b_xor, b_quo, b_rem, b_shl, b_shr, unA, Option.map_some, Option.map_none, resA, tupA, Int.reduceLT, not_false_eq_true, not_true_eq_false, decide_true, decide_false, f_bool, c_bool, f_int, c_int, f_str, c_str, f_nilptr, c_nilptr, f_ptr, c_ptr, f_nilsl, c_nilsl, f_slice, c_slice, f_nilmap, c_nilmap, f_map, c_map, f_nilf, c_nilf, f_func, c_func, f_yieldf, c_yieldf, f_nilif, c_nilif, f_iface, c_iface, c_agg, List.all_cons, List.all_nil, Bool.and_true, Bool.true_and, if_true, if_false, ite_true, ite_false, e1, wn, hmax, wm, e2, hfine2, wi, epad, L0, wa, hl, e3, hfine3, L3, ez, h5, e4, hfine4, L4, hsl4, e5, L5, hsl5, hst, hfv5, cells_of hfv5]
        · simp only [h0, if_true, hl', if_false, tn, tp, hz', Bool.false_eq_true]
          rcases nb with nb | ⟨i, cp, ex2, ev, k1, k2, k3, k4, k5⟩
          · exact .inl nb
          · have hi := Heap.lt_of_get k4
            have hFi : ∀ j, H4.next ≤ j → ¬ F j := fun j hj hF => by have := f4.2.1 j hF; omega
            refine .inr ⟨i, cp, ex2, ev, k1, k2, by omega, by rw [s6.2.1 i hi (hFi i k3)]; exact k4, k5.imp (fun e => e) fun e => ?_⟩
            have hi2 := Heap.byteAt_lt e
            rw [Heap.byteAt_of (s6.2.1 (i + 1) hi2 (hFi (i + 1) (by omega)))]; exact e
  · have hb0 : (t.2 == 0) = false := by simpa using h0
    rw [hb0] at hfine2
    refine ⟨.nilsl, H2, ?_, .inl ⟨rfl, by simp only [h0, if_false]⟩, by simpa only [h0, if_false] using f2, s12⟩
    rw [x_fn (W.kx4 _ _ _ (by simp)) W.s34]
    simp (decide := true) only [note_false, Int.reduceBEq, Int.reduceBNe, x_drawn, l_nil, l_op, l_guard, l_some, l_true, l_false, l_draw, readsA, x_true, x_false, x_seq, x_ops, x_cond, x_skip, x_ret, x_exit, x_block, x_then, x_thenE, x_thenR, x_blockN, x_blockR, x_blockE, s_nil, s_op, s_guard, s_some, s_true, s_false, s_put, s_put0, s_opsR, s_ret, s_norm, aop, ev, evs, List.map_cons, List.map_nil, List.cons_append, List.nil_append, List.append_nil, List.replicate, List.take_succ_cons, List.take_zero, List.take_nil, List.drop_succ_cons, List.drop_zero, List.drop_nil, Nat.zero_add, Nat.add_zero, Nat.reduceAdd, Nat.reduceMul, Nat.reduceLeDiff, Bool.false_eq_true, and_self, List.length_cons, List.length_nil, List.set_cons_zero, List.set_cons_succ, List.getD_cons_zero, List.getD_cons_succ, wantedA, List.getElem?_cons_zero, List.getElem?_cons_succ, q_t, q_f, Bool.not_true, Bool.not_false, b_add, b_sub, b_mul, b_eql, b_neq, b_lss, b_leq, b_gtr, b_geq, b_and, b_or, b_xor, b_quo, b_rem, b_shl, b_shr, unA, Option.map_some, Option.map_none, resA, tupA, Int.reduceLT, not_false_eq_true, not_true_eq_false, decide_true, decide_false, f_bool, c_bool, f_int, c_int, f_str, c_str, f_nilptr, c_nilptr, f_ptr, c_ptr, f_nilsl, c_nilsl, f_slice, c_slice, f_nilmap, c_nilmap, f_map, c_map, f_nilf, c_nilf, f_func, c_func, f_yieldf, c_yieldf, f_nilif, c_nilif, f_iface, c_iface, c_agg, List.all_cons, List.all_nil, Bool.and_true, Bool.true_and, if_true, if_false, ite_true, ite_false, e1, wn, hmax, wm, e2, hfine2]
end
end Go.Ya
