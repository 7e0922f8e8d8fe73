/-
 The functions that the laws reach, as the abstract machine has them (printed by wip/gen/Gen.lean).
-/
import Derived.Test.YtbcmdlaffjmfdaaChecked
import Derived.KernelRfl
import Derived.Test.YtbcmdlaffjmfdaaYbG
namespace Go.Proofs.Ytbcmdlaffjmfdaa.Ya
open Go.Ya
set_option maxRecDepth 100000
set_option linter.unusedVariables false

/-- wharfage/wharfagelaw07.BatchTells -/
def sf3 : SFunc := ⟨91,
 [.tmp 8],
 .seq
 (.ops [⟨some 8, .mov (.c (.bool false)), none⟩])
 (.seq
 (.seq
 (.ops
 [⟨some 18, .mov (.t 0), none⟩,
 ⟨some 19, .len (.sl) (.t 18), none⟩,
 ⟨some 20, .bin (.gtr) (.other) (.t 19) (.c (.int (.i64) 200)), none⟩,
 ⟨some 21, .mov (.t 20), none⟩,
 ⟨some 22, .mov (.t 1), some (21, false)⟩,
 ⟨some 23, .len (.sl) (.t 22), some (21, false)⟩,
 ⟨some 24, .bin (.gtr) (.other) (.t 23) (.c (.int (.i64) 262144)), some (21, false)⟩,
 ⟨some 25, .pick (.t 21) (.c (.bool true)) (.t 24), none⟩])
 (.cond
 (.t 25)
 (.seq (.ops [⟨some 26, .call 8 [], none⟩, ⟨some 8, .mov (.t 26), none⟩]) (.ret))
 (.skip)))
 (.seq
 (.ops
 [⟨some 27, .mov (.t 1), none⟩, ⟨some 28, .call 9 [.t 27], none⟩, ⟨some 9, .mov (.t 28), none⟩])
 (.seq
 (.ops
 [⟨some 30, .mov (.t 0), none⟩,
 ⟨some 31, .call 10 [.t 30], none⟩,
 ⟨some 29, .mov (.t 31), none⟩,
 ⟨some 32, .extract (.t 29) 0, none⟩,
 ⟨some 33, .extract (.t 29) 1, none⟩,
 ⟨some 10, .mov (.t 32), none⟩,
 ⟨some 11, .mov (.t 33), none⟩])
 (.seq
 (.ops
 [⟨some 35, .mov (.t 0), none⟩,
 ⟨some 36, .call 11 [.t 35], none⟩,
 ⟨some 34, .mov (.t 36), none⟩,
 ⟨some 37, .extract (.t 34) 0, none⟩,
 ⟨some 38, .extract (.t 34) 1, none⟩,
 ⟨some 12, .mov (.t 37), none⟩,
 ⟨some 13, .mov (.t 38), none⟩])
 (.seq
 (.ops
 [⟨some 40, .mov (.t 9), none⟩,
 ⟨some 41, .call 12 [.t 40], none⟩,
 ⟨some 39, .mov (.t 41), none⟩,
 ⟨some 42, .extract (.t 39) 0, none⟩,
 ⟨some 43, .extract (.t 39) 1, none⟩,
 ⟨some 14, .mov (.t 42), none⟩,
 ⟨some 15, .mov (.t 43), none⟩])
 (.seq
 (.ops
 [⟨some 45, .mov (.t 1), none⟩,
 ⟨some 46, .call 13 [.t 45], none⟩,
 ⟨some 44, .mov (.t 46), none⟩,
 ⟨some 47, .extract (.t 44) 0, none⟩,
 ⟨some 48, .extract (.t 44) 1, none⟩,
 ⟨some 16, .mov (.t 47), none⟩,
 ⟨some 17, .mov (.t 48), none⟩])
 (.seq
 (.seq
 (.ops
 [⟨some 49, .mov (.t 0), none⟩,
 ⟨some 50, .call 14 [.t 49], none⟩,
 ⟨some 51, .mov (.t 0), none⟩,
 ⟨some 52, .call 15 [.t 51], none⟩,
 ⟨some 53, .bin (.neq) (.bool) (.t 50) (.t 52), none⟩,
 ⟨some 54, .mov (.t 53), none⟩,
 ⟨some 55, .mov (.t 10), some (54, false)⟩,
 ⟨some 56, .mov (.t 12), some (54, false)⟩,
 ⟨some 57, .call 16 [.t 55, .t 56], some (54, false)⟩,
 ⟨some 58, .un (.not) (.t 57), some (54, false)⟩,
 ⟨some 59, .pick (.t 54) (.c (.bool true)) (.t 58), none⟩,
 ⟨some 60, .mov (.t 59), none⟩,
 ⟨some 61, .mov (.t 11), some (60, false)⟩,
 ⟨some 62, .mov (.t 13), some (60, false)⟩,
 ⟨some 63, .bin (.neq) (.other) (.t 61) (.t 62), some (60, false)⟩,
 ⟨some 64, .pick (.t 60) (.c (.bool true)) (.t 63), none⟩,
 ⟨some 65, .mov (.t 64), none⟩,
 ⟨some 66, .mov (.t 14), some (65, false)⟩,
 ⟨some 67, .mov (.t 16), some (65, false)⟩,
 ⟨some 68, .call 17 [.t 66, .t 67], some (65, false)⟩,
 ⟨some 69, .un (.not) (.t 68), some (65, false)⟩,
 ⟨some 70, .pick (.t 65) (.c (.bool true)) (.t 69), none⟩,
 ⟨some 71, .mov (.t 70), none⟩,
 ⟨some 72, .mov (.t 15), some (71, false)⟩,
 ⟨some 73, .mov (.t 17), some (71, false)⟩,
 ⟨some 74, .bin (.neq) (.other) (.t 72) (.t 73), some (71, false)⟩,
 ⟨some 75, .pick (.t 71) (.c (.bool true)) (.t 74), none⟩])
 (.cond (.t 75) (.seq (.ops [⟨some 8, .mov (.c (.bool false)), none⟩]) (.ret)) (.skip)))
 (.seq
 (.ops
 [⟨some 76, .mov (.t 2), none⟩,
 ⟨some 77, .mov (.t 3), none⟩,
 ⟨some 78, .call 18 [.t 76, .t 77], none⟩,
 ⟨some 79, .mov (.t 2), none⟩,
 ⟨some 80, .mov (.t 3), none⟩,
 ⟨some 81, .call 19 [.t 79, .t 80], none⟩,
 ⟨some 82, .bin (.eql) (.other) (.t 78) (.t 81), none⟩,
 ⟨some 83, .mov (.t 82), none⟩,
 ⟨some 84, .mov (.t 9), some (83, true)⟩,
 ⟨some 85, .mov (.t 1), some (83, true)⟩,
 ⟨some 86, .call 20 [.t 84, .t 85], some (83, true)⟩,
 ⟨some 87, .pick (.t 83) (.t 86) (.c (.bool false)), none⟩,
 ⟨some 88, .mov (.t 87), none⟩,
 ⟨some 89, .call 8 [], some (88, true)⟩,
 ⟨some 90, .pick (.t 88) (.t 89) (.c (.bool false)), none⟩,
 ⟨some 8, .mov (.t 90), none⟩])
 (.ret)))))))))⟩
theorem c3 : cFunc Try.prog Try.f3 = some sf3 := by kernel_rfl

/-- wharfage/wharfagelaw07.BatchTables -/
def sf4 : SFunc := ⟨106,
 [.tmp 8],
 .seq
 (.ops [⟨some 8, .mov (.c (.bool false)), none⟩])
 (.seq
 (.seq
 (.ops
 [⟨some 19, .mov (.t 0), none⟩,
 ⟨some 20, .len (.sl) (.t 19), none⟩,
 ⟨some 21, .bin (.gtr) (.other) (.t 20) (.c (.int (.i64) 60)), none⟩,
 ⟨some 22, .mov (.t 21), none⟩,
 ⟨some 23, .mov (.t 1), some (22, false)⟩,
 ⟨some 24, .len (.sl) (.t 23), some (22, false)⟩,
 ⟨some 25, .bin (.gtr) (.other) (.t 24) (.c (.int (.i64) 60)), some (22, false)⟩,
 ⟨some 26, .pick (.t 22) (.c (.bool true)) (.t 25), none⟩,
 ⟨some 27, .mov (.t 26), none⟩,
 ⟨some 28, .mov (.t 2), some (27, false)⟩,
 ⟨some 29, .len (.sl) (.t 28), some (27, false)⟩,
 ⟨some 30, .bin (.gtr) (.other) (.t 29) (.c (.int (.i64) 60)), some (27, false)⟩,
 ⟨some 31, .pick (.t 27) (.c (.bool true)) (.t 30), none⟩])
 (.cond
 (.t 31)
 (.seq (.ops [⟨some 32, .call 8 [], none⟩, ⟨some 8, .mov (.t 32), none⟩]) (.ret))
 (.skip)))
 (.seq
 (.ops
 [⟨some 34, .mov (.t 0), none⟩,
 ⟨some 35, .mov (.t 2), none⟩,
 ⟨some 36, .call 21 [.t 34, .t 35], none⟩,
 ⟨some 33, .mov (.t 36), none⟩,
 ⟨some 37, .extract (.t 33) 0, none⟩,
 ⟨some 38, .extract (.t 33) 1, none⟩,
 ⟨some 9, .mov (.t 37), none⟩,
 ⟨some 10, .mov (.t 38), none⟩])
 (.seq
 (.ops
 [⟨some 40, .mov (.t 0), none⟩,
 ⟨some 41, .mov (.t 2), none⟩,
 ⟨some 42, .call 22 [.t 40, .t 41], none⟩,
 ⟨some 39, .mov (.t 42), none⟩,
 ⟨some 43, .extract (.t 39) 0, none⟩,
 ⟨some 44, .extract (.t 39) 1, none⟩,
 ⟨some 11, .mov (.t 43), none⟩,
 ⟨some 12, .mov (.t 44), none⟩])
 (.seq
 (.seq
 (.ops
 [⟨some 45, .mov (.t 0), none⟩,
 ⟨some 46, .call 23 [.t 45], none⟩,
 ⟨some 47, .mov (.t 0), none⟩,
 ⟨some 48, .call 24 [.t 47], none⟩,
 ⟨some 49, .bin (.neq) (.bool) (.t 46) (.t 48), none⟩,
 ⟨some 50, .mov (.t 49), none⟩,
 ⟨some 51, .mov (.t 9), some (50, false)⟩,
 ⟨some 52, .mov (.t 11), some (50, false)⟩,
 ⟨some 53, .call 25 [.t 51, .t 52], some (50, false)⟩,
 ⟨some 54, .un (.not) (.t 53), some (50, false)⟩,
 ⟨some 55, .pick (.t 50) (.c (.bool true)) (.t 54), none⟩,
 ⟨some 56, .mov (.t 55), none⟩,
 ⟨some 57, .mov (.t 10), some (56, false)⟩,
 ⟨some 58, .mov (.t 12), some (56, false)⟩,
 ⟨some 59, .bin (.neq) (.other) (.t 57) (.t 58), some (56, false)⟩,
 ⟨some 60, .pick (.t 56) (.c (.bool true)) (.t 59), none⟩])
 (.cond (.t 60) (.seq (.ops [⟨some 8, .mov (.c (.bool false)), none⟩]) (.ret)) (.skip)))
 (.seq
 (.ops
 [⟨some 62, .mov (.t 0), none⟩,
 ⟨some 63, .mov (.t 1), none⟩,
 ⟨some 64, .call 26 [.t 62, .t 63], none⟩,
 ⟨some 61, .mov (.t 64), none⟩,
 ⟨some 65, .extract (.t 61) 0, none⟩,
 ⟨some 66, .extract (.t 61) 1, none⟩,
 ⟨some 13, .mov (.t 65), none⟩,
 ⟨some 10, .mov (.t 66), none⟩])
 (.seq
 (.ops
 [⟨some 68, .mov (.t 0), none⟩,
 ⟨some 69, .mov (.t 1), none⟩,
 ⟨some 70, .call 27 [.t 68, .t 69], none⟩,
 ⟨some 67, .mov (.t 70), none⟩,
 ⟨some 71, .extract (.t 67) 0, none⟩,
 ⟨some 72, .extract (.t 67) 1, none⟩,
 ⟨some 14, .mov (.t 71), none⟩,
 ⟨some 12, .mov (.t 72), none⟩])
 (.seq
 (.ops
 [⟨some 74, .mov (.t 0), none⟩,
 ⟨some 75, .mov (.t 3), none⟩,
 ⟨some 76, .call 28 [.t 74, .t 75], none⟩,
 ⟨some 73, .mov (.t 76), none⟩,
 ⟨some 77, .extract (.t 73) 0, none⟩,
 ⟨some 78, .extract (.t 73) 1, none⟩,
 ⟨some 15, .mov (.t 77), none⟩,
 ⟨some 16, .mov (.t 78), none⟩])
 (.seq
 (.ops
 [⟨some 80, .mov (.t 0), none⟩,
 ⟨some 81, .mov (.t 3), none⟩,
 ⟨some 82, .call 29 [.t 80, .t 81], none⟩,
 ⟨some 79, .mov (.t 82), none⟩,
 ⟨some 83, .extract (.t 79) 0, none⟩,
 ⟨some 84, .extract (.t 79) 1, none⟩,
 ⟨some 17, .mov (.t 83), none⟩,
 ⟨some 18, .mov (.t 84), none⟩])
 (.seq
 (.ops
 [⟨some 85, .mov (.t 13), none⟩,
 ⟨some 86, .mov (.t 14), none⟩,
 ⟨some 87, .call 17 [.t 85, .t 86], none⟩,
 ⟨some 88, .mov (.t 87), none⟩,
 ⟨some 89, .mov (.t 10), some (88, true)⟩,
 ⟨some 90, .mov (.t 12), some (88, true)⟩,
 ⟨some 91, .bin (.eql) (.other) (.t 89) (.t 90), some (88, true)⟩,
 ⟨some 92, .pick (.t 88) (.t 91) (.c (.bool false)), none⟩,
 ⟨some 93, .mov (.t 92), none⟩,
 ⟨some 94, .mov (.t 15), some (93, true)⟩,
 ⟨some 95, .mov (.t 17), some (93, true)⟩,
 ⟨some 96, .call 16 [.t 94, .t 95], some (93, true)⟩,
 ⟨some 97, .pick (.t 93) (.t 96) (.c (.bool false)), none⟩,
 ⟨some 98, .mov (.t 97), none⟩,
 ⟨some 99, .mov (.t 16), some (98, true)⟩,
 ⟨some 100, .mov (.t 18), some (98, true)⟩,
 ⟨some 101, .bin (.eql) (.bool) (.t 99) (.t 100), some (98, true)⟩,
 ⟨some 102, .pick (.t 98) (.t 101) (.c (.bool false)), none⟩,
 ⟨some 103, .mov (.t 102), none⟩,
 ⟨some 104, .call 8 [], some (103, true)⟩,
 ⟨some 105, .pick (.t 103) (.t 104) (.c (.bool false)), none⟩,
 ⟨some 8, .mov (.t 105), none⟩])
 (.ret))))))))))⟩
theorem c4 : cFunc Try.prog Try.f4 = some sf4 := by kernel_rfl

/-- wharfage/wharfagelaw07.BatchCarries -/
def sf5 : SFunc := ⟨124,
 [.tmp 6],
 .seq
 (.ops [⟨some 6, .mov (.c (.bool false)), none⟩])
 (.seq
 (.seq
 (.ops
 [⟨some 17, .mov (.t 0), none⟩,
 ⟨some 18, .len (.sl) (.t 17), none⟩,
 ⟨some 19, .bin (.gtr) (.other) (.t 18) (.c (.int (.i64) 200)), none⟩,
 ⟨some 20, .mov (.t 19), none⟩,
 ⟨some 21, .mov (.t 1), some (20, false)⟩,
 ⟨some 22, .len (.sl) (.t 21), some (20, false)⟩,
 ⟨some 23, .bin (.gtr) (.other) (.t 22) (.c (.int (.i64) 262144)), some (20, false)⟩,
 ⟨some 24, .pick (.t 20) (.c (.bool true)) (.t 23), none⟩])
 (.cond
 (.t 24)
 (.seq (.ops [⟨some 25, .call 8 [], none⟩, ⟨some 6, .mov (.t 25), none⟩]) (.ret))
 (.skip)))
 (.seq
 (.ops
 [⟨some 27, .mov (.t 0), none⟩,
 ⟨some 28, .call 10 [.t 27], none⟩,
 ⟨some 26, .mov (.t 28), none⟩,
 ⟨some 29, .extract (.t 26) 0, none⟩,
 ⟨some 30, .extract (.t 26) 1, none⟩,
 ⟨some 7, .mov (.t 29), none⟩,
 ⟨some 8, .mov (.t 30), none⟩])
 (.seq
 (.seq
 (.ops
 [⟨some 31, .mov (.t 8), none⟩,
 ⟨some 32, .bin (.eql) (.other) (.t 31) (.c (.int (.i64) 0)), none⟩,
 ⟨some 33, .mov (.t 0), none⟩,
 ⟨some 34, .call 14 [.t 33], none⟩,
 ⟨some 35, .bin (.neq) (.bool) (.t 32) (.t 34), none⟩])
 (.cond (.t 35) (.seq (.ops [⟨some 6, .mov (.c (.bool false)), none⟩]) (.ret)) (.skip)))
 (.seq
 (.seq
 (.ops
 [⟨some 36, .mov (.t 8), none⟩,
 ⟨some 37, .bin (.eql) (.other) (.t 36) (.c (.int (.i64) 0)), none⟩])
 (.cond
 (.t 37)
 (.seq
 (.ops
 [⟨some 39, .mov (.t 7), none⟩,
 ⟨some 40, .call 12 [.t 39], none⟩,
 ⟨some 38, .mov (.t 40), none⟩,
 ⟨some 41, .extract (.t 38) 0, none⟩,
 ⟨some 42, .extract (.t 38) 1, none⟩,
 ⟨some 9, .mov (.t 41), none⟩,
 ⟨some 10, .mov (.t 42), none⟩])
 (.seq
 (.seq
 (.ops
 [⟨some 43, .mov (.t 10), none⟩,
 ⟨some 44, .bin (.neq) (.other) (.t 43) (.c (.int (.i64) 0)), none⟩,
 ⟨some 45, .mov (.t 44), none⟩,
 ⟨some 46, .mov (.t 9), some (45, false)⟩,
 ⟨some 47, .mov (.t 0), some (45, false)⟩,
 ⟨some 48, .call 17 [.t 46, .t 47], some (45, false)⟩,
 ⟨some 49, .un (.not) (.t 48), some (45, false)⟩,
 ⟨some 50, .pick (.t 45) (.c (.bool true)) (.t 49), none⟩])
 (.cond (.t 50) (.seq (.ops [⟨some 6, .mov (.c (.bool false)), none⟩]) (.ret)) (.skip)))
 (.seq
 (.ops
 [⟨some 51, .mov (.t 2), none⟩,
 ⟨some 52, .bin (.geq) (.other) (.t 51) (.c (.int (.i64) 0)), none⟩,
 ⟨some 53, .mov (.t 52), none⟩,
 ⟨some 54, .mov (.t 2), some (53, true)⟩,
 ⟨some 55, .mov (.t 7), some (53, true)⟩,
 ⟨some 56, .len (.sl) (.t 55), some (53, true)⟩,
 ⟨some 57, .bin (.lss) (.other) (.t 54) (.t 56), some (53, true)⟩,
 ⟨some 58, .pick (.t 53) (.t 57) (.c (.bool false)), none⟩])
 (.cond
 (.t 58)
 (.seq
 (.ops
 [⟨some 60, .mov (.t 7), none⟩,
 ⟨some 61, .mov (.t 2), none⟩,
 ⟨some 62, .slice 1 (.t 60) none (some (.t 61)) none, none⟩,
 ⟨some 63, .call 12 [.t 62], none⟩,
 ⟨some 59, .mov (.t 63), none⟩,
 ⟨some 64, .extract (.t 59) 0, none⟩,
 ⟨some 65, .extract (.t 59) 1, none⟩,
 ⟨some 11, .mov (.t 64), none⟩,
 ⟨some 12, .mov (.t 65), none⟩])
 (.seq
 (.ops
 [⟨some 66, .mov (.t 12), none⟩,
 ⟨some 67, .bin (.neq) (.other) (.t 66) (.c (.int (.i64) 0)), none⟩,
 ⟨some 68, .mov (.t 67), none⟩,
 ⟨some 69, .mov (.t 12), some (68, true)⟩,
 ⟨some 70, .bin (.neq) (.other) (.t 69) (.c (.int (.i64) 4)), some (68, true)⟩,
 ⟨some 71, .pick (.t 68) (.t 70) (.c (.bool false)), none⟩,
 ⟨some 72, .mov (.t 71), none⟩,
 ⟨some 73, .mov (.t 11), some (72, false)⟩,
 ⟨some 74, .len (.sl) (.t 73), some (72, false)⟩,
 ⟨some 75, .mov (.t 0), some (72, false)⟩,
 ⟨some 76, .len (.sl) (.t 75), some (72, false)⟩,
 ⟨some 77, .bin (.geq) (.other) (.t 74) (.t 76), some (72, false)⟩,
 ⟨some 78, .pick (.t 72) (.c (.bool true)) (.t 77), none⟩,
 ⟨some 79, .mov (.t 78), none⟩,
 ⟨some 80, .mov (.t 12), some (79, false)⟩,
 ⟨some 81, .bin (.eql) (.other) (.t 80) (.c (.int (.i64) 0)), some (79, false)⟩,
 ⟨some 82, .mov (.t 81), some (79, false)⟩,
 ⟨some 83, .mov (.t 11), some (82, true)⟩,
 ⟨some 84, .mov (.t 0), some (82, true)⟩,
 ⟨some 85, .mov (.t 11), some (82, true)⟩,
 ⟨some 86, .len (.sl) (.t 85), some (82, true)⟩,
 ⟨some 87, .slice 3 (.t 84) none (some (.t 86)) none, some (82, true)⟩,
 ⟨some 88, .call 17 [.t 83, .t 87], some (82, true)⟩,
 ⟨some 89, .un (.not) (.t 88), some (82, true)⟩,
 ⟨some 90, .pick (.t 82) (.t 89) (.c (.bool false)), some (79, false)⟩,
 ⟨some 91, .pick (.t 79) (.c (.bool true)) (.t 90), none⟩])
 (.cond (.t 91) (.seq (.ops [⟨some 6, .mov (.c (.bool false)), none⟩]) (.ret)) (.skip))))
 (.skip)))))
 (.skip)))
 (.seq
 (.ops
 [⟨some 93, .mov (.t 1), none⟩,
 ⟨some 94, .call 12 [.t 93], none⟩,
 ⟨some 92, .mov (.t 94), none⟩,
 ⟨some 95, .extract (.t 92) 0, none⟩,
 ⟨some 96, .extract (.t 92) 1, none⟩,
 ⟨some 13, .mov (.t 95), none⟩,
 ⟨some 14, .mov (.t 96), none⟩])
 (.seq
 (.seq
 (.ops
 [⟨some 97, .mov (.t 14), none⟩,
 ⟨some 98, .bin (.neq) (.other) (.t 97) (.c (.int (.i64) 0)), none⟩])
 (.cond
 (.t 98)
 (.seq
 (.ops
 [⟨some 99, .mov (.t 13), none⟩,
 ⟨some 100, .len (.sl) (.t 99), none⟩,
 ⟨some 101, .bin (.eql) (.other) (.t 100) (.c (.int (.i64) 0)), none⟩,
 ⟨some 102, .mov (.t 101), none⟩,
 ⟨some 103, .call 8 [], some (102, true)⟩,
 ⟨some 104, .pick (.t 102) (.t 103) (.c (.bool false)), none⟩,
 ⟨some 6, .mov (.t 104), none⟩])
 (.ret))
 (.skip)))
 (.seq
 (.ops
 [⟨some 106, .mov (.t 13), none⟩,
 ⟨some 107, .call 10 [.t 106], none⟩,
 ⟨some 105, .mov (.t 107), none⟩,
 ⟨some 108, .extract (.t 105) 0, none⟩,
 ⟨some 109, .extract (.t 105) 1, none⟩,
 ⟨some 15, .mov (.t 108), none⟩,
 ⟨some 16, .mov (.t 109), none⟩])
 (.seq
 (.ops
 [⟨some 110, .mov (.t 16), none⟩,
 ⟨some 111, .bin (.eql) (.other) (.t 110) (.c (.int (.i64) 0)), none⟩,
 ⟨some 112, .mov (.t 111), none⟩,
 ⟨some 113, .mov (.t 15), some (112, true)⟩,
 ⟨some 114, .mov (.t 1), some (112, true)⟩,
 ⟨some 115, .call 16 [.t 113, .t 114], some (112, true)⟩,
 ⟨some 116, .pick (.t 112) (.t 115) (.c (.bool false)), none⟩,
 ⟨some 117, .mov (.t 116), none⟩,
 ⟨some 118, .mov (.t 13), some (117, true)⟩,
 ⟨some 119, .call 14 [.t 118], some (117, true)⟩,
 ⟨some 120, .pick (.t 117) (.t 119) (.c (.bool false)), none⟩,
 ⟨some 121, .mov (.t 120), none⟩,
 ⟨some 122, .call 8 [], some (121, true)⟩,
 ⟨some 123, .pick (.t 121) (.t 122) (.c (.bool false)), none⟩,
 ⟨some 6, .mov (.t 123), none⟩])
 (.ret)))))))))⟩
theorem c5 : cFunc Try.prog Try.f5 = some sf5 := by kernel_rfl

/-- wharfage/wharfagelaw07.BatchLeads -/
def sf6 : SFunc := ⟨134,
 [.tmp 8],
 .seq
 (.ops [⟨some 8, .mov (.c (.bool false)), none⟩])
 (.seq
 (.seq
 (.ops
 [⟨some 21, .mov (.t 0), none⟩,
 ⟨some 22, .len (.sl) (.t 21), none⟩,
 ⟨some 23, .bin (.gtr) (.other) (.t 22) (.c (.int (.i64) 60)), none⟩,
 ⟨some 24, .mov (.t 23), none⟩,
 ⟨some 25, .mov (.t 1), some (24, false)⟩,
 ⟨some 26, .len (.sl) (.t 25), some (24, false)⟩,
 ⟨some 27, .bin (.gtr) (.other) (.t 26) (.c (.int (.i64) 60)), some (24, false)⟩,
 ⟨some 28, .pick (.t 24) (.c (.bool true)) (.t 27), none⟩,
 ⟨some 29, .mov (.t 28), none⟩,
 ⟨some 30, .mov (.t 2), some (29, false)⟩,
 ⟨some 31, .len (.sl) (.t 30), some (29, false)⟩,
 ⟨some 32, .bin (.gtr) (.other) (.t 31) (.c (.int (.i64) 60)), some (29, false)⟩,
 ⟨some 33, .pick (.t 29) (.c (.bool true)) (.t 32), none⟩])
 (.cond
 (.t 33)
 (.seq (.ops [⟨some 34, .call 8 [], none⟩, ⟨some 8, .mov (.t 34), none⟩]) (.ret))
 (.skip)))
 (.seq
 (.ops
 [⟨some 36, .mov (.t 0), none⟩,
 ⟨some 37, .mov (.t 2), none⟩,
 ⟨some 38, .call 21 [.t 36, .t 37], none⟩,
 ⟨some 35, .mov (.t 38), none⟩,
 ⟨some 39, .extract (.t 35) 0, none⟩,
 ⟨some 40, .extract (.t 35) 1, none⟩,
 ⟨some 9, .mov (.t 39), none⟩,
 ⟨some 10, .mov (.t 40), none⟩])
 (.seq
 (.ops
 [⟨some 42, .mov (.t 9), none⟩,
 ⟨some 43, .mov (.t 2), none⟩,
 ⟨some 44, .call 21 [.t 42, .t 43], none⟩,
 ⟨some 41, .mov (.t 44), none⟩,
 ⟨some 45, .extract (.t 41) 0, none⟩,
 ⟨some 46, .extract (.t 41) 1, none⟩,
 ⟨some 11, .mov (.t 45), none⟩,
 ⟨some 12, .mov (.t 46), none⟩])
 (.seq
 (.seq
 (.ops
 [⟨some 47, .mov (.t 10), none⟩,
 ⟨some 48, .bin (.eql) (.other) (.t 47) (.c (.int (.i64) 0)), none⟩,
 ⟨some 49, .mov (.t 48), none⟩,
 ⟨some 50, .mov (.t 12), some (49, true)⟩,
 ⟨some 51, .bin (.neq) (.other) (.t 50) (.c (.int (.i64) 0)), some (49, true)⟩,
 ⟨some 52, .mov (.t 51), some (49, true)⟩,
 ⟨some 53, .mov (.t 9), some (52, false)⟩,
 ⟨some 54, .mov (.t 11), some (52, false)⟩,
 ⟨some 55, .call 25 [.t 53, .t 54], some (52, false)⟩,
 ⟨some 56, .un (.not) (.t 55), some (52, false)⟩,
 ⟨some 57, .pick (.t 52) (.c (.bool true)) (.t 56), some (49, true)⟩,
 ⟨some 58, .mov (.t 57), some (49, true)⟩,
 ⟨some 59, .mov (.t 9), some (58, false)⟩,
 ⟨some 60, .call 23 [.t 59], some (58, false)⟩,
 ⟨some 61, .un (.not) (.t 60), some (58, false)⟩,
 ⟨some 62, .pick (.t 58) (.c (.bool true)) (.t 61), some (49, true)⟩,
 ⟨some 63, .pick (.t 49) (.t 62) (.c (.bool false)), none⟩])
 (.cond (.t 63) (.seq (.ops [⟨some 8, .mov (.c (.bool false)), none⟩]) (.ret)) (.skip)))
 (.seq
 (.ops
 [⟨some 65, .mov (.t 0), none⟩,
 ⟨some 66, .mov (.t 1), none⟩,
 ⟨some 67, .call 26 [.t 65, .t 66], none⟩,
 ⟨some 64, .mov (.t 67), none⟩,
 ⟨some 68, .extract (.t 64) 0, none⟩,
 ⟨some 69, .extract (.t 64) 1, none⟩,
 ⟨some 13, .mov (.t 68), none⟩,
 ⟨some 14, .mov (.t 69), none⟩])
 (.seq
 (.seq
 (.ops
 [⟨some 70, .mov (.t 14), none⟩,
 ⟨some 71, .bin (.neq) (.other) (.t 70) (.c (.int (.i64) 0)), none⟩])
 (.cond
 (.t 71)
 (.seq
 (.ops
 [⟨some 72, .mov (.t 13), none⟩,
 ⟨some 73, .len (.sl) (.t 72), none⟩,
 ⟨some 74, .bin (.eql) (.other) (.t 73) (.c (.int (.i64) 0)), none⟩,
 ⟨some 75, .mov (.t 74), none⟩,
 ⟨some 76, .call 8 [], some (75, true)⟩,
 ⟨some 77, .pick (.t 75) (.t 76) (.c (.bool false)), none⟩,
 ⟨some 8, .mov (.t 77), none⟩])
 (.ret))
 (.skip)))
 (.seq
 (.ops
 [⟨some 79, .mov (.t 0), none⟩,
 ⟨some 80, .mov (.t 13), none⟩,
 ⟨some 81, .call 21 [.t 79, .t 80], none⟩,
 ⟨some 78, .mov (.t 81), none⟩,
 ⟨some 82, .extract (.t 78) 0, none⟩,
 ⟨some 83, .extract (.t 78) 1, none⟩,
 ⟨some 15, .mov (.t 82), none⟩,
 ⟨some 16, .mov (.t 83), none⟩])
 (.seq
 (.seq
 (.ops
 [⟨some 84, .mov (.t 16), none⟩,
 ⟨some 85, .bin (.neq) (.other) (.t 84) (.c (.int (.i64) 0)), none⟩,
 ⟨some 86, .mov (.t 85), none⟩,
 ⟨some 87, .mov (.t 15), some (86, false)⟩,
 ⟨some 88, .mov (.t 1), some (86, false)⟩,
 ⟨some 89, .call 25 [.t 87, .t 88], some (86, false)⟩,
 ⟨some 90, .un (.not) (.t 89), some (86, false)⟩,
 ⟨some 91, .pick (.t 86) (.c (.bool true)) (.t 90), none⟩])
 (.cond (.t 91) (.seq (.ops [⟨some 8, .mov (.c (.bool false)), none⟩]) (.ret)) (.skip)))
 (.seq
 (.seq
 (.ops
 [⟨some 92, .mov (.t 13), none⟩,
 ⟨some 93, .len (.sl) (.t 92), none⟩,
 ⟨some 94, .bin (.gtr) (.other) (.t 93) (.c (.int (.i64) 0)), none⟩])
 (.cond
 (.t 94)
 (.seq
 (.ops
 [⟨some 95, .mov (.t 3), none⟩,
 ⟨some 96, .convInt (.i64) (.t 95), none⟩,
 ⟨some 97, .mov (.t 13), none⟩,
 ⟨some 98, .len (.sl) (.t 97), none⟩,
 ⟨some 99, .bin (.rem) (.other) (.t 96) (.t 98), none⟩,
 ⟨some 17, .mov (.t 99), none⟩])
 (.seq
 (.ops [⟨some 18, .mov (.c (.nilsl)), none⟩])
 (.seq
 (.ops
 [⟨some 100, .mov (.t 18), none⟩,
 ⟨some 101, .mov (.t 13), none⟩,
 ⟨some 102, .mov (.t 17), none⟩,
 ⟨some 103, .slice 3 (.t 101) none (some (.t 102)) none, none⟩,
 ⟨some 104, .append 3 48 (.t 100) (.t 103), none⟩,
 ⟨some 18, .mov (.t 104), none⟩])
 (.seq
 (.ops
 [⟨some 105, .mov (.t 18), none⟩,
 ⟨some 106, .mov (.t 13), none⟩,
 ⟨some 107, .mov (.t 17), none⟩,
 ⟨some 108, .bin (.add) (.other) (.t 107) (.c (.int (.i64) 1)), none⟩,
 ⟨some 109, .slice 3 (.t 106) (some (.t 108)) none none, none⟩,
 ⟨some 110, .append 3 48 (.t 105) (.t 109), none⟩,
 ⟨some 18, .mov (.t 110), none⟩])
 (.seq
 (.ops
 [⟨some 112, .mov (.t 0), none⟩,
 ⟨some 113, .mov (.t 18), none⟩,
 ⟨some 114, .call 21 [.t 112, .t 113], none⟩,
 ⟨some 111, .mov (.t 114), none⟩,
 ⟨some 115, .extract (.t 111) 0, none⟩,
 ⟨some 116, .extract (.t 111) 1, none⟩,
 ⟨some 19, .mov (.t 115), none⟩,
 ⟨some 20, .mov (.t 116), none⟩])
 (.seq
 (.ops
 [⟨some 117, .mov (.t 20), none⟩,
 ⟨some 118, .bin (.eql) (.other) (.t 117) (.c (.int (.i64) 0)), none⟩,
 ⟨some 119, .mov (.t 118), none⟩,
 ⟨some 120, .mov (.t 19), some (119, true)⟩,
 ⟨some 121, .mov (.t 1), some (119, true)⟩,
 ⟨some 122, .call 25 [.t 120, .t 121], some (119, true)⟩,
 ⟨some 123, .un (.not) (.t 122), some (119, true)⟩,
 ⟨some 124, .pick (.t 119) (.t 123) (.c (.bool false)), none⟩,
 ⟨some 125, .mov (.t 124), none⟩,
 ⟨some 126, .call 8 [], some (125, true)⟩,
 ⟨some 127, .pick (.t 125) (.t 126) (.c (.bool false)), none⟩,
 ⟨some 8, .mov (.t 127), none⟩])
 (.ret)))))))
 (.skip)))
 (.seq
 (.ops
 [⟨some 128, .mov (.t 0), none⟩,
 ⟨some 129, .mov (.t 1), none⟩,
 ⟨some 130, .call 25 [.t 128, .t 129], none⟩,
 ⟨some 131, .mov (.t 130), none⟩,
 ⟨some 132, .call 8 [], some (131, true)⟩,
 ⟨some 133, .pick (.t 131) (.t 132) (.c (.bool false)), none⟩,
 ⟨some 8, .mov (.t 133), none⟩])
 (.ret)))))))))))⟩
theorem c6 : cFunc Try.prog Try.f6 = some sf6 := by kernel_rfl

/-- wharfage/wharfagelaw07.BatchOwn -/
def sf7 : SFunc := ⟨110,
 [.tmp 6],
 .seq
 (.ops [⟨some 6, .mov (.c (.bool false)), none⟩])
 (.seq
 (.seq
 (.ops
 [⟨some 18, .mov (.t 0), none⟩,
 ⟨some 19, .len (.sl) (.t 18), none⟩,
 ⟨some 20, .bin (.gtr) (.other) (.t 19) (.c (.int (.i64) 60)), none⟩,
 ⟨some 21, .mov (.t 20), none⟩,
 ⟨some 22, .mov (.t 1), some (21, false)⟩,
 ⟨some 23, .len (.sl) (.t 22), some (21, false)⟩,
 ⟨some 24, .bin (.gtr) (.other) (.t 23) (.c (.int (.i64) 60)), some (21, false)⟩,
 ⟨some 25, .pick (.t 21) (.c (.bool true)) (.t 24), none⟩])
 (.cond
 (.t 25)
 (.seq (.ops [⟨some 26, .call 8 [], none⟩, ⟨some 6, .mov (.t 26), none⟩]) (.ret))
 (.skip)))
 (.seq
 (.ops
 [⟨some 27, .mov (.t 0), none⟩,
 ⟨some 28, .call 30 [.t 27], none⟩,
 ⟨some 29, .mov (.t 1), none⟩,
 ⟨some 30, .call 30 [.t 29], none⟩,
 ⟨some 7, .mov (.t 28), none⟩,
 ⟨some 8, .mov (.t 30), none⟩])
 (.seq
 (.ops
 [⟨some 32, .mov (.t 7), none⟩,
 ⟨some 33, .mov (.t 8), none⟩,
 ⟨some 34, .call 26 [.t 32, .t 33], none⟩,
 ⟨some 31, .mov (.t 34), none⟩,
 ⟨some 35, .extract (.t 31) 0, none⟩,
 ⟨some 36, .extract (.t 31) 1, none⟩,
 ⟨some 9, .mov (.t 35), none⟩,
 ⟨some 10, .mov (.t 36), none⟩])
 (.seq
 (.ops
 [⟨some 38, .mov (.t 7), none⟩,
 ⟨some 39, .mov (.t 9), none⟩,
 ⟨some 40, .call 21 [.t 38, .t 39], none⟩,
 ⟨some 37, .mov (.t 40), none⟩,
 ⟨some 41, .extract (.t 37) 0, none⟩,
 ⟨some 42, .extract (.t 37) 1, none⟩,
 ⟨some 11, .mov (.t 41), none⟩,
 ⟨some 12, .mov (.t 42), none⟩])
 (.seq
 (.seq
 (.ops [⟨some 13, .mov (.c (.int (.i64) 0)), none⟩])
 (.block
 0
 (.loop
 (.seq
 (.seq
 (.ops
 [⟨some 43, .mov (.t 13), none⟩,
 ⟨some 44, .mov (.t 11), none⟩,
 ⟨some 45, .len (.sl) (.t 44), none⟩,
 ⟨some 46, .bin (.lss) (.other) (.t 43) (.t 45), none⟩,
 ⟨some 47, .mov (.t 46), none⟩,
 ⟨some 48, .mov (.t 12), some (47, true)⟩,
 ⟨some 49, .bin (.eql) (.other) (.t 48) (.c (.int (.i64) 0)), some (47, true)⟩,
 ⟨some 50, .pick (.t 47) (.t 49) (.c (.bool false)), none⟩])
 (.cond (.t 50) (.skip) (.exit 0)))
 (.seq
 (.block
 1
 (.ops
 [⟨some 53, .mov (.t 11), none⟩,
 ⟨some 54, .mov (.t 13), none⟩,
 ⟨some 55, .idxAddrSl 2 (.t 53) (.t 54), none⟩,
 ⟨some 56, .fieldAddr 1 (.t 55), none⟩,
 ⟨some 57, .load false 1 (.t 56), none⟩,
 ⟨some 58, .mov (.t 2), none⟩,
 ⟨some 59, .bin (.or) (.other) (.t 58) (.c (.int (.u8) 1)), none⟩,
 ⟨some 60, .call 31 [.t 57, .t 59], none⟩]))
 (.ops
 [⟨some 51, .mov (.t 13), none⟩,
 ⟨some 52, .bin (.add) (.other) (.t 51) (.c (.int (.i64) 1)), none⟩,
 ⟨some 13, .mov (.t 52), none⟩]))))))
 (.seq
 (.seq
 (.ops [⟨some 14, .mov (.c (.int (.i64) 0)), none⟩])
 (.block
 2
 (.loop
 (.seq
 (.seq
 (.ops
 [⟨some 61, .mov (.t 14), none⟩,
 ⟨some 62, .mov (.t 9), none⟩,
 ⟨some 63, .len (.sl) (.t 62), none⟩,
 ⟨some 64, .bin (.lss) (.other) (.t 61) (.t 63), none⟩,
 ⟨some 65, .mov (.t 64), none⟩,
 ⟨some 66, .mov (.t 10), some (65, true)⟩,
 ⟨some 67, .bin (.eql) (.other) (.t 66) (.c (.int (.i64) 0)), some (65, true)⟩,
 ⟨some 68, .pick (.t 65) (.t 67) (.c (.bool false)), none⟩])
 (.cond (.t 68) (.skip) (.exit 2)))
 (.seq
 (.block
 3
 (.ops
 [⟨some 71, .mov (.t 9), none⟩,
 ⟨some 72, .mov (.t 14), none⟩,
 ⟨some 73, .idxAddrSl 3 (.t 71) (.t 72), none⟩,
 ⟨some 74, .fieldAddr 1 (.t 73), none⟩,
 ⟨some 75, .load false 1 (.t 74), none⟩,
 ⟨some 76, .mov (.t 2), none⟩,
 ⟨some 77, .bin (.or) (.other) (.t 76) (.c (.int (.u8) 1)), none⟩,
 ⟨some 78, .call 31 [.t 75, .t 77], none⟩]))
 (.ops
 [⟨some 69, .mov (.t 14), none⟩,
 ⟨some 70, .bin (.add) (.other) (.t 69) (.c (.int (.i64) 1)), none⟩,
 ⟨some 14, .mov (.t 70), none⟩]))))))
 (.seq
 (.seq
 (.ops [⟨some 15, .mov (.c (.int (.i64) 0)), none⟩])
 (.block
 4
 (.loop
 (.seq
 (.seq
 (.ops
 [⟨some 79, .mov (.t 15), none⟩,
 ⟨some 80, .mov (.t 7), none⟩,
 ⟨some 81, .len (.sl) (.t 80), none⟩,
 ⟨some 82, .bin (.lss) (.other) (.t 79) (.t 81), none⟩])
 (.cond (.t 82) (.skip) (.exit 4)))
 (.seq
 (.block
 5
 (.seq
 (.ops
 [⟨some 86, .mov (.t 7), none⟩,
 ⟨some 87, .mov (.t 7), none⟩,
 ⟨some 88, .mov (.t 15), none⟩,
 ⟨some 89, .idxAddrSl 2 (.t 87) (.t 88), none⟩,
 ⟨some 90, .fieldAddr 0 (.t 89), none⟩,
 ⟨some 91, .load false 1 (.t 90), none⟩,
 ⟨some 92, .call 28 [.t 86, .t 91], none⟩,
 ⟨some 85, .mov (.t 92), none⟩,
 ⟨some 93, .extract (.t 85) 0, none⟩,
 ⟨some 94, .extract (.t 85) 1, none⟩,
 ⟨some 16, .mov (.t 93), none⟩,
 ⟨some 17, .mov (.t 94), none⟩])
 (.ops
 [⟨some 95, .mov (.t 16), none⟩,
 ⟨some 96, .mov (.t 2), none⟩,
 ⟨some 97, .bin (.or) (.other) (.t 96) (.c (.int (.u8) 1)), none⟩,
 ⟨some 98, .call 31 [.t 95, .t 97], none⟩])))
 (.ops
 [⟨some 83, .mov (.t 15), none⟩,
 ⟨some 84, .bin (.add) (.other) (.t 83) (.c (.int (.i64) 1)), none⟩,
 ⟨some 15, .mov (.t 84), none⟩]))))))
 (.seq
 (.ops
 [⟨some 99, .mov (.t 7), none⟩,
 ⟨some 100, .mov (.t 0), none⟩,
 ⟨some 101, .call 32 [.t 99, .t 100], none⟩,
 ⟨some 102, .mov (.t 101), none⟩,
 ⟨some 103, .mov (.t 8), some (102, true)⟩,
 ⟨some 104, .mov (.t 1), some (102, true)⟩,
 ⟨some 105, .call 32 [.t 103, .t 104], some (102, true)⟩,
 ⟨some 106, .pick (.t 102) (.t 105) (.c (.bool false)), none⟩,
 ⟨some 107, .mov (.t 106), none⟩,
 ⟨some 108, .call 8 [], some (107, true)⟩,
 ⟨some 109, .pick (.t 107) (.t 108) (.c (.bool false)), none⟩,
 ⟨some 6, .mov (.t 109), none⟩])
 (.ret)))))))))⟩
theorem c7 : cFunc Try.prog Try.f7 = some sf7 := by kernel_rfl

/-- wharfage/wharfagelaw07.lives -/
def sf8 : SFunc := ⟨103,
 [.tmp 0],
 .seq
 (.ops [⟨some 0, .mov (.c (.bool false)), none⟩])
 (.seq
 (.ops
 [⟨some 16, .call 33 [.c (.str [97, 98]), .c (.int (.u8) 7)], none⟩,
 ⟨some 17, .call 34 [.c (.str [97, 99])], none⟩,
 ⟨some 18,
 .buildSlice [.str [], .nilsl, .bool false, .str [], .nilsl, .bool false] 2 3 [(0, 3, .t 16), (3, 3, .t 17)],
 none⟩,
 ⟨some 19, .call 10 [.t 18], none⟩,
 ⟨some 15, .mov (.t 19), none⟩,
 ⟨some 20, .extract (.t 15) 0, none⟩,
 ⟨some 21, .extract (.t 15) 1, none⟩,
 ⟨some 1, .mov (.t 20), none⟩,
 ⟨some 2, .mov (.t 21), none⟩])
 (.seq
 (.ops
 [⟨some 23, .call 34 [.c (.str [98])], none⟩,
 ⟨some 24, .call 34 [.c (.str [97])], none⟩,
 ⟨some 25,
 .buildSlice [.str [], .nilsl, .bool false, .str [], .nilsl, .bool false] 2 3 [(0, 3, .t 23), (3, 3, .t 24)],
 none⟩,
 ⟨some 26, .call 10 [.t 25], none⟩,
 ⟨some 22, .mov (.t 26), none⟩,
 ⟨some 27, .extract (.t 22) 0, none⟩,
 ⟨some 28, .extract (.t 22) 1, none⟩,
 ⟨some 3, .mov (.t 27), none⟩,
 ⟨some 4, .mov (.t 28), none⟩])
 (.seq
 (.ops
 [⟨some 30,
 .buildSlice
 [.int (.u8) 0, .int (.u8) 0, .int (.u8) 0, .int (.u8) 0]
 4
 1
 [(0, 1, .c (.int (.u8) 0)),
 (1, 1, .c (.int (.u8) 1)),
 (2, 1, .c (.int (.u8) 97)),
 (3, 1, .c (.int (.u8) 0))],
 none⟩,
 ⟨some 31, .call 12 [.t 30], none⟩,
 ⟨some 29, .mov (.t 31), none⟩,
 ⟨some 32, .extract (.t 29) 0, none⟩,
 ⟨some 33, .extract (.t 29) 1, none⟩,
 ⟨some 5, .mov (.t 32), none⟩,
 ⟨some 6, .mov (.t 33), none⟩])
 (.seq
 (.ops
 [⟨some 35,
 .buildSlice
 [.int (.u8) 0, .int (.u8) 0, .int (.u8) 0]
 3
 1
 [(0, 1, .c (.int (.u8) 1)), (1, 1, .c (.int (.u8) 1)), (2, 1, .c (.int (.u8) 97))],
 none⟩,
 ⟨some 36, .call 12 [.t 35], none⟩,
 ⟨some 34, .mov (.t 36), none⟩,
 ⟨some 37, .extract (.t 34) 0, none⟩,
 ⟨some 38, .extract (.t 34) 1, none⟩,
 ⟨some 7, .mov (.t 37), none⟩,
 ⟨some 8, .mov (.t 38), none⟩])
 (.seq
 (.seq
 (.ops
 [⟨some 39, .mov (.t 1), none⟩,
 ⟨some 40,
 .buildSlice
 [.int (.u8) 0,
 .int (.u8) 0,
 .int (.u8) 0,
 .int (.u8) 0,
 .int (.u8) 0,
 .int (.u8) 0,
 .int (.u8) 0,
 .int (.u8) 0,
 .int (.u8) 0,
 .int (.u8) 0,
 .int (.u8) 0,
 .int (.u8) 0]
 12
 1
 [(0, 1, .c (.int (.u8) 0)),
 (1, 1, .c (.int (.u8) 2)),
 (2, 1, .c (.int (.u8) 97)),
 (3, 1, .c (.int (.u8) 98)),
 (4, 1, .c (.int (.u8) 0)),
 (5, 1, .c (.int (.u8) 2)),
 (6, 1, .c (.int (.u8) 7)),
 (7, 1, .c (.int (.u8) 1)),
 (8, 1, .c (.int (.u8) 1)),
 (9, 1, .c (.int (.u8) 99)),
 (10, 1, .c (.int (.u8) 0)),
 (11, 1, .c (.int (.u8) 0))],
 none⟩,
 ⟨some 41, .call 16 [.t 39, .t 40], none⟩,
 ⟨some 42, .un (.not) (.t 41), none⟩,
 ⟨some 43, .mov (.t 42), none⟩,
 ⟨some 44, .mov (.t 2), some (43, false)⟩,
 ⟨some 45, .bin (.neq) (.other) (.t 44) (.c (.int (.i64) 0)), some (43, false)⟩,
 ⟨some 46, .pick (.t 43) (.c (.bool true)) (.t 45), none⟩,
 ⟨some 47, .mov (.t 46), none⟩,
 ⟨some 48, .mov (.t 4), some (47, false)⟩,
 ⟨some 49, .bin (.neq) (.other) (.t 48) (.c (.int (.i64) 2)), some (47, false)⟩,
 ⟨some 50, .pick (.t 47) (.c (.bool true)) (.t 49), none⟩,
 ⟨some 51, .mov (.t 50), none⟩,
 ⟨some 52, .mov (.t 6), some (51, false)⟩,
 ⟨some 53, .bin (.neq) (.other) (.t 52) (.c (.int (.i64) 4)), some (51, false)⟩,
 ⟨some 54, .pick (.t 51) (.c (.bool true)) (.t 53), none⟩,
 ⟨some 55, .mov (.t 54), none⟩,
 ⟨some 56, .mov (.t 8), some (55, false)⟩,
 ⟨some 57, .bin (.neq) (.other) (.t 56) (.c (.int (.i64) 5)), some (55, false)⟩,
 ⟨some 58, .pick (.t 55) (.c (.bool true)) (.t 57), none⟩])
 (.cond (.t 58) (.seq (.ops [⟨some 0, .mov (.c (.bool false)), none⟩]) (.ret)) (.skip)))
 (.seq
 (.ops
 [⟨some 60, .call 35 [.c (.str [97]), .c (.int (.u8) 7)], none⟩,
 ⟨some 61, .call 34 [.c (.str [97])], none⟩,
 ⟨some 62, .call 33 [.c (.str [98]), .c (.int (.u8) 8)], none⟩,
 ⟨some 63,
 .buildSlice [.str [], .nilsl, .bool false, .str [], .nilsl, .bool false] 2 3 [(0, 3, .t 61), (3, 3, .t 62)],
 none⟩,
 ⟨some 64, .call 21 [.t 60, .t 63], none⟩,
 ⟨some 59, .mov (.t 64), none⟩,
 ⟨some 65, .extract (.t 59) 0, none⟩,
 ⟨some 66, .extract (.t 59) 1, none⟩,
 ⟨some 9, .mov (.t 65), none⟩,
 ⟨some 10, .mov (.t 66), none⟩])
 (.seq
 (.ops
 [⟨some 68, .call 35 [.c (.str [97]), .c (.int (.u8) 7)], none⟩,
 ⟨some 69, .call 35 [.c (.str [97]), .c (.int (.u8) 9)], none⟩,
 ⟨some 70, .call 26 [.t 68, .t 69], none⟩,
 ⟨some 67, .mov (.t 70), none⟩,
 ⟨some 71, .extract (.t 67) 0, none⟩,
 ⟨some 72, .extract (.t 67) 1, none⟩,
 ⟨some 11, .mov (.t 71), none⟩,
 ⟨some 12, .mov (.t 72), none⟩])
 (.seq
 (.ops
 [⟨some 74, .call 35 [.c (.str [97]), .c (.int (.u8) 7)], none⟩,
 ⟨some 75, .call 28 [.t 74, .c (.str [98])], none⟩,
 ⟨some 73, .mov (.t 75), none⟩,
 ⟨some 76, .extract (.t 73) 0, none⟩,
 ⟨some 77, .extract (.t 73) 1, none⟩,
 ⟨some 13, .mov (.t 76), none⟩,
 ⟨some 14, .mov (.t 77), none⟩])
 (.seq
 (.ops
 [⟨some 78, .mov (.t 10), none⟩,
 ⟨some 79, .bin (.eql) (.other) (.t 78) (.c (.int (.i64) 0)), none⟩,
 ⟨some 80, .mov (.t 79), none⟩,
 ⟨some 81, .mov (.t 9), some (80, true)⟩,
 ⟨some 82, .call 35 [.c (.str [98]), .c (.int (.u8) 8)], some (80, true)⟩,
 ⟨some 83, .call 25 [.t 81, .t 82], some (80, true)⟩,
 ⟨some 84, .pick (.t 80) (.t 83) (.c (.bool false)), none⟩,
 ⟨some 85, .mov (.t 84), none⟩,
 ⟨some 86, .mov (.t 12), some (85, true)⟩,
 ⟨some 87, .bin (.eql) (.other) (.t 86) (.c (.int (.i64) 0)), some (85, true)⟩,
 ⟨some 88, .pick (.t 85) (.t 87) (.c (.bool false)), none⟩,
 ⟨some 89, .mov (.t 88), none⟩,
 ⟨some 90, .mov (.t 11), some (89, true)⟩,
 ⟨some 91, .call 33 [.c (.str [97]), .c (.int (.u8) 9)], some (89, true)⟩,
 ⟨some 92, .buildSlice [.str [], .nilsl, .bool false] 1 3 [(0, 3, .t 91)], some (89, true)⟩,
 ⟨some 93, .call 17 [.t 90, .t 92], some (89, true)⟩,
 ⟨some 94, .pick (.t 89) (.t 93) (.c (.bool false)), none⟩,
 ⟨some 95, .mov (.t 94), none⟩,
 ⟨some 96, .mov (.t 14), some (95, true)⟩,
 ⟨some 97, .un (.not) (.t 96), some (95, true)⟩,
 ⟨some 98, .pick (.t 95) (.t 97) (.c (.bool false)), none⟩,
 ⟨some 99, .mov (.t 98), none⟩,
 ⟨some 100, .call 18 [.c (.str [97, 98, 99]), .c (.str [97, 98, 100])], some (99, true)⟩,
 ⟨some 101, .bin (.eql) (.other) (.t 100) (.c (.int (.i64) 2)), some (99, true)⟩,
 ⟨some 102, .pick (.t 99) (.t 101) (.c (.bool false)), none⟩,
 ⟨some 0, .mov (.t 102), none⟩])
 (.ret))))))))))⟩
theorem c8 : cFunc Try.prog Try.f8 = some sf8 := by kernel_rfl

/-- wharfage/wharfageref00.Wide -/
def sf9 : SFunc := ⟨13,
 [.tmp 2],
 .seq
 (.ops [⟨some 2, .mov (.c (.nilsl)), none⟩])
 (.seq
 (.ops
 [⟨some 4, .mov (.t 0), none⟩, ⟨some 5, .call 36 [.t 4], none⟩, ⟨some 3, .mov (.t 5), none⟩])
 (.seq
 (.ops
 [⟨some 6, .mov (.t 3), none⟩,
 ⟨some 7,
 .buildSlice
 [.int (.u8) 0, .int (.u8) 0, .int (.u8) 0]
 3
 1
 [(0, 1, .c (.int (.u8) 9)), (1, 1, .c (.int (.u8) 9)), (2, 1, .c (.int (.u8) 9))],
 none⟩,
 ⟨some 8, .append 1 1 (.t 6) (.t 7), none⟩,
 ⟨some 3, .mov (.t 8), none⟩])
 (.seq
 (.ops
 [⟨some 9, .mov (.t 3), none⟩,
 ⟨some 10, .mov (.t 0), none⟩,
 ⟨some 11, .len (.sl) (.t 10), none⟩,
 ⟨some 12, .slice 1 (.t 9) none (some (.t 11)) none, none⟩,
 ⟨some 2, .mov (.t 12), none⟩])
 (.ret))))⟩
theorem c9 : cFunc Try.prog Try.f9 = some sf9 := by kernel_rfl

/-- wharfage/batch.Put -/
def sf10 : SFunc := ⟨63,
 [.tmp 2, .tmp 3],
 .seq
 (.ops [⟨some 2, .mov (.c (.nilsl)), none⟩, ⟨some 3, .mov (.c (.int (.i64) 0)), none⟩])
 (.seq
 (.seq
 (.ops
 [⟨some 11, .mov (.t 0), none⟩,
 ⟨some 12, .call 14 [.t 11], none⟩,
 ⟨some 13, .un (.not) (.t 12), none⟩])
 (.cond
 (.t 13)
 (.seq
 (.ops [⟨some 2, .mov (.c (.nilsl)), none⟩, ⟨some 3, .mov (.c (.int (.i64) 2)), none⟩])
 (.ret))
 (.skip)))
 (.seq
 (.ops [⟨some 4, .mov (.c (.str [])), none⟩])
 (.seq
 (.seq
 (.ops
 [⟨some 14, .mov (.t 0), none⟩,
 ⟨some 15, .len (.sl) (.t 14), none⟩,
 ⟨some 16, .mov (.c (.int (.i64) 0)), none⟩])
 (.block
 0
 (.loop
 (.seq
 (.ops [⟨some 17, .bin (.lss) (.other) (.t 16) (.t 15), none⟩])
 (.seq
 (.cond (.t 17) (.skip) (.exit 0))
 (.seq
 (.block
 1
 (.seq
 (.ops
 [⟨some 18, .idxAddrSl 3 (.t 14) (.t 16), none⟩,
 ⟨some 19, .load true 3 (.t 18), none⟩,
 ⟨some 6, .box (.c (.agg [.str [], .nilsl, .bool false])), none⟩,
 ⟨none, .store 3 (.t 6) (.t 19), none⟩])
 (.seq
 (.ops
 [⟨some 20, .mov (.t 4), none⟩,
 ⟨some 21, .fieldAddr 0 (.t 6), none⟩,
 ⟨some 22, .load false 1 (.t 21), none⟩,
 ⟨some 23, .call 18 [.t 20, .t 22], none⟩,
 ⟨some 7, .mov (.t 23), none⟩])
 (.seq
 (.ops
 [⟨some 24, .mov (.t 2), none⟩,
 ⟨some 25, .mov (.t 7), none⟩,
 ⟨some 26, .convInt (.u8) (.t 25), none⟩,
 ⟨some 27, .fieldAddr 0 (.t 6), none⟩,
 ⟨some 28, .load false 1 (.t 27), none⟩,
 ⟨some 29, .len (.str) (.t 28), none⟩,
 ⟨some 30, .mov (.t 7), none⟩,
 ⟨some 31, .bin (.sub) (.other) (.t 29) (.t 30), none⟩,
 ⟨some 32, .convInt (.u8) (.t 31), none⟩,
 ⟨some 33, .buildSlice [.int (.u8) 0, .int (.u8) 0] 2 1 [(0, 1, .t 26), (1, 1, .t 32)], none⟩,
 ⟨some 34, .append 1 1 (.t 24) (.t 33), none⟩,
 ⟨some 2, .mov (.t 34), none⟩])
 (.seq
 (.ops
 [⟨some 35, .mov (.t 2), none⟩,
 ⟨some 36, .fieldAddr 0 (.t 6), none⟩,
 ⟨some 37, .load false 1 (.t 36), none⟩,
 ⟨some 38, .mov (.t 7), none⟩,
 ⟨some 39, .sliceStr (.t 37) (some (.t 38)) none, none⟩,
 ⟨some 40, .append 1 1 (.t 35) (.t 39), none⟩,
 ⟨some 2, .mov (.t 40), none⟩])
 (.seq
 (.ops
 [⟨some 41, .fieldAddr 1 (.t 6), none⟩,
 ⟨some 42, .load false 1 (.t 41), none⟩,
 ⟨some 43, .len (.sl) (.t 42), none⟩,
 ⟨some 44, .convInt (.u64) (.t 43), none⟩,
 ⟨some 45, .bin (.add) (.other) (.t 44) (.c (.int (.u64) 1)), none⟩,
 ⟨some 8, .mov (.t 45), none⟩])
 (.seq
 (.seq
 (.ops [⟨some 46, .fieldAddr 2 (.t 6), none⟩, ⟨some 47, .load false 1 (.t 46), none⟩])
 (.cond (.t 47) (.ops [⟨some 8, .mov (.c (.int (.u64) 0)), none⟩]) (.skip)))
 (.seq
 (.ops
 [⟨some 49, .mov (.t 8), none⟩,
 ⟨some 50, .call 37 [.t 49, .c (.int (.i64) 2)], none⟩,
 ⟨some 48, .mov (.t 50), none⟩,
 ⟨some 51, .extract (.t 48) 0, none⟩,
 ⟨some 52, .extract (.t 48) 1, none⟩,
 ⟨some 9, .mov (.t 51), none⟩,
 ⟨some 10, .mov (.t 52), none⟩])
 (.seq
 (.ops
 [⟨some 53, .mov (.t 2), none⟩,
 ⟨some 54, .mov (.t 9), none⟩,
 ⟨some 55, .fieldAddr 1 (.t 6), none⟩,
 ⟨some 56, .load false 1 (.t 55), none⟩,
 ⟨some 57, .buildSlice [.nilsl, .nilsl, .nilsl] 3 1 [(0, 1, .t 53), (1, 1, .t 54), (2, 1, .t 56)], none⟩,
 ⟨some 58, .call 38 [.t 57], none⟩,
 ⟨some 2, .mov (.t 58), none⟩])
 (.ops
 [⟨some 59, .fieldAddr 0 (.t 6), none⟩,
 ⟨some 60, .load false 1 (.t 59), none⟩,
 ⟨some 4, .mov (.t 60), none⟩]))))))))))
 (.ops
 [⟨some 61, .bin (.add) (.other) (.t 16) (.c (.int (.i64) 1)), none⟩,
 ⟨some 16, .mov (.t 61), none⟩])))))))
 (.seq
 (.ops
 [⟨some 62, .mov (.t 2), none⟩,
 ⟨some 2, .mov (.t 62), none⟩,
 ⟨some 3, .mov (.c (.int (.i64) 0)), none⟩])
 (.ret)))))⟩
theorem c10 : cFunc Try.prog Try.f10 = some sf10 := by kernel_rfl

/-- wharfage/wharfageref07.Put -/
def sf11 : SFunc := ⟨30,
 [.tmp 2, .tmp 3],
 .seq
 (.ops [⟨some 2, .mov (.c (.nilsl)), none⟩, ⟨some 3, .mov (.c (.int (.i64) 0)), none⟩])
 (.seq
 (.seq
 (.ops
 [⟨some 7, .mov (.t 0), none⟩,
 ⟨some 8, .call 15 [.t 7], none⟩,
 ⟨some 9, .un (.not) (.t 8), none⟩])
 (.cond
 (.t 9)
 (.seq
 (.ops [⟨some 2, .mov (.c (.nilsl)), none⟩, ⟨some 3, .mov (.c (.int (.i64) 2)), none⟩])
 (.ret))
 (.skip)))
 (.seq
 (.ops [⟨some 4, .mov (.c (.nilsl)), none⟩])
 (.seq
 (.ops [⟨some 5, .mov (.c (.str [])), none⟩])
 (.seq
 (.seq
 (.ops [⟨some 6, .mov (.c (.int (.i64) 0)), none⟩])
 (.block
 0
 (.loop
 (.seq
 (.seq
 (.ops
 [⟨some 10, .mov (.t 6), none⟩,
 ⟨some 11, .mov (.t 0), none⟩,
 ⟨some 12, .len (.sl) (.t 11), none⟩,
 ⟨some 13, .bin (.lss) (.other) (.t 10) (.t 12), none⟩])
 (.cond (.t 13) (.skip) (.exit 0)))
 (.seq
 (.block
 1
 (.seq
 (.ops
 [⟨some 16, .mov (.t 4), none⟩,
 ⟨some 17, .mov (.t 5), none⟩,
 ⟨some 18, .mov (.t 0), none⟩,
 ⟨some 19, .mov (.t 6), none⟩,
 ⟨some 20, .idxAddrSl 3 (.t 18) (.t 19), none⟩,
 ⟨some 21, .load true 3 (.t 20), none⟩,
 ⟨some 22, .call 39 [.t 17, .t 21], none⟩,
 ⟨some 23, .append 1 1 (.t 16) (.t 22), none⟩,
 ⟨some 4, .mov (.t 23), none⟩])
 (.ops
 [⟨some 24, .mov (.t 0), none⟩,
 ⟨some 25, .mov (.t 6), none⟩,
 ⟨some 26, .idxAddrSl 3 (.t 24) (.t 25), none⟩,
 ⟨some 27, .fieldAddr 0 (.t 26), none⟩,
 ⟨some 28, .load false 1 (.t 27), none⟩,
 ⟨some 5, .mov (.t 28), none⟩])))
 (.ops
 [⟨some 14, .mov (.t 6), none⟩,
 ⟨some 15, .bin (.add) (.other) (.t 14) (.c (.int (.i64) 1)), none⟩,
 ⟨some 6, .mov (.t 15), none⟩]))))))
 (.seq
 (.ops
 [⟨some 29, .mov (.t 4), none⟩,
 ⟨some 2, .mov (.t 29), none⟩,
 ⟨some 3, .mov (.c (.int (.i64) 0)), none⟩])
 (.ret))))))⟩
theorem c11 : cFunc Try.prog Try.f11 = some sf11 := by kernel_rfl

/-- wharfage/batch.Get -/
def sf12 : SFunc := ⟨28,
 [.tmp 2, .tmp 3],
 .seq
 (.ops [⟨some 2, .mov (.c (.nilsl)), none⟩, ⟨some 3, .mov (.c (.int (.i64) 0)), none⟩])
 (.seq
 (.ops [⟨some 4, .mov (.c (.str [])), none⟩])
 (.seq
 (.seq
 (.ops
 [⟨some 8, .mov (.t 0), none⟩,
 ⟨some 5, .box (.c (.nilsl)), none⟩,
 ⟨none, .store 1 (.t 5) (.t 8), none⟩])
 (.block
 0
 (.loop
 (.seq
 (.seq
 (.ops
 [⟨some 9, .load false 1 (.t 5), none⟩,
 ⟨some 10, .len (.sl) (.t 9), none⟩,
 ⟨some 11, .bin (.gtr) (.other) (.t 10) (.c (.int (.i64) 0)), none⟩])
 (.cond (.t 11) (.skip) (.exit 0)))
 (.seq
 (.block
 1
 (.seq
 (.ops
 [⟨some 13, .mov (.t 4), none⟩,
 ⟨some 14, .call 40 [.t 5, .t 13], none⟩,
 ⟨some 12, .mov (.t 14), none⟩,
 ⟨some 15, .extract (.t 12) 0, none⟩,
 ⟨some 16, .extract (.t 12) 1, none⟩,
 ⟨some 6, .box (.c (.agg [.str [], .nilsl, .bool false])), none⟩,
 ⟨none, .store 3 (.t 6) (.t 15), none⟩,
 ⟨some 7, .mov (.t 16), none⟩])
 (.seq
 (.seq
 (.ops
 [⟨some 17, .mov (.t 7), none⟩,
 ⟨some 18, .bin (.neq) (.other) (.t 17) (.c (.int (.i64) 0)), none⟩])
 (.cond
 (.t 18)
 (.seq
 (.ops
 [⟨some 19, .mov (.t 7), none⟩,
 ⟨some 2, .mov (.c (.nilsl)), none⟩,
 ⟨some 3, .mov (.t 19), none⟩])
 (.ret))
 (.skip)))
 (.drawOps
 [⟨some 20, .mov (.t 2), none⟩,
 ⟨some 21, .load true 3 (.t 6), none⟩,
 ⟨some 22, .buildSlice [.str [], .nilsl, .bool false] 1 3 [(0, 3, .t 21)], none⟩,
 ⟨some 23, .append 3 48 (.t 20) (.t 22), none⟩,
 ⟨some 24, .fieldAddr 0 (.t 6), none⟩,
 ⟨some 25, .load false 1 (.t 24), none⟩,
 ⟨some 2, .mov (.t 23), none⟩,
 ⟨some 4, .mov (.t 25), none⟩]
 [(5, 2), (5, 3)]))))
 (.seq
 (.ops [⟨some 26, .load false 1 (.t 5), none⟩])
 (.ops [⟨some 5, .box (.c (.nilsl)), none⟩, ⟨none, .store 1 (.t 5) (.t 26), none⟩])))))))
 (.seq
 (.ops
 [⟨some 27, .mov (.t 2), none⟩,
 ⟨some 2, .mov (.t 27), none⟩,
 ⟨some 3, .mov (.c (.int (.i64) 0)), none⟩])
 (.ret))))⟩
theorem c12 : cFunc Try.prog Try.f12 = some sf12 := by kernel_rfl

/-- wharfage/wharfageref07.Get -/
def sf13 : SFunc := ⟨30,
 [.tmp 2, .tmp 3],
 .seq
 (.ops [⟨some 2, .mov (.c (.nilsl)), none⟩, ⟨some 3, .mov (.c (.int (.i64) 0)), none⟩])
 (.seq
 (.ops [⟨some 4, .mov (.c (.nilsl)), none⟩])
 (.seq
 (.ops [⟨some 5, .mov (.c (.str [])), none⟩])
 (.seq
 (.block
 0
 (.loop
 (.seq
 (.seq
 (.ops
 [⟨some 9, .mov (.t 0), none⟩,
 ⟨some 10, .len (.sl) (.t 9), none⟩,
 ⟨some 11, .bin (.gtr) (.other) (.t 10) (.c (.int (.i64) 0)), none⟩])
 (.cond (.t 11) (.skip) (.exit 0)))
 (.block
 1
 (.seq
 (.ops
 [⟨some 13, .mov (.t 5), none⟩,
 ⟨some 14, .mov (.t 0), none⟩,
 ⟨some 15, .call 41 [.t 13, .t 14], none⟩,
 ⟨some 12, .mov (.t 15), none⟩,
 ⟨some 16, .extract (.t 12) 0, none⟩,
 ⟨some 17, .extract (.t 12) 1, none⟩,
 ⟨some 18, .extract (.t 12) 2, none⟩,
 ⟨some 6, .box (.c (.agg [.str [], .nilsl, .bool false])), none⟩,
 ⟨none, .store 3 (.t 6) (.t 16), none⟩,
 ⟨some 7, .mov (.t 17), none⟩,
 ⟨some 8, .mov (.t 18), none⟩])
 (.seq
 (.seq
 (.ops
 [⟨some 19, .mov (.t 8), none⟩,
 ⟨some 20, .bin (.neq) (.other) (.t 19) (.c (.int (.i64) 0)), none⟩])
 (.cond
 (.t 20)
 (.seq
 (.ops
 [⟨some 21, .mov (.t 8), none⟩,
 ⟨some 2, .mov (.c (.nilsl)), none⟩,
 ⟨some 3, .mov (.t 21), none⟩])
 (.ret))
 (.skip)))
 (.seq
 (.ops
 [⟨some 22, .mov (.t 4), none⟩,
 ⟨some 23, .load true 3 (.t 6), none⟩,
 ⟨some 24, .buildSlice [.str [], .nilsl, .bool false] 1 3 [(0, 3, .t 23)], none⟩,
 ⟨some 25, .append 3 48 (.t 22) (.t 24), none⟩,
 ⟨some 4, .mov (.t 25), none⟩])
 (.seq
 (.ops
 [⟨some 26, .fieldAddr 0 (.t 6), none⟩,
 ⟨some 27, .load false 1 (.t 26), none⟩,
 ⟨some 5, .mov (.t 27), none⟩])
 (.ops [⟨some 28, .mov (.t 7), none⟩, ⟨some 0, .mov (.t 28), none⟩])))))))))
 (.seq
 (.ops
 [⟨some 29, .mov (.t 4), none⟩,
 ⟨some 2, .mov (.t 29), none⟩,
 ⟨some 3, .mov (.c (.int (.i64) 0)), none⟩])
 (.ret)))))⟩
theorem c13 : cFunc Try.prog Try.f13 = some sf13 := by kernel_rfl

/-- wharfage/batch.MayChange -/
def sf14 : SFunc := ⟨5,
 [.tmp 2],
 .seq
 (.ops [⟨some 2, .mov (.c (.bool false)), none⟩])
 (.seq
 (.ops
 [⟨some 3, .mov (.t 0), none⟩,
 ⟨some 4, .call 42 [.t 3, .c (.func 43 [] [])], none⟩,
 ⟨some 2, .mov (.t 4), none⟩])
 (.ret))⟩
theorem c14 : cFunc Try.prog Try.f14 = some sf14 := by kernel_rfl

/-- wharfage/wharfageref07.MayChange -/
def sf15 : SFunc := ⟨48,
 [.tmp 2],
 .seq
 (.ops [⟨some 2, .mov (.c (.bool false)), none⟩])
 (.seq
 (.seq
 (.ops [⟨some 3, .mov (.c (.int (.i64) 0)), none⟩])
 (.block
 0
 (.loop
 (.seq
 (.seq
 (.ops
 [⟨some 5, .mov (.t 3), none⟩,
 ⟨some 6, .mov (.t 0), none⟩,
 ⟨some 7, .len (.sl) (.t 6), none⟩,
 ⟨some 8, .bin (.lss) (.other) (.t 5) (.t 7), none⟩])
 (.cond (.t 8) (.skip) (.exit 0)))
 (.seq
 (.block
 1
 (.seq
 (.ops [⟨some 4, .mov (.c (.str [])), none⟩])
 (.seq
 (.seq
 (.ops
 [⟨some 11, .mov (.t 3), none⟩,
 ⟨some 12, .bin (.gtr) (.other) (.t 11) (.c (.int (.i64) 0)), none⟩])
 (.cond
 (.t 12)
 (.ops
 [⟨some 13, .mov (.t 0), none⟩,
 ⟨some 14, .mov (.t 3), none⟩,
 ⟨some 15, .bin (.sub) (.other) (.t 14) (.c (.int (.i64) 1)), none⟩,
 ⟨some 16, .idxAddrSl 3 (.t 13) (.t 15), none⟩,
 ⟨some 17, .fieldAddr 0 (.t 16), none⟩,
 ⟨some 18, .load false 1 (.t 17), none⟩,
 ⟨some 4, .mov (.t 18), none⟩])
 (.skip)))
 (.seq
 (.ops
 [⟨some 19, .mov (.t 4), none⟩,
 ⟨some 20, .mov (.t 0), none⟩,
 ⟨some 21, .mov (.t 3), none⟩,
 ⟨some 22, .idxAddrSl 3 (.t 20) (.t 21), none⟩,
 ⟨some 23, .fieldAddr 0 (.t 22), none⟩,
 ⟨some 24, .load false 1 (.t 23), none⟩,
 ⟨some 25, .mov (.t 0), none⟩,
 ⟨some 26, .mov (.t 3), none⟩,
 ⟨some 27, .idxAddrSl 3 (.t 25) (.t 26), none⟩,
 ⟨some 28, .fieldAddr 1 (.t 27), none⟩,
 ⟨some 29, .load false 1 (.t 28), none⟩,
 ⟨some 30, .call 44 [.t 19, .t 24, .t 29], none⟩,
 ⟨some 31, .un (.not) (.t 30), none⟩,
 ⟨some 32, .mov (.t 31), none⟩,
 ⟨some 33, .mov (.t 0), some (32, false)⟩,
 ⟨some 34, .mov (.t 3), some (32, false)⟩,
 ⟨some 35, .idxAddrSl 3 (.t 33) (.t 34), some (32, false)⟩,
 ⟨some 36, .fieldAddr 2 (.t 35), some (32, false)⟩,
 ⟨some 37, .load false 1 (.t 36), some (32, false)⟩,
 ⟨some 38, .mov (.t 37), some (32, false)⟩,
 ⟨some 39, .mov (.t 0), some (38, true)⟩,
 ⟨some 40, .mov (.t 3), some (38, true)⟩,
 ⟨some 41, .idxAddrSl 3 (.t 39) (.t 40), some (38, true)⟩,
 ⟨some 42, .fieldAddr 1 (.t 41), some (38, true)⟩,
 ⟨some 43, .load false 1 (.t 42), some (38, true)⟩,
 ⟨some 44, .len (.sl) (.t 43), some (38, true)⟩,
 ⟨some 45, .bin (.gtr) (.other) (.t 44) (.c (.int (.i64) 0)), some (38, true)⟩,
 ⟨some 46, .pick (.t 38) (.t 45) (.c (.bool false)), some (32, false)⟩,
 ⟨some 47, .pick (.t 32) (.c (.bool true)) (.t 46), none⟩])
 (.cond (.t 47) (.seq (.ops [⟨some 2, .mov (.c (.bool false)), none⟩]) (.ret)) (.skip))))))
 (.ops
 [⟨some 9, .mov (.t 3), none⟩,
 ⟨some 10, .bin (.add) (.other) (.t 9) (.c (.int (.i64) 1)), none⟩,
 ⟨some 3, .mov (.t 10), none⟩]))))))
 (.seq (.ops [⟨some 2, .mov (.c (.bool true)), none⟩]) (.ret)))⟩
theorem c15 : cFunc Try.prog Try.f15 = some sf15 := by kernel_rfl

/-- wharfage/wharfageref00.Same -/
def sf16 : SFunc := ⟨10,
 [.tmp 4],
 .seq
 (.ops [⟨some 4, .mov (.c (.bool false)), none⟩])
 (.seq
 (.ops
 [⟨some 5, .mov (.t 0), none⟩,
 ⟨some 6, .bytesToStr (.t 5), none⟩,
 ⟨some 7, .mov (.t 1), none⟩,
 ⟨some 8, .bytesToStr (.t 7), none⟩,
 ⟨some 9, .bin (.eql) (.str) (.t 6) (.t 8), none⟩,
 ⟨some 4, .mov (.t 9), none⟩])
 (.ret))⟩
theorem c16 : cFunc Try.prog Try.f16 = some sf16 := by kernel_rfl

/-- wharfage/wharfageref00.Changes -/
def sf17 : SFunc := ⟨55,
 [.tmp 4],
 .seq
 (.ops [⟨some 4, .mov (.c (.bool false)), none⟩])
 (.seq
 (.seq
 (.ops
 [⟨some 6, .mov (.t 0), none⟩,
 ⟨some 7, .len (.sl) (.t 6), none⟩,
 ⟨some 8, .mov (.t 1), none⟩,
 ⟨some 9, .len (.sl) (.t 8), none⟩,
 ⟨some 10, .bin (.neq) (.other) (.t 7) (.t 9), none⟩])
 (.cond (.t 10) (.seq (.ops [⟨some 4, .mov (.c (.bool false)), none⟩]) (.ret)) (.skip)))
 (.seq
 (.seq
 (.ops [⟨some 5, .mov (.c (.int (.i64) 0)), none⟩])
 (.block
 0
 (.loop
 (.seq
 (.seq
 (.ops
 [⟨some 11, .mov (.t 5), none⟩,
 ⟨some 12, .mov (.t 0), none⟩,
 ⟨some 13, .len (.sl) (.t 12), none⟩,
 ⟨some 14, .bin (.lss) (.other) (.t 11) (.t 13), none⟩])
 (.cond (.t 14) (.skip) (.exit 0)))
 (.seq
 (.block
 1
 (.seq
 (.ops
 [⟨some 17, .mov (.t 0), none⟩,
 ⟨some 18, .mov (.t 5), none⟩,
 ⟨some 19, .idxAddrSl 3 (.t 17) (.t 18), none⟩,
 ⟨some 20, .fieldAddr 0 (.t 19), none⟩,
 ⟨some 21, .load false 1 (.t 20), none⟩,
 ⟨some 22, .mov (.t 1), none⟩,
 ⟨some 23, .mov (.t 5), none⟩,
 ⟨some 24, .idxAddrSl 3 (.t 22) (.t 23), none⟩,
 ⟨some 25, .fieldAddr 0 (.t 24), none⟩,
 ⟨some 26, .load false 1 (.t 25), none⟩,
 ⟨some 27, .bin (.neq) (.str) (.t 21) (.t 26), none⟩,
 ⟨some 28, .mov (.t 27), none⟩,
 ⟨some 29, .mov (.t 0), some (28, false)⟩,
 ⟨some 30, .mov (.t 5), some (28, false)⟩,
 ⟨some 31, .idxAddrSl 3 (.t 29) (.t 30), some (28, false)⟩,
 ⟨some 32, .fieldAddr 2 (.t 31), some (28, false)⟩,
 ⟨some 33, .load false 1 (.t 32), some (28, false)⟩,
 ⟨some 34, .mov (.t 1), some (28, false)⟩,
 ⟨some 35, .mov (.t 5), some (28, false)⟩,
 ⟨some 36, .idxAddrSl 3 (.t 34) (.t 35), some (28, false)⟩,
 ⟨some 37, .fieldAddr 2 (.t 36), some (28, false)⟩,
 ⟨some 38, .load false 1 (.t 37), some (28, false)⟩,
 ⟨some 39, .bin (.neq) (.bool) (.t 33) (.t 38), some (28, false)⟩,
 ⟨some 40, .pick (.t 28) (.c (.bool true)) (.t 39), none⟩,
 ⟨some 41, .mov (.t 40), none⟩,
 ⟨some 42, .mov (.t 0), some (41, false)⟩,
 ⟨some 43, .mov (.t 5), some (41, false)⟩,
 ⟨some 44, .idxAddrSl 3 (.t 42) (.t 43), some (41, false)⟩,
 ⟨some 45, .fieldAddr 1 (.t 44), some (41, false)⟩,
 ⟨some 46, .load false 1 (.t 45), some (41, false)⟩,
 ⟨some 47, .mov (.t 1), some (41, false)⟩,
 ⟨some 48, .mov (.t 5), some (41, false)⟩,
 ⟨some 49, .idxAddrSl 3 (.t 47) (.t 48), some (41, false)⟩,
 ⟨some 50, .fieldAddr 1 (.t 49), some (41, false)⟩,
 ⟨some 51, .load false 1 (.t 50), some (41, false)⟩,
 ⟨some 52, .call 16 [.t 46, .t 51], some (41, false)⟩,
 ⟨some 53, .un (.not) (.t 52), some (41, false)⟩,
 ⟨some 54, .pick (.t 41) (.c (.bool true)) (.t 53), none⟩])
 (.cond (.t 54) (.seq (.ops [⟨some 4, .mov (.c (.bool false)), none⟩]) (.ret)) (.skip))))
 (.ops
 [⟨some 15, .mov (.t 5), none⟩,
 ⟨some 16, .bin (.add) (.other) (.t 15) (.c (.int (.i64) 1)), none⟩,
 ⟨some 5, .mov (.t 16), none⟩]))))))
 (.seq (.ops [⟨some 4, .mov (.c (.bool true)), none⟩]) (.ret))))⟩
theorem c17 : cFunc Try.prog Try.f17 = some sf17 := by kernel_rfl

/-- wharfage/batch.Shared -/
def sf18 : SFunc := ⟨26,
 [.tmp 4],
 .seq
 (.ops [⟨some 4, .mov (.c (.int (.i64) 0)), none⟩])
 (.seq
 (.ops
 [⟨some 7, .mov (.t 0), none⟩,
 ⟨some 8, .len (.str) (.t 7), none⟩,
 ⟨some 9, .mov (.t 1), none⟩,
 ⟨some 10, .len (.str) (.t 9), none⟩,
 ⟨some 11, .min (.t 8) [.t 10], none⟩,
 ⟨some 5, .mov (.t 11), none⟩])
 (.seq
 (.seq
 (.ops [⟨some 12, .mov (.t 5), none⟩, ⟨some 13, .mov (.c (.int (.i64) 0)), none⟩])
 (.block
 0
 (.loop
 (.seq
 (.ops [⟨some 14, .bin (.lss) (.other) (.t 13) (.t 12), none⟩])
 (.seq
 (.cond (.t 14) (.skip) (.exit 0))
 (.seq
 (.block
 1
 (.seq
 (.ops [⟨some 15, .mov (.t 13), none⟩, ⟨some 6, .mov (.t 15), none⟩])
 (.seq
 (.ops
 [⟨some 16, .mov (.t 0), none⟩,
 ⟨some 17, .mov (.t 6), none⟩,
 ⟨some 18, .idxStr (.t 16) (.t 17), none⟩,
 ⟨some 19, .mov (.t 1), none⟩,
 ⟨some 20, .mov (.t 6), none⟩,
 ⟨some 21, .idxStr (.t 19) (.t 20), none⟩,
 ⟨some 22, .bin (.neq) (.other) (.t 18) (.t 21), none⟩])
 (.cond
 (.t 22)
 (.seq (.ops [⟨some 23, .mov (.t 6), none⟩, ⟨some 4, .mov (.t 23), none⟩]) (.ret))
 (.skip)))))
 (.ops
 [⟨some 24, .bin (.add) (.other) (.t 13) (.c (.int (.i64) 1)), none⟩,
 ⟨some 13, .mov (.t 24), none⟩])))))))
 (.seq (.ops [⟨some 25, .mov (.t 5), none⟩, ⟨some 4, .mov (.t 25), none⟩]) (.ret))))⟩
theorem c18 : cFunc Try.prog Try.f18 = some sf18 := by kernel_rfl

/-- wharfage/wharfageref07.Shared -/
def sf19 : SFunc := ⟨28,
 [.tmp 4],
 .seq
 (.ops [⟨some 4, .mov (.c (.int (.i64) 0)), none⟩])
 (.seq
 (.ops [⟨some 5, .mov (.c (.int (.i64) 0)), none⟩])
 (.seq
 (.block
 0
 (.loop
 (.seq
 (.seq
 (.ops
 [⟨some 6, .mov (.t 5), none⟩,
 ⟨some 7, .mov (.t 0), none⟩,
 ⟨some 8, .len (.str) (.t 7), none⟩,
 ⟨some 9, .bin (.lss) (.other) (.t 6) (.t 8), none⟩,
 ⟨some 10, .mov (.t 9), none⟩,
 ⟨some 11, .mov (.t 5), some (10, true)⟩,
 ⟨some 12, .mov (.t 1), some (10, true)⟩,
 ⟨some 13, .len (.str) (.t 12), some (10, true)⟩,
 ⟨some 14, .bin (.lss) (.other) (.t 11) (.t 13), some (10, true)⟩,
 ⟨some 15, .pick (.t 10) (.t 14) (.c (.bool false)), none⟩,
 ⟨some 16, .mov (.t 15), none⟩,
 ⟨some 17, .mov (.t 0), some (16, true)⟩,
 ⟨some 18, .mov (.t 5), some (16, true)⟩,
 ⟨some 19, .idxStr (.t 17) (.t 18), some (16, true)⟩,
 ⟨some 20, .mov (.t 1), some (16, true)⟩,
 ⟨some 21, .mov (.t 5), some (16, true)⟩,
 ⟨some 22, .idxStr (.t 20) (.t 21), some (16, true)⟩,
 ⟨some 23, .bin (.eql) (.other) (.t 19) (.t 22), some (16, true)⟩,
 ⟨some 24, .pick (.t 16) (.t 23) (.c (.bool false)), none⟩])
 (.cond (.t 24) (.skip) (.exit 0)))
 (.block
 1
 (.ops
 [⟨some 25, .mov (.t 5), none⟩,
 ⟨some 26, .bin (.add) (.other) (.t 25) (.c (.int (.i64) 1)), none⟩,
 ⟨some 5, .mov (.t 26), none⟩])))))
 (.seq (.ops [⟨some 27, .mov (.t 5), none⟩, ⟨some 4, .mov (.t 27), none⟩]) (.ret))))⟩
theorem c19 : cFunc Try.prog Try.f19 = some sf19 := by kernel_rfl

/-- wharfage/wharfageref00.Left -/
def sf20 : SFunc := ⟨50,
 [.tmp 4],
 .seq
 (.ops [⟨some 4, .mov (.c (.bool false)), none⟩])
 (.seq
 (.seq
 (.ops
 [⟨some 6, .mov (.t 0), none⟩,
 ⟨some 7, .mov (.t 1), none⟩,
 ⟨some 8, .call 16 [.t 6, .t 7], none⟩,
 ⟨some 9, .un (.not) (.t 8), none⟩,
 ⟨some 10, .mov (.t 9), none⟩,
 ⟨some 11, .mov (.t 0), some (10, false)⟩,
 ⟨some 12, .cap (.t 11), some (10, false)⟩,
 ⟨some 13, .mov (.t 0), some (10, false)⟩,
 ⟨some 14, .len (.sl) (.t 13), some (10, false)⟩,
 ⟨some 15, .bin (.add) (.other) (.t 14) (.c (.int (.i64) 3)), some (10, false)⟩,
 ⟨some 16, .bin (.lss) (.other) (.t 12) (.t 15), some (10, false)⟩,
 ⟨some 17, .pick (.t 10) (.c (.bool true)) (.t 16), none⟩])
 (.cond (.t 17) (.seq (.ops [⟨some 4, .mov (.c (.bool false)), none⟩]) (.ret)) (.skip)))
 (.seq
 (.ops
 [⟨some 18, .mov (.t 0), none⟩,
 ⟨some 19, .mov (.t 0), none⟩,
 ⟨some 20, .len (.sl) (.t 19), none⟩,
 ⟨some 21, .bin (.add) (.other) (.t 20) (.c (.int (.i64) 3)), none⟩,
 ⟨some 22, .mov (.t 0), none⟩,
 ⟨some 23, .len (.sl) (.t 22), none⟩,
 ⟨some 24, .bin (.add) (.other) (.t 23) (.c (.int (.i64) 3)), none⟩,
 ⟨some 25, .slice 1 (.t 18) none (some (.t 21)) (some (.t 24)), none⟩,
 ⟨some 5, .mov (.t 25), none⟩])
 (.seq
 (.ops
 [⟨some 26, .mov (.t 5), none⟩,
 ⟨some 27, .mov (.t 0), none⟩,
 ⟨some 28, .len (.sl) (.t 27), none⟩,
 ⟨some 29, .idxAddrSl 1 (.t 26) (.t 28), none⟩,
 ⟨some 30, .load false 1 (.t 29), none⟩,
 ⟨some 31, .bin (.eql) (.other) (.t 30) (.c (.int (.u8) 9)), none⟩,
 ⟨some 32, .mov (.t 31), none⟩,
 ⟨some 33, .mov (.t 5), some (32, true)⟩,
 ⟨some 34, .mov (.t 0), some (32, true)⟩,
 ⟨some 35, .len (.sl) (.t 34), some (32, true)⟩,
 ⟨some 36, .bin (.add) (.other) (.t 35) (.c (.int (.i64) 1)), some (32, true)⟩,
 ⟨some 37, .idxAddrSl 1 (.t 33) (.t 36), some (32, true)⟩,
 ⟨some 38, .load false 1 (.t 37), some (32, true)⟩,
 ⟨some 39, .bin (.eql) (.other) (.t 38) (.c (.int (.u8) 9)), some (32, true)⟩,
 ⟨some 40, .pick (.t 32) (.t 39) (.c (.bool false)), none⟩,
 ⟨some 41, .mov (.t 40), none⟩,
 ⟨some 42, .mov (.t 5), some (41, true)⟩,
 ⟨some 43, .mov (.t 0), some (41, true)⟩,
 ⟨some 44, .len (.sl) (.t 43), some (41, true)⟩,
 ⟨some 45, .bin (.add) (.other) (.t 44) (.c (.int (.i64) 2)), some (41, true)⟩,
 ⟨some 46, .idxAddrSl 1 (.t 42) (.t 45), some (41, true)⟩,
 ⟨some 47, .load false 1 (.t 46), some (41, true)⟩,
 ⟨some 48, .bin (.eql) (.other) (.t 47) (.c (.int (.u8) 9)), some (41, true)⟩,
 ⟨some 49, .pick (.t 41) (.t 48) (.c (.bool false)), none⟩,
 ⟨some 4, .mov (.t 49), none⟩])
 (.ret))))⟩
theorem c20 : cFunc Try.prog Try.f20 = some sf20 := by kernel_rfl

/-- wharfage/batch.Apply -/
def sf21 : SFunc := ⟨21,
 [.cell 4 false 1, .tmp 5],
 .seq
 (.ops [⟨some 4, .box (.c (.nilsl)), none⟩, ⟨some 5, .mov (.c (.int (.i64) 0)), none⟩])
 (.seq
 (.seq
 (.ops
 [⟨some 7, .mov (.t 0), none⟩,
 ⟨some 8, .call 23 [.t 7], none⟩,
 ⟨some 9, .un (.not) (.t 8), none⟩,
 ⟨some 10, .mov (.t 9), none⟩,
 ⟨some 11, .mov (.t 1), some (10, false)⟩,
 ⟨some 12, .call 14 [.t 11], some (10, false)⟩,
 ⟨some 13, .un (.not) (.t 12), some (10, false)⟩,
 ⟨some 14, .pick (.t 10) (.c (.bool true)) (.t 13), none⟩])
 (.cond
 (.t 14)
 (.seq
 (.ops
 [⟨none, .store 1 (.t 4) (.c (.nilsl)), none⟩, ⟨some 5, .mov (.c (.int (.i64) 2)), none⟩])
 (.ret))
 (.skip)))
 (.seq
 (.ops [⟨some 6, .mov (.c (.func 45 [] [])), none⟩])
 (.seq
 (.ops
 [⟨some 15, .mov (.t 0), none⟩,
 ⟨some 16, .mov (.t 1), none⟩,
 ⟨some 17, .mov (.t 6), none⟩,
 ⟨some 18, .mkFunc 48 [] [.t 4], none⟩,
 ⟨some 19, .call 47 [.t 15, .t 16, .t 17, .t 18], none⟩])
 (.seq
 (.ops
 [⟨some 20, .load false 1 (.t 4), none⟩,
 ⟨none, .store 1 (.t 4) (.t 20), none⟩,
 ⟨some 5, .mov (.c (.int (.i64) 0)), none⟩])
 (.ret)))))⟩
theorem c21 : cFunc Try.prog Try.f21 = some sf21 := by kernel_rfl

/-- wharfage/wharfageref07.Apply -/
def sf22 : SFunc := ⟨52,
 [.tmp 4, .tmp 5],
 .seq
 (.ops [⟨some 4, .mov (.c (.nilsl)), none⟩, ⟨some 5, .mov (.c (.int (.i64) 0)), none⟩])
 (.seq
 (.seq
 (.ops
 [⟨some 8, .mov (.t 0), none⟩,
 ⟨some 9, .call 24 [.t 8], none⟩,
 ⟨some 10, .un (.not) (.t 9), none⟩,
 ⟨some 11, .mov (.t 10), none⟩,
 ⟨some 12, .mov (.t 1), some (11, false)⟩,
 ⟨some 13, .call 15 [.t 12], some (11, false)⟩,
 ⟨some 14, .un (.not) (.t 13), some (11, false)⟩,
 ⟨some 15, .pick (.t 11) (.c (.bool true)) (.t 14), none⟩])
 (.cond
 (.t 15)
 (.seq
 (.ops [⟨some 4, .mov (.c (.nilsl)), none⟩, ⟨some 5, .mov (.c (.int (.i64) 2)), none⟩])
 (.ret))
 (.skip)))
 (.seq
 (.ops
 [⟨some 16, .mov (.t 0), none⟩,
 ⟨some 17, .call 50 [.t 16, .c (.str [])], none⟩,
 ⟨some 6, .mov (.t 17), none⟩])
 (.seq
 (.seq
 (.ops [⟨some 7, .mov (.c (.int (.i64) 0)), none⟩])
 (.block
 0
 (.loop
 (.seq
 (.seq
 (.ops
 [⟨some 18, .mov (.t 7), none⟩,
 ⟨some 19, .mov (.t 1), none⟩,
 ⟨some 20, .len (.sl) (.t 19), none⟩,
 ⟨some 21, .bin (.lss) (.other) (.t 18) (.t 20), none⟩])
 (.cond (.t 21) (.skip) (.exit 0)))
 (.seq
 (.block
 1
 (.seq
 (.ops
 [⟨some 24, .mov (.t 6), none⟩,
 ⟨some 25, .mov (.t 1), none⟩,
 ⟨some 26, .mov (.t 7), none⟩,
 ⟨some 27, .idxAddrSl 3 (.t 25) (.t 26), none⟩,
 ⟨some 28, .fieldAddr 0 (.t 27), none⟩,
 ⟨some 29, .load false 1 (.t 28), none⟩,
 ⟨some 30, .call 50 [.t 24, .t 29], none⟩,
 ⟨some 6, .mov (.t 30), none⟩])
 (.seq
 (.ops
 [⟨some 31, .mov (.t 1), none⟩,
 ⟨some 32, .mov (.t 7), none⟩,
 ⟨some 33, .idxAddrSl 3 (.t 31) (.t 32), none⟩,
 ⟨some 34, .fieldAddr 2 (.t 33), none⟩,
 ⟨some 35, .load false 1 (.t 34), none⟩,
 ⟨some 36, .un (.not) (.t 35), none⟩])
 (.cond
 (.t 36)
 (.drawOps
 [⟨some 37, .mov (.t 6), none⟩,
 ⟨some 38, .mov (.t 1), none⟩,
 ⟨some 39, .mov (.t 7), none⟩,
 ⟨some 40, .idxAddrSl 3 (.t 38) (.t 39), none⟩,
 ⟨some 41, .fieldAddr 0 (.t 40), none⟩,
 ⟨some 42, .load false 1 (.t 41), none⟩,
 ⟨some 43, .mov (.t 1), none⟩,
 ⟨some 44, .mov (.t 7), none⟩,
 ⟨some 45, .idxAddrSl 3 (.t 43) (.t 44), none⟩,
 ⟨some 46, .fieldAddr 1 (.t 45), none⟩,
 ⟨some 47, .load false 1 (.t 46), none⟩,
 ⟨some 48, .call 36 [.t 47], none⟩,
 ⟨some 49, .build [.str [], .nilsl] [(0, 1, .t 42), (1, 1, .t 48)], none⟩,
 ⟨some 50, .call 51 [.t 37, .t 49], none⟩,
 ⟨some 6, .mov (.t 50), none⟩]
 [(5, 11)])
 (.skip)))))
 (.ops
 [⟨some 22, .mov (.t 7), none⟩,
 ⟨some 23, .bin (.add) (.other) (.t 22) (.c (.int (.i64) 1)), none⟩,
 ⟨some 7, .mov (.t 23), none⟩]))))))
 (.seq
 (.ops
 [⟨some 51, .mov (.t 6), none⟩,
 ⟨some 4, .mov (.t 51), none⟩,
 ⟨some 5, .mov (.c (.int (.i64) 0)), none⟩])
 (.ret)))))⟩
theorem c22 : cFunc Try.prog Try.f22 = some sf22 := by kernel_rfl

/-- wharfage/batch.May -/
def sf23 : SFunc := ⟨5,
 [.tmp 2],
 .seq
 (.ops [⟨some 2, .mov (.c (.bool false)), none⟩])
 (.seq
 (.ops
 [⟨some 3, .mov (.t 0), none⟩,
 ⟨some 4, .call 52 [.t 3, .c (.func 53 [] [])], none⟩,
 ⟨some 2, .mov (.t 4), none⟩])
 (.ret))⟩
theorem c23 : cFunc Try.prog Try.f23 = some sf23 := by kernel_rfl

/-- wharfage/wharfageref07.May -/
def sf24 : SFunc := ⟨32,
 [.tmp 2],
 .seq
 (.ops [⟨some 2, .mov (.c (.bool false)), none⟩])
 (.seq
 (.seq
 (.ops [⟨some 3, .mov (.c (.int (.i64) 0)), none⟩])
 (.block
 0
 (.loop
 (.seq
 (.seq
 (.ops
 [⟨some 5, .mov (.t 3), none⟩,
 ⟨some 6, .mov (.t 0), none⟩,
 ⟨some 7, .len (.sl) (.t 6), none⟩,
 ⟨some 8, .bin (.lss) (.other) (.t 5) (.t 7), none⟩])
 (.cond (.t 8) (.skip) (.exit 0)))
 (.seq
 (.block
 1
 (.seq
 (.ops [⟨some 4, .mov (.c (.str [])), none⟩])
 (.seq
 (.seq
 (.ops
 [⟨some 11, .mov (.t 3), none⟩,
 ⟨some 12, .bin (.gtr) (.other) (.t 11) (.c (.int (.i64) 0)), none⟩])
 (.cond
 (.t 12)
 (.ops
 [⟨some 13, .mov (.t 0), none⟩,
 ⟨some 14, .mov (.t 3), none⟩,
 ⟨some 15, .bin (.sub) (.other) (.t 14) (.c (.int (.i64) 1)), none⟩,
 ⟨some 16, .idxAddrSl 2 (.t 13) (.t 15), none⟩,
 ⟨some 17, .fieldAddr 0 (.t 16), none⟩,
 ⟨some 18, .load false 1 (.t 17), none⟩,
 ⟨some 4, .mov (.t 18), none⟩])
 (.skip)))
 (.seq
 (.ops
 [⟨some 19, .mov (.t 4), none⟩,
 ⟨some 20, .mov (.t 0), none⟩,
 ⟨some 21, .mov (.t 3), none⟩,
 ⟨some 22, .idxAddrSl 2 (.t 20) (.t 21), none⟩,
 ⟨some 23, .fieldAddr 0 (.t 22), none⟩,
 ⟨some 24, .load false 1 (.t 23), none⟩,
 ⟨some 25, .mov (.t 0), none⟩,
 ⟨some 26, .mov (.t 3), none⟩,
 ⟨some 27, .idxAddrSl 2 (.t 25) (.t 26), none⟩,
 ⟨some 28, .fieldAddr 1 (.t 27), none⟩,
 ⟨some 29, .load false 1 (.t 28), none⟩,
 ⟨some 30, .call 44 [.t 19, .t 24, .t 29], none⟩,
 ⟨some 31, .un (.not) (.t 30), none⟩])
 (.cond (.t 31) (.seq (.ops [⟨some 2, .mov (.c (.bool false)), none⟩]) (.ret)) (.skip))))))
 (.ops
 [⟨some 9, .mov (.t 3), none⟩,
 ⟨some 10, .bin (.add) (.other) (.t 9) (.c (.int (.i64) 1)), none⟩,
 ⟨some 3, .mov (.t 10), none⟩]))))))
 (.seq (.ops [⟨some 2, .mov (.c (.bool true)), none⟩]) (.ret)))⟩
theorem c24 : cFunc Try.prog Try.f24 = some sf24 := by kernel_rfl

/-- wharfage/wharfageref00.Rows -/
def sf25 : SFunc := ⟨42,
 [.tmp 4],
 .seq
 (.ops [⟨some 4, .mov (.c (.bool false)), none⟩])
 (.seq
 (.seq
 (.ops
 [⟨some 6, .mov (.t 0), none⟩,
 ⟨some 7, .len (.sl) (.t 6), none⟩,
 ⟨some 8, .mov (.t 1), none⟩,
 ⟨some 9, .len (.sl) (.t 8), none⟩,
 ⟨some 10, .bin (.neq) (.other) (.t 7) (.t 9), none⟩])
 (.cond (.t 10) (.seq (.ops [⟨some 4, .mov (.c (.bool false)), none⟩]) (.ret)) (.skip)))
 (.seq
 (.seq
 (.ops [⟨some 5, .mov (.c (.int (.i64) 0)), none⟩])
 (.block
 0
 (.loop
 (.seq
 (.seq
 (.ops
 [⟨some 11, .mov (.t 5), none⟩,
 ⟨some 12, .mov (.t 0), none⟩,
 ⟨some 13, .len (.sl) (.t 12), none⟩,
 ⟨some 14, .bin (.lss) (.other) (.t 11) (.t 13), none⟩])
 (.cond (.t 14) (.skip) (.exit 0)))
 (.seq
 (.block
 1
 (.seq
 (.ops
 [⟨some 17, .mov (.t 0), none⟩,
 ⟨some 18, .mov (.t 5), none⟩,
 ⟨some 19, .idxAddrSl 2 (.t 17) (.t 18), none⟩,
 ⟨some 20, .fieldAddr 0 (.t 19), none⟩,
 ⟨some 21, .load false 1 (.t 20), none⟩,
 ⟨some 22, .mov (.t 1), none⟩,
 ⟨some 23, .mov (.t 5), none⟩,
 ⟨some 24, .idxAddrSl 2 (.t 22) (.t 23), none⟩,
 ⟨some 25, .fieldAddr 0 (.t 24), none⟩,
 ⟨some 26, .load false 1 (.t 25), none⟩,
 ⟨some 27, .bin (.neq) (.str) (.t 21) (.t 26), none⟩,
 ⟨some 28, .mov (.t 27), none⟩,
 ⟨some 29, .mov (.t 0), some (28, false)⟩,
 ⟨some 30, .mov (.t 5), some (28, false)⟩,
 ⟨some 31, .idxAddrSl 2 (.t 29) (.t 30), some (28, false)⟩,
 ⟨some 32, .fieldAddr 1 (.t 31), some (28, false)⟩,
 ⟨some 33, .load false 1 (.t 32), some (28, false)⟩,
 ⟨some 34, .mov (.t 1), some (28, false)⟩,
 ⟨some 35, .mov (.t 5), some (28, false)⟩,
 ⟨some 36, .idxAddrSl 2 (.t 34) (.t 35), some (28, false)⟩,
 ⟨some 37, .fieldAddr 1 (.t 36), some (28, false)⟩,
 ⟨some 38, .load false 1 (.t 37), some (28, false)⟩,
 ⟨some 39, .call 16 [.t 33, .t 38], some (28, false)⟩,
 ⟨some 40, .un (.not) (.t 39), some (28, false)⟩,
 ⟨some 41, .pick (.t 28) (.c (.bool true)) (.t 40), none⟩])
 (.cond (.t 41) (.seq (.ops [⟨some 4, .mov (.c (.bool false)), none⟩]) (.ret)) (.skip))))
 (.ops
 [⟨some 15, .mov (.t 5), none⟩,
 ⟨some 16, .bin (.add) (.other) (.t 15) (.c (.int (.i64) 1)), none⟩,
 ⟨some 5, .mov (.t 16), none⟩]))))))
 (.seq (.ops [⟨some 4, .mov (.c (.bool true)), none⟩]) (.ret))))⟩
theorem c25 : cFunc Try.prog Try.f25 = some sf25 := by kernel_rfl

/-- wharfage/batch.Between -/
def sf26 : SFunc := ⟨21,
 [.cell 4 false 1, .tmp 5],
 .seq
 (.ops [⟨some 4, .box (.c (.nilsl)), none⟩, ⟨some 5, .mov (.c (.int (.i64) 0)), none⟩])
 (.seq
 (.seq
 (.ops
 [⟨some 7, .mov (.t 0), none⟩,
 ⟨some 8, .call 23 [.t 7], none⟩,
 ⟨some 9, .un (.not) (.t 8), none⟩,
 ⟨some 10, .mov (.t 9), none⟩,
 ⟨some 11, .mov (.t 1), some (10, false)⟩,
 ⟨some 12, .call 23 [.t 11], some (10, false)⟩,
 ⟨some 13, .un (.not) (.t 12), some (10, false)⟩,
 ⟨some 14, .pick (.t 10) (.c (.bool true)) (.t 13), none⟩])
 (.cond
 (.t 14)
 (.seq
 (.ops
 [⟨none, .store 1 (.t 4) (.c (.nilsl)), none⟩, ⟨some 5, .mov (.c (.int (.i64) 2)), none⟩])
 (.ret))
 (.skip)))
 (.seq
 (.ops [⟨some 6, .mov (.c (.func 54 [] [])), none⟩])
 (.seq
 (.ops
 [⟨some 15, .mov (.t 0), none⟩,
 ⟨some 16, .mov (.t 1), none⟩,
 ⟨some 17, .mov (.t 6), none⟩,
 ⟨some 18, .mkFunc 56 [] [.t 4], none⟩,
 ⟨some 19, .call 55 [.t 15, .t 16, .t 17, .t 18], none⟩])
 (.seq
 (.ops
 [⟨some 20, .load false 1 (.t 4), none⟩,
 ⟨none, .store 1 (.t 4) (.t 20), none⟩,
 ⟨some 5, .mov (.c (.int (.i64) 0)), none⟩])
 (.ret)))))⟩
theorem c26 : cFunc Try.prog Try.f26 = some sf26 := by kernel_rfl

/-- wharfage/wharfageref07.Between -/
def sf27 : SFunc := ⟨117,
 [.tmp 4, .tmp 5],
 .seq
 (.ops [⟨some 4, .mov (.c (.nilsl)), none⟩, ⟨some 5, .mov (.c (.int (.i64) 0)), none⟩])
 (.seq
 (.seq
 (.ops
 [⟨some 15, .mov (.t 0), none⟩,
 ⟨some 16, .call 24 [.t 15], none⟩,
 ⟨some 17, .un (.not) (.t 16), none⟩,
 ⟨some 18, .mov (.t 17), none⟩,
 ⟨some 19, .mov (.t 1), some (18, false)⟩,
 ⟨some 20, .call 24 [.t 19], some (18, false)⟩,
 ⟨some 21, .un (.not) (.t 20), some (18, false)⟩,
 ⟨some 22, .pick (.t 18) (.c (.bool true)) (.t 21), none⟩])
 (.cond
 (.t 22)
 (.seq
 (.ops [⟨some 4, .mov (.c (.nilsl)), none⟩, ⟨some 5, .mov (.c (.int (.i64) 2)), none⟩])
 (.ret))
 (.skip)))
 (.seq
 (.ops [⟨some 6, .mov (.c (.nilsl)), none⟩])
 (.seq
 (.seq
 (.ops [⟨some 7, .mov (.c (.int (.i64) 0)), none⟩])
 (.block
 0
 (.loop
 (.seq
 (.seq
 (.ops
 [⟨some 23, .mov (.t 7), none⟩,
 ⟨some 24, .mov (.t 0), none⟩,
 ⟨some 25, .len (.sl) (.t 24), none⟩,
 ⟨some 26, .mov (.t 1), none⟩,
 ⟨some 27, .len (.sl) (.t 26), none⟩,
 ⟨some 28, .bin (.add) (.other) (.t 25) (.t 27), none⟩,
 ⟨some 29, .bin (.lss) (.other) (.t 23) (.t 28), none⟩])
 (.cond (.t 29) (.skip) (.exit 0)))
 (.seq
 (.block
 1
 (.seq
 (.ops
 [⟨some 32, .build [.str [], .nilsl] [], none⟩,
 ⟨some 8, .box (.c (.agg [.str [], .nilsl])), none⟩,
 ⟨none, .store 2 (.t 8) (.t 32), none⟩])
 (.seq
 (.seq
 (.ops
 [⟨some 33, .mov (.t 7), none⟩,
 ⟨some 34, .mov (.t 0), none⟩,
 ⟨some 35, .len (.sl) (.t 34), none⟩,
 ⟨some 36, .bin (.lss) (.other) (.t 33) (.t 35), none⟩])
 (.cond
 (.t 36)
 (.ops
 [⟨some 37, .mov (.t 0), none⟩,
 ⟨some 38, .mov (.t 7), none⟩,
 ⟨some 39, .idxAddrSl 2 (.t 37) (.t 38), none⟩,
 ⟨some 40, .fieldAddr 0 (.t 39), none⟩,
 ⟨some 41, .load false 1 (.t 40), none⟩,
 ⟨some 42, .fieldAddr 0 (.t 8), none⟩,
 ⟨none, .store 1 (.t 42) (.t 41), none⟩])
 (.ops
 [⟨some 43, .mov (.t 1), none⟩,
 ⟨some 44, .mov (.t 7), none⟩,
 ⟨some 45, .mov (.t 0), none⟩,
 ⟨some 46, .len (.sl) (.t 45), none⟩,
 ⟨some 47, .bin (.sub) (.other) (.t 44) (.t 46), none⟩,
 ⟨some 48, .idxAddrSl 2 (.t 43) (.t 47), none⟩,
 ⟨some 49, .fieldAddr 0 (.t 48), none⟩,
 ⟨some 50, .load false 1 (.t 49), none⟩,
 ⟨some 51, .fieldAddr 0 (.t 8), none⟩,
 ⟨none, .store 1 (.t 51) (.t 50), none⟩])))
 (.drawOps
 [⟨some 52, .mov (.t 6), none⟩,
 ⟨some 53, .fieldAddr 0 (.t 8), none⟩,
 ⟨some 54, .load false 1 (.t 53), none⟩,
 ⟨some 55, .call 50 [.t 52, .t 54], none⟩,
 ⟨some 56, .load true 2 (.t 8), none⟩,
 ⟨some 57, .call 51 [.t 55, .t 56], none⟩,
 ⟨some 6, .mov (.t 57), none⟩]
 [(4, 3)]))))
 (.ops
 [⟨some 30, .mov (.t 7), none⟩,
 ⟨some 31, .bin (.add) (.other) (.t 30) (.c (.int (.i64) 1)), none⟩,
 ⟨some 7, .mov (.t 31), none⟩]))))))
 (.seq
 (.ops [⟨some 9, .mov (.c (.nilsl)), none⟩])
 (.seq
 (.seq
 (.ops [⟨some 10, .mov (.c (.int (.i64) 0)), none⟩])
 (.block
 2
 (.loop
 (.seq
 (.seq
 (.ops
 [⟨some 58, .mov (.t 10), none⟩,
 ⟨some 59, .mov (.t 6), none⟩,
 ⟨some 60, .len (.sl) (.t 59), none⟩,
 ⟨some 61, .bin (.lss) (.other) (.t 58) (.t 60), none⟩])
 (.cond (.t 61) (.skip) (.exit 2)))
 (.seq
 (.block
 3
 (.seq
 (.ops
 [⟨some 65, .mov (.t 0), none⟩,
 ⟨some 66, .mov (.t 6), none⟩,
 ⟨some 67, .mov (.t 10), none⟩,
 ⟨some 68, .idxAddrSl 2 (.t 66) (.t 67), none⟩,
 ⟨some 69, .fieldAddr 0 (.t 68), none⟩,
 ⟨some 70, .load false 1 (.t 69), none⟩,
 ⟨some 71, .call 29 [.t 65, .t 70], none⟩,
 ⟨some 64, .mov (.t 71), none⟩,
 ⟨some 72, .extract (.t 64) 0, none⟩,
 ⟨some 73, .extract (.t 64) 1, none⟩,
 ⟨some 11, .mov (.t 72), none⟩,
 ⟨some 12, .mov (.t 73), none⟩])
 (.seq
 (.ops
 [⟨some 75, .mov (.t 1), none⟩,
 ⟨some 76, .mov (.t 6), none⟩,
 ⟨some 77, .mov (.t 10), none⟩,
 ⟨some 78, .idxAddrSl 2 (.t 76) (.t 77), none⟩,
 ⟨some 79, .fieldAddr 0 (.t 78), none⟩,
 ⟨some 80, .load false 1 (.t 79), none⟩,
 ⟨some 81, .call 29 [.t 75, .t 80], none⟩,
 ⟨some 74, .mov (.t 81), none⟩,
 ⟨some 82, .extract (.t 74) 0, none⟩,
 ⟨some 83, .extract (.t 74) 1, none⟩,
 ⟨some 13, .mov (.t 82), none⟩,
 ⟨some 14, .mov (.t 83), none⟩])
 (.seq
 (.seq
 (.ops [⟨some 84, .mov (.t 14), none⟩, ⟨some 85, .un (.not) (.t 84), none⟩])
 (.cond
 (.t 85)
 (.ops
 [⟨some 86, .mov (.t 9), none⟩,
 ⟨some 87, .mov (.t 6), none⟩,
 ⟨some 88, .mov (.t 10), none⟩,
 ⟨some 89, .idxAddrSl 2 (.t 87) (.t 88), none⟩,
 ⟨some 90, .fieldAddr 0 (.t 89), none⟩,
 ⟨some 91, .load false 1 (.t 90), none⟩,
 ⟨some 92, .build [.str [], .nilsl, .bool false] [(0, 1, .t 91), (2, 1, .c (.bool true))], none⟩,
 ⟨some 93, .buildSlice [.str [], .nilsl, .bool false] 1 3 [(0, 3, .t 92)], none⟩,
 ⟨some 94, .append 3 48 (.t 86) (.t 93), none⟩,
 ⟨some 9, .mov (.t 94), none⟩])
 (.skip)))
 (.seq
 (.ops
 [⟨some 95, .mov (.t 14), none⟩,
 ⟨some 96, .mov (.t 95), none⟩,
 ⟨some 97, .mov (.t 12), some (96, true)⟩,
 ⟨some 98, .un (.not) (.t 97), some (96, true)⟩,
 ⟨some 99, .mov (.t 98), some (96, true)⟩,
 ⟨some 100, .mov (.t 11), some (99, false)⟩,
 ⟨some 101, .mov (.t 13), some (99, false)⟩,
 ⟨some 102, .call 16 [.t 100, .t 101], some (99, false)⟩,
 ⟨some 103, .un (.not) (.t 102), some (99, false)⟩,
 ⟨some 104, .pick (.t 99) (.c (.bool true)) (.t 103), some (96, true)⟩,
 ⟨some 105, .pick (.t 96) (.t 104) (.c (.bool false)), none⟩])
 (.cond
 (.t 105)
 (.ops
 [⟨some 106, .mov (.t 9), none⟩,
 ⟨some 107, .mov (.t 6), none⟩,
 ⟨some 108, .mov (.t 10), none⟩,
 ⟨some 109, .idxAddrSl 2 (.t 107) (.t 108), none⟩,
 ⟨some 110, .fieldAddr 0 (.t 109), none⟩,
 ⟨some 111, .load false 1 (.t 110), none⟩,
 ⟨some 112, .mov (.t 13), none⟩,
 ⟨some 113, .build [.str [], .nilsl, .bool false] [(0, 1, .t 111), (1, 1, .t 112)], none⟩,
 ⟨some 114, .buildSlice [.str [], .nilsl, .bool false] 1 3 [(0, 3, .t 113)], none⟩,
 ⟨some 115, .append 3 48 (.t 106) (.t 114), none⟩,
 ⟨some 9, .mov (.t 115), none⟩])
 (.skip)))))))
 (.ops
 [⟨some 62, .mov (.t 10), none⟩,
 ⟨some 63, .bin (.add) (.other) (.t 62) (.c (.int (.i64) 1)), none⟩,
 ⟨some 10, .mov (.t 63), none⟩]))))))
 (.seq
 (.ops
 [⟨some 116, .mov (.t 9), none⟩,
 ⟨some 4, .mov (.t 116), none⟩,
 ⟨some 5, .mov (.c (.int (.i64) 0)), none⟩])
 (.ret)))))))⟩
theorem c27 : cFunc Try.prog Try.f27 = some sf27 := by kernel_rfl

/-- wharfage/batch.Find -/
def sf28 : SFunc := ⟨23,
 [.tmp 4, .tmp 5],
 .seq
 (.ops
 [⟨some 3, .box (.t 1), none⟩,
 ⟨some 4, .mov (.c (.nilsl)), none⟩,
 ⟨some 5, .mov (.c (.bool false)), none⟩])
 (.seq
 (.ops
 [⟨some 7, .mov (.t 0), none⟩,
 ⟨some 8, .mkFunc 59 [] [.t 3], none⟩,
 ⟨some 9, .call 58 [.t 7, .t 8], none⟩,
 ⟨some 6, .mov (.t 9), none⟩])
 (.seq
 (.seq
 (.ops
 [⟨some 10, .mov (.t 6), none⟩,
 ⟨some 11, .bin (.lss) (.other) (.t 10) (.c (.int (.i64) 0)), none⟩,
 ⟨some 12, .mov (.t 11), none⟩,
 ⟨some 13, .mov (.t 0), some (12, false)⟩,
 ⟨some 14, .call 23 [.t 13], some (12, false)⟩,
 ⟨some 15, .un (.not) (.t 14), some (12, false)⟩,
 ⟨some 16, .pick (.t 12) (.c (.bool true)) (.t 15), none⟩])
 (.cond
 (.t 16)
 (.seq
 (.ops [⟨some 4, .mov (.c (.nilsl)), none⟩, ⟨some 5, .mov (.c (.bool false)), none⟩])
 (.ret))
 (.skip)))
 (.seq
 (.ops
 [⟨some 17, .mov (.t 0), none⟩,
 ⟨some 18, .mov (.t 6), none⟩,
 ⟨some 19, .idxAddrSl 2 (.t 17) (.t 18), none⟩,
 ⟨some 20, .fieldAddr 1 (.t 19), none⟩,
 ⟨some 21, .load false 1 (.t 20), none⟩,
 ⟨some 22, .call 49 [.t 21], none⟩,
 ⟨some 4, .mov (.t 22), none⟩,
 ⟨some 5, .mov (.c (.bool true)), none⟩])
 (.ret))))⟩
theorem c28 : cFunc Try.prog Try.f28 = some sf28 := by kernel_rfl

/-- wharfage/wharfageref07.Find -/
def sf29 : SFunc := ⟨30,
 [.tmp 4, .tmp 5],
 .seq
 (.ops [⟨some 4, .mov (.c (.nilsl)), none⟩, ⟨some 5, .mov (.c (.bool false)), none⟩])
 (.seq
 (.seq
 (.ops [⟨some 6, .mov (.c (.int (.i64) 0)), none⟩])
 (.block
 0
 (.loop
 (.seq
 (.seq
 (.ops
 [⟨some 7, .mov (.t 6), none⟩,
 ⟨some 8, .mov (.t 0), none⟩,
 ⟨some 9, .len (.sl) (.t 8), none⟩,
 ⟨some 10, .bin (.lss) (.other) (.t 7) (.t 9), none⟩,
 ⟨some 11, .mov (.t 10), none⟩,
 ⟨some 12, .mov (.t 0), some (11, true)⟩,
 ⟨some 13, .call 24 [.t 12], some (11, true)⟩,
 ⟨some 14, .pick (.t 11) (.t 13) (.c (.bool false)), none⟩])
 (.cond (.t 14) (.skip) (.exit 0)))
 (.seq
 (.block
 1
 (.seq
 (.ops
 [⟨some 17, .mov (.t 0), none⟩,
 ⟨some 18, .mov (.t 6), none⟩,
 ⟨some 19, .idxAddrSl 2 (.t 17) (.t 18), none⟩,
 ⟨some 20, .fieldAddr 0 (.t 19), none⟩,
 ⟨some 21, .load false 1 (.t 20), none⟩,
 ⟨some 22, .mov (.t 1), none⟩,
 ⟨some 23, .bin (.eql) (.str) (.t 21) (.t 22), none⟩])
 (.cond
 (.t 23)
 (.seq
 (.ops
 [⟨some 24, .mov (.t 0), none⟩,
 ⟨some 25, .mov (.t 6), none⟩,
 ⟨some 26, .idxAddrSl 2 (.t 24) (.t 25), none⟩,
 ⟨some 27, .fieldAddr 1 (.t 26), none⟩,
 ⟨some 28, .load false 1 (.t 27), none⟩,
 ⟨some 29, .call 36 [.t 28], none⟩,
 ⟨some 4, .mov (.t 29), none⟩,
 ⟨some 5, .mov (.c (.bool true)), none⟩])
 (.ret))
 (.skip))))
 (.ops
 [⟨some 15, .mov (.t 6), none⟩,
 ⟨some 16, .bin (.add) (.other) (.t 15) (.c (.int (.i64) 1)), none⟩,
 ⟨some 6, .mov (.t 16), none⟩]))))))
 (.seq (.ops [⟨some 4, .mov (.c (.nilsl)), none⟩, ⟨some 5, .mov (.c (.bool false)), none⟩]) (.ret)))⟩
theorem c29 : cFunc Try.prog Try.f29 = some sf29 := by kernel_rfl

/-- wharfage/wharfagelaw07.own -/
def sf30 : SFunc := ⟨27,
 [.tmp 2],
 .seq
 (.ops [⟨some 2, .mov (.c (.nilsl)), none⟩])
 (.seq
 (.ops [⟨some 3, .mov (.c (.nilsl)), none⟩])
 (.seq
 (.seq
 (.ops [⟨some 4, .mov (.c (.int (.i64) 0)), none⟩])
 (.block
 0
 (.loop
 (.seq
 (.seq
 (.ops
 [⟨some 5, .mov (.t 4), none⟩,
 ⟨some 6, .mov (.t 0), none⟩,
 ⟨some 7, .len (.sl) (.t 6), none⟩,
 ⟨some 8, .bin (.lss) (.other) (.t 5) (.t 7), none⟩])
 (.cond (.t 8) (.skip) (.exit 0)))
 (.seq
 (.block
 1
 (.drawOps
 [⟨some 11, .mov (.t 3), none⟩,
 ⟨some 12, .mov (.t 0), none⟩,
 ⟨some 13, .mov (.t 4), none⟩,
 ⟨some 14, .idxAddrSl 2 (.t 12) (.t 13), none⟩,
 ⟨some 15, .fieldAddr 0 (.t 14), none⟩,
 ⟨some 16, .load false 1 (.t 15), none⟩,
 ⟨some 17, .mov (.t 0), none⟩,
 ⟨some 18, .mov (.t 4), none⟩,
 ⟨some 19, .idxAddrSl 2 (.t 17) (.t 18), none⟩,
 ⟨some 20, .fieldAddr 1 (.t 19), none⟩,
 ⟨some 21, .load false 1 (.t 20), none⟩,
 ⟨some 22, .call 9 [.t 21], none⟩,
 ⟨some 23, .build [.str [], .nilsl] [(0, 1, .t 16), (1, 1, .t 22)], none⟩,
 ⟨some 24, .buildSlice [.str [], .nilsl] 1 2 [(0, 2, .t 23)], none⟩,
 ⟨some 25, .append 2 40 (.t 11) (.t 24), none⟩,
 ⟨some 3, .mov (.t 25), none⟩]
 [(5, 11)]))
 (.ops
 [⟨some 9, .mov (.t 4), none⟩,
 ⟨some 10, .bin (.add) (.other) (.t 9) (.c (.int (.i64) 1)), none⟩,
 ⟨some 4, .mov (.t 10), none⟩]))))))
 (.seq (.ops [⟨some 26, .mov (.t 3), none⟩, ⟨some 2, .mov (.t 26), none⟩]) (.ret))))⟩
theorem c30 : cFunc Try.prog Try.f30 = some sf30 := by kernel_rfl

/-- wharfage/wharfageref00.Spoil -/
def sf31 : SFunc := ⟨27,
 [],
 .seq
 (.ops
 [⟨some 6, .mov (.t 0), none⟩,
 ⟨some 7, .mov (.t 0), none⟩,
 ⟨some 8, .cap (.t 7), none⟩,
 ⟨some 9, .mov (.t 0), none⟩,
 ⟨some 10, .cap (.t 9), none⟩,
 ⟨some 11, .slice 1 (.t 6) none (some (.t 8)) (some (.t 10)), none⟩,
 ⟨some 4, .mov (.t 11), none⟩])
 (.seq
 (.ops [⟨some 5, .mov (.c (.int (.i64) 0)), none⟩])
 (.block
 0
 (.loop
 (.seq
 (.seq
 (.ops
 [⟨some 12, .mov (.t 5), none⟩,
 ⟨some 13, .mov (.t 4), none⟩,
 ⟨some 14, .len (.sl) (.t 13), none⟩,
 ⟨some 15, .bin (.lss) (.other) (.t 12) (.t 14), none⟩])
 (.cond (.t 15) (.skip) (.exit 0)))
 (.seq
 (.block
 1
 (.ops
 [⟨some 18, .mov (.t 4), none⟩,
 ⟨some 19, .mov (.t 5), none⟩,
 ⟨some 20, .mov (.t 4), none⟩,
 ⟨some 21, .mov (.t 5), none⟩,
 ⟨some 22, .idxAddrSl 1 (.t 20) (.t 21), none⟩,
 ⟨some 23, .load false 1 (.t 22), none⟩,
 ⟨some 24, .mov (.t 1), none⟩,
 ⟨some 25, .bin (.xor) (.other) (.t 23) (.t 24), none⟩,
 ⟨some 26, .idxAddrSl 1 (.t 18) (.t 19), none⟩,
 ⟨none, .store 1 (.t 26) (.t 25), none⟩]))
 (.ops
 [⟨some 16, .mov (.t 5), none⟩,
 ⟨some 17, .bin (.add) (.other) (.t 16) (.c (.int (.i64) 1)), none⟩,
 ⟨some 5, .mov (.t 17), none⟩]))))))⟩
theorem c31 : cFunc Try.prog Try.f31 = some sf31 := by kernel_rfl

/-- wharfage/wharfagelaw07.left -/
def sf32 : SFunc := ⟨37,
 [.tmp 4],
 .seq
 (.ops [⟨some 4, .mov (.c (.bool false)), none⟩])
 (.seq
 (.seq
 (.ops [⟨some 5, .mov (.c (.int (.i64) 0)), none⟩])
 (.block
 0
 (.loop
 (.seq
 (.seq
 (.ops
 [⟨some 6, .mov (.t 5), none⟩,
 ⟨some 7, .mov (.t 1), none⟩,
 ⟨some 8, .len (.sl) (.t 7), none⟩,
 ⟨some 9, .bin (.lss) (.other) (.t 6) (.t 8), none⟩])
 (.cond (.t 9) (.skip) (.exit 0)))
 (.seq
 (.block
 1
 (.seq
 (.ops
 [⟨some 12, .mov (.t 0), none⟩,
 ⟨some 13, .mov (.t 5), none⟩,
 ⟨some 14, .idxAddrSl 2 (.t 12) (.t 13), none⟩,
 ⟨some 15, .fieldAddr 0 (.t 14), none⟩,
 ⟨some 16, .load false 1 (.t 15), none⟩,
 ⟨some 17, .mov (.t 1), none⟩,
 ⟨some 18, .mov (.t 5), none⟩,
 ⟨some 19, .idxAddrSl 2 (.t 17) (.t 18), none⟩,
 ⟨some 20, .fieldAddr 0 (.t 19), none⟩,
 ⟨some 21, .load false 1 (.t 20), none⟩,
 ⟨some 22, .bin (.neq) (.str) (.t 16) (.t 21), none⟩,
 ⟨some 23, .mov (.t 22), none⟩,
 ⟨some 24, .mov (.t 0), some (23, false)⟩,
 ⟨some 25, .mov (.t 5), some (23, false)⟩,
 ⟨some 26, .idxAddrSl 2 (.t 24) (.t 25), some (23, false)⟩,
 ⟨some 27, .fieldAddr 1 (.t 26), some (23, false)⟩,
 ⟨some 28, .load false 1 (.t 27), some (23, false)⟩,
 ⟨some 29, .mov (.t 1), some (23, false)⟩,
 ⟨some 30, .mov (.t 5), some (23, false)⟩,
 ⟨some 31, .idxAddrSl 2 (.t 29) (.t 30), some (23, false)⟩,
 ⟨some 32, .fieldAddr 1 (.t 31), some (23, false)⟩,
 ⟨some 33, .load false 1 (.t 32), some (23, false)⟩,
 ⟨some 34, .call 20 [.t 28, .t 33], some (23, false)⟩,
 ⟨some 35, .un (.not) (.t 34), some (23, false)⟩,
 ⟨some 36, .pick (.t 23) (.c (.bool true)) (.t 35), none⟩])
 (.cond (.t 36) (.seq (.ops [⟨some 4, .mov (.c (.bool false)), none⟩]) (.ret)) (.skip))))
 (.ops
 [⟨some 10, .mov (.t 5), none⟩,
 ⟨some 11, .bin (.add) (.other) (.t 10) (.c (.int (.i64) 1)), none⟩,
 ⟨some 5, .mov (.t 11), none⟩]))))))
 (.seq (.ops [⟨some 4, .mov (.c (.bool true)), none⟩]) (.ret)))⟩
theorem c32 : cFunc Try.prog Try.f32 = some sf32 := by kernel_rfl

/-- wharfage/wharfagelaw07.put -/
def sf33 : SFunc := ⟨9,
 [.cell 4 true 3],
 .seq
 (.ops [⟨some 4, .box (.c (.agg [.str [], .nilsl, .bool false])), none⟩])
 (.seq
 (.ops
 [⟨some 5, .mov (.t 0), none⟩,
 ⟨some 6, .mov (.t 1), none⟩,
 ⟨some 7, .buildSlice [.int (.u8) 0] 1 1 [(0, 1, .t 6)], none⟩,
 ⟨some 8, .build [.str [], .nilsl, .bool false] [(0, 1, .t 5), (1, 1, .t 7)], none⟩,
 ⟨none, .store 3 (.t 4) (.t 8), none⟩])
 (.ret))⟩
theorem c33 : cFunc Try.prog Try.f33 = some sf33 := by kernel_rfl

/-- wharfage/wharfagelaw07.gone -/
def sf34 : SFunc := ⟨5,
 [.cell 2 true 3],
 .seq
 (.ops [⟨some 2, .box (.c (.agg [.str [], .nilsl, .bool false])), none⟩])
 (.seq
 (.ops
 [⟨some 3, .mov (.t 0), none⟩,
 ⟨some 4, .build [.str [], .nilsl, .bool false] [(0, 1, .t 3), (2, 1, .c (.bool true))], none⟩,
 ⟨none, .store 3 (.t 2) (.t 4), none⟩])
 (.ret))⟩
theorem c34 : cFunc Try.prog Try.f34 = some sf34 := by kernel_rfl

/-- wharfage/wharfagelaw07.row -/
def sf35 : SFunc := ⟨10,
 [.tmp 4],
 .seq
 (.ops [⟨some 4, .mov (.c (.nilsl)), none⟩])
 (.seq
 (.ops
 [⟨some 5, .mov (.t 0), none⟩,
 ⟨some 6, .mov (.t 1), none⟩,
 ⟨some 7, .buildSlice [.int (.u8) 0] 1 1 [(0, 1, .t 6)], none⟩,
 ⟨some 8, .build [.str [], .nilsl] [(0, 1, .t 5), (1, 1, .t 7)], none⟩,
 ⟨some 9, .buildSlice [.str [], .nilsl] 1 2 [(0, 2, .t 8)], none⟩,
 ⟨some 4, .mov (.t 9), none⟩])
 (.ret))⟩
theorem c35 : cFunc Try.prog Try.f35 = some sf35 := by kernel_rfl

/-- wharfage/wharfageref00.Copy -/
def sf36 : SFunc := ⟨7,
 [.tmp 2],
 .seq
 (.ops [⟨some 2, .mov (.c (.nilsl)), none⟩])
 (.seq
 (.ops [⟨some 3, .mov (.c (.nilsl)), none⟩])
 (.seq
 (.ops
 [⟨some 4, .mov (.t 3), none⟩,
 ⟨some 5, .mov (.t 0), none⟩,
 ⟨some 6, .append 1 1 (.t 4) (.t 5), none⟩,
 ⟨some 2, .mov (.t 6), none⟩])
 (.ret)))⟩
theorem c36 : cFunc Try.prog Try.f36 = some sf36 := by kernel_rfl

/-- wharfage/num.Put -/
def sf37 : SFunc := ⟨34,
 [.tmp 4, .tmp 5],
 .seq
 (.ops [⟨some 4, .mov (.c (.nilsl)), none⟩, ⟨some 5, .mov (.c (.int (.i64) 0)), none⟩])
 (.seq
 (.seq
 (.ops
 [⟨some 8, .mov (.t 1), none⟩,
 ⟨some 9, .call 60 [.t 8], none⟩,
 ⟨some 10, .un (.not) (.t 9), none⟩,
 ⟨some 11, .mov (.t 10), none⟩,
 ⟨some 12, .mov (.t 0), some (11, false)⟩,
 ⟨some 13, .call 61 [.t 12], some (11, false)⟩,
 ⟨some 14, .mov (.t 1), some (11, false)⟩,
 ⟨some 15, .bin (.mul) (.other) (.c (.int (.i64) 8)) (.t 14), some (11, false)⟩,
 ⟨some 16, .bin (.gtr) (.other) (.t 13) (.t 15), some (11, false)⟩,
 ⟨some 17, .pick (.t 11) (.c (.bool true)) (.t 16), none⟩])
 (.cond
 (.t 17)
 (.seq
 (.ops [⟨some 4, .mov (.c (.nilsl)), none⟩, ⟨some 5, .mov (.c (.int (.i64) 2)), none⟩])
 (.ret))
 (.skip)))
 (.seq
 (.ops
 [⟨some 18, .mov (.t 1), none⟩,
 ⟨some 19, .mkSlice [.int (.u8) 0] 1 1 (.t 18) (.t 18), none⟩,
 ⟨some 6, .mov (.t 19), none⟩])
 (.seq
 (.seq
 (.ops
 [⟨some 20, .mov (.t 1), none⟩,
 ⟨some 21, .bin (.sub) (.other) (.t 20) (.c (.int (.i64) 1)), none⟩,
 ⟨some 7, .mov (.t 21), none⟩])
 (.block
 0
 (.loop
 (.seq
 (.seq
 (.ops
 [⟨some 22, .mov (.t 7), none⟩,
 ⟨some 23, .bin (.geq) (.other) (.t 22) (.c (.int (.i64) 0)), none⟩])
 (.cond (.t 23) (.skip) (.exit 0)))
 (.seq
 (.block
 1
 (.seq
 (.ops
 [⟨some 26, .mov (.t 6), none⟩,
 ⟨some 27, .mov (.t 7), none⟩,
 ⟨some 28, .mov (.t 0), none⟩,
 ⟨some 29, .convInt (.u8) (.t 28), none⟩,
 ⟨some 30, .idxAddrSl 1 (.t 26) (.t 27), none⟩,
 ⟨none, .store 1 (.t 30) (.t 29), none⟩])
 (.ops
 [⟨some 31, .mov (.t 0), none⟩,
 ⟨some 32, .bin (.shr) (.other) (.t 31) (.c (.int (.u64) 8)), none⟩,
 ⟨some 0, .mov (.t 32), none⟩])))
 (.ops
 [⟨some 24, .mov (.t 7), none⟩,
 ⟨some 25, .bin (.sub) (.other) (.t 24) (.c (.int (.i64) 1)), none⟩,
 ⟨some 7, .mov (.t 25), none⟩]))))))
 (.seq
 (.ops
 [⟨some 33, .mov (.t 6), none⟩,
 ⟨some 4, .mov (.t 33), none⟩,
 ⟨some 5, .mov (.c (.int (.i64) 0)), none⟩])
 (.ret)))))⟩
theorem c37 : cFunc Try.prog Try.f37 = some sf37 := by kernel_rfl

/-- slices.Concat[[]byte,byte] -/
def sf38 : SFunc := ⟨36,
 [.tmp 2],
 .seq
 (.ops [⟨some 2, .mov (.c (.nilsl)), none⟩])
 (.seq
 (.ops [⟨some 3, .mov (.c (.int (.i64) 0)), none⟩])
 (.seq
 (.seq
 (.ops
 [⟨some 9, .mov (.t 0), none⟩,
 ⟨some 10, .len (.sl) (.t 9), none⟩,
 ⟨some 11, .mov (.c (.int (.i64) 0)), none⟩])
 (.block
 0
 (.loop
 (.seq
 (.ops [⟨some 12, .bin (.lss) (.other) (.t 11) (.t 10), none⟩])
 (.seq
 (.cond (.t 12) (.skip) (.exit 0))
 (.seq
 (.block
 1
 (.seq
 (.ops
 [⟨some 13, .idxAddrSl 1 (.t 9) (.t 11), none⟩,
 ⟨some 14, .load false 1 (.t 13), none⟩,
 ⟨some 5, .mov (.t 14), none⟩])
 (.seq
 (.ops
 [⟨some 15, .mov (.t 3), none⟩,
 ⟨some 16, .mov (.t 5), none⟩,
 ⟨some 17, .len (.sl) (.t 16), none⟩,
 ⟨some 18, .bin (.add) (.other) (.t 15) (.t 17), none⟩,
 ⟨some 3, .mov (.t 18), none⟩])
 (.seq
 (.ops
 [⟨some 19, .mov (.t 3), none⟩,
 ⟨some 20, .bin (.lss) (.other) (.t 19) (.c (.int (.i64) 0)), none⟩])
 (.cond
 (.t 20)
 (.ops
 [⟨some 21, .iface 9 (.c (.str [108, 101, 110, 32, 111, 117, 116, 32, 111, 102, 32, 114, 97, 110, 103, 101])), none⟩,
 ⟨none, .trap, none⟩])
 (.skip))))))
 (.ops
 [⟨some 22, .bin (.add) (.other) (.t 11) (.c (.int (.i64) 1)), none⟩,
 ⟨some 11, .mov (.t 22), none⟩])))))))
 (.seq
 (.ops
 [⟨some 23, .mov (.t 3), none⟩,
 ⟨some 24, .call 62 [.c (.nilsl), .t 23], none⟩,
 ⟨some 6, .mov (.t 24), none⟩])
 (.seq
 (.seq
 (.ops
 [⟨some 25, .mov (.t 0), none⟩,
 ⟨some 26, .len (.sl) (.t 25), none⟩,
 ⟨some 27, .mov (.c (.int (.i64) 0)), none⟩])
 (.block
 2
 (.loop
 (.seq
 (.ops [⟨some 28, .bin (.lss) (.other) (.t 27) (.t 26), none⟩])
 (.seq
 (.cond (.t 28) (.skip) (.exit 2))
 (.seq
 (.block
 3
 (.seq
 (.ops
 [⟨some 29, .idxAddrSl 1 (.t 25) (.t 27), none⟩,
 ⟨some 30, .load false 1 (.t 29), none⟩,
 ⟨some 8, .mov (.t 30), none⟩])
 (.ops
 [⟨some 31, .mov (.t 6), none⟩,
 ⟨some 32, .mov (.t 8), none⟩,
 ⟨some 33, .append 1 1 (.t 31) (.t 32), none⟩,
 ⟨some 6, .mov (.t 33), none⟩])))
 (.ops
 [⟨some 34, .bin (.add) (.other) (.t 27) (.c (.int (.i64) 1)), none⟩,
 ⟨some 27, .mov (.t 34), none⟩])))))))
 (.seq (.ops [⟨some 35, .mov (.t 6), none⟩, ⟨some 2, .mov (.t 35), none⟩]) (.ret))))))⟩
theorem c38 : cFunc Try.prog Try.f38 = some sf38 := by kernel_rfl

/-- wharfage/wharfageref07.one -/
def sf39 : SFunc := ⟨49,
 [.tmp 4],
 .seq
 (.ops [⟨some 3, .box (.t 1), none⟩, ⟨some 4, .mov (.c (.nilsl)), none⟩])
 (.seq
 (.ops
 [⟨some 10, .mov (.t 0), none⟩,
 ⟨some 11, .fieldAddr 0 (.t 3), none⟩,
 ⟨some 12, .load false 1 (.t 11), none⟩,
 ⟨some 13, .call 19 [.t 10, .t 12], none⟩,
 ⟨some 5, .mov (.t 13), none⟩])
 (.seq
 (.ops
 [⟨some 14, .mov (.t 5), none⟩,
 ⟨some 15, .convInt (.u8) (.t 14), none⟩,
 ⟨some 16, .fieldAddr 0 (.t 3), none⟩,
 ⟨some 17, .load false 1 (.t 16), none⟩,
 ⟨some 18, .len (.str) (.t 17), none⟩,
 ⟨some 19, .mov (.t 5), none⟩,
 ⟨some 20, .bin (.sub) (.other) (.t 18) (.t 19), none⟩,
 ⟨some 21, .convInt (.u8) (.t 20), none⟩,
 ⟨some 22, .buildSlice [.int (.u8) 0, .int (.u8) 0] 2 1 [(0, 1, .t 15), (1, 1, .t 21)], none⟩,
 ⟨some 6, .mov (.t 22), none⟩])
 (.seq
 (.ops
 [⟨some 23, .mov (.t 6), none⟩,
 ⟨some 24, .fieldAddr 0 (.t 3), none⟩,
 ⟨some 25, .load false 1 (.t 24), none⟩,
 ⟨some 26, .mov (.t 5), none⟩,
 ⟨some 27, .sliceStr (.t 25) (some (.t 26)) none, none⟩,
 ⟨some 28, .append 1 1 (.t 23) (.t 27), none⟩,
 ⟨some 6, .mov (.t 28), none⟩])
 (.seq
 (.ops [⟨some 7, .mov (.c (.int (.u64) 0)), none⟩])
 (.seq
 (.seq
 (.ops
 [⟨some 29, .fieldAddr 2 (.t 3), none⟩,
 ⟨some 30, .load false 1 (.t 29), none⟩,
 ⟨some 31, .un (.not) (.t 30), none⟩])
 (.cond
 (.t 31)
 (.ops
 [⟨some 32, .fieldAddr 1 (.t 3), none⟩,
 ⟨some 33, .load false 1 (.t 32), none⟩,
 ⟨some 34, .len (.sl) (.t 33), none⟩,
 ⟨some 35, .convInt (.u64) (.t 34), none⟩,
 ⟨some 36, .bin (.add) (.other) (.t 35) (.c (.int (.u64) 1)), none⟩,
 ⟨some 7, .mov (.t 36), none⟩])
 (.skip)))
 (.seq
 (.ops
 [⟨some 38, .mov (.t 7), none⟩,
 ⟨some 39, .call 63 [.t 38, .c (.int (.i64) 2)], none⟩,
 ⟨some 37, .mov (.t 39), none⟩,
 ⟨some 40, .extract (.t 37) 0, none⟩,
 ⟨some 41, .extract (.t 37) 1, none⟩,
 ⟨some 8, .mov (.t 40), none⟩,
 ⟨some 9, .mov (.t 41), none⟩])
 (.seq
 (.ops
 [⟨some 42, .mov (.t 6), none⟩,
 ⟨some 43, .mov (.t 8), none⟩,
 ⟨some 44, .append 1 1 (.t 42) (.t 43), none⟩,
 ⟨some 6, .mov (.t 44), none⟩])
 (.seq
 (.ops
 [⟨some 45, .mov (.t 6), none⟩,
 ⟨some 46, .fieldAddr 1 (.t 3), none⟩,
 ⟨some 47, .load false 1 (.t 46), none⟩,
 ⟨some 48, .append 1 1 (.t 45) (.t 47), none⟩,
 ⟨some 4, .mov (.t 48), none⟩])
 (.ret)))))))))⟩
theorem c39 : cFunc Try.prog Try.f39 = some sf39 := by kernel_rfl

/-- (*wharfage/batch.from).change -/
def sf40 : SFunc := ⟨90,
 [.cell 4 true 3, .tmp 5],
 .seq
 (.ops
 [⟨some 4, .box (.c (.agg [.str [], .nilsl, .bool false])), none⟩,
 ⟨some 5, .mov (.c (.int (.i64) 0)), none⟩])
 (.seq
 (.ops
 [⟨some 14, .mov (.t 0), none⟩,
 ⟨some 15, .call 64 [.t 14, .c (.int (.i64) 1)], none⟩,
 ⟨some 13, .mov (.t 15), none⟩,
 ⟨some 16, .extract (.t 13) 0, none⟩,
 ⟨some 17, .extract (.t 13) 1, none⟩,
 ⟨some 6, .mov (.t 16), none⟩,
 ⟨some 7, .mov (.t 17), none⟩])
 (.seq
 (.seq
 (.ops
 [⟨some 18, .mov (.t 6), none⟩,
 ⟨some 19, .mov (.t 1), none⟩,
 ⟨some 20, .len (.str) (.t 19), none⟩,
 ⟨some 21, .bin (.gtr) (.other) (.t 18) (.t 20), none⟩])
 (.cond
 (.t 21)
 (.seq
 (.ops
 [⟨some 22, .load true 3 (.t 4), none⟩,
 ⟨none, .store 3 (.t 4) (.t 22), none⟩,
 ⟨some 5, .mov (.c (.int (.i64) 5)), none⟩])
 (.ret))
 (.skip)))
 (.seq
 (.ops
 [⟨some 24, .mov (.t 0), none⟩,
 ⟨some 25, .call 64 [.t 24, .c (.int (.i64) 1)], none⟩,
 ⟨some 23, .mov (.t 25), none⟩,
 ⟨some 26, .extract (.t 23) 0, none⟩,
 ⟨some 27, .extract (.t 23) 1, none⟩,
 ⟨some 8, .mov (.t 26), none⟩,
 ⟨some 9, .mov (.t 27), none⟩])
 (.seq
 (.seq
 (.ops [⟨some 28, .mov (.t 9), none⟩, ⟨some 29, .un (.not) (.t 28), none⟩])
 (.cond
 (.t 29)
 (.seq
 (.ops
 [⟨some 30, .load true 3 (.t 4), none⟩,
 ⟨none, .store 3 (.t 4) (.t 30), none⟩,
 ⟨some 5, .mov (.c (.int (.i64) 4)), none⟩])
 (.ret))
 (.skip)))
 (.seq
 (.ops
 [⟨some 32, .mov (.t 0), none⟩,
 ⟨some 33, .mov (.t 8), none⟩,
 ⟨some 34, .call 65 [.t 32, .t 33], none⟩,
 ⟨some 31, .mov (.t 34), none⟩,
 ⟨some 35, .extract (.t 31) 0, none⟩,
 ⟨some 36, .extract (.t 31) 1, none⟩,
 ⟨some 10, .mov (.t 35), none⟩,
 ⟨some 9, .mov (.t 36), none⟩])
 (.seq
 (.seq
 (.ops [⟨some 37, .mov (.t 9), none⟩, ⟨some 38, .un (.not) (.t 37), none⟩])
 (.cond
 (.t 38)
 (.seq
 (.ops
 [⟨some 39, .load true 3 (.t 4), none⟩,
 ⟨none, .store 3 (.t 4) (.t 39), none⟩,
 ⟨some 5, .mov (.c (.int (.i64) 4)), none⟩])
 (.ret))
 (.skip)))
 (.seq
 (.ops
 [⟨some 41, .mov (.t 0), none⟩,
 ⟨some 42, .call 64 [.t 41, .c (.int (.i64) 2)], none⟩,
 ⟨some 40, .mov (.t 42), none⟩,
 ⟨some 43, .extract (.t 40) 0, none⟩,
 ⟨some 44, .extract (.t 40) 1, none⟩,
 ⟨some 11, .mov (.t 43), none⟩,
 ⟨some 9, .mov (.t 44), none⟩])
 (.seq
 (.seq
 (.ops [⟨some 45, .mov (.t 9), none⟩, ⟨some 46, .un (.not) (.t 45), none⟩])
 (.cond
 (.t 46)
 (.seq
 (.ops
 [⟨some 47, .load true 3 (.t 4), none⟩,
 ⟨none, .store 3 (.t 4) (.t 47), none⟩,
 ⟨some 5, .mov (.c (.int (.i64) 4)), none⟩])
 (.ret))
 (.skip)))
 (.seq
 (.ops
 [⟨some 49, .mov (.t 0), none⟩,
 ⟨some 50, .mov (.t 11), none⟩,
 ⟨some 51, .max (.t 50) [.c (.int (.i64) 1)], none⟩,
 ⟨some 52, .bin (.sub) (.other) (.t 51) (.c (.int (.i64) 1)), none⟩,
 ⟨some 53, .call 65 [.t 49, .t 52], none⟩,
 ⟨some 48, .mov (.t 53), none⟩,
 ⟨some 54, .extract (.t 48) 0, none⟩,
 ⟨some 55, .extract (.t 48) 1, none⟩,
 ⟨some 12, .mov (.t 54), none⟩,
 ⟨some 9, .mov (.t 55), none⟩])
 (.seq
 (.seq
 (.ops [⟨some 56, .mov (.t 9), none⟩, ⟨some 57, .un (.not) (.t 56), none⟩])
 (.cond
 (.t 57)
 (.seq
 (.ops
 [⟨some 58, .load true 3 (.t 4), none⟩,
 ⟨none, .store 3 (.t 4) (.t 58), none⟩,
 ⟨some 5, .mov (.c (.int (.i64) 4)), none⟩])
 (.ret))
 (.skip)))
 (.seq
 (.drawOps
 [⟨some 59, .mov (.t 1), none⟩,
 ⟨some 60, .mov (.t 6), none⟩,
 ⟨some 61, .sliceStr (.t 59) none (some (.t 60)), none⟩,
 ⟨some 62, .mov (.t 10), none⟩,
 ⟨some 63, .bytesToStr (.t 62), none⟩,
 ⟨some 64, .bin (.add) (.str) (.t 61) (.t 63), none⟩,
 ⟨some 65, .mov (.t 12), none⟩,
 ⟨some 66, .call 49 [.t 65], none⟩,
 ⟨some 67, .mov (.t 11), none⟩,
 ⟨some 68, .bin (.eql) (.other) (.t 67) (.c (.int (.i64) 0)), none⟩,
 ⟨some 69, .build [.str [], .nilsl, .bool false] [(0, 1, .t 64), (1, 1, .t 66), (2, 1, .t 68)], none⟩,
 ⟨none, .store 3 (.t 4) (.t 69), none⟩]
 [(4, 7)])
 (.seq
 (.seq
 (.ops
 [⟨some 70, .fieldAddr 0 (.t 4), none⟩,
 ⟨some 71, .load false 1 (.t 70), none⟩,
 ⟨some 72, .mov (.t 1), none⟩,
 ⟨some 73, .bin (.leq) (.str) (.t 71) (.t 72), none⟩,
 ⟨some 74, .mov (.t 73), none⟩,
 ⟨some 75, .load true 3 (.t 4), some (74, false)⟩,
 ⟨some 76, .buildSlice [.str [], .nilsl, .bool false] 1 3 [(0, 3, .t 75)], some (74, false)⟩,
 ⟨some 77, .call 14 [.t 76], some (74, false)⟩,
 ⟨some 78, .un (.not) (.t 77), some (74, false)⟩,
 ⟨some 79, .pick (.t 74) (.c (.bool true)) (.t 78), none⟩,
 ⟨some 80, .mov (.t 79), none⟩,
 ⟨some 81, .mov (.t 1), some (80, false)⟩,
 ⟨some 82, .fieldAddr 0 (.t 4), some (80, false)⟩,
 ⟨some 83, .load false 1 (.t 82), some (80, false)⟩,
 ⟨some 84, .call 18 [.t 81, .t 83], some (80, false)⟩,
 ⟨some 85, .mov (.t 6), some (80, false)⟩,
 ⟨some 86, .bin (.neq) (.other) (.t 84) (.t 85), some (80, false)⟩,
 ⟨some 87, .pick (.t 80) (.c (.bool true)) (.t 86), none⟩])
 (.cond
 (.t 87)
 (.seq
 (.ops
 [⟨some 88, .load true 3 (.t 4), none⟩,
 ⟨none, .store 3 (.t 4) (.t 88), none⟩,
 ⟨some 5, .mov (.c (.int (.i64) 5)), none⟩])
 (.ret))
 (.skip)))
 (.seq
 (.ops
 [⟨some 89, .load true 3 (.t 4), none⟩,
 ⟨none, .store 3 (.t 4) (.t 89), none⟩,
 ⟨some 5, .mov (.c (.int (.i64) 0)), none⟩])
 (.ret))))))))))))))⟩
theorem c40 : cFunc Try.prog Try.f40 = some sf40 := by kernel_rfl

/-- wharfage/wharfageref07.next -/
def sf41 : SFunc := ⟨109,
 [.cell 4 true 3, .tmp 5, .tmp 6],
 .seq
 (.ops
 [⟨some 4, .box (.c (.agg [.str [], .nilsl, .bool false])), none⟩,
 ⟨some 5, .mov (.c (.nilsl)), none⟩,
 ⟨some 6, .mov (.c (.int (.i64) 0)), none⟩])
 (.seq
 (.seq
 (.ops
 [⟨some 12, .mov (.t 1), none⟩,
 ⟨some 13, .idxAddrSl 1 (.t 12) (.c (.int (.i64) 0)), none⟩,
 ⟨some 14, .load false 1 (.t 13), none⟩,
 ⟨some 15, .convInt (.i64) (.t 14), none⟩,
 ⟨some 16, .mov (.t 0), none⟩,
 ⟨some 17, .len (.str) (.t 16), none⟩,
 ⟨some 18, .bin (.gtr) (.other) (.t 15) (.t 17), none⟩])
 (.cond
 (.t 18)
 (.seq
 (.ops
 [⟨some 19, .build [.str [], .nilsl, .bool false] [], none⟩,
 ⟨none, .store 3 (.t 4) (.t 19), none⟩,
 ⟨some 5, .mov (.c (.nilsl)), none⟩,
 ⟨some 6, .mov (.c (.int (.i64) 5)), none⟩])
 (.ret))
 (.skip)))
 (.seq
 (.ops
 [⟨some 20, .mov (.t 1), none⟩,
 ⟨some 21, .idxAddrSl 1 (.t 20) (.c (.int (.i64) 0)), none⟩,
 ⟨some 22, .load false 1 (.t 21), none⟩,
 ⟨some 23, .convInt (.i64) (.t 22), none⟩,
 ⟨some 7, .mov (.t 23), none⟩])
 (.seq
 (.ops
 [⟨some 25, .mov (.t 1), none⟩,
 ⟨some 26, .slice 1 (.t 25) (some (.c (.int (.i64) 1))) none none, none⟩,
 ⟨some 27, .call 66 [.t 26, .c (.int (.i64) 1)], none⟩,
 ⟨some 24, .mov (.t 27), none⟩,
 ⟨some 28, .extract (.t 24) 0, none⟩,
 ⟨some 29, .extract (.t 24) 1, none⟩,
 ⟨some 30, .extract (.t 24) 2, none⟩,
 ⟨some 8, .mov (.t 28), none⟩,
 ⟨some 1, .mov (.t 29), none⟩,
 ⟨some 9, .mov (.t 30), none⟩])
 (.seq
 (.seq
 (.ops [⟨some 31, .mov (.t 9), none⟩, ⟨some 32, .un (.not) (.t 31), none⟩])
 (.cond
 (.t 32)
 (.seq
 (.ops
 [⟨some 33, .build [.str [], .nilsl, .bool false] [], none⟩,
 ⟨none, .store 3 (.t 4) (.t 33), none⟩,
 ⟨some 5, .mov (.c (.nilsl)), none⟩,
 ⟨some 6, .mov (.c (.int (.i64) 4)), none⟩])
 (.ret))
 (.skip)))
 (.seq
 (.ops
 [⟨some 35, .mov (.t 1), none⟩,
 ⟨some 36, .mov (.t 8), none⟩,
 ⟨some 37, .idxAddrSl 1 (.t 36) (.c (.int (.i64) 0)), none⟩,
 ⟨some 38, .load false 1 (.t 37), none⟩,
 ⟨some 39, .convInt (.i64) (.t 38), none⟩,
 ⟨some 40, .call 66 [.t 35, .t 39], none⟩,
 ⟨some 34, .mov (.t 40), none⟩,
 ⟨some 41, .extract (.t 34) 0, none⟩,
 ⟨some 42, .extract (.t 34) 1, none⟩,
 ⟨some 43, .extract (.t 34) 2, none⟩,
 ⟨some 8, .mov (.t 41), none⟩,
 ⟨some 1, .mov (.t 42), none⟩,
 ⟨some 9, .mov (.t 43), none⟩])
 (.seq
 (.seq
 (.ops [⟨some 44, .mov (.t 9), none⟩, ⟨some 45, .un (.not) (.t 44), none⟩])
 (.cond
 (.t 45)
 (.seq
 (.ops
 [⟨some 46, .build [.str [], .nilsl, .bool false] [], none⟩,
 ⟨none, .store 3 (.t 4) (.t 46), none⟩,
 ⟨some 5, .mov (.c (.nilsl)), none⟩,
 ⟨some 6, .mov (.c (.int (.i64) 4)), none⟩])
 (.ret))
 (.skip)))
 (.seq
 (.drawOps
 [⟨some 47, .mov (.t 0), none⟩,
 ⟨some 48, .mov (.t 7), none⟩,
 ⟨some 49, .sliceStr (.t 47) none (some (.t 48)), none⟩,
 ⟨some 50, .mov (.t 8), none⟩,
 ⟨some 51, .bytesToStr (.t 50), none⟩,
 ⟨some 52, .bin (.add) (.str) (.t 49) (.t 51), none⟩,
 ⟨some 53, .build [.str [], .nilsl, .bool false] [(0, 1, .t 52)], none⟩,
 ⟨some 10, .box (.c (.agg [.str [], .nilsl, .bool false])), none⟩,
 ⟨none, .store 3 (.t 10) (.t 53), none⟩]
 [(4, 7)])
 (.seq
 (.ops
 [⟨some 55, .mov (.t 1), none⟩,
 ⟨some 56, .call 66 [.t 55, .c (.int (.i64) 2)], none⟩,
 ⟨some 54, .mov (.t 56), none⟩,
 ⟨some 57, .extract (.t 54) 0, none⟩,
 ⟨some 58, .extract (.t 54) 1, none⟩,
 ⟨some 59, .extract (.t 54) 2, none⟩,
 ⟨some 8, .mov (.t 57), none⟩,
 ⟨some 1, .mov (.t 58), none⟩,
 ⟨some 9, .mov (.t 59), none⟩])
 (.seq
 (.seq
 (.ops [⟨some 60, .mov (.t 9), none⟩, ⟨some 61, .un (.not) (.t 60), none⟩])
 (.cond
 (.t 61)
 (.seq
 (.ops
 [⟨some 62, .build [.str [], .nilsl, .bool false] [], none⟩,
 ⟨none, .store 3 (.t 4) (.t 62), none⟩,
 ⟨some 5, .mov (.c (.nilsl)), none⟩,
 ⟨some 6, .mov (.c (.int (.i64) 4)), none⟩])
 (.ret))
 (.skip)))
 (.seq
 (.ops
 [⟨some 63, .mov (.t 8), none⟩,
 ⟨some 64, .idxAddrSl 1 (.t 63) (.c (.int (.i64) 0)), none⟩,
 ⟨some 65, .load false 1 (.t 64), none⟩,
 ⟨some 66, .convInt (.i64) (.t 65), none⟩,
 ⟨some 67, .bin (.mul) (.other) (.c (.int (.i64) 256)) (.t 66), none⟩,
 ⟨some 68, .mov (.t 8), none⟩,
 ⟨some 69, .idxAddrSl 1 (.t 68) (.c (.int (.i64) 1)), none⟩,
 ⟨some 70, .load false 1 (.t 69), none⟩,
 ⟨some 71, .convInt (.i64) (.t 70), none⟩,
 ⟨some 72, .bin (.add) (.other) (.t 67) (.t 71), none⟩,
 ⟨some 11, .mov (.t 72), none⟩])
 (.seq
 (.ops
 [⟨some 73, .mov (.t 11), none⟩,
 ⟨some 74, .bin (.eql) (.other) (.t 73) (.c (.int (.i64) 0)), none⟩,
 ⟨some 75, .fieldAddr 2 (.t 10), none⟩,
 ⟨none, .store 1 (.t 75) (.t 74), none⟩])
 (.seq
 (.ops
 [⟨some 77, .mov (.t 1), none⟩,
 ⟨some 78, .mov (.t 11), none⟩,
 ⟨some 79, .bin (.sub) (.other) (.t 78) (.c (.int (.i64) 1)), none⟩,
 ⟨some 80, .max (.t 79) [.c (.int (.i64) 0)], none⟩,
 ⟨some 81, .call 66 [.t 77, .t 80], none⟩,
 ⟨some 76, .mov (.t 81), none⟩,
 ⟨some 82, .extract (.t 76) 0, none⟩,
 ⟨some 83, .extract (.t 76) 1, none⟩,
 ⟨some 84, .extract (.t 76) 2, none⟩,
 ⟨some 8, .mov (.t 82), none⟩,
 ⟨some 1, .mov (.t 83), none⟩,
 ⟨some 9, .mov (.t 84), none⟩])
 (.seq
 (.seq
 (.ops [⟨some 85, .mov (.t 9), none⟩, ⟨some 86, .un (.not) (.t 85), none⟩])
 (.cond
 (.t 86)
 (.seq
 (.ops
 [⟨some 87, .build [.str [], .nilsl, .bool false] [], none⟩,
 ⟨none, .store 3 (.t 4) (.t 87), none⟩,
 ⟨some 5, .mov (.c (.nilsl)), none⟩,
 ⟨some 6, .mov (.c (.int (.i64) 4)), none⟩])
 (.ret))
 (.skip)))
 (.seq
 (.ops
 [⟨some 88, .mov (.t 8), none⟩,
 ⟨some 89, .call 36 [.t 88], none⟩,
 ⟨some 90, .fieldAddr 1 (.t 10), none⟩,
 ⟨none, .store 1 (.t 90) (.t 89), none⟩])
 (.seq
 (.seq
 (.ops
 [⟨some 91, .mov (.t 0), none⟩,
 ⟨some 92, .fieldAddr 0 (.t 10), none⟩,
 ⟨some 93, .load false 1 (.t 92), none⟩,
 ⟨some 94, .fieldAddr 1 (.t 10), none⟩,
 ⟨some 95, .load false 1 (.t 94), none⟩,
 ⟨some 96, .call 44 [.t 91, .t 93, .t 95], none⟩,
 ⟨some 97, .un (.not) (.t 96), none⟩,
 ⟨some 98, .mov (.t 97), none⟩,
 ⟨some 99, .mov (.t 0), some (98, false)⟩,
 ⟨some 100, .fieldAddr 0 (.t 10), some (98, false)⟩,
 ⟨some 101, .load false 1 (.t 100), some (98, false)⟩,
 ⟨some 102, .call 19 [.t 99, .t 101], some (98, false)⟩,
 ⟨some 103, .mov (.t 7), some (98, false)⟩,
 ⟨some 104, .bin (.gtr) (.other) (.t 102) (.t 103), some (98, false)⟩,
 ⟨some 105, .pick (.t 98) (.c (.bool true)) (.t 104), none⟩])
 (.cond
 (.t 105)
 (.seq
 (.ops
 [⟨some 106, .build [.str [], .nilsl, .bool false] [], none⟩,
 ⟨none, .store 3 (.t 4) (.t 106), none⟩,
 ⟨some 5, .mov (.c (.nilsl)), none⟩,
 ⟨some 6, .mov (.c (.int (.i64) 5)), none⟩])
 (.ret))
 (.skip)))
 (.seq
 (.ops
 [⟨some 107, .load true 3 (.t 10), none⟩,
 ⟨some 108, .mov (.t 1), none⟩,
 ⟨none, .store 3 (.t 4) (.t 107), none⟩,
 ⟨some 5, .mov (.t 108), none⟩,
 ⟨some 6, .mov (.c (.int (.i64) 0)), none⟩])
 (.ret)))))))))))))))))⟩
theorem c41 : cFunc Try.prog Try.f41 = some sf41 := by kernel_rfl

/-- wharfage/batch.rise[wharfage/api.Change] -/
def sf42 : SFunc := ⟨36,
 [.tmp 4],
 .seq
 (.ops [⟨some 4, .mov (.c (.bool false)), none⟩])
 (.seq
 (.ops [⟨some 5, .mov (.c (.str [])), none⟩])
 (.seq
 (.seq
 (.ops
 [⟨some 9, .mov (.t 0), none⟩,
 ⟨some 10, .len (.sl) (.t 9), none⟩,
 ⟨some 11, .mov (.c (.int (.i64) 0)), none⟩])
 (.block
 0
 (.loop
 (.seq
 (.ops [⟨some 12, .bin (.lss) (.other) (.t 11) (.t 10), none⟩])
 (.seq
 (.cond (.t 12) (.skip) (.exit 0))
 (.seq
 (.block
 1
 (.seq
 (.ops
 [⟨some 13, .idxAddrSl 3 (.t 9) (.t 11), none⟩,
 ⟨some 14, .load true 3 (.t 13), none⟩,
 ⟨some 7, .box (.c (.agg [.str [], .nilsl, .bool false])), none⟩,
 ⟨none, .store 3 (.t 7) (.t 14), none⟩])
 (.seq
 (.ops
 [⟨some 15, .mov (.t 1), none⟩,
 ⟨some 16, .load true 3 (.t 7), none⟩,
 ⟨some 17, .callV (.t 15) [.t 16], none⟩,
 ⟨some 8, .box (.c (.agg [.str [], .bool false])), none⟩,
 ⟨none, .store 2 (.t 8) (.t 17), none⟩])
 (.seq
 (.seq
 (.ops
 [⟨some 18, .fieldAddr 1 (.t 8), none⟩,
 ⟨some 19, .load false 1 (.t 18), none⟩,
 ⟨some 20, .un (.not) (.t 19), none⟩,
 ⟨some 21, .mov (.t 20), none⟩,
 ⟨some 22, .fieldAddr 0 (.t 8), some (21, false)⟩,
 ⟨some 23, .load false 1 (.t 22), some (21, false)⟩,
 ⟨some 24, .len (.str) (.t 23), some (21, false)⟩,
 ⟨some 25, .bin (.gtr) (.other) (.t 24) (.c (.int (.i64) 16)), some (21, false)⟩,
 ⟨some 26, .pick (.t 21) (.c (.bool true)) (.t 25), none⟩,
 ⟨some 27, .mov (.t 26), none⟩,
 ⟨some 28, .fieldAddr 0 (.t 8), some (27, false)⟩,
 ⟨some 29, .load false 1 (.t 28), some (27, false)⟩,
 ⟨some 30, .mov (.t 5), some (27, false)⟩,
 ⟨some 31, .bin (.leq) (.str) (.t 29) (.t 30), some (27, false)⟩,
 ⟨some 32, .pick (.t 27) (.c (.bool true)) (.t 31), none⟩])
 (.cond (.t 32) (.seq (.ops [⟨some 4, .mov (.c (.bool false)), none⟩]) (.ret)) (.skip)))
 (.ops
 [⟨some 33, .fieldAddr 0 (.t 8), none⟩,
 ⟨some 34, .load false 1 (.t 33), none⟩,
 ⟨some 5, .mov (.t 34), none⟩])))))
 (.ops
 [⟨some 35, .bin (.add) (.other) (.t 11) (.c (.int (.i64) 1)), none⟩,
 ⟨some 11, .mov (.t 35), none⟩])))))))
 (.seq (.ops [⟨some 4, .mov (.c (.bool true)), none⟩]) (.ret))))⟩
theorem c42 : cFunc Try.prog Try.f42 = some sf42 := by kernel_rfl

/-- wharfage/batch.ofChange -/
def sf43 : SFunc := ⟨14,
 [.cell 2 true 2],
 .seq
 (.ops [⟨some 1, .box (.t 0), none⟩, ⟨some 2, .box (.c (.agg [.str [], .bool false])), none⟩])
 (.seq
 (.ops [⟨some 3, .mov (.c (.int (.i64) 8192)), none⟩])
 (.seq
 (.seq
 (.ops [⟨some 4, .fieldAddr 2 (.t 1), none⟩, ⟨some 5, .load false 1 (.t 4), none⟩])
 (.cond (.t 5) (.ops [⟨some 3, .mov (.c (.int (.i64) 0)), none⟩]) (.skip)))
 (.seq
 (.ops
 [⟨some 6, .fieldAddr 0 (.t 1), none⟩,
 ⟨some 7, .load false 1 (.t 6), none⟩,
 ⟨some 8, .fieldAddr 1 (.t 1), none⟩,
 ⟨some 9, .load false 1 (.t 8), none⟩,
 ⟨some 10, .len (.sl) (.t 9), none⟩,
 ⟨some 11, .mov (.t 3), none⟩,
 ⟨some 12, .bin (.leq) (.other) (.t 10) (.t 11), none⟩,
 ⟨some 13, .build [.str [], .bool false] [(0, 1, .t 7), (1, 1, .t 12)], none⟩,
 ⟨none, .store 2 (.t 2) (.t 13), none⟩])
 (.ret))))⟩
theorem c43 : cFunc Try.prog Try.f43 = some sf43 := by kernel_rfl

/-- wharfage/wharfageref07.fits -/
def sf44 : SFunc := ⟨24,
 [.tmp 6],
 .seq
 (.ops [⟨some 6, .mov (.c (.bool false)), none⟩])
 (.seq
 (.ops
 [⟨some 7, .mov (.t 1), none⟩,
 ⟨some 8, .bin (.neq) (.str) (.t 7) (.c (.str [])), none⟩,
 ⟨some 9, .mov (.t 8), none⟩,
 ⟨some 10, .mov (.t 1), some (9, true)⟩,
 ⟨some 11, .len (.str) (.t 10), some (9, true)⟩,
 ⟨some 12, .bin (.leq) (.other) (.t 11) (.c (.int (.i64) 16)), some (9, true)⟩,
 ⟨some 13, .pick (.t 9) (.t 12) (.c (.bool false)), none⟩,
 ⟨some 14, .mov (.t 13), none⟩,
 ⟨some 15, .mov (.t 1), some (14, true)⟩,
 ⟨some 16, .mov (.t 0), some (14, true)⟩,
 ⟨some 17, .bin (.gtr) (.str) (.t 15) (.t 16), some (14, true)⟩,
 ⟨some 18, .pick (.t 14) (.t 17) (.c (.bool false)), none⟩,
 ⟨some 19, .mov (.t 18), none⟩,
 ⟨some 20, .mov (.t 2), some (19, true)⟩,
 ⟨some 21, .len (.sl) (.t 20), some (19, true)⟩,
 ⟨some 22, .bin (.leq) (.other) (.t 21) (.c (.int (.i64) 8192)), some (19, true)⟩,
 ⟨some 23, .pick (.t 19) (.t 22) (.c (.bool false)), none⟩,
 ⟨some 6, .mov (.t 23), none⟩])
 (.ret))⟩
theorem c44 : cFunc Try.prog Try.f44 = some sf44 := by kernel_rfl

/-- wharfage/batch.Apply$1 -/
def sf45 : SFunc := ⟨10,
 [.tmp 4],
 .seq
 (.ops
 [⟨some 2, .box (.t 0), none⟩,
 ⟨some 3, .box (.t 1), none⟩,
 ⟨some 4, .mov (.c (.int (.i64) 0)), none⟩])
 (.seq
 (.ops
 [⟨some 5, .fieldAddr 0 (.t 2), none⟩,
 ⟨some 6, .load false 1 (.t 5), none⟩,
 ⟨some 7, .fieldAddr 0 (.t 3), none⟩,
 ⟨some 8, .load false 1 (.t 7), none⟩,
 ⟨some 9, .call 46 [.t 6, .t 8], none⟩,
 ⟨some 4, .mov (.t 9), none⟩])
 (.ret))⟩
theorem c45 : cFunc Try.prog Try.f45 = some sf45 := by kernel_rfl

/-- strings.Compare -/
def sf46 : SFunc := ⟨8,
 [.tmp 4],
 .seq
 (.ops [⟨some 4, .mov (.c (.int (.i64) 0)), none⟩])
 (.seq
 (.ops
 [⟨some 5, .mov (.t 0), none⟩,
 ⟨some 6, .mov (.t 1), none⟩,
 ⟨some 7, .call 67 [.t 5, .t 6], none⟩,
 ⟨some 4, .mov (.t 7), none⟩])
 (.ret))⟩
theorem c46 : cFunc Try.prog Try.f46 = some sf46 := by kernel_rfl

/-- wharfage/batch.beside[wharfage/api.Row,wharfage/api.Change] -/
def sf47 : SFunc := ⟨76,
 [],
 .seq
 (.ops [⟨some 8, .mov (.c (.int (.i64) 0)), none⟩, ⟨some 9, .mov (.c (.int (.i64) 0)), none⟩])
 (.block
 0
 (.loop
 (.seq
 (.seq
 (.ops
 [⟨some 11, .mov (.t 8), none⟩,
 ⟨some 12, .mov (.t 0), none⟩,
 ⟨some 13, .len (.sl) (.t 12), none⟩,
 ⟨some 14, .bin (.lss) (.other) (.t 11) (.t 13), none⟩,
 ⟨some 15, .mov (.t 14), none⟩,
 ⟨some 16, .mov (.t 9), some (15, false)⟩,
 ⟨some 17, .mov (.t 1), some (15, false)⟩,
 ⟨some 18, .len (.sl) (.t 17), some (15, false)⟩,
 ⟨some 19, .bin (.lss) (.other) (.t 16) (.t 18), some (15, false)⟩,
 ⟨some 20, .pick (.t 15) (.c (.bool true)) (.t 19), none⟩])
 (.cond (.t 20) (.skip) (.exit 0)))
 (.block
 1
 (.seq
 (.ops
 [⟨some 21, .mov (.t 1), none⟩,
 ⟨some 22, .len (.sl) (.t 21), none⟩,
 ⟨some 23, .mov (.t 9), none⟩,
 ⟨some 24, .bin (.sub) (.other) (.t 22) (.t 23), none⟩,
 ⟨some 25, .call 68 [.t 24, .c (.int (.i64) 0)], none⟩,
 ⟨some 26, .mov (.t 0), none⟩,
 ⟨some 27, .len (.sl) (.t 26), none⟩,
 ⟨some 28, .mov (.t 8), none⟩,
 ⟨some 29, .bin (.sub) (.other) (.t 27) (.t 28), none⟩,
 ⟨some 30, .call 68 [.t 29, .c (.int (.i64) 0)], none⟩,
 ⟨some 31, .bin (.sub) (.other) (.t 25) (.t 30), none⟩,
 ⟨some 10, .mov (.t 31), none⟩])
 (.seq
 (.seq
 (.ops
 [⟨some 32, .mov (.t 10), none⟩,
 ⟨some 33, .bin (.eql) (.other) (.t 32) (.c (.int (.i64) 0)), none⟩])
 (.cond
 (.t 33)
 (.ops
 [⟨some 34, .mov (.t 2), none⟩,
 ⟨some 35, .mov (.t 0), none⟩,
 ⟨some 36, .mov (.t 8), none⟩,
 ⟨some 37, .idxAddrSl 2 (.t 35) (.t 36), none⟩,
 ⟨some 38, .load true 2 (.t 37), none⟩,
 ⟨some 39, .mov (.t 1), none⟩,
 ⟨some 40, .mov (.t 9), none⟩,
 ⟨some 41, .idxAddrSl 3 (.t 39) (.t 40), none⟩,
 ⟨some 42, .load true 3 (.t 41), none⟩,
 ⟨some 43, .callV (.t 34) [.t 38, .t 42], none⟩,
 ⟨some 10, .mov (.t 43), none⟩])
 (.skip)))
 (.block
 2
 (.seq
 (.ops
 [⟨some 57, .mov (.t 10), none⟩,
 ⟨some 58, .bin (.lss) (.other) (.t 57) (.c (.int (.i64) 0)), none⟩,
 ⟨some 56, .mov (.t 58), none⟩])
 (.cond
 (.t 56)
 (.seq
 (.ops
 [⟨some 59, .mov (.t 3), none⟩,
 ⟨some 60, .mov (.t 0), none⟩,
 ⟨some 61, .mov (.t 8), none⟩,
 ⟨some 62, .idxAddrSl 2 (.t 60) (.t 61), none⟩,
 ⟨some 63, .callV (.t 59) [.t 62, .c (.nilptr)], none⟩])
 (.ops
 [⟨some 64, .mov (.t 8), none⟩,
 ⟨some 65, .bin (.add) (.other) (.t 64) (.c (.int (.i64) 1)), none⟩,
 ⟨some 8, .mov (.t 65), none⟩]))
 (.seq
 (.ops
 [⟨some 67, .mov (.t 10), none⟩,
 ⟨some 68, .bin (.gtr) (.other) (.t 67) (.c (.int (.i64) 0)), none⟩,
 ⟨some 66, .mov (.t 68), none⟩])
 (.cond
 (.t 66)
 (.seq
 (.ops
 [⟨some 69, .mov (.t 3), none⟩,
 ⟨some 70, .mov (.t 1), none⟩,
 ⟨some 71, .mov (.t 9), none⟩,
 ⟨some 72, .idxAddrSl 3 (.t 70) (.t 71), none⟩,
 ⟨some 73, .callV (.t 69) [.c (.nilptr), .t 72], none⟩])
 (.ops
 [⟨some 74, .mov (.t 9), none⟩,
 ⟨some 75, .bin (.add) (.other) (.t 74) (.c (.int (.i64) 1)), none⟩,
 ⟨some 9, .mov (.t 75), none⟩]))
 (.seq
 (.ops
 [⟨some 44, .mov (.t 3), none⟩,
 ⟨some 45, .mov (.t 0), none⟩,
 ⟨some 46, .mov (.t 8), none⟩,
 ⟨some 47, .idxAddrSl 2 (.t 45) (.t 46), none⟩,
 ⟨some 48, .mov (.t 1), none⟩,
 ⟨some 49, .mov (.t 9), none⟩,
 ⟨some 50, .idxAddrSl 3 (.t 48) (.t 49), none⟩,
 ⟨some 51, .callV (.t 44) [.t 47, .t 50], none⟩])
 (.ops
 [⟨some 52, .mov (.t 8), none⟩,
 ⟨some 53, .bin (.add) (.other) (.t 52) (.c (.int (.i64) 1)), none⟩,
 ⟨some 54, .mov (.t 9), none⟩,
 ⟨some 55, .bin (.add) (.other) (.t 54) (.c (.int (.i64) 1)), none⟩,
 ⟨some 8, .mov (.t 53), none⟩,
 ⟨some 9, .mov (.t 55), none⟩])))))))))))))⟩
theorem c47 : cFunc Try.prog Try.f47 = some sf47 := by kernel_rfl

/-- wharfage/batch.Apply$2 -/
def sf48 : SFunc := ⟨41,
 [],
 .seq
 (.ops [⟨some 6, .mov (.t 0), none⟩, ⟨some 5, .mov (.t 6), none⟩])
 (.seq
 (.seq
 (.ops [⟨some 7, .mov (.t 1), none⟩, ⟨some 8, .bin (.neq) (.ptr) (.t 7) (.c (.nilptr)), none⟩])
 (.cond
 (.t 8)
 (.ops
 [⟨some 9, .mov (.t 1), none⟩,
 ⟨some 10, .nilChk (.t 9), none⟩,
 ⟨some 11, .fieldAddr 0 (.t 10), none⟩,
 ⟨some 12, .load false 1 (.t 11), none⟩,
 ⟨some 13, .mov (.t 1), none⟩,
 ⟨some 14, .nilChk (.t 13), none⟩,
 ⟨some 15, .fieldAddr 1 (.t 14), none⟩,
 ⟨some 16, .load false 1 (.t 15), none⟩,
 ⟨some 17, .build [.str [], .nilsl] [(0, 1, .t 12), (1, 1, .t 16)], none⟩,
 ⟨some 18, .box (.t 17), none⟩,
 ⟨some 5, .mov (.t 18), none⟩])
 (.skip)))
 (.seq
 (.ops
 [⟨some 19, .mov (.t 1), none⟩,
 ⟨some 20, .bin (.eql) (.ptr) (.t 19) (.c (.nilptr)), none⟩,
 ⟨some 21, .mov (.t 20), none⟩,
 ⟨some 22, .mov (.t 1), some (21, false)⟩,
 ⟨some 23, .nilChk (.t 22), some (21, false)⟩,
 ⟨some 24, .fieldAddr 2 (.t 23), some (21, false)⟩,
 ⟨some 25, .load false 1 (.t 24), some (21, false)⟩,
 ⟨some 26, .un (.not) (.t 25), some (21, false)⟩,
 ⟨some 27, .pick (.t 21) (.c (.bool true)) (.t 26), none⟩])
 (.cond
 (.t 27)
 (.drawOps
 [⟨some 28, .load false 1 (.t 2), none⟩,
 ⟨some 29, .mov (.t 5), none⟩,
 ⟨some 30, .nilChk (.t 29), none⟩,
 ⟨some 31, .fieldAddr 0 (.t 30), none⟩,
 ⟨some 32, .load false 1 (.t 31), none⟩,
 ⟨some 33, .mov (.t 5), none⟩,
 ⟨some 34, .nilChk (.t 33), none⟩,
 ⟨some 35, .fieldAddr 1 (.t 34), none⟩,
 ⟨some 36, .load false 1 (.t 35), none⟩,
 ⟨some 37, .call 49 [.t 36], none⟩,
 ⟨some 38, .build [.str [], .nilsl] [(0, 1, .t 32), (1, 1, .t 37)], none⟩,
 ⟨some 39, .buildSlice [.str [], .nilsl] 1 2 [(0, 2, .t 38)], none⟩,
 ⟨some 40, .append 2 40 (.t 28) (.t 39), none⟩,
 ⟨none, .store 1 (.t 2) (.t 40), none⟩]
 [(0, 9), (0, 11), (4, 9)])
 (.skip))))⟩
theorem c48 : cFunc Try.prog Try.f48 = some sf48 := by kernel_rfl

/-- bytes.Clone -/
def sf49 : SFunc := ⟨8,
 [.tmp 2],
 .seq
 (.ops [⟨some 2, .mov (.c (.nilsl)), none⟩])
 (.seq
 (.seq
 (.ops [⟨some 3, .mov (.t 0), none⟩, ⟨some 4, .bin (.eql) (.sl) (.t 3) (.c (.nilsl)), none⟩])
 (.cond (.t 4) (.seq (.ops [⟨some 2, .mov (.c (.nilsl)), none⟩]) (.ret)) (.skip)))
 (.seq
 (.ops
 [⟨some 5, .buildSlice [] 0 1 [], none⟩,
 ⟨some 6, .mov (.t 0), none⟩,
 ⟨some 7, .append 1 1 (.t 5) (.t 6), none⟩,
 ⟨some 2, .mov (.t 7), none⟩])
 (.ret)))⟩
theorem c49 : cFunc Try.prog Try.f49 = some sf49 := by kernel_rfl

/-- wharfage/wharfageref07.without -/
def sf50 : SFunc := ⟨36,
 [.tmp 4],
 .seq
 (.ops [⟨some 4, .mov (.c (.nilsl)), none⟩])
 (.seq
 (.ops [⟨some 5, .mov (.c (.nilsl)), none⟩])
 (.seq
 (.seq
 (.ops [⟨some 6, .mov (.c (.int (.i64) 0)), none⟩])
 (.block
 0
 (.loop
 (.seq
 (.seq
 (.ops
 [⟨some 7, .mov (.t 6), none⟩,
 ⟨some 8, .mov (.t 0), none⟩,
 ⟨some 9, .len (.sl) (.t 8), none⟩,
 ⟨some 10, .bin (.lss) (.other) (.t 7) (.t 9), none⟩])
 (.cond (.t 10) (.skip) (.exit 0)))
 (.seq
 (.block
 1
 (.seq
 (.ops
 [⟨some 13, .mov (.t 0), none⟩,
 ⟨some 14, .mov (.t 6), none⟩,
 ⟨some 15, .idxAddrSl 2 (.t 13) (.t 14), none⟩,
 ⟨some 16, .fieldAddr 0 (.t 15), none⟩,
 ⟨some 17, .load false 1 (.t 16), none⟩,
 ⟨some 18, .mov (.t 1), none⟩,
 ⟨some 19, .bin (.neq) (.str) (.t 17) (.t 18), none⟩])
 (.cond
 (.t 19)
 (.drawOps
 [⟨some 20, .mov (.t 5), none⟩,
 ⟨some 21, .mov (.t 0), none⟩,
 ⟨some 22, .mov (.t 6), none⟩,
 ⟨some 23, .idxAddrSl 2 (.t 21) (.t 22), none⟩,
 ⟨some 24, .fieldAddr 0 (.t 23), none⟩,
 ⟨some 25, .load false 1 (.t 24), none⟩,
 ⟨some 26, .mov (.t 0), none⟩,
 ⟨some 27, .mov (.t 6), none⟩,
 ⟨some 28, .idxAddrSl 2 (.t 26) (.t 27), none⟩,
 ⟨some 29, .fieldAddr 1 (.t 28), none⟩,
 ⟨some 30, .load false 1 (.t 29), none⟩,
 ⟨some 31, .call 36 [.t 30], none⟩,
 ⟨some 32, .build [.str [], .nilsl] [(0, 1, .t 25), (1, 1, .t 31)], none⟩,
 ⟨some 33, .buildSlice [.str [], .nilsl] 1 2 [(0, 2, .t 32)], none⟩,
 ⟨some 34, .append 2 40 (.t 20) (.t 33), none⟩,
 ⟨some 5, .mov (.t 34), none⟩]
 [(5, 11)])
 (.skip))))
 (.ops
 [⟨some 11, .mov (.t 6), none⟩,
 ⟨some 12, .bin (.add) (.other) (.t 11) (.c (.int (.i64) 1)), none⟩,
 ⟨some 6, .mov (.t 12), none⟩]))))))
 (.seq (.ops [⟨some 35, .mov (.t 5), none⟩, ⟨some 4, .mov (.t 35), none⟩]) (.ret))))⟩
theorem c50 : cFunc Try.prog Try.f50 = some sf50 := by kernel_rfl

/-- wharfage/wharfageref07.with -/
def sf51 : SFunc := ⟨43,
 [.tmp 4],
 .seq
 (.ops [⟨some 3, .box (.t 1), none⟩, ⟨some 4, .mov (.c (.nilsl)), none⟩])
 (.seq
 (.ops [⟨some 5, .mov (.c (.nilsl)), none⟩, ⟨some 6, .mov (.c (.nilsl)), none⟩])
 (.seq
 (.seq
 (.ops [⟨some 7, .mov (.c (.int (.i64) 0)), none⟩])
 (.block
 0
 (.loop
 (.seq
 (.seq
 (.ops
 [⟨some 8, .mov (.t 7), none⟩,
 ⟨some 9, .mov (.t 0), none⟩,
 ⟨some 10, .len (.sl) (.t 9), none⟩,
 ⟨some 11, .bin (.lss) (.other) (.t 8) (.t 10), none⟩])
 (.cond (.t 11) (.skip) (.exit 0)))
 (.seq
 (.block
 1
 (.seq
 (.ops
 [⟨some 14, .mov (.t 0), none⟩,
 ⟨some 15, .mov (.t 7), none⟩,
 ⟨some 16, .idxAddrSl 2 (.t 14) (.t 15), none⟩,
 ⟨some 17, .fieldAddr 0 (.t 16), none⟩,
 ⟨some 18, .load false 1 (.t 17), none⟩,
 ⟨some 19, .fieldAddr 0 (.t 3), none⟩,
 ⟨some 20, .load false 1 (.t 19), none⟩,
 ⟨some 21, .bin (.lss) (.str) (.t 18) (.t 20), none⟩])
 (.cond
 (.t 21)
 (.ops
 [⟨some 22, .mov (.t 5), none⟩,
 ⟨some 23, .mov (.t 0), none⟩,
 ⟨some 24, .mov (.t 7), none⟩,
 ⟨some 25, .idxAddrSl 2 (.t 23) (.t 24), none⟩,
 ⟨some 26, .load true 2 (.t 25), none⟩,
 ⟨some 27, .buildSlice [.str [], .nilsl] 1 2 [(0, 2, .t 26)], none⟩,
 ⟨some 28, .append 2 40 (.t 22) (.t 27), none⟩,
 ⟨some 5, .mov (.t 28), none⟩])
 (.ops
 [⟨some 29, .mov (.t 6), none⟩,
 ⟨some 30, .mov (.t 0), none⟩,
 ⟨some 31, .mov (.t 7), none⟩,
 ⟨some 32, .idxAddrSl 2 (.t 30) (.t 31), none⟩,
 ⟨some 33, .load true 2 (.t 32), none⟩,
 ⟨some 34, .buildSlice [.str [], .nilsl] 1 2 [(0, 2, .t 33)], none⟩,
 ⟨some 35, .append 2 40 (.t 29) (.t 34), none⟩,
 ⟨some 6, .mov (.t 35), none⟩]))))
 (.ops
 [⟨some 12, .mov (.t 7), none⟩,
 ⟨some 13, .bin (.add) (.other) (.t 12) (.c (.int (.i64) 1)), none⟩,
 ⟨some 7, .mov (.t 13), none⟩]))))))
 (.seq
 (.ops
 [⟨some 36, .mov (.t 5), none⟩,
 ⟨some 37, .load true 2 (.t 3), none⟩,
 ⟨some 38, .buildSlice [.str [], .nilsl] 1 2 [(0, 2, .t 37)], none⟩,
 ⟨some 39, .append 2 40 (.t 36) (.t 38), none⟩,
 ⟨some 5, .mov (.t 39), none⟩])
 (.seq
 (.ops
 [⟨some 40, .mov (.t 5), none⟩,
 ⟨some 41, .mov (.t 6), none⟩,
 ⟨some 42, .append 2 40 (.t 40) (.t 41), none⟩,
 ⟨some 4, .mov (.t 42), none⟩])
 (.ret)))))⟩
theorem c51 : cFunc Try.prog Try.f51 = some sf51 := by kernel_rfl

/-- wharfage/batch.rise[wharfage/api.Row] -/
def sf52 : SFunc := ⟨36,
 [.tmp 4],
 .seq
 (.ops [⟨some 4, .mov (.c (.bool false)), none⟩])
 (.seq
 (.ops [⟨some 5, .mov (.c (.str [])), none⟩])
 (.seq
 (.seq
 (.ops
 [⟨some 9, .mov (.t 0), none⟩,
 ⟨some 10, .len (.sl) (.t 9), none⟩,
 ⟨some 11, .mov (.c (.int (.i64) 0)), none⟩])
 (.block
 0
 (.loop
 (.seq
 (.ops [⟨some 12, .bin (.lss) (.other) (.t 11) (.t 10), none⟩])
 (.seq
 (.cond (.t 12) (.skip) (.exit 0))
 (.seq
 (.block
 1
 (.seq
 (.ops
 [⟨some 13, .idxAddrSl 2 (.t 9) (.t 11), none⟩,
 ⟨some 14, .load true 2 (.t 13), none⟩,
 ⟨some 7, .box (.c (.agg [.str [], .nilsl])), none⟩,
 ⟨none, .store 2 (.t 7) (.t 14), none⟩])
 (.seq
 (.ops
 [⟨some 15, .mov (.t 1), none⟩,
 ⟨some 16, .load true 2 (.t 7), none⟩,
 ⟨some 17, .callV (.t 15) [.t 16], none⟩,
 ⟨some 8, .box (.c (.agg [.str [], .bool false])), none⟩,
 ⟨none, .store 2 (.t 8) (.t 17), none⟩])
 (.seq
 (.seq
 (.ops
 [⟨some 18, .fieldAddr 1 (.t 8), none⟩,
 ⟨some 19, .load false 1 (.t 18), none⟩,
 ⟨some 20, .un (.not) (.t 19), none⟩,
 ⟨some 21, .mov (.t 20), none⟩,
 ⟨some 22, .fieldAddr 0 (.t 8), some (21, false)⟩,
 ⟨some 23, .load false 1 (.t 22), some (21, false)⟩,
 ⟨some 24, .len (.str) (.t 23), some (21, false)⟩,
 ⟨some 25, .bin (.gtr) (.other) (.t 24) (.c (.int (.i64) 16)), some (21, false)⟩,
 ⟨some 26, .pick (.t 21) (.c (.bool true)) (.t 25), none⟩,
 ⟨some 27, .mov (.t 26), none⟩,
 ⟨some 28, .fieldAddr 0 (.t 8), some (27, false)⟩,
 ⟨some 29, .load false 1 (.t 28), some (27, false)⟩,
 ⟨some 30, .mov (.t 5), some (27, false)⟩,
 ⟨some 31, .bin (.leq) (.str) (.t 29) (.t 30), some (27, false)⟩,
 ⟨some 32, .pick (.t 27) (.c (.bool true)) (.t 31), none⟩])
 (.cond (.t 32) (.seq (.ops [⟨some 4, .mov (.c (.bool false)), none⟩]) (.ret)) (.skip)))
 (.ops
 [⟨some 33, .fieldAddr 0 (.t 8), none⟩,
 ⟨some 34, .load false 1 (.t 33), none⟩,
 ⟨some 5, .mov (.t 34), none⟩])))))
 (.ops
 [⟨some 35, .bin (.add) (.other) (.t 11) (.c (.int (.i64) 1)), none⟩,
 ⟨some 11, .mov (.t 35), none⟩])))))))
 (.seq (.ops [⟨some 4, .mov (.c (.bool true)), none⟩]) (.ret))))⟩
theorem c52 : cFunc Try.prog Try.f52 = some sf52 := by kernel_rfl

/-- wharfage/batch.ofRow -/
def sf53 : SFunc := ⟨10,
 [.cell 2 true 2],
 .seq
 (.ops [⟨some 1, .box (.t 0), none⟩, ⟨some 2, .box (.c (.agg [.str [], .bool false])), none⟩])
 (.seq
 (.ops
 [⟨some 3, .fieldAddr 0 (.t 1), none⟩,
 ⟨some 4, .load false 1 (.t 3), none⟩,
 ⟨some 5, .fieldAddr 1 (.t 1), none⟩,
 ⟨some 6, .load false 1 (.t 5), none⟩,
 ⟨some 7, .len (.sl) (.t 6), none⟩,
 ⟨some 8, .bin (.leq) (.other) (.t 7) (.c (.int (.i64) 8192)), none⟩,
 ⟨some 9, .build [.str [], .bool false] [(0, 1, .t 4), (1, 1, .t 8)], none⟩,
 ⟨none, .store 2 (.t 2) (.t 9), none⟩])
 (.ret))⟩
theorem c53 : cFunc Try.prog Try.f53 = some sf53 := by kernel_rfl

/-- wharfage/batch.Between$1 -/
def sf54 : SFunc := ⟨10,
 [.tmp 4],
 .seq
 (.ops
 [⟨some 2, .box (.t 0), none⟩,
 ⟨some 3, .box (.t 1), none⟩,
 ⟨some 4, .mov (.c (.int (.i64) 0)), none⟩])
 (.seq
 (.ops
 [⟨some 5, .fieldAddr 0 (.t 2), none⟩,
 ⟨some 6, .load false 1 (.t 5), none⟩,
 ⟨some 7, .fieldAddr 0 (.t 3), none⟩,
 ⟨some 8, .load false 1 (.t 7), none⟩,
 ⟨some 9, .call 46 [.t 6, .t 8], none⟩,
 ⟨some 4, .mov (.t 9), none⟩])
 (.ret))⟩
theorem c54 : cFunc Try.prog Try.f54 = some sf54 := by kernel_rfl

/-- wharfage/batch.beside[wharfage/api.Row,wharfage/api.Row] -/
def sf55 : SFunc := ⟨76,
 [],
 .seq
 (.ops [⟨some 8, .mov (.c (.int (.i64) 0)), none⟩, ⟨some 9, .mov (.c (.int (.i64) 0)), none⟩])
 (.block
 0
 (.loop
 (.seq
 (.seq
 (.ops
 [⟨some 11, .mov (.t 8), none⟩,
 ⟨some 12, .mov (.t 0), none⟩,
 ⟨some 13, .len (.sl) (.t 12), none⟩,
 ⟨some 14, .bin (.lss) (.other) (.t 11) (.t 13), none⟩,
 ⟨some 15, .mov (.t 14), none⟩,
 ⟨some 16, .mov (.t 9), some (15, false)⟩,
 ⟨some 17, .mov (.t 1), some (15, false)⟩,
 ⟨some 18, .len (.sl) (.t 17), some (15, false)⟩,
 ⟨some 19, .bin (.lss) (.other) (.t 16) (.t 18), some (15, false)⟩,
 ⟨some 20, .pick (.t 15) (.c (.bool true)) (.t 19), none⟩])
 (.cond (.t 20) (.skip) (.exit 0)))
 (.block
 1
 (.seq
 (.ops
 [⟨some 21, .mov (.t 1), none⟩,
 ⟨some 22, .len (.sl) (.t 21), none⟩,
 ⟨some 23, .mov (.t 9), none⟩,
 ⟨some 24, .bin (.sub) (.other) (.t 22) (.t 23), none⟩,
 ⟨some 25, .call 68 [.t 24, .c (.int (.i64) 0)], none⟩,
 ⟨some 26, .mov (.t 0), none⟩,
 ⟨some 27, .len (.sl) (.t 26), none⟩,
 ⟨some 28, .mov (.t 8), none⟩,
 ⟨some 29, .bin (.sub) (.other) (.t 27) (.t 28), none⟩,
 ⟨some 30, .call 68 [.t 29, .c (.int (.i64) 0)], none⟩,
 ⟨some 31, .bin (.sub) (.other) (.t 25) (.t 30), none⟩,
 ⟨some 10, .mov (.t 31), none⟩])
 (.seq
 (.seq
 (.ops
 [⟨some 32, .mov (.t 10), none⟩,
 ⟨some 33, .bin (.eql) (.other) (.t 32) (.c (.int (.i64) 0)), none⟩])
 (.cond
 (.t 33)
 (.ops
 [⟨some 34, .mov (.t 2), none⟩,
 ⟨some 35, .mov (.t 0), none⟩,
 ⟨some 36, .mov (.t 8), none⟩,
 ⟨some 37, .idxAddrSl 2 (.t 35) (.t 36), none⟩,
 ⟨some 38, .load true 2 (.t 37), none⟩,
 ⟨some 39, .mov (.t 1), none⟩,
 ⟨some 40, .mov (.t 9), none⟩,
 ⟨some 41, .idxAddrSl 2 (.t 39) (.t 40), none⟩,
 ⟨some 42, .load true 2 (.t 41), none⟩,
 ⟨some 43, .callV (.t 34) [.t 38, .t 42], none⟩,
 ⟨some 10, .mov (.t 43), none⟩])
 (.skip)))
 (.block
 2
 (.seq
 (.ops
 [⟨some 57, .mov (.t 10), none⟩,
 ⟨some 58, .bin (.lss) (.other) (.t 57) (.c (.int (.i64) 0)), none⟩,
 ⟨some 56, .mov (.t 58), none⟩])
 (.cond
 (.t 56)
 (.seq
 (.ops
 [⟨some 59, .mov (.t 3), none⟩,
 ⟨some 60, .mov (.t 0), none⟩,
 ⟨some 61, .mov (.t 8), none⟩,
 ⟨some 62, .idxAddrSl 2 (.t 60) (.t 61), none⟩,
 ⟨some 63, .callV (.t 59) [.t 62, .c (.nilptr)], none⟩])
 (.ops
 [⟨some 64, .mov (.t 8), none⟩,
 ⟨some 65, .bin (.add) (.other) (.t 64) (.c (.int (.i64) 1)), none⟩,
 ⟨some 8, .mov (.t 65), none⟩]))
 (.seq
 (.ops
 [⟨some 67, .mov (.t 10), none⟩,
 ⟨some 68, .bin (.gtr) (.other) (.t 67) (.c (.int (.i64) 0)), none⟩,
 ⟨some 66, .mov (.t 68), none⟩])
 (.cond
 (.t 66)
 (.seq
 (.ops
 [⟨some 69, .mov (.t 3), none⟩,
 ⟨some 70, .mov (.t 1), none⟩,
 ⟨some 71, .mov (.t 9), none⟩,
 ⟨some 72, .idxAddrSl 2 (.t 70) (.t 71), none⟩,
 ⟨some 73, .callV (.t 69) [.c (.nilptr), .t 72], none⟩])
 (.ops
 [⟨some 74, .mov (.t 9), none⟩,
 ⟨some 75, .bin (.add) (.other) (.t 74) (.c (.int (.i64) 1)), none⟩,
 ⟨some 9, .mov (.t 75), none⟩]))
 (.seq
 (.ops
 [⟨some 44, .mov (.t 3), none⟩,
 ⟨some 45, .mov (.t 0), none⟩,
 ⟨some 46, .mov (.t 8), none⟩,
 ⟨some 47, .idxAddrSl 2 (.t 45) (.t 46), none⟩,
 ⟨some 48, .mov (.t 1), none⟩,
 ⟨some 49, .mov (.t 9), none⟩,
 ⟨some 50, .idxAddrSl 2 (.t 48) (.t 49), none⟩,
 ⟨some 51, .callV (.t 44) [.t 47, .t 50], none⟩])
 (.ops
 [⟨some 52, .mov (.t 8), none⟩,
 ⟨some 53, .bin (.add) (.other) (.t 52) (.c (.int (.i64) 1)), none⟩,
 ⟨some 54, .mov (.t 9), none⟩,
 ⟨some 55, .bin (.add) (.other) (.t 54) (.c (.int (.i64) 1)), none⟩,
 ⟨some 8, .mov (.t 53), none⟩,
 ⟨some 9, .mov (.t 55), none⟩])))))))))))))⟩
theorem c55 : cFunc Try.prog Try.f55 = some sf55 := by kernel_rfl

/-- wharfage/batch.Between$2 -/
def sf56 : SFunc := ⟨42,
 [],
 .seq
 (.seq
 (.ops [⟨some 5, .mov (.t 1), none⟩, ⟨some 6, .bin (.eql) (.ptr) (.t 5) (.c (.nilptr)), none⟩])
 (.cond
 (.t 6)
 (.seq
 (.drawOps
 [⟨some 7, .load false 1 (.t 2), none⟩,
 ⟨some 8, .mov (.t 0), none⟩,
 ⟨some 9, .nilChk (.t 8), none⟩,
 ⟨some 10, .fieldAddr 0 (.t 9), none⟩,
 ⟨some 11, .load false 1 (.t 10), none⟩,
 ⟨some 12, .build [.str [], .nilsl, .bool false] [(0, 1, .t 11), (2, 1, .c (.bool true))], none⟩,
 ⟨some 13, .buildSlice [.str [], .nilsl, .bool false] 1 3 [(0, 3, .t 12)], none⟩,
 ⟨some 14, .append 3 48 (.t 7) (.t 13), none⟩,
 ⟨none, .store 1 (.t 2) (.t 14), none⟩]
 [(0, 6)])
 (.ret))
 (.skip)))
 (.seq
 (.ops
 [⟨some 15, .mov (.t 0), none⟩,
 ⟨some 16, .bin (.eql) (.ptr) (.t 15) (.c (.nilptr)), none⟩,
 ⟨some 17, .mov (.t 16), none⟩,
 ⟨some 18, .mov (.t 0), some (17, false)⟩,
 ⟨some 19, .nilChk (.t 18), some (17, false)⟩,
 ⟨some 20, .fieldAddr 1 (.t 19), some (17, false)⟩,
 ⟨some 21, .load false 1 (.t 20), some (17, false)⟩,
 ⟨some 22, .mov (.t 1), some (17, false)⟩,
 ⟨some 23, .nilChk (.t 22), some (17, false)⟩,
 ⟨some 24, .fieldAddr 1 (.t 23), some (17, false)⟩,
 ⟨some 25, .load false 1 (.t 24), some (17, false)⟩,
 ⟨some 26, .call 57 [.t 21, .t 25], some (17, false)⟩,
 ⟨some 27, .un (.not) (.t 26), some (17, false)⟩,
 ⟨some 28, .pick (.t 17) (.c (.bool true)) (.t 27), none⟩])
 (.cond
 (.t 28)
 (.drawOps
 [⟨some 29, .load false 1 (.t 2), none⟩,
 ⟨some 30, .mov (.t 1), none⟩,
 ⟨some 31, .nilChk (.t 30), none⟩,
 ⟨some 32, .fieldAddr 0 (.t 31), none⟩,
 ⟨some 33, .load false 1 (.t 32), none⟩,
 ⟨some 34, .mov (.t 1), none⟩,
 ⟨some 35, .nilChk (.t 34), none⟩,
 ⟨some 36, .fieldAddr 1 (.t 35), none⟩,
 ⟨some 37, .load false 1 (.t 36), none⟩,
 ⟨some 38, .call 49 [.t 37], none⟩,
 ⟨some 39, .build [.str [], .nilsl, .bool false] [(0, 1, .t 33), (1, 1, .t 38)], none⟩,
 ⟨some 40, .buildSlice [.str [], .nilsl, .bool false] 1 3 [(0, 3, .t 39)], none⟩,
 ⟨some 41, .append 3 48 (.t 29) (.t 40), none⟩,
 ⟨none, .store 1 (.t 2) (.t 41), none⟩]
 [(0, 9), (0, 11), (4, 9)])
 (.skip)))⟩
theorem c56 : cFunc Try.prog Try.f56 = some sf56 := by kernel_rfl

/-- bytes.Equal -/
def sf57 : SFunc := ⟨10,
 [.tmp 4],
 .seq
 (.ops [⟨some 4, .mov (.c (.bool false)), none⟩])
 (.seq
 (.ops
 [⟨some 5, .mov (.t 0), none⟩,
 ⟨some 6, .bytesToStr (.t 5), none⟩,
 ⟨some 7, .mov (.t 1), none⟩,
 ⟨some 8, .bytesToStr (.t 7), none⟩,
 ⟨some 9, .bin (.eql) (.str) (.t 6) (.t 8), none⟩,
 ⟨some 4, .mov (.t 9), none⟩])
 (.ret))⟩
theorem c57 : cFunc Try.prog Try.f57 = some sf57 := by kernel_rfl

/-- slices.IndexFunc[[]wharfage/api.Row,wharfage/api.Row] -/
def sf58 : SFunc := ⟨19,
 [.tmp 4],
 .seq
 (.ops [⟨some 4, .mov (.c (.int (.i64) 0)), none⟩])
 (.seq
 (.seq
 (.ops
 [⟨some 6, .mov (.t 0), none⟩,
 ⟨some 7, .len (.sl) (.t 6), none⟩,
 ⟨some 8, .mov (.c (.int (.i64) 0)), none⟩])
 (.block
 0
 (.loop
 (.seq
 (.ops [⟨some 9, .bin (.lss) (.other) (.t 8) (.t 7), none⟩])
 (.seq
 (.cond (.t 9) (.skip) (.exit 0))
 (.seq
 (.block
 1
 (.seq
 (.ops [⟨some 10, .mov (.t 8), none⟩, ⟨some 5, .mov (.t 10), none⟩])
 (.seq
 (.ops
 [⟨some 11, .mov (.t 1), none⟩,
 ⟨some 12, .mov (.t 0), none⟩,
 ⟨some 13, .mov (.t 5), none⟩,
 ⟨some 14, .idxAddrSl 2 (.t 12) (.t 13), none⟩,
 ⟨some 15, .load true 2 (.t 14), none⟩,
 ⟨some 16, .callV (.t 11) [.t 15], none⟩])
 (.cond
 (.t 16)
 (.seq (.ops [⟨some 17, .mov (.t 5), none⟩, ⟨some 4, .mov (.t 17), none⟩]) (.ret))
 (.skip)))))
 (.ops
 [⟨some 18, .bin (.add) (.other) (.t 8) (.c (.int (.i64) 1)), none⟩,
 ⟨some 8, .mov (.t 18), none⟩])))))))
 (.seq (.ops [⟨some 4, .mov (.c (.int (.i64) (-1))), none⟩]) (.ret)))⟩
theorem c58 : cFunc Try.prog Try.f58 = some sf58 := by kernel_rfl

/-- wharfage/batch.Find$1 -/
def sf59 : SFunc := ⟨8,
 [.tmp 3],
 .seq
 (.ops [⟨some 2, .box (.t 0), none⟩, ⟨some 3, .mov (.c (.bool false)), none⟩])
 (.seq
 (.ops
 [⟨some 4, .fieldAddr 0 (.t 2), none⟩,
 ⟨some 5, .load false 1 (.t 4), none⟩,
 ⟨some 6, .load false 1 (.t 1), none⟩,
 ⟨some 7, .bin (.eql) (.str) (.t 5) (.t 6), none⟩,
 ⟨some 3, .mov (.t 7), none⟩])
 (.ret))⟩
theorem c59 : cFunc Try.prog Try.f59 = some sf59 := by kernel_rfl

/-- wharfage/num.sized -/
def sf60 : SFunc := ⟨16,
 [.tmp 2],
 .seq
 (.ops [⟨some 2, .mov (.c (.bool false)), none⟩])
 (.seq
 (.ops
 [⟨some 3, .mov (.t 0), none⟩,
 ⟨some 4, .bin (.geq) (.other) (.t 3) (.c (.int (.i64) 1)), none⟩,
 ⟨some 5, .mov (.t 4), none⟩,
 ⟨some 6, .mov (.t 0), some (5, true)⟩,
 ⟨some 7, .bin (.leq) (.other) (.t 6) (.c (.int (.i64) 8)), some (5, true)⟩,
 ⟨some 8, .pick (.t 5) (.t 7) (.c (.bool false)), none⟩,
 ⟨some 9, .mov (.t 8), none⟩,
 ⟨some 10, .mov (.t 0), some (9, true)⟩,
 ⟨some 11, .mov (.t 0), some (9, true)⟩,
 ⟨some 12, .bin (.sub) (.other) (.t 11) (.c (.int (.i64) 1)), some (9, true)⟩,
 ⟨some 13, .bin (.and) (.other) (.t 10) (.t 12), some (9, true)⟩,
 ⟨some 14, .bin (.eql) (.other) (.t 13) (.c (.int (.i64) 0)), some (9, true)⟩,
 ⟨some 15, .pick (.t 9) (.t 14) (.c (.bool false)), none⟩,
 ⟨some 2, .mov (.t 15), none⟩])
 (.ret))⟩
theorem c60 : cFunc Try.prog Try.f60 = some sf60 := by kernel_rfl

/-- math/bits.Len64 -/
def sf61 : SFunc := ⟨25,
 [.tmp 2],
 .seq
 (.ops [⟨some 2, .mov (.c (.int (.i64) 0)), none⟩])
 (.seq
 (.seq
 (.ops
 [⟨some 3, .mov (.t 0), none⟩,
 ⟨some 4, .bin (.geq) (.other) (.t 3) (.c (.int (.u64) 4294967296)), none⟩])
 (.cond
 (.t 4)
 (.seq
 (.ops
 [⟨some 5, .mov (.t 0), none⟩,
 ⟨some 6, .bin (.shr) (.other) (.t 5) (.c (.int (.u64) 32)), none⟩,
 ⟨some 0, .mov (.t 6), none⟩])
 (.ops [⟨some 2, .mov (.c (.int (.i64) 32)), none⟩]))
 (.skip)))
 (.seq
 (.seq
 (.ops
 [⟨some 7, .mov (.t 0), none⟩,
 ⟨some 8, .bin (.geq) (.other) (.t 7) (.c (.int (.u64) 65536)), none⟩])
 (.cond
 (.t 8)
 (.seq
 (.ops
 [⟨some 9, .mov (.t 0), none⟩,
 ⟨some 10, .bin (.shr) (.other) (.t 9) (.c (.int (.u64) 16)), none⟩,
 ⟨some 0, .mov (.t 10), none⟩])
 (.ops
 [⟨some 11, .mov (.t 2), none⟩,
 ⟨some 12, .bin (.add) (.other) (.t 11) (.c (.int (.i64) 16)), none⟩,
 ⟨some 2, .mov (.t 12), none⟩]))
 (.skip)))
 (.seq
 (.seq
 (.ops
 [⟨some 13, .mov (.t 0), none⟩,
 ⟨some 14, .bin (.geq) (.other) (.t 13) (.c (.int (.u64) 256)), none⟩])
 (.cond
 (.t 14)
 (.seq
 (.ops
 [⟨some 15, .mov (.t 0), none⟩,
 ⟨some 16, .bin (.shr) (.other) (.t 15) (.c (.int (.u64) 8)), none⟩,
 ⟨some 0, .mov (.t 16), none⟩])
 (.ops
 [⟨some 17, .mov (.t 2), none⟩,
 ⟨some 18, .bin (.add) (.other) (.t 17) (.c (.int (.i64) 8)), none⟩,
 ⟨some 2, .mov (.t 18), none⟩]))
 (.skip)))
 (.seq
 (.ops
 [⟨some 19, .mov (.t 2), none⟩,
 ⟨some 20, .mov (.t 0), none⟩,
 ⟨some 21, .convInt (.u8) (.t 20), none⟩,
 ⟨some 22,
 .idxStr
 (.c
 (.str
 [0, 1, 2, 2, 3, 3, 3, 3, 4, 4, 4, 4, 4, 4, 4, 4, 5, 5, 5, 5, 5, 5, 5, 5, 5, 5, 5, 5, 5, 5, 5, 5, 6, 6, 6, 6, 6, 6, 6, 6, 6, 6, 6, 6, 6, 6, 6, 6, 6, 6, 6, 6, 6, 6, 6, 6, 6, 6, 6, 6, 6, 6, 6, 6, 7, 7, 7,
 7, 7, 7, 7, 7, 7, 7, 7, 7, 7, 7, 7, 7, 7, 7, 7, 7, 7, 7, 7, 7, 7, 7, 7, 7, 7, 7, 7, 7, 7, 7, 7, 7, 7, 7, 7, 7, 7, 7, 7, 7, 7, 7, 7, 7, 7, 7, 7, 7, 7, 7, 7, 7, 7, 7, 7, 7, 7, 7, 7, 7, 8, 8, 8, 8, 8, 8,
 8, 8, 8, 8, 8, 8, 8, 8, 8, 8, 8, 8, 8, 8, 8, 8, 8, 8, 8, 8, 8, 8, 8, 8, 8, 8, 8, 8, 8, 8, 8, 8, 8, 8, 8, 8, 8, 8, 8, 8, 8, 8, 8, 8, 8, 8, 8, 8, 8, 8, 8, 8, 8, 8, 8, 8, 8, 8, 8, 8, 8, 8, 8, 8, 8, 8, 8,
 8, 8, 8, 8, 8, 8, 8, 8, 8, 8, 8, 8, 8, 8, 8, 8, 8, 8, 8, 8, 8, 8, 8, 8, 8, 8, 8, 8, 8, 8, 8, 8, 8, 8, 8, 8, 8, 8, 8, 8, 8, 8, 8, 8, 8, 8, 8, 8, 8, 8, 8, 8, 8, 8, 8]))
 (.t 21),
 none⟩,
 ⟨some 23, .convInt (.i64) (.t 22), none⟩,
 ⟨some 24, .bin (.add) (.other) (.t 19) (.t 23), none⟩,
 ⟨some 2, .mov (.t 24), none⟩])
 (.ret)))))⟩
theorem c61 : cFunc Try.prog Try.f61 = some sf61 := by kernel_rfl

/-- slices.Grow[[]byte,byte] -/
def sf62 : SFunc := ⟨27,
 [.tmp 4],
 .seq
 (.ops [⟨some 4, .mov (.c (.nilsl)), none⟩])
 (.seq
 (.seq
 (.ops
 [⟨some 5, .mov (.t 1), none⟩,
 ⟨some 6, .bin (.lss) (.other) (.t 5) (.c (.int (.i64) 0)), none⟩])
 (.cond
 (.t 6)
 (.ops
 [⟨some 7, .iface 9 (.c (.str [99, 97, 110, 110, 111, 116, 32, 98, 101, 32, 110, 101, 103, 97, 116, 105, 118, 101])), none⟩,
 ⟨none, .trap, none⟩])
 (.skip)))
 (.seq
 (.seq
 (.ops
 [⟨some 8, .mov (.t 1), none⟩,
 ⟨some 9, .mov (.t 0), none⟩,
 ⟨some 10, .cap (.t 9), none⟩,
 ⟨some 11, .mov (.t 0), none⟩,
 ⟨some 12, .len (.sl) (.t 11), none⟩,
 ⟨some 13, .bin (.sub) (.other) (.t 10) (.t 12), none⟩,
 ⟨some 14, .bin (.sub) (.other) (.t 8) (.t 13), none⟩,
 ⟨some 1, .mov (.t 14), none⟩])
 (.seq
 (.ops
 [⟨some 15, .mov (.t 1), none⟩,
 ⟨some 16, .bin (.gtr) (.other) (.t 15) (.c (.int (.i64) 0)), none⟩])
 (.cond
 (.t 16)
 (.ops
 [⟨some 17, .mov (.t 0), none⟩,
 ⟨some 18, .mov (.t 0), none⟩,
 ⟨some 19, .cap (.t 18), none⟩,
 ⟨some 20, .slice 1 (.t 17) none (some (.t 19)) none, none⟩,
 ⟨some 21, .mov (.t 1), none⟩,
 ⟨some 22, .appendZ [.int (.u8) 0] 1 1 (.t 20) (.t 21), none⟩,
 ⟨some 23, .mov (.t 0), none⟩,
 ⟨some 24, .len (.sl) (.t 23), none⟩,
 ⟨some 25, .slice 1 (.t 22) none (some (.t 24)) none, none⟩,
 ⟨some 0, .mov (.t 25), none⟩])
 (.skip))))
 (.seq (.ops [⟨some 26, .mov (.t 0), none⟩, ⟨some 4, .mov (.t 26), none⟩]) (.ret))))⟩
theorem c62 : cFunc Try.prog Try.f62 = some sf62 := by kernel_rfl

/-- wharfage/wharfageref01.Put -/
def sf63 : SFunc := ⟨39,
 [.tmp 4, .tmp 5],
 .seq
 (.ops [⟨some 4, .mov (.c (.nilsl)), none⟩, ⟨some 5, .mov (.c (.int (.i64) 0)), none⟩])
 (.seq
 (.seq
 (.ops
 [⟨some 8, .mov (.t 1), none⟩,
 ⟨some 9, .call 69 [.t 8], none⟩,
 ⟨some 10, .un (.not) (.t 9), none⟩,
 ⟨some 11, .mov (.t 10), none⟩,
 ⟨some 12, .mov (.t 1), some (11, false)⟩,
 ⟨some 13, .bin (.lss) (.other) (.t 12) (.c (.int (.i64) 8)), some (11, false)⟩,
 ⟨some 14, .mov (.t 13), some (11, false)⟩,
 ⟨some 15, .mov (.t 0), some (14, true)⟩,
 ⟨some 16, .mov (.t 1), some (14, true)⟩,
 ⟨some 17, .bin (.mul) (.other) (.c (.int (.i64) 8)) (.t 16), some (14, true)⟩,
 ⟨some 18, .convInt (.u64) (.t 17), some (14, true)⟩,
 ⟨some 19, .bin (.shl) (.other) (.c (.int (.u64) 1)) (.t 18), some (14, true)⟩,
 ⟨some 20, .bin (.geq) (.other) (.t 15) (.t 19), some (14, true)⟩,
 ⟨some 21, .pick (.t 14) (.t 20) (.c (.bool false)), some (11, false)⟩,
 ⟨some 22, .pick (.t 11) (.c (.bool true)) (.t 21), none⟩])
 (.cond
 (.t 22)
 (.seq
 (.ops [⟨some 4, .mov (.c (.nilsl)), none⟩, ⟨some 5, .mov (.c (.int (.i64) 2)), none⟩])
 (.ret))
 (.skip)))
 (.seq
 (.ops [⟨some 6, .mov (.c (.nilsl)), none⟩])
 (.seq
 (.seq
 (.ops
 [⟨some 23, .mov (.t 1), none⟩,
 ⟨some 24, .bin (.sub) (.other) (.t 23) (.c (.int (.i64) 1)), none⟩,
 ⟨some 7, .mov (.t 24), none⟩])
 (.block
 0
 (.loop
 (.seq
 (.seq
 (.ops
 [⟨some 25, .mov (.t 7), none⟩,
 ⟨some 26, .bin (.geq) (.other) (.t 25) (.c (.int (.i64) 0)), none⟩])
 (.cond (.t 26) (.skip) (.exit 0)))
 (.seq
 (.block
 1
 (.ops
 [⟨some 29, .mov (.t 6), none⟩,
 ⟨some 30, .mov (.t 0), none⟩,
 ⟨some 31, .mov (.t 7), none⟩,
 ⟨some 32, .bin (.mul) (.other) (.c (.int (.i64) 8)) (.t 31), none⟩,
 ⟨some 33, .convInt (.u64) (.t 32), none⟩,
 ⟨some 34, .bin (.shr) (.other) (.t 30) (.t 33), none⟩,
 ⟨some 35, .convInt (.u8) (.t 34), none⟩,
 ⟨some 36, .buildSlice [.int (.u8) 0] 1 1 [(0, 1, .t 35)], none⟩,
 ⟨some 37, .append 1 1 (.t 29) (.t 36), none⟩,
 ⟨some 6, .mov (.t 37), none⟩]))
 (.ops
 [⟨some 27, .mov (.t 7), none⟩,
 ⟨some 28, .bin (.sub) (.other) (.t 27) (.c (.int (.i64) 1)), none⟩,
 ⟨some 7, .mov (.t 28), none⟩]))))))
 (.seq
 (.ops
 [⟨some 38, .mov (.t 6), none⟩,
 ⟨some 4, .mov (.t 38), none⟩,
 ⟨some 5, .mov (.c (.int (.i64) 0)), none⟩])
 (.ret)))))⟩
theorem c63 : cFunc Try.prog Try.f63 = some sf63 := by kernel_rfl

/-- (*wharfage/batch.from).size -/
def sf64 : SFunc := ⟨25,
 [.tmp 4, .tmp 5],
 .seq
 (.ops [⟨some 4, .mov (.c (.int (.i64) 0)), none⟩, ⟨some 5, .mov (.c (.bool false)), none⟩])
 (.seq
 (.ops
 [⟨some 11, .mov (.t 0), none⟩,
 ⟨some 12, .mov (.t 1), none⟩,
 ⟨some 13, .call 65 [.t 11, .t 12], none⟩,
 ⟨some 10, .mov (.t 13), none⟩,
 ⟨some 14, .extract (.t 10) 0, none⟩,
 ⟨some 15, .extract (.t 10) 1, none⟩,
 ⟨some 6, .mov (.t 14), none⟩,
 ⟨some 7, .mov (.t 15), none⟩])
 (.seq
 (.ops
 [⟨some 17, .mov (.t 6), none⟩,
 ⟨some 18, .mov (.t 1), none⟩,
 ⟨some 19, .call 70 [.t 17, .c (.int (.i64) 0), .t 18], none⟩,
 ⟨some 16, .mov (.t 19), none⟩,
 ⟨some 20, .extract (.t 16) 0, none⟩,
 ⟨some 21, .extract (.t 16) 1, none⟩,
 ⟨some 8, .mov (.t 20), none⟩,
 ⟨some 9, .mov (.t 21), none⟩])
 (.seq
 (.ops
 [⟨some 22, .mov (.t 8), none⟩,
 ⟨some 23, .convInt (.i64) (.t 22), none⟩,
 ⟨some 24, .mov (.t 7), none⟩,
 ⟨some 4, .mov (.t 23), none⟩,
 ⟨some 5, .mov (.t 24), none⟩])
 (.ret))))⟩
theorem c64 : cFunc Try.prog Try.f64 = some sf64 := by kernel_rfl

/-- (*wharfage/batch.from).cut -/
def sf65 : SFunc := ⟨26,
 [.tmp 4, .tmp 5],
 .seq
 (.ops [⟨some 4, .mov (.c (.nilsl)), none⟩, ⟨some 5, .mov (.c (.bool false)), none⟩])
 (.seq
 (.seq
 (.ops
 [⟨some 7, .mov (.t 0), none⟩,
 ⟨some 8, .nilChk (.t 7), none⟩,
 ⟨some 9, .load false 1 (.t 8), none⟩,
 ⟨some 10, .len (.sl) (.t 9), none⟩,
 ⟨some 11, .mov (.t 1), none⟩,
 ⟨some 12, .bin (.lss) (.other) (.t 10) (.t 11), none⟩])
 (.cond
 (.t 12)
 (.seq (.ops [⟨some 4, .mov (.c (.nilsl)), none⟩, ⟨some 5, .mov (.c (.bool false)), none⟩]) (.ret))
 (.skip)))
 (.seq
 (.ops [⟨some 6, .mov (.c (.nilsl)), none⟩])
 (.seq
 (.ops
 [⟨some 13, .mov (.t 0), none⟩,
 ⟨some 14, .mov (.t 0), none⟩,
 ⟨some 15, .nilChk (.t 14), none⟩,
 ⟨some 16, .load false 1 (.t 15), none⟩,
 ⟨some 17, .mov (.t 1), none⟩,
 ⟨some 18, .slice 1 (.t 16) none (some (.t 17)) none, none⟩,
 ⟨some 19, .mov (.t 0), none⟩,
 ⟨some 20, .nilChk (.t 19), none⟩,
 ⟨some 21, .load false 1 (.t 20), none⟩,
 ⟨some 22, .mov (.t 1), none⟩,
 ⟨some 23, .slice 1 (.t 21) (some (.t 22)) none none, none⟩,
 ⟨some 6, .mov (.t 18), none⟩,
 ⟨some 24, .nilChk (.t 13), none⟩,
 ⟨none, .store 1 (.t 24) (.t 23), none⟩])
 (.seq
 (.ops
 [⟨some 25, .mov (.t 6), none⟩,
 ⟨some 4, .mov (.t 25), none⟩,
 ⟨some 5, .mov (.c (.bool true)), none⟩])
 (.ret)))))⟩
theorem c65 : cFunc Try.prog Try.f65 = some sf65 := by kernel_rfl

/-- wharfage/wharfageref07.take -/
def sf66 : SFunc := ⟨17,
 [.tmp 4, .tmp 5, .tmp 6],
 .seq
 (.ops
 [⟨some 4, .mov (.c (.nilsl)), none⟩,
 ⟨some 5, .mov (.c (.nilsl)), none⟩,
 ⟨some 6, .mov (.c (.bool false)), none⟩])
 (.seq
 (.seq
 (.ops
 [⟨some 7, .mov (.t 0), none⟩,
 ⟨some 8, .len (.sl) (.t 7), none⟩,
 ⟨some 9, .mov (.t 1), none⟩,
 ⟨some 10, .bin (.lss) (.other) (.t 8) (.t 9), none⟩])
 (.cond
 (.t 10)
 (.seq
 (.ops
 [⟨some 4, .mov (.c (.nilsl)), none⟩,
 ⟨some 5, .mov (.c (.nilsl)), none⟩,
 ⟨some 6, .mov (.c (.bool false)), none⟩])
 (.ret))
 (.skip)))
 (.seq
 (.ops
 [⟨some 11, .mov (.t 0), none⟩,
 ⟨some 12, .mov (.t 1), none⟩,
 ⟨some 13, .slice 1 (.t 11) none (some (.t 12)) none, none⟩,
 ⟨some 14, .mov (.t 0), none⟩,
 ⟨some 15, .mov (.t 1), none⟩,
 ⟨some 16, .slice 1 (.t 14) (some (.t 15)) none none, none⟩,
 ⟨some 4, .mov (.t 13), none⟩,
 ⟨some 5, .mov (.t 16), none⟩,
 ⟨some 6, .mov (.c (.bool true)), none⟩])
 (.ret)))⟩
theorem c66 : cFunc Try.prog Try.f66 = some sf66 := by kernel_rfl

/-- cmp.Compare[int] -/
def sf68 : SFunc := ⟨20,
 [.tmp 4],
 .seq
 (.ops [⟨some 4, .mov (.c (.int (.i64) 0)), none⟩])
 (.seq
 (.ops
 [⟨some 7, .mov (.t 0), none⟩, ⟨some 8, .call 72 [.t 7], none⟩, ⟨some 5, .mov (.t 8), none⟩])
 (.seq
 (.ops
 [⟨some 9, .mov (.t 1), none⟩, ⟨some 10, .call 72 [.t 9], none⟩, ⟨some 6, .mov (.t 10), none⟩])
 (.seq
 (.seq
 (.ops [⟨some 11, .mov (.t 5), none⟩])
 (.cond
 (.t 11)
 (.seq
 (.seq
 (.ops [⟨some 12, .mov (.t 6), none⟩])
 (.cond (.t 12) (.seq (.ops [⟨some 4, .mov (.c (.int (.i64) 0)), none⟩]) (.ret)) (.skip)))
 (.seq (.ops [⟨some 4, .mov (.c (.int (.i64) (-1))), none⟩]) (.ret)))
 (.skip)))
 (.seq
 (.seq
 (.ops [⟨some 13, .mov (.t 6), none⟩])
 (.cond (.t 13) (.seq (.ops [⟨some 4, .mov (.c (.int (.i64) 1)), none⟩]) (.ret)) (.skip)))
 (.seq
 (.seq
 (.ops
 [⟨some 14, .mov (.t 0), none⟩,
 ⟨some 15, .mov (.t 1), none⟩,
 ⟨some 16, .bin (.lss) (.other) (.t 14) (.t 15), none⟩])
 (.cond (.t 16) (.seq (.ops [⟨some 4, .mov (.c (.int (.i64) (-1))), none⟩]) (.ret)) (.skip)))
 (.seq
 (.seq
 (.ops
 [⟨some 17, .mov (.t 0), none⟩,
 ⟨some 18, .mov (.t 1), none⟩,
 ⟨some 19, .bin (.gtr) (.other) (.t 17) (.t 18), none⟩])
 (.cond (.t 19) (.seq (.ops [⟨some 4, .mov (.c (.int (.i64) 1)), none⟩]) (.ret)) (.skip)))
 (.seq (.ops [⟨some 4, .mov (.c (.int (.i64) 0)), none⟩]) (.ret))))))))⟩
theorem c68 : cFunc Try.prog Try.f68 = some sf68 := by kernel_rfl

/-- wharfage/wharfageref01.size -/
def sf69 : SFunc := ⟨17,
 [.tmp 2],
 .seq
 (.ops [⟨some 2, .mov (.c (.bool false)), none⟩])
 (.seq
 (.ops
 [⟨some 3, .mov (.t 0), none⟩,
 ⟨some 4, .bin (.eql) (.other) (.t 3) (.c (.int (.i64) 1)), none⟩,
 ⟨some 5, .mov (.t 4), none⟩,
 ⟨some 6, .mov (.t 0), some (5, false)⟩,
 ⟨some 7, .bin (.eql) (.other) (.t 6) (.c (.int (.i64) 2)), some (5, false)⟩,
 ⟨some 8, .pick (.t 5) (.c (.bool true)) (.t 7), none⟩,
 ⟨some 9, .mov (.t 8), none⟩,
 ⟨some 10, .mov (.t 0), some (9, false)⟩,
 ⟨some 11, .bin (.eql) (.other) (.t 10) (.c (.int (.i64) 4)), some (9, false)⟩,
 ⟨some 12, .pick (.t 9) (.c (.bool true)) (.t 11), none⟩,
 ⟨some 13, .mov (.t 12), none⟩,
 ⟨some 14, .mov (.t 0), some (13, false)⟩,
 ⟨some 15, .bin (.eql) (.other) (.t 14) (.c (.int (.i64) 8)), some (13, false)⟩,
 ⟨some 16, .pick (.t 13) (.c (.bool true)) (.t 15), none⟩,
 ⟨some 2, .mov (.t 16), none⟩])
 (.ret))⟩
theorem c69 : cFunc Try.prog Try.f69 = some sf69 := by kernel_rfl

/-- wharfage/num.Get -/
def sf70 : SFunc := ⟨47,
 [.cell 6 false 1, .tmp 7],
 .seq
 (.ops
 [⟨some 5, .box (.t 2), none⟩,
 ⟨some 6, .box (.c (.int (.u64) 0)), none⟩,
 ⟨some 7, .mov (.c (.int (.i64) 0)), none⟩])
 (.seq
 (.seq
 (.ops
 [⟨some 10, .load false 1 (.t 5), none⟩,
 ⟨some 11, .call 60 [.t 10], none⟩,
 ⟨some 12, .un (.not) (.t 11), none⟩,
 ⟨some 13, .mov (.t 12), none⟩,
 ⟨some 14, .mov (.t 1), some (13, false)⟩,
 ⟨some 15, .bin (.lss) (.other) (.t 14) (.c (.int (.i64) 0)), some (13, false)⟩,
 ⟨some 16, .pick (.t 13) (.c (.bool true)) (.t 15), none⟩,
 ⟨some 17, .mov (.t 16), none⟩,
 ⟨some 18, .mov (.t 1), some (17, false)⟩,
 ⟨some 19, .mov (.t 0), some (17, false)⟩,
 ⟨some 20, .len (.sl) (.t 19), some (17, false)⟩,
 ⟨some 21, .bin (.gtr) (.other) (.t 18) (.t 20), some (17, false)⟩,
 ⟨some 22, .pick (.t 17) (.c (.bool true)) (.t 21), none⟩])
 (.cond
 (.t 22)
 (.seq
 (.ops
 [⟨none, .store 1 (.t 6) (.c (.int (.u64) 0)), none⟩,
 ⟨some 7, .mov (.c (.int (.i64) 2)), none⟩])
 (.ret))
 (.skip)))
 (.seq
 (.seq
 (.ops
 [⟨some 23, .mov (.t 0), none⟩,
 ⟨some 24, .mov (.t 1), none⟩,
 ⟨some 25, .slice 1 (.t 23) (some (.t 24)) none none, none⟩,
 ⟨some 0, .mov (.t 25), none⟩])
 (.seq
 (.ops
 [⟨some 26, .mov (.t 0), none⟩,
 ⟨some 27, .len (.sl) (.t 26), none⟩,
 ⟨some 28, .load false 1 (.t 5), none⟩,
 ⟨some 29, .bin (.lss) (.other) (.t 27) (.t 28), none⟩])
 (.cond
 (.t 29)
 (.seq
 (.ops
 [⟨none, .store 1 (.t 6) (.c (.int (.u64) 0)), none⟩,
 ⟨some 7, .mov (.c (.int (.i64) 4)), none⟩])
 (.ret))
 (.skip))))
 (.seq
 (.seq
 (.ops
 [⟨some 30, .mov (.t 0), none⟩,
 ⟨some 31, .load false 1 (.t 5), none⟩,
 ⟨some 32, .slice 1 (.t 30) none (some (.t 31)) none, none⟩,
 ⟨some 33, .call 73 [.t 32], none⟩])
 (.block
 0
 (.rangeFunc
 (.t 33)
 [34, 35]
 (.seq (.ops [⟨some 8, .mov (.t 34), none⟩]) (.ops [⟨some 9, .mov (.t 35), none⟩]))
 (.block
 1
 (.ops
 [⟨some 36, .load false 1 (.t 6), none⟩,
 ⟨some 37, .mov (.t 9), none⟩,
 ⟨some 38, .convInt (.u64) (.t 37), none⟩,
 ⟨some 39, .load false 1 (.t 5), none⟩,
 ⟨some 40, .bin (.sub) (.other) (.t 39) (.c (.int (.i64) 1)), none⟩,
 ⟨some 41, .mov (.t 8), none⟩,
 ⟨some 42, .bin (.sub) (.other) (.t 40) (.t 41), none⟩,
 ⟨some 43, .bin (.mul) (.other) (.c (.int (.i64) 8)) (.t 42), none⟩,
 ⟨some 44, .bin (.shl) (.other) (.t 38) (.t 43), none⟩,
 ⟨some 45, .bin (.or) (.other) (.t 36) (.t 44), none⟩,
 ⟨none, .store 1 (.t 6) (.t 45), none⟩])))))
 (.seq
 (.ops
 [⟨some 46, .load false 1 (.t 6), none⟩,
 ⟨none, .store 1 (.t 6) (.t 46), none⟩,
 ⟨some 7, .mov (.c (.int (.i64) 0)), none⟩])
 (.ret)))))⟩
theorem c70 : cFunc Try.prog Try.f70 = some sf70 := by kernel_rfl

/-- cmp.isNaN[int] -/
def sf72 : SFunc := ⟨6,
 [.tmp 2],
 .seq
 (.ops [⟨some 2, .mov (.c (.bool false)), none⟩])
 (.seq
 (.ops
 [⟨some 3, .mov (.t 0), none⟩,
 ⟨some 4, .mov (.t 0), none⟩,
 ⟨some 5, .bin (.neq) (.other) (.t 3) (.t 4), none⟩,
 ⟨some 2, .mov (.t 5), none⟩])
 (.ret))⟩
theorem c72 : cFunc Try.prog Try.f72 = some sf72 := by kernel_rfl

/-- slices.Backward[[]byte,byte] -/
def sf73 : SFunc := ⟨4,
 [.tmp 2],
 .seq
 (.ops [⟨some 1, .box (.t 0), none⟩, ⟨some 2, .mov (.c (.nilf)), none⟩])
 (.seq (.ops [⟨some 3, .mkFunc 74 [] [.t 1], none⟩, ⟨some 2, .mov (.t 3), none⟩]) (.ret))⟩
theorem c73 : cFunc Try.prog Try.f73 = some sf73 := by kernel_rfl

/-- slices.Backward[[]byte,byte]$1 -/
def sf74 : SFunc := ⟨19,
 [],
 .seq
 (.ops
 [⟨some 4, .load false 1 (.t 1), none⟩,
 ⟨some 5, .len (.sl) (.t 4), none⟩,
 ⟨some 6, .bin (.sub) (.other) (.t 5) (.c (.int (.i64) 1)), none⟩,
 ⟨some 3, .mov (.t 6), none⟩])
 (.block
 0
 (.loop
 (.seq
 (.seq
 (.ops
 [⟨some 7, .mov (.t 3), none⟩,
 ⟨some 8, .bin (.geq) (.other) (.t 7) (.c (.int (.i64) 0)), none⟩])
 (.cond (.t 8) (.skip) (.exit 0)))
 (.seq
 (.block
 1
 (.seq
 (.ops
 [⟨some 11, .mov (.t 0), none⟩,
 ⟨some 12, .mov (.t 3), none⟩,
 ⟨some 13, .load false 1 (.t 1), none⟩,
 ⟨some 14, .mov (.t 3), none⟩,
 ⟨some 15, .idxAddrSl 1 (.t 13) (.t 14), none⟩,
 ⟨some 16, .load false 1 (.t 15), none⟩,
 ⟨some 17, .callV (.t 11) [.t 12, .t 16], none⟩,
 ⟨some 18, .un (.not) (.t 17), none⟩])
 (.cond (.t 18) (.ret) (.skip))))
 (.ops
 [⟨some 9, .mov (.t 3), none⟩,
 ⟨some 10, .bin (.sub) (.other) (.t 9) (.c (.int (.i64) 1)), none⟩,
 ⟨some 3, .mov (.t 10), none⟩])))))⟩
theorem c74 : cFunc Try.prog Try.f74 = some sf74 := by kernel_rfl

def tab : FuncId → Option SFunc
 | 3 => some sf3
 | 4 => some sf4
 | 5 => some sf5
 | 6 => some sf6
 | 7 => some sf7
 | 8 => some sf8
 | 9 => some sf9
 | 10 => some sf10
 | 11 => some sf11
 | 12 => some sf12
 | 13 => some sf13
 | 14 => some sf14
 | 15 => some sf15
 | 16 => some sf16
 | 17 => some sf17
 | 18 => some sf18
 | 19 => some sf19
 | 20 => some sf20
 | 21 => some sf21
 | 22 => some sf22
 | 23 => some sf23
 | 24 => some sf24
 | 25 => some sf25
 | 26 => some sf26
 | 27 => some sf27
 | 28 => some sf28
 | 29 => some sf29
 | 30 => some sf30
 | 31 => some sf31
 | 32 => some sf32
 | 33 => some sf33
 | 34 => some sf34
 | 35 => some sf35
 | 36 => some sf36
 | 37 => some sf37
 | 38 => some sf38
 | 39 => some sf39
 | 40 => some sf40
 | 41 => some sf41
 | 42 => some sf42
 | 43 => some sf43
 | 44 => some sf44
 | 45 => some sf45
 | 46 => some sf46
 | 47 => some sf47
 | 48 => some sf48
 | 49 => some sf49
 | 50 => some sf50
 | 51 => some sf51
 | 52 => some sf52
 | 53 => some sf53
 | 54 => some sf54
 | 55 => some sf55
 | 56 => some sf56
 | 57 => some sf57
 | 58 => some sf58
 | 59 => some sf59
 | 60 => some sf60
 | 61 => some sf61
 | 62 => some sf62
 | 63 => some sf63
 | 64 => some sf64
 | 65 => some sf65
 | 66 => some sf66
 | 68 => some sf68
 | 69 => some sf69
 | 70 => some sf70
 | 72 => some sf72
 | 73 => some sf73
 | 74 => some sf74
 | _ => none
theorem conv : Conv Try.prog tab := by
 intro f sf h
 unfold tab at h
 split at h
 · cases h; exact ⟨Try.f3, Try.func3, c3⟩
 · cases h; exact ⟨Try.f4, Try.func4, c4⟩
 · cases h; exact ⟨Try.f5, Try.func5, c5⟩
 · cases h; exact ⟨Try.f6, Try.func6, c6⟩
 · cases h; exact ⟨Try.f7, Try.func7, c7⟩
 · cases h; exact ⟨Try.f8, Try.func8, c8⟩
 · cases h; exact ⟨Try.f9, Try.func9, c9⟩
 · cases h; exact ⟨Try.f10, Try.func10, c10⟩
 · cases h; exact ⟨Try.f11, Try.func11, c11⟩
 · cases h; exact ⟨Try.f12, Try.func12, c12⟩
 · cases h; exact ⟨Try.f13, Try.func13, c13⟩
 · cases h; exact ⟨Try.f14, Try.func14, c14⟩
 · cases h; exact ⟨Try.f15, Try.func15, c15⟩
 · cases h; exact ⟨Try.f16, Try.func16, c16⟩
 · cases h; exact ⟨Try.f17, Try.func17, c17⟩
 · cases h; exact ⟨Try.f18, Try.func18, c18⟩
 · cases h; exact ⟨Try.f19, Try.func19, c19⟩
 · cases h; exact ⟨Try.f20, Try.func20, c20⟩
 · cases h; exact ⟨Try.f21, Try.func21, c21⟩
 · cases h; exact ⟨Try.f22, Try.func22, c22⟩
 · cases h; exact ⟨Try.f23, Try.func23, c23⟩
 · cases h; exact ⟨Try.f24, Try.func24, c24⟩
 · cases h; exact ⟨Try.f25, Try.func25, c25⟩
 · cases h; exact ⟨Try.f26, Try.func26, c26⟩
 · cases h; exact ⟨Try.f27, Try.func27, c27⟩
 · cases h; exact ⟨Try.f28, Try.func28, c28⟩
 · cases h; exact ⟨Try.f29, Try.func29, c29⟩
 · cases h; exact ⟨Try.f30, Try.func30, c30⟩
 · cases h; exact ⟨Try.f31, Try.func31, c31⟩
 · cases h; exact ⟨Try.f32, Try.func32, c32⟩
 · cases h; exact ⟨Try.f33, Try.func33, c33⟩
 · cases h; exact ⟨Try.f34, Try.func34, c34⟩
 · cases h; exact ⟨Try.f35, Try.func35, c35⟩
 · cases h; exact ⟨Try.f36, Try.func36, c36⟩
 · cases h; exact ⟨Try.f37, Try.func37, c37⟩
 · cases h; exact ⟨Try.f38, Try.func38, c38⟩
 · cases h; exact ⟨Try.f39, Try.func39, c39⟩
 · cases h; exact ⟨Try.f40, Try.func40, c40⟩
 · cases h; exact ⟨Try.f41, Try.func41, c41⟩
 · cases h; exact ⟨Try.f42, Try.func42, c42⟩
 · cases h; exact ⟨Try.f43, Try.func43, c43⟩
 · cases h; exact ⟨Try.f44, Try.func44, c44⟩
 · cases h; exact ⟨Try.f45, Try.func45, c45⟩
 · cases h; exact ⟨Try.f46, Try.func46, c46⟩
 · cases h; exact ⟨Try.f47, Try.func47, c47⟩
 · cases h; exact ⟨Try.f48, Try.func48, c48⟩
 · cases h; exact ⟨Try.f49, Try.func49, c49⟩
 · cases h; exact ⟨Try.f50, Try.func50, c50⟩
 · cases h; exact ⟨Try.f51, Try.func51, c51⟩
 · cases h; exact ⟨Try.f52, Try.func52, c52⟩
 · cases h; exact ⟨Try.f53, Try.func53, c53⟩
 · cases h; exact ⟨Try.f54, Try.func54, c54⟩
 · cases h; exact ⟨Try.f55, Try.func55, c55⟩
 · cases h; exact ⟨Try.f56, Try.func56, c56⟩
 · cases h; exact ⟨Try.f57, Try.func57, c57⟩
 · cases h; exact ⟨Try.f58, Try.func58, c58⟩
 · cases h; exact ⟨Try.f59, Try.func59, c59⟩
 · cases h; exact ⟨Try.f60, Try.func60, c60⟩
 · cases h; exact ⟨Try.f61, Try.func61, c61⟩
 · cases h; exact ⟨Try.f62, Try.func62, c62⟩
 · cases h; exact ⟨Try.f63, Try.func63, c63⟩
 · cases h; exact ⟨Try.f64, Try.func64, c64⟩
 · cases h; exact ⟨Try.f65, Try.func65, c65⟩
 · cases h; exact ⟨Try.f66, Try.func66, c66⟩
 · cases h; exact ⟨Try.f68, Try.func68, c68⟩
 · cases h; exact ⟨Try.f69, Try.func69, c69⟩
 · cases h; exact ⟨Try.f70, Try.func70, c70⟩
 · cases h; exact ⟨Try.f72, Try.func72, c72⟩
 · cases h; exact ⟨Try.f73, Try.func73, c73⟩
 · cases h; exact ⟨Try.f74, Try.func74, c74⟩
 · cases h
theorem mixed : Try.prog.follows .mixedOrders = true := Try.checked.mixed
theorem laid : laidOutB Try.prog = true := by kernel_rfl
end Go.Proofs.Ytbcmdlaffjmfdaa.Ya
