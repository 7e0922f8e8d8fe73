/-
  The functions that the laws reach, as the abstract machine has them (printed by wip/gen/Gen.lean).
-/
import Derived.Test.YtekbgdmemenheaaChecked
import Derived.KernelRfl
import Derived.Test.YtekbgdmemenheaaYaLaw
namespace Go.Proofs.Ytekbgdmemenheaa.Ya
open Go.Ya
set_option maxRecDepth 100000
set_option linter.unusedVariables false

/-- wharfage/wharfagelaw04.DiskNil -/
def sf6 : SFunc := ⟨87,
  [.tmp 4],
  .seq
            (.ops [⟨some 2, .box (.t 0), none⟩, ⟨some 4, .mov (.c (.bool false)), none⟩])
            (.seq
              (.ops [⟨some 5, .mov (.c (.nilptr)), none⟩])
              (.seq
                (.seq
                  (.ops [⟨some 10, .mov (.t 1), none⟩])
                  (.cond
                    (.t 10)
                    (.ops
                      [⟨some 11, .build [.nilsl, .nilsl, .nilmap, .int (.i64) 0, .bool false, .int (.i64) 0] [], none⟩,
                       ⟨some 12, .box (.t 11), none⟩,
                       ⟨some 5, .mov (.t 12), none⟩])
                    (.skip)))
                (.seq
                  (.ops
                    [⟨some 14, .mov (.t 5), none⟩,
                     ⟨some 15, .fieldAddr 1 (.t 2), none⟩,
                     ⟨some 16, .load false 1 (.t 15), none⟩,
                     ⟨some 17, .call 17 [.t 14, .t 16], none⟩,
                     ⟨some 13, .mov (.t 17), none⟩,
                     ⟨some 18, .extract (.t 13) 0, none⟩,
                     ⟨some 19, .extract (.t 13) 1, none⟩,
                     ⟨some 6,
                       .box
                               (.c
                                 (.agg
                                   [.int (.u8) 0,
                                    .int (.u8) 0,
                                    .int (.u8) 0,
                                    .int (.u8) 0,
                                    .int (.u8) 0,
                                    .int (.u8) 0,
                                    .int (.u8) 0,
                                    .int (.u8) 0,
                                    .int (.u8) 0,
                                    .int (.u8) 0,
                                    .int (.u8) 0,
                                    .int (.u8) 0,
                                    .int (.u8) 0,
                                    .int (.u8) 0,
                                    .int (.u8) 0,
                                    .int (.u8) 0,
                                    .int (.u8) 0,
                                    .int (.u8) 0,
                                    .int (.u8) 0,
                                    .int (.u8) 0,
                                    .int (.u8) 0,
                                    .int (.u8) 0,
                                    .int (.u8) 0,
                                    .int (.u8) 0,
                                    .int (.u8) 0,
                                    .int (.u8) 0,
                                    .int (.u8) 0,
                                    .int (.u8) 0,
                                    .int (.u8) 0,
                                    .int (.u8) 0,
                                    .int (.u8) 0,
                                    .int (.u8) 0,
                                    .int (.u8) 0,
                                    .int (.u8) 0,
                                    .int (.u8) 0,
                                    .int (.u8) 0,
                                    .int (.u8) 0,
                                    .int (.u8) 0,
                                    .int (.u8) 0,
                                    .int (.u8) 0,
                                    .int (.u8) 0,
                                    .int (.u8) 0,
                                    .int (.u8) 0,
                                    .int (.u8) 0,
                                    .int (.u8) 0,
                                    .int (.u8) 0,
                                    .int (.u8) 0,
                                    .int (.u8) 0,
                                    .int (.u8) 0,
                                    .int (.u8) 0,
                                    .int (.u8) 0,
                                    .int (.u8) 0,
                                    .int (.u8) 0,
                                    .int (.u8) 0,
                                    .int (.u8) 0,
                                    .int (.u8) 0,
                                    .int (.u8) 0,
                                    .int (.u8) 0,
                                    .int (.u8) 0,
                                    .int (.u8) 0,
                                    .int (.u8) 0,
                                    .int (.u8) 0,
                                    .int (.u8) 0,
                                    .int (.u8) 0])),
                       none⟩,
                     ⟨none, .store 64 (.t 6) (.t 18), none⟩,
                     ⟨some 7, .mov (.t 19), none⟩])
                  (.seq
                    (.ops
                      [⟨some 21, .mov (.t 5), none⟩,
                       ⟨some 22, .fieldAddr 1 (.t 2), none⟩,
                       ⟨some 23, .load false 1 (.t 22), none⟩,
                       ⟨some 24, .call 15 [.t 21, .t 23], none⟩,
                       ⟨some 20, .mov (.t 24), none⟩,
                       ⟨some 25, .extract (.t 20) 0, none⟩,
                       ⟨some 26, .extract (.t 20) 1, none⟩,
                       ⟨some 8,
                         .box
                                 (.c
                                   (.agg
                                     [.int (.u8) 0,
                                      .int (.u8) 0,
                                      .int (.u8) 0,
                                      .int (.u8) 0,
                                      .int (.u8) 0,
                                      .int (.u8) 0,
                                      .int (.u8) 0,
                                      .int (.u8) 0,
                                      .int (.u8) 0,
                                      .int (.u8) 0,
                                      .int (.u8) 0,
                                      .int (.u8) 0,
                                      .int (.u8) 0,
                                      .int (.u8) 0,
                                      .int (.u8) 0,
                                      .int (.u8) 0,
                                      .int (.u8) 0,
                                      .int (.u8) 0,
                                      .int (.u8) 0,
                                      .int (.u8) 0,
                                      .int (.u8) 0,
                                      .int (.u8) 0,
                                      .int (.u8) 0,
                                      .int (.u8) 0,
                                      .int (.u8) 0,
                                      .int (.u8) 0,
                                      .int (.u8) 0,
                                      .int (.u8) 0,
                                      .int (.u8) 0,
                                      .int (.u8) 0,
                                      .int (.u8) 0,
                                      .int (.u8) 0,
                                      .int (.u8) 0,
                                      .int (.u8) 0,
                                      .int (.u8) 0,
                                      .int (.u8) 0,
                                      .int (.u8) 0,
                                      .int (.u8) 0,
                                      .int (.u8) 0,
                                      .int (.u8) 0,
                                      .int (.u8) 0,
                                      .int (.u8) 0,
                                      .int (.u8) 0,
                                      .int (.u8) 0,
                                      .int (.u8) 0,
                                      .int (.u8) 0,
                                      .int (.u8) 0,
                                      .int (.u8) 0,
                                      .int (.u8) 0,
                                      .int (.u8) 0,
                                      .int (.u8) 0,
                                      .int (.u8) 0,
                                      .int (.u8) 0,
                                      .int (.u8) 0,
                                      .int (.u8) 0,
                                      .int (.u8) 0,
                                      .int (.u8) 0,
                                      .int (.u8) 0,
                                      .int (.u8) 0,
                                      .int (.u8) 0,
                                      .int (.u8) 0,
                                      .int (.u8) 0,
                                      .int (.u8) 0,
                                      .int (.u8) 0])),
                         none⟩,
                       ⟨none, .store 64 (.t 8) (.t 25), none⟩,
                       ⟨some 9, .mov (.t 26), none⟩])
                    (.seq
                      (.seq
                        (.ops
                          [⟨some 27, .mov (.t 7), none⟩,
                           ⟨some 28, .bin (.neq) (.other) (.t 27) (.c (.int (.i64) 1)), none⟩,
                           ⟨some 29, .mov (.t 28), none⟩,
                           ⟨some 30, .mov (.t 9), some (29, false)⟩,
                           ⟨some 31, .bin (.neq) (.other) (.t 30) (.c (.int (.i64) 1)), some (29, false)⟩,
                           ⟨some 32, .pick (.t 29) (.c (.bool true)) (.t 31), none⟩,
                           ⟨some 33, .mov (.t 32), none⟩,
                           ⟨some 34, .mov (.t 5), some (33, false)⟩,
                           ⟨some 35, .fieldAddr 1 (.t 2), some (33, false)⟩,
                           ⟨some 36, .load false 1 (.t 35), some (33, false)⟩,
                           ⟨some 37, .fieldAddr 2 (.t 2), some (33, false)⟩,
                           ⟨some 38, .load true 64 (.t 37), some (33, false)⟩,
                           ⟨some 39, .call 10 [.t 34, .t 36, .t 38], some (33, false)⟩,
                           ⟨some 40, .bin (.neq) (.other) (.t 39) (.c (.int (.i64) 1)), some (33, false)⟩,
                           ⟨some 41, .pick (.t 33) (.c (.bool true)) (.t 40), none⟩,
                           ⟨some 42, .mov (.t 41), none⟩,
                           ⟨some 43, .mov (.t 5), some (42, false)⟩,
                           ⟨some 44, .call 9 [.t 43], some (42, false)⟩,
                           ⟨some 45, .bin (.neq) (.other) (.t 44) (.c (.int (.i64) 1)), some (42, false)⟩,
                           ⟨some 46, .pick (.t 42) (.c (.bool true)) (.t 45), none⟩,
                           ⟨some 47, .mov (.t 46), none⟩,
                           ⟨some 48, .mov (.t 5), some (47, false)⟩,
                           ⟨some 49, .fieldAddr 1 (.t 2), some (47, false)⟩,
                           ⟨some 50, .load false 1 (.t 49), some (47, false)⟩,
                           ⟨some 51, .call 8 [.t 48, .t 50], some (47, false)⟩,
                           ⟨some 52, .bin (.neq) (.other) (.t 51) (.c (.int (.i64) 1)), some (47, false)⟩,
                           ⟨some 53, .pick (.t 47) (.c (.bool true)) (.t 52), none⟩,
                           ⟨some 54, .mov (.t 53), none⟩,
                           ⟨some 55, .mov (.t 5), some (54, false)⟩,
                           ⟨some 56, .fieldAddr 66 (.t 2), some (54, false)⟩,
                           ⟨some 57, .load false 1 (.t 56), some (54, false)⟩,
                           ⟨some 58, .call 16 [.t 55, .t 57], some (54, false)⟩,
                           ⟨some 59, .bin (.neq) (.other) (.t 58) (.c (.int (.i64) 1)), some (54, false)⟩,
                           ⟨some 60, .pick (.t 54) (.c (.bool true)) (.t 59), none⟩])
                        (.cond (.t 60) (.seq (.ops [⟨some 4, .mov (.c (.bool false)), none⟩]) (.ret)) (.skip)))
                      (.seq
                        (.ops
                          [⟨some 61, .mov (.t 5), none⟩,
                           ⟨some 62, .call 19 [.t 61], none⟩,
                           ⟨some 63, .bin (.eql) (.other) (.t 62) (.c (.int (.i64) 0)), none⟩,
                           ⟨some 64, .mov (.t 63), none⟩,
                           ⟨some 65, .mov (.t 5), some (64, true)⟩,
                           ⟨some 66, .call 12 [.t 65], some (64, true)⟩,
                           ⟨some 67, .bin (.eql) (.other) (.t 66) (.c (.int (.i64) 0)), some (64, true)⟩,
                           ⟨some 68, .pick (.t 64) (.t 67) (.c (.bool false)), none⟩,
                           ⟨some 69, .mov (.t 68), none⟩,
                           ⟨some 70, .mov (.t 5), some (69, true)⟩,
                           ⟨some 71, .call 14 [.t 70], some (69, true)⟩,
                           ⟨some 72, .bin (.eql) (.other) (.t 71) (.c (.int (.i64) 0)), some (69, true)⟩,
                           ⟨some 73, .pick (.t 69) (.t 72) (.c (.bool false)), none⟩,
                           ⟨some 74, .mov (.t 73), none⟩,
                           ⟨some 75, .mov (.t 5), some (74, true)⟩,
                           ⟨some 76, .call 11 [.t 75], some (74, true)⟩,
                           ⟨some 77, .un (.not) (.t 76), some (74, true)⟩,
                           ⟨some 78, .pick (.t 74) (.t 77) (.c (.bool false)), none⟩,
                           ⟨some 79, .mov (.t 78), none⟩,
                           ⟨some 80, .mov (.t 5), some (79, true)⟩,
                           ⟨some 81, .call 18 [.t 80], some (79, true)⟩,
                           ⟨some 82, .bin (.eql) (.ptr) (.t 81) (.c (.nilptr)), some (79, true)⟩,
                           ⟨some 83, .pick (.t 79) (.t 82) (.c (.bool false)), none⟩,
                           ⟨some 84, .mov (.t 83), none⟩,
                           ⟨some 85, .call 13 [], some (84, true)⟩,
                           ⟨some 86, .pick (.t 84) (.t 85) (.c (.bool false)), none⟩,
                           ⟨some 4, .mov (.t 86), none⟩])
                        (.ret)))))))⟩
theorem c6 : cFunc Try.prog Try.f6 = some sf6 := by kernel_rfl

/-- wharfage/disk.New -/
def sf7 : SFunc := ⟨17,
  [.tmp 2, .tmp 3],
  .seq
            (.ops [⟨some 2, .mov (.c (.nilptr)), none⟩, ⟨some 3, .mov (.c (.int (.i64) 0)), none⟩])
            (.seq
              (.seq
                (.ops
                  [⟨some 5, .mov (.t 0), none⟩,
                   ⟨some 6, .mov (.t 0), none⟩,
                   ⟨some 7, .max (.t 6) [.c (.int (.i64) 64)], none⟩,
                   ⟨some 8, .min (.t 7) [.c (.int (.i64) 16384)], none⟩,
                   ⟨some 9, .bin (.neq) (.other) (.t 5) (.t 8), none⟩])
                (.cond
                  (.t 9)
                  (.seq
                    (.ops [⟨some 2, .mov (.c (.nilptr)), none⟩, ⟨some 3, .mov (.c (.int (.i64) 2)), none⟩])
                    (.ret))
                  (.skip)))
              (.seq
                (.ops
                  [⟨some 10, .mov (.t 0), none⟩,
                   ⟨some 11,
                     .mkSlice
                             [.int (.u8) 0,
                              .int (.u8) 0,
                              .int (.u8) 0,
                              .int (.u8) 0,
                              .int (.u8) 0,
                              .int (.u8) 0,
                              .int (.u8) 0,
                              .int (.u8) 0,
                              .int (.u8) 0,
                              .int (.u8) 0,
                              .int (.u8) 0,
                              .int (.u8) 0,
                              .int (.u8) 0,
                              .int (.u8) 0,
                              .int (.u8) 0,
                              .int (.u8) 0,
                              .int (.u8) 0,
                              .int (.u8) 0,
                              .int (.u8) 0,
                              .int (.u8) 0,
                              .int (.u8) 0,
                              .int (.u8) 0,
                              .int (.u8) 0,
                              .int (.u8) 0,
                              .int (.u8) 0,
                              .int (.u8) 0,
                              .int (.u8) 0,
                              .int (.u8) 0,
                              .int (.u8) 0,
                              .int (.u8) 0,
                              .int (.u8) 0,
                              .int (.u8) 0,
                              .int (.u8) 0,
                              .int (.u8) 0,
                              .int (.u8) 0,
                              .int (.u8) 0,
                              .int (.u8) 0,
                              .int (.u8) 0,
                              .int (.u8) 0,
                              .int (.u8) 0,
                              .int (.u8) 0,
                              .int (.u8) 0,
                              .int (.u8) 0,
                              .int (.u8) 0,
                              .int (.u8) 0,
                              .int (.u8) 0,
                              .int (.u8) 0,
                              .int (.u8) 0,
                              .int (.u8) 0,
                              .int (.u8) 0,
                              .int (.u8) 0,
                              .int (.u8) 0,
                              .int (.u8) 0,
                              .int (.u8) 0,
                              .int (.u8) 0,
                              .int (.u8) 0,
                              .int (.u8) 0,
                              .int (.u8) 0,
                              .int (.u8) 0,
                              .int (.u8) 0,
                              .int (.u8) 0,
                              .int (.u8) 0,
                              .int (.u8) 0,
                              .int (.u8) 0]
                             64
                             64
                             (.t 10)
                             (.t 10),
                     none⟩,
                   ⟨some 12,
                     .build
                             [.nilsl, .nilsl, .nilmap, .int (.i64) 0, .bool false, .int (.i64) 0]
                             [(0, 1, .t 11), (3, 1, .c (.int (.i64) (-1)))],
                     none⟩,
                   ⟨some 13, .box (.t 12), none⟩,
                   ⟨some 4, .mov (.t 13), none⟩])
                (.seq
                  (.ops [⟨some 14, .mov (.t 4), none⟩, ⟨some 15, .call 20 [.t 14], none⟩])
                  (.seq
                    (.ops
                      [⟨some 16, .mov (.t 4), none⟩,
                       ⟨some 2, .mov (.t 16), none⟩,
                       ⟨some 3, .mov (.c (.int (.i64) 0)), none⟩])
                    (.ret)))))⟩
theorem c7 : cFunc Try.prog Try.f7 = some sf7 := by kernel_rfl

/-- (*wharfage/disk.Disk).Arm -/
def sf8 : SFunc := ⟨24,
  [.tmp 4],
  .seq
            (.ops [⟨some 4, .mov (.c (.int (.i64) 0)), none⟩])
            (.seq
              (.ops
                [⟨some 6, .mov (.t 0), none⟩, ⟨some 7, .call 21 [.t 6], none⟩, ⟨some 5, .mov (.t 7), none⟩])
              (.seq
                (.block
                  0
                  (.seq
                    (.ops
                      [⟨some 9, .mov (.t 5), none⟩,
                       ⟨some 10, .bin (.neq) (.other) (.t 9) (.c (.int (.i64) 0)), none⟩,
                       ⟨some 8, .mov (.t 10), none⟩])
                    (.cond
                      (.t 8)
                      (.seq (.ops [⟨some 11, .mov (.t 5), none⟩, ⟨some 4, .mov (.t 11), none⟩]) (.ret))
                      (.seq
                        (.ops
                          [⟨some 13, .mov (.t 1), none⟩,
                           ⟨some 14, .bin (.lss) (.other) (.t 13) (.c (.int (.i64) 0)), none⟩,
                           ⟨some 12, .mov (.t 14), none⟩])
                        (.cond (.t 12) (.seq (.ops [⟨some 4, .mov (.c (.int (.i64) 2)), none⟩]) (.ret)) (.skip))))))
                (.seq
                  (.seq
                    (.ops
                      [⟨some 15, .mov (.t 0), none⟩,
                       ⟨some 16, .mov (.t 1), none⟩,
                       ⟨some 17, .nilChk (.t 15), none⟩,
                       ⟨some 18, .fieldAddr 3 (.t 17), none⟩,
                       ⟨none, .store 1 (.t 18) (.t 16), none⟩])
                    (.seq
                      (.ops
                        [⟨some 19, .mov (.t 1), none⟩,
                         ⟨some 20, .bin (.eql) (.other) (.t 19) (.c (.int (.i64) 0)), none⟩])
                      (.cond
                        (.t 20)
                        (.ops
                          [⟨some 21, .mov (.t 0), none⟩,
                           ⟨some 22, .nilChk (.t 21), none⟩,
                           ⟨some 23, .fieldAddr 3 (.t 22), none⟩,
                           ⟨none, .store 1 (.t 23) (.c (.int (.i64) (-1))), none⟩])
                        (.skip))))
                  (.seq (.ops [⟨some 4, .mov (.c (.int (.i64) 0)), none⟩]) (.ret)))))⟩
theorem c8 : cFunc Try.prog Try.f8 = some sf8 := by kernel_rfl

/-- (*wharfage/disk.Disk).Flush -/
def sf9 : SFunc := ⟨8,
  [.tmp 2],
  .seq
            (.ops [⟨some 1, .box (.t 0), none⟩, ⟨some 2, .mov (.c (.int (.i64) 0)), none⟩])
            (.seq
              (.drawOps
                [⟨some 3, .load false 1 (.t 1), none⟩,
                 ⟨some 4, .load false 1 (.t 1), none⟩,
                 ⟨some 5, .call 21 [.t 4], none⟩,
                 ⟨some 6, .mkFunc 23 [] [.t 1], none⟩,
                 ⟨some 7, .call 22 [.t 3, .t 5, .t 6], none⟩,
                 ⟨some 2, .mov (.t 7), none⟩]
                [(0, 2)])
              (.ret))⟩
theorem c9 : cFunc Try.prog Try.f9 = some sf9 := by kernel_rfl

/-- (*wharfage/disk.Disk).Write -/
def sf10 : SFunc := ⟨15,
  [.tmp 6],
  .seq
            (.ops
              [⟨some 3, .box (.t 0), none⟩,
               ⟨some 4, .box (.t 1), none⟩,
               ⟨some 5, .box (.t 2), none⟩,
               ⟨some 6, .mov (.c (.int (.i64) 0)), none⟩])
            (.seq
              (.drawOps
                [⟨some 7, .load false 1 (.t 3), none⟩,
                 ⟨some 8, .load false 1 (.t 3), none⟩,
                 ⟨some 9, .load false 1 (.t 4), none⟩,
                 ⟨some 10, .load false 1 (.t 3), none⟩,
                 ⟨some 11, .call 21 [.t 10], none⟩,
                 ⟨some 12, .call 24 [.t 8, .t 9, .t 11], none⟩,
                 ⟨some 13, .mkFunc 25 [] [.t 3, .t 4, .t 5], none⟩,
                 ⟨some 14, .call 22 [.t 7, .t 12, .t 13], none⟩,
                 ⟨some 6, .mov (.t 14), none⟩]
                [(0, 4), (0, 5), (1, 4), (2, 4)])
              (.ret))⟩
theorem c10 : cFunc Try.prog Try.f10 = some sf10 := by kernel_rfl

/-- (*wharfage/disk.Disk).Dark -/
def sf11 : SFunc := ⟨11,
  [.tmp 2],
  .seq
            (.ops [⟨some 2, .mov (.c (.bool false)), none⟩])
            (.seq
              (.ops
                [⟨some 3, .mov (.t 0), none⟩,
                 ⟨some 4, .bin (.neq) (.ptr) (.t 3) (.c (.nilptr)), none⟩,
                 ⟨some 5, .mov (.t 4), none⟩,
                 ⟨some 6, .mov (.t 0), some (5, true)⟩,
                 ⟨some 7, .nilChk (.t 6), some (5, true)⟩,
                 ⟨some 8, .fieldAddr 4 (.t 7), some (5, true)⟩,
                 ⟨some 9, .load false 1 (.t 8), some (5, true)⟩,
                 ⟨some 10, .pick (.t 5) (.t 9) (.c (.bool false)), none⟩,
                 ⟨some 2, .mov (.t 10), none⟩])
              (.ret))⟩
theorem c11 : cFunc Try.prog Try.f11 = some sf11 := by kernel_rfl

/-- (*wharfage/disk.Disk).Steps -/
def sf12 : SFunc := ⟨9,
  [.tmp 2],
  .seq
            (.ops [⟨some 2, .mov (.c (.int (.i64) 0)), none⟩])
            (.seq
              (.seq
                (.ops [⟨some 3, .mov (.t 0), none⟩, ⟨some 4, .bin (.eql) (.ptr) (.t 3) (.c (.nilptr)), none⟩])
                (.cond (.t 4) (.seq (.ops [⟨some 2, .mov (.c (.int (.i64) 0)), none⟩]) (.ret)) (.skip)))
              (.seq
                (.ops
                  [⟨some 5, .mov (.t 0), none⟩,
                   ⟨some 6, .nilChk (.t 5), none⟩,
                   ⟨some 7, .fieldAddr 5 (.t 6), none⟩,
                   ⟨some 8, .load false 1 (.t 7), none⟩,
                   ⟨some 2, .mov (.t 8), none⟩])
                (.ret)))⟩
theorem c12 : cFunc Try.prog Try.f12 = some sf12 := by kernel_rfl

/-- wharfage/wharfagelaw04.lives -/
def sf13 : SFunc := ⟨113,
  [.tmp 0],
  .seq
            (.ops [⟨some 0, .mov (.c (.bool false)), none⟩])
            (.seq
              (.ops
                [⟨some 17, .call 7 [.c (.int (.i64) 63)], none⟩,
                 ⟨some 16, .mov (.t 17), none⟩,
                 ⟨some 18, .extract (.t 16) 0, none⟩,
                 ⟨some 19, .extract (.t 16) 1, none⟩,
                 ⟨some 1, .mov (.t 18), none⟩,
                 ⟨some 2, .mov (.t 19), none⟩])
              (.seq
                (.ops
                  [⟨some 21, .call 7 [.c (.int (.i64) 64)], none⟩,
                   ⟨some 20, .mov (.t 21), none⟩,
                   ⟨some 22, .extract (.t 20) 0, none⟩,
                   ⟨some 23, .extract (.t 20) 1, none⟩,
                   ⟨some 3, .mov (.t 22), none⟩,
                   ⟨some 4, .mov (.t 23), none⟩])
                (.seq
                  (.seq
                    (.ops
                      [⟨some 24, .mov (.t 3), none⟩,
                       ⟨some 25, .bin (.eql) (.ptr) (.t 24) (.c (.nilptr)), none⟩,
                       ⟨some 26, .mov (.t 25), none⟩,
                       ⟨some 27, .mov (.t 2), some (26, false)⟩,
                       ⟨some 28, .bin (.neq) (.other) (.t 27) (.c (.int (.i64) 2)), some (26, false)⟩,
                       ⟨some 29, .pick (.t 26) (.c (.bool true)) (.t 28), none⟩,
                       ⟨some 30, .mov (.t 29), none⟩,
                       ⟨some 31, .mov (.t 4), some (30, false)⟩,
                       ⟨some 32, .bin (.neq) (.other) (.t 31) (.c (.int (.i64) 0)), some (30, false)⟩,
                       ⟨some 33, .pick (.t 30) (.c (.bool true)) (.t 32), none⟩])
                    (.cond (.t 33) (.seq (.ops [⟨some 0, .mov (.c (.bool false)), none⟩]) (.ret)) (.skip)))
                  (.seq
                    (.ops
                      [⟨some 34, .mov (.t 3), none⟩,
                       ⟨some 35, .call 26 [.c (.int (.u8) 1)], none⟩,
                       ⟨some 36, .call 10 [.t 34, .c (.int (.i64) 64), .t 35], none⟩,
                       ⟨some 37, .mov (.t 3), none⟩,
                       ⟨some 38, .call 8 [.t 37, .c (.int (.i64) 2)], none⟩,
                       ⟨some 39, .mov (.t 3), none⟩,
                       ⟨some 40, .call 26 [.c (.int (.u8) 17)], none⟩,
                       ⟨some 41, .call 10 [.t 39, .c (.int (.i64) 0), .t 40], none⟩,
                       ⟨some 42, .mov (.t 3), none⟩,
                       ⟨some 43, .call 9 [.t 42], none⟩,
                       ⟨some 5, .mov (.t 36), none⟩,
                       ⟨some 6, .mov (.t 38), none⟩,
                       ⟨some 7, .mov (.t 41), none⟩,
                       ⟨some 8, .mov (.t 43), none⟩])
                    (.seq
                      (.ops
                        [⟨some 44, .mov (.t 3), none⟩,
                         ⟨some 45, .call 12 [.t 44], none⟩,
                         ⟨some 46, .mov (.t 3), none⟩,
                         ⟨some 47, .call 14 [.t 46], none⟩,
                         ⟨some 9, .mov (.t 45), none⟩,
                         ⟨some 10, .mov (.t 47), none⟩])
                      (.seq
                        (.ops
                          [⟨some 49, .mov (.t 3), none⟩,
                           ⟨some 50, .call 17 [.t 49, .c (.int (.i64) 0)], none⟩,
                           ⟨some 48, .mov (.t 50), none⟩,
                           ⟨some 51, .extract (.t 48) 0, none⟩,
                           ⟨some 52, .extract (.t 48) 1, none⟩,
                           ⟨some 11,
                             .box
                                     (.c
                                       (.agg
                                         [.int (.u8) 0,
                                          .int (.u8) 0,
                                          .int (.u8) 0,
                                          .int (.u8) 0,
                                          .int (.u8) 0,
                                          .int (.u8) 0,
                                          .int (.u8) 0,
                                          .int (.u8) 0,
                                          .int (.u8) 0,
                                          .int (.u8) 0,
                                          .int (.u8) 0,
                                          .int (.u8) 0,
                                          .int (.u8) 0,
                                          .int (.u8) 0,
                                          .int (.u8) 0,
                                          .int (.u8) 0,
                                          .int (.u8) 0,
                                          .int (.u8) 0,
                                          .int (.u8) 0,
                                          .int (.u8) 0,
                                          .int (.u8) 0,
                                          .int (.u8) 0,
                                          .int (.u8) 0,
                                          .int (.u8) 0,
                                          .int (.u8) 0,
                                          .int (.u8) 0,
                                          .int (.u8) 0,
                                          .int (.u8) 0,
                                          .int (.u8) 0,
                                          .int (.u8) 0,
                                          .int (.u8) 0,
                                          .int (.u8) 0,
                                          .int (.u8) 0,
                                          .int (.u8) 0,
                                          .int (.u8) 0,
                                          .int (.u8) 0,
                                          .int (.u8) 0,
                                          .int (.u8) 0,
                                          .int (.u8) 0,
                                          .int (.u8) 0,
                                          .int (.u8) 0,
                                          .int (.u8) 0,
                                          .int (.u8) 0,
                                          .int (.u8) 0,
                                          .int (.u8) 0,
                                          .int (.u8) 0,
                                          .int (.u8) 0,
                                          .int (.u8) 0,
                                          .int (.u8) 0,
                                          .int (.u8) 0,
                                          .int (.u8) 0,
                                          .int (.u8) 0,
                                          .int (.u8) 0,
                                          .int (.u8) 0,
                                          .int (.u8) 0,
                                          .int (.u8) 0,
                                          .int (.u8) 0,
                                          .int (.u8) 0,
                                          .int (.u8) 0,
                                          .int (.u8) 0,
                                          .int (.u8) 0,
                                          .int (.u8) 0,
                                          .int (.u8) 0,
                                          .int (.u8) 0])),
                             none⟩,
                           ⟨none, .store 64 (.t 11) (.t 51), none⟩,
                           ⟨some 12, .mov (.t 52), none⟩])
                        (.seq
                          (.ops
                            [⟨some 53, .mov (.t 3), none⟩,
                             ⟨some 54, .buildSlice [.int (.i64) 0] 1 1 [(0, 1, .c (.int (.i64) 9))], none⟩,
                             ⟨some 55, .call 16 [.t 53, .t 54], none⟩,
                             ⟨some 13, .mov (.t 55), none⟩])
                          (.seq
                            (.ops
                              [⟨some 57, .mov (.t 3), none⟩,
                               ⟨some 58, .call 17 [.t 57, .c (.int (.i64) 0)], none⟩,
                               ⟨some 56, .mov (.t 58), none⟩,
                               ⟨some 59, .extract (.t 56) 0, none⟩,
                               ⟨some 60, .extract (.t 56) 1, none⟩,
                               ⟨some 14,
                                 .box
                                         (.c
                                           (.agg
                                             [.int (.u8) 0,
                                              .int (.u8) 0,
                                              .int (.u8) 0,
                                              .int (.u8) 0,
                                              .int (.u8) 0,
                                              .int (.u8) 0,
                                              .int (.u8) 0,
                                              .int (.u8) 0,
                                              .int (.u8) 0,
                                              .int (.u8) 0,
                                              .int (.u8) 0,
                                              .int (.u8) 0,
                                              .int (.u8) 0,
                                              .int (.u8) 0,
                                              .int (.u8) 0,
                                              .int (.u8) 0,
                                              .int (.u8) 0,
                                              .int (.u8) 0,
                                              .int (.u8) 0,
                                              .int (.u8) 0,
                                              .int (.u8) 0,
                                              .int (.u8) 0,
                                              .int (.u8) 0,
                                              .int (.u8) 0,
                                              .int (.u8) 0,
                                              .int (.u8) 0,
                                              .int (.u8) 0,
                                              .int (.u8) 0,
                                              .int (.u8) 0,
                                              .int (.u8) 0,
                                              .int (.u8) 0,
                                              .int (.u8) 0,
                                              .int (.u8) 0,
                                              .int (.u8) 0,
                                              .int (.u8) 0,
                                              .int (.u8) 0,
                                              .int (.u8) 0,
                                              .int (.u8) 0,
                                              .int (.u8) 0,
                                              .int (.u8) 0,
                                              .int (.u8) 0,
                                              .int (.u8) 0,
                                              .int (.u8) 0,
                                              .int (.u8) 0,
                                              .int (.u8) 0,
                                              .int (.u8) 0,
                                              .int (.u8) 0,
                                              .int (.u8) 0,
                                              .int (.u8) 0,
                                              .int (.u8) 0,
                                              .int (.u8) 0,
                                              .int (.u8) 0,
                                              .int (.u8) 0,
                                              .int (.u8) 0,
                                              .int (.u8) 0,
                                              .int (.u8) 0,
                                              .int (.u8) 0,
                                              .int (.u8) 0,
                                              .int (.u8) 0,
                                              .int (.u8) 0,
                                              .int (.u8) 0,
                                              .int (.u8) 0,
                                              .int (.u8) 0,
                                              .int (.u8) 0])),
                                 none⟩,
                               ⟨none, .store 64 (.t 14) (.t 59), none⟩,
                               ⟨some 15, .mov (.t 60), none⟩])
                            (.seq
                              (.seq
                                (.ops
                                  [⟨some 61, .mov (.t 5), none⟩,
                                   ⟨some 62, .bin (.neq) (.other) (.t 61) (.c (.int (.i64) 2)), none⟩,
                                   ⟨some 63, .mov (.t 62), none⟩,
                                   ⟨some 64, .mov (.t 6), some (63, false)⟩,
                                   ⟨some 65, .bin (.neq) (.other) (.t 64) (.c (.int (.i64) 0)), some (63, false)⟩,
                                   ⟨some 66, .pick (.t 63) (.c (.bool true)) (.t 65), none⟩,
                                   ⟨some 67, .mov (.t 66), none⟩,
                                   ⟨some 68, .mov (.t 7), some (67, false)⟩,
                                   ⟨some 69, .bin (.neq) (.other) (.t 68) (.c (.int (.i64) 0)), some (67, false)⟩,
                                   ⟨some 70, .pick (.t 67) (.c (.bool true)) (.t 69), none⟩,
                                   ⟨some 71, .mov (.t 70), none⟩,
                                   ⟨some 72, .mov (.t 8), some (71, false)⟩,
                                   ⟨some 73, .bin (.neq) (.other) (.t 72) (.c (.int (.i64) 9)), some (71, false)⟩,
                                   ⟨some 74, .pick (.t 71) (.c (.bool true)) (.t 73), none⟩,
                                   ⟨some 75, .mov (.t 74), none⟩,
                                   ⟨some 76, .mov (.t 12), some (75, false)⟩,
                                   ⟨some 77, .bin (.neq) (.other) (.t 76) (.c (.int (.i64) 9)), some (75, false)⟩,
                                   ⟨some 78, .pick (.t 75) (.c (.bool true)) (.t 77), none⟩,
                                   ⟨some 79, .mov (.t 78), none⟩,
                                   ⟨some 80, .mov (.t 13), some (79, false)⟩,
                                   ⟨some 81, .bin (.neq) (.other) (.t 80) (.c (.int (.i64) 0)), some (79, false)⟩,
                                   ⟨some 82, .pick (.t 79) (.c (.bool true)) (.t 81), none⟩,
                                   ⟨some 83, .mov (.t 82), none⟩,
                                   ⟨some 84, .mov (.t 15), some (83, false)⟩,
                                   ⟨some 85, .bin (.neq) (.other) (.t 84) (.c (.int (.i64) 0)), some (83, false)⟩,
                                   ⟨some 86, .pick (.t 83) (.c (.bool true)) (.t 85), none⟩])
                                (.cond (.t 86) (.seq (.ops [⟨some 0, .mov (.c (.bool false)), none⟩]) (.ret)) (.skip)))
                              (.seq
                                (.ops
                                  [⟨some 87, .mov (.t 9), none⟩,
                                   ⟨some 88, .bin (.eql) (.other) (.t 87) (.c (.int (.i64) 1)), none⟩,
                                   ⟨some 89, .mov (.t 88), none⟩,
                                   ⟨some 90, .mov (.t 10), some (89, true)⟩,
                                   ⟨some 91, .bin (.eql) (.other) (.t 90) (.c (.int (.i64) 1)), some (89, true)⟩,
                                   ⟨some 92, .pick (.t 89) (.t 91) (.c (.bool false)), none⟩,
                                   ⟨some 93, .mov (.t 92), none⟩,
                                   ⟨some 94, .idxAddrArr 64 1 (.t 14) (.c (.int (.i64) 0)), some (93, true)⟩,
                                   ⟨some 95, .load false 1 (.t 94), some (93, true)⟩,
                                   ⟨some 96, .bin (.eql) (.other) (.t 95) (.c (.int (.u8) 17)), some (93, true)⟩,
                                   ⟨some 97, .pick (.t 93) (.t 96) (.c (.bool false)), none⟩,
                                   ⟨some 98, .mov (.t 97), none⟩,
                                   ⟨some 99, .idxAddrArr 64 1 (.t 14) (.c (.int (.i64) 16)), some (98, true)⟩,
                                   ⟨some 100, .load false 1 (.t 99), some (98, true)⟩,
                                   ⟨some 101, .bin (.eql) (.other) (.t 100) (.c (.int (.u8) 0)), some (98, true)⟩,
                                   ⟨some 102, .pick (.t 98) (.t 101) (.c (.bool false)), none⟩,
                                   ⟨some 103, .mov (.t 102), none⟩,
                                   ⟨some 104, .idxAddrArr 64 1 (.t 14) (.c (.int (.i64) 32)), some (103, true)⟩,
                                   ⟨some 105, .load false 1 (.t 104), some (103, true)⟩,
                                   ⟨some 106, .bin (.eql) (.other) (.t 105) (.c (.int (.u8) 0)), some (103, true)⟩,
                                   ⟨some 107, .pick (.t 103) (.t 106) (.c (.bool false)), none⟩,
                                   ⟨some 108, .mov (.t 107), none⟩,
                                   ⟨some 109, .idxAddrArr 64 1 (.t 14) (.c (.int (.i64) 48)), some (108, true)⟩,
                                   ⟨some 110, .load false 1 (.t 109), some (108, true)⟩,
                                   ⟨some 111, .bin (.eql) (.other) (.t 110) (.c (.int (.u8) 17)), some (108, true)⟩,
                                   ⟨some 112, .pick (.t 108) (.t 111) (.c (.bool false)), none⟩,
                                   ⟨some 0, .mov (.t 112), none⟩])
                                (.ret)))))))))))⟩
theorem c13 : cFunc Try.prog Try.f13 = some sf13 := by kernel_rfl

/-- (*wharfage/disk.Disk).Loose -/
def sf14 : SFunc := ⟨10,
  [.tmp 2],
  .seq
            (.ops [⟨some 2, .mov (.c (.int (.i64) 0)), none⟩])
            (.seq
              (.seq
                (.ops [⟨some 3, .mov (.t 0), none⟩, ⟨some 4, .bin (.eql) (.ptr) (.t 3) (.c (.nilptr)), none⟩])
                (.cond (.t 4) (.seq (.ops [⟨some 2, .mov (.c (.int (.i64) 0)), none⟩]) (.ret)) (.skip)))
              (.seq
                (.ops
                  [⟨some 5, .mov (.t 0), none⟩,
                   ⟨some 6, .nilChk (.t 5), none⟩,
                   ⟨some 7, .fieldAddr 1 (.t 6), none⟩,
                   ⟨some 8, .load false 1 (.t 7), none⟩,
                   ⟨some 9, .len (.sl) (.t 8), none⟩,
                   ⟨some 2, .mov (.t 9), none⟩])
                (.ret)))⟩
theorem c14 : cFunc Try.prog Try.f14 = some sf14 := by kernel_rfl

/-- (*wharfage/disk.Disk).Sure -/
def sf15 : SFunc := ⟨24,
  [.cell 4 true 64, .tmp 5],
  .seq
            (.ops
              [⟨some 4,
                 .box
                         (.c
                           (.agg
                             [.int (.u8) 0,
                              .int (.u8) 0,
                              .int (.u8) 0,
                              .int (.u8) 0,
                              .int (.u8) 0,
                              .int (.u8) 0,
                              .int (.u8) 0,
                              .int (.u8) 0,
                              .int (.u8) 0,
                              .int (.u8) 0,
                              .int (.u8) 0,
                              .int (.u8) 0,
                              .int (.u8) 0,
                              .int (.u8) 0,
                              .int (.u8) 0,
                              .int (.u8) 0,
                              .int (.u8) 0,
                              .int (.u8) 0,
                              .int (.u8) 0,
                              .int (.u8) 0,
                              .int (.u8) 0,
                              .int (.u8) 0,
                              .int (.u8) 0,
                              .int (.u8) 0,
                              .int (.u8) 0,
                              .int (.u8) 0,
                              .int (.u8) 0,
                              .int (.u8) 0,
                              .int (.u8) 0,
                              .int (.u8) 0,
                              .int (.u8) 0,
                              .int (.u8) 0,
                              .int (.u8) 0,
                              .int (.u8) 0,
                              .int (.u8) 0,
                              .int (.u8) 0,
                              .int (.u8) 0,
                              .int (.u8) 0,
                              .int (.u8) 0,
                              .int (.u8) 0,
                              .int (.u8) 0,
                              .int (.u8) 0,
                              .int (.u8) 0,
                              .int (.u8) 0,
                              .int (.u8) 0,
                              .int (.u8) 0,
                              .int (.u8) 0,
                              .int (.u8) 0,
                              .int (.u8) 0,
                              .int (.u8) 0,
                              .int (.u8) 0,
                              .int (.u8) 0,
                              .int (.u8) 0,
                              .int (.u8) 0,
                              .int (.u8) 0,
                              .int (.u8) 0,
                              .int (.u8) 0,
                              .int (.u8) 0,
                              .int (.u8) 0,
                              .int (.u8) 0,
                              .int (.u8) 0,
                              .int (.u8) 0,
                              .int (.u8) 0,
                              .int (.u8) 0])),
                 none⟩,
               ⟨some 5, .mov (.c (.int (.i64) 0)), none⟩])
            (.seq
              (.seq
                (.ops
                  [⟨some 6, .mov (.t 0), none⟩,
                   ⟨some 7, .call 19 [.t 6], none⟩,
                   ⟨some 8, .bin (.eql) (.other) (.t 7) (.c (.int (.i64) 0)), none⟩])
                (.cond
                  (.t 8)
                  (.seq
                    (.ops
                      [⟨some 9, .load true 64 (.t 4), none⟩,
                       ⟨none, .store 64 (.t 4) (.t 9), none⟩,
                       ⟨some 5, .mov (.c (.int (.i64) 1)), none⟩])
                    (.ret))
                  (.skip)))
              (.seq
                (.seq
                  (.ops
                    [⟨some 10, .mov (.t 0), none⟩,
                     ⟨some 11, .mov (.t 1), none⟩,
                     ⟨some 12, .call 24 [.t 10, .t 11, .c (.int (.i64) 0)], none⟩,
                     ⟨some 5, .mov (.t 12), none⟩])
                  (.seq
                    (.ops
                      [⟨some 13, .mov (.t 5), none⟩,
                       ⟨some 14, .bin (.eql) (.other) (.t 13) (.c (.int (.i64) 0)), none⟩])
                    (.cond
                      (.t 14)
                      (.ops
                        [⟨some 15, .mov (.t 0), none⟩,
                         ⟨some 16, .nilChk (.t 15), none⟩,
                         ⟨some 17, .fieldAddr 0 (.t 16), none⟩,
                         ⟨some 18, .load false 1 (.t 17), none⟩,
                         ⟨some 19, .mov (.t 1), none⟩,
                         ⟨some 20, .idxAddrSl 64 (.t 18) (.t 19), none⟩,
                         ⟨some 21, .load true 64 (.t 20), none⟩,
                         ⟨none, .store 64 (.t 4) (.t 21), none⟩])
                      (.skip))))
                (.seq
                  (.ops
                    [⟨some 22, .load true 64 (.t 4), none⟩,
                     ⟨some 23, .mov (.t 5), none⟩,
                     ⟨none, .store 64 (.t 4) (.t 22), none⟩,
                     ⟨some 5, .mov (.t 23), none⟩])
                  (.ret))))⟩
theorem c15 : cFunc Try.prog Try.f15 = some sf15 := by kernel_rfl

/-- (*wharfage/disk.Disk).Crash -/
def sf16 : SFunc := ⟨64,
  [.tmp 4],
  .seq
            (.ops [⟨some 4, .mov (.c (.int (.i64) 0)), none⟩])
            (.seq
              (.seq
                (.ops
                  [⟨some 8, .mov (.t 0), none⟩,
                   ⟨some 9, .call 19 [.t 8], none⟩,
                   ⟨some 10, .bin (.eql) (.other) (.t 9) (.c (.int (.i64) 0)), none⟩])
                (.cond (.t 10) (.seq (.ops [⟨some 4, .mov (.c (.int (.i64) 1)), none⟩]) (.ret)) (.skip)))
              (.seq
                (.seq
                  (.ops
                    [⟨some 11, .mov (.t 0), none⟩,
                     ⟨some 12, .nilChk (.t 11), none⟩,
                     ⟨some 13, .fieldAddr 1 (.t 12), none⟩,
                     ⟨some 14, .load false 1 (.t 13), none⟩,
                     ⟨some 15, .len (.sl) (.t 14), none⟩,
                     ⟨some 16, .mov (.c (.int (.i64) 0)), none⟩])
                  (.block
                    0
                    (.loop
                      (.seq
                        (.ops [⟨some 17, .bin (.lss) (.other) (.t 16) (.t 15), none⟩])
                        (.seq
                          (.cond (.t 17) (.skip) (.exit 0))
                          (.seq
                            (.block
                              1
                              (.seq
                                (.ops
                                  [⟨some 18, .mov (.t 16), none⟩,
                                   ⟨some 19, .idxAddrSl 65 (.t 14) (.t 16), none⟩,
                                   ⟨some 20, .load true 65 (.t 19), none⟩,
                                   ⟨some 6,
                                     .box
                                             (.c
                                               (.agg
                                                 [.int (.i64) 0,
                                                  .int (.u8) 0,
                                                  .int (.u8) 0,
                                                  .int (.u8) 0,
                                                  .int (.u8) 0,
                                                  .int (.u8) 0,
                                                  .int (.u8) 0,
                                                  .int (.u8) 0,
                                                  .int (.u8) 0,
                                                  .int (.u8) 0,
                                                  .int (.u8) 0,
                                                  .int (.u8) 0,
                                                  .int (.u8) 0,
                                                  .int (.u8) 0,
                                                  .int (.u8) 0,
                                                  .int (.u8) 0,
                                                  .int (.u8) 0,
                                                  .int (.u8) 0,
                                                  .int (.u8) 0,
                                                  .int (.u8) 0,
                                                  .int (.u8) 0,
                                                  .int (.u8) 0,
                                                  .int (.u8) 0,
                                                  .int (.u8) 0,
                                                  .int (.u8) 0,
                                                  .int (.u8) 0,
                                                  .int (.u8) 0,
                                                  .int (.u8) 0,
                                                  .int (.u8) 0,
                                                  .int (.u8) 0,
                                                  .int (.u8) 0,
                                                  .int (.u8) 0,
                                                  .int (.u8) 0,
                                                  .int (.u8) 0,
                                                  .int (.u8) 0,
                                                  .int (.u8) 0,
                                                  .int (.u8) 0,
                                                  .int (.u8) 0,
                                                  .int (.u8) 0,
                                                  .int (.u8) 0,
                                                  .int (.u8) 0,
                                                  .int (.u8) 0,
                                                  .int (.u8) 0,
                                                  .int (.u8) 0,
                                                  .int (.u8) 0,
                                                  .int (.u8) 0,
                                                  .int (.u8) 0,
                                                  .int (.u8) 0,
                                                  .int (.u8) 0,
                                                  .int (.u8) 0,
                                                  .int (.u8) 0,
                                                  .int (.u8) 0,
                                                  .int (.u8) 0,
                                                  .int (.u8) 0,
                                                  .int (.u8) 0,
                                                  .int (.u8) 0,
                                                  .int (.u8) 0,
                                                  .int (.u8) 0,
                                                  .int (.u8) 0,
                                                  .int (.u8) 0,
                                                  .int (.u8) 0,
                                                  .int (.u8) 0,
                                                  .int (.u8) 0,
                                                  .int (.u8) 0,
                                                  .int (.u8) 0])),
                                     none⟩,
                                   ⟨some 5, .mov (.t 18), none⟩,
                                   ⟨none, .store 65 (.t 6) (.t 20), none⟩])
                                (.seq
                                  (.seq
                                    (.ops
                                      [⟨some 21, .mov (.t 5), none⟩,
                                       ⟨some 22, .mov (.t 1), none⟩,
                                       ⟨some 23, .len (.sl) (.t 22), none⟩,
                                       ⟨some 24, .bin (.eql) (.other) (.t 21) (.t 23), none⟩])
                                    (.cond (.t 24) (.exit 0) (.skip)))
                                  (.seq
                                    (.ops [⟨some 25, .mov (.c (.int (.i64) 0)), none⟩])
                                    (.block
                                      2
                                      (.loop
                                        (.seq
                                          (.ops [⟨some 26, .bin (.lss) (.other) (.t 25) (.c (.int (.i64) 4)), none⟩])
                                          (.seq
                                            (.cond (.t 26) (.skip) (.exit 2))
                                            (.seq
                                              (.block
                                                3
                                                (.seq
                                                  (.ops [⟨some 27, .mov (.t 25), none⟩, ⟨some 7, .mov (.t 27), none⟩])
                                                  (.seq
                                                    (.ops
                                                      [⟨some 28, .mov (.t 1), none⟩,
                                                       ⟨some 29, .mov (.t 5), none⟩,
                                                       ⟨some 30, .idxAddrSl 1 (.t 28) (.t 29), none⟩,
                                                       ⟨some 31, .load false 1 (.t 30), none⟩,
                                                       ⟨some 32, .mov (.t 7), none⟩,
                                                       ⟨some 33, .bin (.shl) (.other) (.c (.int (.i64) 1)) (.t 32), none⟩,
                                                       ⟨some 34, .bin (.and) (.other) (.t 31) (.t 33), none⟩,
                                                       ⟨some 35, .bin (.neq) (.other) (.t 34) (.c (.int (.i64) 0)), none⟩])
                                                    (.cond
                                                      (.t 35)
                                                      (.ops
                                                        [⟨some 36, .mov (.t 0), none⟩,
                                                         ⟨some 37, .nilChk (.t 36), none⟩,
                                                         ⟨some 38, .fieldAddr 0 (.t 37), none⟩,
                                                         ⟨some 39, .load false 1 (.t 38), none⟩,
                                                         ⟨some 40, .fieldAddr 0 (.t 6), none⟩,
                                                         ⟨some 41, .load false 1 (.t 40), none⟩,
                                                         ⟨some 42, .idxAddrSl 64 (.t 39) (.t 41), none⟩,
                                                         ⟨some 43, .mov (.t 7), none⟩,
                                                         ⟨some 44, .bin (.mul) (.other) (.t 43) (.c (.int (.i64) 16)), none⟩,
                                                         ⟨some 45, .sliceArr 64 1 (.t 42) (some (.t 44)) none none, none⟩,
                                                         ⟨some 46, .fieldAddr 1 (.t 6), none⟩,
                                                         ⟨some 47, .mov (.t 7), none⟩,
                                                         ⟨some 48, .bin (.mul) (.other) (.t 47) (.c (.int (.i64) 16)), none⟩,
                                                         ⟨some 49, .mov (.t 7), none⟩,
                                                         ⟨some 50, .bin (.add) (.other) (.t 49) (.c (.int (.i64) 1)), none⟩,
                                                         ⟨some 51, .bin (.mul) (.other) (.t 50) (.c (.int (.i64) 16)), none⟩,
                                                         ⟨some 52, .sliceArr 64 1 (.t 46) (some (.t 48)) (some (.t 51)) none, none⟩,
                                                         ⟨some 53, .copy 1 (.t 45) (.t 52), none⟩])
                                                      (.skip)))))
                                              (.ops
                                                [⟨some 54, .bin (.add) (.other) (.t 25) (.c (.int (.i64) 1)), none⟩,
                                                 ⟨some 25, .mov (.t 54), none⟩]))))))))))
                            (.ops
                              [⟨some 55, .bin (.add) (.other) (.t 16) (.c (.int (.i64) 1)), none⟩,
                               ⟨some 16, .mov (.t 55), none⟩])))))))
                (.seq
                  (.ops [⟨some 56, .mov (.t 0), none⟩, ⟨some 57, .call 20 [.t 56], none⟩])
                  (.seq
                    (.ops
                      [⟨some 58, .mov (.t 0), none⟩,
                       ⟨some 59, .mov (.t 0), none⟩,
                       ⟨some 60, .nilChk (.t 58), none⟩,
                       ⟨some 61, .fieldAddr 3 (.t 60), none⟩,
                       ⟨none, .store 1 (.t 61) (.c (.int (.i64) (-1))), none⟩,
                       ⟨some 62, .nilChk (.t 59), none⟩,
                       ⟨some 63, .fieldAddr 4 (.t 62), none⟩,
                       ⟨none, .store 1 (.t 63) (.c (.bool false)), none⟩])
                    (.seq (.ops [⟨some 4, .mov (.c (.int (.i64) 0)), none⟩]) (.ret))))))⟩
theorem c16 : cFunc Try.prog Try.f16 = some sf16 := by kernel_rfl

/-- (*wharfage/disk.Disk).Read -/
def sf17 : SFunc := ⟨35,
  [.cell 4 true 64, .tmp 5],
  .seq
            (.ops
              [⟨some 4,
                 .box
                         (.c
                           (.agg
                             [.int (.u8) 0,
                              .int (.u8) 0,
                              .int (.u8) 0,
                              .int (.u8) 0,
                              .int (.u8) 0,
                              .int (.u8) 0,
                              .int (.u8) 0,
                              .int (.u8) 0,
                              .int (.u8) 0,
                              .int (.u8) 0,
                              .int (.u8) 0,
                              .int (.u8) 0,
                              .int (.u8) 0,
                              .int (.u8) 0,
                              .int (.u8) 0,
                              .int (.u8) 0,
                              .int (.u8) 0,
                              .int (.u8) 0,
                              .int (.u8) 0,
                              .int (.u8) 0,
                              .int (.u8) 0,
                              .int (.u8) 0,
                              .int (.u8) 0,
                              .int (.u8) 0,
                              .int (.u8) 0,
                              .int (.u8) 0,
                              .int (.u8) 0,
                              .int (.u8) 0,
                              .int (.u8) 0,
                              .int (.u8) 0,
                              .int (.u8) 0,
                              .int (.u8) 0,
                              .int (.u8) 0,
                              .int (.u8) 0,
                              .int (.u8) 0,
                              .int (.u8) 0,
                              .int (.u8) 0,
                              .int (.u8) 0,
                              .int (.u8) 0,
                              .int (.u8) 0,
                              .int (.u8) 0,
                              .int (.u8) 0,
                              .int (.u8) 0,
                              .int (.u8) 0,
                              .int (.u8) 0,
                              .int (.u8) 0,
                              .int (.u8) 0,
                              .int (.u8) 0,
                              .int (.u8) 0,
                              .int (.u8) 0,
                              .int (.u8) 0,
                              .int (.u8) 0,
                              .int (.u8) 0,
                              .int (.u8) 0,
                              .int (.u8) 0,
                              .int (.u8) 0,
                              .int (.u8) 0,
                              .int (.u8) 0,
                              .int (.u8) 0,
                              .int (.u8) 0,
                              .int (.u8) 0,
                              .int (.u8) 0,
                              .int (.u8) 0,
                              .int (.u8) 0])),
                 none⟩,
               ⟨some 5, .mov (.c (.int (.i64) 0)), none⟩])
            (.seq
              (.seq
                (.ops
                  [⟨some 7, .mov (.t 0), none⟩,
                   ⟨some 8, .mov (.t 1), none⟩,
                   ⟨some 9, .mov (.t 0), none⟩,
                   ⟨some 10, .call 21 [.t 9], none⟩,
                   ⟨some 11, .call 24 [.t 7, .t 8, .t 10], none⟩,
                   ⟨some 5, .mov (.t 11), none⟩])
                (.seq
                  (.ops
                    [⟨some 12, .mov (.t 5), none⟩,
                     ⟨some 13, .bin (.neq) (.other) (.t 12) (.c (.int (.i64) 0)), none⟩])
                  (.cond
                    (.t 13)
                    (.seq
                      (.ops
                        [⟨some 14, .load true 64 (.t 4), none⟩,
                         ⟨some 15, .mov (.t 5), none⟩,
                         ⟨none, .store 64 (.t 4) (.t 14), none⟩,
                         ⟨some 5, .mov (.t 15), none⟩])
                      (.ret))
                    (.skip))))
              (.seq
                (.ops
                  [⟨some 17, .mov (.t 0), none⟩,
                   ⟨some 18, .nilChk (.t 17), none⟩,
                   ⟨some 19, .fieldAddr 2 (.t 18), none⟩,
                   ⟨some 20, .load false 1 (.t 19), none⟩,
                   ⟨some 21, .mov (.t 1), none⟩,
                   ⟨some 22,
                     .lookup
                             false
                             (.agg
                               [.int (.u8) 0,
                                .int (.u8) 0,
                                .int (.u8) 0,
                                .int (.u8) 0,
                                .int (.u8) 0,
                                .int (.u8) 0,
                                .int (.u8) 0,
                                .int (.u8) 0,
                                .int (.u8) 0,
                                .int (.u8) 0,
                                .int (.u8) 0,
                                .int (.u8) 0,
                                .int (.u8) 0,
                                .int (.u8) 0,
                                .int (.u8) 0,
                                .int (.u8) 0,
                                .int (.u8) 0,
                                .int (.u8) 0,
                                .int (.u8) 0,
                                .int (.u8) 0,
                                .int (.u8) 0,
                                .int (.u8) 0,
                                .int (.u8) 0,
                                .int (.u8) 0,
                                .int (.u8) 0,
                                .int (.u8) 0,
                                .int (.u8) 0,
                                .int (.u8) 0,
                                .int (.u8) 0,
                                .int (.u8) 0,
                                .int (.u8) 0,
                                .int (.u8) 0,
                                .int (.u8) 0,
                                .int (.u8) 0,
                                .int (.u8) 0,
                                .int (.u8) 0,
                                .int (.u8) 0,
                                .int (.u8) 0,
                                .int (.u8) 0,
                                .int (.u8) 0,
                                .int (.u8) 0,
                                .int (.u8) 0,
                                .int (.u8) 0,
                                .int (.u8) 0,
                                .int (.u8) 0,
                                .int (.u8) 0,
                                .int (.u8) 0,
                                .int (.u8) 0,
                                .int (.u8) 0,
                                .int (.u8) 0,
                                .int (.u8) 0,
                                .int (.u8) 0,
                                .int (.u8) 0,
                                .int (.u8) 0,
                                .int (.u8) 0,
                                .int (.u8) 0,
                                .int (.u8) 0,
                                .int (.u8) 0,
                                .int (.u8) 0,
                                .int (.u8) 0,
                                .int (.u8) 0,
                                .int (.u8) 0,
                                .int (.u8) 0,
                                .int (.u8) 0])
                             true
                             (.t 20)
                             (.t 21),
                     none⟩,
                   ⟨some 16, .mov (.t 22), none⟩,
                   ⟨some 23, .extract (.t 16) 0, none⟩,
                   ⟨some 24, .extract (.t 16) 1, none⟩,
                   ⟨none, .store 64 (.t 4) (.t 23), none⟩,
                   ⟨some 6, .mov (.t 24), none⟩])
                (.seq
                  (.seq
                    (.ops [⟨some 25, .mov (.t 6), none⟩, ⟨some 26, .un (.not) (.t 25), none⟩])
                    (.cond
                      (.t 26)
                      (.ops
                        [⟨some 27, .mov (.t 0), none⟩,
                         ⟨some 28, .nilChk (.t 27), none⟩,
                         ⟨some 29, .fieldAddr 0 (.t 28), none⟩,
                         ⟨some 30, .load false 1 (.t 29), none⟩,
                         ⟨some 31, .mov (.t 1), none⟩,
                         ⟨some 32, .idxAddrSl 64 (.t 30) (.t 31), none⟩,
                         ⟨some 33, .load true 64 (.t 32), none⟩,
                         ⟨none, .store 64 (.t 4) (.t 33), none⟩])
                      (.skip)))
                  (.seq
                    (.ops
                      [⟨some 34, .load true 64 (.t 4), none⟩,
                       ⟨none, .store 64 (.t 4) (.t 34), none⟩,
                       ⟨some 5, .mov (.c (.int (.i64) 0)), none⟩])
                    (.ret)))))⟩
theorem c17 : cFunc Try.prog Try.f17 = some sf17 := by kernel_rfl

/-- (*wharfage/disk.Disk).Copy -/
def sf18 : SFunc := ⟨28,
  [.tmp 2],
  .seq
            (.ops [⟨some 2, .mov (.c (.nilptr)), none⟩])
            (.seq
              (.seq
                (.ops
                  [⟨some 4, .mov (.t 0), none⟩,
                   ⟨some 5, .call 19 [.t 4], none⟩,
                   ⟨some 6, .bin (.eql) (.other) (.t 5) (.c (.int (.i64) 0)), none⟩])
                (.cond (.t 6) (.seq (.ops [⟨some 2, .mov (.c (.nilptr)), none⟩]) (.ret)) (.skip)))
              (.seq
                (.ops
                  [⟨some 7, .mov (.t 0), none⟩,
                   ⟨some 8, .nilChk (.t 7), none⟩,
                   ⟨some 9, .load true 6 (.t 8), none⟩,
                   ⟨some 3, .box (.c (.agg [.nilsl, .nilsl, .nilmap, .int (.i64) 0, .bool false, .int (.i64) 0])), none⟩,
                   ⟨none, .store 6 (.t 3) (.t 9), none⟩])
                (.seq
                  (.drawOps
                    [⟨some 10, .mov (.t 0), none⟩,
                     ⟨some 11, .nilChk (.t 10), none⟩,
                     ⟨some 12, .fieldAddr 0 (.t 11), none⟩,
                     ⟨some 13, .load false 1 (.t 12), none⟩,
                     ⟨some 14, .call 27 [.t 13], none⟩,
                     ⟨some 15, .mov (.t 0), none⟩,
                     ⟨some 16, .nilChk (.t 15), none⟩,
                     ⟨some 17, .fieldAddr 1 (.t 16), none⟩,
                     ⟨some 18, .load false 1 (.t 17), none⟩,
                     ⟨some 19, .call 28 [.t 18], none⟩,
                     ⟨some 20, .mov (.t 0), none⟩,
                     ⟨some 21, .nilChk (.t 20), none⟩,
                     ⟨some 22, .fieldAddr 2 (.t 21), none⟩,
                     ⟨some 23, .load false 1 (.t 22), none⟩,
                     ⟨some 24, .call 29 [.t 23], none⟩,
                     ⟨some 25, .fieldAddr 0 (.t 3), none⟩,
                     ⟨none, .store 1 (.t 25) (.t 14), none⟩,
                     ⟨some 26, .fieldAddr 1 (.t 3), none⟩,
                     ⟨none, .store 1 (.t 26) (.t 19), none⟩,
                     ⟨some 27, .fieldAddr 2 (.t 3), none⟩,
                     ⟨none, .store 1 (.t 27) (.t 24), none⟩]
                    [(8, 4), (13, 4), (13, 9)])
                  (.seq (.ops [⟨some 2, .mov (.t 3), none⟩]) (.ret)))))⟩
theorem c18 : cFunc Try.prog Try.f18 = some sf18 := by kernel_rfl

/-- (*wharfage/disk.Disk).Blocks -/
def sf19 : SFunc := ⟨10,
  [.tmp 2],
  .seq
            (.ops [⟨some 2, .mov (.c (.int (.i64) 0)), none⟩])
            (.seq
              (.seq
                (.ops [⟨some 3, .mov (.t 0), none⟩, ⟨some 4, .bin (.eql) (.ptr) (.t 3) (.c (.nilptr)), none⟩])
                (.cond (.t 4) (.seq (.ops [⟨some 2, .mov (.c (.int (.i64) 0)), none⟩]) (.ret)) (.skip)))
              (.seq
                (.ops
                  [⟨some 5, .mov (.t 0), none⟩,
                   ⟨some 6, .nilChk (.t 5), none⟩,
                   ⟨some 7, .fieldAddr 0 (.t 6), none⟩,
                   ⟨some 8, .load false 1 (.t 7), none⟩,
                   ⟨some 9, .len (.sl) (.t 8), none⟩,
                   ⟨some 2, .mov (.t 9), none⟩])
                (.ret)))⟩
theorem c19 : cFunc Try.prog Try.f19 = some sf19 := by kernel_rfl

/-- (*wharfage/disk.Disk).empty -/
def sf20 : SFunc := ⟨9,
  [],
  .ops
            [⟨some 2, .mov (.t 0), none⟩,
             ⟨some 3, .mov (.t 0), none⟩,
             ⟨some 4, .mkMap, none⟩,
             ⟨some 5, .nilChk (.t 2), none⟩,
             ⟨some 6, .fieldAddr 1 (.t 5), none⟩,
             ⟨none, .store 1 (.t 6) (.c (.nilsl)), none⟩,
             ⟨some 7, .nilChk (.t 3), none⟩,
             ⟨some 8, .fieldAddr 2 (.t 7), none⟩,
             ⟨none, .store 1 (.t 8) (.t 4), none⟩]⟩
theorem c20 : cFunc Try.prog Try.f20 = some sf20 := by kernel_rfl

/-- (*wharfage/disk.Disk).powered -/
def sf21 : SFunc := ⟨10,
  [.tmp 2],
  .seq
            (.ops [⟨some 2, .mov (.c (.int (.i64) 0)), none⟩])
            (.seq
              (.seq
                (.ops
                  [⟨some 3, .mov (.t 0), none⟩,
                   ⟨some 4, .call 19 [.t 3], none⟩,
                   ⟨some 5, .bin (.eql) (.other) (.t 4) (.c (.int (.i64) 0)), none⟩])
                (.cond (.t 5) (.seq (.ops [⟨some 2, .mov (.c (.int (.i64) 1)), none⟩]) (.ret)) (.skip)))
              (.seq
                (.seq
                  (.ops
                    [⟨some 6, .mov (.t 0), none⟩,
                     ⟨some 7, .nilChk (.t 6), none⟩,
                     ⟨some 8, .fieldAddr 4 (.t 7), none⟩,
                     ⟨some 9, .load false 1 (.t 8), none⟩])
                  (.cond (.t 9) (.seq (.ops [⟨some 2, .mov (.c (.int (.i64) 9)), none⟩]) (.ret)) (.skip)))
                (.seq (.ops [⟨some 2, .mov (.c (.int (.i64) 0)), none⟩]) (.ret))))⟩
theorem c21 : cFunc Try.prog Try.f21 = some sf21 := by kernel_rfl

/-- (*wharfage/disk.Disk).do -/
def sf22 : SFunc := ⟨43,
  [.tmp 6],
  .seq
            (.ops [⟨some 6, .mov (.c (.int (.i64) 0)), none⟩])
            (.seq
              (.seq
                (.ops
                  [⟨some 7, .mov (.t 1), none⟩,
                   ⟨some 8, .bin (.neq) (.other) (.t 7) (.c (.int (.i64) 0)), none⟩])
                (.cond
                  (.t 8)
                  (.seq (.ops [⟨some 9, .mov (.t 1), none⟩, ⟨some 6, .mov (.t 9), none⟩]) (.ret))
                  (.skip)))
              (.seq
                (.seq
                  (.ops
                    [⟨some 10, .mov (.t 0), none⟩,
                     ⟨some 11, .nilChk (.t 10), none⟩,
                     ⟨some 12, .fieldAddr 3 (.t 11), none⟩,
                     ⟨some 13, .load false 1 (.t 12), none⟩,
                     ⟨some 14, .bin (.geq) (.other) (.t 13) (.c (.int (.i64) 0)), none⟩])
                  (.cond
                    (.t 14)
                    (.ops
                      [⟨some 15, .mov (.t 0), none⟩,
                       ⟨some 16, .nilChk (.t 15), none⟩,
                       ⟨some 17, .fieldAddr 3 (.t 16), none⟩,
                       ⟨some 18, .load false 1 (.t 17), none⟩,
                       ⟨some 19, .bin (.sub) (.other) (.t 18) (.c (.int (.i64) 1)), none⟩,
                       ⟨some 20, .nilChk (.t 15), none⟩,
                       ⟨some 21, .fieldAddr 3 (.t 20), none⟩,
                       ⟨none, .store 1 (.t 21) (.t 19), none⟩])
                    (.skip)))
                (.seq
                  (.seq
                    (.ops
                      [⟨some 22, .mov (.t 0), none⟩,
                       ⟨some 23, .mov (.t 0), none⟩,
                       ⟨some 24, .nilChk (.t 23), none⟩,
                       ⟨some 25, .fieldAddr 3 (.t 24), none⟩,
                       ⟨some 26, .load false 1 (.t 25), none⟩,
                       ⟨some 27, .bin (.eql) (.other) (.t 26) (.c (.int (.i64) 0)), none⟩,
                       ⟨some 28, .nilChk (.t 22), none⟩,
                       ⟨some 29, .fieldAddr 4 (.t 28), none⟩,
                       ⟨none, .store 1 (.t 29) (.t 27), none⟩])
                    (.seq
                      (.ops
                        [⟨some 30, .mov (.t 0), none⟩,
                         ⟨some 31, .nilChk (.t 30), none⟩,
                         ⟨some 32, .fieldAddr 4 (.t 31), none⟩,
                         ⟨some 33, .load false 1 (.t 32), none⟩])
                      (.cond (.t 33) (.seq (.ops [⟨some 6, .mov (.c (.int (.i64) 9)), none⟩]) (.ret)) (.skip))))
                  (.seq
                    (.ops
                      [⟨some 34, .mov (.t 0), none⟩,
                       ⟨some 35, .nilChk (.t 34), none⟩,
                       ⟨some 36, .fieldAddr 5 (.t 35), none⟩,
                       ⟨some 37, .load false 1 (.t 36), none⟩,
                       ⟨some 38, .bin (.add) (.other) (.t 37) (.c (.int (.i64) 1)), none⟩,
                       ⟨some 39, .nilChk (.t 34), none⟩,
                       ⟨some 40, .fieldAddr 5 (.t 39), none⟩,
                       ⟨none, .store 1 (.t 40) (.t 38), none⟩])
                    (.seq
                      (.ops [⟨some 41, .mov (.t 2), none⟩, ⟨some 42, .callV (.t 41) [], none⟩])
                      (.seq (.ops [⟨some 6, .mov (.c (.int (.i64) 0)), none⟩]) (.ret)))))))⟩
theorem c22 : cFunc Try.prog Try.f22 = some sf22 := by kernel_rfl

/-- (*wharfage/disk.Disk).block -/
def sf24 : SFunc := ⟨20,
  [.tmp 6],
  .seq
            (.ops [⟨some 6, .mov (.c (.int (.i64) 0)), none⟩])
            (.seq
              (.seq
                (.ops
                  [⟨some 7, .mov (.t 2), none⟩,
                   ⟨some 8, .bin (.eql) (.other) (.t 7) (.c (.int (.i64) 0)), none⟩,
                   ⟨some 9, .mov (.t 8), none⟩,
                   ⟨some 10, .mov (.t 1), some (9, true)⟩,
                   ⟨some 11, .bin (.lss) (.other) (.t 10) (.c (.int (.i64) 0)), some (9, true)⟩,
                   ⟨some 12, .mov (.t 11), some (9, true)⟩,
                   ⟨some 13, .mov (.t 1), some (12, false)⟩,
                   ⟨some 14, .mov (.t 0), some (12, false)⟩,
                   ⟨some 15, .call 19 [.t 14], some (12, false)⟩,
                   ⟨some 16, .bin (.geq) (.other) (.t 13) (.t 15), some (12, false)⟩,
                   ⟨some 17, .pick (.t 12) (.c (.bool true)) (.t 16), some (9, true)⟩,
                   ⟨some 18, .pick (.t 9) (.t 17) (.c (.bool false)), none⟩])
                (.cond (.t 18) (.seq (.ops [⟨some 6, .mov (.c (.int (.i64) 2)), none⟩]) (.ret)) (.skip)))
              (.seq (.ops [⟨some 19, .mov (.t 2), none⟩, ⟨some 6, .mov (.t 19), none⟩]) (.ret)))⟩
theorem c24 : cFunc Try.prog Try.f24 = some sf24 := by kernel_rfl

/-- (*wharfage/disk.Disk).Write$1 -/
def sf25 : SFunc := ⟨21,
  [],
  .seq
            (.drawOps
              [⟨some 3, .load false 1 (.t 0), none⟩,
               ⟨some 4, .load false 1 (.t 0), none⟩,
               ⟨some 5, .nilChk (.t 4), none⟩,
               ⟨some 6, .fieldAddr 1 (.t 5), none⟩,
               ⟨some 7, .load false 1 (.t 6), none⟩,
               ⟨some 8, .load false 1 (.t 1), none⟩,
               ⟨some 9, .load true 64 (.t 2), none⟩,
               ⟨some 10,
                 .build
                         [.int (.i64) 0,
                          .int (.u8) 0,
                          .int (.u8) 0,
                          .int (.u8) 0,
                          .int (.u8) 0,
                          .int (.u8) 0,
                          .int (.u8) 0,
                          .int (.u8) 0,
                          .int (.u8) 0,
                          .int (.u8) 0,
                          .int (.u8) 0,
                          .int (.u8) 0,
                          .int (.u8) 0,
                          .int (.u8) 0,
                          .int (.u8) 0,
                          .int (.u8) 0,
                          .int (.u8) 0,
                          .int (.u8) 0,
                          .int (.u8) 0,
                          .int (.u8) 0,
                          .int (.u8) 0,
                          .int (.u8) 0,
                          .int (.u8) 0,
                          .int (.u8) 0,
                          .int (.u8) 0,
                          .int (.u8) 0,
                          .int (.u8) 0,
                          .int (.u8) 0,
                          .int (.u8) 0,
                          .int (.u8) 0,
                          .int (.u8) 0,
                          .int (.u8) 0,
                          .int (.u8) 0,
                          .int (.u8) 0,
                          .int (.u8) 0,
                          .int (.u8) 0,
                          .int (.u8) 0,
                          .int (.u8) 0,
                          .int (.u8) 0,
                          .int (.u8) 0,
                          .int (.u8) 0,
                          .int (.u8) 0,
                          .int (.u8) 0,
                          .int (.u8) 0,
                          .int (.u8) 0,
                          .int (.u8) 0,
                          .int (.u8) 0,
                          .int (.u8) 0,
                          .int (.u8) 0,
                          .int (.u8) 0,
                          .int (.u8) 0,
                          .int (.u8) 0,
                          .int (.u8) 0,
                          .int (.u8) 0,
                          .int (.u8) 0,
                          .int (.u8) 0,
                          .int (.u8) 0,
                          .int (.u8) 0,
                          .int (.u8) 0,
                          .int (.u8) 0,
                          .int (.u8) 0,
                          .int (.u8) 0,
                          .int (.u8) 0,
                          .int (.u8) 0,
                          .int (.u8) 0]
                         [(0, 1, .t 8), (1, 64, .t 9)],
                 none⟩,
               ⟨some 11,
                 .buildSlice
                         [.int (.i64) 0,
                          .int (.u8) 0,
                          .int (.u8) 0,
                          .int (.u8) 0,
                          .int (.u8) 0,
                          .int (.u8) 0,
                          .int (.u8) 0,
                          .int (.u8) 0,
                          .int (.u8) 0,
                          .int (.u8) 0,
                          .int (.u8) 0,
                          .int (.u8) 0,
                          .int (.u8) 0,
                          .int (.u8) 0,
                          .int (.u8) 0,
                          .int (.u8) 0,
                          .int (.u8) 0,
                          .int (.u8) 0,
                          .int (.u8) 0,
                          .int (.u8) 0,
                          .int (.u8) 0,
                          .int (.u8) 0,
                          .int (.u8) 0,
                          .int (.u8) 0,
                          .int (.u8) 0,
                          .int (.u8) 0,
                          .int (.u8) 0,
                          .int (.u8) 0,
                          .int (.u8) 0,
                          .int (.u8) 0,
                          .int (.u8) 0,
                          .int (.u8) 0,
                          .int (.u8) 0,
                          .int (.u8) 0,
                          .int (.u8) 0,
                          .int (.u8) 0,
                          .int (.u8) 0,
                          .int (.u8) 0,
                          .int (.u8) 0,
                          .int (.u8) 0,
                          .int (.u8) 0,
                          .int (.u8) 0,
                          .int (.u8) 0,
                          .int (.u8) 0,
                          .int (.u8) 0,
                          .int (.u8) 0,
                          .int (.u8) 0,
                          .int (.u8) 0,
                          .int (.u8) 0,
                          .int (.u8) 0,
                          .int (.u8) 0,
                          .int (.u8) 0,
                          .int (.u8) 0,
                          .int (.u8) 0,
                          .int (.u8) 0,
                          .int (.u8) 0,
                          .int (.u8) 0,
                          .int (.u8) 0,
                          .int (.u8) 0,
                          .int (.u8) 0,
                          .int (.u8) 0,
                          .int (.u8) 0,
                          .int (.u8) 0,
                          .int (.u8) 0,
                          .int (.u8) 0]
                         1
                         65
                         [(0, 65, .t 10)],
                 none⟩,
               ⟨some 12, .append 65 72 (.t 7) (.t 11), none⟩,
               ⟨some 13, .nilChk (.t 3), none⟩,
               ⟨some 14, .fieldAddr 1 (.t 13), none⟩,
               ⟨none, .store 1 (.t 14) (.t 12), none⟩]
              [(0, 8), (0, 9), (1, 8), (4, 8)])
            (.ops
              [⟨some 15, .load false 1 (.t 0), none⟩,
               ⟨some 16, .nilChk (.t 15), none⟩,
               ⟨some 17, .fieldAddr 2 (.t 16), none⟩,
               ⟨some 18, .load false 1 (.t 17), none⟩,
               ⟨some 19, .load false 1 (.t 1), none⟩,
               ⟨some 20, .load true 64 (.t 2), none⟩,
               ⟨none, .mapUpdate false (.t 18) (.t 19) (.t 20), none⟩])⟩
theorem c25 : cFunc Try.prog Try.f25 = some sf25 := by kernel_rfl

/-- wharfage/wharfagelaw04.full -/
def sf26 : SFunc := ⟨16,
  [.cell 2 true 64],
  .seq
            (.ops
              [⟨some 2,
                 .box
                         (.c
                           (.agg
                             [.int (.u8) 0,
                              .int (.u8) 0,
                              .int (.u8) 0,
                              .int (.u8) 0,
                              .int (.u8) 0,
                              .int (.u8) 0,
                              .int (.u8) 0,
                              .int (.u8) 0,
                              .int (.u8) 0,
                              .int (.u8) 0,
                              .int (.u8) 0,
                              .int (.u8) 0,
                              .int (.u8) 0,
                              .int (.u8) 0,
                              .int (.u8) 0,
                              .int (.u8) 0,
                              .int (.u8) 0,
                              .int (.u8) 0,
                              .int (.u8) 0,
                              .int (.u8) 0,
                              .int (.u8) 0,
                              .int (.u8) 0,
                              .int (.u8) 0,
                              .int (.u8) 0,
                              .int (.u8) 0,
                              .int (.u8) 0,
                              .int (.u8) 0,
                              .int (.u8) 0,
                              .int (.u8) 0,
                              .int (.u8) 0,
                              .int (.u8) 0,
                              .int (.u8) 0,
                              .int (.u8) 0,
                              .int (.u8) 0,
                              .int (.u8) 0,
                              .int (.u8) 0,
                              .int (.u8) 0,
                              .int (.u8) 0,
                              .int (.u8) 0,
                              .int (.u8) 0,
                              .int (.u8) 0,
                              .int (.u8) 0,
                              .int (.u8) 0,
                              .int (.u8) 0,
                              .int (.u8) 0,
                              .int (.u8) 0,
                              .int (.u8) 0,
                              .int (.u8) 0,
                              .int (.u8) 0,
                              .int (.u8) 0,
                              .int (.u8) 0,
                              .int (.u8) 0,
                              .int (.u8) 0,
                              .int (.u8) 0,
                              .int (.u8) 0,
                              .int (.u8) 0,
                              .int (.u8) 0,
                              .int (.u8) 0,
                              .int (.u8) 0,
                              .int (.u8) 0,
                              .int (.u8) 0,
                              .int (.u8) 0,
                              .int (.u8) 0,
                              .int (.u8) 0])),
                 none⟩])
            (.seq
              (.ops
                [⟨some 5, .mov (.t 0), none⟩,
                 ⟨some 6,
                   .build
                           [.int (.u8) 0,
                            .int (.u8) 0,
                            .int (.u8) 0,
                            .int (.u8) 0,
                            .int (.u8) 0,
                            .int (.u8) 0,
                            .int (.u8) 0,
                            .int (.u8) 0,
                            .int (.u8) 0,
                            .int (.u8) 0,
                            .int (.u8) 0,
                            .int (.u8) 0,
                            .int (.u8) 0,
                            .int (.u8) 0,
                            .int (.u8) 0,
                            .int (.u8) 0,
                            .int (.u8) 0,
                            .int (.u8) 0,
                            .int (.u8) 0,
                            .int (.u8) 0,
                            .int (.u8) 0,
                            .int (.u8) 0,
                            .int (.u8) 0,
                            .int (.u8) 0,
                            .int (.u8) 0,
                            .int (.u8) 0,
                            .int (.u8) 0,
                            .int (.u8) 0,
                            .int (.u8) 0,
                            .int (.u8) 0,
                            .int (.u8) 0,
                            .int (.u8) 0,
                            .int (.u8) 0,
                            .int (.u8) 0,
                            .int (.u8) 0,
                            .int (.u8) 0,
                            .int (.u8) 0,
                            .int (.u8) 0,
                            .int (.u8) 0,
                            .int (.u8) 0,
                            .int (.u8) 0,
                            .int (.u8) 0,
                            .int (.u8) 0,
                            .int (.u8) 0,
                            .int (.u8) 0,
                            .int (.u8) 0,
                            .int (.u8) 0,
                            .int (.u8) 0,
                            .int (.u8) 0,
                            .int (.u8) 0,
                            .int (.u8) 0,
                            .int (.u8) 0,
                            .int (.u8) 0,
                            .int (.u8) 0,
                            .int (.u8) 0,
                            .int (.u8) 0,
                            .int (.u8) 0,
                            .int (.u8) 0,
                            .int (.u8) 0,
                            .int (.u8) 0,
                            .int (.u8) 0,
                            .int (.u8) 0,
                            .int (.u8) 0,
                            .int (.u8) 0]
                           [(0, 1, .t 5)],
                   none⟩,
                 ⟨some 3,
                   .box
                           (.c
                             (.agg
                               [.int (.u8) 0,
                                .int (.u8) 0,
                                .int (.u8) 0,
                                .int (.u8) 0,
                                .int (.u8) 0,
                                .int (.u8) 0,
                                .int (.u8) 0,
                                .int (.u8) 0,
                                .int (.u8) 0,
                                .int (.u8) 0,
                                .int (.u8) 0,
                                .int (.u8) 0,
                                .int (.u8) 0,
                                .int (.u8) 0,
                                .int (.u8) 0,
                                .int (.u8) 0,
                                .int (.u8) 0,
                                .int (.u8) 0,
                                .int (.u8) 0,
                                .int (.u8) 0,
                                .int (.u8) 0,
                                .int (.u8) 0,
                                .int (.u8) 0,
                                .int (.u8) 0,
                                .int (.u8) 0,
                                .int (.u8) 0,
                                .int (.u8) 0,
                                .int (.u8) 0,
                                .int (.u8) 0,
                                .int (.u8) 0,
                                .int (.u8) 0,
                                .int (.u8) 0,
                                .int (.u8) 0,
                                .int (.u8) 0,
                                .int (.u8) 0,
                                .int (.u8) 0,
                                .int (.u8) 0,
                                .int (.u8) 0,
                                .int (.u8) 0,
                                .int (.u8) 0,
                                .int (.u8) 0,
                                .int (.u8) 0,
                                .int (.u8) 0,
                                .int (.u8) 0,
                                .int (.u8) 0,
                                .int (.u8) 0,
                                .int (.u8) 0,
                                .int (.u8) 0,
                                .int (.u8) 0,
                                .int (.u8) 0,
                                .int (.u8) 0,
                                .int (.u8) 0,
                                .int (.u8) 0,
                                .int (.u8) 0,
                                .int (.u8) 0,
                                .int (.u8) 0,
                                .int (.u8) 0,
                                .int (.u8) 0,
                                .int (.u8) 0,
                                .int (.u8) 0,
                                .int (.u8) 0,
                                .int (.u8) 0,
                                .int (.u8) 0,
                                .int (.u8) 0])),
                   none⟩,
                 ⟨none, .store 64 (.t 3) (.t 6), none⟩])
              (.seq
                (.seq
                  (.ops [⟨some 4, .mov (.c (.int (.i64) 1)), none⟩])
                  (.block
                    0
                    (.loop
                      (.seq
                        (.seq
                          (.ops
                            [⟨some 7, .mov (.t 4), none⟩,
                             ⟨some 8, .bin (.lss) (.other) (.t 7) (.c (.int (.i64) 64)), none⟩])
                          (.cond (.t 8) (.skip) (.exit 0)))
                        (.seq
                          (.block
                            1
                            (.ops
                              [⟨some 11, .mov (.t 4), none⟩,
                               ⟨some 12, .idxAddrArr 64 1 (.t 3) (.c (.int (.i64) 0)), none⟩,
                               ⟨some 13, .load false 1 (.t 12), none⟩,
                               ⟨some 14, .idxAddrArr 64 1 (.t 3) (.t 11), none⟩,
                               ⟨none, .store 1 (.t 14) (.t 13), none⟩]))
                          (.ops
                            [⟨some 9, .mov (.t 4), none⟩,
                             ⟨some 10, .bin (.add) (.other) (.t 9) (.c (.int (.i64) 1)), none⟩,
                             ⟨some 4, .mov (.t 10), none⟩]))))))
                (.seq (.ops [⟨some 15, .load true 64 (.t 3), none⟩, ⟨none, .store 64 (.t 2) (.t 15), none⟩]) (.ret))))⟩
theorem c26 : cFunc Try.prog Try.f26 = some sf26 := by kernel_rfl

def tab : FuncId → Option SFunc
  | 6 => some sf6
  | 7 => some sf7
  | 8 => some sf8
  | 9 => some sf9
  | 10 => some sf10
  | 11 => some sf11
  | 12 => some sf12
  | 13 => some sf13
  | 14 => some sf14
  | 15 => some sf15
  | 16 => some sf16
  | 17 => some sf17
  | 18 => some sf18
  | 19 => some sf19
  | 20 => some sf20
  | 21 => some sf21
  | 22 => some sf22
  | 24 => some sf24
  | 25 => some sf25
  | 26 => some sf26
  | _ => none
theorem conv : Conv Try.prog tab := by
  intro f sf h
  unfold tab at h
  split at h
  · cases h; exact ⟨Try.f6, Try.func6, c6⟩
  · cases h; exact ⟨Try.f7, Try.func7, c7⟩
  · cases h; exact ⟨Try.f8, Try.func8, c8⟩
  · cases h; exact ⟨Try.f9, Try.func9, c9⟩
  · cases h; exact ⟨Try.f10, Try.func10, c10⟩
  · cases h; exact ⟨Try.f11, Try.func11, c11⟩
  · cases h; exact ⟨Try.f12, Try.func12, c12⟩
  · cases h; exact ⟨Try.f13, Try.func13, c13⟩
  · cases h; exact ⟨Try.f14, Try.func14, c14⟩
  · cases h; exact ⟨Try.f15, Try.func15, c15⟩
  · cases h; exact ⟨Try.f16, Try.func16, c16⟩
  · cases h; exact ⟨Try.f17, Try.func17, c17⟩
  · cases h; exact ⟨Try.f18, Try.func18, c18⟩
  · cases h; exact ⟨Try.f19, Try.func19, c19⟩
  · cases h; exact ⟨Try.f20, Try.func20, c20⟩
  · cases h; exact ⟨Try.f21, Try.func21, c21⟩
  · cases h; exact ⟨Try.f22, Try.func22, c22⟩
  · cases h; exact ⟨Try.f24, Try.func24, c24⟩
  · cases h; exact ⟨Try.f25, Try.func25, c25⟩
  · cases h; exact ⟨Try.f26, Try.func26, c26⟩
  · cases h
theorem mixed : Try.prog.follows .mixedOrders = true := Try.checked.mixed
theorem laid : laidOutB Try.prog = true := by kernel_rfl
end Go.Proofs.Ytekbgdmemenheaa.Ya
