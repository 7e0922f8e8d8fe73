/-
  The functions that the laws reach, as the abstract machine has them (printed by wip/gen/Gen.lean).
-/
import Derived.Test.YtpdfpbdkiaekpaaDoorChecked
import Derived.KernelRfl
import Derived.Test.YtpdfpbdkiaekpaaDoorYbG
import Derived.Test.YtpdfpbdkiaekpaaDoorYbL
namespace Go.Proofs.YtpdfpbdkiaekpaaDoor.Ya
open Go.Ya
set_option maxRecDepth 100000
set_option linter.unusedVariables false

/-- wharfage/wharfagelaw02.NameTells -/
def sf3 : SFunc := ⟨35,
  [.tmp 2],
  .seq
            (.ops [⟨some 2, .mov (.c (.bool false)), none⟩])
            (.seq
              (.ops
                [⟨some 8, .mov (.t 0), none⟩,
                 ⟨some 9, .call 7 [.t 8], none⟩,
                 ⟨some 7, .mov (.t 9), none⟩,
                 ⟨some 10, .extract (.t 7) 0, none⟩,
                 ⟨some 11, .extract (.t 7) 1, none⟩,
                 ⟨some 3, .mov (.t 10), none⟩,
                 ⟨some 4, .mov (.t 11), none⟩])
              (.seq
                (.ops
                  [⟨some 13, .mov (.t 0), none⟩,
                   ⟨some 14, .call 8 [.t 13], none⟩,
                   ⟨some 12, .mov (.t 14), none⟩,
                   ⟨some 15, .extract (.t 12) 0, none⟩,
                   ⟨some 16, .extract (.t 12) 1, none⟩,
                   ⟨some 5, .mov (.t 15), none⟩,
                   ⟨some 6, .mov (.t 16), none⟩])
                (.seq
                  (.ops
                    [⟨some 17, .mov (.t 0), none⟩,
                     ⟨some 18, .call 9 [.t 17], none⟩,
                     ⟨some 19, .mov (.t 0), none⟩,
                     ⟨some 20, .call 10 [.t 19], none⟩,
                     ⟨some 21, .bin (.eql) (.bool) (.t 18) (.t 20), none⟩,
                     ⟨some 22, .mov (.t 21), none⟩,
                     ⟨some 23, .mov (.t 3), some (22, true)⟩,
                     ⟨some 24, .mov (.t 5), some (22, true)⟩,
                     ⟨some 25, .bin (.eql) (.other) (.t 23) (.t 24), some (22, true)⟩,
                     ⟨some 26, .pick (.t 22) (.t 25) (.c (.bool false)), none⟩,
                     ⟨some 27, .mov (.t 26), none⟩,
                     ⟨some 28, .mov (.t 4), some (27, true)⟩,
                     ⟨some 29, .mov (.t 6), some (27, true)⟩,
                     ⟨some 30, .bin (.eql) (.bool) (.t 28) (.t 29), some (27, true)⟩,
                     ⟨some 31, .pick (.t 27) (.t 30) (.c (.bool false)), none⟩,
                     ⟨some 32, .mov (.t 31), none⟩,
                     ⟨some 33, .call 11 [], some (32, true)⟩,
                     ⟨some 34, .pick (.t 32) (.t 33) (.c (.bool false)), none⟩,
                     ⟨some 2, .mov (.t 34), none⟩])
                  (.ret))))⟩
theorem c3 : cFunc Tryd.prog Tryd.f3 = some sf3 := by kernel_rfl

/-- wharfage/wharfagelaw02.NamePaths -/
def sf4 : SFunc := ⟨74,
  [.tmp 4],
  .seq
            (.ops [⟨some 4, .mov (.c (.bool false)), none⟩])
            (.seq
              (.seq
                (.ops
                  [⟨some 14, .mov (.t 1), none⟩,
                   ⟨some 15, .len (.sl) (.t 14), none⟩,
                   ⟨some 16, .bin (.gtr) (.other) (.t 15) (.c (.int (.i64) 100)), none⟩])
                (.cond
                  (.t 16)
                  (.seq (.ops [⟨some 17, .call 11 [], none⟩, ⟨some 4, .mov (.t 17), none⟩]) (.ret))
                  (.skip)))
              (.seq
                (.ops [⟨some 5, .mov (.c (.nilsl)), none⟩])
                (.seq
                  (.ops
                    [⟨some 18, .mov (.t 5), none⟩,
                     ⟨some 19, .mov (.t 1), none⟩,
                     ⟨some 20, .append 1 16 (.t 18) (.t 19), none⟩,
                     ⟨some 5, .mov (.t 20), none⟩])
                  (.seq
                    (.ops
                      [⟨some 22, .mov (.t 0), none⟩,
                       ⟨some 23, .call 12 [.t 22], none⟩,
                       ⟨some 21, .mov (.t 23), none⟩,
                       ⟨some 24, .extract (.t 21) 0, none⟩,
                       ⟨some 25, .extract (.t 21) 1, none⟩,
                       ⟨some 6, .mov (.t 24), none⟩,
                       ⟨some 7, .mov (.t 25), none⟩])
                    (.seq
                      (.ops
                        [⟨some 27, .mov (.t 0), none⟩,
                         ⟨some 28, .call 13 [.t 27], none⟩,
                         ⟨some 26, .mov (.t 28), none⟩,
                         ⟨some 29, .extract (.t 26) 0, none⟩,
                         ⟨some 30, .extract (.t 26) 1, none⟩,
                         ⟨some 8, .mov (.t 29), none⟩,
                         ⟨some 9, .mov (.t 30), none⟩])
                      (.seq
                        (.ops
                          [⟨some 32, .mov (.t 5), none⟩,
                           ⟨some 33, .call 14 [.t 32], none⟩,
                           ⟨some 31, .mov (.t 33), none⟩,
                           ⟨some 34, .extract (.t 31) 0, none⟩,
                           ⟨some 35, .extract (.t 31) 1, none⟩,
                           ⟨some 10, .mov (.t 34), none⟩,
                           ⟨some 11, .mov (.t 35), none⟩])
                        (.seq
                          (.ops
                            [⟨some 37, .mov (.t 1), none⟩,
                             ⟨some 38, .call 15 [.t 37], none⟩,
                             ⟨some 36, .mov (.t 38), none⟩,
                             ⟨some 39, .extract (.t 36) 0, none⟩,
                             ⟨some 40, .extract (.t 36) 1, none⟩,
                             ⟨some 12, .mov (.t 39), none⟩,
                             ⟨some 13, .mov (.t 40), none⟩])
                          (.seq
                            (.ops
                              [⟨some 41, .mov (.t 6), none⟩,
                               ⟨some 42, .mov (.t 8), none⟩,
                               ⟨some 43, .call 16 [.t 41, .t 42], none⟩,
                               ⟨some 44, .mov (.t 43), none⟩,
                               ⟨some 45, .mov (.t 7), some (44, true)⟩,
                               ⟨some 46, .mov (.t 9), some (44, true)⟩,
                               ⟨some 47, .bin (.eql) (.other) (.t 45) (.t 46), some (44, true)⟩,
                               ⟨some 48, .pick (.t 44) (.t 47) (.c (.bool false)), none⟩,
                               ⟨some 49, .mov (.t 48), none⟩,
                               ⟨some 50, .mov (.t 10), some (49, true)⟩,
                               ⟨some 51, .mov (.t 12), some (49, true)⟩,
                               ⟨some 52, .bin (.eql) (.str) (.t 50) (.t 51), some (49, true)⟩,
                               ⟨some 53, .pick (.t 49) (.t 52) (.c (.bool false)), none⟩,
                               ⟨some 54, .mov (.t 53), none⟩,
                               ⟨some 55, .mov (.t 11), some (54, true)⟩,
                               ⟨some 56, .mov (.t 13), some (54, true)⟩,
                               ⟨some 57, .bin (.eql) (.other) (.t 55) (.t 56), some (54, true)⟩,
                               ⟨some 58, .pick (.t 54) (.t 57) (.c (.bool false)), none⟩,
                               ⟨some 59, .mov (.t 58), none⟩,
                               ⟨some 60, .mov (.t 5), some (59, true)⟩,
                               ⟨some 61, .call 17 [.t 60], some (59, true)⟩,
                               ⟨some 62, .mov (.t 1), some (59, true)⟩,
                               ⟨some 63, .call 18 [.t 62], some (59, true)⟩,
                               ⟨some 64, .bin (.eql) (.bool) (.t 61) (.t 63), some (59, true)⟩,
                               ⟨some 65, .pick (.t 59) (.t 64) (.c (.bool false)), none⟩,
                               ⟨some 66, .mov (.t 65), none⟩,
                               ⟨some 67, .mov (.t 5), some (66, true)⟩,
                               ⟨some 68, .mov (.t 1), some (66, true)⟩,
                               ⟨some 69, .call 16 [.t 67, .t 68], some (66, true)⟩,
                               ⟨some 70, .pick (.t 66) (.t 69) (.c (.bool false)), none⟩,
                               ⟨some 71, .mov (.t 70), none⟩,
                               ⟨some 72, .call 11 [], some (71, true)⟩,
                               ⟨some 73, .pick (.t 71) (.t 72) (.c (.bool false)), none⟩,
                               ⟨some 4, .mov (.t 73), none⟩])
                            (.ret)))))))))⟩
theorem c4 : cFunc Tryd.prog Tryd.f4 = some sf4 := by kernel_rfl

/-- wharfage/wharfagelaw02.NameBack -/
def sf5 : SFunc := ⟨74,
  [.tmp 4],
  .seq
            (.ops [⟨some 4, .mov (.c (.bool false)), none⟩])
            (.seq
              (.seq
                (.ops
                  [⟨some 13, .mov (.t 1), none⟩,
                   ⟨some 14, .len (.sl) (.t 13), none⟩,
                   ⟨some 15, .bin (.gtr) (.other) (.t 14) (.c (.int (.i64) 100)), none⟩])
                (.cond
                  (.t 15)
                  (.seq (.ops [⟨some 16, .call 11 [], none⟩, ⟨some 4, .mov (.t 16), none⟩]) (.ret))
                  (.skip)))
              (.seq
                (.ops
                  [⟨some 18, .mov (.t 1), none⟩,
                   ⟨some 19, .call 14 [.t 18], none⟩,
                   ⟨some 17, .mov (.t 19), none⟩,
                   ⟨some 20, .extract (.t 17) 0, none⟩,
                   ⟨some 21, .extract (.t 17) 1, none⟩,
                   ⟨some 5, .mov (.t 20), none⟩,
                   ⟨some 6, .mov (.t 21), none⟩])
                (.seq
                  (.seq
                    (.ops
                      [⟨some 22, .mov (.t 6), none⟩,
                       ⟨some 23, .bin (.eql) (.other) (.t 22) (.c (.int (.i64) 0)), none⟩,
                       ⟨some 24, .mov (.t 1), none⟩,
                       ⟨some 25, .call 17 [.t 24], none⟩,
                       ⟨some 26, .bin (.neq) (.bool) (.t 23) (.t 25), none⟩])
                    (.cond (.t 26) (.seq (.ops [⟨some 4, .mov (.c (.bool false)), none⟩]) (.ret)) (.skip)))
                  (.seq
                    (.seq
                      (.ops
                        [⟨some 27, .mov (.t 6), none⟩,
                         ⟨some 28, .bin (.eql) (.other) (.t 27) (.c (.int (.i64) 0)), none⟩])
                      (.cond
                        (.t 28)
                        (.seq
                          (.ops
                            [⟨some 30, .mov (.t 5), none⟩,
                             ⟨some 31, .call 12 [.t 30], none⟩,
                             ⟨some 29, .mov (.t 31), none⟩,
                             ⟨some 32, .extract (.t 29) 0, none⟩,
                             ⟨some 33, .extract (.t 29) 1, none⟩,
                             ⟨some 7, .mov (.t 32), none⟩,
                             ⟨some 8, .mov (.t 33), none⟩])
                          (.seq
                            (.ops
                              [⟨some 34, .mov (.t 8), none⟩,
                               ⟨some 35, .bin (.neq) (.other) (.t 34) (.c (.int (.i64) 0)), none⟩,
                               ⟨some 36, .mov (.t 35), none⟩,
                               ⟨some 37, .mov (.t 1), some (36, false)⟩,
                               ⟨some 38, .mov (.t 7), some (36, false)⟩,
                               ⟨some 39, .call 16 [.t 37, .t 38], some (36, false)⟩,
                               ⟨some 40, .un (.not) (.t 39), some (36, false)⟩,
                               ⟨some 41, .pick (.t 36) (.c (.bool true)) (.t 40), none⟩])
                            (.cond (.t 41) (.seq (.ops [⟨some 4, .mov (.c (.bool false)), none⟩]) (.ret)) (.skip))))
                        (.skip)))
                    (.seq
                      (.ops
                        [⟨some 43, .mov (.t 0), none⟩,
                         ⟨some 44, .call 12 [.t 43], none⟩,
                         ⟨some 42, .mov (.t 44), none⟩,
                         ⟨some 45, .extract (.t 42) 0, none⟩,
                         ⟨some 46, .extract (.t 42) 1, none⟩,
                         ⟨some 9, .mov (.t 45), none⟩,
                         ⟨some 10, .mov (.t 46), none⟩])
                      (.seq
                        (.seq
                          (.ops
                            [⟨some 47, .mov (.t 10), none⟩,
                             ⟨some 48, .bin (.neq) (.other) (.t 47) (.c (.int (.i64) 0)), none⟩])
                          (.cond
                            (.t 48)
                            (.seq
                              (.ops
                                [⟨some 49, .mov (.t 9), none⟩,
                                 ⟨some 50, .len (.sl) (.t 49), none⟩,
                                 ⟨some 51, .bin (.eql) (.other) (.t 50) (.c (.int (.i64) 0)), none⟩,
                                 ⟨some 52, .mov (.t 51), none⟩,
                                 ⟨some 53, .call 11 [], some (52, true)⟩,
                                 ⟨some 54, .pick (.t 52) (.t 53) (.c (.bool false)), none⟩,
                                 ⟨some 4, .mov (.t 54), none⟩])
                              (.ret))
                            (.skip)))
                        (.seq
                          (.ops
                            [⟨some 56, .mov (.t 9), none⟩,
                             ⟨some 57, .call 14 [.t 56], none⟩,
                             ⟨some 55, .mov (.t 57), none⟩,
                             ⟨some 58, .extract (.t 55) 0, none⟩,
                             ⟨some 59, .extract (.t 55) 1, none⟩,
                             ⟨some 11, .mov (.t 58), none⟩,
                             ⟨some 12, .mov (.t 59), none⟩])
                          (.seq
                            (.ops
                              [⟨some 60, .mov (.t 12), none⟩,
                               ⟨some 61, .bin (.eql) (.other) (.t 60) (.c (.int (.i64) 0)), none⟩,
                               ⟨some 62, .mov (.t 61), none⟩,
                               ⟨some 63, .mov (.t 11), some (62, true)⟩,
                               ⟨some 64, .mov (.t 0), some (62, true)⟩,
                               ⟨some 65, .bin (.eql) (.str) (.t 63) (.t 64), some (62, true)⟩,
                               ⟨some 66, .pick (.t 62) (.t 65) (.c (.bool false)), none⟩,
                               ⟨some 67, .mov (.t 66), none⟩,
                               ⟨some 68, .mov (.t 9), some (67, true)⟩,
                               ⟨some 69, .call 17 [.t 68], some (67, true)⟩,
                               ⟨some 70, .pick (.t 67) (.t 69) (.c (.bool false)), none⟩,
                               ⟨some 71, .mov (.t 70), none⟩,
                               ⟨some 72, .call 11 [], some (71, true)⟩,
                               ⟨some 73, .pick (.t 71) (.t 72) (.c (.bool false)), none⟩,
                               ⟨some 4, .mov (.t 73), none⟩])
                            (.ret)))))))))⟩
theorem c5 : cFunc Tryd.prog Tryd.f5 = some sf5 := by kernel_rfl

/-- wharfage/wharfagelaw02.NamePieces -/
def sf6 : SFunc := ⟨56,
  [.tmp 4],
  .seq
            (.ops [⟨some 4, .mov (.c (.bool false)), none⟩])
            (.seq
              (.ops
                [⟨some 12, .mov (.t 0), none⟩,
                 ⟨some 13, .call 7 [.t 12], none⟩,
                 ⟨some 11, .mov (.t 13), none⟩,
                 ⟨some 14, .extract (.t 11) 0, none⟩,
                 ⟨some 15, .extract (.t 11) 1, none⟩,
                 ⟨some 5, .mov (.t 14), none⟩,
                 ⟨some 6, .mov (.t 15), none⟩])
              (.seq
                (.ops
                  [⟨some 17, .mov (.t 1), none⟩,
                   ⟨some 18, .call 7 [.t 17], none⟩,
                   ⟨some 16, .mov (.t 18), none⟩,
                   ⟨some 19, .extract (.t 16) 0, none⟩,
                   ⟨some 20, .extract (.t 16) 1, none⟩,
                   ⟨some 7, .mov (.t 19), none⟩,
                   ⟨some 8, .mov (.t 20), none⟩])
                (.seq
                  (.ops
                    [⟨some 22, .mov (.t 0), none⟩,
                     ⟨some 23, .mov (.t 1), none⟩,
                     ⟨some 24, .bin (.add) (.str) (.t 22) (.t 23), none⟩,
                     ⟨some 25, .call 7 [.t 24], none⟩,
                     ⟨some 21, .mov (.t 25), none⟩,
                     ⟨some 26, .extract (.t 21) 0, none⟩,
                     ⟨some 27, .extract (.t 21) 1, none⟩,
                     ⟨some 9, .mov (.t 26), none⟩,
                     ⟨some 10, .mov (.t 27), none⟩])
                  (.seq
                    (.seq
                      (.ops
                        [⟨some 28, .mov (.t 6), none⟩,
                         ⟨some 29, .mov (.t 28), none⟩,
                         ⟨some 30, .mov (.t 8), some (29, true)⟩,
                         ⟨some 31, .pick (.t 29) (.t 30) (.c (.bool false)), none⟩])
                      (.cond
                        (.t 31)
                        (.seq
                          (.ops
                            [⟨some 32, .mov (.t 10), none⟩,
                             ⟨some 33, .mov (.t 32), none⟩,
                             ⟨some 34, .mov (.t 9), some (33, true)⟩,
                             ⟨some 35, .mov (.t 5), some (33, true)⟩,
                             ⟨some 36, .mov (.t 7), some (33, true)⟩,
                             ⟨some 37, .bin (.add) (.other) (.t 35) (.t 36), some (33, true)⟩,
                             ⟨some 38, .bin (.eql) (.other) (.t 34) (.t 37), some (33, true)⟩,
                             ⟨some 39, .pick (.t 33) (.t 38) (.c (.bool false)), none⟩,
                             ⟨some 40, .mov (.t 39), none⟩,
                             ⟨some 41, .call 11 [], some (40, true)⟩,
                             ⟨some 42, .pick (.t 40) (.t 41) (.c (.bool false)), none⟩,
                             ⟨some 4, .mov (.t 42), none⟩])
                          (.ret))
                        (.skip)))
                    (.seq
                      (.seq
                        (.ops
                          [⟨some 43, .mov (.t 6), none⟩,
                           ⟨some 44, .mov (.t 8), none⟩,
                           ⟨some 45, .bin (.neq) (.bool) (.t 43) (.t 44), none⟩])
                        (.cond
                          (.t 45)
                          (.seq
                            (.ops
                              [⟨some 46, .mov (.t 10), none⟩,
                               ⟨some 47, .un (.not) (.t 46), none⟩,
                               ⟨some 48, .mov (.t 47), none⟩,
                               ⟨some 49, .mov (.t 9), some (48, true)⟩,
                               ⟨some 50, .bin (.eql) (.other) (.t 49) (.c (.int (.i64) 0)), some (48, true)⟩,
                               ⟨some 51, .pick (.t 48) (.t 50) (.c (.bool false)), none⟩,
                               ⟨some 52, .mov (.t 51), none⟩,
                               ⟨some 53, .call 11 [], some (52, true)⟩,
                               ⟨some 54, .pick (.t 52) (.t 53) (.c (.bool false)), none⟩,
                               ⟨some 4, .mov (.t 54), none⟩])
                            (.ret))
                          (.skip)))
                      (.seq (.ops [⟨some 55, .call 11 [], none⟩, ⟨some 4, .mov (.t 55), none⟩]) (.ret)))))))⟩
theorem c6 : cFunc Tryd.prog Tryd.f6 = some sf6 := by kernel_rfl

/-- wharfage/name.Runes -/
def sf7 : SFunc := ⟨8,
  [.tmp 2, .tmp 3],
  .seq
            (.ops [⟨some 2, .mov (.c (.int (.i64) 0)), none⟩, ⟨some 3, .mov (.c (.bool false)), none⟩])
            (.seq
              (.ops
                [⟨some 4, .mov (.t 0), none⟩,
                 ⟨some 5, .call 19 [.t 4, .c (.func 20 [] [])], none⟩,
                 ⟨some 6, .extract (.t 5) 0, none⟩,
                 ⟨some 7, .extract (.t 5) 1, none⟩,
                 ⟨some 2, .mov (.t 6), none⟩,
                 ⟨some 3, .mov (.t 7), none⟩])
              (.ret))⟩
theorem c7 : cFunc Tryd.prog Tryd.f7 = some sf7 := by kernel_rfl

/-- wharfage/wharfageref02.Runes -/
def sf8 : SFunc := ⟨26,
  [.tmp 2, .tmp 3],
  .seq
            (.ops [⟨some 2, .mov (.c (.int (.i64) 0)), none⟩, ⟨some 3, .mov (.c (.bool false)), none⟩])
            (.seq
              (.ops [⟨some 4, .mov (.c (.int (.i64) 0)), none⟩])
              (.seq
                (.seq
                  (.ops [⟨some 5, .mov (.c (.int (.i64) 0)), none⟩])
                  (.block
                    0
                    (.loop
                      (.seq
                        (.seq
                          (.ops
                            [⟨some 8, .mov (.t 5), none⟩,
                             ⟨some 9, .mov (.t 0), none⟩,
                             ⟨some 10, .len (.str) (.t 9), none⟩,
                             ⟨some 11, .bin (.lss) (.other) (.t 8) (.t 10), none⟩])
                          (.cond (.t 11) (.skip) (.exit 0)))
                        (.seq
                          (.block
                            1
                            (.seq
                              (.ops
                                [⟨some 15, .mov (.t 0), none⟩,
                                 ⟨some 16, .mov (.t 5), none⟩,
                                 ⟨some 17, .call 21 [.t 15, .t 16], none⟩,
                                 ⟨some 14, .mov (.t 17), none⟩,
                                 ⟨some 18, .extract (.t 14) 0, none⟩,
                                 ⟨some 19, .extract (.t 14) 1, none⟩,
                                 ⟨some 6, .mov (.t 18), none⟩,
                                 ⟨some 7, .mov (.t 19), none⟩])
                              (.seq
                                (.seq
                                  (.ops
                                    [⟨some 20, .mov (.t 7), none⟩,
                                     ⟨some 21, .bin (.eql) (.other) (.t 20) (.c (.int (.i64) 0)), none⟩])
                                  (.cond
                                    (.t 21)
                                    (.seq
                                      (.ops
                                        [⟨some 2, .mov (.c (.int (.i64) 0)), none⟩, ⟨some 3, .mov (.c (.bool false)), none⟩])
                                      (.ret))
                                    (.skip)))
                                (.ops
                                  [⟨some 22, .mov (.t 5), none⟩,
                                   ⟨some 23, .mov (.t 7), none⟩,
                                   ⟨some 24, .bin (.add) (.other) (.t 22) (.t 23), none⟩,
                                   ⟨some 5, .mov (.t 24), none⟩]))))
                          (.ops
                            [⟨some 12, .mov (.t 4), none⟩,
                             ⟨some 13, .bin (.add) (.other) (.t 12) (.c (.int (.i64) 1)), none⟩,
                             ⟨some 4, .mov (.t 13), none⟩]))))))
                (.seq
                  (.ops
                    [⟨some 25, .mov (.t 4), none⟩,
                     ⟨some 2, .mov (.t 25), none⟩,
                     ⟨some 3, .mov (.c (.bool true)), none⟩])
                  (.ret))))⟩
theorem c8 : cFunc Tryd.prog Tryd.f8 = some sf8 := by kernel_rfl

/-- wharfage/name.Is -/
def sf9 : SFunc := ⟨26,
  [.tmp 2],
  .seq
            (.ops [⟨some 2, .mov (.c (.bool false)), none⟩])
            (.seq
              (.seq
                (.ops
                  [⟨some 5, .mov (.t 0), none⟩,
                   ⟨some 6, .bin (.eql) (.str) (.t 5) (.c (.str [])), none⟩,
                   ⟨some 7, .mov (.t 6), none⟩,
                   ⟨some 8, .mov (.t 0), some (7, false)⟩,
                   ⟨some 9, .len (.str) (.t 8), some (7, false)⟩,
                   ⟨some 10, .bin (.gtr) (.other) (.t 9) (.c (.int (.i64) 32)), some (7, false)⟩,
                   ⟨some 11, .pick (.t 7) (.c (.bool true)) (.t 10), none⟩,
                   ⟨some 12, .mov (.t 11), none⟩,
                   ⟨some 13, .mov (.t 0), some (12, false)⟩,
                   ⟨some 14, .bin (.eql) (.str) (.t 13) (.c (.str [46])), some (12, false)⟩,
                   ⟨some 15, .pick (.t 12) (.c (.bool true)) (.t 14), none⟩,
                   ⟨some 16, .mov (.t 15), none⟩,
                   ⟨some 17, .mov (.t 0), some (16, false)⟩,
                   ⟨some 18, .bin (.eql) (.str) (.t 17) (.c (.str [46, 46])), some (16, false)⟩,
                   ⟨some 19, .pick (.t 16) (.c (.bool true)) (.t 18), none⟩])
                (.cond (.t 19) (.seq (.ops [⟨some 2, .mov (.c (.bool false)), none⟩]) (.ret)) (.skip)))
              (.seq
                (.ops
                  [⟨some 21, .mov (.t 0), none⟩,
                   ⟨some 22, .call 19 [.t 21, .c (.func 22 [] [])], none⟩,
                   ⟨some 20, .mov (.t 22), none⟩,
                   ⟨some 23, .extract (.t 20) 0, none⟩,
                   ⟨some 24, .extract (.t 20) 1, none⟩,
                   ⟨some 3, .mov (.t 23), none⟩,
                   ⟨some 4, .mov (.t 24), none⟩])
                (.seq (.ops [⟨some 25, .mov (.t 4), none⟩, ⟨some 2, .mov (.t 25), none⟩]) (.ret))))⟩
theorem c9 : cFunc Tryd.prog Tryd.f9 = some sf9 := by kernel_rfl

/-- wharfage/wharfageref02.Is -/
def sf10 : SFunc := ⟨50,
  [.tmp 2],
  .seq
            (.ops [⟨some 2, .mov (.c (.bool false)), none⟩])
            (.seq
              (.seq
                (.ops
                  [⟨some 6, .mov (.t 0), none⟩,
                   ⟨some 7, .len (.str) (.t 6), none⟩,
                   ⟨some 8, .bin (.lss) (.other) (.t 7) (.c (.int (.i64) 1)), none⟩,
                   ⟨some 9, .mov (.t 8), none⟩,
                   ⟨some 10, .mov (.t 0), some (9, false)⟩,
                   ⟨some 11, .len (.str) (.t 10), some (9, false)⟩,
                   ⟨some 12, .bin (.gtr) (.other) (.t 11) (.c (.int (.i64) 32)), some (9, false)⟩,
                   ⟨some 13, .pick (.t 9) (.c (.bool true)) (.t 12), none⟩,
                   ⟨some 14, .mov (.t 13), none⟩,
                   ⟨some 15, .mov (.t 0), some (14, false)⟩,
                   ⟨some 16, .bin (.eql) (.str) (.t 15) (.c (.str [46])), some (14, false)⟩,
                   ⟨some 17, .pick (.t 14) (.c (.bool true)) (.t 16), none⟩,
                   ⟨some 18, .mov (.t 17), none⟩,
                   ⟨some 19, .mov (.t 0), some (18, false)⟩,
                   ⟨some 20, .bin (.eql) (.str) (.t 19) (.c (.str [46, 46])), some (18, false)⟩,
                   ⟨some 21, .pick (.t 18) (.c (.bool true)) (.t 20), none⟩])
                (.cond (.t 21) (.seq (.ops [⟨some 2, .mov (.c (.bool false)), none⟩]) (.ret)) (.skip)))
              (.seq
                (.seq
                  (.ops [⟨some 3, .mov (.c (.int (.i64) 0)), none⟩])
                  (.block
                    0
                    (.loop
                      (.seq
                        (.seq
                          (.ops
                            [⟨some 22, .mov (.t 3), none⟩,
                             ⟨some 23, .mov (.t 0), none⟩,
                             ⟨some 24, .len (.str) (.t 23), none⟩,
                             ⟨some 25, .bin (.lss) (.other) (.t 22) (.t 24), none⟩])
                          (.cond (.t 25) (.skip) (.exit 0)))
                        (.seq
                          (.block
                            1
                            (.seq
                              (.ops
                                [⟨some 28, .mov (.t 0), none⟩,
                                 ⟨some 29, .mov (.t 3), none⟩,
                                 ⟨some 30, .idxStr (.t 28) (.t 29), none⟩,
                                 ⟨some 31, .bin (.lss) (.other) (.t 30) (.c (.int (.u8) 32)), none⟩,
                                 ⟨some 32, .mov (.t 31), none⟩,
                                 ⟨some 33, .mov (.t 0), some (32, false)⟩,
                                 ⟨some 34, .mov (.t 3), some (32, false)⟩,
                                 ⟨some 35, .idxStr (.t 33) (.t 34), some (32, false)⟩,
                                 ⟨some 36, .bin (.eql) (.other) (.t 35) (.c (.int (.u8) 127)), some (32, false)⟩,
                                 ⟨some 37, .pick (.t 32) (.c (.bool true)) (.t 36), none⟩,
                                 ⟨some 38, .mov (.t 37), none⟩,
                                 ⟨some 39, .mov (.t 0), some (38, false)⟩,
                                 ⟨some 40, .mov (.t 3), some (38, false)⟩,
                                 ⟨some 41, .idxStr (.t 39) (.t 40), some (38, false)⟩,
                                 ⟨some 42, .bin (.eql) (.other) (.t 41) (.c (.int (.u8) 47)), some (38, false)⟩,
                                 ⟨some 43, .pick (.t 38) (.c (.bool true)) (.t 42), none⟩])
                              (.cond (.t 43) (.seq (.ops [⟨some 2, .mov (.c (.bool false)), none⟩]) (.ret)) (.skip))))
                          (.ops
                            [⟨some 26, .mov (.t 3), none⟩,
                             ⟨some 27, .bin (.add) (.other) (.t 26) (.c (.int (.i64) 1)), none⟩,
                             ⟨some 3, .mov (.t 27), none⟩]))))))
                (.seq
                  (.ops
                    [⟨some 45, .mov (.t 0), none⟩,
                     ⟨some 46, .call 8 [.t 45], none⟩,
                     ⟨some 44, .mov (.t 46), none⟩,
                     ⟨some 47, .extract (.t 44) 0, none⟩,
                     ⟨some 48, .extract (.t 44) 1, none⟩,
                     ⟨some 4, .mov (.t 47), none⟩,
                     ⟨some 5, .mov (.t 48), none⟩])
                  (.seq (.ops [⟨some 49, .mov (.t 5), none⟩, ⟨some 2, .mov (.t 49), none⟩]) (.ret)))))⟩
theorem c10 : cFunc Tryd.prog Tryd.f10 = some sf10 := by kernel_rfl

/-- wharfage/wharfagelaw02.lives -/
def sf11 : SFunc := ⟨99,
  [.tmp 0],
  .seq
            (.ops [⟨some 0, .mov (.c (.bool false)), none⟩])
            (.seq
              (.ops
                [⟨some 12,
                   .buildSlice
                           [.int (.u8) 0, .int (.u8) 0, .int (.u8) 0]
                           3
                           1
                           [(0, 1, .c (.int (.u8) 195)), (1, 1, .c (.int (.u8) 169)), (2, 1, .c (.int (.u8) 97))],
                   none⟩,
                 ⟨some 13, .call 23 [.t 12], none⟩,
                 ⟨some 14, .call 7 [.t 13], none⟩,
                 ⟨some 11, .mov (.t 14), none⟩,
                 ⟨some 15, .extract (.t 11) 0, none⟩,
                 ⟨some 16, .extract (.t 11) 1, none⟩,
                 ⟨some 1, .mov (.t 15), none⟩,
                 ⟨some 2, .mov (.t 16), none⟩])
              (.seq
                (.ops
                  [⟨some 18, .call 12 [.c (.str [97, 47, 98])], none⟩,
                   ⟨some 17, .mov (.t 18), none⟩,
                   ⟨some 19, .extract (.t 17) 0, none⟩,
                   ⟨some 20, .extract (.t 17) 1, none⟩,
                   ⟨some 3, .mov (.t 19), none⟩,
                   ⟨some 4, .mov (.t 20), none⟩])
                (.seq
                  (.ops
                    [⟨some 22, .call 12 [.c (.str [])], none⟩,
                     ⟨some 21, .mov (.t 22), none⟩,
                     ⟨some 23, .extract (.t 21) 0, none⟩,
                     ⟨some 24, .extract (.t 21) 1, none⟩,
                     ⟨some 5, .mov (.t 23), none⟩,
                     ⟨some 6, .mov (.t 24), none⟩])
                  (.seq
                    (.ops
                      [⟨some 26, .call 12 [.c (.str [97, 47, 47, 98])], none⟩,
                       ⟨some 25, .mov (.t 26), none⟩,
                       ⟨some 27, .extract (.t 25) 0, none⟩,
                       ⟨some 28, .extract (.t 25) 1, none⟩,
                       ⟨some 7, .mov (.t 27), none⟩,
                       ⟨some 8, .mov (.t 28), none⟩])
                    (.seq
                      (.ops
                        [⟨some 30, .buildSlice [.str [], .str []] 2 1 [(0, 1, .c (.str [97])), (1, 1, .c (.str [98]))], none⟩,
                         ⟨some 31, .call 14 [.t 30], none⟩,
                         ⟨some 29, .mov (.t 31), none⟩,
                         ⟨some 32, .extract (.t 29) 0, none⟩,
                         ⟨some 33, .extract (.t 29) 1, none⟩,
                         ⟨some 9, .mov (.t 32), none⟩,
                         ⟨some 10, .mov (.t 33), none⟩])
                      (.seq
                        (.seq
                          (.ops
                            [⟨some 34, .call 9 [.c (.str [97])], none⟩,
                             ⟨some 35, .un (.not) (.t 34), none⟩,
                             ⟨some 36, .mov (.t 35), none⟩,
                             ⟨some 37, .call 9 [.c (.str [46, 46])], some (36, false)⟩,
                             ⟨some 38, .pick (.t 36) (.c (.bool true)) (.t 37), none⟩,
                             ⟨some 39, .mov (.t 38), none⟩,
                             ⟨some 40, .call 9 [.c (.str [97, 47, 98])], some (39, false)⟩,
                             ⟨some 41, .pick (.t 39) (.c (.bool true)) (.t 40), none⟩,
                             ⟨some 42, .mov (.t 41), none⟩,
                             ⟨some 43,
                               .buildSlice [.int (.u8) 0, .int (.u8) 0] 2 1 [(0, 1, .c (.int (.u8) 195)), (1, 1, .c (.int (.u8) 169))],
                               some (42, false)⟩,
                             ⟨some 44, .call 23 [.t 43], some (42, false)⟩,
                             ⟨some 45, .call 9 [.t 44], some (42, false)⟩,
                             ⟨some 46, .un (.not) (.t 45), some (42, false)⟩,
                             ⟨some 47, .pick (.t 42) (.c (.bool true)) (.t 46), none⟩,
                             ⟨some 48, .mov (.t 47), none⟩,
                             ⟨some 49, .buildSlice [.int (.u8) 0] 1 1 [(0, 1, .c (.int (.u8) 255))], some (48, false)⟩,
                             ⟨some 50, .call 23 [.t 49], some (48, false)⟩,
                             ⟨some 51, .call 9 [.t 50], some (48, false)⟩,
                             ⟨some 52, .pick (.t 48) (.c (.bool true)) (.t 51), none⟩,
                             ⟨some 53, .mov (.t 52), none⟩,
                             ⟨some 54,
                               .buildSlice
                                       [.int (.u8) 0, .int (.u8) 0, .int (.u8) 0]
                                       3
                                       1
                                       [(0, 1, .c (.int (.u8) 239)), (1, 1, .c (.int (.u8) 191)), (2, 1, .c (.int (.u8) 189))],
                               some (53, false)⟩,
                             ⟨some 55, .call 23 [.t 54], some (53, false)⟩,
                             ⟨some 56, .call 9 [.t 55], some (53, false)⟩,
                             ⟨some 57, .un (.not) (.t 56), some (53, false)⟩,
                             ⟨some 58, .pick (.t 53) (.c (.bool true)) (.t 57), none⟩])
                          (.cond (.t 58) (.seq (.ops [⟨some 0, .mov (.c (.bool false)), none⟩]) (.ret)) (.skip)))
                        (.seq
                          (.ops
                            [⟨some 59, .mov (.t 1), none⟩,
                             ⟨some 60, .bin (.eql) (.other) (.t 59) (.c (.int (.i64) 2)), none⟩,
                             ⟨some 61, .mov (.t 60), none⟩,
                             ⟨some 62, .mov (.t 2), some (61, true)⟩,
                             ⟨some 63, .pick (.t 61) (.t 62) (.c (.bool false)), none⟩,
                             ⟨some 64, .mov (.t 63), none⟩,
                             ⟨some 65, .mov (.t 3), some (64, true)⟩,
                             ⟨some 66, .buildSlice [.str [], .str []] 2 1 [(0, 1, .c (.str [97])), (1, 1, .c (.str [98]))], some (64, true)⟩,
                             ⟨some 67, .call 16 [.t 65, .t 66], some (64, true)⟩,
                             ⟨some 68, .pick (.t 64) (.t 67) (.c (.bool false)), none⟩,
                             ⟨some 69, .mov (.t 68), none⟩,
                             ⟨some 70, .mov (.t 4), some (69, true)⟩,
                             ⟨some 71, .bin (.eql) (.other) (.t 70) (.c (.int (.i64) 0)), some (69, true)⟩,
                             ⟨some 72, .pick (.t 69) (.t 71) (.c (.bool false)), none⟩,
                             ⟨some 73, .mov (.t 72), none⟩,
                             ⟨some 74, .mov (.t 5), some (73, true)⟩,
                             ⟨some 75, .len (.sl) (.t 74), some (73, true)⟩,
                             ⟨some 76, .bin (.eql) (.other) (.t 75) (.c (.int (.i64) 0)), some (73, true)⟩,
                             ⟨some 77, .pick (.t 73) (.t 76) (.c (.bool false)), none⟩,
                             ⟨some 78, .mov (.t 77), none⟩,
                             ⟨some 79, .mov (.t 6), some (78, true)⟩,
                             ⟨some 80, .bin (.eql) (.other) (.t 79) (.c (.int (.i64) 0)), some (78, true)⟩,
                             ⟨some 81, .pick (.t 78) (.t 80) (.c (.bool false)), none⟩,
                             ⟨some 82, .mov (.t 81), none⟩,
                             ⟨some 83, .mov (.t 8), some (82, true)⟩,
                             ⟨some 84, .bin (.eql) (.other) (.t 83) (.c (.int (.i64) 5)), some (82, true)⟩,
                             ⟨some 85, .pick (.t 82) (.t 84) (.c (.bool false)), none⟩,
                             ⟨some 86, .mov (.t 85), none⟩,
                             ⟨some 87, .mov (.t 9), some (86, true)⟩,
                             ⟨some 88, .bin (.eql) (.str) (.t 87) (.c (.str [97, 47, 98])), some (86, true)⟩,
                             ⟨some 89, .pick (.t 86) (.t 88) (.c (.bool false)), none⟩,
                             ⟨some 90, .mov (.t 89), none⟩,
                             ⟨some 91, .mov (.t 10), some (90, true)⟩,
                             ⟨some 92, .bin (.eql) (.other) (.t 91) (.c (.int (.i64) 0)), some (90, true)⟩,
                             ⟨some 93, .pick (.t 90) (.t 92) (.c (.bool false)), none⟩,
                             ⟨some 94, .mov (.t 93), none⟩,
                             ⟨some 95, .buildSlice [.str []] 1 1 [(0, 1, .c (.str [46, 46]))], some (94, true)⟩,
                             ⟨some 96, .call 17 [.t 95], some (94, true)⟩,
                             ⟨some 97, .un (.not) (.t 96), some (94, true)⟩,
                             ⟨some 98, .pick (.t 94) (.t 97) (.c (.bool false)), none⟩,
                             ⟨some 0, .mov (.t 98), none⟩])
                          (.ret))))))))⟩
theorem c11 : cFunc Tryd.prog Tryd.f11 = some sf11 := by kernel_rfl

/-- wharfage/name.Path -/
def sf12 : SFunc := ⟨18,
  [.tmp 2, .tmp 3],
  .seq
            (.ops [⟨some 2, .mov (.c (.nilsl)), none⟩, ⟨some 3, .mov (.c (.int (.i64) 0)), none⟩])
            (.seq
              (.seq
                (.ops [⟨some 5, .mov (.t 0), none⟩, ⟨some 6, .bin (.eql) (.str) (.t 5) (.c (.str [])), none⟩])
                (.cond
                  (.t 6)
                  (.seq
                    (.ops [⟨some 2, .mov (.c (.nilsl)), none⟩, ⟨some 3, .mov (.c (.int (.i64) 0)), none⟩])
                    (.ret))
                  (.skip)))
              (.seq
                (.ops
                  [⟨some 7, .mov (.t 0), none⟩,
                   ⟨some 8, .call 24 [.t 7, .c (.str [47])], none⟩,
                   ⟨some 4, .mov (.t 8), none⟩])
                (.seq
                  (.block
                    0
                    (.seq
                      (.ops
                        [⟨some 10, .mov (.t 4), none⟩,
                         ⟨some 11, .call 25 [.t 10], none⟩,
                         ⟨some 12, .un (.not) (.t 11), none⟩,
                         ⟨some 9, .mov (.t 12), none⟩])
                      (.cond
                        (.t 9)
                        (.seq
                          (.ops [⟨some 2, .mov (.c (.nilsl)), none⟩, ⟨some 3, .mov (.c (.int (.i64) 5)), none⟩])
                          (.ret))
                        (.seq
                          (.ops
                            [⟨some 14, .mov (.t 4), none⟩,
                             ⟨some 15, .len (.sl) (.t 14), none⟩,
                             ⟨some 16, .bin (.gtr) (.other) (.t 15) (.c (.int (.i64) 4)), none⟩,
                             ⟨some 13, .mov (.t 16), none⟩])
                          (.cond
                            (.t 13)
                            (.seq
                              (.ops [⟨some 2, .mov (.c (.nilsl)), none⟩, ⟨some 3, .mov (.c (.int (.i64) 3)), none⟩])
                              (.ret))
                            (.skip))))))
                  (.seq
                    (.ops
                      [⟨some 17, .mov (.t 4), none⟩,
                       ⟨some 2, .mov (.t 17), none⟩,
                       ⟨some 3, .mov (.c (.int (.i64) 0)), none⟩])
                    (.ret)))))⟩
theorem c12 : cFunc Tryd.prog Tryd.f12 = some sf12 := by kernel_rfl

/-- wharfage/wharfageref02.Path -/
def sf13 : SFunc := ⟨24,
  [.tmp 2, .tmp 3],
  .seq
            (.ops [⟨some 2, .mov (.c (.nilsl)), none⟩, ⟨some 3, .mov (.c (.int (.i64) 0)), none⟩])
            (.seq
              (.ops
                [⟨some 6, .mov (.t 0), none⟩, ⟨some 7, .call 26 [.t 6], none⟩, ⟨some 4, .mov (.t 7), none⟩])
              (.seq
                (.seq
                  (.ops [⟨some 5, .mov (.c (.int (.i64) 0)), none⟩])
                  (.block
                    0
                    (.loop
                      (.seq
                        (.seq
                          (.ops
                            [⟨some 8, .mov (.t 5), none⟩,
                             ⟨some 9, .mov (.t 4), none⟩,
                             ⟨some 10, .len (.sl) (.t 9), none⟩,
                             ⟨some 11, .bin (.lss) (.other) (.t 8) (.t 10), none⟩])
                          (.cond (.t 11) (.skip) (.exit 0)))
                        (.seq
                          (.block
                            1
                            (.seq
                              (.ops
                                [⟨some 14, .mov (.t 4), none⟩,
                                 ⟨some 15, .mov (.t 5), none⟩,
                                 ⟨some 16, .idxAddrSl 1 (.t 14) (.t 15), none⟩,
                                 ⟨some 17, .load false 1 (.t 16), none⟩,
                                 ⟨some 18, .call 10 [.t 17], none⟩,
                                 ⟨some 19, .un (.not) (.t 18), none⟩])
                              (.cond
                                (.t 19)
                                (.seq
                                  (.ops [⟨some 2, .mov (.c (.nilsl)), none⟩, ⟨some 3, .mov (.c (.int (.i64) 5)), none⟩])
                                  (.ret))
                                (.skip))))
                          (.ops
                            [⟨some 12, .mov (.t 5), none⟩,
                             ⟨some 13, .bin (.add) (.other) (.t 12) (.c (.int (.i64) 1)), none⟩,
                             ⟨some 5, .mov (.t 13), none⟩]))))))
                (.seq
                  (.seq
                    (.ops
                      [⟨some 20, .mov (.t 4), none⟩,
                       ⟨some 21, .len (.sl) (.t 20), none⟩,
                       ⟨some 22, .bin (.gtr) (.other) (.t 21) (.c (.int (.i64) 4)), none⟩])
                    (.cond
                      (.t 22)
                      (.seq
                        (.ops [⟨some 2, .mov (.c (.nilsl)), none⟩, ⟨some 3, .mov (.c (.int (.i64) 3)), none⟩])
                        (.ret))
                      (.skip)))
                  (.seq
                    (.ops
                      [⟨some 23, .mov (.t 4), none⟩,
                       ⟨some 2, .mov (.t 23), none⟩,
                       ⟨some 3, .mov (.c (.int (.i64) 0)), none⟩])
                    (.ret)))))⟩
theorem c13 : cFunc Tryd.prog Tryd.f13 = some sf13 := by kernel_rfl

/-- wharfage/name.Write -/
def sf14 : SFunc := ⟨9,
  [.tmp 2, .tmp 3],
  .seq
            (.ops [⟨some 2, .mov (.c (.str [])), none⟩, ⟨some 3, .mov (.c (.int (.i64) 0)), none⟩])
            (.seq
              (.seq
                (.ops
                  [⟨some 4, .mov (.t 0), none⟩,
                   ⟨some 5, .call 17 [.t 4], none⟩,
                   ⟨some 6, .un (.not) (.t 5), none⟩])
                (.cond
                  (.t 6)
                  (.seq
                    (.ops [⟨some 2, .mov (.c (.str [])), none⟩, ⟨some 3, .mov (.c (.int (.i64) 2)), none⟩])
                    (.ret))
                  (.skip)))
              (.seq
                (.ops
                  [⟨some 7, .mov (.t 0), none⟩,
                   ⟨some 8, .call 27 [.t 7, .c (.str [47])], none⟩,
                   ⟨some 2, .mov (.t 8), none⟩,
                   ⟨some 3, .mov (.c (.int (.i64) 0)), none⟩])
                (.ret)))⟩
theorem c14 : cFunc Tryd.prog Tryd.f14 = some sf14 := by kernel_rfl

/-- wharfage/wharfageref02.Write -/
def sf15 : SFunc := ⟨26,
  [.tmp 2, .tmp 3],
  .seq
            (.ops [⟨some 2, .mov (.c (.str [])), none⟩, ⟨some 3, .mov (.c (.int (.i64) 0)), none⟩])
            (.seq
              (.seq
                (.ops
                  [⟨some 6, .mov (.t 0), none⟩,
                   ⟨some 7, .call 18 [.t 6], none⟩,
                   ⟨some 8, .un (.not) (.t 7), none⟩])
                (.cond
                  (.t 8)
                  (.seq
                    (.ops [⟨some 2, .mov (.c (.str [])), none⟩, ⟨some 3, .mov (.c (.int (.i64) 2)), none⟩])
                    (.ret))
                  (.skip)))
              (.seq
                (.ops [⟨some 4, .mov (.c (.str [])), none⟩])
                (.seq
                  (.seq
                    (.ops [⟨some 5, .mov (.c (.int (.i64) 0)), none⟩])
                    (.block
                      0
                      (.loop
                        (.seq
                          (.seq
                            (.ops
                              [⟨some 9, .mov (.t 5), none⟩,
                               ⟨some 10, .mov (.t 0), none⟩,
                               ⟨some 11, .len (.sl) (.t 10), none⟩,
                               ⟨some 12, .bin (.lss) (.other) (.t 9) (.t 11), none⟩])
                            (.cond (.t 12) (.skip) (.exit 0)))
                          (.seq
                            (.block
                              1
                              (.seq
                                (.seq
                                  (.ops
                                    [⟨some 15, .mov (.t 5), none⟩,
                                     ⟨some 16, .bin (.gtr) (.other) (.t 15) (.c (.int (.i64) 0)), none⟩])
                                  (.cond
                                    (.t 16)
                                    (.ops
                                      [⟨some 17, .mov (.t 4), none⟩,
                                       ⟨some 18, .bin (.add) (.str) (.t 17) (.c (.str [47])), none⟩,
                                       ⟨some 4, .mov (.t 18), none⟩])
                                    (.skip)))
                                (.ops
                                  [⟨some 19, .mov (.t 4), none⟩,
                                   ⟨some 20, .mov (.t 0), none⟩,
                                   ⟨some 21, .mov (.t 5), none⟩,
                                   ⟨some 22, .idxAddrSl 1 (.t 20) (.t 21), none⟩,
                                   ⟨some 23, .load false 1 (.t 22), none⟩,
                                   ⟨some 24, .bin (.add) (.str) (.t 19) (.t 23), none⟩,
                                   ⟨some 4, .mov (.t 24), none⟩])))
                            (.ops
                              [⟨some 13, .mov (.t 5), none⟩,
                               ⟨some 14, .bin (.add) (.other) (.t 13) (.c (.int (.i64) 1)), none⟩,
                               ⟨some 5, .mov (.t 14), none⟩]))))))
                  (.seq
                    (.ops
                      [⟨some 25, .mov (.t 4), none⟩,
                       ⟨some 2, .mov (.t 25), none⟩,
                       ⟨some 3, .mov (.c (.int (.i64) 0)), none⟩])
                    (.ret)))))⟩
theorem c15 : cFunc Tryd.prog Tryd.f15 = some sf15 := by kernel_rfl

/-- wharfage/wharfageref00.Texts -/
def sf16 : SFunc := ⟨26,
  [.tmp 4],
  .seq
            (.ops [⟨some 4, .mov (.c (.bool false)), none⟩])
            (.seq
              (.seq
                (.ops
                  [⟨some 6, .mov (.t 0), none⟩,
                   ⟨some 7, .len (.sl) (.t 6), none⟩,
                   ⟨some 8, .mov (.t 1), none⟩,
                   ⟨some 9, .len (.sl) (.t 8), none⟩,
                   ⟨some 10, .bin (.neq) (.other) (.t 7) (.t 9), none⟩])
                (.cond (.t 10) (.seq (.ops [⟨some 4, .mov (.c (.bool false)), none⟩]) (.ret)) (.skip)))
              (.seq
                (.seq
                  (.ops [⟨some 5, .mov (.c (.int (.i64) 0)), none⟩])
                  (.block
                    0
                    (.loop
                      (.seq
                        (.seq
                          (.ops
                            [⟨some 11, .mov (.t 5), none⟩,
                             ⟨some 12, .mov (.t 0), none⟩,
                             ⟨some 13, .len (.sl) (.t 12), none⟩,
                             ⟨some 14, .bin (.lss) (.other) (.t 11) (.t 13), none⟩])
                          (.cond (.t 14) (.skip) (.exit 0)))
                        (.seq
                          (.block
                            1
                            (.seq
                              (.ops
                                [⟨some 17, .mov (.t 0), none⟩,
                                 ⟨some 18, .mov (.t 5), none⟩,
                                 ⟨some 19, .idxAddrSl 1 (.t 17) (.t 18), none⟩,
                                 ⟨some 20, .load false 1 (.t 19), none⟩,
                                 ⟨some 21, .mov (.t 1), none⟩,
                                 ⟨some 22, .mov (.t 5), none⟩,
                                 ⟨some 23, .idxAddrSl 1 (.t 21) (.t 22), none⟩,
                                 ⟨some 24, .load false 1 (.t 23), none⟩,
                                 ⟨some 25, .bin (.neq) (.str) (.t 20) (.t 24), none⟩])
                              (.cond (.t 25) (.seq (.ops [⟨some 4, .mov (.c (.bool false)), none⟩]) (.ret)) (.skip))))
                          (.ops
                            [⟨some 15, .mov (.t 5), none⟩,
                             ⟨some 16, .bin (.add) (.other) (.t 15) (.c (.int (.i64) 1)), none⟩,
                             ⟨some 5, .mov (.t 16), none⟩]))))))
                (.seq (.ops [⟨some 4, .mov (.c (.bool true)), none⟩]) (.ret))))⟩
theorem c16 : cFunc Tryd.prog Tryd.f16 = some sf16 := by kernel_rfl

/-- wharfage/name.May -/
def sf17 : SFunc := ⟨10,
  [.tmp 2],
  .seq
            (.ops [⟨some 2, .mov (.c (.bool false)), none⟩])
            (.seq
              (.ops
                [⟨some 3, .mov (.t 0), none⟩,
                 ⟨some 4, .len (.sl) (.t 3), none⟩,
                 ⟨some 5, .bin (.leq) (.other) (.t 4) (.c (.int (.i64) 4)), none⟩,
                 ⟨some 6, .mov (.t 5), none⟩,
                 ⟨some 7, .mov (.t 0), some (6, true)⟩,
                 ⟨some 8, .call 25 [.t 7], some (6, true)⟩,
                 ⟨some 9, .pick (.t 6) (.t 8) (.c (.bool false)), none⟩,
                 ⟨some 2, .mov (.t 9), none⟩])
              (.ret))⟩
theorem c17 : cFunc Tryd.prog Tryd.f17 = some sf17 := by kernel_rfl

/-- wharfage/wharfageref02.May -/
def sf18 : SFunc := ⟨19,
  [.tmp 2],
  .seq
            (.ops [⟨some 2, .mov (.c (.bool false)), none⟩])
            (.seq
              (.seq
                (.ops [⟨some 3, .mov (.c (.int (.i64) 0)), none⟩])
                (.block
                  0
                  (.loop
                    (.seq
                      (.seq
                        (.ops
                          [⟨some 4, .mov (.t 3), none⟩,
                           ⟨some 5, .mov (.t 0), none⟩,
                           ⟨some 6, .len (.sl) (.t 5), none⟩,
                           ⟨some 7, .bin (.lss) (.other) (.t 4) (.t 6), none⟩])
                        (.cond (.t 7) (.skip) (.exit 0)))
                      (.seq
                        (.block
                          1
                          (.seq
                            (.ops
                              [⟨some 10, .mov (.t 0), none⟩,
                               ⟨some 11, .mov (.t 3), none⟩,
                               ⟨some 12, .idxAddrSl 1 (.t 10) (.t 11), none⟩,
                               ⟨some 13, .load false 1 (.t 12), none⟩,
                               ⟨some 14, .call 10 [.t 13], none⟩,
                               ⟨some 15, .un (.not) (.t 14), none⟩])
                            (.cond (.t 15) (.seq (.ops [⟨some 2, .mov (.c (.bool false)), none⟩]) (.ret)) (.skip))))
                        (.ops
                          [⟨some 8, .mov (.t 3), none⟩,
                           ⟨some 9, .bin (.add) (.other) (.t 8) (.c (.int (.i64) 1)), none⟩,
                           ⟨some 3, .mov (.t 9), none⟩]))))))
              (.seq
                (.ops
                  [⟨some 16, .mov (.t 0), none⟩,
                   ⟨some 17, .len (.sl) (.t 16), none⟩,
                   ⟨some 18, .bin (.leq) (.other) (.t 17) (.c (.int (.i64) 4)), none⟩,
                   ⟨some 2, .mov (.t 18), none⟩])
                (.ret)))⟩
theorem c18 : cFunc Tryd.prog Tryd.f18 = some sf18 := by kernel_rfl

/-- wharfage/name.runes -/
def sf19 : SFunc := ⟨34,
  [.tmp 4, .tmp 5],
  .seq
            (.ops [⟨some 4, .mov (.c (.int (.i64) 0)), none⟩, ⟨some 5, .mov (.c (.bool false)), none⟩])
            (.seq
              (.seq
                (.ops [⟨some 10, .mov (.t 0), none⟩, ⟨some 11, .rangeStr (.t 10), none⟩])
                (.block
                  0
                  (.loop
                    (.seq
                      (.ops [⟨some 12, .nextStr (.t 11), none⟩, ⟨some 13, .extract (.t 12) 0, none⟩])
                      (.seq
                        (.cond (.t 13) (.skip) (.exit 0))
                        (.block
                          1
                          (.seq
                            (.ops
                              [⟨some 14, .extract (.t 12) 1, none⟩,
                               ⟨some 15, .extract (.t 12) 2, none⟩,
                               ⟨some 6, .mov (.t 14), none⟩,
                               ⟨some 7, .mov (.t 15), none⟩])
                            (.seq
                              (.seq
                                (.ops
                                  [⟨some 16, .mov (.t 7), none⟩,
                                   ⟨some 17, .bin (.eql) (.other) (.t 16) (.c (.int (.i32) 65533)), none⟩])
                                (.cond
                                  (.t 17)
                                  (.seq
                                    (.ops
                                      [⟨some 19, .mov (.t 0), none⟩,
                                       ⟨some 20, .mov (.t 6), none⟩,
                                       ⟨some 21, .sliceStr (.t 19) (some (.t 20)) none, none⟩,
                                       ⟨some 22, .call 28 [.t 21], none⟩,
                                       ⟨some 18, .mov (.t 22), none⟩,
                                       ⟨some 23, .extract (.t 18) 0, none⟩,
                                       ⟨some 24, .extract (.t 18) 1, none⟩,
                                       ⟨some 8, .mov (.t 23), none⟩,
                                       ⟨some 9, .mov (.t 24), none⟩])
                                    (.seq
                                      (.ops
                                        [⟨some 25, .mov (.t 9), none⟩,
                                         ⟨some 26, .bin (.lss) (.other) (.t 25) (.c (.int (.i64) 2)), none⟩])
                                      (.cond
                                        (.t 26)
                                        (.seq
                                          (.ops
                                            [⟨some 4, .mov (.c (.int (.i64) 0)), none⟩, ⟨some 5, .mov (.c (.bool false)), none⟩])
                                          (.ret))
                                        (.skip))))
                                  (.skip)))
                              (.seq
                                (.seq
                                  (.ops
                                    [⟨some 27, .mov (.t 1), none⟩,
                                     ⟨some 28, .mov (.t 7), none⟩,
                                     ⟨some 29, .callV (.t 27) [.t 28], none⟩,
                                     ⟨some 30, .un (.not) (.t 29), none⟩])
                                  (.cond
                                    (.t 30)
                                    (.seq
                                      (.ops
                                        [⟨some 4, .mov (.c (.int (.i64) 0)), none⟩, ⟨some 5, .mov (.c (.bool false)), none⟩])
                                      (.ret))
                                    (.skip)))
                                (.ops
                                  [⟨some 31, .mov (.t 4), none⟩,
                                   ⟨some 32, .bin (.add) (.other) (.t 31) (.c (.int (.i64) 1)), none⟩,
                                   ⟨some 4, .mov (.t 32), none⟩]))))))))))
              (.seq
                (.ops
                  [⟨some 33, .mov (.t 4), none⟩,
                   ⟨some 4, .mov (.t 33), none⟩,
                   ⟨some 5, .mov (.c (.bool true)), none⟩])
                (.ret)))⟩
theorem c19 : cFunc Tryd.prog Tryd.f19 = some sf19 := by kernel_rfl

/-- wharfage/name.every -/
def sf20 : SFunc := ⟨3,
  [.tmp 2],
  .seq
            (.ops [⟨some 2, .mov (.c (.bool false)), none⟩])
            (.seq (.ops [⟨some 2, .mov (.c (.bool true)), none⟩]) (.ret))⟩
theorem c20 : cFunc Tryd.prog Tryd.f20 = some sf20 := by kernel_rfl

/-- wharfage/wharfageref02.point -/
def sf21 : SFunc := ⟨92,
  [.tmp 4, .tmp 5],
  .seq
            (.ops [⟨some 4, .mov (.c (.int (.i64) 0)), none⟩, ⟨some 5, .mov (.c (.int (.i64) 0)), none⟩])
            (.seq
              (.ops
                [⟨some 12, .mov (.t 0), none⟩,
                 ⟨some 13, .mov (.t 1), none⟩,
                 ⟨some 14, .idxStr (.t 12) (.t 13), none⟩,
                 ⟨some 15, .convInt (.i64) (.t 14), none⟩,
                 ⟨some 6, .mov (.t 15), none⟩])
              (.seq
                (.seq
                  (.ops
                    [⟨some 16, .mov (.t 6), none⟩,
                     ⟨some 17, .bin (.lss) (.other) (.t 16) (.c (.int (.i64) 128)), none⟩])
                  (.cond
                    (.t 17)
                    (.seq
                      (.ops
                        [⟨some 18, .mov (.t 6), none⟩,
                         ⟨some 4, .mov (.t 18), none⟩,
                         ⟨some 5, .mov (.c (.int (.i64) 1)), none⟩])
                      (.ret))
                    (.skip)))
                (.seq
                  (.ops
                    [⟨some 7, .mov (.c (.int (.i64) 0)), none⟩,
                     ⟨some 8, .mov (.c (.int (.i64) 0)), none⟩,
                     ⟨some 9, .mov (.c (.int (.i64) 0)), none⟩])
                  (.seq
                    (.seq
                      (.ops
                        [⟨some 19, .mov (.t 6), none⟩,
                         ⟨some 20, .bin (.geq) (.other) (.t 19) (.c (.int (.i64) 192)), none⟩,
                         ⟨some 21, .mov (.t 20), none⟩,
                         ⟨some 22, .mov (.t 6), some (21, true)⟩,
                         ⟨some 23, .bin (.lss) (.other) (.t 22) (.c (.int (.i64) 224)), some (21, true)⟩,
                         ⟨some 24, .pick (.t 21) (.t 23) (.c (.bool false)), none⟩])
                      (.cond
                        (.t 24)
                        (.ops
                          [⟨some 25, .mov (.t 6), none⟩,
                           ⟨some 26, .bin (.sub) (.other) (.t 25) (.c (.int (.i64) 192)), none⟩,
                           ⟨some 7, .mov (.c (.int (.i64) 2)), none⟩,
                           ⟨some 8, .mov (.t 26), none⟩,
                           ⟨some 9, .mov (.c (.int (.i64) 128)), none⟩])
                        (.seq
                          (.ops
                            [⟨some 27, .mov (.t 6), none⟩,
                             ⟨some 28, .bin (.geq) (.other) (.t 27) (.c (.int (.i64) 224)), none⟩,
                             ⟨some 29, .mov (.t 28), none⟩,
                             ⟨some 30, .mov (.t 6), some (29, true)⟩,
                             ⟨some 31, .bin (.lss) (.other) (.t 30) (.c (.int (.i64) 240)), some (29, true)⟩,
                             ⟨some 32, .pick (.t 29) (.t 31) (.c (.bool false)), none⟩])
                          (.cond
                            (.t 32)
                            (.ops
                              [⟨some 33, .mov (.t 6), none⟩,
                               ⟨some 34, .bin (.sub) (.other) (.t 33) (.c (.int (.i64) 224)), none⟩,
                               ⟨some 7, .mov (.c (.int (.i64) 3)), none⟩,
                               ⟨some 8, .mov (.t 34), none⟩,
                               ⟨some 9, .mov (.c (.int (.i64) 2048)), none⟩])
                            (.seq
                              (.ops
                                [⟨some 35, .mov (.t 6), none⟩,
                                 ⟨some 36, .bin (.geq) (.other) (.t 35) (.c (.int (.i64) 240)), none⟩,
                                 ⟨some 37, .mov (.t 36), none⟩,
                                 ⟨some 38, .mov (.t 6), some (37, true)⟩,
                                 ⟨some 39, .bin (.lss) (.other) (.t 38) (.c (.int (.i64) 248)), some (37, true)⟩,
                                 ⟨some 40, .pick (.t 37) (.t 39) (.c (.bool false)), none⟩])
                              (.cond
                                (.t 40)
                                (.ops
                                  [⟨some 41, .mov (.t 6), none⟩,
                                   ⟨some 42, .bin (.sub) (.other) (.t 41) (.c (.int (.i64) 240)), none⟩,
                                   ⟨some 7, .mov (.c (.int (.i64) 4)), none⟩,
                                   ⟨some 8, .mov (.t 42), none⟩,
                                   ⟨some 9, .mov (.c (.int (.i64) 65536)), none⟩])
                                (.skip)))))))
                    (.seq
                      (.seq
                        (.ops
                          [⟨some 43, .mov (.t 7), none⟩,
                           ⟨some 44, .bin (.eql) (.other) (.t 43) (.c (.int (.i64) 0)), none⟩,
                           ⟨some 45, .mov (.t 44), none⟩,
                           ⟨some 46, .mov (.t 1), some (45, false)⟩,
                           ⟨some 47, .mov (.t 7), some (45, false)⟩,
                           ⟨some 48, .bin (.add) (.other) (.t 46) (.t 47), some (45, false)⟩,
                           ⟨some 49, .mov (.t 0), some (45, false)⟩,
                           ⟨some 50, .len (.str) (.t 49), some (45, false)⟩,
                           ⟨some 51, .bin (.gtr) (.other) (.t 48) (.t 50), some (45, false)⟩,
                           ⟨some 52, .pick (.t 45) (.c (.bool true)) (.t 51), none⟩])
                        (.cond
                          (.t 52)
                          (.seq
                            (.ops
                              [⟨some 4, .mov (.c (.int (.i64) 0)), none⟩, ⟨some 5, .mov (.c (.int (.i64) 0)), none⟩])
                            (.ret))
                          (.skip)))
                      (.seq
                        (.seq
                          (.ops [⟨some 10, .mov (.c (.int (.i64) 1)), none⟩])
                          (.block
                            0
                            (.loop
                              (.seq
                                (.seq
                                  (.ops
                                    [⟨some 53, .mov (.t 10), none⟩,
                                     ⟨some 54, .mov (.t 7), none⟩,
                                     ⟨some 55, .bin (.lss) (.other) (.t 53) (.t 54), none⟩])
                                  (.cond (.t 55) (.skip) (.exit 0)))
                                (.seq
                                  (.block
                                    1
                                    (.seq
                                      (.ops
                                        [⟨some 58, .mov (.t 0), none⟩,
                                         ⟨some 59, .mov (.t 1), none⟩,
                                         ⟨some 60, .mov (.t 10), none⟩,
                                         ⟨some 61, .bin (.add) (.other) (.t 59) (.t 60), none⟩,
                                         ⟨some 62, .idxStr (.t 58) (.t 61), none⟩,
                                         ⟨some 63, .convInt (.i64) (.t 62), none⟩,
                                         ⟨some 11, .mov (.t 63), none⟩])
                                      (.seq
                                        (.seq
                                          (.ops
                                            [⟨some 64, .mov (.t 11), none⟩,
                                             ⟨some 65, .bin (.lss) (.other) (.t 64) (.c (.int (.i64) 128)), none⟩,
                                             ⟨some 66, .mov (.t 65), none⟩,
                                             ⟨some 67, .mov (.t 11), some (66, false)⟩,
                                             ⟨some 68, .bin (.geq) (.other) (.t 67) (.c (.int (.i64) 192)), some (66, false)⟩,
                                             ⟨some 69, .pick (.t 66) (.c (.bool true)) (.t 68), none⟩])
                                          (.cond
                                            (.t 69)
                                            (.seq
                                              (.ops
                                                [⟨some 4, .mov (.c (.int (.i64) 0)), none⟩,
                                                 ⟨some 5, .mov (.c (.int (.i64) 0)), none⟩])
                                              (.ret))
                                            (.skip)))
                                        (.ops
                                          [⟨some 70, .mov (.t 8), none⟩,
                                           ⟨some 71, .bin (.mul) (.other) (.c (.int (.i64) 64)) (.t 70), none⟩,
                                           ⟨some 72, .mov (.t 11), none⟩,
                                           ⟨some 73, .bin (.add) (.other) (.t 71) (.t 72), none⟩,
                                           ⟨some 74, .bin (.sub) (.other) (.t 73) (.c (.int (.i64) 128)), none⟩,
                                           ⟨some 8, .mov (.t 74), none⟩]))))
                                  (.ops
                                    [⟨some 56, .mov (.t 10), none⟩,
                                     ⟨some 57, .bin (.add) (.other) (.t 56) (.c (.int (.i64) 1)), none⟩,
                                     ⟨some 10, .mov (.t 57), none⟩]))))))
                        (.seq
                          (.seq
                            (.ops
                              [⟨some 75, .mov (.t 8), none⟩,
                               ⟨some 76, .mov (.t 9), none⟩,
                               ⟨some 77, .bin (.lss) (.other) (.t 75) (.t 76), none⟩,
                               ⟨some 78, .mov (.t 77), none⟩,
                               ⟨some 79, .mov (.t 8), some (78, false)⟩,
                               ⟨some 80, .bin (.gtr) (.other) (.t 79) (.c (.int (.i64) 1114111)), some (78, false)⟩,
                               ⟨some 81, .pick (.t 78) (.c (.bool true)) (.t 80), none⟩,
                               ⟨some 82, .mov (.t 81), none⟩,
                               ⟨some 83, .mov (.t 8), some (82, false)⟩,
                               ⟨some 84, .bin (.geq) (.other) (.t 83) (.c (.int (.i64) 55296)), some (82, false)⟩,
                               ⟨some 85, .mov (.t 84), some (82, false)⟩,
                               ⟨some 86, .mov (.t 8), some (85, true)⟩,
                               ⟨some 87, .bin (.leq) (.other) (.t 86) (.c (.int (.i64) 57343)), some (85, true)⟩,
                               ⟨some 88, .pick (.t 85) (.t 87) (.c (.bool false)), some (82, false)⟩,
                               ⟨some 89, .pick (.t 82) (.c (.bool true)) (.t 88), none⟩])
                            (.cond
                              (.t 89)
                              (.seq
                                (.ops
                                  [⟨some 4, .mov (.c (.int (.i64) 0)), none⟩,
                                   ⟨some 5, .mov (.c (.int (.i64) 0)), none⟩])
                                (.ret))
                              (.skip)))
                          (.seq
                            (.ops
                              [⟨some 90, .mov (.t 8), none⟩,
                               ⟨some 91, .mov (.t 7), none⟩,
                               ⟨some 4, .mov (.t 90), none⟩,
                               ⟨some 5, .mov (.t 91), none⟩])
                            (.ret)))))))))⟩
theorem c21 : cFunc Tryd.prog Tryd.f21 = some sf21 := by kernel_rfl

/-- wharfage/name.named -/
def sf22 : SFunc := ⟨13,
  [.tmp 2],
  .seq
            (.ops [⟨some 2, .mov (.c (.bool false)), none⟩])
            (.seq
              (.ops
                [⟨some 3, .mov (.t 0), none⟩,
                 ⟨some 4, .bin (.geq) (.other) (.t 3) (.c (.int (.i32) 32)), none⟩,
                 ⟨some 5, .mov (.t 4), none⟩,
                 ⟨some 6, .mov (.t 0), some (5, true)⟩,
                 ⟨some 7, .bin (.neq) (.other) (.t 6) (.c (.int (.i32) 127)), some (5, true)⟩,
                 ⟨some 8, .pick (.t 5) (.t 7) (.c (.bool false)), none⟩,
                 ⟨some 9, .mov (.t 8), none⟩,
                 ⟨some 10, .mov (.t 0), some (9, true)⟩,
                 ⟨some 11, .bin (.neq) (.other) (.t 10) (.c (.int (.i32) 47)), some (9, true)⟩,
                 ⟨some 12, .pick (.t 9) (.t 11) (.c (.bool false)), none⟩,
                 ⟨some 2, .mov (.t 12), none⟩])
              (.ret))⟩
theorem c22 : cFunc Tryd.prog Tryd.f22 = some sf22 := by kernel_rfl

/-- wharfage/wharfagelaw02.text -/
def sf23 : SFunc := ⟨5,
  [.tmp 2],
  .seq
            (.ops [⟨some 2, .mov (.c (.str [])), none⟩])
            (.seq
              (.ops
                [⟨some 3, .mov (.t 0), none⟩, ⟨some 4, .bytesToStr (.t 3), none⟩, ⟨some 2, .mov (.t 4), none⟩])
              (.ret))⟩
theorem c23 : cFunc Tryd.prog Tryd.f23 = some sf23 := by kernel_rfl

/-- strings.Split -/
def sf24 : SFunc := ⟨8,
  [.tmp 4],
  .seq
            (.ops [⟨some 4, .mov (.c (.nilsl)), none⟩])
            (.seq
              (.ops
                [⟨some 5, .mov (.t 0), none⟩,
                 ⟨some 6, .mov (.t 1), none⟩,
                 ⟨some 7, .call 29 [.t 5, .t 6, .c (.int (.i64) 0), .c (.int (.i64) (-1))], none⟩,
                 ⟨some 4, .mov (.t 7), none⟩])
              (.ret))⟩
theorem c24 : cFunc Tryd.prog Tryd.f24 = some sf24 := by kernel_rfl

/-- wharfage/name.all -/
def sf25 : SFunc := ⟨15,
  [.tmp 2],
  .seq
            (.ops [⟨some 2, .mov (.c (.bool false)), none⟩])
            (.seq
              (.seq
                (.ops
                  [⟨some 5, .mov (.t 0), none⟩,
                   ⟨some 6, .len (.sl) (.t 5), none⟩,
                   ⟨some 7, .mov (.c (.int (.i64) 0)), none⟩])
                (.block
                  0
                  (.loop
                    (.seq
                      (.ops [⟨some 8, .bin (.lss) (.other) (.t 7) (.t 6), none⟩])
                      (.seq
                        (.cond (.t 8) (.skip) (.exit 0))
                        (.seq
                          (.block
                            1
                            (.seq
                              (.ops
                                [⟨some 9, .idxAddrSl 1 (.t 5) (.t 7), none⟩,
                                 ⟨some 10, .load false 1 (.t 9), none⟩,
                                 ⟨some 4, .mov (.t 10), none⟩])
                              (.seq
                                (.ops
                                  [⟨some 11, .mov (.t 4), none⟩,
                                   ⟨some 12, .call 9 [.t 11], none⟩,
                                   ⟨some 13, .un (.not) (.t 12), none⟩])
                                (.cond (.t 13) (.seq (.ops [⟨some 2, .mov (.c (.bool false)), none⟩]) (.ret)) (.skip)))))
                          (.ops
                            [⟨some 14, .bin (.add) (.other) (.t 7) (.c (.int (.i64) 1)), none⟩,
                             ⟨some 7, .mov (.t 14), none⟩])))))))
              (.seq (.ops [⟨some 2, .mov (.c (.bool true)), none⟩]) (.ret)))⟩
theorem c25 : cFunc Tryd.prog Tryd.f25 = some sf25 := by kernel_rfl

/-- wharfage/wharfageref02.parts -/
def sf26 : SFunc := ⟨34,
  [.tmp 2],
  .seq
            (.ops [⟨some 2, .mov (.c (.nilsl)), none⟩])
            (.seq
              (.ops [⟨some 3, .mov (.c (.nilsl)), none⟩])
              (.seq
                (.seq
                  (.ops [⟨some 6, .mov (.t 0), none⟩, ⟨some 7, .bin (.eql) (.str) (.t 6) (.c (.str [])), none⟩])
                  (.cond
                    (.t 7)
                    (.seq (.ops [⟨some 8, .mov (.t 3), none⟩, ⟨some 2, .mov (.t 8), none⟩]) (.ret))
                    (.skip)))
                (.seq
                  (.ops [⟨some 4, .mov (.c (.int (.i64) 0)), none⟩])
                  (.seq
                    (.seq
                      (.ops [⟨some 5, .mov (.c (.int (.i64) 0)), none⟩])
                      (.block
                        0
                        (.loop
                          (.seq
                            (.seq
                              (.ops
                                [⟨some 9, .mov (.t 5), none⟩,
                                 ⟨some 10, .mov (.t 0), none⟩,
                                 ⟨some 11, .len (.str) (.t 10), none⟩,
                                 ⟨some 12, .bin (.lss) (.other) (.t 9) (.t 11), none⟩])
                              (.cond (.t 12) (.skip) (.exit 0)))
                            (.seq
                              (.block
                                1
                                (.seq
                                  (.ops
                                    [⟨some 15, .mov (.t 0), none⟩,
                                     ⟨some 16, .mov (.t 5), none⟩,
                                     ⟨some 17, .idxStr (.t 15) (.t 16), none⟩,
                                     ⟨some 18, .bin (.eql) (.other) (.t 17) (.c (.int (.u8) 47)), none⟩])
                                  (.cond
                                    (.t 18)
                                    (.seq
                                      (.ops
                                        [⟨some 19, .mov (.t 3), none⟩,
                                         ⟨some 20, .mov (.t 0), none⟩,
                                         ⟨some 21, .mov (.t 4), none⟩,
                                         ⟨some 22, .mov (.t 5), none⟩,
                                         ⟨some 23, .sliceStr (.t 20) (some (.t 21)) (some (.t 22)), none⟩,
                                         ⟨some 24, .buildSlice [.str []] 1 1 [(0, 1, .t 23)], none⟩,
                                         ⟨some 25, .append 1 16 (.t 19) (.t 24), none⟩,
                                         ⟨some 3, .mov (.t 25), none⟩])
                                      (.ops
                                        [⟨some 26, .mov (.t 5), none⟩,
                                         ⟨some 27, .bin (.add) (.other) (.t 26) (.c (.int (.i64) 1)), none⟩,
                                         ⟨some 4, .mov (.t 27), none⟩]))
                                    (.skip))))
                              (.ops
                                [⟨some 13, .mov (.t 5), none⟩,
                                 ⟨some 14, .bin (.add) (.other) (.t 13) (.c (.int (.i64) 1)), none⟩,
                                 ⟨some 5, .mov (.t 14), none⟩]))))))
                    (.seq
                      (.ops
                        [⟨some 28, .mov (.t 3), none⟩,
                         ⟨some 29, .mov (.t 0), none⟩,
                         ⟨some 30, .mov (.t 4), none⟩,
                         ⟨some 31, .sliceStr (.t 29) (some (.t 30)) none, none⟩,
                         ⟨some 32, .buildSlice [.str []] 1 1 [(0, 1, .t 31)], none⟩,
                         ⟨some 33, .append 1 16 (.t 28) (.t 32), none⟩,
                         ⟨some 2, .mov (.t 33), none⟩])
                      (.ret))))))⟩
theorem c26 : cFunc Tryd.prog Tryd.f26 = some sf26 := by kernel_rfl

/-- strings.Join -/
def sf27 : SFunc := ⟨75,
  [.tmp 4],
  .seq
            (.ops [⟨some 4, .mov (.c (.str [])), none⟩])
            (.seq
              (.seq
                (.ops [⟨some 11, .mov (.t 0), none⟩, ⟨some 12, .len (.sl) (.t 11), none⟩])
                (.block
                  0
                  (.seq
                    (.ops
                      [⟨some 14, .bin (.eql) (.other) (.t 12) (.c (.int (.i64) 0)), none⟩,
                       ⟨some 13, .mov (.t 14), none⟩])
                    (.cond
                      (.t 13)
                      (.seq (.ops [⟨some 4, .mov (.c (.str [])), none⟩]) (.ret))
                      (.seq
                        (.ops
                          [⟨some 16, .bin (.eql) (.other) (.t 12) (.c (.int (.i64) 1)), none⟩,
                           ⟨some 15, .mov (.t 16), none⟩])
                        (.cond
                          (.t 15)
                          (.seq
                            (.ops
                              [⟨some 17, .mov (.t 0), none⟩,
                               ⟨some 18, .idxAddrSl 1 (.t 17) (.c (.int (.i64) 0)), none⟩,
                               ⟨some 19, .load false 1 (.t 18), none⟩,
                               ⟨some 4, .mov (.t 19), none⟩])
                            (.ret))
                          (.skip)))))))
              (.seq
                (.ops [⟨some 5, .mov (.c (.int (.i64) 0)), none⟩])
                (.seq
                  (.seq
                    (.ops
                      [⟨some 20, .mov (.t 1), none⟩,
                       ⟨some 21, .len (.str) (.t 20), none⟩,
                       ⟨some 22, .bin (.gtr) (.other) (.t 21) (.c (.int (.i64) 0)), none⟩])
                    (.cond
                      (.t 22)
                      (.seq
                        (.seq
                          (.ops
                            [⟨some 23, .mov (.t 1), none⟩,
                             ⟨some 24, .len (.str) (.t 23), none⟩,
                             ⟨some 25, .mov (.t 0), none⟩,
                             ⟨some 26, .len (.sl) (.t 25), none⟩,
                             ⟨some 27, .bin (.sub) (.other) (.t 26) (.c (.int (.i64) 1)), none⟩,
                             ⟨some 28, .bin (.quo) (.other) (.c (.int (.i64) 9223372036854775807)) (.t 27), none⟩,
                             ⟨some 29, .bin (.geq) (.other) (.t 24) (.t 28), none⟩])
                          (.cond
                            (.t 29)
                            (.ops
                              [⟨some 30,
                                 .iface
                                         9
                                         (.c
                                           (.str [115, 116, 114, 105, 110, 103, 115, 58, 32, 74, 111, 105, 110, 32, 111, 117, 116, 112, 117, 116, 32, 108, 101, 110, 103, 116, 104, 32, 111, 118, 101, 114, 102, 108, 111, 119])),
                                 none⟩,
                               ⟨none, .trap, none⟩])
                            (.skip)))
                        (.ops
                          [⟨some 31, .mov (.t 5), none⟩,
                           ⟨some 32, .mov (.t 1), none⟩,
                           ⟨some 33, .len (.str) (.t 32), none⟩,
                           ⟨some 34, .mov (.t 0), none⟩,
                           ⟨some 35, .len (.sl) (.t 34), none⟩,
                           ⟨some 36, .bin (.sub) (.other) (.t 35) (.c (.int (.i64) 1)), none⟩,
                           ⟨some 37, .bin (.mul) (.other) (.t 33) (.t 36), none⟩,
                           ⟨some 38, .bin (.add) (.other) (.t 31) (.t 37), none⟩,
                           ⟨some 5, .mov (.t 38), none⟩]))
                      (.skip)))
                  (.seq
                    (.seq
                      (.ops
                        [⟨some 39, .mov (.t 0), none⟩,
                         ⟨some 40, .len (.sl) (.t 39), none⟩,
                         ⟨some 41, .mov (.c (.int (.i64) 0)), none⟩])
                      (.block
                        1
                        (.loop
                          (.seq
                            (.ops [⟨some 42, .bin (.lss) (.other) (.t 41) (.t 40), none⟩])
                            (.seq
                              (.cond (.t 42) (.skip) (.exit 1))
                              (.seq
                                (.block
                                  2
                                  (.seq
                                    (.ops
                                      [⟨some 43, .idxAddrSl 1 (.t 39) (.t 41), none⟩,
                                       ⟨some 44, .load false 1 (.t 43), none⟩,
                                       ⟨some 7, .mov (.t 44), none⟩])
                                    (.seq
                                      (.seq
                                        (.ops
                                          [⟨some 45, .mov (.t 7), none⟩,
                                           ⟨some 46, .len (.str) (.t 45), none⟩,
                                           ⟨some 47, .mov (.t 5), none⟩,
                                           ⟨some 48, .bin (.sub) (.other) (.c (.int (.i64) 9223372036854775807)) (.t 47), none⟩,
                                           ⟨some 49, .bin (.gtr) (.other) (.t 46) (.t 48), none⟩])
                                        (.cond
                                          (.t 49)
                                          (.ops
                                            [⟨some 50,
                                               .iface
                                                       9
                                                       (.c
                                                         (.str
                                                           [115, 116, 114, 105, 110, 103, 115, 58, 32, 74, 111, 105, 110, 32, 111, 117, 116, 112, 117, 116, 32, 108, 101, 110, 103, 116, 104, 32, 111, 118, 101, 114, 102, 108, 111, 119])),
                                               none⟩,
                                             ⟨none, .trap, none⟩])
                                          (.skip)))
                                      (.ops
                                        [⟨some 51, .mov (.t 5), none⟩,
                                         ⟨some 52, .mov (.t 7), none⟩,
                                         ⟨some 53, .len (.str) (.t 52), none⟩,
                                         ⟨some 54, .bin (.add) (.other) (.t 51) (.t 53), none⟩,
                                         ⟨some 5, .mov (.t 54), none⟩]))))
                                (.ops
                                  [⟨some 55, .bin (.add) (.other) (.t 41) (.c (.int (.i64) 1)), none⟩,
                                   ⟨some 41, .mov (.t 55), none⟩])))))))
                    (.seq
                      (.ops [⟨some 8, .box (.c (.agg [.nilptr, .nilsl])), none⟩])
                      (.seq
                        (.ops [⟨some 56, .mov (.t 5), none⟩, ⟨some 57, .call 30 [.t 8, .t 56], none⟩])
                        (.seq
                          (.ops
                            [⟨some 58, .mov (.t 0), none⟩,
                             ⟨some 59, .idxAddrSl 1 (.t 58) (.c (.int (.i64) 0)), none⟩,
                             ⟨some 60, .load false 1 (.t 59), none⟩,
                             ⟨some 61, .call 31 [.t 8, .t 60], none⟩])
                          (.seq
                            (.seq
                              (.ops
                                [⟨some 62, .mov (.t 0), none⟩,
                                 ⟨some 63, .slice 1 (.t 62) (some (.c (.int (.i64) 1))) none none, none⟩,
                                 ⟨some 64, .len (.sl) (.t 63), none⟩,
                                 ⟨some 65, .mov (.c (.int (.i64) 0)), none⟩])
                              (.block
                                3
                                (.loop
                                  (.seq
                                    (.ops [⟨some 66, .bin (.lss) (.other) (.t 65) (.t 64), none⟩])
                                    (.seq
                                      (.cond (.t 66) (.skip) (.exit 3))
                                      (.seq
                                        (.block
                                          4
                                          (.seq
                                            (.ops
                                              [⟨some 67, .idxAddrSl 1 (.t 63) (.t 65), none⟩,
                                               ⟨some 68, .load false 1 (.t 67), none⟩,
                                               ⟨some 10, .mov (.t 68), none⟩])
                                            (.seq
                                              (.ops [⟨some 69, .mov (.t 1), none⟩, ⟨some 70, .call 31 [.t 8, .t 69], none⟩])
                                              (.ops [⟨some 71, .mov (.t 10), none⟩, ⟨some 72, .call 31 [.t 8, .t 71], none⟩]))))
                                        (.ops
                                          [⟨some 73, .bin (.add) (.other) (.t 65) (.c (.int (.i64) 1)), none⟩,
                                           ⟨some 65, .mov (.t 73), none⟩])))))))
                            (.seq (.ops [⟨some 74, .call 32 [.t 8], none⟩, ⟨some 4, .mov (.t 74), none⟩]) (.ret))))))))))⟩
theorem c27 : cFunc Tryd.prog Tryd.f27 = some sf27 := by kernel_rfl

/-- unicode/utf8.DecodeRuneInString -/
def sf28 : SFunc := ⟨19,
  [.tmp 2, .tmp 3],
  .seq
            (.ops [⟨some 2, .mov (.c (.int (.i32) 0)), none⟩, ⟨some 3, .mov (.c (.int (.i64) 0)), none⟩])
            (.seq
              (.seq
                (.ops
                  [⟨some 4, .mov (.t 0), none⟩,
                   ⟨some 5, .bin (.neq) (.str) (.t 4) (.c (.str [])), none⟩,
                   ⟨some 6, .mov (.t 5), none⟩,
                   ⟨some 7, .mov (.t 0), some (6, true)⟩,
                   ⟨some 8, .idxStr (.t 7) (.c (.int (.i64) 0)), some (6, true)⟩,
                   ⟨some 9, .bin (.lss) (.other) (.t 8) (.c (.int (.u8) 128)), some (6, true)⟩,
                   ⟨some 10, .pick (.t 6) (.t 9) (.c (.bool false)), none⟩])
                (.cond
                  (.t 10)
                  (.seq
                    (.ops
                      [⟨some 11, .mov (.t 0), none⟩,
                       ⟨some 12, .idxStr (.t 11) (.c (.int (.i64) 0)), none⟩,
                       ⟨some 13, .convInt (.i32) (.t 12), none⟩,
                       ⟨some 2, .mov (.t 13), none⟩,
                       ⟨some 3, .mov (.c (.int (.i64) 1)), none⟩])
                    (.ret))
                  (.ops
                    [⟨some 15, .mov (.t 0), none⟩,
                     ⟨some 16, .call 33 [.t 15], none⟩,
                     ⟨some 14, .mov (.t 16), none⟩,
                     ⟨some 17, .extract (.t 14) 0, none⟩,
                     ⟨some 18, .extract (.t 14) 1, none⟩,
                     ⟨some 2, .mov (.t 17), none⟩,
                     ⟨some 3, .mov (.t 18), none⟩])))
              (.ret))⟩
theorem c28 : cFunc Tryd.prog Tryd.f28 = some sf28 := by kernel_rfl

/-- strings.genSplit -/
def sf29 : SFunc := ⟨66,
  [.tmp 8],
  .seq
            (.ops [⟨some 8, .mov (.c (.nilsl)), none⟩])
            (.seq
              (.seq
                (.ops
                  [⟨some 12, .mov (.t 3), none⟩,
                   ⟨some 13, .bin (.eql) (.other) (.t 12) (.c (.int (.i64) 0)), none⟩])
                (.cond (.t 13) (.seq (.ops [⟨some 8, .mov (.c (.nilsl)), none⟩]) (.ret)) (.skip)))
              (.seq
                (.seq
                  (.ops
                    [⟨some 14, .mov (.t 1), none⟩, ⟨some 15, .bin (.eql) (.str) (.t 14) (.c (.str [])), none⟩])
                  (.cond
                    (.t 15)
                    (.seq
                      (.ops
                        [⟨some 16, .mov (.t 0), none⟩,
                         ⟨some 17, .mov (.t 3), none⟩,
                         ⟨some 18, .call 34 [.t 16, .t 17], none⟩,
                         ⟨some 8, .mov (.t 18), none⟩])
                      (.ret))
                    (.skip)))
                (.seq
                  (.seq
                    (.ops
                      [⟨some 19, .mov (.t 3), none⟩,
                       ⟨some 20, .bin (.lss) (.other) (.t 19) (.c (.int (.i64) 0)), none⟩])
                    (.cond
                      (.t 20)
                      (.ops
                        [⟨some 21, .mov (.t 0), none⟩,
                         ⟨some 22, .mov (.t 1), none⟩,
                         ⟨some 23, .call 35 [.t 21, .t 22], none⟩,
                         ⟨some 24, .bin (.add) (.other) (.t 23) (.c (.int (.i64) 1)), none⟩,
                         ⟨some 3, .mov (.t 24), none⟩])
                      (.skip)))
                  (.seq
                    (.ops
                      [⟨some 25, .mov (.t 3), none⟩,
                       ⟨some 26, .mov (.t 0), none⟩,
                       ⟨some 27, .len (.str) (.t 26), none⟩,
                       ⟨some 28, .bin (.add) (.other) (.t 27) (.c (.int (.i64) 1)), none⟩,
                       ⟨some 29, .min (.t 25) [.t 28], none⟩,
                       ⟨some 3, .mov (.t 29), none⟩])
                    (.seq
                      (.ops
                        [⟨some 30, .mov (.t 3), none⟩,
                         ⟨some 31, .mkSlice [.str []] 1 16 (.t 30) (.t 30), none⟩,
                         ⟨some 9, .mov (.t 31), none⟩])
                      (.seq
                        (.ops
                          [⟨some 32, .mov (.t 3), none⟩,
                           ⟨some 33, .bin (.sub) (.other) (.t 32) (.c (.int (.i64) 1)), none⟩,
                           ⟨some 3, .mov (.t 33), none⟩])
                        (.seq
                          (.ops [⟨some 10, .mov (.c (.int (.i64) 0)), none⟩])
                          (.seq
                            (.block
                              0
                              (.loop
                                (.seq
                                  (.seq
                                    (.ops
                                      [⟨some 34, .mov (.t 10), none⟩,
                                       ⟨some 35, .mov (.t 3), none⟩,
                                       ⟨some 36, .bin (.lss) (.other) (.t 34) (.t 35), none⟩])
                                    (.cond (.t 36) (.skip) (.exit 0)))
                                  (.block
                                    1
                                    (.seq
                                      (.ops
                                        [⟨some 37, .mov (.t 0), none⟩,
                                         ⟨some 38, .mov (.t 1), none⟩,
                                         ⟨some 39, .call 36 [.t 37, .t 38], none⟩,
                                         ⟨some 11, .mov (.t 39), none⟩])
                                      (.seq
                                        (.seq
                                          (.ops
                                            [⟨some 40, .mov (.t 11), none⟩,
                                             ⟨some 41, .bin (.lss) (.other) (.t 40) (.c (.int (.i64) 0)), none⟩])
                                          (.cond (.t 41) (.exit 0) (.skip)))
                                        (.seq
                                          (.ops
                                            [⟨some 42, .mov (.t 9), none⟩,
                                             ⟨some 43, .mov (.t 10), none⟩,
                                             ⟨some 44, .mov (.t 0), none⟩,
                                             ⟨some 45, .mov (.t 11), none⟩,
                                             ⟨some 46, .mov (.t 2), none⟩,
                                             ⟨some 47, .bin (.add) (.other) (.t 45) (.t 46), none⟩,
                                             ⟨some 48, .sliceStr (.t 44) none (some (.t 47)), none⟩,
                                             ⟨some 49, .idxAddrSl 1 (.t 42) (.t 43), none⟩,
                                             ⟨none, .store 1 (.t 49) (.t 48), none⟩])
                                          (.seq
                                            (.ops
                                              [⟨some 50, .mov (.t 0), none⟩,
                                               ⟨some 51, .mov (.t 11), none⟩,
                                               ⟨some 52, .mov (.t 1), none⟩,
                                               ⟨some 53, .len (.str) (.t 52), none⟩,
                                               ⟨some 54, .bin (.add) (.other) (.t 51) (.t 53), none⟩,
                                               ⟨some 55, .sliceStr (.t 50) (some (.t 54)) none, none⟩,
                                               ⟨some 0, .mov (.t 55), none⟩])
                                            (.ops
                                              [⟨some 56, .mov (.t 10), none⟩,
                                               ⟨some 57, .bin (.add) (.other) (.t 56) (.c (.int (.i64) 1)), none⟩,
                                               ⟨some 10, .mov (.t 57), none⟩])))))))))
                            (.seq
                              (.ops
                                [⟨some 58, .mov (.t 9), none⟩,
                                 ⟨some 59, .mov (.t 10), none⟩,
                                 ⟨some 60, .mov (.t 0), none⟩,
                                 ⟨some 61, .idxAddrSl 1 (.t 58) (.t 59), none⟩,
                                 ⟨none, .store 1 (.t 61) (.t 60), none⟩])
                              (.seq
                                (.ops
                                  [⟨some 62, .mov (.t 9), none⟩,
                                   ⟨some 63, .mov (.t 10), none⟩,
                                   ⟨some 64, .bin (.add) (.other) (.t 63) (.c (.int (.i64) 1)), none⟩,
                                   ⟨some 65, .slice 1 (.t 62) none (some (.t 64)) none, none⟩,
                                   ⟨some 8, .mov (.t 65), none⟩])
                                (.ret)))))))))))⟩
theorem c29 : cFunc Tryd.prog Tryd.f29 = some sf29 := by kernel_rfl

/-- (*strings.Builder).Grow -/
def sf30 : SFunc := ⟨25,
  [],
  .seq
            (.ops [⟨some 4, .mov (.t 0), none⟩, ⟨some 5, .call 37 [.t 4], none⟩])
            (.seq
              (.seq
                (.ops
                  [⟨some 6, .mov (.t 1), none⟩,
                   ⟨some 7, .bin (.lss) (.other) (.t 6) (.c (.int (.i64) 0)), none⟩])
                (.cond
                  (.t 7)
                  (.ops
                    [⟨some 8,
                       .iface
                               9
                               (.c (.str [115, 116, 114, 105, 110, 103, 115, 46, 66, 117, 105, 108, 100, 101, 114, 46, 71, 114, 111, 119, 58, 32, 110, 101, 103, 97, 116, 105, 118, 101, 32, 99, 111, 117, 110, 116])),
                       none⟩,
                     ⟨none, .trap, none⟩])
                  (.skip)))
              (.seq
                (.ops
                  [⟨some 9, .mov (.t 0), none⟩,
                   ⟨some 10, .nilChk (.t 9), none⟩,
                   ⟨some 11, .fieldAddr 1 (.t 10), none⟩,
                   ⟨some 12, .load false 1 (.t 11), none⟩,
                   ⟨some 13, .cap (.t 12), none⟩,
                   ⟨some 14, .mov (.t 0), none⟩,
                   ⟨some 15, .nilChk (.t 14), none⟩,
                   ⟨some 16, .fieldAddr 1 (.t 15), none⟩,
                   ⟨some 17, .load false 1 (.t 16), none⟩,
                   ⟨some 18, .len (.sl) (.t 17), none⟩,
                   ⟨some 19, .bin (.sub) (.other) (.t 13) (.t 18), none⟩,
                   ⟨some 20, .mov (.t 1), none⟩,
                   ⟨some 21, .bin (.lss) (.other) (.t 19) (.t 20), none⟩])
                (.cond
                  (.t 21)
                  (.ops
                    [⟨some 22, .mov (.t 0), none⟩,
                     ⟨some 23, .mov (.t 1), none⟩,
                     ⟨some 24, .call 38 [.t 22, .t 23], none⟩])
                  (.skip))))⟩
theorem c30 : cFunc Tryd.prog Tryd.f30 = some sf30 := by kernel_rfl

/-- (*strings.Builder).WriteString -/
def sf31 : SFunc := ⟨19,
  [.tmp 4, .tmp 5],
  .seq
            (.ops [⟨some 4, .mov (.c (.int (.i64) 0)), none⟩, ⟨some 5, .mov (.c (.nilif)), none⟩])
            (.seq
              (.ops [⟨some 6, .mov (.t 0), none⟩, ⟨some 7, .call 37 [.t 6], none⟩])
              (.seq
                (.ops
                  [⟨some 8, .mov (.t 0), none⟩,
                   ⟨some 9, .mov (.t 0), none⟩,
                   ⟨some 10, .nilChk (.t 9), none⟩,
                   ⟨some 11, .fieldAddr 1 (.t 10), none⟩,
                   ⟨some 12, .load false 1 (.t 11), none⟩,
                   ⟨some 13, .mov (.t 1), none⟩,
                   ⟨some 14, .append 1 1 (.t 12) (.t 13), none⟩,
                   ⟨some 15, .nilChk (.t 8), none⟩,
                   ⟨some 16, .fieldAddr 1 (.t 15), none⟩,
                   ⟨none, .store 1 (.t 16) (.t 14), none⟩])
                (.seq
                  (.ops
                    [⟨some 17, .mov (.t 1), none⟩,
                     ⟨some 18, .len (.str) (.t 17), none⟩,
                     ⟨some 4, .mov (.t 18), none⟩,
                     ⟨some 5, .mov (.c (.nilif)), none⟩])
                  (.ret))))⟩
theorem c31 : cFunc Tryd.prog Tryd.f31 = some sf31 := by kernel_rfl

-- 32 (*strings.Builder).String: none
-- 33 unicode/utf8.decodeRuneInStringSlow: none
/-- strings.explode -/
def sf34 : SFunc := ⟨50,
  [.tmp 4],
  .seq
            (.ops [⟨some 4, .mov (.c (.nilsl)), none⟩])
            (.seq
              (.ops
                [⟨some 10, .mov (.t 0), none⟩, ⟨some 11, .call 39 [.t 10], none⟩, ⟨some 5, .mov (.t 11), none⟩])
              (.seq
                (.seq
                  (.ops
                    [⟨some 12, .mov (.t 1), none⟩,
                     ⟨some 13, .bin (.lss) (.other) (.t 12) (.c (.int (.i64) 0)), none⟩,
                     ⟨some 14, .mov (.t 13), none⟩,
                     ⟨some 15, .mov (.t 1), some (14, false)⟩,
                     ⟨some 16, .mov (.t 5), some (14, false)⟩,
                     ⟨some 17, .bin (.gtr) (.other) (.t 15) (.t 16), some (14, false)⟩,
                     ⟨some 18, .pick (.t 14) (.c (.bool true)) (.t 17), none⟩])
                  (.cond (.t 18) (.ops [⟨some 19, .mov (.t 5), none⟩, ⟨some 1, .mov (.t 19), none⟩]) (.skip)))
                (.seq
                  (.ops
                    [⟨some 20, .mov (.t 1), none⟩,
                     ⟨some 21, .mkSlice [.str []] 1 16 (.t 20) (.t 20), none⟩,
                     ⟨some 6, .mov (.t 21), none⟩])
                  (.seq
                    (.seq
                      (.ops [⟨some 7, .mov (.c (.int (.i64) 0)), none⟩])
                      (.block
                        0
                        (.loop
                          (.seq
                            (.seq
                              (.ops
                                [⟨some 22, .mov (.t 7), none⟩,
                                 ⟨some 23, .mov (.t 1), none⟩,
                                 ⟨some 24, .bin (.sub) (.other) (.t 23) (.c (.int (.i64) 1)), none⟩,
                                 ⟨some 25, .bin (.lss) (.other) (.t 22) (.t 24), none⟩])
                              (.cond (.t 25) (.skip) (.exit 0)))
                            (.seq
                              (.block
                                1
                                (.seq
                                  (.ops
                                    [⟨some 29, .mov (.t 0), none⟩,
                                     ⟨some 30, .call 28 [.t 29], none⟩,
                                     ⟨some 28, .mov (.t 30), none⟩,
                                     ⟨some 31, .extract (.t 28) 0, none⟩,
                                     ⟨some 32, .extract (.t 28) 1, none⟩,
                                     ⟨some 8, .mov (.t 31), none⟩,
                                     ⟨some 9, .mov (.t 32), none⟩])
                                  (.seq
                                    (.ops
                                      [⟨some 33, .mov (.t 6), none⟩,
                                       ⟨some 34, .mov (.t 7), none⟩,
                                       ⟨some 35, .mov (.t 0), none⟩,
                                       ⟨some 36, .mov (.t 9), none⟩,
                                       ⟨some 37, .sliceStr (.t 35) none (some (.t 36)), none⟩,
                                       ⟨some 38, .idxAddrSl 1 (.t 33) (.t 34), none⟩,
                                       ⟨none, .store 1 (.t 38) (.t 37), none⟩])
                                    (.ops
                                      [⟨some 39, .mov (.t 0), none⟩,
                                       ⟨some 40, .mov (.t 9), none⟩,
                                       ⟨some 41, .sliceStr (.t 39) (some (.t 40)) none, none⟩,
                                       ⟨some 0, .mov (.t 41), none⟩]))))
                              (.ops
                                [⟨some 26, .mov (.t 7), none⟩,
                                 ⟨some 27, .bin (.add) (.other) (.t 26) (.c (.int (.i64) 1)), none⟩,
                                 ⟨some 7, .mov (.t 27), none⟩]))))))
                    (.seq
                      (.seq
                        (.ops
                          [⟨some 42, .mov (.t 1), none⟩,
                           ⟨some 43, .bin (.gtr) (.other) (.t 42) (.c (.int (.i64) 0)), none⟩])
                        (.cond
                          (.t 43)
                          (.ops
                            [⟨some 44, .mov (.t 6), none⟩,
                             ⟨some 45, .mov (.t 1), none⟩,
                             ⟨some 46, .bin (.sub) (.other) (.t 45) (.c (.int (.i64) 1)), none⟩,
                             ⟨some 47, .mov (.t 0), none⟩,
                             ⟨some 48, .idxAddrSl 1 (.t 44) (.t 46), none⟩,
                             ⟨none, .store 1 (.t 48) (.t 47), none⟩])
                          (.skip)))
                      (.seq (.ops [⟨some 49, .mov (.t 6), none⟩, ⟨some 4, .mov (.t 49), none⟩]) (.ret)))))))⟩
theorem c34 : cFunc Tryd.prog Tryd.f34 = some sf34 := by kernel_rfl

/-- strings.Count -/
def sf35 : SFunc := ⟨34,
  [.tmp 4],
  .seq
            (.ops [⟨some 4, .mov (.c (.int (.i64) 0)), none⟩])
            (.seq
              (.seq
                (.ops
                  [⟨some 7, .mov (.t 1), none⟩,
                   ⟨some 8, .len (.str) (.t 7), none⟩,
                   ⟨some 9, .bin (.eql) (.other) (.t 8) (.c (.int (.i64) 0)), none⟩])
                (.cond
                  (.t 9)
                  (.seq
                    (.ops
                      [⟨some 10, .mov (.t 0), none⟩,
                       ⟨some 11, .call 39 [.t 10], none⟩,
                       ⟨some 12, .bin (.add) (.other) (.t 11) (.c (.int (.i64) 1)), none⟩,
                       ⟨some 4, .mov (.t 12), none⟩])
                    (.ret))
                  (.skip)))
              (.seq
                (.seq
                  (.ops
                    [⟨some 13, .mov (.t 1), none⟩,
                     ⟨some 14, .len (.str) (.t 13), none⟩,
                     ⟨some 15, .bin (.eql) (.other) (.t 14) (.c (.int (.i64) 1)), none⟩])
                  (.cond
                    (.t 15)
                    (.seq
                      (.ops
                        [⟨some 16, .mov (.t 0), none⟩,
                         ⟨some 17, .mov (.t 1), none⟩,
                         ⟨some 18, .idxStr (.t 17) (.c (.int (.i64) 0)), none⟩,
                         ⟨some 19, .call 40 [.t 16, .t 18], none⟩,
                         ⟨some 4, .mov (.t 19), none⟩])
                      (.ret))
                    (.skip)))
                (.seq
                  (.ops [⟨some 5, .mov (.c (.int (.i64) 0)), none⟩])
                  (.block
                    0
                    (.loop
                      (.block
                        1
                        (.seq
                          (.ops
                            [⟨some 20, .mov (.t 0), none⟩,
                             ⟨some 21, .mov (.t 1), none⟩,
                             ⟨some 22, .call 36 [.t 20, .t 21], none⟩,
                             ⟨some 6, .mov (.t 22), none⟩])
                          (.seq
                            (.seq
                              (.ops
                                [⟨some 23, .mov (.t 6), none⟩,
                                 ⟨some 24, .bin (.eql) (.other) (.t 23) (.c (.int (.i64) (-1))), none⟩])
                              (.cond
                                (.t 24)
                                (.seq (.ops [⟨some 25, .mov (.t 5), none⟩, ⟨some 4, .mov (.t 25), none⟩]) (.ret))
                                (.skip)))
                            (.seq
                              (.ops
                                [⟨some 26, .mov (.t 5), none⟩,
                                 ⟨some 27, .bin (.add) (.other) (.t 26) (.c (.int (.i64) 1)), none⟩,
                                 ⟨some 5, .mov (.t 27), none⟩])
                              (.ops
                                [⟨some 28, .mov (.t 0), none⟩,
                                 ⟨some 29, .mov (.t 6), none⟩,
                                 ⟨some 30, .mov (.t 1), none⟩,
                                 ⟨some 31, .len (.str) (.t 30), none⟩,
                                 ⟨some 32, .bin (.add) (.other) (.t 29) (.t 31), none⟩,
                                 ⟨some 33, .sliceStr (.t 28) (some (.t 32)) none, none⟩,
                                 ⟨some 0, .mov (.t 33), none⟩]))))))))))⟩
theorem c35 : cFunc Tryd.prog Tryd.f35 = some sf35 := by kernel_rfl

/-- strings.Index -/
def sf36 : SFunc := ⟨8,
  [.tmp 4],
  .seq
            (.ops [⟨some 4, .mov (.c (.int (.i64) 0)), none⟩])
            (.seq
              (.ops
                [⟨some 5, .mov (.t 0), none⟩,
                 ⟨some 6, .mov (.t 1), none⟩,
                 ⟨some 7, .call 41 [.t 5, .t 6], none⟩,
                 ⟨some 4, .mov (.t 7), none⟩])
              (.ret))⟩
theorem c36 : cFunc Tryd.prog Tryd.f36 = some sf36 := by kernel_rfl

-- 37 (*strings.Builder).copyCheck: none
/-- (*strings.Builder).grow -/
def sf38 : SFunc := ⟨30,
  [],
  .seq
            (.drawOps
              [⟨some 5, .mov (.t 0), none⟩,
               ⟨some 6, .nilChk (.t 5), none⟩,
               ⟨some 7, .fieldAddr 1 (.t 6), none⟩,
               ⟨some 8, .load false 1 (.t 7), none⟩,
               ⟨some 9, .cap (.t 8), none⟩,
               ⟨some 10, .bin (.mul) (.other) (.c (.int (.i64) 2)) (.t 9), none⟩,
               ⟨some 11, .mov (.t 1), none⟩,
               ⟨some 12, .bin (.add) (.other) (.t 10) (.t 11), none⟩,
               ⟨some 13, .call 43 [.t 12], none⟩,
               ⟨some 14, .mov (.t 0), none⟩,
               ⟨some 15, .nilChk (.t 14), none⟩,
               ⟨some 16, .fieldAddr 1 (.t 15), none⟩,
               ⟨some 17, .load false 1 (.t 16), none⟩,
               ⟨some 18, .len (.sl) (.t 17), none⟩,
               ⟨some 19, .slice 1 (.t 13) none (some (.t 18)) none, none⟩,
               ⟨some 4, .mov (.t 19), none⟩]
              [(12, 8)])
            (.seq
              (.ops
                [⟨some 20, .mov (.t 4), none⟩,
                 ⟨some 21, .mov (.t 0), none⟩,
                 ⟨some 22, .nilChk (.t 21), none⟩,
                 ⟨some 23, .fieldAddr 1 (.t 22), none⟩,
                 ⟨some 24, .load false 1 (.t 23), none⟩,
                 ⟨some 25, .copy 1 (.t 20) (.t 24), none⟩])
              (.ops
                [⟨some 26, .mov (.t 0), none⟩,
                 ⟨some 27, .mov (.t 4), none⟩,
                 ⟨some 28, .nilChk (.t 26), none⟩,
                 ⟨some 29, .fieldAddr 1 (.t 28), none⟩,
                 ⟨none, .store 1 (.t 29) (.t 27), none⟩]))⟩
theorem c38 : cFunc Tryd.prog Tryd.f38 = some sf38 := by kernel_rfl

/-- unicode/utf8.RuneCountInString -/
def sf39 : SFunc := ⟨10,
  [.tmp 2],
  .seq
            (.ops [⟨some 2, .mov (.c (.int (.i64) 0)), none⟩])
            (.seq
              (.seq
                (.ops [⟨some 3, .mov (.t 0), none⟩, ⟨some 4, .rangeStr (.t 3), none⟩])
                (.block
                  0
                  (.loop
                    (.seq
                      (.ops [⟨some 5, .nextStr (.t 4), none⟩, ⟨some 6, .extract (.t 5) 0, none⟩])
                      (.seq
                        (.cond (.t 6) (.skip) (.exit 0))
                        (.block
                          1
                          (.ops
                            [⟨some 7, .mov (.t 2), none⟩,
                             ⟨some 8, .bin (.add) (.other) (.t 7) (.c (.int (.i64) 1)), none⟩,
                             ⟨some 2, .mov (.t 8), none⟩])))))))
              (.seq (.ops [⟨some 9, .mov (.t 2), none⟩, ⟨some 2, .mov (.t 9), none⟩]) (.ret)))⟩
theorem c39 : cFunc Tryd.prog Tryd.f39 = some sf39 := by kernel_rfl

def tab : FuncId → Option SFunc
  | 3 => some sf3
  | 4 => some sf4
  | 5 => some sf5
  | 6 => some sf6
  | 7 => some sf7
  | 8 => some sf8
  | 9 => some sf9
  | 10 => some sf10
  | 11 => some sf11
  | 12 => some sf12
  | 13 => some sf13
  | 14 => some sf14
  | 15 => some sf15
  | 16 => some sf16
  | 17 => some sf17
  | 18 => some sf18
  | 19 => some sf19
  | 20 => some sf20
  | 21 => some sf21
  | 22 => some sf22
  | 23 => some sf23
  | 24 => some sf24
  | 25 => some sf25
  | 26 => some sf26
  | 27 => some sf27
  | 28 => some sf28
  | 29 => some sf29
  | 30 => some sf30
  | 31 => some sf31
  | 34 => some sf34
  | 35 => some sf35
  | 36 => some sf36
  | 38 => some sf38
  | 39 => some sf39
  | _ => none
theorem conv : Conv Tryd.prog tab := by
  intro f sf h
  unfold tab at h
  split at h
  · cases h; exact ⟨Tryd.f3, Tryd.func3, c3⟩
  · cases h; exact ⟨Tryd.f4, Tryd.func4, c4⟩
  · cases h; exact ⟨Tryd.f5, Tryd.func5, c5⟩
  · cases h; exact ⟨Tryd.f6, Tryd.func6, c6⟩
  · cases h; exact ⟨Tryd.f7, Tryd.func7, c7⟩
  · cases h; exact ⟨Tryd.f8, Tryd.func8, c8⟩
  · cases h; exact ⟨Tryd.f9, Tryd.func9, c9⟩
  · cases h; exact ⟨Tryd.f10, Tryd.func10, c10⟩
  · cases h; exact ⟨Tryd.f11, Tryd.func11, c11⟩
  · cases h; exact ⟨Tryd.f12, Tryd.func12, c12⟩
  · cases h; exact ⟨Tryd.f13, Tryd.func13, c13⟩
  · cases h; exact ⟨Tryd.f14, Tryd.func14, c14⟩
  · cases h; exact ⟨Tryd.f15, Tryd.func15, c15⟩
  · cases h; exact ⟨Tryd.f16, Tryd.func16, c16⟩
  · cases h; exact ⟨Tryd.f17, Tryd.func17, c17⟩
  · cases h; exact ⟨Tryd.f18, Tryd.func18, c18⟩
  · cases h; exact ⟨Tryd.f19, Tryd.func19, c19⟩
  · cases h; exact ⟨Tryd.f20, Tryd.func20, c20⟩
  · cases h; exact ⟨Tryd.f21, Tryd.func21, c21⟩
  · cases h; exact ⟨Tryd.f22, Tryd.func22, c22⟩
  · cases h; exact ⟨Tryd.f23, Tryd.func23, c23⟩
  · cases h; exact ⟨Tryd.f24, Tryd.func24, c24⟩
  · cases h; exact ⟨Tryd.f25, Tryd.func25, c25⟩
  · cases h; exact ⟨Tryd.f26, Tryd.func26, c26⟩
  · cases h; exact ⟨Tryd.f27, Tryd.func27, c27⟩
  · cases h; exact ⟨Tryd.f28, Tryd.func28, c28⟩
  · cases h; exact ⟨Tryd.f29, Tryd.func29, c29⟩
  · cases h; exact ⟨Tryd.f30, Tryd.func30, c30⟩
  · cases h; exact ⟨Tryd.f31, Tryd.func31, c31⟩
  · cases h; exact ⟨Tryd.f34, Tryd.func34, c34⟩
  · cases h; exact ⟨Tryd.f35, Tryd.func35, c35⟩
  · cases h; exact ⟨Tryd.f36, Tryd.func36, c36⟩
  · cases h; exact ⟨Tryd.f38, Tryd.func38, c38⟩
  · cases h; exact ⟨Tryd.f39, Tryd.func39, c39⟩
  · cases h
theorem mixed : Tryd.prog.follows .mixedOrders = true := Tryd.checked.mixed
theorem laid : laidOutB Tryd.prog = true := by kernel_rfl
end Go.Proofs.YtpdfpbdkiaekpaaDoor.Ya
