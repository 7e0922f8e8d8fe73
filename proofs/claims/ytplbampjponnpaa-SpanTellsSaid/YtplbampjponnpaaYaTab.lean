/-
  The functions that the laws reach, as the abstract machine has them (printed by wip/gen/Gen.lean).
-/
import Derived.Test.YtplbampjponnpaaChecked
import Derived.KernelRfl
import Derived.Test.YtplbampjponnpaaYaLaw
namespace Go.Proofs.Ytplbampjponnpaa.Ya
open Go.Ya
set_option maxRecDepth 100000
set_option linter.unusedVariables false

/-- gosem.cut.init -/
def sf2 : SFunc := ⟨1, [], .ops [⟨some 0, .call 1 [], none⟩]⟩
theorem c2 : cFunc Try.prog Try.f2 = some sf2 := by kernel_rfl

/-- wharfage/wharfagelaw12.SpanTells -/
def sf3 : SFunc := ⟨135,
  [.tmp 6],
  .seq
            (.ops [⟨some 4, .box (.t 1), none⟩, ⟨some 6, .mov (.c (.bool false)), none⟩])
            (.seq
              (.seq
                (.ops
                  [⟨some 18, .mov (.t 0), none⟩,
                   ⟨some 19, .len (.sl) (.t 18), none⟩,
                   ⟨some 20, .bin (.gtr) (.other) (.t 19) (.c (.int (.i64) 60)), none⟩])
                (.cond
                  (.t 20)
                  (.seq (.ops [⟨some 21, .call 7 [], none⟩, ⟨some 6, .mov (.t 21), none⟩]) (.ret))
                  (.skip)))
              (.seq
                (.ops
                  [⟨some 22, .buildSlice [] 0 2 [], none⟩,
                   ⟨some 23, .mov (.t 0), none⟩,
                   ⟨some 24, .append 2 8 (.t 22) (.t 23), none⟩,
                   ⟨some 7, .mov (.t 24), none⟩])
                (.seq
                  (.ops
                    [⟨some 26, .mov (.t 7), none⟩,
                     ⟨some 27, .load true 2 (.t 4), none⟩,
                     ⟨some 28, .call 8 [.t 26, .t 27], none⟩,
                     ⟨some 25, .mov (.t 28), none⟩,
                     ⟨some 29, .extract (.t 25) 0, none⟩,
                     ⟨some 30, .extract (.t 25) 1, none⟩,
                     ⟨some 8, .mov (.t 29), none⟩,
                     ⟨some 9, .mov (.t 30), none⟩])
                  (.seq
                    (.ops
                      [⟨some 32, .mov (.t 0), none⟩,
                       ⟨some 33, .load true 2 (.t 4), none⟩,
                       ⟨some 34, .call 9 [.t 32, .t 33], none⟩,
                       ⟨some 31, .mov (.t 34), none⟩,
                       ⟨some 35, .extract (.t 31) 0, none⟩,
                       ⟨some 36, .extract (.t 31) 1, none⟩,
                       ⟨some 10, .mov (.t 35), none⟩,
                       ⟨some 11, .mov (.t 36), none⟩])
                    (.seq
                      (.ops
                        [⟨some 38, .mov (.t 7), none⟩,
                         ⟨some 39, .load true 2 (.t 4), none⟩,
                         ⟨some 40, .call 10 [.t 38, .t 39], none⟩,
                         ⟨some 37, .mov (.t 40), none⟩,
                         ⟨some 41, .extract (.t 37) 0, none⟩,
                         ⟨some 42, .extract (.t 37) 1, none⟩,
                         ⟨some 12, .mov (.t 41), none⟩,
                         ⟨some 13, .mov (.t 42), none⟩])
                      (.seq
                        (.ops
                          [⟨some 44, .mov (.t 0), none⟩,
                           ⟨some 45, .load true 2 (.t 4), none⟩,
                           ⟨some 46, .call 11 [.t 44, .t 45], none⟩,
                           ⟨some 43, .mov (.t 46), none⟩,
                           ⟨some 47, .extract (.t 43) 0, none⟩,
                           ⟨some 48, .extract (.t 43) 1, none⟩,
                           ⟨some 14, .mov (.t 47), none⟩,
                           ⟨some 15, .mov (.t 48), none⟩])
                        (.seq
                          (.seq
                            (.drawOps
                              [⟨some 49, .mov (.t 8), none⟩,
                               ⟨some 50, .mov (.t 10), none⟩,
                               ⟨some 51, .call 12 [.t 49, .t 50], none⟩,
                               ⟨some 52, .un (.not) (.t 51), none⟩,
                               ⟨some 53, .mov (.t 52), none⟩,
                               ⟨some 54, .mov (.t 9), some (53, false)⟩,
                               ⟨some 55, .mov (.t 11), some (53, false)⟩,
                               ⟨some 56, .bin (.neq) (.other) (.t 54) (.t 55), some (53, false)⟩,
                               ⟨some 57, .pick (.t 53) (.c (.bool true)) (.t 56), none⟩,
                               ⟨some 58, .mov (.t 57), none⟩,
                               ⟨some 59, .mov (.t 12), some (58, false)⟩,
                               ⟨some 60, .mov (.t 14), some (58, false)⟩,
                               ⟨some 61, .call 12 [.t 59, .t 60], some (58, false)⟩,
                               ⟨some 62, .un (.not) (.t 61), some (58, false)⟩,
                               ⟨some 63, .pick (.t 58) (.c (.bool true)) (.t 62), none⟩,
                               ⟨some 64, .mov (.t 63), none⟩,
                               ⟨some 65, .mov (.t 13), some (64, false)⟩,
                               ⟨some 66, .mov (.t 15), some (64, false)⟩,
                               ⟨some 67, .bin (.neq) (.other) (.t 65) (.t 66), some (64, false)⟩,
                               ⟨some 68, .pick (.t 64) (.c (.bool true)) (.t 67), none⟩,
                               ⟨some 69, .mov (.t 68), none⟩,
                               ⟨some 70, .mov (.t 7), some (69, false)⟩,
                               ⟨some 71, .call 13 [.t 70], some (69, false)⟩,
                               ⟨some 72, .mov (.t 0), some (69, false)⟩,
                               ⟨some 73, .call 14 [.t 72], some (69, false)⟩,
                               ⟨some 74, .bin (.neq) (.bool) (.t 71) (.t 73), some (69, false)⟩,
                               ⟨some 75, .pick (.t 69) (.c (.bool true)) (.t 74), none⟩,
                               ⟨some 76, .mov (.t 75), none⟩,
                               ⟨some 77, .mov (.t 7), some (76, false)⟩,
                               ⟨some 78, .mov (.t 2), some (76, false)⟩,
                               ⟨some 79, .call 15 [.t 77, .t 78], some (76, false)⟩,
                               ⟨some 80, .mov (.t 0), some (76, false)⟩,
                               ⟨some 81, .mov (.t 2), some (76, false)⟩,
                               ⟨some 82, .call 16 [.t 80, .t 81], some (76, false)⟩,
                               ⟨some 83, .bin (.neq) (.bool) (.t 79) (.t 82), some (76, false)⟩,
                               ⟨some 84, .pick (.t 76) (.c (.bool true)) (.t 83), none⟩,
                               ⟨some 85, .mov (.t 84), none⟩,
                               ⟨some 86, .mov (.t 7), some (85, false)⟩,
                               ⟨some 87, .load true 2 (.t 4), some (85, false)⟩,
                               ⟨some 88, .call 17 [.t 86, .t 87], some (85, false)⟩,
                               ⟨some 89, .mov (.t 0), some (85, false)⟩,
                               ⟨some 90, .load true 2 (.t 4), some (85, false)⟩,
                               ⟨some 91, .call 18 [.t 89, .t 90], some (85, false)⟩,
                               ⟨some 92, .bin (.neq) (.bool) (.t 88) (.t 91), some (85, false)⟩,
                               ⟨some 93, .pick (.t 85) (.c (.bool true)) (.t 92), none⟩,
                               ⟨some 94, .mov (.t 93), none⟩,
                               ⟨some 95, .mov (.t 7), some (94, false)⟩,
                               ⟨some 96, .call 19 [.t 95], some (94, false)⟩,
                               ⟨some 97, .mov (.t 0), some (94, false)⟩,
                               ⟨some 98, .call 20 [.t 97], some (94, false)⟩,
                               ⟨some 99, .bin (.neq) (.other) (.t 96) (.t 98), some (94, false)⟩,
                               ⟨some 100, .pick (.t 94) (.c (.bool true)) (.t 99), none⟩,
                               ⟨some 101, .mov (.t 100), none⟩,
                               ⟨some 102, .load true 2 (.t 4), some (101, false)⟩,
                               ⟨some 103, .call 22 [.t 102], some (101, false)⟩,
                               ⟨some 104, .load true 2 (.t 4), some (101, false)⟩,
                               ⟨some 105, .call 23 [.t 104], some (101, false)⟩,
                               ⟨some 106, .call 21 [.t 103, .t 105], some (101, false)⟩,
                               ⟨some 107, .un (.not) (.t 106), some (101, false)⟩,
                               ⟨some 108, .pick (.t 101) (.c (.bool true)) (.t 107), none⟩]
                              [(41, 39), (55, 54)])
                            (.cond (.t 108) (.seq (.ops [⟨some 6, .mov (.c (.bool false)), none⟩]) (.ret)) (.skip)))
                          (.seq
                            (.seq
                              (.ops [⟨some 16, .mov (.c (.int (.i64) 0)), none⟩])
                              (.block
                                0
                                (.loop
                                  (.seq
                                    (.seq
                                      (.ops
                                        [⟨some 109, .mov (.t 16), none⟩,
                                         ⟨some 110, .mov (.t 8), none⟩,
                                         ⟨some 111, .len (.sl) (.t 110), none⟩,
                                         ⟨some 112, .bin (.lss) (.other) (.t 109) (.t 111), none⟩])
                                      (.cond (.t 112) (.skip) (.exit 0)))
                                    (.seq
                                      (.block
                                        1
                                        (.ops
                                          [⟨some 115, .mov (.t 8), none⟩,
                                           ⟨some 116, .mov (.t 16), none⟩,
                                           ⟨some 117,
                                             .build
                                                     [.int (.u32) 0, .int (.u32) 0]
                                                     [(0, 1, .c (.int (.u32) 7)), (1, 1, .c (.int (.u32) 7))],
                                             none⟩,
                                           ⟨some 118, .idxAddrSl 2 (.t 115) (.t 116), none⟩,
                                           ⟨none, .store 2 (.t 118) (.t 117), none⟩]))
                                      (.ops
                                        [⟨some 113, .mov (.t 16), none⟩,
                                         ⟨some 114, .bin (.add) (.other) (.t 113) (.c (.int (.i64) 1)), none⟩,
                                         ⟨some 16, .mov (.t 114), none⟩]))))))
                            (.seq
                              (.seq
                                (.ops [⟨some 17, .mov (.c (.int (.i64) 0)), none⟩])
                                (.block
                                  2
                                  (.loop
                                    (.seq
                                      (.seq
                                        (.ops
                                          [⟨some 119, .mov (.t 17), none⟩,
                                           ⟨some 120, .mov (.t 12), none⟩,
                                           ⟨some 121, .len (.sl) (.t 120), none⟩,
                                           ⟨some 122, .bin (.lss) (.other) (.t 119) (.t 121), none⟩])
                                        (.cond (.t 122) (.skip) (.exit 2)))
                                      (.seq
                                        (.block
                                          3
                                          (.ops
                                            [⟨some 125, .mov (.t 12), none⟩,
                                             ⟨some 126, .mov (.t 17), none⟩,
                                             ⟨some 127,
                                               .build
                                                       [.int (.u32) 0, .int (.u32) 0]
                                                       [(0, 1, .c (.int (.u32) 7)), (1, 1, .c (.int (.u32) 7))],
                                               none⟩,
                                             ⟨some 128, .idxAddrSl 2 (.t 125) (.t 126), none⟩,
                                             ⟨none, .store 2 (.t 128) (.t 127), none⟩]))
                                        (.ops
                                          [⟨some 123, .mov (.t 17), none⟩,
                                           ⟨some 124, .bin (.add) (.other) (.t 123) (.c (.int (.i64) 1)), none⟩,
                                           ⟨some 17, .mov (.t 124), none⟩]))))))
                              (.seq
                                (.ops
                                  [⟨some 129, .mov (.t 7), none⟩,
                                   ⟨some 130, .mov (.t 0), none⟩,
                                   ⟨some 131, .call 12 [.t 129, .t 130], none⟩,
                                   ⟨some 132, .mov (.t 131), none⟩,
                                   ⟨some 133, .call 7 [], some (132, true)⟩,
                                   ⟨some 134, .pick (.t 132) (.t 133) (.c (.bool false)), none⟩,
                                   ⟨some 6, .mov (.t 134), none⟩])
                                (.ret)))))))))))⟩
theorem c3 : cFunc Try.prog Try.f3 = some sf3 := by kernel_rfl

/-- wharfage/wharfagelaw12.SpanSets -/
def sf4 : SFunc := ⟨126,
  [.tmp 6],
  .seq
            (.ops [⟨some 4, .box (.t 1), none⟩, ⟨some 6, .mov (.c (.bool false)), none⟩])
            (.seq
              (.seq
                (.ops
                  [⟨some 14, .mov (.t 0), none⟩,
                   ⟨some 15, .len (.sl) (.t 14), none⟩,
                   ⟨some 16, .bin (.gtr) (.other) (.t 15) (.c (.int (.i64) 60)), none⟩,
                   ⟨some 17, .mov (.t 16), none⟩,
                   ⟨some 18, .mov (.t 0), some (17, false)⟩,
                   ⟨some 19, .call 13 [.t 18], some (17, false)⟩,
                   ⟨some 20, .un (.not) (.t 19), some (17, false)⟩,
                   ⟨some 21, .pick (.t 17) (.c (.bool true)) (.t 20), none⟩,
                   ⟨some 22, .mov (.t 21), none⟩,
                   ⟨some 23, .fieldAddr 1 (.t 4), some (22, false)⟩,
                   ⟨some 24, .load false 1 (.t 23), some (22, false)⟩,
                   ⟨some 25, .fieldAddr 0 (.t 4), some (22, false)⟩,
                   ⟨some 26, .load false 1 (.t 25), some (22, false)⟩,
                   ⟨some 27, .bin (.lss) (.other) (.t 24) (.t 26), some (22, false)⟩,
                   ⟨some 28, .pick (.t 22) (.c (.bool true)) (.t 27), none⟩])
                (.cond
                  (.t 28)
                  (.seq (.ops [⟨some 29, .call 7 [], none⟩, ⟨some 6, .mov (.t 29), none⟩]) (.ret))
                  (.skip)))
              (.seq
                (.ops
                  [⟨some 31, .mov (.t 0), none⟩,
                   ⟨some 32, .load true 2 (.t 4), none⟩,
                   ⟨some 33, .call 8 [.t 31, .t 32], none⟩,
                   ⟨some 30, .mov (.t 33), none⟩,
                   ⟨some 34, .extract (.t 30) 0, none⟩,
                   ⟨some 35, .extract (.t 30) 1, none⟩,
                   ⟨some 7, .mov (.t 34), none⟩,
                   ⟨some 8, .mov (.t 35), none⟩])
                (.seq
                  (.ops
                    [⟨some 37, .mov (.t 0), none⟩,
                     ⟨some 38, .load true 2 (.t 4), none⟩,
                     ⟨some 39, .call 10 [.t 37, .t 38], none⟩,
                     ⟨some 36, .mov (.t 39), none⟩,
                     ⟨some 40, .extract (.t 36) 0, none⟩,
                     ⟨some 41, .extract (.t 36) 1, none⟩,
                     ⟨some 9, .mov (.t 40), none⟩,
                     ⟨some 10, .mov (.t 41), none⟩])
                  (.seq
                    (.seq
                      (.ops
                        [⟨some 42, .mov (.t 8), none⟩,
                         ⟨some 43, .bin (.neq) (.other) (.t 42) (.c (.int (.i64) 0)), none⟩,
                         ⟨some 44, .mov (.t 43), none⟩,
                         ⟨some 45, .mov (.t 10), some (44, false)⟩,
                         ⟨some 46, .bin (.neq) (.other) (.t 45) (.c (.int (.i64) 0)), some (44, false)⟩,
                         ⟨some 47, .pick (.t 44) (.c (.bool true)) (.t 46), none⟩,
                         ⟨some 48, .mov (.t 47), none⟩,
                         ⟨some 49, .mov (.t 7), some (48, false)⟩,
                         ⟨some 50, .call 13 [.t 49], some (48, false)⟩,
                         ⟨some 51, .un (.not) (.t 50), some (48, false)⟩,
                         ⟨some 52, .pick (.t 48) (.c (.bool true)) (.t 51), none⟩,
                         ⟨some 53, .mov (.t 52), none⟩,
                         ⟨some 54, .mov (.t 9), some (53, false)⟩,
                         ⟨some 55, .call 13 [.t 54], some (53, false)⟩,
                         ⟨some 56, .un (.not) (.t 55), some (53, false)⟩,
                         ⟨some 57, .pick (.t 53) (.c (.bool true)) (.t 56), none⟩])
                      (.cond (.t 57) (.seq (.ops [⟨some 6, .mov (.c (.bool false)), none⟩]) (.ret)) (.skip)))
                    (.seq
                      (.ops
                        [⟨some 59, .mov (.t 7), none⟩,
                         ⟨some 60, .load true 2 (.t 4), none⟩,
                         ⟨some 61, .call 10 [.t 59, .t 60], none⟩,
                         ⟨some 58, .mov (.t 61), none⟩,
                         ⟨some 62, .extract (.t 58) 0, none⟩,
                         ⟨some 63, .extract (.t 58) 1, none⟩,
                         ⟨some 11, .mov (.t 62), none⟩,
                         ⟨some 12, .mov (.t 63), none⟩])
                      (.seq
                        (.ops
                          [⟨some 64, .mov (.t 2), none⟩,
                           ⟨some 65, .fieldAddr 0 (.t 4), none⟩,
                           ⟨some 66, .load false 1 (.t 65), none⟩,
                           ⟨some 67, .bin (.geq) (.other) (.t 64) (.t 66), none⟩,
                           ⟨some 68, .mov (.t 67), none⟩,
                           ⟨some 69, .mov (.t 2), some (68, true)⟩,
                           ⟨some 70, .fieldAddr 1 (.t 4), some (68, true)⟩,
                           ⟨some 71, .load false 1 (.t 70), some (68, true)⟩,
                           ⟨some 72, .bin (.lss) (.other) (.t 69) (.t 71), some (68, true)⟩,
                           ⟨some 73, .pick (.t 68) (.t 72) (.c (.bool false)), none⟩,
                           ⟨some 13, .mov (.t 73), none⟩])
                        (.seq
                          (.seq
                            (.ops
                              [⟨some 74, .mov (.t 7), none⟩,
                               ⟨some 75, .mov (.t 2), none⟩,
                               ⟨some 76, .call 15 [.t 74, .t 75], none⟩,
                               ⟨some 77, .mov (.t 13), none⟩,
                               ⟨some 78, .mov (.t 77), none⟩,
                               ⟨some 79, .mov (.t 0), some (78, false)⟩,
                               ⟨some 80, .mov (.t 2), some (78, false)⟩,
                               ⟨some 81, .call 15 [.t 79, .t 80], some (78, false)⟩,
                               ⟨some 82, .pick (.t 78) (.c (.bool true)) (.t 81), none⟩,
                               ⟨some 83, .bin (.neq) (.bool) (.t 76) (.t 82), none⟩,
                               ⟨some 84, .mov (.t 83), none⟩,
                               ⟨some 85, .mov (.t 9), some (84, false)⟩,
                               ⟨some 86, .mov (.t 2), some (84, false)⟩,
                               ⟨some 87, .call 15 [.t 85, .t 86], some (84, false)⟩,
                               ⟨some 88, .mov (.t 13), some (84, false)⟩,
                               ⟨some 89, .un (.not) (.t 88), some (84, false)⟩,
                               ⟨some 90, .mov (.t 89), some (84, false)⟩,
                               ⟨some 91, .mov (.t 0), some (90, true)⟩,
                               ⟨some 92, .mov (.t 2), some (90, true)⟩,
                               ⟨some 93, .call 15 [.t 91, .t 92], some (90, true)⟩,
                               ⟨some 94, .pick (.t 90) (.t 93) (.c (.bool false)), some (84, false)⟩,
                               ⟨some 95, .bin (.neq) (.bool) (.t 87) (.t 94), some (84, false)⟩,
                               ⟨some 96, .pick (.t 84) (.c (.bool true)) (.t 95), none⟩])
                            (.cond (.t 96) (.seq (.ops [⟨some 6, .mov (.c (.bool false)), none⟩]) (.ret)) (.skip)))
                          (.seq
                            (.drawOps
                              [⟨some 97, .mov (.t 12), none⟩,
                               ⟨some 98, .bin (.eql) (.other) (.t 97) (.c (.int (.i64) 0)), none⟩,
                               ⟨some 99, .mov (.t 98), none⟩,
                               ⟨some 100, .mov (.t 9), some (99, true)⟩,
                               ⟨some 101, .mov (.t 11), some (99, true)⟩,
                               ⟨some 102, .call 12 [.t 100, .t 101], some (99, true)⟩,
                               ⟨some 103, .pick (.t 99) (.t 102) (.c (.bool false)), none⟩,
                               ⟨some 104, .mov (.t 103), none⟩,
                               ⟨some 105, .mov (.t 7), some (104, true)⟩,
                               ⟨some 106, .load true 2 (.t 4), some (104, true)⟩,
                               ⟨some 107, .call 17 [.t 105, .t 106], some (104, true)⟩,
                               ⟨some 108, .pick (.t 104) (.t 107) (.c (.bool false)), none⟩,
                               ⟨some 109, .mov (.t 108), none⟩,
                               ⟨some 110, .mov (.t 7), some (109, true)⟩,
                               ⟨some 111, .call 19 [.t 110], some (109, true)⟩,
                               ⟨some 112, .mov (.t 9), some (109, true)⟩,
                               ⟨some 113, .call 19 [.t 112], some (109, true)⟩,
                               ⟨some 114, .fieldAddr 1 (.t 4), some (109, true)⟩,
                               ⟨some 115, .load false 1 (.t 114), some (109, true)⟩,
                               ⟨some 116, .fieldAddr 0 (.t 4), some (109, true)⟩,
                               ⟨some 117, .load false 1 (.t 116), some (109, true)⟩,
                               ⟨some 118, .bin (.sub) (.other) (.t 115) (.t 117), some (109, true)⟩,
                               ⟨some 119, .convInt (.u64) (.t 118), some (109, true)⟩,
                               ⟨some 120, .bin (.add) (.other) (.t 113) (.t 119), some (109, true)⟩,
                               ⟨some 121, .bin (.eql) (.other) (.t 111) (.t 120), some (109, true)⟩,
                               ⟨some 122, .pick (.t 109) (.t 121) (.c (.bool false)), none⟩,
                               ⟨some 123, .mov (.t 122), none⟩,
                               ⟨some 124, .call 7 [], some (123, true)⟩,
                               ⟨some 125, .pick (.t 123) (.t 124) (.c (.bool false)), none⟩,
                               ⟨some 6, .mov (.t 125), none⟩]
                              [(18, 14), (18, 16), (20, 14), (20, 16)])
                            (.ret)))))))))⟩
theorem c4 : cFunc Try.prog Try.f4 = some sf4 := by kernel_rfl

/-- wharfage/wharfagelaw12.SpanGrows -/
def sf5 : SFunc := ⟨103,
  [.tmp 2],
  .seq
            (.ops [⟨some 2, .mov (.c (.bool false)), none⟩])
            (.seq
              (.seq
                (.ops
                  [⟨some 11, .mov (.t 0), none⟩,
                   ⟨some 12, .len (.sl) (.t 11), none⟩,
                   ⟨some 13, .bin (.gtr) (.other) (.t 12) (.c (.int (.i64) 20)), none⟩])
                (.cond
                  (.t 13)
                  (.seq (.ops [⟨some 14, .call 7 [], none⟩, ⟨some 2, .mov (.t 14), none⟩]) (.ret))
                  (.skip)))
              (.seq
                (.ops [⟨some 3, .mov (.c (.nilsl)), none⟩, ⟨some 4, .mov (.c (.nilsl)), none⟩])
                (.seq
                  (.seq
                    (.ops [⟨some 5, .mov (.c (.int (.i64) 0)), none⟩])
                    (.block
                      0
                      (.loop
                        (.seq
                          (.seq
                            (.ops
                              [⟨some 15, .mov (.t 5), none⟩,
                               ⟨some 16, .mov (.t 0), none⟩,
                               ⟨some 17, .len (.sl) (.t 16), none⟩,
                               ⟨some 18, .bin (.lss) (.other) (.t 15) (.t 17), none⟩])
                            (.cond (.t 18) (.skip) (.exit 0)))
                          (.seq
                            (.block
                              1
                              (.seq
                                (.seq
                                  (.ops
                                    [⟨some 21, .mov (.t 0), none⟩,
                                     ⟨some 22, .mov (.t 5), none⟩,
                                     ⟨some 23, .idxAddrSl 2 (.t 21) (.t 22), none⟩,
                                     ⟨some 24, .fieldAddr 1 (.t 23), none⟩,
                                     ⟨some 25, .load false 1 (.t 24), none⟩,
                                     ⟨some 26, .mov (.t 0), none⟩,
                                     ⟨some 27, .mov (.t 5), none⟩,
                                     ⟨some 28, .idxAddrSl 2 (.t 26) (.t 27), none⟩,
                                     ⟨some 29, .fieldAddr 0 (.t 28), none⟩,
                                     ⟨some 30, .load false 1 (.t 29), none⟩,
                                     ⟨some 31, .bin (.lss) (.other) (.t 25) (.t 30), none⟩,
                                     ⟨some 32, .mov (.t 31), none⟩,
                                     ⟨some 33, .mov (.t 0), some (32, false)⟩,
                                     ⟨some 34, .mov (.t 0), some (32, false)⟩,
                                     ⟨some 35, .len (.sl) (.t 34), some (32, false)⟩,
                                     ⟨some 36, .bin (.sub) (.other) (.t 35) (.c (.int (.i64) 1)), some (32, false)⟩,
                                     ⟨some 37, .mov (.t 5), some (32, false)⟩,
                                     ⟨some 38, .bin (.sub) (.other) (.t 36) (.t 37), some (32, false)⟩,
                                     ⟨some 39, .idxAddrSl 2 (.t 33) (.t 38), some (32, false)⟩,
                                     ⟨some 40, .fieldAddr 1 (.t 39), some (32, false)⟩,
                                     ⟨some 41, .load false 1 (.t 40), some (32, false)⟩,
                                     ⟨some 42, .mov (.t 0), some (32, false)⟩,
                                     ⟨some 43, .mov (.t 0), some (32, false)⟩,
                                     ⟨some 44, .len (.sl) (.t 43), some (32, false)⟩,
                                     ⟨some 45, .bin (.sub) (.other) (.t 44) (.c (.int (.i64) 1)), some (32, false)⟩,
                                     ⟨some 46, .mov (.t 5), some (32, false)⟩,
                                     ⟨some 47, .bin (.sub) (.other) (.t 45) (.t 46), some (32, false)⟩,
                                     ⟨some 48, .idxAddrSl 2 (.t 42) (.t 47), some (32, false)⟩,
                                     ⟨some 49, .fieldAddr 0 (.t 48), some (32, false)⟩,
                                     ⟨some 50, .load false 1 (.t 49), some (32, false)⟩,
                                     ⟨some 51, .bin (.lss) (.other) (.t 41) (.t 50), some (32, false)⟩,
                                     ⟨some 52, .pick (.t 32) (.c (.bool true)) (.t 51), none⟩])
                                  (.cond
                                    (.t 52)
                                    (.seq (.ops [⟨some 53, .call 7 [], none⟩, ⟨some 2, .mov (.t 53), none⟩]) (.ret))
                                    (.skip)))
                                (.seq
                                  (.ops
                                    [⟨some 55, .mov (.t 3), none⟩,
                                     ⟨some 56, .mov (.t 0), none⟩,
                                     ⟨some 57, .mov (.t 5), none⟩,
                                     ⟨some 58, .idxAddrSl 2 (.t 56) (.t 57), none⟩,
                                     ⟨some 59, .load true 2 (.t 58), none⟩,
                                     ⟨some 60, .call 8 [.t 55, .t 59], none⟩,
                                     ⟨some 54, .mov (.t 60), none⟩,
                                     ⟨some 61, .extract (.t 54) 0, none⟩,
                                     ⟨some 62, .extract (.t 54) 1, none⟩,
                                     ⟨some 6, .mov (.t 61), none⟩,
                                     ⟨some 7, .mov (.t 62), none⟩])
                                  (.seq
                                    (.ops
                                      [⟨some 64, .mov (.t 4), none⟩,
                                       ⟨some 65, .mov (.t 0), none⟩,
                                       ⟨some 66, .mov (.t 0), none⟩,
                                       ⟨some 67, .len (.sl) (.t 66), none⟩,
                                       ⟨some 68, .bin (.sub) (.other) (.t 67) (.c (.int (.i64) 1)), none⟩,
                                       ⟨some 69, .mov (.t 5), none⟩,
                                       ⟨some 70, .bin (.sub) (.other) (.t 68) (.t 69), none⟩,
                                       ⟨some 71, .idxAddrSl 2 (.t 65) (.t 70), none⟩,
                                       ⟨some 72, .load true 2 (.t 71), none⟩,
                                       ⟨some 73, .call 8 [.t 64, .t 72], none⟩,
                                       ⟨some 63, .mov (.t 73), none⟩,
                                       ⟨some 74, .extract (.t 63) 0, none⟩,
                                       ⟨some 75, .extract (.t 63) 1, none⟩,
                                       ⟨some 8, .mov (.t 74), none⟩,
                                       ⟨some 9, .mov (.t 75), none⟩])
                                    (.seq
                                      (.seq
                                        (.ops
                                          [⟨some 76, .mov (.t 7), none⟩,
                                           ⟨some 77, .bin (.neq) (.other) (.t 76) (.c (.int (.i64) 0)), none⟩,
                                           ⟨some 78, .mov (.t 77), none⟩,
                                           ⟨some 79, .mov (.t 9), some (78, false)⟩,
                                           ⟨some 80, .bin (.neq) (.other) (.t 79) (.c (.int (.i64) 0)), some (78, false)⟩,
                                           ⟨some 81, .pick (.t 78) (.c (.bool true)) (.t 80), none⟩])
                                        (.cond (.t 81) (.seq (.ops [⟨some 2, .mov (.c (.bool false)), none⟩]) (.ret)) (.skip)))
                                      (.ops
                                        [⟨some 82, .mov (.t 6), none⟩,
                                         ⟨some 83, .mov (.t 8), none⟩,
                                         ⟨some 3, .mov (.t 82), none⟩,
                                         ⟨some 4, .mov (.t 83), none⟩]))))))
                            (.ops
                              [⟨some 19, .mov (.t 5), none⟩,
                               ⟨some 20, .bin (.add) (.other) (.t 19) (.c (.int (.i64) 1)), none⟩,
                               ⟨some 5, .mov (.t 20), none⟩]))))))
                  (.seq
                    (.seq
                      (.ops [⟨some 10, .mov (.c (.int (.i64) 0)), none⟩])
                      (.block
                        2
                        (.loop
                          (.seq
                            (.seq
                              (.ops
                                [⟨some 84, .mov (.t 10), none⟩,
                                 ⟨some 85, .mov (.t 0), none⟩,
                                 ⟨some 86, .len (.sl) (.t 85), none⟩,
                                 ⟨some 87, .bin (.lss) (.other) (.t 84) (.t 86), none⟩])
                              (.cond (.t 87) (.skip) (.exit 2)))
                            (.seq
                              (.block
                                3
                                (.seq
                                  (.ops
                                    [⟨some 90, .mov (.t 3), none⟩,
                                     ⟨some 91, .mov (.t 0), none⟩,
                                     ⟨some 92, .mov (.t 10), none⟩,
                                     ⟨some 93, .idxAddrSl 2 (.t 91) (.t 92), none⟩,
                                     ⟨some 94, .load true 2 (.t 93), none⟩,
                                     ⟨some 95, .call 17 [.t 90, .t 94], none⟩,
                                     ⟨some 96, .un (.not) (.t 95), none⟩])
                                  (.cond (.t 96) (.seq (.ops [⟨some 2, .mov (.c (.bool false)), none⟩]) (.ret)) (.skip))))
                              (.ops
                                [⟨some 88, .mov (.t 10), none⟩,
                                 ⟨some 89, .bin (.add) (.other) (.t 88) (.c (.int (.i64) 1)), none⟩,
                                 ⟨some 10, .mov (.t 89), none⟩]))))))
                    (.seq
                      (.ops
                        [⟨some 97, .mov (.t 3), none⟩,
                         ⟨some 98, .mov (.t 4), none⟩,
                         ⟨some 99, .call 12 [.t 97, .t 98], none⟩,
                         ⟨some 100, .mov (.t 99), none⟩,
                         ⟨some 101, .call 7 [], some (100, true)⟩,
                         ⟨some 102, .pick (.t 100) (.t 101) (.c (.bool false)), none⟩,
                         ⟨some 2, .mov (.t 102), none⟩])
                      (.ret))))))⟩
theorem c5 : cFunc Try.prog Try.f5 = some sf5 := by kernel_rfl

/-- wharfage/wharfagelaw12.SpanPages -/
def sf6 : SFunc := ⟨92,
  [.tmp 4],
  .seq
            (.ops [⟨some 2, .box (.t 0), none⟩, ⟨some 4, .mov (.c (.bool false)), none⟩])
            (.seq
              (.ops
                [⟨some 8, .load true 2 (.t 2), none⟩,
                 ⟨some 9, .call 22 [.t 8], none⟩,
                 ⟨some 5, .mov (.t 9), none⟩])
              (.seq
                (.seq
                  (.ops
                    [⟨some 10, .fieldAddr 0 (.t 2), none⟩,
                     ⟨some 11, .load false 1 (.t 10), none⟩,
                     ⟨some 12, .fieldAddr 1 (.t 2), none⟩,
                     ⟨some 13, .load false 1 (.t 12), none⟩,
                     ⟨some 14, .bin (.geq) (.other) (.t 11) (.t 13), none⟩,
                     ⟨some 15, .mov (.t 14), none⟩,
                     ⟨some 16, .fieldAddr 1 (.t 2), some (15, false)⟩,
                     ⟨some 17, .load false 1 (.t 16), some (15, false)⟩,
                     ⟨some 18, .bin (.gtr) (.other) (.t 17) (.c (.int (.u32) 4096)), some (15, false)⟩,
                     ⟨some 19, .pick (.t 15) (.c (.bool true)) (.t 18), none⟩])
                  (.cond
                    (.t 19)
                    (.seq
                      (.ops
                        [⟨some 20, .mov (.t 5), none⟩,
                         ⟨some 21, .len (.sl) (.t 20), none⟩,
                         ⟨some 22, .bin (.eql) (.other) (.t 21) (.c (.int (.i64) 0)), none⟩,
                         ⟨some 23, .mov (.t 22), none⟩,
                         ⟨some 24, .call 7 [], some (23, true)⟩,
                         ⟨some 25, .pick (.t 23) (.t 24) (.c (.bool false)), none⟩,
                         ⟨some 4, .mov (.t 25), none⟩])
                      (.ret))
                    (.skip)))
                (.seq
                  (.ops
                    [⟨some 26, .fieldAddr 0 (.t 2), none⟩,
                     ⟨some 27, .load false 1 (.t 26), none⟩,
                     ⟨some 28, .mov (.t 1), none⟩,
                     ⟨some 29, .fieldAddr 1 (.t 2), none⟩,
                     ⟨some 30, .load false 1 (.t 29), none⟩,
                     ⟨some 31, .fieldAddr 0 (.t 2), none⟩,
                     ⟨some 32, .load false 1 (.t 31), none⟩,
                     ⟨some 33, .bin (.sub) (.other) (.t 30) (.t 32), none⟩,
                     ⟨some 34, .bin (.rem) (.other) (.t 28) (.t 33), none⟩,
                     ⟨some 35, .bin (.add) (.other) (.t 27) (.t 34), none⟩,
                     ⟨some 1, .mov (.t 35), none⟩])
                  (.seq
                    (.ops [⟨some 6, .mov (.c (.bool false)), none⟩])
                    (.seq
                      (.seq
                        (.ops [⟨some 7, .mov (.c (.int (.i64) 0)), none⟩])
                        (.block
                          0
                          (.loop
                            (.seq
                              (.seq
                                (.ops
                                  [⟨some 36, .mov (.t 7), none⟩,
                                   ⟨some 37, .mov (.t 5), none⟩,
                                   ⟨some 38, .len (.sl) (.t 37), none⟩,
                                   ⟨some 39, .bin (.lss) (.other) (.t 36) (.t 38), none⟩])
                                (.cond (.t 39) (.skip) (.exit 0)))
                              (.seq
                                (.block
                                  1
                                  (.seq
                                    (.ops
                                      [⟨some 42, .mov (.t 6), none⟩,
                                       ⟨some 43, .mov (.t 42), none⟩,
                                       ⟨some 44, .mov (.t 5), some (43, false)⟩,
                                       ⟨some 45, .mov (.t 7), some (43, false)⟩,
                                       ⟨some 46, .idxAddrSl 1 (.t 44) (.t 45), some (43, false)⟩,
                                       ⟨some 47, .load false 1 (.t 46), some (43, false)⟩,
                                       ⟨some 48, .mov (.t 1), some (43, false)⟩,
                                       ⟨some 49, .bin (.quo) (.other) (.t 48) (.c (.int (.u32) 64)), some (43, false)⟩,
                                       ⟨some 50, .bin (.eql) (.other) (.t 47) (.t 49), some (43, false)⟩,
                                       ⟨some 51, .pick (.t 43) (.c (.bool true)) (.t 50), none⟩,
                                       ⟨some 6, .mov (.t 51), none⟩])
                                    (.seq
                                      (.ops
                                        [⟨some 52, .mov (.t 7), none⟩,
                                         ⟨some 53, .bin (.gtr) (.other) (.t 52) (.c (.int (.i64) 0)), none⟩,
                                         ⟨some 54, .mov (.t 53), none⟩,
                                         ⟨some 55, .mov (.t 5), some (54, true)⟩,
                                         ⟨some 56, .mov (.t 7), some (54, true)⟩,
                                         ⟨some 57, .idxAddrSl 1 (.t 55) (.t 56), some (54, true)⟩,
                                         ⟨some 58, .load false 1 (.t 57), some (54, true)⟩,
                                         ⟨some 59, .mov (.t 5), some (54, true)⟩,
                                         ⟨some 60, .mov (.t 7), some (54, true)⟩,
                                         ⟨some 61, .bin (.sub) (.other) (.t 60) (.c (.int (.i64) 1)), some (54, true)⟩,
                                         ⟨some 62, .idxAddrSl 1 (.t 59) (.t 61), some (54, true)⟩,
                                         ⟨some 63, .load false 1 (.t 62), some (54, true)⟩,
                                         ⟨some 64, .bin (.add) (.other) (.t 63) (.c (.int (.u32) 1)), some (54, true)⟩,
                                         ⟨some 65, .bin (.neq) (.other) (.t 58) (.t 64), some (54, true)⟩,
                                         ⟨some 66, .pick (.t 54) (.t 65) (.c (.bool false)), none⟩,
                                         ⟨some 67, .mov (.t 66), none⟩,
                                         ⟨some 68, .mov (.t 5), some (67, false)⟩,
                                         ⟨some 69, .mov (.t 7), some (67, false)⟩,
                                         ⟨some 70, .idxAddrSl 1 (.t 68) (.t 69), some (67, false)⟩,
                                         ⟨some 71, .load false 1 (.t 70), some (67, false)⟩,
                                         ⟨some 72, .bin (.add) (.other) (.t 71) (.c (.int (.u32) 1)), some (67, false)⟩,
                                         ⟨some 73, .bin (.mul) (.other) (.t 72) (.c (.int (.u32) 64)), some (67, false)⟩,
                                         ⟨some 74, .fieldAddr 0 (.t 2), some (67, false)⟩,
                                         ⟨some 75, .load false 1 (.t 74), some (67, false)⟩,
                                         ⟨some 76, .bin (.leq) (.other) (.t 73) (.t 75), some (67, false)⟩,
                                         ⟨some 77, .pick (.t 67) (.c (.bool true)) (.t 76), none⟩,
                                         ⟨some 78, .mov (.t 77), none⟩,
                                         ⟨some 79, .mov (.t 5), some (78, false)⟩,
                                         ⟨some 80, .mov (.t 7), some (78, false)⟩,
                                         ⟨some 81, .idxAddrSl 1 (.t 79) (.t 80), some (78, false)⟩,
                                         ⟨some 82, .load false 1 (.t 81), some (78, false)⟩,
                                         ⟨some 83, .bin (.mul) (.other) (.t 82) (.c (.int (.u32) 64)), some (78, false)⟩,
                                         ⟨some 84, .fieldAddr 1 (.t 2), some (78, false)⟩,
                                         ⟨some 85, .load false 1 (.t 84), some (78, false)⟩,
                                         ⟨some 86, .bin (.geq) (.other) (.t 83) (.t 85), some (78, false)⟩,
                                         ⟨some 87, .pick (.t 78) (.c (.bool true)) (.t 86), none⟩])
                                      (.cond (.t 87) (.seq (.ops [⟨some 4, .mov (.c (.bool false)), none⟩]) (.ret)) (.skip)))))
                                (.ops
                                  [⟨some 40, .mov (.t 7), none⟩,
                                   ⟨some 41, .bin (.add) (.other) (.t 40) (.c (.int (.i64) 1)), none⟩,
                                   ⟨some 7, .mov (.t 41), none⟩]))))))
                      (.seq
                        (.ops
                          [⟨some 88, .mov (.t 6), none⟩,
                           ⟨some 89, .mov (.t 88), none⟩,
                           ⟨some 90, .call 7 [], some (89, true)⟩,
                           ⟨some 91, .pick (.t 89) (.t 90) (.c (.bool false)), none⟩,
                           ⟨some 4, .mov (.t 91), none⟩])
                        (.ret)))))))⟩
theorem c6 : cFunc Try.prog Try.f6 = some sf6 := by kernel_rfl

/-- wharfage/wharfagelaw12.lives -/
def sf7 : SFunc := ⟨74,
  [.tmp 0],
  .seq
            (.ops [⟨some 0, .mov (.c (.bool false)), none⟩])
            (.seq
              (.ops
                [⟨some 9, .call 24 [], none⟩,
                 ⟨some 10,
                   .build [.int (.u32) 0, .int (.u32) 0] [(0, 1, .c (.int (.u32) 4)), (1, 1, .c (.int (.u32) 8))],
                   none⟩,
                 ⟨some 11, .call 8 [.t 9, .t 10], none⟩,
                 ⟨some 8, .mov (.t 11), none⟩,
                 ⟨some 12, .extract (.t 8) 0, none⟩,
                 ⟨some 13, .extract (.t 8) 1, none⟩,
                 ⟨some 1, .mov (.t 12), none⟩,
                 ⟨some 2, .mov (.t 13), none⟩])
              (.seq
                (.ops
                  [⟨some 15,
                     .build [.int (.u32) 0, .int (.u32) 0] [(0, 1, .c (.int (.u32) 0)), (1, 1, .c (.int (.u32) 9))],
                     none⟩,
                   ⟨some 16, .buildSlice [.int (.u32) 0, .int (.u32) 0] 1 2 [(0, 2, .t 15)], none⟩,
                   ⟨some 17,
                     .build [.int (.u32) 0, .int (.u32) 0] [(0, 1, .c (.int (.u32) 3)), (1, 1, .c (.int (.u32) 5))],
                     none⟩,
                   ⟨some 18, .call 10 [.t 16, .t 17], none⟩,
                   ⟨some 14, .mov (.t 18), none⟩,
                   ⟨some 19, .extract (.t 14) 0, none⟩,
                   ⟨some 20, .extract (.t 14) 1, none⟩,
                   ⟨some 3, .mov (.t 19), none⟩,
                   ⟨some 4, .mov (.t 20), none⟩])
                (.seq
                  (.ops
                    [⟨some 22,
                       .build [.int (.u32) 0, .int (.u32) 0] [(0, 1, .c (.int (.u32) 4)), (1, 1, .c (.int (.u32) 2))],
                       none⟩,
                     ⟨some 23, .buildSlice [.int (.u32) 0, .int (.u32) 0] 1 2 [(0, 2, .t 22)], none⟩,
                     ⟨some 24,
                       .build [.int (.u32) 0, .int (.u32) 0] [(0, 1, .c (.int (.u32) 0)), (1, 1, .c (.int (.u32) 1))],
                       none⟩,
                     ⟨some 25, .call 8 [.t 23, .t 24], none⟩,
                     ⟨some 21, .mov (.t 25), none⟩,
                     ⟨some 26, .extract (.t 21) 0, none⟩,
                     ⟨some 27, .extract (.t 21) 1, none⟩,
                     ⟨some 5, .mov (.t 26), none⟩,
                     ⟨some 6, .mov (.t 27), none⟩])
                  (.seq
                    (.ops
                      [⟨some 28,
                         .build [.int (.u32) 0, .int (.u32) 0] [(0, 1, .c (.int (.u32) 60)), (1, 1, .c (.int (.u32) 70))],
                         none⟩,
                       ⟨some 29, .call 22 [.t 28], none⟩,
                       ⟨some 7, .mov (.t 29), none⟩])
                    (.seq
                      (.seq
                        (.ops
                          [⟨some 30, .mov (.t 1), none⟩,
                           ⟨some 31,
                             .build [.int (.u32) 0, .int (.u32) 0] [(0, 1, .c (.int (.u32) 0)), (1, 1, .c (.int (.u32) 9))],
                             none⟩,
                           ⟨some 32, .buildSlice [.int (.u32) 0, .int (.u32) 0] 1 2 [(0, 2, .t 31)], none⟩,
                           ⟨some 33, .call 12 [.t 30, .t 32], none⟩,
                           ⟨some 34, .un (.not) (.t 33), none⟩,
                           ⟨some 35, .mov (.t 34), none⟩,
                           ⟨some 36, .mov (.t 2), some (35, false)⟩,
                           ⟨some 37, .bin (.neq) (.other) (.t 36) (.c (.int (.i64) 0)), some (35, false)⟩,
                           ⟨some 38, .pick (.t 35) (.c (.bool true)) (.t 37), none⟩,
                           ⟨some 39, .mov (.t 38), none⟩,
                           ⟨some 40, .mov (.t 3), some (39, false)⟩,
                           ⟨some 41,
                             .build [.int (.u32) 0, .int (.u32) 0] [(0, 1, .c (.int (.u32) 0)), (1, 1, .c (.int (.u32) 3))],
                             some (39, false)⟩,
                           ⟨some 42,
                             .build [.int (.u32) 0, .int (.u32) 0] [(0, 1, .c (.int (.u32) 5)), (1, 1, .c (.int (.u32) 9))],
                             some (39, false)⟩,
                           ⟨some 43,
                             .buildSlice
                                     [.int (.u32) 0, .int (.u32) 0, .int (.u32) 0, .int (.u32) 0]
                                     2
                                     2
                                     [(0, 2, .t 41), (2, 2, .t 42)],
                             some (39, false)⟩,
                           ⟨some 44, .call 12 [.t 40, .t 43], some (39, false)⟩,
                           ⟨some 45, .un (.not) (.t 44), some (39, false)⟩,
                           ⟨some 46, .pick (.t 39) (.c (.bool true)) (.t 45), none⟩,
                           ⟨some 47, .mov (.t 46), none⟩,
                           ⟨some 48, .mov (.t 4), some (47, false)⟩,
                           ⟨some 49, .bin (.neq) (.other) (.t 48) (.c (.int (.i64) 0)), some (47, false)⟩,
                           ⟨some 50, .pick (.t 47) (.c (.bool true)) (.t 49), none⟩,
                           ⟨some 51, .mov (.t 50), none⟩,
                           ⟨some 52, .mov (.t 6), some (51, false)⟩,
                           ⟨some 53, .bin (.neq) (.other) (.t 52) (.c (.int (.i64) 2)), some (51, false)⟩,
                           ⟨some 54, .pick (.t 51) (.c (.bool true)) (.t 53), none⟩])
                        (.cond (.t 54) (.seq (.ops [⟨some 0, .mov (.c (.bool false)), none⟩]) (.ret)) (.skip)))
                      (.seq
                        (.ops
                          [⟨some 55, .call 24 [], none⟩,
                           ⟨some 56, .slice 2 (.t 55) none (some (.c (.int (.i64) 1))) none, none⟩,
                           ⟨some 57, .call 15 [.t 56, .c (.int (.u32) 4)], none⟩,
                           ⟨some 58, .un (.not) (.t 57), none⟩,
                           ⟨some 59, .mov (.t 58), none⟩,
                           ⟨some 60, .call 24 [], some (59, true)⟩,
                           ⟨some 61,
                             .build [.int (.u32) 0, .int (.u32) 0] [(0, 1, .c (.int (.u32) 1)), (1, 1, .c (.int (.u32) 3))],
                             some (59, true)⟩,
                           ⟨some 62, .call 17 [.t 60, .t 61], some (59, true)⟩,
                           ⟨some 63, .pick (.t 59) (.t 62) (.c (.bool false)), none⟩,
                           ⟨some 64, .mov (.t 63), none⟩,
                           ⟨some 65, .call 24 [], some (64, true)⟩,
                           ⟨some 66, .call 19 [.t 65], some (64, true)⟩,
                           ⟨some 67, .bin (.eql) (.other) (.t 66) (.c (.int (.u64) 5)), some (64, true)⟩,
                           ⟨some 68, .pick (.t 64) (.t 67) (.c (.bool false)), none⟩,
                           ⟨some 69, .mov (.t 68), none⟩,
                           ⟨some 70, .mov (.t 7), some (69, true)⟩,
                           ⟨some 71,
                             .buildSlice [.int (.u32) 0, .int (.u32) 0] 2 1 [(0, 1, .c (.int (.u32) 0)), (1, 1, .c (.int (.u32) 1))],
                             some (69, true)⟩,
                           ⟨some 72, .call 21 [.t 70, .t 71], some (69, true)⟩,
                           ⟨some 73, .pick (.t 69) (.t 72) (.c (.bool false)), none⟩,
                           ⟨some 0, .mov (.t 73), none⟩])
                        (.ret)))))))⟩
theorem c7 : cFunc Try.prog Try.f7 = some sf7 := by kernel_rfl

/-- wharfage/span.Add -/
def sf8 : SFunc := ⟨16,
  [.tmp 4, .tmp 5],
  .seq
            (.ops
              [⟨some 3, .box (.t 1), none⟩,
               ⟨some 4, .mov (.c (.nilsl)), none⟩,
               ⟨some 5, .mov (.c (.int (.i64) 0)), none⟩])
            (.seq
              (.seq
                (.ops
                  [⟨some 6, .mov (.t 0), none⟩,
                   ⟨some 7, .load true 2 (.t 3), none⟩,
                   ⟨some 8, .call 25 [.t 6, .t 7], none⟩,
                   ⟨some 9, .un (.not) (.t 8), none⟩])
                (.cond
                  (.t 9)
                  (.seq
                    (.ops [⟨some 4, .mov (.c (.nilsl)), none⟩, ⟨some 5, .mov (.c (.int (.i64) 2)), none⟩])
                    (.ret))
                  (.skip)))
              (.seq
                (.drawOps
                  [⟨some 10, .mov (.t 0), none⟩,
                   ⟨some 11, .load true 2 (.t 3), none⟩,
                   ⟨some 12, .call 28 [.t 10, .t 11], none⟩,
                   ⟨some 13, .load true 2 (.t 3), none⟩,
                   ⟨some 14, .call 27 [.t 12, .t 13], none⟩,
                   ⟨some 15, .call 26 [.t 14], none⟩,
                   ⟨some 4, .mov (.t 15), none⟩,
                   ⟨some 5, .mov (.c (.int (.i64) 0)), none⟩]
                  [(3, 2)])
                (.ret)))⟩
theorem c8 : cFunc Try.prog Try.f8 = some sf8 := by kernel_rfl

/-- wharfage/wharfageref12.Add -/
def sf9 : SFunc := ⟨19,
  [.tmp 4, .tmp 5],
  .seq
            (.ops
              [⟨some 3, .box (.t 1), none⟩,
               ⟨some 4, .mov (.c (.nilsl)), none⟩,
               ⟨some 5, .mov (.c (.int (.i64) 0)), none⟩])
            (.seq
              (.seq
                (.ops
                  [⟨some 6, .mov (.t 0), none⟩,
                   ⟨some 7, .call 14 [.t 6], none⟩,
                   ⟨some 8, .un (.not) (.t 7), none⟩,
                   ⟨some 9, .mov (.t 8), none⟩,
                   ⟨some 10, .fieldAddr 1 (.t 3), some (9, false)⟩,
                   ⟨some 11, .load false 1 (.t 10), some (9, false)⟩,
                   ⟨some 12, .fieldAddr 0 (.t 3), some (9, false)⟩,
                   ⟨some 13, .load false 1 (.t 12), some (9, false)⟩,
                   ⟨some 14, .bin (.lss) (.other) (.t 11) (.t 13), some (9, false)⟩,
                   ⟨some 15, .pick (.t 9) (.c (.bool true)) (.t 14), none⟩])
                (.cond
                  (.t 15)
                  (.seq
                    (.ops [⟨some 4, .mov (.c (.nilsl)), none⟩, ⟨some 5, .mov (.c (.int (.i64) 2)), none⟩])
                    (.ret))
                  (.skip)))
              (.seq
                (.ops
                  [⟨some 16, .mov (.t 0), none⟩,
                   ⟨some 17, .load true 2 (.t 3), none⟩,
                   ⟨some 18, .call 29 [.t 16, .t 17, .c (.bool true)], none⟩,
                   ⟨some 4, .mov (.t 18), none⟩,
                   ⟨some 5, .mov (.c (.int (.i64) 0)), none⟩])
                (.ret)))⟩
theorem c9 : cFunc Try.prog Try.f9 = some sf9 := by kernel_rfl

/-- wharfage/span.Cut -/
def sf10 : SFunc := ⟨14,
  [.tmp 4, .tmp 5],
  .seq
            (.ops
              [⟨some 3, .box (.t 1), none⟩,
               ⟨some 4, .mov (.c (.nilsl)), none⟩,
               ⟨some 5, .mov (.c (.int (.i64) 0)), none⟩])
            (.seq
              (.seq
                (.ops
                  [⟨some 6, .mov (.t 0), none⟩,
                   ⟨some 7, .load true 2 (.t 3), none⟩,
                   ⟨some 8, .call 25 [.t 6, .t 7], none⟩,
                   ⟨some 9, .un (.not) (.t 8), none⟩])
                (.cond
                  (.t 9)
                  (.seq
                    (.ops [⟨some 4, .mov (.c (.nilsl)), none⟩, ⟨some 5, .mov (.c (.int (.i64) 2)), none⟩])
                    (.ret))
                  (.skip)))
              (.seq
                (.ops
                  [⟨some 10, .mov (.t 0), none⟩,
                   ⟨some 11, .load true 2 (.t 3), none⟩,
                   ⟨some 12, .call 28 [.t 10, .t 11], none⟩,
                   ⟨some 13, .call 26 [.t 12], none⟩,
                   ⟨some 4, .mov (.t 13), none⟩,
                   ⟨some 5, .mov (.c (.int (.i64) 0)), none⟩])
                (.ret)))⟩
theorem c10 : cFunc Try.prog Try.f10 = some sf10 := by kernel_rfl

/-- wharfage/wharfageref12.Cut -/
def sf11 : SFunc := ⟨19,
  [.tmp 4, .tmp 5],
  .seq
            (.ops
              [⟨some 3, .box (.t 1), none⟩,
               ⟨some 4, .mov (.c (.nilsl)), none⟩,
               ⟨some 5, .mov (.c (.int (.i64) 0)), none⟩])
            (.seq
              (.seq
                (.ops
                  [⟨some 6, .mov (.t 0), none⟩,
                   ⟨some 7, .call 14 [.t 6], none⟩,
                   ⟨some 8, .un (.not) (.t 7), none⟩,
                   ⟨some 9, .mov (.t 8), none⟩,
                   ⟨some 10, .fieldAddr 1 (.t 3), some (9, false)⟩,
                   ⟨some 11, .load false 1 (.t 10), some (9, false)⟩,
                   ⟨some 12, .fieldAddr 0 (.t 3), some (9, false)⟩,
                   ⟨some 13, .load false 1 (.t 12), some (9, false)⟩,
                   ⟨some 14, .bin (.lss) (.other) (.t 11) (.t 13), some (9, false)⟩,
                   ⟨some 15, .pick (.t 9) (.c (.bool true)) (.t 14), none⟩])
                (.cond
                  (.t 15)
                  (.seq
                    (.ops [⟨some 4, .mov (.c (.nilsl)), none⟩, ⟨some 5, .mov (.c (.int (.i64) 2)), none⟩])
                    (.ret))
                  (.skip)))
              (.seq
                (.ops
                  [⟨some 16, .mov (.t 0), none⟩,
                   ⟨some 17, .load true 2 (.t 3), none⟩,
                   ⟨some 18, .call 29 [.t 16, .t 17, .c (.bool false)], none⟩,
                   ⟨some 4, .mov (.t 18), none⟩,
                   ⟨some 5, .mov (.c (.int (.i64) 0)), none⟩])
                (.ret)))⟩
theorem c11 : cFunc Try.prog Try.f11 = some sf11 := by kernel_rfl

/-- wharfage/wharfageref00.Spans -/
def sf12 : SFunc := ⟨26,
  [.tmp 4],
  .seq
            (.ops [⟨some 4, .mov (.c (.bool false)), none⟩])
            (.seq
              (.seq
                (.ops
                  [⟨some 6, .mov (.t 0), none⟩,
                   ⟨some 7, .len (.sl) (.t 6), none⟩,
                   ⟨some 8, .mov (.t 1), none⟩,
                   ⟨some 9, .len (.sl) (.t 8), none⟩,
                   ⟨some 10, .bin (.neq) (.other) (.t 7) (.t 9), none⟩])
                (.cond (.t 10) (.seq (.ops [⟨some 4, .mov (.c (.bool false)), none⟩]) (.ret)) (.skip)))
              (.seq
                (.seq
                  (.ops [⟨some 5, .mov (.c (.int (.i64) 0)), none⟩])
                  (.block
                    0
                    (.loop
                      (.seq
                        (.seq
                          (.ops
                            [⟨some 11, .mov (.t 5), none⟩,
                             ⟨some 12, .mov (.t 0), none⟩,
                             ⟨some 13, .len (.sl) (.t 12), none⟩,
                             ⟨some 14, .bin (.lss) (.other) (.t 11) (.t 13), none⟩])
                          (.cond (.t 14) (.skip) (.exit 0)))
                        (.seq
                          (.block
                            1
                            (.seq
                              (.ops
                                [⟨some 17, .mov (.t 0), none⟩,
                                 ⟨some 18, .mov (.t 5), none⟩,
                                 ⟨some 19, .idxAddrSl 2 (.t 17) (.t 18), none⟩,
                                 ⟨some 20, .load true 2 (.t 19), none⟩,
                                 ⟨some 21, .mov (.t 1), none⟩,
                                 ⟨some 22, .mov (.t 5), none⟩,
                                 ⟨some 23, .idxAddrSl 2 (.t 21) (.t 22), none⟩,
                                 ⟨some 24, .load true 2 (.t 23), none⟩,
                                 ⟨some 25, .eqAgg true [1, 1] (.t 20) (.t 24), none⟩])
                              (.cond (.t 25) (.seq (.ops [⟨some 4, .mov (.c (.bool false)), none⟩]) (.ret)) (.skip))))
                          (.ops
                            [⟨some 15, .mov (.t 5), none⟩,
                             ⟨some 16, .bin (.add) (.other) (.t 15) (.c (.int (.i64) 1)), none⟩,
                             ⟨some 5, .mov (.t 16), none⟩]))))))
                (.seq (.ops [⟨some 4, .mov (.c (.bool true)), none⟩]) (.ret))))⟩
theorem c12 : cFunc Try.prog Try.f12 = some sf12 := by kernel_rfl

/-- wharfage/span.May -/
def sf13 : SFunc := ⟨30,
  [.tmp 2],
  .seq
            (.ops [⟨some 2, .mov (.c (.bool false)), none⟩])
            (.seq
              (.seq
                (.ops
                  [⟨some 5, .mov (.t 0), none⟩,
                   ⟨some 6, .len (.sl) (.t 5), none⟩,
                   ⟨some 7, .mov (.c (.int (.i64) 0)), none⟩])
                (.block
                  0
                  (.loop
                    (.seq
                      (.ops [⟨some 8, .bin (.lss) (.other) (.t 7) (.t 6), none⟩])
                      (.seq
                        (.cond (.t 8) (.skip) (.exit 0))
                        (.seq
                          (.block
                            1
                            (.seq
                              (.ops
                                [⟨some 9, .mov (.t 7), none⟩,
                                 ⟨some 10, .idxAddrSl 2 (.t 5) (.t 7), none⟩,
                                 ⟨some 11, .load true 2 (.t 10), none⟩,
                                 ⟨some 4, .box (.c (.agg [.int (.u32) 0, .int (.u32) 0])), none⟩,
                                 ⟨some 3, .mov (.t 9), none⟩,
                                 ⟨none, .store 2 (.t 4) (.t 11), none⟩])
                              (.seq
                                (.ops
                                  [⟨some 12, .load true 2 (.t 4), none⟩,
                                   ⟨some 13, .call 30 [.t 12], none⟩,
                                   ⟨some 14, .mov (.t 13), none⟩,
                                   ⟨some 15, .mov (.t 3), some (14, false)⟩,
                                   ⟨some 16, .bin (.gtr) (.other) (.t 15) (.c (.int (.i64) 0)), some (14, false)⟩,
                                   ⟨some 17, .mov (.t 16), some (14, false)⟩,
                                   ⟨some 18, .fieldAddr 0 (.t 4), some (17, true)⟩,
                                   ⟨some 19, .load false 1 (.t 18), some (17, true)⟩,
                                   ⟨some 20, .mov (.t 0), some (17, true)⟩,
                                   ⟨some 21, .mov (.t 3), some (17, true)⟩,
                                   ⟨some 22, .bin (.sub) (.other) (.t 21) (.c (.int (.i64) 1)), some (17, true)⟩,
                                   ⟨some 23, .idxAddrSl 2 (.t 20) (.t 22), some (17, true)⟩,
                                   ⟨some 24, .fieldAddr 1 (.t 23), some (17, true)⟩,
                                   ⟨some 25, .load false 1 (.t 24), some (17, true)⟩,
                                   ⟨some 26, .bin (.leq) (.other) (.t 19) (.t 25), some (17, true)⟩,
                                   ⟨some 27, .pick (.t 17) (.t 26) (.c (.bool false)), some (14, false)⟩,
                                   ⟨some 28, .pick (.t 14) (.c (.bool true)) (.t 27), none⟩])
                                (.cond (.t 28) (.seq (.ops [⟨some 2, .mov (.c (.bool false)), none⟩]) (.ret)) (.skip)))))
                          (.ops
                            [⟨some 29, .bin (.add) (.other) (.t 7) (.c (.int (.i64) 1)), none⟩,
                             ⟨some 7, .mov (.t 29), none⟩])))))))
              (.seq (.ops [⟨some 2, .mov (.c (.bool true)), none⟩]) (.ret)))⟩
theorem c13 : cFunc Try.prog Try.f13 = some sf13 := by kernel_rfl

/-- wharfage/wharfageref12.May -/
def sf14 : SFunc := ⟨39,
  [.tmp 2],
  .seq
            (.ops [⟨some 2, .mov (.c (.bool false)), none⟩])
            (.seq
              (.seq
                (.ops [⟨some 3, .mov (.c (.int (.i64) 0)), none⟩])
                (.block
                  0
                  (.loop
                    (.seq
                      (.seq
                        (.ops
                          [⟨some 4, .mov (.t 3), none⟩,
                           ⟨some 5, .mov (.t 0), none⟩,
                           ⟨some 6, .len (.sl) (.t 5), none⟩,
                           ⟨some 7, .bin (.lss) (.other) (.t 4) (.t 6), none⟩])
                        (.cond (.t 7) (.skip) (.exit 0)))
                      (.seq
                        (.block
                          1
                          (.seq
                            (.ops
                              [⟨some 10, .mov (.t 0), none⟩,
                               ⟨some 11, .mov (.t 3), none⟩,
                               ⟨some 12, .idxAddrSl 2 (.t 10) (.t 11), none⟩,
                               ⟨some 13, .fieldAddr 0 (.t 12), none⟩,
                               ⟨some 14, .load false 1 (.t 13), none⟩,
                               ⟨some 15, .mov (.t 0), none⟩,
                               ⟨some 16, .mov (.t 3), none⟩,
                               ⟨some 17, .idxAddrSl 2 (.t 15) (.t 16), none⟩,
                               ⟨some 18, .fieldAddr 1 (.t 17), none⟩,
                               ⟨some 19, .load false 1 (.t 18), none⟩,
                               ⟨some 20, .bin (.geq) (.other) (.t 14) (.t 19), none⟩,
                               ⟨some 21, .mov (.t 20), none⟩,
                               ⟨some 22, .mov (.t 3), some (21, false)⟩,
                               ⟨some 23, .bin (.gtr) (.other) (.t 22) (.c (.int (.i64) 0)), some (21, false)⟩,
                               ⟨some 24, .mov (.t 23), some (21, false)⟩,
                               ⟨some 25, .mov (.t 0), some (24, true)⟩,
                               ⟨some 26, .mov (.t 3), some (24, true)⟩,
                               ⟨some 27, .idxAddrSl 2 (.t 25) (.t 26), some (24, true)⟩,
                               ⟨some 28, .fieldAddr 0 (.t 27), some (24, true)⟩,
                               ⟨some 29, .load false 1 (.t 28), some (24, true)⟩,
                               ⟨some 30, .mov (.t 0), some (24, true)⟩,
                               ⟨some 31, .mov (.t 3), some (24, true)⟩,
                               ⟨some 32, .bin (.sub) (.other) (.t 31) (.c (.int (.i64) 1)), some (24, true)⟩,
                               ⟨some 33, .idxAddrSl 2 (.t 30) (.t 32), some (24, true)⟩,
                               ⟨some 34, .fieldAddr 1 (.t 33), some (24, true)⟩,
                               ⟨some 35, .load false 1 (.t 34), some (24, true)⟩,
                               ⟨some 36, .bin (.leq) (.other) (.t 29) (.t 35), some (24, true)⟩,
                               ⟨some 37, .pick (.t 24) (.t 36) (.c (.bool false)), some (21, false)⟩,
                               ⟨some 38, .pick (.t 21) (.c (.bool true)) (.t 37), none⟩])
                            (.cond (.t 38) (.seq (.ops [⟨some 2, .mov (.c (.bool false)), none⟩]) (.ret)) (.skip))))
                        (.ops
                          [⟨some 8, .mov (.t 3), none⟩,
                           ⟨some 9, .bin (.add) (.other) (.t 8) (.c (.int (.i64) 1)), none⟩,
                           ⟨some 3, .mov (.t 9), none⟩]))))))
              (.seq (.ops [⟨some 2, .mov (.c (.bool true)), none⟩]) (.ret)))⟩
theorem c14 : cFunc Try.prog Try.f14 = some sf14 := by kernel_rfl

/-- wharfage/span.Has -/
def sf15 : SFunc := ⟨27,
  [.tmp 4],
  .seq
            (.ops [⟨some 4, .mov (.c (.bool false)), none⟩])
            (.seq
              (.seq
                (.ops
                  [⟨some 7, .mov (.t 0), none⟩,
                   ⟨some 8, .call 13 [.t 7], none⟩,
                   ⟨some 9, .un (.not) (.t 8), none⟩])
                (.cond (.t 9) (.seq (.ops [⟨some 4, .mov (.c (.bool false)), none⟩]) (.ret)) (.skip)))
              (.seq
                (.seq
                  (.ops
                    [⟨some 10, .mov (.t 0), none⟩,
                     ⟨some 11, .len (.sl) (.t 10), none⟩,
                     ⟨some 12, .mov (.c (.int (.i64) 0)), none⟩])
                  (.block
                    0
                    (.loop
                      (.seq
                        (.ops [⟨some 13, .bin (.lss) (.other) (.t 12) (.t 11), none⟩])
                        (.seq
                          (.cond (.t 13) (.skip) (.exit 0))
                          (.seq
                            (.block
                              1
                              (.seq
                                (.ops
                                  [⟨some 14, .idxAddrSl 2 (.t 10) (.t 12), none⟩,
                                   ⟨some 15, .load true 2 (.t 14), none⟩,
                                   ⟨some 6, .box (.c (.agg [.int (.u32) 0, .int (.u32) 0])), none⟩,
                                   ⟨none, .store 2 (.t 6) (.t 15), none⟩])
                                (.seq
                                  (.ops
                                    [⟨some 16, .mov (.t 1), none⟩,
                                     ⟨some 17, .fieldAddr 0 (.t 6), none⟩,
                                     ⟨some 18, .load false 1 (.t 17), none⟩,
                                     ⟨some 19, .bin (.geq) (.other) (.t 16) (.t 18), none⟩,
                                     ⟨some 20, .mov (.t 19), none⟩,
                                     ⟨some 21, .mov (.t 1), some (20, true)⟩,
                                     ⟨some 22, .fieldAddr 1 (.t 6), some (20, true)⟩,
                                     ⟨some 23, .load false 1 (.t 22), some (20, true)⟩,
                                     ⟨some 24, .bin (.lss) (.other) (.t 21) (.t 23), some (20, true)⟩,
                                     ⟨some 25, .pick (.t 20) (.t 24) (.c (.bool false)), none⟩])
                                  (.cond (.t 25) (.seq (.ops [⟨some 4, .mov (.c (.bool true)), none⟩]) (.ret)) (.skip)))))
                            (.ops
                              [⟨some 26, .bin (.add) (.other) (.t 12) (.c (.int (.i64) 1)), none⟩,
                               ⟨some 12, .mov (.t 26), none⟩])))))))
                (.seq (.ops [⟨some 4, .mov (.c (.bool false)), none⟩]) (.ret))))⟩
theorem c15 : cFunc Try.prog Try.f15 = some sf15 := by kernel_rfl

/-- wharfage/wharfageref12.Has -/
def sf16 : SFunc := ⟨12,
  [.tmp 4],
  .seq
            (.ops [⟨some 4, .mov (.c (.bool false)), none⟩])
            (.seq
              (.ops
                [⟨some 5, .mov (.t 0), none⟩,
                 ⟨some 6, .call 14 [.t 5], none⟩,
                 ⟨some 7, .mov (.t 6), none⟩,
                 ⟨some 8, .mov (.t 0), some (7, true)⟩,
                 ⟨some 9, .mov (.t 1), some (7, true)⟩,
                 ⟨some 10, .call 31 [.t 8, .t 9], some (7, true)⟩,
                 ⟨some 11, .pick (.t 7) (.t 10) (.c (.bool false)), none⟩,
                 ⟨some 4, .mov (.t 11), none⟩])
              (.ret))⟩
theorem c16 : cFunc Try.prog Try.f16 = some sf16 := by kernel_rfl

/-- wharfage/span.Holds -/
def sf17 : SFunc := ⟨32,
  [.tmp 4],
  .seq
            (.ops [⟨some 3, .box (.t 1), none⟩, ⟨some 4, .mov (.c (.bool false)), none⟩])
            (.seq
              (.seq
                (.ops
                  [⟨some 7, .mov (.t 0), none⟩,
                   ⟨some 8, .load true 2 (.t 3), none⟩,
                   ⟨some 9, .call 25 [.t 7, .t 8], none⟩,
                   ⟨some 10, .un (.not) (.t 9), none⟩])
                (.cond (.t 10) (.seq (.ops [⟨some 4, .mov (.c (.bool false)), none⟩]) (.ret)) (.skip)))
              (.seq
                (.seq
                  (.ops
                    [⟨some 11, .mov (.t 0), none⟩,
                     ⟨some 12, .len (.sl) (.t 11), none⟩,
                     ⟨some 13, .mov (.c (.int (.i64) 0)), none⟩])
                  (.block
                    0
                    (.loop
                      (.seq
                        (.ops [⟨some 14, .bin (.lss) (.other) (.t 13) (.t 12), none⟩])
                        (.seq
                          (.cond (.t 14) (.skip) (.exit 0))
                          (.seq
                            (.block
                              1
                              (.seq
                                (.ops
                                  [⟨some 15, .idxAddrSl 2 (.t 11) (.t 13), none⟩,
                                   ⟨some 16, .load true 2 (.t 15), none⟩,
                                   ⟨some 6, .box (.c (.agg [.int (.u32) 0, .int (.u32) 0])), none⟩,
                                   ⟨none, .store 2 (.t 6) (.t 16), none⟩])
                                (.seq
                                  (.ops
                                    [⟨some 17, .fieldAddr 0 (.t 3), none⟩,
                                     ⟨some 18, .load false 1 (.t 17), none⟩,
                                     ⟨some 19, .fieldAddr 0 (.t 6), none⟩,
                                     ⟨some 20, .load false 1 (.t 19), none⟩,
                                     ⟨some 21, .bin (.geq) (.other) (.t 18) (.t 20), none⟩,
                                     ⟨some 22, .mov (.t 21), none⟩,
                                     ⟨some 23, .fieldAddr 1 (.t 3), some (22, true)⟩,
                                     ⟨some 24, .load false 1 (.t 23), some (22, true)⟩,
                                     ⟨some 25, .fieldAddr 1 (.t 6), some (22, true)⟩,
                                     ⟨some 26, .load false 1 (.t 25), some (22, true)⟩,
                                     ⟨some 27, .bin (.leq) (.other) (.t 24) (.t 26), some (22, true)⟩,
                                     ⟨some 28, .pick (.t 22) (.t 27) (.c (.bool false)), none⟩])
                                  (.cond (.t 28) (.seq (.ops [⟨some 4, .mov (.c (.bool true)), none⟩]) (.ret)) (.skip)))))
                            (.ops
                              [⟨some 29, .bin (.add) (.other) (.t 13) (.c (.int (.i64) 1)), none⟩,
                               ⟨some 13, .mov (.t 29), none⟩])))))))
                (.seq
                  (.ops
                    [⟨some 30, .load true 2 (.t 3), none⟩,
                     ⟨some 31, .call 30 [.t 30], none⟩,
                     ⟨some 4, .mov (.t 31), none⟩])
                  (.ret))))⟩
theorem c17 : cFunc Try.prog Try.f17 = some sf17 := by kernel_rfl

/-- wharfage/wharfageref12.Holds -/
def sf18 : SFunc := ⟨45,
  [.tmp 4],
  .seq
            (.ops [⟨some 3, .box (.t 1), none⟩, ⟨some 4, .mov (.c (.bool false)), none⟩])
            (.seq
              (.seq
                (.ops
                  [⟨some 6, .mov (.t 0), none⟩,
                   ⟨some 7, .call 14 [.t 6], none⟩,
                   ⟨some 8, .un (.not) (.t 7), none⟩,
                   ⟨some 9, .mov (.t 8), none⟩,
                   ⟨some 10, .fieldAddr 1 (.t 3), some (9, false)⟩,
                   ⟨some 11, .load false 1 (.t 10), some (9, false)⟩,
                   ⟨some 12, .fieldAddr 0 (.t 3), some (9, false)⟩,
                   ⟨some 13, .load false 1 (.t 12), some (9, false)⟩,
                   ⟨some 14, .bin (.lss) (.other) (.t 11) (.t 13), some (9, false)⟩,
                   ⟨some 15, .pick (.t 9) (.c (.bool true)) (.t 14), none⟩])
                (.cond (.t 15) (.seq (.ops [⟨some 4, .mov (.c (.bool false)), none⟩]) (.ret)) (.skip)))
              (.seq
                (.seq
                  (.ops [⟨some 5, .mov (.c (.int (.i64) 0)), none⟩])
                  (.block
                    0
                    (.loop
                      (.seq
                        (.seq
                          (.ops
                            [⟨some 16, .mov (.t 5), none⟩,
                             ⟨some 17, .mov (.t 0), none⟩,
                             ⟨some 18, .len (.sl) (.t 17), none⟩,
                             ⟨some 19, .bin (.lss) (.other) (.t 16) (.t 18), none⟩])
                          (.cond (.t 19) (.skip) (.exit 0)))
                        (.seq
                          (.block
                            1
                            (.seq
                              (.ops
                                [⟨some 22, .mov (.t 0), none⟩,
                                 ⟨some 23, .mov (.t 5), none⟩,
                                 ⟨some 24, .idxAddrSl 2 (.t 22) (.t 23), none⟩,
                                 ⟨some 25, .fieldAddr 0 (.t 24), none⟩,
                                 ⟨some 26, .load false 1 (.t 25), none⟩,
                                 ⟨some 27, .fieldAddr 0 (.t 3), none⟩,
                                 ⟨some 28, .load false 1 (.t 27), none⟩,
                                 ⟨some 29, .bin (.leq) (.other) (.t 26) (.t 28), none⟩,
                                 ⟨some 30, .mov (.t 29), none⟩,
                                 ⟨some 31, .fieldAddr 1 (.t 3), some (30, true)⟩,
                                 ⟨some 32, .load false 1 (.t 31), some (30, true)⟩,
                                 ⟨some 33, .mov (.t 0), some (30, true)⟩,
                                 ⟨some 34, .mov (.t 5), some (30, true)⟩,
                                 ⟨some 35, .idxAddrSl 2 (.t 33) (.t 34), some (30, true)⟩,
                                 ⟨some 36, .fieldAddr 1 (.t 35), some (30, true)⟩,
                                 ⟨some 37, .load false 1 (.t 36), some (30, true)⟩,
                                 ⟨some 38, .bin (.leq) (.other) (.t 32) (.t 37), some (30, true)⟩,
                                 ⟨some 39, .pick (.t 30) (.t 38) (.c (.bool false)), none⟩])
                              (.cond (.t 39) (.seq (.ops [⟨some 4, .mov (.c (.bool true)), none⟩]) (.ret)) (.skip))))
                          (.ops
                            [⟨some 20, .mov (.t 5), none⟩,
                             ⟨some 21, .bin (.add) (.other) (.t 20) (.c (.int (.i64) 1)), none⟩,
                             ⟨some 5, .mov (.t 21), none⟩]))))))
                (.seq
                  (.ops
                    [⟨some 40, .fieldAddr 0 (.t 3), none⟩,
                     ⟨some 41, .load false 1 (.t 40), none⟩,
                     ⟨some 42, .fieldAddr 1 (.t 3), none⟩,
                     ⟨some 43, .load false 1 (.t 42), none⟩,
                     ⟨some 44, .bin (.eql) (.other) (.t 41) (.t 43), none⟩,
                     ⟨some 4, .mov (.t 44), none⟩])
                  (.ret))))⟩
theorem c18 : cFunc Try.prog Try.f18 = some sf18 := by kernel_rfl

/-- wharfage/span.Len -/
def sf19 : SFunc := ⟨24,
  [.tmp 2],
  .seq
            (.ops [⟨some 2, .mov (.c (.int (.u64) 0)), none⟩])
            (.seq
              (.seq
                (.ops
                  [⟨some 5, .mov (.t 0), none⟩,
                   ⟨some 6, .call 13 [.t 5], none⟩,
                   ⟨some 7, .un (.not) (.t 6), none⟩])
                (.cond (.t 7) (.seq (.ops [⟨some 2, .mov (.c (.int (.u64) 0)), none⟩]) (.ret)) (.skip)))
              (.seq
                (.seq
                  (.ops
                    [⟨some 8, .mov (.t 0), none⟩,
                     ⟨some 9, .len (.sl) (.t 8), none⟩,
                     ⟨some 10, .mov (.c (.int (.i64) 0)), none⟩])
                  (.block
                    0
                    (.loop
                      (.seq
                        (.ops [⟨some 11, .bin (.lss) (.other) (.t 10) (.t 9), none⟩])
                        (.seq
                          (.cond (.t 11) (.skip) (.exit 0))
                          (.seq
                            (.block
                              1
                              (.seq
                                (.ops
                                  [⟨some 12, .idxAddrSl 2 (.t 8) (.t 10), none⟩,
                                   ⟨some 13, .load true 2 (.t 12), none⟩,
                                   ⟨some 4, .box (.c (.agg [.int (.u32) 0, .int (.u32) 0])), none⟩,
                                   ⟨none, .store 2 (.t 4) (.t 13), none⟩])
                                (.ops
                                  [⟨some 14, .mov (.t 2), none⟩,
                                   ⟨some 15, .fieldAddr 1 (.t 4), none⟩,
                                   ⟨some 16, .load false 1 (.t 15), none⟩,
                                   ⟨some 17, .fieldAddr 0 (.t 4), none⟩,
                                   ⟨some 18, .load false 1 (.t 17), none⟩,
                                   ⟨some 19, .bin (.sub) (.other) (.t 16) (.t 18), none⟩,
                                   ⟨some 20, .convInt (.u64) (.t 19), none⟩,
                                   ⟨some 21, .bin (.add) (.other) (.t 14) (.t 20), none⟩,
                                   ⟨some 2, .mov (.t 21), none⟩])))
                            (.ops
                              [⟨some 22, .bin (.add) (.other) (.t 10) (.c (.int (.i64) 1)), none⟩,
                               ⟨some 10, .mov (.t 22), none⟩])))))))
                (.seq (.ops [⟨some 23, .mov (.t 2), none⟩, ⟨some 2, .mov (.t 23), none⟩]) (.ret))))⟩
theorem c19 : cFunc Try.prog Try.f19 = some sf19 := by kernel_rfl

/-- wharfage/wharfageref12.Len -/
def sf20 : SFunc := ⟨30,
  [.tmp 2],
  .seq
            (.ops [⟨some 2, .mov (.c (.int (.u64) 0)), none⟩])
            (.seq
              (.ops [⟨some 3, .mov (.c (.int (.u64) 0)), none⟩])
              (.seq
                (.seq
                  (.ops [⟨some 4, .mov (.c (.int (.i64) 0)), none⟩])
                  (.block
                    0
                    (.loop
                      (.seq
                        (.seq
                          (.ops
                            [⟨some 5, .mov (.t 4), none⟩,
                             ⟨some 6, .mov (.t 0), none⟩,
                             ⟨some 7, .len (.sl) (.t 6), none⟩,
                             ⟨some 8, .bin (.lss) (.other) (.t 5) (.t 7), none⟩,
                             ⟨some 9, .mov (.t 8), none⟩,
                             ⟨some 10, .mov (.t 0), some (9, true)⟩,
                             ⟨some 11, .call 14 [.t 10], some (9, true)⟩,
                             ⟨some 12, .pick (.t 9) (.t 11) (.c (.bool false)), none⟩])
                          (.cond (.t 12) (.skip) (.exit 0)))
                        (.seq
                          (.block
                            1
                            (.ops
                              [⟨some 15, .mov (.t 3), none⟩,
                               ⟨some 16, .mov (.t 0), none⟩,
                               ⟨some 17, .mov (.t 4), none⟩,
                               ⟨some 18, .idxAddrSl 2 (.t 16) (.t 17), none⟩,
                               ⟨some 19, .fieldAddr 1 (.t 18), none⟩,
                               ⟨some 20, .load false 1 (.t 19), none⟩,
                               ⟨some 21, .mov (.t 0), none⟩,
                               ⟨some 22, .mov (.t 4), none⟩,
                               ⟨some 23, .idxAddrSl 2 (.t 21) (.t 22), none⟩,
                               ⟨some 24, .fieldAddr 0 (.t 23), none⟩,
                               ⟨some 25, .load false 1 (.t 24), none⟩,
                               ⟨some 26, .bin (.sub) (.other) (.t 20) (.t 25), none⟩,
                               ⟨some 27, .convInt (.u64) (.t 26), none⟩,
                               ⟨some 28, .bin (.add) (.other) (.t 15) (.t 27), none⟩,
                               ⟨some 3, .mov (.t 28), none⟩]))
                          (.ops
                            [⟨some 13, .mov (.t 4), none⟩,
                             ⟨some 14, .bin (.add) (.other) (.t 13) (.c (.int (.i64) 1)), none⟩,
                             ⟨some 4, .mov (.t 14), none⟩]))))))
                (.seq (.ops [⟨some 29, .mov (.t 3), none⟩, ⟨some 2, .mov (.t 29), none⟩]) (.ret))))⟩
theorem c20 : cFunc Try.prog Try.f20 = some sf20 := by kernel_rfl

/-- wharfage/wharfageref00.Ints -/
def sf21 : SFunc := ⟨26,
  [.tmp 4],
  .seq
            (.ops [⟨some 4, .mov (.c (.bool false)), none⟩])
            (.seq
              (.seq
                (.ops
                  [⟨some 6, .mov (.t 0), none⟩,
                   ⟨some 7, .len (.sl) (.t 6), none⟩,
                   ⟨some 8, .mov (.t 1), none⟩,
                   ⟨some 9, .len (.sl) (.t 8), none⟩,
                   ⟨some 10, .bin (.neq) (.other) (.t 7) (.t 9), none⟩])
                (.cond (.t 10) (.seq (.ops [⟨some 4, .mov (.c (.bool false)), none⟩]) (.ret)) (.skip)))
              (.seq
                (.seq
                  (.ops [⟨some 5, .mov (.c (.int (.i64) 0)), none⟩])
                  (.block
                    0
                    (.loop
                      (.seq
                        (.seq
                          (.ops
                            [⟨some 11, .mov (.t 5), none⟩,
                             ⟨some 12, .mov (.t 0), none⟩,
                             ⟨some 13, .len (.sl) (.t 12), none⟩,
                             ⟨some 14, .bin (.lss) (.other) (.t 11) (.t 13), none⟩])
                          (.cond (.t 14) (.skip) (.exit 0)))
                        (.seq
                          (.block
                            1
                            (.seq
                              (.ops
                                [⟨some 17, .mov (.t 0), none⟩,
                                 ⟨some 18, .mov (.t 5), none⟩,
                                 ⟨some 19, .idxAddrSl 1 (.t 17) (.t 18), none⟩,
                                 ⟨some 20, .load false 1 (.t 19), none⟩,
                                 ⟨some 21, .mov (.t 1), none⟩,
                                 ⟨some 22, .mov (.t 5), none⟩,
                                 ⟨some 23, .idxAddrSl 1 (.t 21) (.t 22), none⟩,
                                 ⟨some 24, .load false 1 (.t 23), none⟩,
                                 ⟨some 25, .bin (.neq) (.other) (.t 20) (.t 24), none⟩])
                              (.cond (.t 25) (.seq (.ops [⟨some 4, .mov (.c (.bool false)), none⟩]) (.ret)) (.skip))))
                          (.ops
                            [⟨some 15, .mov (.t 5), none⟩,
                             ⟨some 16, .bin (.add) (.other) (.t 15) (.c (.int (.i64) 1)), none⟩,
                             ⟨some 5, .mov (.t 16), none⟩]))))))
                (.seq (.ops [⟨some 4, .mov (.c (.bool true)), none⟩]) (.ret))))⟩
theorem c21 : cFunc Try.prog Try.f21 = some sf21 := by kernel_rfl

/-- wharfage/span.Pages -/
def sf22 : SFunc := ⟨27,
  [.tmp 2],
  .seq
            (.ops [⟨some 1, .box (.t 0), none⟩, ⟨some 2, .mov (.c (.nilsl)), none⟩])
            (.seq
              (.seq
                (.ops
                  [⟨some 5, .load true 2 (.t 1), none⟩,
                   ⟨some 6, .call 30 [.t 5], none⟩,
                   ⟨some 7, .mov (.t 6), none⟩,
                   ⟨some 8, .fieldAddr 1 (.t 1), some (7, false)⟩,
                   ⟨some 9, .load false 1 (.t 8), some (7, false)⟩,
                   ⟨some 10, .bin (.gtr) (.other) (.t 9) (.c (.int (.u32) 4096)), some (7, false)⟩,
                   ⟨some 11, .pick (.t 7) (.c (.bool true)) (.t 10), none⟩])
                (.cond (.t 11) (.seq (.ops [⟨some 2, .mov (.c (.nilsl)), none⟩]) (.ret)) (.skip)))
              (.seq
                (.ops [⟨some 3, .mov (.c (.nilsl)), none⟩])
                (.seq
                  (.seq
                    (.ops
                      [⟨some 12, .fieldAddr 0 (.t 1), none⟩,
                       ⟨some 13, .load false 1 (.t 12), none⟩,
                       ⟨some 14, .bin (.quo) (.other) (.t 13) (.c (.int (.u32) 64)), none⟩,
                       ⟨some 4, .mov (.t 14), none⟩])
                    (.block
                      0
                      (.loop
                        (.seq
                          (.seq
                            (.ops
                              [⟨some 15, .mov (.t 4), none⟩,
                               ⟨some 16, .bin (.mul) (.other) (.t 15) (.c (.int (.u32) 64)), none⟩,
                               ⟨some 17, .fieldAddr 1 (.t 1), none⟩,
                               ⟨some 18, .load false 1 (.t 17), none⟩,
                               ⟨some 19, .bin (.lss) (.other) (.t 16) (.t 18), none⟩])
                            (.cond (.t 19) (.skip) (.exit 0)))
                          (.seq
                            (.block
                              1
                              (.ops
                                [⟨some 22, .mov (.t 3), none⟩,
                                 ⟨some 23, .mov (.t 4), none⟩,
                                 ⟨some 24, .buildSlice [.int (.u32) 0] 1 1 [(0, 1, .t 23)], none⟩,
                                 ⟨some 25, .append 1 4 (.t 22) (.t 24), none⟩,
                                 ⟨some 3, .mov (.t 25), none⟩]))
                            (.ops
                              [⟨some 20, .mov (.t 4), none⟩,
                               ⟨some 21, .bin (.add) (.other) (.t 20) (.c (.int (.u32) 1)), none⟩,
                               ⟨some 4, .mov (.t 21), none⟩]))))))
                  (.seq (.ops [⟨some 26, .mov (.t 3), none⟩, ⟨some 2, .mov (.t 26), none⟩]) (.ret)))))⟩
theorem c22 : cFunc Try.prog Try.f22 = some sf22 := by kernel_rfl

/-- wharfage/wharfageref12.Pages -/
def sf23 : SFunc := ⟨38,
  [.tmp 2],
  .seq
            (.ops [⟨some 1, .box (.t 0), none⟩, ⟨some 2, .mov (.c (.nilsl)), none⟩])
            (.seq
              (.ops [⟨some 3, .mov (.c (.nilsl)), none⟩])
              (.seq
                (.seq
                  (.ops
                    [⟨some 5, .fieldAddr 0 (.t 1), none⟩,
                     ⟨some 6, .load false 1 (.t 5), none⟩,
                     ⟨some 7, .fieldAddr 1 (.t 1), none⟩,
                     ⟨some 8, .load false 1 (.t 7), none⟩,
                     ⟨some 9, .bin (.geq) (.other) (.t 6) (.t 8), none⟩,
                     ⟨some 10, .mov (.t 9), none⟩,
                     ⟨some 11, .fieldAddr 1 (.t 1), some (10, false)⟩,
                     ⟨some 12, .load false 1 (.t 11), some (10, false)⟩,
                     ⟨some 13, .bin (.gtr) (.other) (.t 12) (.c (.int (.u32) 4096)), some (10, false)⟩,
                     ⟨some 14, .pick (.t 10) (.c (.bool true)) (.t 13), none⟩])
                  (.cond
                    (.t 14)
                    (.seq (.ops [⟨some 15, .mov (.t 3), none⟩, ⟨some 2, .mov (.t 15), none⟩]) (.ret))
                    (.skip)))
                (.seq
                  (.seq
                    (.ops [⟨some 4, .mov (.c (.int (.u32) 0)), none⟩])
                    (.block
                      0
                      (.loop
                        (.seq
                          (.seq
                            (.ops
                              [⟨some 16, .mov (.t 4), none⟩,
                               ⟨some 17, .bin (.lss) (.other) (.t 16) (.c (.int (.u32) 64)), none⟩])
                            (.cond (.t 17) (.skip) (.exit 0)))
                          (.seq
                            (.block
                              1
                              (.seq
                                (.ops
                                  [⟨some 20, .fieldAddr 0 (.t 1), none⟩,
                                   ⟨some 21, .load false 1 (.t 20), none⟩,
                                   ⟨some 22, .mov (.t 4), none⟩,
                                   ⟨some 23, .bin (.add) (.other) (.t 22) (.c (.int (.u32) 1)), none⟩,
                                   ⟨some 24, .bin (.mul) (.other) (.t 23) (.c (.int (.u32) 64)), none⟩,
                                   ⟨some 25, .bin (.lss) (.other) (.t 21) (.t 24), none⟩,
                                   ⟨some 26, .mov (.t 25), none⟩,
                                   ⟨some 27, .mov (.t 4), some (26, true)⟩,
                                   ⟨some 28, .bin (.mul) (.other) (.t 27) (.c (.int (.u32) 64)), some (26, true)⟩,
                                   ⟨some 29, .fieldAddr 1 (.t 1), some (26, true)⟩,
                                   ⟨some 30, .load false 1 (.t 29), some (26, true)⟩,
                                   ⟨some 31, .bin (.lss) (.other) (.t 28) (.t 30), some (26, true)⟩,
                                   ⟨some 32, .pick (.t 26) (.t 31) (.c (.bool false)), none⟩])
                                (.cond
                                  (.t 32)
                                  (.ops
                                    [⟨some 33, .mov (.t 3), none⟩,
                                     ⟨some 34, .mov (.t 4), none⟩,
                                     ⟨some 35, .buildSlice [.int (.u32) 0] 1 1 [(0, 1, .t 34)], none⟩,
                                     ⟨some 36, .append 1 4 (.t 33) (.t 35), none⟩,
                                     ⟨some 3, .mov (.t 36), none⟩])
                                  (.skip))))
                            (.ops
                              [⟨some 18, .mov (.t 4), none⟩,
                               ⟨some 19, .bin (.add) (.other) (.t 18) (.c (.int (.u32) 1)), none⟩,
                               ⟨some 4, .mov (.t 19), none⟩]))))))
                  (.seq (.ops [⟨some 37, .mov (.t 3), none⟩, ⟨some 2, .mov (.t 37), none⟩]) (.ret)))))⟩
theorem c23 : cFunc Try.prog Try.f23 = some sf23 := by kernel_rfl

/-- wharfage/wharfagelaw12.two -/
def sf24 : SFunc := ⟨4,
  [.tmp 0],
  .seq
            (.ops [⟨some 0, .mov (.c (.nilsl)), none⟩])
            (.seq
              (.ops
                [⟨some 1,
                   .build [.int (.u32) 0, .int (.u32) 0] [(0, 1, .c (.int (.u32) 0)), (1, 1, .c (.int (.u32) 4))],
                   none⟩,
                 ⟨some 2,
                   .build [.int (.u32) 0, .int (.u32) 0] [(0, 1, .c (.int (.u32) 8)), (1, 1, .c (.int (.u32) 9))],
                   none⟩,
                 ⟨some 3,
                   .buildSlice [.int (.u32) 0, .int (.u32) 0, .int (.u32) 0, .int (.u32) 0] 2 2 [(0, 2, .t 1), (2, 2, .t 2)],
                   none⟩,
                 ⟨some 0, .mov (.t 3), none⟩])
              (.ret))⟩
theorem c24 : cFunc Try.prog Try.f24 = some sf24 := by kernel_rfl

/-- wharfage/span.may -/
def sf25 : SFunc := ⟨14,
  [.tmp 4],
  .seq
            (.ops [⟨some 3, .box (.t 1), none⟩, ⟨some 4, .mov (.c (.bool false)), none⟩])
            (.seq
              (.ops
                [⟨some 5, .fieldAddr 0 (.t 3), none⟩,
                 ⟨some 6, .load false 1 (.t 5), none⟩,
                 ⟨some 7, .fieldAddr 1 (.t 3), none⟩,
                 ⟨some 8, .load false 1 (.t 7), none⟩,
                 ⟨some 9, .bin (.leq) (.other) (.t 6) (.t 8), none⟩,
                 ⟨some 10, .mov (.t 9), none⟩,
                 ⟨some 11, .mov (.t 0), some (10, true)⟩,
                 ⟨some 12, .call 13 [.t 11], some (10, true)⟩,
                 ⟨some 13, .pick (.t 10) (.t 12) (.c (.bool false)), none⟩,
                 ⟨some 4, .mov (.t 13), none⟩])
              (.ret))⟩
theorem c25 : cFunc Try.prog Try.f25 = some sf25 := by kernel_rfl

/-- wharfage/span.gather -/
def sf26 : SFunc := ⟨34,
  [.tmp 2],
  .seq
            (.ops [⟨some 2, .mov (.c (.nilsl)), none⟩])
            (.seq
              (.ops [⟨some 3, .box (.c (.nilsl)), none⟩])
              (.seq
                (.seq
                  (.ops [⟨some 6, .mov (.t 0), none⟩])
                  (.block
                    0
                    (.rangeFunc
                      (.t 6)
                      [7]
                      (.ops
                        [⟨some 4, .box (.c (.agg [.int (.u32) 0, .int (.u32) 0])), none⟩,
                         ⟨none, .store 2 (.t 4) (.t 7), none⟩])
                      (.block
                        1
                        (.seq
                          (.ops
                            [⟨some 8, .load false 1 (.t 3), none⟩,
                             ⟨some 9, .len (.sl) (.t 8), none⟩,
                             ⟨some 10, .bin (.sub) (.other) (.t 9) (.c (.int (.i64) 1)), none⟩,
                             ⟨some 5, .mov (.t 10), none⟩])
                          (.seq
                            (.ops
                              [⟨some 11, .mov (.t 5), none⟩,
                               ⟨some 12, .bin (.geq) (.other) (.t 11) (.c (.int (.i64) 0)), none⟩,
                               ⟨some 13, .mov (.t 12), none⟩,
                               ⟨some 14, .load false 1 (.t 3), some (13, true)⟩,
                               ⟨some 15, .mov (.t 5), some (13, true)⟩,
                               ⟨some 16, .idxAddrSl 2 (.t 14) (.t 15), some (13, true)⟩,
                               ⟨some 17, .fieldAddr 1 (.t 16), some (13, true)⟩,
                               ⟨some 18, .load false 1 (.t 17), some (13, true)⟩,
                               ⟨some 19, .fieldAddr 0 (.t 4), some (13, true)⟩,
                               ⟨some 20, .load false 1 (.t 19), some (13, true)⟩,
                               ⟨some 21, .bin (.eql) (.other) (.t 18) (.t 20), some (13, true)⟩,
                               ⟨some 22, .pick (.t 13) (.t 21) (.c (.bool false)), none⟩])
                            (.cond
                              (.t 22)
                              (.ops
                                [⟨some 23, .load false 1 (.t 3), none⟩,
                                 ⟨some 24, .mov (.t 5), none⟩,
                                 ⟨some 25, .fieldAddr 1 (.t 4), none⟩,
                                 ⟨some 26, .load false 1 (.t 25), none⟩,
                                 ⟨some 27, .idxAddrSl 2 (.t 23) (.t 24), none⟩,
                                 ⟨some 28, .fieldAddr 1 (.t 27), none⟩,
                                 ⟨none, .store 1 (.t 28) (.t 26), none⟩])
                              (.ops
                                [⟨some 29, .load false 1 (.t 3), none⟩,
                                 ⟨some 30, .load true 2 (.t 4), none⟩,
                                 ⟨some 31, .buildSlice [.int (.u32) 0, .int (.u32) 0] 1 2 [(0, 2, .t 30)], none⟩,
                                 ⟨some 32, .append 2 8 (.t 29) (.t 31), none⟩,
                                 ⟨none, .store 1 (.t 3) (.t 32), none⟩]))))))))
                (.seq (.ops [⟨some 33, .load false 1 (.t 3), none⟩, ⟨some 2, .mov (.t 33), none⟩]) (.ret))))⟩
theorem c26 : cFunc Try.prog Try.f26 = some sf26 := by kernel_rfl

/-- wharfage/span.with -/
def sf27 : SFunc := ⟨6,
  [.tmp 4],
  .seq
            (.ops
              [⟨some 2, .box (.t 0), none⟩,
               ⟨some 3, .box (.t 1), none⟩,
               ⟨some 4, .mov (.c (.nilf)), none⟩])
            (.seq (.ops [⟨some 5, .mkFunc 32 [] [.t 3, .t 2], none⟩, ⟨some 4, .mov (.t 5), none⟩]) (.ret))⟩
theorem c27 : cFunc Try.prog Try.f27 = some sf27 := by kernel_rfl

/-- wharfage/span.rest -/
def sf28 : SFunc := ⟨6,
  [.tmp 4],
  .seq
            (.ops
              [⟨some 2, .box (.t 0), none⟩,
               ⟨some 3, .box (.t 1), none⟩,
               ⟨some 4, .mov (.c (.nilf)), none⟩])
            (.seq (.ops [⟨some 5, .mkFunc 33 [] [.t 2, .t 3], none⟩, ⟨some 4, .mov (.t 5), none⟩]) (.ret))⟩
theorem c28 : cFunc Try.prog Try.f28 = some sf28 := by kernel_rfl

/-- wharfage/wharfageref12.set -/
def sf29 : SFunc := ⟨96,
  [.tmp 6],
  .seq
            (.ops [⟨some 4, .box (.t 1), none⟩, ⟨some 6, .mov (.c (.nilsl)), none⟩])
            (.seq
              (.ops
                [⟨some 13, .mov (.t 0), none⟩,
                 ⟨some 14, .load true 2 (.t 4), none⟩,
                 ⟨some 15, .call 34 [.t 13, .t 14], none⟩,
                 ⟨some 7, .mov (.t 15), none⟩])
              (.seq
                (.ops [⟨some 8, .mov (.c (.nilsl)), none⟩])
                (.seq
                  (.seq
                    (.ops [⟨some 9, .mov (.c (.int (.i64) 0)), none⟩])
                    (.block
                      0
                      (.loop
                        (.seq
                          (.seq
                            (.ops
                              [⟨some 16, .mov (.t 9), none⟩,
                               ⟨some 17, .bin (.add) (.other) (.t 16) (.c (.int (.i64) 1)), none⟩,
                               ⟨some 18, .mov (.t 7), none⟩,
                               ⟨some 19, .len (.sl) (.t 18), none⟩,
                               ⟨some 20, .bin (.lss) (.other) (.t 17) (.t 19), none⟩])
                            (.cond (.t 20) (.skip) (.exit 0)))
                          (.seq
                            (.block
                              1
                              (.seq
                                (.ops
                                  [⟨some 23, .mov (.t 7), none⟩,
                                   ⟨some 24, .mov (.t 9), none⟩,
                                   ⟨some 25, .idxAddrSl 1 (.t 23) (.t 24), none⟩,
                                   ⟨some 26, .load false 1 (.t 25), none⟩,
                                   ⟨some 10, .mov (.t 26), none⟩])
                                (.seq
                                  (.ops
                                    [⟨some 27, .mov (.t 10), none⟩,
                                     ⟨some 28, .fieldAddr 0 (.t 4), none⟩,
                                     ⟨some 29, .load false 1 (.t 28), none⟩,
                                     ⟨some 30, .bin (.geq) (.other) (.t 27) (.t 29), none⟩,
                                     ⟨some 31, .mov (.t 30), none⟩,
                                     ⟨some 32, .mov (.t 10), some (31, true)⟩,
                                     ⟨some 33, .fieldAddr 1 (.t 4), some (31, true)⟩,
                                     ⟨some 34, .load false 1 (.t 33), some (31, true)⟩,
                                     ⟨some 35, .bin (.lss) (.other) (.t 32) (.t 34), some (31, true)⟩,
                                     ⟨some 36, .pick (.t 31) (.t 35) (.c (.bool false)), none⟩,
                                     ⟨some 11, .mov (.t 36), none⟩])
                                  (.seq
                                    (.seq
                                      (.ops
                                        [⟨some 37, .mov (.t 2), none⟩,
                                         ⟨some 38, .mov (.t 37), none⟩,
                                         ⟨some 39, .mov (.t 11), some (38, true)⟩,
                                         ⟨some 40, .un (.not) (.t 39), some (38, true)⟩,
                                         ⟨some 41, .pick (.t 38) (.t 40) (.c (.bool false)), none⟩,
                                         ⟨some 42, .mov (.t 41), none⟩,
                                         ⟨some 43, .mov (.t 0), some (42, true)⟩,
                                         ⟨some 44, .mov (.t 10), some (42, true)⟩,
                                         ⟨some 45, .call 31 [.t 43, .t 44], some (42, true)⟩,
                                         ⟨some 46, .un (.not) (.t 45), some (42, true)⟩,
                                         ⟨some 47, .pick (.t 42) (.t 46) (.c (.bool false)), none⟩,
                                         ⟨some 48, .mov (.t 47), none⟩,
                                         ⟨some 49, .mov (.t 2), some (48, false)⟩,
                                         ⟨some 50, .un (.not) (.t 49), some (48, false)⟩,
                                         ⟨some 51, .mov (.t 50), some (48, false)⟩,
                                         ⟨some 52, .mov (.t 11), some (51, true)⟩,
                                         ⟨some 53, .mov (.t 52), some (51, true)⟩,
                                         ⟨some 54, .mov (.t 0), some (53, false)⟩,
                                         ⟨some 55, .mov (.t 10), some (53, false)⟩,
                                         ⟨some 56, .call 31 [.t 54, .t 55], some (53, false)⟩,
                                         ⟨some 57, .un (.not) (.t 56), some (53, false)⟩,
                                         ⟨some 58, .pick (.t 53) (.c (.bool true)) (.t 57), some (51, true)⟩,
                                         ⟨some 59, .pick (.t 51) (.t 58) (.c (.bool false)), some (48, false)⟩,
                                         ⟨some 60, .pick (.t 48) (.c (.bool true)) (.t 59), none⟩])
                                      (.cond (.t 60) (.exit 1) (.skip)))
                                    (.seq
                                      (.ops
                                        [⟨some 61, .mov (.t 8), none⟩,
                                         ⟨some 62, .len (.sl) (.t 61), none⟩,
                                         ⟨some 12, .mov (.t 62), none⟩])
                                      (.seq
                                        (.ops
                                          [⟨some 63, .mov (.t 12), none⟩,
                                           ⟨some 64, .bin (.gtr) (.other) (.t 63) (.c (.int (.i64) 0)), none⟩,
                                           ⟨some 65, .mov (.t 64), none⟩,
                                           ⟨some 66, .mov (.t 8), some (65, true)⟩,
                                           ⟨some 67, .mov (.t 12), some (65, true)⟩,
                                           ⟨some 68, .bin (.sub) (.other) (.t 67) (.c (.int (.i64) 1)), some (65, true)⟩,
                                           ⟨some 69, .idxAddrSl 2 (.t 66) (.t 68), some (65, true)⟩,
                                           ⟨some 70, .fieldAddr 1 (.t 69), some (65, true)⟩,
                                           ⟨some 71, .load false 1 (.t 70), some (65, true)⟩,
                                           ⟨some 72, .mov (.t 10), some (65, true)⟩,
                                           ⟨some 73, .bin (.eql) (.other) (.t 71) (.t 72), some (65, true)⟩,
                                           ⟨some 74, .pick (.t 65) (.t 73) (.c (.bool false)), none⟩])
                                        (.cond
                                          (.t 74)
                                          (.ops
                                            [⟨some 75, .mov (.t 8), none⟩,
                                             ⟨some 76, .mov (.t 12), none⟩,
                                             ⟨some 77, .bin (.sub) (.other) (.t 76) (.c (.int (.i64) 1)), none⟩,
                                             ⟨some 78, .mov (.t 7), none⟩,
                                             ⟨some 79, .mov (.t 9), none⟩,
                                             ⟨some 80, .bin (.add) (.other) (.t 79) (.c (.int (.i64) 1)), none⟩,
                                             ⟨some 81, .idxAddrSl 1 (.t 78) (.t 80), none⟩,
                                             ⟨some 82, .load false 1 (.t 81), none⟩,
                                             ⟨some 83, .idxAddrSl 2 (.t 75) (.t 77), none⟩,
                                             ⟨some 84, .fieldAddr 1 (.t 83), none⟩,
                                             ⟨none, .store 1 (.t 84) (.t 82), none⟩])
                                          (.ops
                                            [⟨some 85, .mov (.t 8), none⟩,
                                             ⟨some 86, .mov (.t 10), none⟩,
                                             ⟨some 87, .mov (.t 7), none⟩,
                                             ⟨some 88, .mov (.t 9), none⟩,
                                             ⟨some 89, .bin (.add) (.other) (.t 88) (.c (.int (.i64) 1)), none⟩,
                                             ⟨some 90, .idxAddrSl 1 (.t 87) (.t 89), none⟩,
                                             ⟨some 91, .load false 1 (.t 90), none⟩,
                                             ⟨some 92, .build [.int (.u32) 0, .int (.u32) 0] [(0, 1, .t 86), (1, 1, .t 91)], none⟩,
                                             ⟨some 93, .buildSlice [.int (.u32) 0, .int (.u32) 0] 1 2 [(0, 2, .t 92)], none⟩,
                                             ⟨some 94, .append 2 8 (.t 85) (.t 93), none⟩,
                                             ⟨some 8, .mov (.t 94), none⟩]))))))))
                            (.ops
                              [⟨some 21, .mov (.t 9), none⟩,
                               ⟨some 22, .bin (.add) (.other) (.t 21) (.c (.int (.i64) 1)), none⟩,
                               ⟨some 9, .mov (.t 22), none⟩]))))))
                  (.seq (.ops [⟨some 95, .mov (.t 8), none⟩, ⟨some 6, .mov (.t 95), none⟩]) (.ret)))))⟩
theorem c29 : cFunc Try.prog Try.f29 = some sf29 := by kernel_rfl

/-- wharfage/span.empty -/
def sf30 : SFunc := ⟨8,
  [.tmp 2],
  .seq
            (.ops [⟨some 1, .box (.t 0), none⟩, ⟨some 2, .mov (.c (.bool false)), none⟩])
            (.seq
              (.ops
                [⟨some 3, .fieldAddr 0 (.t 1), none⟩,
                 ⟨some 4, .load false 1 (.t 3), none⟩,
                 ⟨some 5, .fieldAddr 1 (.t 1), none⟩,
                 ⟨some 6, .load false 1 (.t 5), none⟩,
                 ⟨some 7, .bin (.geq) (.other) (.t 4) (.t 6), none⟩,
                 ⟨some 2, .mov (.t 7), none⟩])
              (.ret))⟩
theorem c30 : cFunc Try.prog Try.f30 = some sf30 := by kernel_rfl

/-- wharfage/wharfageref12.in -/
def sf31 : SFunc := ⟨28,
  [.tmp 4],
  .seq
            (.ops [⟨some 4, .mov (.c (.bool false)), none⟩])
            (.seq
              (.seq
                (.ops [⟨some 5, .mov (.c (.int (.i64) 0)), none⟩])
                (.block
                  0
                  (.loop
                    (.seq
                      (.seq
                        (.ops
                          [⟨some 6, .mov (.t 5), none⟩,
                           ⟨some 7, .mov (.t 0), none⟩,
                           ⟨some 8, .len (.sl) (.t 7), none⟩,
                           ⟨some 9, .bin (.lss) (.other) (.t 6) (.t 8), none⟩])
                        (.cond (.t 9) (.skip) (.exit 0)))
                      (.seq
                        (.block
                          1
                          (.seq
                            (.ops
                              [⟨some 12, .mov (.t 1), none⟩,
                               ⟨some 13, .mov (.t 0), none⟩,
                               ⟨some 14, .mov (.t 5), none⟩,
                               ⟨some 15, .idxAddrSl 2 (.t 13) (.t 14), none⟩,
                               ⟨some 16, .fieldAddr 0 (.t 15), none⟩,
                               ⟨some 17, .load false 1 (.t 16), none⟩,
                               ⟨some 18, .bin (.geq) (.other) (.t 12) (.t 17), none⟩,
                               ⟨some 19, .mov (.t 18), none⟩,
                               ⟨some 20, .mov (.t 1), some (19, true)⟩,
                               ⟨some 21, .mov (.t 0), some (19, true)⟩,
                               ⟨some 22, .mov (.t 5), some (19, true)⟩,
                               ⟨some 23, .idxAddrSl 2 (.t 21) (.t 22), some (19, true)⟩,
                               ⟨some 24, .fieldAddr 1 (.t 23), some (19, true)⟩,
                               ⟨some 25, .load false 1 (.t 24), some (19, true)⟩,
                               ⟨some 26, .bin (.lss) (.other) (.t 20) (.t 25), some (19, true)⟩,
                               ⟨some 27, .pick (.t 19) (.t 26) (.c (.bool false)), none⟩])
                            (.cond (.t 27) (.seq (.ops [⟨some 4, .mov (.c (.bool true)), none⟩]) (.ret)) (.skip))))
                        (.ops
                          [⟨some 10, .mov (.t 5), none⟩,
                           ⟨some 11, .bin (.add) (.other) (.t 10) (.c (.int (.i64) 1)), none⟩,
                           ⟨some 5, .mov (.t 11), none⟩]))))))
              (.seq (.ops [⟨some 4, .mov (.c (.bool false)), none⟩]) (.ret)))⟩
theorem c31 : cFunc Try.prog Try.f31 = some sf31 := by kernel_rfl

/-- wharfage/span.with$1 -/
def sf32 : SFunc := ⟨32,
  [],
  .seq
            (.ops [⟨some 3, .box (.t 0), none⟩])
            (.seq
              (.ops
                [⟨some 6, .load true 2 (.t 1), none⟩,
                 ⟨some 7, .call 30 [.t 6], none⟩,
                 ⟨some 4, .box (.c (.bool false)), none⟩,
                 ⟨none, .store 1 (.t 4) (.t 7), none⟩])
              (.seq
                (.seq
                  (.ops [⟨some 8, .load false 1 (.t 2), none⟩])
                  (.block
                    0
                    (.rangeFunc
                      (.t 8)
                      [9]
                      (.ops
                        [⟨some 5, .box (.c (.agg [.int (.u32) 0, .int (.u32) 0])), none⟩,
                         ⟨none, .store 2 (.t 5) (.t 9), none⟩])
                      (.block
                        1
                        (.seq
                          (.seq
                            (.ops
                              [⟨some 10, .load false 1 (.t 4), none⟩,
                               ⟨some 11, .un (.not) (.t 10), none⟩,
                               ⟨some 12, .mov (.t 11), none⟩,
                               ⟨some 13, .fieldAddr 0 (.t 5), some (12, true)⟩,
                               ⟨some 14, .load false 1 (.t 13), some (12, true)⟩,
                               ⟨some 15, .fieldAddr 1 (.t 1), some (12, true)⟩,
                               ⟨some 16, .load false 1 (.t 15), some (12, true)⟩,
                               ⟨some 17, .bin (.geq) (.other) (.t 14) (.t 16), some (12, true)⟩,
                               ⟨some 18, .pick (.t 12) (.t 17) (.c (.bool false)), none⟩])
                            (.cond
                              (.t 18)
                              (.seq
                                (.ops [⟨none, .store 1 (.t 4) (.c (.bool true)), none⟩])
                                (.seq
                                  (.ops
                                    [⟨some 19, .load false 1 (.t 3), none⟩,
                                     ⟨some 20, .load true 2 (.t 1), none⟩,
                                     ⟨some 21, .callV (.t 19) [.t 20], none⟩,
                                     ⟨some 22, .un (.not) (.t 21), none⟩])
                                  (.cond (.t 22) (.ret) (.skip))))
                              (.skip)))
                          (.seq
                            (.ops
                              [⟨some 23, .load false 1 (.t 3), none⟩,
                               ⟨some 24, .load true 2 (.t 5), none⟩,
                               ⟨some 25, .callV (.t 23) [.t 24], none⟩,
                               ⟨some 26, .un (.not) (.t 25), none⟩])
                            (.cond (.t 26) (.ret) (.skip))))))))
                (.seq
                  (.ops [⟨some 27, .load false 1 (.t 4), none⟩, ⟨some 28, .un (.not) (.t 27), none⟩])
                  (.cond
                    (.t 28)
                    (.ops
                      [⟨some 29, .load false 1 (.t 3), none⟩,
                       ⟨some 30, .load true 2 (.t 1), none⟩,
                       ⟨some 31, .callV (.t 29) [.t 30], none⟩])
                    (.skip)))))⟩
theorem c32 : cFunc Try.prog Try.f32 = some sf32 := by kernel_rfl

/-- wharfage/span.rest$1 -/
def sf33 : SFunc := ⟨53,
  [],
  .seq
            (.ops
              [⟨some 10, .load false 1 (.t 1), none⟩,
               ⟨some 11, .len (.sl) (.t 10), none⟩,
               ⟨some 12, .mov (.c (.int (.i64) 0)), none⟩])
            (.block
              0
              (.loop
                (.seq
                  (.ops [⟨some 13, .bin (.lss) (.other) (.t 12) (.t 11), none⟩])
                  (.seq
                    (.cond (.t 13) (.skip) (.exit 0))
                    (.seq
                      (.block
                        1
                        (.seq
                          (.ops
                            [⟨some 14, .idxAddrSl 2 (.t 10) (.t 12), none⟩,
                             ⟨some 15, .load true 2 (.t 14), none⟩,
                             ⟨some 5, .box (.c (.agg [.int (.u32) 0, .int (.u32) 0])), none⟩,
                             ⟨none, .store 2 (.t 5) (.t 15), none⟩])
                          (.seq
                            (.drawOps
                              [⟨some 16, .fieldAddr 0 (.t 5), none⟩,
                               ⟨some 17, .load false 1 (.t 16), none⟩,
                               ⟨some 18, .fieldAddr 1 (.t 5), none⟩,
                               ⟨some 19, .load false 1 (.t 18), none⟩,
                               ⟨some 20, .fieldAddr 0 (.t 2), none⟩,
                               ⟨some 21, .load false 1 (.t 20), none⟩,
                               ⟨some 22, .min (.t 19) [.t 21], none⟩,
                               ⟨some 23, .build [.int (.u32) 0, .int (.u32) 0] [(0, 1, .t 17), (1, 1, .t 22)], none⟩,
                               ⟨some 24, .fieldAddr 0 (.t 5), none⟩,
                               ⟨some 25, .load false 1 (.t 24), none⟩,
                               ⟨some 26, .fieldAddr 1 (.t 2), none⟩,
                               ⟨some 27, .load false 1 (.t 26), none⟩,
                               ⟨some 28, .max (.t 25) [.t 27], none⟩,
                               ⟨some 29, .fieldAddr 1 (.t 5), none⟩,
                               ⟨some 30, .load false 1 (.t 29), none⟩,
                               ⟨some 31, .build [.int (.u32) 0, .int (.u32) 0] [(0, 1, .t 28), (1, 1, .t 30)], none⟩,
                               ⟨some 6, .box (.c (.agg [.int (.u32) 0, .int (.u32) 0])), none⟩,
                               ⟨some 7, .box (.c (.agg [.int (.u32) 0, .int (.u32) 0])), none⟩,
                               ⟨none, .store 2 (.t 6) (.t 23), none⟩,
                               ⟨none, .store 2 (.t 7) (.t 31), none⟩]
                              [(1, 16), (1, 17), (3, 16), (3, 17), (5, 16), (5, 17), (9, 16), (9, 17), (9, 18), (11, 16), (11, 17), (11, 18), (14, 16), (14, 17), (14, 18)])
                            (.seq
                              (.seq
                                (.ops [⟨some 32, .load true 2 (.t 2), none⟩, ⟨some 33, .call 30 [.t 32], none⟩])
                                (.cond
                                  (.t 33)
                                  (.ops
                                    [⟨some 34, .load true 2 (.t 5), none⟩,
                                     ⟨some 35, .build [.int (.u32) 0, .int (.u32) 0] [], none⟩,
                                     ⟨none, .store 2 (.t 6) (.t 34), none⟩,
                                     ⟨none, .store 2 (.t 7) (.t 35), none⟩])
                                  (.skip)))
                              (.seq
                                (.ops
                                  [⟨some 36, .load true 2 (.t 6), none⟩,
                                   ⟨some 37, .load true 2 (.t 7), none⟩,
                                   ⟨some 38,
                                     .build
                                             [.int (.u32) 0, .int (.u32) 0, .int (.u32) 0, .int (.u32) 0]
                                             [(0, 2, .t 36), (2, 2, .t 37)],
                                     none⟩,
                                   ⟨some 39, .mov (.c (.int (.i64) 0)), none⟩])
                                (.block
                                  2
                                  (.loop
                                    (.seq
                                      (.ops [⟨some 40, .bin (.lss) (.other) (.t 39) (.c (.int (.i64) 2)), none⟩])
                                      (.seq
                                        (.cond (.t 40) (.skip) (.exit 2))
                                        (.seq
                                          (.block
                                            3
                                            (.seq
                                              (.ops
                                                [⟨some 41, .idxArr true 2 2 (.t 38) (.t 39), none⟩,
                                                 ⟨some 9, .box (.c (.agg [.int (.u32) 0, .int (.u32) 0])), none⟩,
                                                 ⟨none, .store 2 (.t 9) (.t 41), none⟩])
                                              (.seq
                                                (.ops
                                                  [⟨some 42, .load true 2 (.t 9), none⟩,
                                                   ⟨some 43, .call 30 [.t 42], none⟩,
                                                   ⟨some 44, .un (.not) (.t 43), none⟩,
                                                   ⟨some 45, .mov (.t 44), none⟩,
                                                   ⟨some 46, .mov (.t 0), some (45, true)⟩,
                                                   ⟨some 47, .load true 2 (.t 9), some (45, true)⟩,
                                                   ⟨some 48, .callV (.t 46) [.t 47], some (45, true)⟩,
                                                   ⟨some 49, .un (.not) (.t 48), some (45, true)⟩,
                                                   ⟨some 50, .pick (.t 45) (.t 49) (.c (.bool false)), none⟩])
                                                (.cond (.t 50) (.ret) (.skip)))))
                                          (.ops
                                            [⟨some 51, .bin (.add) (.other) (.t 39) (.c (.int (.i64) 1)), none⟩,
                                             ⟨some 39, .mov (.t 51), none⟩])))))))))))
                      (.ops
                        [⟨some 52, .bin (.add) (.other) (.t 12) (.c (.int (.i64) 1)), none⟩,
                         ⟨some 12, .mov (.t 52), none⟩]))))))⟩
theorem c33 : cFunc Try.prog Try.f33 = some sf33 := by kernel_rfl

/-- wharfage/wharfageref12.ends -/
def sf34 : SFunc := ⟨33,
  [.tmp 4],
  .seq
            (.ops [⟨some 3, .box (.t 1), none⟩, ⟨some 4, .mov (.c (.nilsl)), none⟩])
            (.seq
              (.ops [⟨some 5, .mov (.c (.nilsl)), none⟩])
              (.seq
                (.ops
                  [⟨some 8, .load true 2 (.t 3), none⟩,
                   ⟨some 9, .buildSlice [.int (.u32) 0, .int (.u32) 0] 1 2 [(0, 2, .t 8)], none⟩,
                   ⟨some 10, .mov (.t 0), none⟩,
                   ⟨some 11, .append 2 8 (.t 9) (.t 10), none⟩,
                   ⟨some 6, .mov (.t 11), none⟩])
                (.seq
                  (.seq
                    (.ops [⟨some 7, .mov (.c (.int (.i64) 0)), none⟩])
                    (.block
                      0
                      (.loop
                        (.seq
                          (.seq
                            (.ops
                              [⟨some 12, .mov (.t 7), none⟩,
                               ⟨some 13, .mov (.t 6), none⟩,
                               ⟨some 14, .len (.sl) (.t 13), none⟩,
                               ⟨some 15, .bin (.lss) (.other) (.t 12) (.t 14), none⟩])
                            (.cond (.t 15) (.skip) (.exit 0)))
                          (.seq
                            (.block
                              1
                              (.seq
                                (.ops
                                  [⟨some 18, .mov (.t 5), none⟩,
                                   ⟨some 19, .mov (.t 6), none⟩,
                                   ⟨some 20, .mov (.t 7), none⟩,
                                   ⟨some 21, .idxAddrSl 2 (.t 19) (.t 20), none⟩,
                                   ⟨some 22, .fieldAddr 0 (.t 21), none⟩,
                                   ⟨some 23, .load false 1 (.t 22), none⟩,
                                   ⟨some 24, .call 35 [.t 18, .t 23], none⟩,
                                   ⟨some 5, .mov (.t 24), none⟩])
                                (.ops
                                  [⟨some 25, .mov (.t 5), none⟩,
                                   ⟨some 26, .mov (.t 6), none⟩,
                                   ⟨some 27, .mov (.t 7), none⟩,
                                   ⟨some 28, .idxAddrSl 2 (.t 26) (.t 27), none⟩,
                                   ⟨some 29, .fieldAddr 1 (.t 28), none⟩,
                                   ⟨some 30, .load false 1 (.t 29), none⟩,
                                   ⟨some 31, .call 35 [.t 25, .t 30], none⟩,
                                   ⟨some 5, .mov (.t 31), none⟩])))
                            (.ops
                              [⟨some 16, .mov (.t 7), none⟩,
                               ⟨some 17, .bin (.add) (.other) (.t 16) (.c (.int (.i64) 1)), none⟩,
                               ⟨some 7, .mov (.t 17), none⟩]))))))
                  (.seq (.ops [⟨some 32, .mov (.t 5), none⟩, ⟨some 4, .mov (.t 32), none⟩]) (.ret)))))⟩
theorem c34 : cFunc Try.prog Try.f34 = some sf34 := by kernel_rfl

/-- wharfage/wharfageref12.put -/
def sf35 : SFunc := ⟨48,
  [.tmp 4],
  .seq
            (.ops [⟨some 4, .mov (.c (.nilsl)), none⟩])
            (.seq
              (.ops [⟨some 5, .mov (.c (.nilsl)), none⟩])
              (.seq
                (.ops [⟨some 6, .mov (.c (.bool false)), none⟩])
                (.seq
                  (.seq
                    (.ops [⟨some 7, .mov (.c (.int (.i64) 0)), none⟩])
                    (.block
                      0
                      (.loop
                        (.seq
                          (.seq
                            (.ops
                              [⟨some 8, .mov (.t 7), none⟩,
                               ⟨some 9, .mov (.t 0), none⟩,
                               ⟨some 10, .len (.sl) (.t 9), none⟩,
                               ⟨some 11, .bin (.lss) (.other) (.t 8) (.t 10), none⟩])
                            (.cond (.t 11) (.skip) (.exit 0)))
                          (.seq
                            (.block
                              1
                              (.seq
                                (.seq
                                  (.ops
                                    [⟨some 14, .mov (.t 6), none⟩,
                                     ⟨some 15, .un (.not) (.t 14), none⟩,
                                     ⟨some 16, .mov (.t 15), none⟩,
                                     ⟨some 17, .mov (.t 0), some (16, true)⟩,
                                     ⟨some 18, .mov (.t 7), some (16, true)⟩,
                                     ⟨some 19, .idxAddrSl 1 (.t 17) (.t 18), some (16, true)⟩,
                                     ⟨some 20, .load false 1 (.t 19), some (16, true)⟩,
                                     ⟨some 21, .mov (.t 1), some (16, true)⟩,
                                     ⟨some 22, .bin (.geq) (.other) (.t 20) (.t 21), some (16, true)⟩,
                                     ⟨some 23, .pick (.t 16) (.t 22) (.c (.bool false)), none⟩])
                                  (.cond
                                    (.t 23)
                                    (.seq
                                      (.ops
                                        [⟨some 24, .mov (.t 5), none⟩,
                                         ⟨some 25, .mov (.t 1), none⟩,
                                         ⟨some 26, .buildSlice [.int (.u32) 0] 1 1 [(0, 1, .t 25)], none⟩,
                                         ⟨some 27, .append 1 4 (.t 24) (.t 26), none⟩,
                                         ⟨some 5, .mov (.t 27), none⟩])
                                      (.ops [⟨some 6, .mov (.c (.bool true)), none⟩]))
                                    (.skip)))
                                (.seq
                                  (.ops
                                    [⟨some 28, .mov (.t 0), none⟩,
                                     ⟨some 29, .mov (.t 7), none⟩,
                                     ⟨some 30, .idxAddrSl 1 (.t 28) (.t 29), none⟩,
                                     ⟨some 31, .load false 1 (.t 30), none⟩,
                                     ⟨some 32, .mov (.t 1), none⟩,
                                     ⟨some 33, .bin (.neq) (.other) (.t 31) (.t 32), none⟩])
                                  (.cond
                                    (.t 33)
                                    (.ops
                                      [⟨some 34, .mov (.t 5), none⟩,
                                       ⟨some 35, .mov (.t 0), none⟩,
                                       ⟨some 36, .mov (.t 7), none⟩,
                                       ⟨some 37, .idxAddrSl 1 (.t 35) (.t 36), none⟩,
                                       ⟨some 38, .load false 1 (.t 37), none⟩,
                                       ⟨some 39, .buildSlice [.int (.u32) 0] 1 1 [(0, 1, .t 38)], none⟩,
                                       ⟨some 40, .append 1 4 (.t 34) (.t 39), none⟩,
                                       ⟨some 5, .mov (.t 40), none⟩])
                                    (.skip)))))
                            (.ops
                              [⟨some 12, .mov (.t 7), none⟩,
                               ⟨some 13, .bin (.add) (.other) (.t 12) (.c (.int (.i64) 1)), none⟩,
                               ⟨some 7, .mov (.t 13), none⟩]))))))
                  (.seq
                    (.seq
                      (.ops [⟨some 41, .mov (.t 6), none⟩, ⟨some 42, .un (.not) (.t 41), none⟩])
                      (.cond
                        (.t 42)
                        (.ops
                          [⟨some 43, .mov (.t 5), none⟩,
                           ⟨some 44, .mov (.t 1), none⟩,
                           ⟨some 45, .buildSlice [.int (.u32) 0] 1 1 [(0, 1, .t 44)], none⟩,
                           ⟨some 46, .append 1 4 (.t 43) (.t 45), none⟩,
                           ⟨some 5, .mov (.t 46), none⟩])
                        (.skip)))
                    (.seq (.ops [⟨some 47, .mov (.t 5), none⟩, ⟨some 4, .mov (.t 47), none⟩]) (.ret))))))⟩
theorem c35 : cFunc Try.prog Try.f35 = some sf35 := by kernel_rfl

def tab : FuncId → Option SFunc
  | 2 => some sf2
  | 3 => some sf3
  | 4 => some sf4
  | 5 => some sf5
  | 6 => some sf6
  | 7 => some sf7
  | 8 => some sf8
  | 9 => some sf9
  | 10 => some sf10
  | 11 => some sf11
  | 12 => some sf12
  | 13 => some sf13
  | 14 => some sf14
  | 15 => some sf15
  | 16 => some sf16
  | 17 => some sf17
  | 18 => some sf18
  | 19 => some sf19
  | 20 => some sf20
  | 21 => some sf21
  | 22 => some sf22
  | 23 => some sf23
  | 24 => some sf24
  | 25 => some sf25
  | 26 => some sf26
  | 27 => some sf27
  | 28 => some sf28
  | 29 => some sf29
  | 30 => some sf30
  | 31 => some sf31
  | 32 => some sf32
  | 33 => some sf33
  | 34 => some sf34
  | 35 => some sf35
  | _ => none
theorem conv : Conv Try.prog tab := by
  intro f sf h
  unfold tab at h
  split at h
  · cases h; exact ⟨Try.f2, Try.func2, c2⟩
  · cases h; exact ⟨Try.f3, Try.func3, c3⟩
  · cases h; exact ⟨Try.f4, Try.func4, c4⟩
  · cases h; exact ⟨Try.f5, Try.func5, c5⟩
  · cases h; exact ⟨Try.f6, Try.func6, c6⟩
  · cases h; exact ⟨Try.f7, Try.func7, c7⟩
  · cases h; exact ⟨Try.f8, Try.func8, c8⟩
  · cases h; exact ⟨Try.f9, Try.func9, c9⟩
  · cases h; exact ⟨Try.f10, Try.func10, c10⟩
  · cases h; exact ⟨Try.f11, Try.func11, c11⟩
  · cases h; exact ⟨Try.f12, Try.func12, c12⟩
  · cases h; exact ⟨Try.f13, Try.func13, c13⟩
  · cases h; exact ⟨Try.f14, Try.func14, c14⟩
  · cases h; exact ⟨Try.f15, Try.func15, c15⟩
  · cases h; exact ⟨Try.f16, Try.func16, c16⟩
  · cases h; exact ⟨Try.f17, Try.func17, c17⟩
  · cases h; exact ⟨Try.f18, Try.func18, c18⟩
  · cases h; exact ⟨Try.f19, Try.func19, c19⟩
  · cases h; exact ⟨Try.f20, Try.func20, c20⟩
  · cases h; exact ⟨Try.f21, Try.func21, c21⟩
  · cases h; exact ⟨Try.f22, Try.func22, c22⟩
  · cases h; exact ⟨Try.f23, Try.func23, c23⟩
  · cases h; exact ⟨Try.f24, Try.func24, c24⟩
  · cases h; exact ⟨Try.f25, Try.func25, c25⟩
  · cases h; exact ⟨Try.f26, Try.func26, c26⟩
  · cases h; exact ⟨Try.f27, Try.func27, c27⟩
  · cases h; exact ⟨Try.f28, Try.func28, c28⟩
  · cases h; exact ⟨Try.f29, Try.func29, c29⟩
  · cases h; exact ⟨Try.f30, Try.func30, c30⟩
  · cases h; exact ⟨Try.f31, Try.func31, c31⟩
  · cases h; exact ⟨Try.f32, Try.func32, c32⟩
  · cases h; exact ⟨Try.f33, Try.func33, c33⟩
  · cases h; exact ⟨Try.f34, Try.func34, c34⟩
  · cases h; exact ⟨Try.f35, Try.func35, c35⟩
  · cases h
theorem mixed : Try.prog.follows .mixedOrders = true := Try.checked.mixed
theorem laid : laidOutB Try.prog = true := by kernel_rfl
end Go.Proofs.Ytplbampjponnpaa.Ya
