/-
  The functions that the laws reach, as the abstract machine has them (printed by wip/gen/Gen.lean).
-/
import Derived.Test.YtdgpjefbdocepaaChecked
import Derived.KernelRfl
import Derived.Test.YtdgpjefbdocepaaYaLaw
namespace Go.Proofs.Ytdgpjefbdocepaa.Ya
open Go.Ya
set_option maxRecDepth 100000
set_option linter.unusedVariables false

/-- gosem.cut.init -/
def sf2 : SFunc := ⟨1, [], .ops [⟨some 0, .call 1 [], none⟩]⟩
theorem c2 : cFunc Try.prog Try.f2 = some sf2 := by kernel_rfl

/-- wharfage/wharfagelaw22.NetFull -/
def sf3 : SFunc := ⟨91,
  [.tmp 2],
  .seq
            (.ops [⟨some 2, .mov (.c (.bool false)), none⟩])
            (.seq
              (.ops [⟨some 9, .call 6 [], none⟩, ⟨some 3, .mov (.t 9), none⟩])
              (.seq
                (.seq
                  (.ops
                    [⟨some 10, .mov (.t 3), none⟩, ⟨some 11, .bin (.eql) (.ptr) (.t 10) (.c (.nilptr)), none⟩])
                  (.cond (.t 11) (.seq (.ops [⟨some 2, .mov (.c (.bool false)), none⟩]) (.ret)) (.skip)))
                (.seq
                  (.seq
                    (.ops [⟨some 4, .mov (.c (.int (.i64) 0)), none⟩])
                    (.block
                      0
                      (.loop
                        (.seq
                          (.seq
                            (.ops
                              [⟨some 12, .mov (.t 4), none⟩,
                               ⟨some 13, .mov (.t 0), none⟩,
                               ⟨some 14, .bin (.rem) (.other) (.t 13) (.c (.int (.u8) 40)), none⟩,
                               ⟨some 15, .convInt (.i64) (.t 14), none⟩,
                               ⟨some 16, .bin (.add) (.other) (.c (.int (.i64) 64)) (.t 15), none⟩,
                               ⟨some 17, .bin (.lss) (.other) (.t 12) (.t 16), none⟩])
                            (.cond (.t 17) (.skip) (.exit 0)))
                          (.seq
                            (.block
                              1
                              (.seq
                                (.ops
                                  [⟨some 20, .mov (.t 3), none⟩,
                                   ⟨some 21, .mov (.t 4), none⟩,
                                   ⟨some 22, .bin (.rem) (.other) (.t 21) (.c (.int (.i64) 4)), none⟩,
                                   ⟨some 23, .mov (.t 4), none⟩,
                                   ⟨some 24, .bin (.rem) (.other) (.t 23) (.c (.int (.i64) 3)), none⟩,
                                   ⟨some 25, .bin (.eql) (.other) (.t 24) (.c (.int (.i64) 0)), none⟩,
                                   ⟨some 26, .mov (.t 4), none⟩,
                                   ⟨some 27, .convInt (.u8) (.t 26), none⟩,
                                   ⟨some 28, .buildSlice [.int (.u8) 0] 1 1 [(0, 1, .t 27)], none⟩,
                                   ⟨some 29, .build [.int (.i64) 0, .bool false, .nilsl] [(0, 1, .t 22), (1, 1, .t 25), (2, 1, .t 28)], none⟩,
                                   ⟨some 30, .call 7 [.t 20, .t 29], none⟩,
                                   ⟨some 5, .mov (.t 30), none⟩])
                                (.seq
                                  (.ops
                                    [⟨some 31, .mov (.t 5), none⟩,
                                     ⟨some 32, .bin (.eql) (.other) (.t 31) (.c (.int (.i64) 0)), none⟩,
                                     ⟨some 33, .mov (.t 4), none⟩,
                                     ⟨some 34, .bin (.lss) (.other) (.t 33) (.c (.int (.i64) 64)), none⟩,
                                     ⟨some 35, .bin (.neq) (.bool) (.t 32) (.t 34), none⟩,
                                     ⟨some 36, .mov (.t 35), none⟩,
                                     ⟨some 37, .mov (.t 5), some (36, false)⟩,
                                     ⟨some 38, .bin (.neq) (.other) (.t 37) (.c (.int (.i64) 0)), some (36, false)⟩,
                                     ⟨some 39, .mov (.t 38), some (36, false)⟩,
                                     ⟨some 40, .mov (.t 5), some (39, true)⟩,
                                     ⟨some 41, .bin (.neq) (.other) (.t 40) (.c (.int (.i64) 10)), some (39, true)⟩,
                                     ⟨some 42, .pick (.t 39) (.t 41) (.c (.bool false)), some (36, false)⟩,
                                     ⟨some 43, .pick (.t 36) (.c (.bool true)) (.t 42), none⟩])
                                  (.cond (.t 43) (.seq (.ops [⟨some 2, .mov (.c (.bool false)), none⟩]) (.ret)) (.skip)))))
                            (.ops
                              [⟨some 18, .mov (.t 4), none⟩,
                               ⟨some 19, .bin (.add) (.other) (.t 18) (.c (.int (.i64) 1)), none⟩,
                               ⟨some 4, .mov (.t 19), none⟩]))))))
                  (.seq
                    (.seq
                      (.ops [⟨some 6, .mov (.c (.int (.i64) 0)), none⟩])
                      (.block
                        2
                        (.loop
                          (.seq
                            (.seq
                              (.ops
                                [⟨some 44, .mov (.t 6), none⟩,
                                 ⟨some 45, .bin (.lss) (.other) (.t 44) (.c (.int (.i64) 64)), none⟩])
                              (.cond (.t 45) (.skip) (.exit 2)))
                            (.seq
                              (.block
                                3
                                (.seq
                                  (.ops
                                    [⟨some 49, .mov (.t 3), none⟩,
                                     ⟨some 50, .call 8 [.t 49, .c (.int (.i64) 0), .c (.bool false)], none⟩,
                                     ⟨some 48, .mov (.t 50), none⟩,
                                     ⟨some 51, .extract (.t 48) 0, none⟩,
                                     ⟨some 52, .extract (.t 48) 1, none⟩,
                                     ⟨some 7, .box (.c (.agg [.int (.i64) 0, .bool false, .nilsl])), none⟩,
                                     ⟨none, .store 3 (.t 7) (.t 51), none⟩,
                                     ⟨some 8, .mov (.t 52), none⟩])
                                  (.seq
                                    (.ops
                                      [⟨some 53, .mov (.t 8), none⟩,
                                       ⟨some 54, .un (.not) (.t 53), none⟩,
                                       ⟨some 55, .mov (.t 54), none⟩,
                                       ⟨some 56, .fieldAddr 2 (.t 7), some (55, false)⟩,
                                       ⟨some 57, .load false 1 (.t 56), some (55, false)⟩,
                                       ⟨some 58, .len (.sl) (.t 57), some (55, false)⟩,
                                       ⟨some 59, .bin (.neq) (.other) (.t 58) (.c (.int (.i64) 1)), some (55, false)⟩,
                                       ⟨some 60, .pick (.t 55) (.c (.bool true)) (.t 59), none⟩,
                                       ⟨some 61, .mov (.t 60), none⟩,
                                       ⟨some 62, .fieldAddr 2 (.t 7), some (61, false)⟩,
                                       ⟨some 63, .load false 1 (.t 62), some (61, false)⟩,
                                       ⟨some 64, .idxAddrSl 1 (.t 63) (.c (.int (.i64) 0)), some (61, false)⟩,
                                       ⟨some 65, .load false 1 (.t 64), some (61, false)⟩,
                                       ⟨some 66, .convInt (.i64) (.t 65), some (61, false)⟩,
                                       ⟨some 67, .mov (.t 6), some (61, false)⟩,
                                       ⟨some 68, .bin (.neq) (.other) (.t 66) (.t 67), some (61, false)⟩,
                                       ⟨some 69, .pick (.t 61) (.c (.bool true)) (.t 68), none⟩,
                                       ⟨some 70, .mov (.t 69), none⟩,
                                       ⟨some 71, .fieldAddr 0 (.t 7), some (70, false)⟩,
                                       ⟨some 72, .load false 1 (.t 71), some (70, false)⟩,
                                       ⟨some 73, .mov (.t 6), some (70, false)⟩,
                                       ⟨some 74, .bin (.rem) (.other) (.t 73) (.c (.int (.i64) 4)), some (70, false)⟩,
                                       ⟨some 75, .bin (.neq) (.other) (.t 72) (.t 74), some (70, false)⟩,
                                       ⟨some 76, .pick (.t 70) (.c (.bool true)) (.t 75), none⟩,
                                       ⟨some 77, .mov (.t 76), none⟩,
                                       ⟨some 78, .fieldAddr 1 (.t 7), some (77, false)⟩,
                                       ⟨some 79, .load false 1 (.t 78), some (77, false)⟩,
                                       ⟨some 80, .mov (.t 6), some (77, false)⟩,
                                       ⟨some 81, .bin (.rem) (.other) (.t 80) (.c (.int (.i64) 3)), some (77, false)⟩,
                                       ⟨some 82, .bin (.eql) (.other) (.t 81) (.c (.int (.i64) 0)), some (77, false)⟩,
                                       ⟨some 83, .bin (.neq) (.bool) (.t 79) (.t 82), some (77, false)⟩,
                                       ⟨some 84, .pick (.t 77) (.c (.bool true)) (.t 83), none⟩])
                                    (.cond (.t 84) (.seq (.ops [⟨some 2, .mov (.c (.bool false)), none⟩]) (.ret)) (.skip)))))
                              (.ops
                                [⟨some 46, .mov (.t 6), none⟩,
                                 ⟨some 47, .bin (.add) (.other) (.t 46) (.c (.int (.i64) 1)), none⟩,
                                 ⟨some 6, .mov (.t 47), none⟩]))))))
                    (.seq
                      (.ops
                        [⟨some 85, .mov (.t 3), none⟩,
                         ⟨some 86, .call 9 [.t 85], none⟩,
                         ⟨some 87, .bin (.eql) (.other) (.t 86) (.c (.int (.i64) 0)), none⟩,
                         ⟨some 88, .mov (.t 87), none⟩,
                         ⟨some 89, .call 10 [], some (88, true)⟩,
                         ⟨some 90, .pick (.t 88) (.t 89) (.c (.bool false)), none⟩,
                         ⟨some 2, .mov (.t 90), none⟩])
                      (.ret))))))⟩
theorem c3 : cFunc Try.prog Try.f3 = some sf3 := by kernel_rfl

/-- wharfage/wharfagelaw22.NetPlays -/
def sf4 : SFunc := ⟨116,
  [.tmp 4],
  .seq
            (.ops [⟨some 4, .mov (.c (.bool false)), none⟩])
            (.seq
              (.ops [⟨some 14, .call 6 [], none⟩, ⟨some 5, .mov (.t 14), none⟩])
              (.seq
                (.ops
                  [⟨some 15, .build [.nilsl] [], none⟩,
                   ⟨some 16, .box (.t 15), none⟩,
                   ⟨some 6, .mov (.t 16), none⟩])
                (.seq
                  (.seq
                    (.ops
                      [⟨some 17, .mov (.t 5), none⟩, ⟨some 18, .bin (.eql) (.ptr) (.t 17) (.c (.nilptr)), none⟩])
                    (.cond (.t 18) (.seq (.ops [⟨some 4, .mov (.c (.bool false)), none⟩]) (.ret)) (.skip)))
                  (.seq
                    (.seq
                      (.ops [⟨some 7, .mov (.c (.int (.i64) 0)), none⟩])
                      (.block
                        0
                        (.loop
                          (.seq
                            (.seq
                              (.ops
                                [⟨some 19, .mov (.t 7), none⟩,
                                 ⟨some 20, .mov (.t 0), none⟩,
                                 ⟨some 21, .len (.sl) (.t 20), none⟩,
                                 ⟨some 22, .bin (.lss) (.other) (.t 19) (.t 21), none⟩,
                                 ⟨some 23, .mov (.t 22), none⟩,
                                 ⟨some 24, .mov (.t 7), some (23, true)⟩,
                                 ⟨some 25, .bin (.lss) (.other) (.t 24) (.c (.int (.i64) 100)), some (23, true)⟩,
                                 ⟨some 26, .pick (.t 23) (.t 25) (.c (.bool false)), none⟩])
                              (.cond (.t 26) (.skip) (.exit 0)))
                            (.seq
                              (.block
                                1
                                (.seq
                                  (.ops
                                    [⟨some 29, .mov (.t 0), none⟩,
                                     ⟨some 30, .mov (.t 7), none⟩,
                                     ⟨some 31, .idxAddrSl 5 (.t 29) (.t 30), none⟩,
                                     ⟨some 32, .load true 5 (.t 31), none⟩,
                                     ⟨some 8,
                                       .box (.c (.agg [.int (.i64) 0, .int (.i64) 0, .bool false, .nilsl, .int (.i64) 0])),
                                       none⟩,
                                     ⟨none, .store 5 (.t 8) (.t 32), none⟩])
                                  (.seq
                                    (.seq
                                      (.ops
                                        [⟨some 33, .fieldAddr 0 (.t 8), none⟩,
                                         ⟨some 34, .load false 1 (.t 33), none⟩,
                                         ⟨some 35, .bin (.eql) (.other) (.t 34) (.c (.int (.i64) 0)), none⟩])
                                      (.cond
                                        (.t 35)
                                        (.seq
                                          (.ops
                                            [⟨some 36, .fieldAddr 1 (.t 8), none⟩,
                                             ⟨some 37, .load true 3 (.t 36), none⟩,
                                             ⟨some 9, .box (.c (.agg [.int (.i64) 0, .bool false, .nilsl])), none⟩,
                                             ⟨none, .store 3 (.t 9) (.t 37), none⟩])
                                          (.seq
                                            (.ops
                                              [⟨some 38, .fieldAddr 1 (.t 8), none⟩,
                                               ⟨some 39, .fieldAddr 2 (.t 38), none⟩,
                                               ⟨some 40, .load false 1 (.t 39), none⟩,
                                               ⟨some 41, .call 11 [.t 40], none⟩,
                                               ⟨some 42, .fieldAddr 2 (.t 9), none⟩,
                                               ⟨none, .store 1 (.t 42) (.t 41), none⟩])
                                            (.seq
                                              (.seq
                                                (.drawOps
                                                  [⟨some 43, .mov (.t 5), none⟩,
                                                   ⟨some 44, .load true 3 (.t 9), none⟩,
                                                   ⟨some 45, .call 7 [.t 43, .t 44], none⟩,
                                                   ⟨some 46, .mov (.t 6), none⟩,
                                                   ⟨some 47, .fieldAddr 1 (.t 8), none⟩,
                                                   ⟨some 48, .load true 3 (.t 47), none⟩,
                                                   ⟨some 49, .call 12 [.t 46, .t 48], none⟩,
                                                   ⟨some 50, .bin (.neq) (.other) (.t 45) (.t 49), none⟩,
                                                   ⟨some 51, .mov (.t 50), none⟩,
                                                   ⟨some 52, .fieldAddr 2 (.t 9), some (51, false)⟩,
                                                   ⟨some 53, .load false 1 (.t 52), some (51, false)⟩,
                                                   ⟨some 54, .fieldAddr 1 (.t 8), some (51, false)⟩,
                                                   ⟨some 55, .fieldAddr 2 (.t 54), some (51, false)⟩,
                                                   ⟨some 56, .load false 1 (.t 55), some (51, false)⟩,
                                                   ⟨some 57, .call 13 [.t 53, .t 56], some (51, false)⟩,
                                                   ⟨some 58, .un (.not) (.t 57), some (51, false)⟩,
                                                   ⟨some 59, .pick (.t 51) (.c (.bool true)) (.t 58), none⟩]
                                                  [(5, 2)])
                                                (.cond (.t 59) (.seq (.ops [⟨some 4, .mov (.c (.bool false)), none⟩]) (.ret)) (.skip)))
                                              (.ops
                                                [⟨some 60, .fieldAddr 2 (.t 9), none⟩,
                                                 ⟨some 61, .load false 1 (.t 60), none⟩,
                                                 ⟨some 62, .mov (.t 1), none⟩,
                                                 ⟨some 63, .bin (.or) (.other) (.t 62) (.c (.int (.u8) 1)), none⟩,
                                                 ⟨some 64, .call 14 [.t 61, .t 63], none⟩]))))
                                        (.seq
                                          (.ops
                                            [⟨some 65, .fieldAddr 0 (.t 8), none⟩,
                                             ⟨some 66, .load false 1 (.t 65), none⟩,
                                             ⟨some 67, .bin (.eql) (.other) (.t 66) (.c (.int (.i64) 3)), none⟩])
                                          (.cond
                                            (.t 67)
                                            (.seq
                                              (.drawOps
                                                [⟨some 68, .mov (.t 5), none⟩,
                                                 ⟨some 69, .fieldAddr 4 (.t 8), none⟩,
                                                 ⟨some 70, .load false 1 (.t 69), none⟩,
                                                 ⟨some 71, .call 15 [.t 68, .t 70], none⟩,
                                                 ⟨some 72, .mov (.t 6), none⟩,
                                                 ⟨some 73, .fieldAddr 4 (.t 8), none⟩,
                                                 ⟨some 74, .load false 1 (.t 73), none⟩,
                                                 ⟨some 75, .call 16 [.t 72, .t 74], none⟩,
                                                 ⟨some 76, .bin (.neq) (.bool) (.t 71) (.t 75), none⟩]
                                                [(6, 3)])
                                              (.cond (.t 76) (.seq (.ops [⟨some 4, .mov (.c (.bool false)), none⟩]) (.ret)) (.skip)))
                                            (.seq
                                              (.ops
                                                [⟨some 78, .mov (.t 5), none⟩,
                                                 ⟨some 79, .fieldAddr 4 (.t 8), none⟩,
                                                 ⟨some 80, .load false 1 (.t 79), none⟩,
                                                 ⟨some 81, .fieldAddr 0 (.t 8), none⟩,
                                                 ⟨some 82, .load false 1 (.t 81), none⟩,
                                                 ⟨some 83, .bin (.eql) (.other) (.t 82) (.c (.int (.i64) 2)), none⟩,
                                                 ⟨some 84, .call 8 [.t 78, .t 80, .t 83], none⟩,
                                                 ⟨some 77, .mov (.t 84), none⟩,
                                                 ⟨some 85, .extract (.t 77) 0, none⟩,
                                                 ⟨some 86, .extract (.t 77) 1, none⟩,
                                                 ⟨some 10, .box (.c (.agg [.int (.i64) 0, .bool false, .nilsl])), none⟩,
                                                 ⟨none, .store 3 (.t 10) (.t 85), none⟩,
                                                 ⟨some 11, .mov (.t 86), none⟩])
                                              (.seq
                                                (.ops
                                                  [⟨some 88, .mov (.t 6), none⟩,
                                                   ⟨some 89, .fieldAddr 4 (.t 8), none⟩,
                                                   ⟨some 90, .load false 1 (.t 89), none⟩,
                                                   ⟨some 91, .fieldAddr 0 (.t 8), none⟩,
                                                   ⟨some 92, .load false 1 (.t 91), none⟩,
                                                   ⟨some 93, .bin (.eql) (.other) (.t 92) (.c (.int (.i64) 2)), none⟩,
                                                   ⟨some 94, .call 17 [.t 88, .t 90, .t 93], none⟩,
                                                   ⟨some 87, .mov (.t 94), none⟩,
                                                   ⟨some 95, .extract (.t 87) 0, none⟩,
                                                   ⟨some 96, .extract (.t 87) 1, none⟩,
                                                   ⟨some 12, .box (.c (.agg [.int (.i64) 0, .bool false, .nilsl])), none⟩,
                                                   ⟨none, .store 3 (.t 12) (.t 95), none⟩,
                                                   ⟨some 13, .mov (.t 96), none⟩])
                                                (.seq
                                                  (.seq
                                                    (.ops
                                                      [⟨some 97, .mov (.t 11), none⟩,
                                                       ⟨some 98, .mov (.t 13), none⟩,
                                                       ⟨some 99, .bin (.neq) (.bool) (.t 97) (.t 98), none⟩,
                                                       ⟨some 100, .mov (.t 99), none⟩,
                                                       ⟨some 101, .load true 3 (.t 10), some (100, false)⟩,
                                                       ⟨some 102, .load true 3 (.t 12), some (100, false)⟩,
                                                       ⟨some 103, .call 18 [.t 101, .t 102], some (100, false)⟩,
                                                       ⟨some 104, .un (.not) (.t 103), some (100, false)⟩,
                                                       ⟨some 105, .pick (.t 100) (.c (.bool true)) (.t 104), none⟩])
                                                    (.cond (.t 105) (.seq (.ops [⟨some 4, .mov (.c (.bool false)), none⟩]) (.ret)) (.skip)))
                                                  (.ops
                                                    [⟨some 106, .fieldAddr 2 (.t 10), none⟩,
                                                     ⟨some 107, .load false 1 (.t 106), none⟩,
                                                     ⟨some 108, .mov (.t 1), none⟩,
                                                     ⟨some 109, .bin (.or) (.other) (.t 108) (.c (.int (.u8) 1)), none⟩,
                                                     ⟨some 110, .call 14 [.t 107, .t 109], none⟩]))))))))
                                    (.seq
                                      (.ops
                                        [⟨some 111, .mov (.t 5), none⟩,
                                         ⟨some 112, .mov (.t 6), none⟩,
                                         ⟨some 113, .call 19 [.t 111, .t 112], none⟩,
                                         ⟨some 114, .un (.not) (.t 113), none⟩])
                                      (.cond (.t 114) (.seq (.ops [⟨some 4, .mov (.c (.bool false)), none⟩]) (.ret)) (.skip))))))
                              (.ops
                                [⟨some 27, .mov (.t 7), none⟩,
                                 ⟨some 28, .bin (.add) (.other) (.t 27) (.c (.int (.i64) 1)), none⟩,
                                 ⟨some 7, .mov (.t 28), none⟩]))))))
                    (.seq (.ops [⟨some 115, .call 10 [], none⟩, ⟨some 4, .mov (.t 115), none⟩]) (.ret))))))⟩
theorem c4 : cFunc Try.prog Try.f4 = some sf4 := by kernel_rfl

/-- wharfage/wharfagelaw22.NetNil -/
def sf5 : SFunc := ⟨47,
  [.tmp 6],
  .seq
            (.ops [⟨some 3, .box (.t 0), none⟩, ⟨some 6, .mov (.c (.bool false)), none⟩])
            (.seq
              (.ops [⟨some 7, .mov (.c (.nilptr)), none⟩])
              (.seq
                (.seq
                  (.ops [⟨some 10, .mov (.t 2), none⟩])
                  (.cond
                    (.t 10)
                    (.ops
                      [⟨some 11, .build [.nilsl, .bool false] [], none⟩,
                       ⟨some 12, .box (.t 11), none⟩,
                       ⟨some 7, .mov (.t 12), none⟩])
                    (.skip)))
                (.seq
                  (.ops
                    [⟨some 14, .mov (.t 7), none⟩,
                     ⟨some 15, .mov (.t 1), none⟩,
                     ⟨some 16, .call 8 [.t 14, .t 15, .c (.bool true)], none⟩,
                     ⟨some 13, .mov (.t 16), none⟩,
                     ⟨some 17, .extract (.t 13) 0, none⟩,
                     ⟨some 18, .extract (.t 13) 1, none⟩,
                     ⟨some 8, .box (.c (.agg [.int (.i64) 0, .bool false, .nilsl])), none⟩,
                     ⟨none, .store 3 (.t 8) (.t 17), none⟩,
                     ⟨some 9, .mov (.t 18), none⟩])
                  (.seq
                    (.ops
                      [⟨some 19, .mov (.t 7), none⟩,
                       ⟨some 20, .load true 3 (.t 3), none⟩,
                       ⟨some 21, .call 7 [.t 19, .t 20], none⟩,
                       ⟨some 22, .bin (.eql) (.other) (.t 21) (.c (.int (.i64) 1)), none⟩,
                       ⟨some 23, .mov (.t 22), none⟩,
                       ⟨some 24, .mov (.t 9), some (23, true)⟩,
                       ⟨some 25, .un (.not) (.t 24), some (23, true)⟩,
                       ⟨some 26, .pick (.t 23) (.t 25) (.c (.bool false)), none⟩,
                       ⟨some 27, .mov (.t 26), none⟩,
                       ⟨some 28, .mov (.t 7), some (27, true)⟩,
                       ⟨some 29, .mov (.t 1), some (27, true)⟩,
                       ⟨some 30, .call 15 [.t 28, .t 29], some (27, true)⟩,
                       ⟨some 31, .un (.not) (.t 30), some (27, true)⟩,
                       ⟨some 32, .pick (.t 27) (.t 31) (.c (.bool false)), none⟩,
                       ⟨some 33, .mov (.t 32), none⟩,
                       ⟨some 34, .mov (.t 7), some (33, true)⟩,
                       ⟨some 35, .call 20 [.t 34], some (33, true)⟩,
                       ⟨some 36, .len (.sl) (.t 35), some (33, true)⟩,
                       ⟨some 37, .bin (.eql) (.other) (.t 36) (.c (.int (.i64) 0)), some (33, true)⟩,
                       ⟨some 38, .pick (.t 33) (.t 37) (.c (.bool false)), none⟩,
                       ⟨some 39, .mov (.t 38), none⟩,
                       ⟨some 40, .mov (.t 7), some (39, true)⟩,
                       ⟨some 41, .call 9 [.t 40], some (39, true)⟩,
                       ⟨some 42, .bin (.eql) (.other) (.t 41) (.c (.int (.i64) 0)), some (39, true)⟩,
                       ⟨some 43, .pick (.t 39) (.t 42) (.c (.bool false)), none⟩,
                       ⟨some 44, .mov (.t 43), none⟩,
                       ⟨some 45, .call 10 [], some (44, true)⟩,
                       ⟨some 46, .pick (.t 44) (.t 45) (.c (.bool false)), none⟩,
                       ⟨some 6, .mov (.t 46), none⟩])
                    (.ret)))))⟩
theorem c5 : cFunc Try.prog Try.f5 = some sf5 := by kernel_rfl

/-- wharfage/net.New -/
def sf6 : SFunc := ⟨3,
  [.tmp 0],
  .seq
            (.ops [⟨some 0, .mov (.c (.nilptr)), none⟩])
            (.seq
              (.ops
                [⟨some 1, .build [.nilsl, .bool false] [(1, 1, .c (.bool true))], none⟩,
                 ⟨some 2, .box (.t 1), none⟩,
                 ⟨some 0, .mov (.t 2), none⟩])
              (.ret))⟩
theorem c6 : cFunc Try.prog Try.f6 = some sf6 := by kernel_rfl

/-- (*wharfage/net.Net).Send -/
def sf7 : SFunc := ⟨41,
  [.tmp 4],
  .seq
            (.ops [⟨some 3, .box (.t 1), none⟩, ⟨some 4, .mov (.c (.int (.i64) 0)), none⟩])
            (.seq
              (.block
                0
                (.seq
                  (.ops
                    [⟨some 6, .mov (.t 0), none⟩, ⟨some 7, .call 21 [.t 6], none⟩, ⟨some 5, .mov (.t 7), none⟩])
                  (.cond
                    (.t 5)
                    (.seq (.ops [⟨some 4, .mov (.c (.int (.i64) 1)), none⟩]) (.ret))
                    (.seq
                      (.ops
                        [⟨some 9, .fieldAddr 0 (.t 3), none⟩,
                         ⟨some 10, .load false 1 (.t 9), none⟩,
                         ⟨some 11, .bin (.lss) (.other) (.t 10) (.c (.int (.i64) 0)), none⟩,
                         ⟨some 12, .mov (.t 11), none⟩,
                         ⟨some 13, .fieldAddr 0 (.t 3), some (12, false)⟩,
                         ⟨some 14, .load false 1 (.t 13), some (12, false)⟩,
                         ⟨some 15, .bin (.geq) (.other) (.t 14) (.c (.int (.i64) 4)), some (12, false)⟩,
                         ⟨some 16, .pick (.t 12) (.c (.bool true)) (.t 15), none⟩,
                         ⟨some 17, .mov (.t 16), none⟩,
                         ⟨some 18, .fieldAddr 2 (.t 3), some (17, false)⟩,
                         ⟨some 19, .load false 1 (.t 18), some (17, false)⟩,
                         ⟨some 20, .len (.sl) (.t 19), some (17, false)⟩,
                         ⟨some 21, .bin (.gtr) (.other) (.t 20) (.c (.int (.i64) 4096)), some (17, false)⟩,
                         ⟨some 22, .pick (.t 17) (.c (.bool true)) (.t 21), none⟩,
                         ⟨some 8, .mov (.t 22), none⟩])
                      (.cond
                        (.t 8)
                        (.seq (.ops [⟨some 4, .mov (.c (.int (.i64) 2)), none⟩]) (.ret))
                        (.seq
                          (.ops
                            [⟨some 24, .mov (.t 0), none⟩,
                             ⟨some 25, .nilChk (.t 24), none⟩,
                             ⟨some 26, .fieldAddr 0 (.t 25), none⟩,
                             ⟨some 27, .load false 1 (.t 26), none⟩,
                             ⟨some 28, .len (.sl) (.t 27), none⟩,
                             ⟨some 29, .bin (.geq) (.other) (.t 28) (.c (.int (.i64) 64)), none⟩,
                             ⟨some 23, .mov (.t 29), none⟩])
                          (.cond (.t 23) (.seq (.ops [⟨some 4, .mov (.c (.int (.i64) 10)), none⟩]) (.ret)) (.skip))))))))
              (.seq
                (.drawOps
                  [⟨some 30, .mov (.t 0), none⟩,
                   ⟨some 31, .mov (.t 0), none⟩,
                   ⟨some 32, .nilChk (.t 31), none⟩,
                   ⟨some 33, .fieldAddr 0 (.t 32), none⟩,
                   ⟨some 34, .load false 1 (.t 33), none⟩,
                   ⟨some 35, .load true 3 (.t 3), none⟩,
                   ⟨some 36, .call 22 [.t 35], none⟩,
                   ⟨some 37, .buildSlice [.int (.i64) 0, .bool false, .nilsl] 1 3 [(0, 3, .t 36)], none⟩,
                   ⟨some 38, .append 3 40 (.t 34) (.t 37), none⟩,
                   ⟨some 39, .nilChk (.t 30), none⟩,
                   ⟨some 40, .fieldAddr 0 (.t 39), none⟩,
                   ⟨none, .store 1 (.t 40) (.t 38), none⟩]
                  [(4, 6), (4, 7)])
                (.seq (.ops [⟨some 4, .mov (.c (.int (.i64) 0)), none⟩]) (.ret))))⟩
theorem c7 : cFunc Try.prog Try.f7 = some sf7 := by kernel_rfl

/-- (*wharfage/net.Net).Take -/
def sf8 : SFunc := ⟨28,
  [.cell 6 true 3, .tmp 7],
  .seq
            (.ops
              [⟨some 6, .box (.c (.agg [.int (.i64) 0, .bool false, .nilsl])), none⟩,
               ⟨some 7, .mov (.c (.bool false)), none⟩])
            (.seq
              (.seq
                (.ops
                  [⟨some 9, .mov (.t 0), none⟩,
                   ⟨some 10, .mov (.t 1), none⟩,
                   ⟨some 11, .call 23 [.t 9, .t 10], none⟩,
                   ⟨some 12, .un (.not) (.t 11), none⟩])
                (.cond
                  (.t 12)
                  (.seq
                    (.ops
                      [⟨some 13, .build [.int (.i64) 0, .bool false, .nilsl] [], none⟩,
                       ⟨none, .store 3 (.t 6) (.t 13), none⟩,
                       ⟨some 7, .mov (.c (.bool false)), none⟩])
                    (.ret))
                  (.skip)))
              (.seq
                (.ops
                  [⟨some 14, .mov (.t 0), none⟩,
                   ⟨some 15, .nilChk (.t 14), none⟩,
                   ⟨some 16, .fieldAddr 0 (.t 15), none⟩,
                   ⟨some 17, .load false 1 (.t 16), none⟩,
                   ⟨some 18, .mov (.t 1), none⟩,
                   ⟨some 19, .idxAddrSl 3 (.t 17) (.t 18), none⟩,
                   ⟨some 20, .load true 3 (.t 19), none⟩,
                   ⟨some 21, .call 22 [.t 20], none⟩,
                   ⟨some 8, .box (.c (.agg [.int (.i64) 0, .bool false, .nilsl])), none⟩,
                   ⟨none, .store 3 (.t 8) (.t 21), none⟩])
                (.seq
                  (.seq
                    (.ops [⟨some 22, .mov (.t 2), none⟩, ⟨some 23, .un (.not) (.t 22), none⟩])
                    (.cond
                      (.t 23)
                      (.ops
                        [⟨some 24, .mov (.t 0), none⟩,
                         ⟨some 25, .mov (.t 1), none⟩,
                         ⟨some 26, .call 15 [.t 24, .t 25], none⟩])
                      (.skip)))
                  (.seq
                    (.ops
                      [⟨some 27, .load true 3 (.t 8), none⟩,
                       ⟨none, .store 3 (.t 6) (.t 27), none⟩,
                       ⟨some 7, .mov (.c (.bool true)), none⟩])
                    (.ret)))))⟩
theorem c8 : cFunc Try.prog Try.f8 = some sf8 := by kernel_rfl

/-- (*wharfage/net.Net).Len -/
def sf9 : SFunc := ⟨10,
  [.tmp 2],
  .seq
            (.ops [⟨some 2, .mov (.c (.int (.i64) 0)), none⟩])
            (.seq
              (.seq
                (.ops [⟨some 3, .mov (.t 0), none⟩, ⟨some 4, .call 21 [.t 3], none⟩])
                (.cond (.t 4) (.seq (.ops [⟨some 2, .mov (.c (.int (.i64) 0)), none⟩]) (.ret)) (.skip)))
              (.seq
                (.ops
                  [⟨some 5, .mov (.t 0), none⟩,
                   ⟨some 6, .nilChk (.t 5), none⟩,
                   ⟨some 7, .fieldAddr 0 (.t 6), none⟩,
                   ⟨some 8, .load false 1 (.t 7), none⟩,
                   ⟨some 9, .len (.sl) (.t 8), none⟩,
                   ⟨some 2, .mov (.t 9), none⟩])
                (.ret)))⟩
theorem c9 : cFunc Try.prog Try.f9 = some sf9 := by kernel_rfl

/-- wharfage/wharfagelaw22.lives -/
def sf10 : SFunc := ⟨75,
  [.tmp 0],
  .seq
            (.ops [⟨some 0, .mov (.c (.bool false)), none⟩])
            (.seq
              (.ops [⟨some 11, .call 6 [], none⟩, ⟨some 1, .mov (.t 11), none⟩])
              (.seq
                (.seq
                  (.ops
                    [⟨some 12, .mov (.t 1), none⟩, ⟨some 13, .bin (.eql) (.ptr) (.t 12) (.c (.nilptr)), none⟩])
                  (.cond (.t 13) (.seq (.ops [⟨some 0, .mov (.c (.bool false)), none⟩]) (.ret)) (.skip)))
                (.seq
                  (.ops
                    [⟨some 14, .mov (.t 1), none⟩,
                     ⟨some 15, .build [.int (.i64) 0, .bool false, .nilsl] [(0, 1, .c (.int (.i64) 4))], none⟩,
                     ⟨some 16, .call 7 [.t 14, .t 15], none⟩,
                     ⟨some 2, .mov (.t 16), none⟩])
                  (.seq
                    (.ops
                      [⟨some 17, .mov (.t 1), none⟩,
                       ⟨some 18, .buildSlice [.int (.u8) 0] 1 1 [(0, 1, .c (.int (.u8) 7))], none⟩,
                       ⟨some 19, .build [.int (.i64) 0, .bool false, .nilsl] [(2, 1, .t 18)], none⟩,
                       ⟨some 20, .call 7 [.t 17, .t 19], none⟩,
                       ⟨some 3, .mov (.t 20), none⟩])
                    (.seq
                      (.ops
                        [⟨some 22, .mov (.t 1), none⟩,
                         ⟨some 23, .call 8 [.t 22, .c (.int (.i64) 0), .c (.bool true)], none⟩,
                         ⟨some 21, .mov (.t 23), none⟩,
                         ⟨some 24, .extract (.t 21) 0, none⟩,
                         ⟨some 25, .extract (.t 21) 1, none⟩,
                         ⟨some 4, .box (.c (.agg [.int (.i64) 0, .bool false, .nilsl])), none⟩,
                         ⟨none, .store 3 (.t 4) (.t 24), none⟩,
                         ⟨some 5, .mov (.t 25), none⟩])
                      (.seq
                        (.ops
                          [⟨some 26, .mov (.t 1), none⟩,
                           ⟨some 27, .call 9 [.t 26], none⟩,
                           ⟨some 6, .mov (.t 27), none⟩])
                        (.seq
                          (.ops
                            [⟨some 29, .mov (.t 1), none⟩,
                             ⟨some 30, .call 8 [.t 29, .c (.int (.i64) 0), .c (.bool false)], none⟩,
                             ⟨some 28, .mov (.t 30), none⟩,
                             ⟨some 31, .extract (.t 28) 0, none⟩,
                             ⟨some 32, .extract (.t 28) 1, none⟩,
                             ⟨some 7, .box (.c (.agg [.int (.i64) 0, .bool false, .nilsl])), none⟩,
                             ⟨none, .store 3 (.t 7) (.t 31), none⟩,
                             ⟨some 8, .mov (.t 32), none⟩])
                          (.seq
                            (.ops
                              [⟨some 34, .mov (.t 1), none⟩,
                               ⟨some 35, .call 8 [.t 34, .c (.int (.i64) 0), .c (.bool false)], none⟩,
                               ⟨some 33, .mov (.t 35), none⟩,
                               ⟨some 36, .extract (.t 33) 0, none⟩,
                               ⟨some 37, .extract (.t 33) 1, none⟩,
                               ⟨some 9, .box (.c (.agg [.int (.i64) 0, .bool false, .nilsl])), none⟩,
                               ⟨none, .store 3 (.t 9) (.t 36), none⟩,
                               ⟨some 10, .mov (.t 37), none⟩])
                            (.seq
                              (.ops
                                [⟨some 38, .mov (.t 2), none⟩,
                                 ⟨some 39, .bin (.eql) (.other) (.t 38) (.c (.int (.i64) 2)), none⟩,
                                 ⟨some 40, .mov (.t 39), none⟩,
                                 ⟨some 41, .mov (.t 3), some (40, true)⟩,
                                 ⟨some 42, .bin (.eql) (.other) (.t 41) (.c (.int (.i64) 0)), some (40, true)⟩,
                                 ⟨some 43, .pick (.t 40) (.t 42) (.c (.bool false)), none⟩,
                                 ⟨some 44, .mov (.t 43), none⟩,
                                 ⟨some 45, .mov (.t 5), some (44, true)⟩,
                                 ⟨some 46, .pick (.t 44) (.t 45) (.c (.bool false)), none⟩,
                                 ⟨some 47, .mov (.t 46), none⟩,
                                 ⟨some 48, .fieldAddr 2 (.t 4), some (47, true)⟩,
                                 ⟨some 49, .load false 1 (.t 48), some (47, true)⟩,
                                 ⟨some 50, .buildSlice [.int (.u8) 0] 1 1 [(0, 1, .c (.int (.u8) 7))], some (47, true)⟩,
                                 ⟨some 51, .call 24 [.t 49, .t 50], some (47, true)⟩,
                                 ⟨some 52, .pick (.t 47) (.t 51) (.c (.bool false)), none⟩,
                                 ⟨some 53, .mov (.t 52), none⟩,
                                 ⟨some 54, .mov (.t 6), some (53, true)⟩,
                                 ⟨some 55, .bin (.eql) (.other) (.t 54) (.c (.int (.i64) 1)), some (53, true)⟩,
                                 ⟨some 56, .pick (.t 53) (.t 55) (.c (.bool false)), none⟩,
                                 ⟨some 57, .mov (.t 56), none⟩,
                                 ⟨some 58, .mov (.t 8), some (57, true)⟩,
                                 ⟨some 59, .pick (.t 57) (.t 58) (.c (.bool false)), none⟩,
                                 ⟨some 60, .mov (.t 59), none⟩,
                                 ⟨some 61, .fieldAddr 2 (.t 7), some (60, true)⟩,
                                 ⟨some 62, .load false 1 (.t 61), some (60, true)⟩,
                                 ⟨some 63, .buildSlice [.int (.u8) 0] 1 1 [(0, 1, .c (.int (.u8) 7))], some (60, true)⟩,
                                 ⟨some 64, .call 24 [.t 62, .t 63], some (60, true)⟩,
                                 ⟨some 65, .pick (.t 60) (.t 64) (.c (.bool false)), none⟩,
                                 ⟨some 66, .mov (.t 65), none⟩,
                                 ⟨some 67, .mov (.t 1), some (66, true)⟩,
                                 ⟨some 68, .call 9 [.t 67], some (66, true)⟩,
                                 ⟨some 69, .bin (.eql) (.other) (.t 68) (.c (.int (.i64) 0)), some (66, true)⟩,
                                 ⟨some 70, .pick (.t 66) (.t 69) (.c (.bool false)), none⟩,
                                 ⟨some 71, .mov (.t 70), none⟩,
                                 ⟨some 72, .mov (.t 10), some (71, true)⟩,
                                 ⟨some 73, .un (.not) (.t 72), some (71, true)⟩,
                                 ⟨some 74, .pick (.t 71) (.t 73) (.c (.bool false)), none⟩,
                                 ⟨some 0, .mov (.t 74), none⟩])
                              (.ret))))))))))⟩
theorem c10 : cFunc Try.prog Try.f10 = some sf10 := by kernel_rfl

/-- wharfage/wharfageref00.Wide -/
def sf11 : SFunc := ⟨13,
  [.tmp 2],
  .seq
            (.ops [⟨some 2, .mov (.c (.nilsl)), none⟩])
            (.seq
              (.ops
                [⟨some 4, .mov (.t 0), none⟩, ⟨some 5, .call 25 [.t 4], none⟩, ⟨some 3, .mov (.t 5), none⟩])
              (.seq
                (.ops
                  [⟨some 6, .mov (.t 3), none⟩,
                   ⟨some 7,
                     .buildSlice
                             [.int (.u8) 0, .int (.u8) 0, .int (.u8) 0]
                             3
                             1
                             [(0, 1, .c (.int (.u8) 9)), (1, 1, .c (.int (.u8) 9)), (2, 1, .c (.int (.u8) 9))],
                     none⟩,
                   ⟨some 8, .append 1 1 (.t 6) (.t 7), none⟩,
                   ⟨some 3, .mov (.t 8), none⟩])
                (.seq
                  (.ops
                    [⟨some 9, .mov (.t 3), none⟩,
                     ⟨some 10, .mov (.t 0), none⟩,
                     ⟨some 11, .len (.sl) (.t 10), none⟩,
                     ⟨some 12, .slice 1 (.t 9) none (some (.t 11)) none, none⟩,
                     ⟨some 2, .mov (.t 12), none⟩])
                  (.ret))))⟩
theorem c11 : cFunc Try.prog Try.f11 = some sf11 := by kernel_rfl

/-- (*wharfage/wharfageref22.Net).Send -/
def sf12 : SFunc := ⟨36,
  [.tmp 4],
  .seq
            (.ops [⟨some 3, .box (.t 1), none⟩, ⟨some 4, .mov (.c (.int (.i64) 0)), none⟩])
            (.seq
              (.seq
                (.ops
                  [⟨some 5, .fieldAddr 0 (.t 3), none⟩,
                   ⟨some 6, .load false 1 (.t 5), none⟩,
                   ⟨some 7, .bin (.lss) (.other) (.t 6) (.c (.int (.i64) 0)), none⟩,
                   ⟨some 8, .mov (.t 7), none⟩,
                   ⟨some 9, .fieldAddr 0 (.t 3), some (8, false)⟩,
                   ⟨some 10, .load false 1 (.t 9), some (8, false)⟩,
                   ⟨some 11, .bin (.geq) (.other) (.t 10) (.c (.int (.i64) 4)), some (8, false)⟩,
                   ⟨some 12, .pick (.t 8) (.c (.bool true)) (.t 11), none⟩,
                   ⟨some 13, .mov (.t 12), none⟩,
                   ⟨some 14, .fieldAddr 2 (.t 3), some (13, false)⟩,
                   ⟨some 15, .load false 1 (.t 14), some (13, false)⟩,
                   ⟨some 16, .len (.sl) (.t 15), some (13, false)⟩,
                   ⟨some 17, .bin (.gtr) (.other) (.t 16) (.c (.int (.i64) 4096)), some (13, false)⟩,
                   ⟨some 18, .pick (.t 13) (.c (.bool true)) (.t 17), none⟩])
                (.cond (.t 18) (.seq (.ops [⟨some 4, .mov (.c (.int (.i64) 2)), none⟩]) (.ret)) (.skip)))
              (.seq
                (.seq
                  (.ops
                    [⟨some 19, .mov (.t 0), none⟩,
                     ⟨some 20, .nilChk (.t 19), none⟩,
                     ⟨some 21, .fieldAddr 0 (.t 20), none⟩,
                     ⟨some 22, .load false 1 (.t 21), none⟩,
                     ⟨some 23, .len (.sl) (.t 22), none⟩,
                     ⟨some 24, .bin (.geq) (.other) (.t 23) (.c (.int (.i64) 64)), none⟩])
                  (.cond (.t 24) (.seq (.ops [⟨some 4, .mov (.c (.int (.i64) 10)), none⟩]) (.ret)) (.skip)))
                (.seq
                  (.drawOps
                    [⟨some 25, .mov (.t 0), none⟩,
                     ⟨some 26, .mov (.t 0), none⟩,
                     ⟨some 27, .nilChk (.t 26), none⟩,
                     ⟨some 28, .fieldAddr 0 (.t 27), none⟩,
                     ⟨some 29, .load false 1 (.t 28), none⟩,
                     ⟨some 30, .load true 3 (.t 3), none⟩,
                     ⟨some 31, .call 26 [.t 30], none⟩,
                     ⟨some 32, .buildSlice [.int (.i64) 0, .bool false, .nilsl] 1 3 [(0, 3, .t 31)], none⟩,
                     ⟨some 33, .append 3 40 (.t 29) (.t 32), none⟩,
                     ⟨some 34, .nilChk (.t 25), none⟩,
                     ⟨some 35, .fieldAddr 0 (.t 34), none⟩,
                     ⟨none, .store 1 (.t 35) (.t 33), none⟩]
                    [(4, 6), (4, 7)])
                  (.seq (.ops [⟨some 4, .mov (.c (.int (.i64) 0)), none⟩]) (.ret)))))⟩
theorem c12 : cFunc Try.prog Try.f12 = some sf12 := by kernel_rfl

/-- wharfage/wharfageref00.Left -/
def sf13 : SFunc := ⟨50,
  [.tmp 4],
  .seq
            (.ops [⟨some 4, .mov (.c (.bool false)), none⟩])
            (.seq
              (.seq
                (.ops
                  [⟨some 6, .mov (.t 0), none⟩,
                   ⟨some 7, .mov (.t 1), none⟩,
                   ⟨some 8, .call 24 [.t 6, .t 7], none⟩,
                   ⟨some 9, .un (.not) (.t 8), none⟩,
                   ⟨some 10, .mov (.t 9), none⟩,
                   ⟨some 11, .mov (.t 0), some (10, false)⟩,
                   ⟨some 12, .cap (.t 11), some (10, false)⟩,
                   ⟨some 13, .mov (.t 0), some (10, false)⟩,
                   ⟨some 14, .len (.sl) (.t 13), some (10, false)⟩,
                   ⟨some 15, .bin (.add) (.other) (.t 14) (.c (.int (.i64) 3)), some (10, false)⟩,
                   ⟨some 16, .bin (.lss) (.other) (.t 12) (.t 15), some (10, false)⟩,
                   ⟨some 17, .pick (.t 10) (.c (.bool true)) (.t 16), none⟩])
                (.cond (.t 17) (.seq (.ops [⟨some 4, .mov (.c (.bool false)), none⟩]) (.ret)) (.skip)))
              (.seq
                (.ops
                  [⟨some 18, .mov (.t 0), none⟩,
                   ⟨some 19, .mov (.t 0), none⟩,
                   ⟨some 20, .len (.sl) (.t 19), none⟩,
                   ⟨some 21, .bin (.add) (.other) (.t 20) (.c (.int (.i64) 3)), none⟩,
                   ⟨some 22, .mov (.t 0), none⟩,
                   ⟨some 23, .len (.sl) (.t 22), none⟩,
                   ⟨some 24, .bin (.add) (.other) (.t 23) (.c (.int (.i64) 3)), none⟩,
                   ⟨some 25, .slice 1 (.t 18) none (some (.t 21)) (some (.t 24)), none⟩,
                   ⟨some 5, .mov (.t 25), none⟩])
                (.seq
                  (.ops
                    [⟨some 26, .mov (.t 5), none⟩,
                     ⟨some 27, .mov (.t 0), none⟩,
                     ⟨some 28, .len (.sl) (.t 27), none⟩,
                     ⟨some 29, .idxAddrSl 1 (.t 26) (.t 28), none⟩,
                     ⟨some 30, .load false 1 (.t 29), none⟩,
                     ⟨some 31, .bin (.eql) (.other) (.t 30) (.c (.int (.u8) 9)), none⟩,
                     ⟨some 32, .mov (.t 31), none⟩,
                     ⟨some 33, .mov (.t 5), some (32, true)⟩,
                     ⟨some 34, .mov (.t 0), some (32, true)⟩,
                     ⟨some 35, .len (.sl) (.t 34), some (32, true)⟩,
                     ⟨some 36, .bin (.add) (.other) (.t 35) (.c (.int (.i64) 1)), some (32, true)⟩,
                     ⟨some 37, .idxAddrSl 1 (.t 33) (.t 36), some (32, true)⟩,
                     ⟨some 38, .load false 1 (.t 37), some (32, true)⟩,
                     ⟨some 39, .bin (.eql) (.other) (.t 38) (.c (.int (.u8) 9)), some (32, true)⟩,
                     ⟨some 40, .pick (.t 32) (.t 39) (.c (.bool false)), none⟩,
                     ⟨some 41, .mov (.t 40), none⟩,
                     ⟨some 42, .mov (.t 5), some (41, true)⟩,
                     ⟨some 43, .mov (.t 0), some (41, true)⟩,
                     ⟨some 44, .len (.sl) (.t 43), some (41, true)⟩,
                     ⟨some 45, .bin (.add) (.other) (.t 44) (.c (.int (.i64) 2)), some (41, true)⟩,
                     ⟨some 46, .idxAddrSl 1 (.t 42) (.t 45), some (41, true)⟩,
                     ⟨some 47, .load false 1 (.t 46), some (41, true)⟩,
                     ⟨some 48, .bin (.eql) (.other) (.t 47) (.c (.int (.u8) 9)), some (41, true)⟩,
                     ⟨some 49, .pick (.t 41) (.t 48) (.c (.bool false)), none⟩,
                     ⟨some 4, .mov (.t 49), none⟩])
                  (.ret))))⟩
theorem c13 : cFunc Try.prog Try.f13 = some sf13 := by kernel_rfl

/-- wharfage/wharfageref00.Spoil -/
def sf14 : SFunc := ⟨27,
  [],
  .seq
            (.ops
              [⟨some 6, .mov (.t 0), none⟩,
               ⟨some 7, .mov (.t 0), none⟩,
               ⟨some 8, .cap (.t 7), none⟩,
               ⟨some 9, .mov (.t 0), none⟩,
               ⟨some 10, .cap (.t 9), none⟩,
               ⟨some 11, .slice 1 (.t 6) none (some (.t 8)) (some (.t 10)), none⟩,
               ⟨some 4, .mov (.t 11), none⟩])
            (.seq
              (.ops [⟨some 5, .mov (.c (.int (.i64) 0)), none⟩])
              (.block
                0
                (.loop
                  (.seq
                    (.seq
                      (.ops
                        [⟨some 12, .mov (.t 5), none⟩,
                         ⟨some 13, .mov (.t 4), none⟩,
                         ⟨some 14, .len (.sl) (.t 13), none⟩,
                         ⟨some 15, .bin (.lss) (.other) (.t 12) (.t 14), none⟩])
                      (.cond (.t 15) (.skip) (.exit 0)))
                    (.seq
                      (.block
                        1
                        (.ops
                          [⟨some 18, .mov (.t 4), none⟩,
                           ⟨some 19, .mov (.t 5), none⟩,
                           ⟨some 20, .mov (.t 4), none⟩,
                           ⟨some 21, .mov (.t 5), none⟩,
                           ⟨some 22, .idxAddrSl 1 (.t 20) (.t 21), none⟩,
                           ⟨some 23, .load false 1 (.t 22), none⟩,
                           ⟨some 24, .mov (.t 1), none⟩,
                           ⟨some 25, .bin (.xor) (.other) (.t 23) (.t 24), none⟩,
                           ⟨some 26, .idxAddrSl 1 (.t 18) (.t 19), none⟩,
                           ⟨none, .store 1 (.t 26) (.t 25), none⟩]))
                      (.ops
                        [⟨some 16, .mov (.t 5), none⟩,
                         ⟨some 17, .bin (.add) (.other) (.t 16) (.c (.int (.i64) 1)), none⟩,
                         ⟨some 5, .mov (.t 17), none⟩]))))))⟩
theorem c14 : cFunc Try.prog Try.f14 = some sf14 := by kernel_rfl

/-- (*wharfage/net.Net).Drop -/
def sf15 : SFunc := ⟨20,
  [.tmp 4],
  .seq
            (.ops [⟨some 4, .mov (.c (.bool false)), none⟩])
            (.seq
              (.seq
                (.ops
                  [⟨some 5, .mov (.t 0), none⟩,
                   ⟨some 6, .mov (.t 1), none⟩,
                   ⟨some 7, .call 23 [.t 5, .t 6], none⟩,
                   ⟨some 8, .un (.not) (.t 7), none⟩])
                (.cond (.t 8) (.seq (.ops [⟨some 4, .mov (.c (.bool false)), none⟩]) (.ret)) (.skip)))
              (.seq
                (.ops
                  [⟨some 9, .mov (.t 0), none⟩,
                   ⟨some 10, .mov (.t 0), none⟩,
                   ⟨some 11, .nilChk (.t 10), none⟩,
                   ⟨some 12, .fieldAddr 0 (.t 11), none⟩,
                   ⟨some 13, .load false 1 (.t 12), none⟩,
                   ⟨some 14, .mov (.t 1), none⟩,
                   ⟨some 15, .mov (.t 1), none⟩,
                   ⟨some 16, .bin (.add) (.other) (.t 15) (.c (.int (.i64) 1)), none⟩,
                   ⟨some 17, .call 27 [.t 13, .t 14, .t 16], none⟩,
                   ⟨some 18, .nilChk (.t 9), none⟩,
                   ⟨some 19, .fieldAddr 0 (.t 18), none⟩,
                   ⟨none, .store 1 (.t 19) (.t 17), none⟩])
                (.seq (.ops [⟨some 4, .mov (.c (.bool true)), none⟩]) (.ret))))⟩
theorem c15 : cFunc Try.prog Try.f15 = some sf15 := by kernel_rfl

/-- (*wharfage/wharfageref22.Net).Drop -/
def sf16 : SFunc := ⟨44,
  [.tmp 4],
  .seq
            (.ops [⟨some 4, .mov (.c (.bool false)), none⟩])
            (.seq
              (.seq
                (.ops
                  [⟨some 7, .mov (.t 1), none⟩,
                   ⟨some 8, .bin (.lss) (.other) (.t 7) (.c (.int (.i64) 0)), none⟩,
                   ⟨some 9, .mov (.t 8), none⟩,
                   ⟨some 10, .mov (.t 1), some (9, false)⟩,
                   ⟨some 11, .mov (.t 0), some (9, false)⟩,
                   ⟨some 12, .nilChk (.t 11), some (9, false)⟩,
                   ⟨some 13, .fieldAddr 0 (.t 12), some (9, false)⟩,
                   ⟨some 14, .load false 1 (.t 13), some (9, false)⟩,
                   ⟨some 15, .len (.sl) (.t 14), some (9, false)⟩,
                   ⟨some 16, .bin (.geq) (.other) (.t 10) (.t 15), some (9, false)⟩,
                   ⟨some 17, .pick (.t 9) (.c (.bool true)) (.t 16), none⟩])
                (.cond (.t 17) (.seq (.ops [⟨some 4, .mov (.c (.bool false)), none⟩]) (.ret)) (.skip)))
              (.seq
                (.ops [⟨some 5, .mov (.c (.nilsl)), none⟩])
                (.seq
                  (.seq
                    (.ops [⟨some 6, .mov (.c (.int (.i64) 0)), none⟩])
                    (.block
                      0
                      (.loop
                        (.seq
                          (.seq
                            (.ops
                              [⟨some 18, .mov (.t 6), none⟩,
                               ⟨some 19, .mov (.t 0), none⟩,
                               ⟨some 20, .nilChk (.t 19), none⟩,
                               ⟨some 21, .fieldAddr 0 (.t 20), none⟩,
                               ⟨some 22, .load false 1 (.t 21), none⟩,
                               ⟨some 23, .len (.sl) (.t 22), none⟩,
                               ⟨some 24, .bin (.lss) (.other) (.t 18) (.t 23), none⟩])
                            (.cond (.t 24) (.skip) (.exit 0)))
                          (.seq
                            (.block
                              1
                              (.seq
                                (.ops
                                  [⟨some 27, .mov (.t 6), none⟩,
                                   ⟨some 28, .mov (.t 1), none⟩,
                                   ⟨some 29, .bin (.neq) (.other) (.t 27) (.t 28), none⟩])
                                (.cond
                                  (.t 29)
                                  (.ops
                                    [⟨some 30, .mov (.t 5), none⟩,
                                     ⟨some 31, .mov (.t 0), none⟩,
                                     ⟨some 32, .nilChk (.t 31), none⟩,
                                     ⟨some 33, .fieldAddr 0 (.t 32), none⟩,
                                     ⟨some 34, .load false 1 (.t 33), none⟩,
                                     ⟨some 35, .mov (.t 6), none⟩,
                                     ⟨some 36, .idxAddrSl 3 (.t 34) (.t 35), none⟩,
                                     ⟨some 37, .load true 3 (.t 36), none⟩,
                                     ⟨some 38, .buildSlice [.int (.i64) 0, .bool false, .nilsl] 1 3 [(0, 3, .t 37)], none⟩,
                                     ⟨some 39, .append 3 40 (.t 30) (.t 38), none⟩,
                                     ⟨some 5, .mov (.t 39), none⟩])
                                  (.skip))))
                            (.ops
                              [⟨some 25, .mov (.t 6), none⟩,
                               ⟨some 26, .bin (.add) (.other) (.t 25) (.c (.int (.i64) 1)), none⟩,
                               ⟨some 6, .mov (.t 26), none⟩]))))))
                  (.seq
                    (.ops
                      [⟨some 40, .mov (.t 0), none⟩,
                       ⟨some 41, .mov (.t 5), none⟩,
                       ⟨some 42, .nilChk (.t 40), none⟩,
                       ⟨some 43, .fieldAddr 0 (.t 42), none⟩,
                       ⟨none, .store 1 (.t 43) (.t 41), none⟩])
                    (.seq (.ops [⟨some 4, .mov (.c (.bool true)), none⟩]) (.ret))))))⟩
theorem c16 : cFunc Try.prog Try.f16 = some sf16 := by kernel_rfl

/-- (*wharfage/wharfageref22.Net).Take -/
def sf17 : SFunc := ⟨35,
  [.cell 6 true 3, .tmp 7],
  .seq
            (.ops
              [⟨some 6, .box (.c (.agg [.int (.i64) 0, .bool false, .nilsl])), none⟩,
               ⟨some 7, .mov (.c (.bool false)), none⟩])
            (.seq
              (.seq
                (.ops
                  [⟨some 9, .mov (.t 1), none⟩,
                   ⟨some 10, .bin (.lss) (.other) (.t 9) (.c (.int (.i64) 0)), none⟩,
                   ⟨some 11, .mov (.t 10), none⟩,
                   ⟨some 12, .mov (.t 1), some (11, false)⟩,
                   ⟨some 13, .mov (.t 0), some (11, false)⟩,
                   ⟨some 14, .nilChk (.t 13), some (11, false)⟩,
                   ⟨some 15, .fieldAddr 0 (.t 14), some (11, false)⟩,
                   ⟨some 16, .load false 1 (.t 15), some (11, false)⟩,
                   ⟨some 17, .len (.sl) (.t 16), some (11, false)⟩,
                   ⟨some 18, .bin (.geq) (.other) (.t 12) (.t 17), some (11, false)⟩,
                   ⟨some 19, .pick (.t 11) (.c (.bool true)) (.t 18), none⟩])
                (.cond
                  (.t 19)
                  (.seq
                    (.ops
                      [⟨some 20, .build [.int (.i64) 0, .bool false, .nilsl] [], none⟩,
                       ⟨none, .store 3 (.t 6) (.t 20), none⟩,
                       ⟨some 7, .mov (.c (.bool false)), none⟩])
                    (.ret))
                  (.skip)))
              (.seq
                (.ops
                  [⟨some 21, .mov (.t 0), none⟩,
                   ⟨some 22, .nilChk (.t 21), none⟩,
                   ⟨some 23, .fieldAddr 0 (.t 22), none⟩,
                   ⟨some 24, .load false 1 (.t 23), none⟩,
                   ⟨some 25, .mov (.t 1), none⟩,
                   ⟨some 26, .idxAddrSl 3 (.t 24) (.t 25), none⟩,
                   ⟨some 27, .load true 3 (.t 26), none⟩,
                   ⟨some 28, .call 26 [.t 27], none⟩,
                   ⟨some 8, .box (.c (.agg [.int (.i64) 0, .bool false, .nilsl])), none⟩,
                   ⟨none, .store 3 (.t 8) (.t 28), none⟩])
                (.seq
                  (.seq
                    (.ops [⟨some 29, .mov (.t 2), none⟩, ⟨some 30, .un (.not) (.t 29), none⟩])
                    (.cond
                      (.t 30)
                      (.ops
                        [⟨some 31, .mov (.t 0), none⟩,
                         ⟨some 32, .mov (.t 1), none⟩,
                         ⟨some 33, .call 16 [.t 31, .t 32], none⟩])
                      (.skip)))
                  (.seq
                    (.ops
                      [⟨some 34, .load true 3 (.t 8), none⟩,
                       ⟨none, .store 3 (.t 6) (.t 34), none⟩,
                       ⟨some 7, .mov (.c (.bool true)), none⟩])
                    (.ret)))))⟩
theorem c17 : cFunc Try.prog Try.f17 = some sf17 := by kernel_rfl

/-- wharfage/wharfageref22.Same -/
def sf18 : SFunc := ⟨24,
  [.tmp 4],
  .seq
            (.ops
              [⟨some 2, .box (.t 0), none⟩,
               ⟨some 3, .box (.t 1), none⟩,
               ⟨some 4, .mov (.c (.bool false)), none⟩])
            (.seq
              (.ops
                [⟨some 5, .fieldAddr 0 (.t 2), none⟩,
                 ⟨some 6, .load false 1 (.t 5), none⟩,
                 ⟨some 7, .fieldAddr 0 (.t 3), none⟩,
                 ⟨some 8, .load false 1 (.t 7), none⟩,
                 ⟨some 9, .bin (.eql) (.other) (.t 6) (.t 8), none⟩,
                 ⟨some 10, .mov (.t 9), none⟩,
                 ⟨some 11, .fieldAddr 1 (.t 2), some (10, true)⟩,
                 ⟨some 12, .load false 1 (.t 11), some (10, true)⟩,
                 ⟨some 13, .fieldAddr 1 (.t 3), some (10, true)⟩,
                 ⟨some 14, .load false 1 (.t 13), some (10, true)⟩,
                 ⟨some 15, .bin (.eql) (.bool) (.t 12) (.t 14), some (10, true)⟩,
                 ⟨some 16, .pick (.t 10) (.t 15) (.c (.bool false)), none⟩,
                 ⟨some 17, .mov (.t 16), none⟩,
                 ⟨some 18, .fieldAddr 2 (.t 2), some (17, true)⟩,
                 ⟨some 19, .load false 1 (.t 18), some (17, true)⟩,
                 ⟨some 20, .fieldAddr 2 (.t 3), some (17, true)⟩,
                 ⟨some 21, .load false 1 (.t 20), some (17, true)⟩,
                 ⟨some 22, .call 24 [.t 19, .t 21], some (17, true)⟩,
                 ⟨some 23, .pick (.t 17) (.t 22) (.c (.bool false)), none⟩,
                 ⟨some 4, .mov (.t 23), none⟩])
              (.ret))⟩
theorem c18 : cFunc Try.prog Try.f18 = some sf18 := by kernel_rfl

/-- wharfage/wharfagelaw22.flies -/
def sf19 : SFunc := ⟨52,
  [.tmp 4],
  .seq
            (.ops [⟨some 4, .mov (.c (.bool false)), none⟩])
            (.seq
              (.ops
                [⟨some 7, .mov (.t 0), none⟩, ⟨some 8, .call 20 [.t 7], none⟩, ⟨some 5, .mov (.t 8), none⟩])
              (.seq
                (.seq
                  (.drawOps
                    [⟨some 9, .mov (.t 5), none⟩,
                     ⟨some 10, .len (.sl) (.t 9), none⟩,
                     ⟨some 11, .mov (.t 1), none⟩,
                     ⟨some 12, .nilChk (.t 11), none⟩,
                     ⟨some 13, .fieldAddr 0 (.t 12), none⟩,
                     ⟨some 14, .load false 1 (.t 13), none⟩,
                     ⟨some 15, .len (.sl) (.t 14), none⟩,
                     ⟨some 16, .bin (.neq) (.other) (.t 10) (.t 15), none⟩,
                     ⟨some 17, .mov (.t 16), none⟩,
                     ⟨some 18, .mov (.t 0), some (17, false)⟩,
                     ⟨some 19, .call 9 [.t 18], some (17, false)⟩,
                     ⟨some 20, .mov (.t 1), some (17, false)⟩,
                     ⟨some 21, .nilChk (.t 20), some (17, false)⟩,
                     ⟨some 22, .fieldAddr 0 (.t 21), some (17, false)⟩,
                     ⟨some 23, .load false 1 (.t 22), some (17, false)⟩,
                     ⟨some 24, .len (.sl) (.t 23), some (17, false)⟩,
                     ⟨some 25, .bin (.neq) (.other) (.t 19) (.t 24), some (17, false)⟩,
                     ⟨some 26, .pick (.t 17) (.c (.bool true)) (.t 25), none⟩]
                    [(14, 10)])
                  (.cond (.t 26) (.seq (.ops [⟨some 4, .mov (.c (.bool false)), none⟩]) (.ret)) (.skip)))
                (.seq
                  (.seq
                    (.ops [⟨some 6, .mov (.c (.int (.i64) 0)), none⟩])
                    (.block
                      0
                      (.loop
                        (.seq
                          (.seq
                            (.ops
                              [⟨some 27, .mov (.t 6), none⟩,
                               ⟨some 28, .mov (.t 5), none⟩,
                               ⟨some 29, .len (.sl) (.t 28), none⟩,
                               ⟨some 30, .bin (.lss) (.other) (.t 27) (.t 29), none⟩])
                            (.cond (.t 30) (.skip) (.exit 0)))
                          (.seq
                            (.block
                              1
                              (.seq
                                (.seq
                                  (.ops
                                    [⟨some 33, .mov (.t 5), none⟩,
                                     ⟨some 34, .mov (.t 6), none⟩,
                                     ⟨some 35, .idxAddrSl 3 (.t 33) (.t 34), none⟩,
                                     ⟨some 36, .load true 3 (.t 35), none⟩,
                                     ⟨some 37, .mov (.t 1), none⟩,
                                     ⟨some 38, .nilChk (.t 37), none⟩,
                                     ⟨some 39, .fieldAddr 0 (.t 38), none⟩,
                                     ⟨some 40, .load false 1 (.t 39), none⟩,
                                     ⟨some 41, .mov (.t 6), none⟩,
                                     ⟨some 42, .idxAddrSl 3 (.t 40) (.t 41), none⟩,
                                     ⟨some 43, .load true 3 (.t 42), none⟩,
                                     ⟨some 44, .call 18 [.t 36, .t 43], none⟩,
                                     ⟨some 45, .un (.not) (.t 44), none⟩])
                                  (.cond (.t 45) (.seq (.ops [⟨some 4, .mov (.c (.bool false)), none⟩]) (.ret)) (.skip)))
                                (.ops
                                  [⟨some 46, .mov (.t 5), none⟩,
                                   ⟨some 47, .mov (.t 6), none⟩,
                                   ⟨some 48, .idxAddrSl 3 (.t 46) (.t 47), none⟩,
                                   ⟨some 49, .fieldAddr 2 (.t 48), none⟩,
                                   ⟨some 50, .load false 1 (.t 49), none⟩,
                                   ⟨some 51, .call 14 [.t 50, .c (.int (.u8) 3)], none⟩])))
                            (.ops
                              [⟨some 31, .mov (.t 6), none⟩,
                               ⟨some 32, .bin (.add) (.other) (.t 31) (.c (.int (.i64) 1)), none⟩,
                               ⟨some 6, .mov (.t 32), none⟩]))))))
                  (.seq (.ops [⟨some 4, .mov (.c (.bool true)), none⟩]) (.ret)))))⟩
theorem c19 : cFunc Try.prog Try.f19 = some sf19 := by kernel_rfl

/-- (*wharfage/net.Net).Flying -/
def sf20 : SFunc := ⟨24,
  [.tmp 2],
  .seq
            (.ops [⟨some 2, .mov (.c (.nilsl)), none⟩])
            (.seq
              (.seq
                (.ops [⟨some 6, .mov (.t 0), none⟩, ⟨some 7, .call 21 [.t 6], none⟩])
                (.cond (.t 7) (.seq (.ops [⟨some 2, .mov (.c (.nilsl)), none⟩]) (.ret)) (.skip)))
              (.seq
                (.ops [⟨some 3, .mov (.c (.nilsl)), none⟩])
                (.seq
                  (.seq
                    (.ops
                      [⟨some 8, .mov (.t 0), none⟩,
                       ⟨some 9, .nilChk (.t 8), none⟩,
                       ⟨some 10, .fieldAddr 0 (.t 9), none⟩,
                       ⟨some 11, .load false 1 (.t 10), none⟩,
                       ⟨some 12, .len (.sl) (.t 11), none⟩,
                       ⟨some 13, .mov (.c (.int (.i64) 0)), none⟩])
                    (.block
                      0
                      (.loop
                        (.seq
                          (.ops [⟨some 14, .bin (.lss) (.other) (.t 13) (.t 12), none⟩])
                          (.seq
                            (.cond (.t 14) (.skip) (.exit 0))
                            (.seq
                              (.block
                                1
                                (.seq
                                  (.ops
                                    [⟨some 15, .idxAddrSl 3 (.t 11) (.t 13), none⟩,
                                     ⟨some 16, .load true 3 (.t 15), none⟩,
                                     ⟨some 5, .box (.c (.agg [.int (.i64) 0, .bool false, .nilsl])), none⟩,
                                     ⟨none, .store 3 (.t 5) (.t 16), none⟩])
                                  (.ops
                                    [⟨some 17, .mov (.t 3), none⟩,
                                     ⟨some 18, .load true 3 (.t 5), none⟩,
                                     ⟨some 19, .call 22 [.t 18], none⟩,
                                     ⟨some 20, .buildSlice [.int (.i64) 0, .bool false, .nilsl] 1 3 [(0, 3, .t 19)], none⟩,
                                     ⟨some 21, .append 3 40 (.t 17) (.t 20), none⟩,
                                     ⟨some 3, .mov (.t 21), none⟩])))
                              (.ops
                                [⟨some 22, .bin (.add) (.other) (.t 13) (.c (.int (.i64) 1)), none⟩,
                                 ⟨some 13, .mov (.t 22), none⟩])))))))
                  (.seq (.ops [⟨some 23, .mov (.t 3), none⟩, ⟨some 2, .mov (.t 23), none⟩]) (.ret)))))⟩
theorem c20 : cFunc Try.prog Try.f20 = some sf20 := by kernel_rfl

/-- (*wharfage/net.Net).none -/
def sf21 : SFunc := ⟨12,
  [.tmp 2],
  .seq
            (.ops [⟨some 2, .mov (.c (.bool false)), none⟩])
            (.seq
              (.ops
                [⟨some 3, .mov (.t 0), none⟩,
                 ⟨some 4, .bin (.eql) (.ptr) (.t 3) (.c (.nilptr)), none⟩,
                 ⟨some 5, .mov (.t 4), none⟩,
                 ⟨some 6, .mov (.t 0), some (5, false)⟩,
                 ⟨some 7, .nilChk (.t 6), some (5, false)⟩,
                 ⟨some 8, .fieldAddr 1 (.t 7), some (5, false)⟩,
                 ⟨some 9, .load false 1 (.t 8), some (5, false)⟩,
                 ⟨some 10, .un (.not) (.t 9), some (5, false)⟩,
                 ⟨some 11, .pick (.t 5) (.c (.bool true)) (.t 10), none⟩,
                 ⟨some 2, .mov (.t 11), none⟩])
              (.ret))⟩
theorem c21 : cFunc Try.prog Try.f21 = some sf21 := by kernel_rfl

/-- wharfage/net.copied -/
def sf22 : SFunc := ⟨8,
  [.cell 2 true 3],
  .seq
            (.ops
              [⟨some 1, .box (.t 0), none⟩,
               ⟨some 2, .box (.c (.agg [.int (.i64) 0, .bool false, .nilsl])), none⟩])
            (.seq
              (.ops
                [⟨some 3, .fieldAddr 2 (.t 1), none⟩,
                 ⟨some 4, .load false 1 (.t 3), none⟩,
                 ⟨some 5, .call 28 [.t 4], none⟩,
                 ⟨some 6, .fieldAddr 2 (.t 1), none⟩,
                 ⟨none, .store 1 (.t 6) (.t 5), none⟩])
              (.seq (.ops [⟨some 7, .load true 3 (.t 1), none⟩, ⟨none, .store 3 (.t 2) (.t 7), none⟩]) (.ret)))⟩
theorem c22 : cFunc Try.prog Try.f22 = some sf22 := by kernel_rfl

/-- (*wharfage/net.Net).there -/
def sf23 : SFunc := ⟨21,
  [.tmp 4],
  .seq
            (.ops [⟨some 4, .mov (.c (.bool false)), none⟩])
            (.seq
              (.ops
                [⟨some 5, .mov (.t 0), none⟩,
                 ⟨some 6, .call 21 [.t 5], none⟩,
                 ⟨some 7, .un (.not) (.t 6), none⟩,
                 ⟨some 8, .mov (.t 7), none⟩,
                 ⟨some 9, .mov (.t 1), some (8, true)⟩,
                 ⟨some 10, .bin (.geq) (.other) (.t 9) (.c (.int (.i64) 0)), some (8, true)⟩,
                 ⟨some 11, .pick (.t 8) (.t 10) (.c (.bool false)), none⟩,
                 ⟨some 12, .mov (.t 11), none⟩,
                 ⟨some 13, .mov (.t 1), some (12, true)⟩,
                 ⟨some 14, .mov (.t 0), some (12, true)⟩,
                 ⟨some 15, .nilChk (.t 14), some (12, true)⟩,
                 ⟨some 16, .fieldAddr 0 (.t 15), some (12, true)⟩,
                 ⟨some 17, .load false 1 (.t 16), some (12, true)⟩,
                 ⟨some 18, .len (.sl) (.t 17), some (12, true)⟩,
                 ⟨some 19, .bin (.lss) (.other) (.t 13) (.t 18), some (12, true)⟩,
                 ⟨some 20, .pick (.t 12) (.t 19) (.c (.bool false)), none⟩,
                 ⟨some 4, .mov (.t 20), none⟩])
              (.ret))⟩
theorem c23 : cFunc Try.prog Try.f23 = some sf23 := by kernel_rfl

/-- wharfage/wharfageref00.Same -/
def sf24 : SFunc := ⟨10,
  [.tmp 4],
  .seq
            (.ops [⟨some 4, .mov (.c (.bool false)), none⟩])
            (.seq
              (.ops
                [⟨some 5, .mov (.t 0), none⟩,
                 ⟨some 6, .bytesToStr (.t 5), none⟩,
                 ⟨some 7, .mov (.t 1), none⟩,
                 ⟨some 8, .bytesToStr (.t 7), none⟩,
                 ⟨some 9, .bin (.eql) (.str) (.t 6) (.t 8), none⟩,
                 ⟨some 4, .mov (.t 9), none⟩])
              (.ret))⟩
theorem c24 : cFunc Try.prog Try.f24 = some sf24 := by kernel_rfl

/-- wharfage/wharfageref00.Copy -/
def sf25 : SFunc := ⟨7,
  [.tmp 2],
  .seq
            (.ops [⟨some 2, .mov (.c (.nilsl)), none⟩])
            (.seq
              (.ops [⟨some 3, .mov (.c (.nilsl)), none⟩])
              (.seq
                (.ops
                  [⟨some 4, .mov (.t 3), none⟩,
                   ⟨some 5, .mov (.t 0), none⟩,
                   ⟨some 6, .append 1 1 (.t 4) (.t 5), none⟩,
                   ⟨some 2, .mov (.t 6), none⟩])
                (.ret)))⟩
theorem c25 : cFunc Try.prog Try.f25 = some sf25 := by kernel_rfl

/-- wharfage/wharfageref22.Copy -/
def sf26 : SFunc := ⟨8,
  [.cell 2 true 3],
  .seq
            (.ops
              [⟨some 1, .box (.t 0), none⟩,
               ⟨some 2, .box (.c (.agg [.int (.i64) 0, .bool false, .nilsl])), none⟩])
            (.seq
              (.ops
                [⟨some 3, .fieldAddr 2 (.t 1), none⟩,
                 ⟨some 4, .load false 1 (.t 3), none⟩,
                 ⟨some 5, .call 25 [.t 4], none⟩,
                 ⟨some 6, .fieldAddr 2 (.t 1), none⟩,
                 ⟨none, .store 1 (.t 6) (.t 5), none⟩])
              (.seq (.ops [⟨some 7, .load true 3 (.t 1), none⟩, ⟨none, .store 3 (.t 2) (.t 7), none⟩]) (.ret)))⟩
theorem c26 : cFunc Try.prog Try.f26 = some sf26 := by kernel_rfl

/-- slices.Delete[[]wharfage/api.Message,wharfage/api.Message] -/
def sf27 : SFunc := ⟨33,
  [.tmp 6],
  .seq
            (.ops [⟨some 6, .mov (.c (.nilsl)), none⟩])
            (.seq
              (.ops
                [⟨some 8, .mov (.t 0), none⟩,
                 ⟨some 9, .mov (.t 1), none⟩,
                 ⟨some 10, .mov (.t 2), none⟩,
                 ⟨some 11, .mov (.t 0), none⟩,
                 ⟨some 12, .len (.sl) (.t 11), none⟩,
                 ⟨some 13, .slice 3 (.t 8) (some (.t 9)) (some (.t 10)) (some (.t 12)), none⟩])
              (.seq
                (.seq
                  (.ops
                    [⟨some 14, .mov (.t 1), none⟩,
                     ⟨some 15, .mov (.t 2), none⟩,
                     ⟨some 16, .bin (.eql) (.other) (.t 14) (.t 15), none⟩])
                  (.cond
                    (.t 16)
                    (.seq (.ops [⟨some 17, .mov (.t 0), none⟩, ⟨some 6, .mov (.t 17), none⟩]) (.ret))
                    (.skip)))
                (.seq
                  (.ops
                    [⟨some 18, .mov (.t 0), none⟩,
                     ⟨some 19, .len (.sl) (.t 18), none⟩,
                     ⟨some 7, .mov (.t 19), none⟩])
                  (.seq
                    (.ops
                      [⟨some 20, .mov (.t 0), none⟩,
                       ⟨some 21, .mov (.t 1), none⟩,
                       ⟨some 22, .slice 3 (.t 20) none (some (.t 21)) none, none⟩,
                       ⟨some 23, .mov (.t 0), none⟩,
                       ⟨some 24, .mov (.t 2), none⟩,
                       ⟨some 25, .slice 3 (.t 23) (some (.t 24)) none none, none⟩,
                       ⟨some 26, .append 3 40 (.t 22) (.t 25), none⟩,
                       ⟨some 0, .mov (.t 26), none⟩])
                    (.seq
                      (.ops
                        [⟨some 27, .mov (.t 0), none⟩,
                         ⟨some 28, .mov (.t 0), none⟩,
                         ⟨some 29, .len (.sl) (.t 28), none⟩,
                         ⟨some 30, .mov (.t 7), none⟩,
                         ⟨some 31, .slice 3 (.t 27) (some (.t 29)) (some (.t 30)) none, none⟩,
                         ⟨none, .clear [.int (.i64) 0, .bool false, .nilsl] 3 (.t 31), none⟩])
                      (.seq (.ops [⟨some 32, .mov (.t 0), none⟩, ⟨some 6, .mov (.t 32), none⟩]) (.ret)))))))⟩
theorem c27 : cFunc Try.prog Try.f27 = some sf27 := by kernel_rfl

/-- slices.Clone[[]byte,byte] -/
def sf28 : SFunc := ⟨8,
  [.tmp 2],
  .seq
            (.ops [⟨some 2, .mov (.c (.nilsl)), none⟩])
            (.seq
              (.seq
                (.ops [⟨some 3, .mov (.t 0), none⟩, ⟨some 4, .bin (.eql) (.sl) (.t 3) (.c (.nilsl)), none⟩])
                (.cond (.t 4) (.seq (.ops [⟨some 2, .mov (.c (.nilsl)), none⟩]) (.ret)) (.skip)))
              (.seq
                (.ops
                  [⟨some 5, .buildSlice [] 0 1 [], none⟩,
                   ⟨some 6, .mov (.t 0), none⟩,
                   ⟨some 7, .append 1 1 (.t 5) (.t 6), none⟩,
                   ⟨some 2, .mov (.t 7), none⟩])
                (.ret)))⟩
theorem c28 : cFunc Try.prog Try.f28 = some sf28 := by kernel_rfl

def tab : FuncId → Option SFunc
  | 2 => some sf2
  | 3 => some sf3
  | 4 => some sf4
  | 5 => some sf5
  | 6 => some sf6
  | 7 => some sf7
  | 8 => some sf8
  | 9 => some sf9
  | 10 => some sf10
  | 11 => some sf11
  | 12 => some sf12
  | 13 => some sf13
  | 14 => some sf14
  | 15 => some sf15
  | 16 => some sf16
  | 17 => some sf17
  | 18 => some sf18
  | 19 => some sf19
  | 20 => some sf20
  | 21 => some sf21
  | 22 => some sf22
  | 23 => some sf23
  | 24 => some sf24
  | 25 => some sf25
  | 26 => some sf26
  | 27 => some sf27
  | 28 => some sf28
  | _ => none
theorem conv : Conv Try.prog tab := by
  intro f sf h
  unfold tab at h
  split at h
  · cases h; exact ⟨Try.f2, Try.func2, c2⟩
  · cases h; exact ⟨Try.f3, Try.func3, c3⟩
  · cases h; exact ⟨Try.f4, Try.func4, c4⟩
  · cases h; exact ⟨Try.f5, Try.func5, c5⟩
  · cases h; exact ⟨Try.f6, Try.func6, c6⟩
  · cases h; exact ⟨Try.f7, Try.func7, c7⟩
  · cases h; exact ⟨Try.f8, Try.func8, c8⟩
  · cases h; exact ⟨Try.f9, Try.func9, c9⟩
  · cases h; exact ⟨Try.f10, Try.func10, c10⟩
  · cases h; exact ⟨Try.f11, Try.func11, c11⟩
  · cases h; exact ⟨Try.f12, Try.func12, c12⟩
  · cases h; exact ⟨Try.f13, Try.func13, c13⟩
  · cases h; exact ⟨Try.f14, Try.func14, c14⟩
  · cases h; exact ⟨Try.f15, Try.func15, c15⟩
  · cases h; exact ⟨Try.f16, Try.func16, c16⟩
  · cases h; exact ⟨Try.f17, Try.func17, c17⟩
  · cases h; exact ⟨Try.f18, Try.func18, c18⟩
  · cases h; exact ⟨Try.f19, Try.func19, c19⟩
  · cases h; exact ⟨Try.f20, Try.func20, c20⟩
  · cases h; exact ⟨Try.f21, Try.func21, c21⟩
  · cases h; exact ⟨Try.f22, Try.func22, c22⟩
  · cases h; exact ⟨Try.f23, Try.func23, c23⟩
  · cases h; exact ⟨Try.f24, Try.func24, c24⟩
  · cases h; exact ⟨Try.f25, Try.func25, c25⟩
  · cases h; exact ⟨Try.f26, Try.func26, c26⟩
  · cases h; exact ⟨Try.f27, Try.func27, c27⟩
  · cases h; exact ⟨Try.f28, Try.func28, c28⟩
  · cases h
theorem mixed : Try.prog.follows .mixedOrders = true := Try.checked.mixed
theorem laid : laidOutB Try.prog = true := by kernel_rfl
end Go.Proofs.Ytdgpjefbdocepaa.Ya
