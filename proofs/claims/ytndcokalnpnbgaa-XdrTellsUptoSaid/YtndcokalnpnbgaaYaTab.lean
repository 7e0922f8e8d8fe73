/-
  The functions that the laws reach, as the abstract machine has them (printed by wip/gen/Gen.lean).
-/
import Derived.Test.YtndcokalnpnbgaaChecked
import Derived.KernelRfl
import Derived.Test.YtndcokalnpnbgaaYaLaw
namespace Go.Proofs.Ytndcokalnpnbgaa.Ya
open Go.Ya
set_option maxRecDepth 100000
set_option linter.unusedVariables false

/-- gosem.cut.init -/
def sf2 : SFunc := ⟨1, [], .ops [⟨some 0, .call 1 [], none⟩]⟩
theorem c2 : cFunc Try.prog Try.f2 = some sf2 := by kernel_rfl

/-- wharfage/wharfagelaw09.XdrLays -/
def sf3 : SFunc := ⟨101,
  [.tmp 4],
  .seq
            (.ops [⟨some 4, .mov (.c (.bool false)), none⟩])
            (.seq
              (.ops
                [⟨some 12, .build [.nilsl] [], none⟩, ⟨some 13, .box (.t 12), none⟩, ⟨some 5, .mov (.t 13), none⟩])
              (.seq
                (.ops [⟨some 6, .mov (.c (.nilsl)), none⟩])
                (.seq
                  (.seq
                    (.ops [⟨some 7, .mov (.c (.int (.i64) 0)), none⟩])
                    (.block
                      0
                      (.loop
                        (.seq
                          (.seq
                            (.ops
                              [⟨some 14, .mov (.t 7), none⟩,
                               ⟨some 15, .mov (.t 0), none⟩,
                               ⟨some 16, .len (.sl) (.t 15), none⟩,
                               ⟨some 17, .bin (.lss) (.other) (.t 14) (.t 16), none⟩,
                               ⟨some 18, .mov (.t 17), none⟩,
                               ⟨some 19, .mov (.t 7), some (18, true)⟩,
                               ⟨some 20, .bin (.lss) (.other) (.t 19) (.c (.int (.i64) 100)), some (18, true)⟩,
                               ⟨some 21, .pick (.t 18) (.t 20) (.c (.bool false)), none⟩])
                            (.cond (.t 21) (.skip) (.exit 0)))
                          (.seq
                            (.block
                              1
                              (.seq
                                (.ops
                                  [⟨some 24, .mov (.t 0), none⟩,
                                   ⟨some 25, .mov (.t 7), none⟩,
                                   ⟨some 26, .idxAddrSl 5 (.t 24) (.t 25), none⟩,
                                   ⟨some 27, .load true 5 (.t 26), none⟩,
                                   ⟨some 8,
                                     .box (.c (.agg [.int (.u8) 0, .int (.u64) 0, .bool false, .nilsl, .int (.i64) 0])),
                                     none⟩,
                                   ⟨none, .store 5 (.t 8) (.t 27), none⟩])
                                (.seq
                                  (.ops
                                    [⟨some 28, .fieldAddr 3 (.t 8), none⟩,
                                     ⟨some 29, .load false 1 (.t 28), none⟩,
                                     ⟨some 30, .call 7 [.t 29], none⟩,
                                     ⟨some 9, .mov (.t 30), none⟩])
                                  (.seq
                                    (.seq
                                      (.ops
                                        [⟨some 31, .fieldAddr 0 (.t 8), none⟩,
                                         ⟨some 32, .load false 1 (.t 31), none⟩,
                                         ⟨some 33, .bin (.rem) (.other) (.t 32) (.c (.int (.u8) 4)), none⟩])
                                      (.block
                                        2
                                        (.seq
                                          (.ops
                                            [⟨some 43, .bin (.eql) (.other) (.t 33) (.c (.int (.u8) 0)), none⟩,
                                             ⟨some 42, .mov (.t 43), none⟩])
                                          (.cond
                                            (.t 42)
                                            (.seq
                                              (.ops
                                                [⟨some 44, .mov (.t 5), none⟩,
                                                 ⟨some 45, .fieldAddr 1 (.t 8), none⟩,
                                                 ⟨some 46, .load false 1 (.t 45), none⟩,
                                                 ⟨some 47, .convInt (.u32) (.t 46), none⟩,
                                                 ⟨some 48, .call 8 [.t 44, .t 47], none⟩])
                                              (.ops
                                                [⟨some 49, .mov (.t 6), none⟩,
                                                 ⟨some 50, .fieldAddr 1 (.t 8), none⟩,
                                                 ⟨some 51, .load false 1 (.t 50), none⟩,
                                                 ⟨some 52, .convInt (.u32) (.t 51), none⟩,
                                                 ⟨some 53, .call 9 [.t 52], none⟩,
                                                 ⟨some 54, .append 1 1 (.t 49) (.t 53), none⟩,
                                                 ⟨some 6, .mov (.t 54), none⟩]))
                                            (.seq
                                              (.ops
                                                [⟨some 56, .bin (.eql) (.other) (.t 33) (.c (.int (.u8) 1)), none⟩,
                                                 ⟨some 55, .mov (.t 56), none⟩])
                                              (.cond
                                                (.t 55)
                                                (.seq
                                                  (.ops
                                                    [⟨some 57, .mov (.t 5), none⟩,
                                                     ⟨some 58, .fieldAddr 1 (.t 8), none⟩,
                                                     ⟨some 59, .load false 1 (.t 58), none⟩,
                                                     ⟨some 60, .call 10 [.t 57, .t 59], none⟩])
                                                  (.ops
                                                    [⟨some 61, .mov (.t 6), none⟩,
                                                     ⟨some 62, .fieldAddr 1 (.t 8), none⟩,
                                                     ⟨some 63, .load false 1 (.t 62), none⟩,
                                                     ⟨some 64, .call 11 [.t 63], none⟩,
                                                     ⟨some 65, .append 1 1 (.t 61) (.t 64), none⟩,
                                                     ⟨some 6, .mov (.t 65), none⟩]))
                                                (.seq
                                                  (.ops
                                                    [⟨some 67, .bin (.eql) (.other) (.t 33) (.c (.int (.u8) 2)), none⟩,
                                                     ⟨some 66, .mov (.t 67), none⟩])
                                                  (.cond
                                                    (.t 66)
                                                    (.seq
                                                      (.ops
                                                        [⟨some 68, .mov (.t 5), none⟩,
                                                         ⟨some 69, .fieldAddr 2 (.t 8), none⟩,
                                                         ⟨some 70, .load false 1 (.t 69), none⟩,
                                                         ⟨some 71, .call 12 [.t 68, .t 70], none⟩])
                                                      (.ops
                                                        [⟨some 72, .mov (.t 6), none⟩,
                                                         ⟨some 73, .fieldAddr 2 (.t 8), none⟩,
                                                         ⟨some 74, .load false 1 (.t 73), none⟩,
                                                         ⟨some 75, .call 13 [.t 74], none⟩,
                                                         ⟨some 76, .append 1 1 (.t 72) (.t 75), none⟩,
                                                         ⟨some 6, .mov (.t 76), none⟩]))
                                                    (.seq
                                                      (.ops
                                                        [⟨some 34, .mov (.t 5), none⟩,
                                                         ⟨some 35, .mov (.t 9), none⟩,
                                                         ⟨some 36, .call 14 [.t 34, .t 35], none⟩])
                                                      (.ops
                                                        [⟨some 37, .mov (.t 6), none⟩,
                                                         ⟨some 38, .fieldAddr 3 (.t 8), none⟩,
                                                         ⟨some 39, .load false 1 (.t 38), none⟩,
                                                         ⟨some 40, .call 15 [.t 39], none⟩,
                                                         ⟨some 41, .append 1 1 (.t 37) (.t 40), none⟩,
                                                         ⟨some 6, .mov (.t 41), none⟩]))))))))))
                                    (.seq
                                      (.ops
                                        [⟨some 77, .mov (.t 9), none⟩,
                                         ⟨some 78, .fieldAddr 3 (.t 8), none⟩,
                                         ⟨some 79, .load false 1 (.t 78), none⟩,
                                         ⟨some 80, .call 16 [.t 77, .t 79], none⟩,
                                         ⟨some 81, .un (.not) (.t 80), none⟩])
                                      (.cond (.t 81) (.seq (.ops [⟨some 4, .mov (.c (.bool false)), none⟩]) (.ret)) (.skip)))))))
                            (.ops
                              [⟨some 22, .mov (.t 7), none⟩,
                               ⟨some 23, .bin (.add) (.other) (.t 22) (.c (.int (.i64) 1)), none⟩,
                               ⟨some 7, .mov (.t 23), none⟩]))))))
                  (.seq
                    (.ops
                      [⟨some 82, .mov (.t 5), none⟩,
                       ⟨some 83, .call 17 [.t 82], none⟩,
                       ⟨some 10, .mov (.t 83), none⟩])
                    (.seq
                      (.ops
                        [⟨some 84, .mov (.t 10), none⟩,
                         ⟨some 85, .mov (.t 6), none⟩,
                         ⟨some 86, .call 18 [.t 84, .t 85], none⟩,
                         ⟨some 11, .mov (.t 86), none⟩])
                      (.seq
                        (.ops
                          [⟨some 87, .mov (.t 10), none⟩,
                           ⟨some 88, .mov (.t 1), none⟩,
                           ⟨some 89, .bin (.or) (.other) (.t 88) (.c (.int (.u8) 1)), none⟩,
                           ⟨some 90, .call 19 [.t 87, .t 89], none⟩])
                        (.seq
                          (.ops
                            [⟨some 91, .mov (.t 11), none⟩,
                             ⟨some 92, .mov (.t 91), none⟩,
                             ⟨some 93, .mov (.t 5), some (92, true)⟩,
                             ⟨some 94, .call 17 [.t 93], some (92, true)⟩,
                             ⟨some 95, .mov (.t 6), some (92, true)⟩,
                             ⟨some 96, .call 18 [.t 94, .t 95], some (92, true)⟩,
                             ⟨some 97, .pick (.t 92) (.t 96) (.c (.bool false)), none⟩,
                             ⟨some 98, .mov (.t 97), none⟩,
                             ⟨some 99, .call 20 [], some (98, true)⟩,
                             ⟨some 100, .pick (.t 98) (.t 99) (.c (.bool false)), none⟩,
                             ⟨some 4, .mov (.t 100), none⟩])
                          (.ret))))))))⟩
theorem c3 : cFunc Try.prog Try.f3 = some sf3 := by kernel_rfl

/-- wharfage/wharfagelaw09.XdrTells -/
def sf4 : SFunc := ⟨101,
  [.tmp 6],
  .seq
            (.ops [⟨some 6, .mov (.c (.bool false)), none⟩])
            (.seq
              (.ops
                [⟨some 13, .mov (.t 0), none⟩, ⟨some 14, .call 7 [.t 13], none⟩, ⟨some 7, .mov (.t 14), none⟩])
              (.seq
                (.ops
                  [⟨some 15, .mov (.t 7), none⟩, ⟨some 16, .call 21 [.t 15], none⟩, ⟨some 8, .mov (.t 16), none⟩])
                (.seq
                  (.ops
                    [⟨some 17, .mov (.t 0), none⟩,
                     ⟨some 18, .build [.nilsl, .int (.i64) 0, .int (.i64) 0] [(0, 1, .t 17)], none⟩,
                     ⟨some 19, .box (.t 18), none⟩,
                     ⟨some 9, .mov (.t 19), none⟩])
                  (.seq
                    (.seq
                      (.ops [⟨some 10, .mov (.c (.int (.i64) 0)), none⟩])
                      (.block
                        0
                        (.loop
                          (.seq
                            (.seq
                              (.ops
                                [⟨some 20, .mov (.t 10), none⟩,
                                 ⟨some 21, .mov (.t 1), none⟩,
                                 ⟨some 22, .len (.sl) (.t 21), none⟩,
                                 ⟨some 23, .bin (.lss) (.other) (.t 20) (.t 22), none⟩,
                                 ⟨some 24, .mov (.t 23), none⟩,
                                 ⟨some 25, .mov (.t 10), some (24, true)⟩,
                                 ⟨some 26, .bin (.lss) (.other) (.t 25) (.c (.int (.i64) 60)), some (24, true)⟩,
                                 ⟨some 27, .pick (.t 24) (.t 26) (.c (.bool false)), none⟩])
                              (.cond (.t 27) (.skip) (.exit 0)))
                            (.seq
                              (.block
                                1
                                (.seq
                                  (.ops [⟨some 11, .mov (.c (.bool true)), none⟩])
                                  (.seq
                                    (.seq
                                      (.ops
                                        [⟨some 30, .mov (.t 1), none⟩,
                                         ⟨some 31, .mov (.t 10), none⟩,
                                         ⟨some 32, .idxAddrSl 5 (.t 30) (.t 31), none⟩,
                                         ⟨some 33, .fieldAddr 0 (.t 32), none⟩,
                                         ⟨some 34, .load false 1 (.t 33), none⟩,
                                         ⟨some 35, .bin (.rem) (.other) (.t 34) (.c (.int (.u8) 4)), none⟩])
                                      (.block
                                        2
                                        (.seq
                                          (.ops
                                            [⟨some 57, .bin (.eql) (.other) (.t 35) (.c (.int (.u8) 0)), none⟩,
                                             ⟨some 56, .mov (.t 57), none⟩])
                                          (.cond
                                            (.t 56)
                                            (.ops
                                              [⟨some 58, .mov (.t 8), none⟩,
                                               ⟨some 59, .call 22 [.t 58], none⟩,
                                               ⟨some 60, .mov (.t 9), none⟩,
                                               ⟨some 61, .call 23 [.t 60], none⟩,
                                               ⟨some 62, .bin (.eql) (.other) (.t 59) (.t 61), none⟩,
                                               ⟨some 11, .mov (.t 62), none⟩])
                                            (.seq
                                              (.ops
                                                [⟨some 64, .bin (.eql) (.other) (.t 35) (.c (.int (.u8) 1)), none⟩,
                                                 ⟨some 63, .mov (.t 64), none⟩])
                                              (.cond
                                                (.t 63)
                                                (.ops
                                                  [⟨some 65, .mov (.t 8), none⟩,
                                                   ⟨some 66, .call 24 [.t 65], none⟩,
                                                   ⟨some 67, .mov (.t 9), none⟩,
                                                   ⟨some 68, .call 25 [.t 67], none⟩,
                                                   ⟨some 69, .bin (.eql) (.other) (.t 66) (.t 68), none⟩,
                                                   ⟨some 11, .mov (.t 69), none⟩])
                                                (.seq
                                                  (.ops
                                                    [⟨some 71, .bin (.eql) (.other) (.t 35) (.c (.int (.u8) 2)), none⟩,
                                                     ⟨some 70, .mov (.t 71), none⟩])
                                                  (.cond
                                                    (.t 70)
                                                    (.ops
                                                      [⟨some 72, .mov (.t 8), none⟩,
                                                       ⟨some 73, .call 26 [.t 72], none⟩,
                                                       ⟨some 74, .mov (.t 9), none⟩,
                                                       ⟨some 75, .call 27 [.t 74], none⟩,
                                                       ⟨some 76, .bin (.eql) (.bool) (.t 73) (.t 75), none⟩,
                                                       ⟨some 11, .mov (.t 76), none⟩])
                                                    (.seq
                                                      (.ops
                                                        [⟨some 36, .mov (.t 8), none⟩,
                                                         ⟨some 37, .mov (.t 1), none⟩,
                                                         ⟨some 38, .mov (.t 10), none⟩,
                                                         ⟨some 39, .idxAddrSl 5 (.t 37) (.t 38), none⟩,
                                                         ⟨some 40, .fieldAddr 4 (.t 39), none⟩,
                                                         ⟨some 41, .load false 1 (.t 40), none⟩,
                                                         ⟨some 42, .call 28 [.t 36, .t 41], none⟩,
                                                         ⟨some 12, .mov (.t 42), none⟩])
                                                      (.seq
                                                        (.ops
                                                          [⟨some 43, .mov (.t 12), none⟩,
                                                           ⟨some 44, .mov (.t 9), none⟩,
                                                           ⟨some 45, .mov (.t 1), none⟩,
                                                           ⟨some 46, .mov (.t 10), none⟩,
                                                           ⟨some 47, .idxAddrSl 5 (.t 45) (.t 46), none⟩,
                                                           ⟨some 48, .fieldAddr 4 (.t 47), none⟩,
                                                           ⟨some 49, .load false 1 (.t 48), none⟩,
                                                           ⟨some 50, .call 29 [.t 44, .t 49], none⟩,
                                                           ⟨some 51, .call 18 [.t 43, .t 50], none⟩,
                                                           ⟨some 11, .mov (.t 51), none⟩])
                                                        (.ops
                                                          [⟨some 52, .mov (.t 12), none⟩,
                                                           ⟨some 53, .mov (.t 2), none⟩,
                                                           ⟨some 54, .bin (.or) (.other) (.t 53) (.c (.int (.u8) 1)), none⟩,
                                                           ⟨some 55, .call 19 [.t 52, .t 54], none⟩])))))))))))
                                    (.seq
                                      (.drawOps
                                        [⟨some 77, .mov (.t 11), none⟩,
                                         ⟨some 78, .un (.not) (.t 77), none⟩,
                                         ⟨some 79, .mov (.t 78), none⟩,
                                         ⟨some 80, .mov (.t 8), some (79, false)⟩,
                                         ⟨some 81, .call 30 [.t 80], some (79, false)⟩,
                                         ⟨some 82, .mov (.t 9), some (79, false)⟩,
                                         ⟨some 83, .nilChk (.t 82), some (79, false)⟩,
                                         ⟨some 84, .fieldAddr 2 (.t 83), some (79, false)⟩,
                                         ⟨some 85, .load false 1 (.t 84), some (79, false)⟩,
                                         ⟨some 86, .bin (.neq) (.other) (.t 81) (.t 85), some (79, false)⟩,
                                         ⟨some 87, .pick (.t 79) (.c (.bool true)) (.t 86), none⟩,
                                         ⟨some 88, .mov (.t 87), none⟩,
                                         ⟨some 89, .mov (.t 8), some (88, false)⟩,
                                         ⟨some 90, .call 31 [.t 89], some (88, false)⟩,
                                         ⟨some 91, .mov (.t 9), some (88, false)⟩,
                                         ⟨some 92, .call 32 [.t 91], some (88, false)⟩,
                                         ⟨some 93, .bin (.neq) (.other) (.t 90) (.t 92), some (88, false)⟩,
                                         ⟨some 94, .pick (.t 88) (.c (.bool true)) (.t 93), none⟩]
                                        [(8, 4)])
                                      (.cond (.t 94) (.seq (.ops [⟨some 6, .mov (.c (.bool false)), none⟩]) (.ret)) (.skip))))))
                              (.ops
                                [⟨some 28, .mov (.t 10), none⟩,
                                 ⟨some 29, .bin (.add) (.other) (.t 28) (.c (.int (.i64) 1)), none⟩,
                                 ⟨some 10, .mov (.t 29), none⟩]))))))
                    (.seq
                      (.ops
                        [⟨some 95, .mov (.t 7), none⟩,
                         ⟨some 96, .mov (.t 0), none⟩,
                         ⟨some 97, .call 16 [.t 95, .t 96], none⟩,
                         ⟨some 98, .mov (.t 97), none⟩,
                         ⟨some 99, .call 20 [], some (98, true)⟩,
                         ⟨some 100, .pick (.t 98) (.t 99) (.c (.bool false)), none⟩,
                         ⟨some 6, .mov (.t 100), none⟩])
                      (.ret))))))⟩
theorem c4 : cFunc Try.prog Try.f4 = some sf4 := by kernel_rfl

/-- wharfage/wharfagelaw09.XdrBack -/
def sf5 : SFunc := ⟨112,
  [.tmp 4],
  .seq
            (.ops [⟨some 4, .mov (.c (.bool false)), none⟩])
            (.seq
              (.ops
                [⟨some 10, .build [.nilsl] [], none⟩, ⟨some 11, .box (.t 10), none⟩, ⟨some 5, .mov (.t 11), none⟩])
              (.seq
                (.seq
                  (.ops [⟨some 6, .mov (.c (.int (.i64) 0)), none⟩])
                  (.block
                    0
                    (.loop
                      (.seq
                        (.seq
                          (.ops
                            [⟨some 12, .mov (.t 6), none⟩,
                             ⟨some 13, .mov (.t 0), none⟩,
                             ⟨some 14, .len (.sl) (.t 13), none⟩,
                             ⟨some 15, .bin (.lss) (.other) (.t 12) (.t 14), none⟩,
                             ⟨some 16, .mov (.t 15), none⟩,
                             ⟨some 17, .mov (.t 6), some (16, true)⟩,
                             ⟨some 18, .bin (.lss) (.other) (.t 17) (.c (.int (.i64) 60)), some (16, true)⟩,
                             ⟨some 19, .pick (.t 16) (.t 18) (.c (.bool false)), none⟩])
                          (.cond (.t 19) (.skip) (.exit 0)))
                        (.seq
                          (.block
                            1
                            (.seq
                              (.ops
                                [⟨some 22, .mov (.t 0), none⟩,
                                 ⟨some 23, .mov (.t 6), none⟩,
                                 ⟨some 24, .idxAddrSl 5 (.t 22) (.t 23), none⟩,
                                 ⟨some 25, .fieldAddr 0 (.t 24), none⟩,
                                 ⟨some 26, .load false 1 (.t 25), none⟩,
                                 ⟨some 27, .bin (.rem) (.other) (.t 26) (.c (.int (.u8) 4)), none⟩])
                              (.block
                                2
                                (.seq
                                  (.ops
                                    [⟨some 36, .bin (.eql) (.other) (.t 27) (.c (.int (.u8) 0)), none⟩,
                                     ⟨some 35, .mov (.t 36), none⟩])
                                  (.cond
                                    (.t 35)
                                    (.ops
                                      [⟨some 37, .mov (.t 5), none⟩,
                                       ⟨some 38, .mov (.t 0), none⟩,
                                       ⟨some 39, .mov (.t 6), none⟩,
                                       ⟨some 40, .idxAddrSl 5 (.t 38) (.t 39), none⟩,
                                       ⟨some 41, .fieldAddr 1 (.t 40), none⟩,
                                       ⟨some 42, .load false 1 (.t 41), none⟩,
                                       ⟨some 43, .convInt (.u32) (.t 42), none⟩,
                                       ⟨some 44, .call 8 [.t 37, .t 43], none⟩])
                                    (.seq
                                      (.ops
                                        [⟨some 46, .bin (.eql) (.other) (.t 27) (.c (.int (.u8) 1)), none⟩,
                                         ⟨some 45, .mov (.t 46), none⟩])
                                      (.cond
                                        (.t 45)
                                        (.ops
                                          [⟨some 47, .mov (.t 5), none⟩,
                                           ⟨some 48, .mov (.t 0), none⟩,
                                           ⟨some 49, .mov (.t 6), none⟩,
                                           ⟨some 50, .idxAddrSl 5 (.t 48) (.t 49), none⟩,
                                           ⟨some 51, .fieldAddr 1 (.t 50), none⟩,
                                           ⟨some 52, .load false 1 (.t 51), none⟩,
                                           ⟨some 53, .call 10 [.t 47, .t 52], none⟩])
                                        (.seq
                                          (.ops
                                            [⟨some 55, .bin (.eql) (.other) (.t 27) (.c (.int (.u8) 2)), none⟩,
                                             ⟨some 54, .mov (.t 55), none⟩])
                                          (.cond
                                            (.t 54)
                                            (.ops
                                              [⟨some 56, .mov (.t 5), none⟩,
                                               ⟨some 57, .mov (.t 0), none⟩,
                                               ⟨some 58, .mov (.t 6), none⟩,
                                               ⟨some 59, .idxAddrSl 5 (.t 57) (.t 58), none⟩,
                                               ⟨some 60, .fieldAddr 2 (.t 59), none⟩,
                                               ⟨some 61, .load false 1 (.t 60), none⟩,
                                               ⟨some 62, .call 12 [.t 56, .t 61], none⟩])
                                            (.ops
                                              [⟨some 28, .mov (.t 5), none⟩,
                                               ⟨some 29, .mov (.t 0), none⟩,
                                               ⟨some 30, .mov (.t 6), none⟩,
                                               ⟨some 31, .idxAddrSl 5 (.t 29) (.t 30), none⟩,
                                               ⟨some 32, .fieldAddr 3 (.t 31), none⟩,
                                               ⟨some 33, .load false 1 (.t 32), none⟩,
                                               ⟨some 34, .call 14 [.t 28, .t 33], none⟩]))))))))))
                          (.ops
                            [⟨some 20, .mov (.t 6), none⟩,
                             ⟨some 21, .bin (.add) (.other) (.t 20) (.c (.int (.i64) 1)), none⟩,
                             ⟨some 6, .mov (.t 21), none⟩]))))))
                (.seq
                  (.ops
                    [⟨some 63, .mov (.t 5), none⟩,
                     ⟨some 64, .call 17 [.t 63], none⟩,
                     ⟨some 7, .mov (.t 64), none⟩])
                  (.seq
                    (.ops
                      [⟨some 65, .mov (.t 7), none⟩,
                       ⟨some 66, .call 21 [.t 65], none⟩,
                       ⟨some 8, .mov (.t 66), none⟩])
                    (.seq
                      (.seq
                        (.ops
                          [⟨some 67, .mov (.t 8), none⟩,
                           ⟨some 68, .mov (.t 0), none⟩,
                           ⟨some 69, .call 33 [.t 67, .t 68], none⟩,
                           ⟨some 70, .un (.not) (.t 69), none⟩,
                           ⟨some 71, .mov (.t 70), none⟩,
                           ⟨some 72, .mov (.t 8), some (71, false)⟩,
                           ⟨some 73, .call 31 [.t 72], some (71, false)⟩,
                           ⟨some 74, .bin (.neq) (.other) (.t 73) (.c (.int (.i64) 0)), some (71, false)⟩,
                           ⟨some 75, .pick (.t 71) (.c (.bool true)) (.t 74), none⟩,
                           ⟨some 76, .mov (.t 75), none⟩,
                           ⟨some 77, .mov (.t 7), some (76, false)⟩,
                           ⟨some 78, .len (.sl) (.t 77), some (76, false)⟩,
                           ⟨some 79, .bin (.rem) (.other) (.t 78) (.c (.int (.i64) 4)), some (76, false)⟩,
                           ⟨some 80, .bin (.neq) (.other) (.t 79) (.c (.int (.i64) 0)), some (76, false)⟩,
                           ⟨some 81, .pick (.t 76) (.c (.bool true)) (.t 80), none⟩])
                        (.cond (.t 81) (.seq (.ops [⟨some 4, .mov (.c (.bool false)), none⟩]) (.ret)) (.skip)))
                      (.seq
                        (.seq
                          (.ops
                            [⟨some 82, .mov (.t 1), none⟩,
                             ⟨some 83, .bin (.lss) (.other) (.t 82) (.c (.int (.i64) 0)), none⟩,
                             ⟨some 84, .mov (.t 83), none⟩,
                             ⟨some 85, .mov (.t 1), some (84, false)⟩,
                             ⟨some 86, .mov (.t 7), some (84, false)⟩,
                             ⟨some 87, .len (.sl) (.t 86), some (84, false)⟩,
                             ⟨some 88, .bin (.geq) (.other) (.t 85) (.t 87), some (84, false)⟩,
                             ⟨some 89, .pick (.t 84) (.c (.bool true)) (.t 88), none⟩])
                          (.cond
                            (.t 89)
                            (.seq (.ops [⟨some 90, .call 20 [], none⟩, ⟨some 4, .mov (.t 90), none⟩]) (.ret))
                            (.skip)))
                        (.seq
                          (.ops
                            [⟨some 91, .mov (.t 7), none⟩,
                             ⟨some 92, .mov (.t 1), none⟩,
                             ⟨some 93, .slice 1 (.t 91) none (some (.t 92)) none, none⟩,
                             ⟨some 94, .call 21 [.t 93], none⟩,
                             ⟨some 9, .mov (.t 94), none⟩])
                          (.seq
                            (.ops
                              [⟨some 95, .mov (.t 9), none⟩,
                               ⟨some 96, .mov (.t 0), none⟩,
                               ⟨some 97, .call 33 [.t 95, .t 96], none⟩,
                               ⟨some 98, .un (.not) (.t 97), none⟩,
                               ⟨some 99, .mov (.t 98), none⟩,
                               ⟨some 100, .mov (.t 9), some (99, true)⟩,
                               ⟨some 101, .call 30 [.t 100], some (99, true)⟩,
                               ⟨some 102, .bin (.eql) (.other) (.t 101) (.c (.int (.i64) 4)), some (99, true)⟩,
                               ⟨some 103, .pick (.t 99) (.t 102) (.c (.bool false)), none⟩,
                               ⟨some 104, .mov (.t 103), none⟩,
                               ⟨some 105, .mov (.t 9), some (104, true)⟩,
                               ⟨some 106, .call 31 [.t 105], some (104, true)⟩,
                               ⟨some 107, .bin (.eql) (.other) (.t 106) (.c (.int (.i64) 4)), some (104, true)⟩,
                               ⟨some 108, .pick (.t 104) (.t 107) (.c (.bool false)), none⟩,
                               ⟨some 109, .mov (.t 108), none⟩,
                               ⟨some 110, .call 20 [], some (109, true)⟩,
                               ⟨some 111, .pick (.t 109) (.t 110) (.c (.bool false)), none⟩,
                               ⟨some 4, .mov (.t 111), none⟩])
                            (.ret)))))))))⟩
theorem c5 : cFunc Try.prog Try.f5 = some sf5 := by kernel_rfl

/-- wharfage/wharfagelaw09.XdrNil -/
def sf6 : SFunc := ⟨67,
  [.tmp 4],
  .seq
            (.ops [⟨some 2, .box (.t 0), none⟩, ⟨some 4, .mov (.c (.bool false)), none⟩])
            (.seq
              (.ops [⟨some 5, .mov (.c (.nilptr)), none⟩])
              (.seq
                (.ops [⟨some 6, .mov (.c (.nilptr)), none⟩])
                (.seq
                  (.seq
                    (.ops [⟨some 7, .mov (.t 1), none⟩])
                    (.cond
                      (.t 7)
                      (.ops
                        [⟨some 8, .build [.nilsl, .int (.i64) 0, .bool false] [], none⟩,
                         ⟨some 9, .box (.t 8), none⟩,
                         ⟨some 6, .mov (.t 9), none⟩])
                      (.skip)))
                  (.seq
                    (.ops
                      [⟨some 10, .mov (.t 5), none⟩,
                       ⟨some 11, .fieldAddr 1 (.t 2), none⟩,
                       ⟨some 12, .load false 1 (.t 11), none⟩,
                       ⟨some 13, .convInt (.u32) (.t 12), none⟩,
                       ⟨some 14, .call 8 [.t 10, .t 13], none⟩])
                    (.seq
                      (.ops
                        [⟨some 15, .mov (.t 5), none⟩,
                         ⟨some 16, .fieldAddr 1 (.t 2), none⟩,
                         ⟨some 17, .load false 1 (.t 16), none⟩,
                         ⟨some 18, .call 10 [.t 15, .t 17], none⟩])
                      (.seq
                        (.ops
                          [⟨some 19, .mov (.t 5), none⟩,
                           ⟨some 20, .fieldAddr 2 (.t 2), none⟩,
                           ⟨some 21, .load false 1 (.t 20), none⟩,
                           ⟨some 22, .call 12 [.t 19, .t 21], none⟩])
                        (.seq
                          (.ops
                            [⟨some 23, .mov (.t 5), none⟩,
                             ⟨some 24, .fieldAddr 3 (.t 2), none⟩,
                             ⟨some 25, .load false 1 (.t 24), none⟩,
                             ⟨some 26, .call 14 [.t 23, .t 25], none⟩])
                          (.seq
                            (.ops
                              [⟨some 27, .mov (.t 5), none⟩,
                               ⟨some 28, .call 17 [.t 27], none⟩,
                               ⟨some 29, .len (.sl) (.t 28), none⟩,
                               ⟨some 30, .bin (.eql) (.other) (.t 29) (.c (.int (.i64) 0)), none⟩,
                               ⟨some 31, .mov (.t 30), none⟩,
                               ⟨some 32, .mov (.t 6), some (31, true)⟩,
                               ⟨some 33, .call 22 [.t 32], some (31, true)⟩,
                               ⟨some 34, .bin (.eql) (.other) (.t 33) (.c (.int (.u32) 0)), some (31, true)⟩,
                               ⟨some 35, .pick (.t 31) (.t 34) (.c (.bool false)), none⟩,
                               ⟨some 36, .mov (.t 35), none⟩,
                               ⟨some 37, .mov (.t 6), some (36, true)⟩,
                               ⟨some 38, .call 24 [.t 37], some (36, true)⟩,
                               ⟨some 39, .bin (.eql) (.other) (.t 38) (.c (.int (.u64) 0)), some (36, true)⟩,
                               ⟨some 40, .pick (.t 36) (.t 39) (.c (.bool false)), none⟩,
                               ⟨some 41, .mov (.t 40), none⟩,
                               ⟨some 42, .mov (.t 6), some (41, true)⟩,
                               ⟨some 43, .call 26 [.t 42], some (41, true)⟩,
                               ⟨some 44, .un (.not) (.t 43), some (41, true)⟩,
                               ⟨some 45, .pick (.t 41) (.t 44) (.c (.bool false)), none⟩,
                               ⟨some 46, .mov (.t 45), none⟩,
                               ⟨some 47, .mov (.t 6), some (46, true)⟩,
                               ⟨some 48, .fieldAddr 4 (.t 2), some (46, true)⟩,
                               ⟨some 49, .load false 1 (.t 48), some (46, true)⟩,
                               ⟨some 50, .call 28 [.t 47, .t 49], some (46, true)⟩,
                               ⟨some 51, .len (.sl) (.t 50), some (46, true)⟩,
                               ⟨some 52, .bin (.eql) (.other) (.t 51) (.c (.int (.i64) 0)), some (46, true)⟩,
                               ⟨some 53, .pick (.t 46) (.t 52) (.c (.bool false)), none⟩,
                               ⟨some 54, .mov (.t 53), none⟩,
                               ⟨some 55, .mov (.t 6), some (54, true)⟩,
                               ⟨some 56, .call 31 [.t 55], some (54, true)⟩,
                               ⟨some 57, .bin (.eql) (.other) (.t 56) (.c (.int (.i64) 4)), some (54, true)⟩,
                               ⟨some 58, .pick (.t 54) (.t 57) (.c (.bool false)), none⟩,
                               ⟨some 59, .mov (.t 58), none⟩,
                               ⟨some 60, .mov (.t 6), some (59, true)⟩,
                               ⟨some 61, .call 30 [.t 60], some (59, true)⟩,
                               ⟨some 62, .bin (.eql) (.other) (.t 61) (.c (.int (.i64) 4)), some (59, true)⟩,
                               ⟨some 63, .pick (.t 59) (.t 62) (.c (.bool false)), none⟩,
                               ⟨some 64, .mov (.t 63), none⟩,
                               ⟨some 65, .call 20 [], some (64, true)⟩,
                               ⟨some 66, .pick (.t 64) (.t 65) (.c (.bool false)), none⟩,
                               ⟨some 4, .mov (.t 66), none⟩])
                            (.ret)))))))))⟩
theorem c6 : cFunc Try.prog Try.f6 = some sf6 := by kernel_rfl

/-- wharfage/wharfageref00.Wide -/
def sf7 : SFunc := ⟨13,
  [.tmp 2],
  .seq
            (.ops [⟨some 2, .mov (.c (.nilsl)), none⟩])
            (.seq
              (.ops
                [⟨some 4, .mov (.t 0), none⟩, ⟨some 5, .call 34 [.t 4], none⟩, ⟨some 3, .mov (.t 5), none⟩])
              (.seq
                (.ops
                  [⟨some 6, .mov (.t 3), none⟩,
                   ⟨some 7,
                     .buildSlice
                             [.int (.u8) 0, .int (.u8) 0, .int (.u8) 0]
                             3
                             1
                             [(0, 1, .c (.int (.u8) 9)), (1, 1, .c (.int (.u8) 9)), (2, 1, .c (.int (.u8) 9))],
                     none⟩,
                   ⟨some 8, .append 1 1 (.t 6) (.t 7), none⟩,
                   ⟨some 3, .mov (.t 8), none⟩])
                (.seq
                  (.ops
                    [⟨some 9, .mov (.t 3), none⟩,
                     ⟨some 10, .mov (.t 0), none⟩,
                     ⟨some 11, .len (.sl) (.t 10), none⟩,
                     ⟨some 12, .slice 1 (.t 9) none (some (.t 11)) none, none⟩,
                     ⟨some 2, .mov (.t 12), none⟩])
                  (.ret))))⟩
theorem c7 : cFunc Try.prog Try.f7 = some sf7 := by kernel_rfl

/-- (*wharfage/xdr.Writer).Number -/
def sf8 : SFunc := ⟨8,
  [],
  .ops
            [⟨some 4, .mov (.t 0), none⟩,
             ⟨some 5, .mov (.t 1), none⟩,
             ⟨some 6, .convInt (.u64) (.t 5), none⟩,
             ⟨some 7, .call 35 [.t 4, .t 6, .c (.int (.i64) 4)], none⟩]⟩
theorem c8 : cFunc Try.prog Try.f8 = some sf8 := by kernel_rfl

/-- wharfage/wharfageref09.Number -/
def sf9 : SFunc := ⟨12,
  [.tmp 2],
  .seq
            (.ops [⟨some 2, .mov (.c (.nilsl)), none⟩])
            (.seq
              (.ops
                [⟨some 6, .mov (.t 0), none⟩,
                 ⟨some 7, .convInt (.u64) (.t 6), none⟩,
                 ⟨some 8, .call 36 [.t 7, .c (.int (.i64) 4)], none⟩,
                 ⟨some 5, .mov (.t 8), none⟩,
                 ⟨some 9, .extract (.t 5) 0, none⟩,
                 ⟨some 10, .extract (.t 5) 1, none⟩,
                 ⟨some 3, .mov (.t 9), none⟩,
                 ⟨some 4, .mov (.t 10), none⟩])
              (.seq (.ops [⟨some 11, .mov (.t 3), none⟩, ⟨some 2, .mov (.t 11), none⟩]) (.ret)))⟩
theorem c9 : cFunc Try.prog Try.f9 = some sf9 := by kernel_rfl

/-- (*wharfage/xdr.Writer).Great -/
def sf10 : SFunc := ⟨7,
  [],
  .ops
            [⟨some 4, .mov (.t 0), none⟩,
             ⟨some 5, .mov (.t 1), none⟩,
             ⟨some 6, .call 35 [.t 4, .t 5, .c (.int (.i64) 8)], none⟩]⟩
theorem c10 : cFunc Try.prog Try.f10 = some sf10 := by kernel_rfl

/-- wharfage/wharfageref09.Great -/
def sf11 : SFunc := ⟨11,
  [.tmp 2],
  .seq
            (.ops [⟨some 2, .mov (.c (.nilsl)), none⟩])
            (.seq
              (.ops
                [⟨some 6, .mov (.t 0), none⟩,
                 ⟨some 7, .call 36 [.t 6, .c (.int (.i64) 8)], none⟩,
                 ⟨some 5, .mov (.t 7), none⟩,
                 ⟨some 8, .extract (.t 5) 0, none⟩,
                 ⟨some 9, .extract (.t 5) 1, none⟩,
                 ⟨some 3, .mov (.t 8), none⟩,
                 ⟨some 4, .mov (.t 9), none⟩])
              (.seq (.ops [⟨some 10, .mov (.t 3), none⟩, ⟨some 2, .mov (.t 10), none⟩]) (.ret)))⟩
theorem c11 : cFunc Try.prog Try.f11 = some sf11 := by kernel_rfl

/-- (*wharfage/xdr.Writer).Truth -/
def sf12 : SFunc := ⟨9,
  [],
  .seq
            (.seq
              (.ops [⟨some 4, .mov (.t 1), none⟩])
              (.cond
                (.t 4)
                (.seq
                  (.ops [⟨some 5, .mov (.t 0), none⟩, ⟨some 6, .call 8 [.t 5, .c (.int (.u32) 1)], none⟩])
                  (.ret))
                (.skip)))
            (.ops [⟨some 7, .mov (.t 0), none⟩, ⟨some 8, .call 8 [.t 7, .c (.int (.u32) 0)], none⟩])⟩
theorem c12 : cFunc Try.prog Try.f12 = some sf12 := by kernel_rfl

/-- wharfage/wharfageref09.Truth -/
def sf13 : SFunc := ⟨6,
  [.tmp 2],
  .seq
            (.ops [⟨some 2, .mov (.c (.nilsl)), none⟩])
            (.seq
              (.seq
                (.ops [⟨some 3, .mov (.t 0), none⟩])
                (.cond
                  (.t 3)
                  (.seq (.ops [⟨some 4, .call 9 [.c (.int (.u32) 1)], none⟩, ⟨some 2, .mov (.t 4), none⟩]) (.ret))
                  (.skip)))
              (.seq (.ops [⟨some 5, .call 9 [.c (.int (.u32) 0)], none⟩, ⟨some 2, .mov (.t 5), none⟩]) (.ret)))⟩
theorem c13 : cFunc Try.prog Try.f13 = some sf13 := by kernel_rfl

/-- (*wharfage/xdr.Writer).Bytes -/
def sf14 : SFunc := ⟨18,
  [],
  .seq
            (.ops
              [⟨some 4, .mov (.t 0), none⟩,
               ⟨some 5, .mov (.t 1), none⟩,
               ⟨some 6, .len (.sl) (.t 5), none⟩,
               ⟨some 7, .convInt (.u32) (.t 6), none⟩,
               ⟨some 8, .call 8 [.t 4, .t 7], none⟩])
            (.seq
              (.ops
                [⟨some 9, .mov (.t 0), none⟩,
                 ⟨some 10, .mov (.t 1), none⟩,
                 ⟨some 11, .call 37 [.t 9, .t 10], none⟩])
              (.ops
                [⟨some 12, .mov (.t 0), none⟩,
                 ⟨some 13, .mov (.t 1), none⟩,
                 ⟨some 14, .len (.sl) (.t 13), none⟩,
                 ⟨some 15, .call 38 [.t 14], none⟩,
                 ⟨some 16, .mkSlice [.int (.u8) 0] 1 1 (.t 15) (.t 15), none⟩,
                 ⟨some 17, .call 37 [.t 12, .t 16], none⟩]))⟩
theorem c14 : cFunc Try.prog Try.f14 = some sf14 := by kernel_rfl

/-- wharfage/wharfageref09.Bytes -/
def sf15 : SFunc := ⟨23,
  [.tmp 2],
  .seq
            (.ops [⟨some 2, .mov (.c (.nilsl)), none⟩])
            (.seq
              (.ops
                [⟨some 5, .mov (.t 0), none⟩,
                 ⟨some 6, .len (.sl) (.t 5), none⟩,
                 ⟨some 7, .convInt (.u32) (.t 6), none⟩,
                 ⟨some 8, .call 9 [.t 7], none⟩,
                 ⟨some 3, .mov (.t 8), none⟩])
              (.seq
                (.ops
                  [⟨some 9, .mov (.t 3), none⟩,
                   ⟨some 10, .mov (.t 0), none⟩,
                   ⟨some 11, .append 1 1 (.t 9) (.t 10), none⟩,
                   ⟨some 3, .mov (.t 11), none⟩])
                (.seq
                  (.seq
                    (.ops [⟨some 4, .mov (.c (.int (.i64) 0)), none⟩])
                    (.block
                      0
                      (.loop
                        (.seq
                          (.seq
                            (.ops
                              [⟨some 12, .mov (.t 4), none⟩,
                               ⟨some 13, .mov (.t 0), none⟩,
                               ⟨some 14, .len (.sl) (.t 13), none⟩,
                               ⟨some 15, .call 39 [.t 14], none⟩,
                               ⟨some 16, .bin (.lss) (.other) (.t 12) (.t 15), none⟩])
                            (.cond (.t 16) (.skip) (.exit 0)))
                          (.seq
                            (.block
                              1
                              (.ops
                                [⟨some 19, .mov (.t 3), none⟩,
                                 ⟨some 20, .buildSlice [.int (.u8) 0] 1 1 [(0, 1, .c (.int (.u8) 0))], none⟩,
                                 ⟨some 21, .append 1 1 (.t 19) (.t 20), none⟩,
                                 ⟨some 3, .mov (.t 21), none⟩]))
                            (.ops
                              [⟨some 17, .mov (.t 4), none⟩,
                               ⟨some 18, .bin (.add) (.other) (.t 17) (.c (.int (.i64) 1)), none⟩,
                               ⟨some 4, .mov (.t 18), none⟩]))))))
                  (.seq (.ops [⟨some 22, .mov (.t 3), none⟩, ⟨some 2, .mov (.t 22), none⟩]) (.ret)))))⟩
theorem c15 : cFunc Try.prog Try.f15 = some sf15 := by kernel_rfl

/-- wharfage/wharfageref00.Left -/
def sf16 : SFunc := ⟨50,
  [.tmp 4],
  .seq
            (.ops [⟨some 4, .mov (.c (.bool false)), none⟩])
            (.seq
              (.seq
                (.ops
                  [⟨some 6, .mov (.t 0), none⟩,
                   ⟨some 7, .mov (.t 1), none⟩,
                   ⟨some 8, .call 18 [.t 6, .t 7], none⟩,
                   ⟨some 9, .un (.not) (.t 8), none⟩,
                   ⟨some 10, .mov (.t 9), none⟩,
                   ⟨some 11, .mov (.t 0), some (10, false)⟩,
                   ⟨some 12, .cap (.t 11), some (10, false)⟩,
                   ⟨some 13, .mov (.t 0), some (10, false)⟩,
                   ⟨some 14, .len (.sl) (.t 13), some (10, false)⟩,
                   ⟨some 15, .bin (.add) (.other) (.t 14) (.c (.int (.i64) 3)), some (10, false)⟩,
                   ⟨some 16, .bin (.lss) (.other) (.t 12) (.t 15), some (10, false)⟩,
                   ⟨some 17, .pick (.t 10) (.c (.bool true)) (.t 16), none⟩])
                (.cond (.t 17) (.seq (.ops [⟨some 4, .mov (.c (.bool false)), none⟩]) (.ret)) (.skip)))
              (.seq
                (.ops
                  [⟨some 18, .mov (.t 0), none⟩,
                   ⟨some 19, .mov (.t 0), none⟩,
                   ⟨some 20, .len (.sl) (.t 19), none⟩,
                   ⟨some 21, .bin (.add) (.other) (.t 20) (.c (.int (.i64) 3)), none⟩,
                   ⟨some 22, .mov (.t 0), none⟩,
                   ⟨some 23, .len (.sl) (.t 22), none⟩,
                   ⟨some 24, .bin (.add) (.other) (.t 23) (.c (.int (.i64) 3)), none⟩,
                   ⟨some 25, .slice 1 (.t 18) none (some (.t 21)) (some (.t 24)), none⟩,
                   ⟨some 5, .mov (.t 25), none⟩])
                (.seq
                  (.ops
                    [⟨some 26, .mov (.t 5), none⟩,
                     ⟨some 27, .mov (.t 0), none⟩,
                     ⟨some 28, .len (.sl) (.t 27), none⟩,
                     ⟨some 29, .idxAddrSl 1 (.t 26) (.t 28), none⟩,
                     ⟨some 30, .load false 1 (.t 29), none⟩,
                     ⟨some 31, .bin (.eql) (.other) (.t 30) (.c (.int (.u8) 9)), none⟩,
                     ⟨some 32, .mov (.t 31), none⟩,
                     ⟨some 33, .mov (.t 5), some (32, true)⟩,
                     ⟨some 34, .mov (.t 0), some (32, true)⟩,
                     ⟨some 35, .len (.sl) (.t 34), some (32, true)⟩,
                     ⟨some 36, .bin (.add) (.other) (.t 35) (.c (.int (.i64) 1)), some (32, true)⟩,
                     ⟨some 37, .idxAddrSl 1 (.t 33) (.t 36), some (32, true)⟩,
                     ⟨some 38, .load false 1 (.t 37), some (32, true)⟩,
                     ⟨some 39, .bin (.eql) (.other) (.t 38) (.c (.int (.u8) 9)), some (32, true)⟩,
                     ⟨some 40, .pick (.t 32) (.t 39) (.c (.bool false)), none⟩,
                     ⟨some 41, .mov (.t 40), none⟩,
                     ⟨some 42, .mov (.t 5), some (41, true)⟩,
                     ⟨some 43, .mov (.t 0), some (41, true)⟩,
                     ⟨some 44, .len (.sl) (.t 43), some (41, true)⟩,
                     ⟨some 45, .bin (.add) (.other) (.t 44) (.c (.int (.i64) 2)), some (41, true)⟩,
                     ⟨some 46, .idxAddrSl 1 (.t 42) (.t 45), some (41, true)⟩,
                     ⟨some 47, .load false 1 (.t 46), some (41, true)⟩,
                     ⟨some 48, .bin (.eql) (.other) (.t 47) (.c (.int (.u8) 9)), some (41, true)⟩,
                     ⟨some 49, .pick (.t 41) (.t 48) (.c (.bool false)), none⟩,
                     ⟨some 4, .mov (.t 49), none⟩])
                  (.ret))))⟩
theorem c16 : cFunc Try.prog Try.f16 = some sf16 := by kernel_rfl

/-- (*wharfage/xdr.Writer).Bare -/
def sf17 : SFunc := ⟨10,
  [.tmp 2],
  .seq
            (.ops [⟨some 2, .mov (.c (.nilsl)), none⟩])
            (.seq
              (.seq
                (.ops [⟨some 3, .mov (.t 0), none⟩, ⟨some 4, .bin (.eql) (.ptr) (.t 3) (.c (.nilptr)), none⟩])
                (.cond (.t 4) (.seq (.ops [⟨some 2, .mov (.c (.nilsl)), none⟩]) (.ret)) (.skip)))
              (.seq
                (.ops
                  [⟨some 5, .mov (.t 0), none⟩,
                   ⟨some 6, .nilChk (.t 5), none⟩,
                   ⟨some 7, .fieldAddr 0 (.t 6), none⟩,
                   ⟨some 8, .load false 1 (.t 7), none⟩,
                   ⟨some 9, .call 40 [.t 8], none⟩,
                   ⟨some 2, .mov (.t 9), none⟩])
                (.ret)))⟩
theorem c17 : cFunc Try.prog Try.f17 = some sf17 := by kernel_rfl

/-- wharfage/wharfageref00.Same -/
def sf18 : SFunc := ⟨10,
  [.tmp 4],
  .seq
            (.ops [⟨some 4, .mov (.c (.bool false)), none⟩])
            (.seq
              (.ops
                [⟨some 5, .mov (.t 0), none⟩,
                 ⟨some 6, .bytesToStr (.t 5), none⟩,
                 ⟨some 7, .mov (.t 1), none⟩,
                 ⟨some 8, .bytesToStr (.t 7), none⟩,
                 ⟨some 9, .bin (.eql) (.str) (.t 6) (.t 8), none⟩,
                 ⟨some 4, .mov (.t 9), none⟩])
              (.ret))⟩
theorem c18 : cFunc Try.prog Try.f18 = some sf18 := by kernel_rfl

/-- wharfage/wharfageref00.Spoil -/
def sf19 : SFunc := ⟨27,
  [],
  .seq
            (.ops
              [⟨some 6, .mov (.t 0), none⟩,
               ⟨some 7, .mov (.t 0), none⟩,
               ⟨some 8, .cap (.t 7), none⟩,
               ⟨some 9, .mov (.t 0), none⟩,
               ⟨some 10, .cap (.t 9), none⟩,
               ⟨some 11, .slice 1 (.t 6) none (some (.t 8)) (some (.t 10)), none⟩,
               ⟨some 4, .mov (.t 11), none⟩])
            (.seq
              (.ops [⟨some 5, .mov (.c (.int (.i64) 0)), none⟩])
              (.block
                0
                (.loop
                  (.seq
                    (.seq
                      (.ops
                        [⟨some 12, .mov (.t 5), none⟩,
                         ⟨some 13, .mov (.t 4), none⟩,
                         ⟨some 14, .len (.sl) (.t 13), none⟩,
                         ⟨some 15, .bin (.lss) (.other) (.t 12) (.t 14), none⟩])
                      (.cond (.t 15) (.skip) (.exit 0)))
                    (.seq
                      (.block
                        1
                        (.ops
                          [⟨some 18, .mov (.t 4), none⟩,
                           ⟨some 19, .mov (.t 5), none⟩,
                           ⟨some 20, .mov (.t 4), none⟩,
                           ⟨some 21, .mov (.t 5), none⟩,
                           ⟨some 22, .idxAddrSl 1 (.t 20) (.t 21), none⟩,
                           ⟨some 23, .load false 1 (.t 22), none⟩,
                           ⟨some 24, .mov (.t 1), none⟩,
                           ⟨some 25, .bin (.xor) (.other) (.t 23) (.t 24), none⟩,
                           ⟨some 26, .idxAddrSl 1 (.t 18) (.t 19), none⟩,
                           ⟨none, .store 1 (.t 26) (.t 25), none⟩]))
                      (.ops
                        [⟨some 16, .mov (.t 5), none⟩,
                         ⟨some 17, .bin (.add) (.other) (.t 16) (.c (.int (.i64) 1)), none⟩,
                         ⟨some 5, .mov (.t 17), none⟩]))))))⟩
theorem c19 : cFunc Try.prog Try.f19 = some sf19 := by kernel_rfl

/-- wharfage/wharfagelaw09.lives -/
def sf20 : SFunc := ⟨78,
  [.tmp 0],
  .seq
            (.ops [⟨some 0, .mov (.c (.bool false)), none⟩])
            (.seq
              (.ops
                [⟨some 12, .build [.nilsl] [], none⟩, ⟨some 13, .box (.t 12), none⟩, ⟨some 1, .mov (.t 13), none⟩])
              (.seq
                (.ops [⟨some 14, .mov (.t 1), none⟩, ⟨some 15, .call 8 [.t 14, .c (.int (.u32) 1)], none⟩])
                (.seq
                  (.ops [⟨some 16, .mov (.t 1), none⟩, ⟨some 17, .call 12 [.t 16, .c (.bool true)], none⟩])
                  (.seq
                    (.ops
                      [⟨some 18, .mov (.t 1), none⟩,
                       ⟨some 19,
                         .buildSlice
                                 [.int (.u8) 0, .int (.u8) 0, .int (.u8) 0]
                                 3
                                 1
                                 [(0, 1, .c (.int (.u8) 7)), (1, 1, .c (.int (.u8) 8)), (2, 1, .c (.int (.u8) 9))],
                         none⟩,
                       ⟨some 20, .call 14 [.t 18, .t 19], none⟩])
                    (.seq
                      (.ops
                        [⟨some 21, .mov (.t 1), none⟩,
                         ⟨some 22, .call 17 [.t 21], none⟩,
                         ⟨some 2, .mov (.t 22), none⟩])
                      (.seq
                        (.seq
                          (.ops
                            [⟨some 23, .mov (.t 2), none⟩,
                             ⟨some 24,
                               .buildSlice
                                       [.int (.u8) 0,
                                        .int (.u8) 0,
                                        .int (.u8) 0,
                                        .int (.u8) 0,
                                        .int (.u8) 0,
                                        .int (.u8) 0,
                                        .int (.u8) 0,
                                        .int (.u8) 0,
                                        .int (.u8) 0,
                                        .int (.u8) 0,
                                        .int (.u8) 0,
                                        .int (.u8) 0,
                                        .int (.u8) 0,
                                        .int (.u8) 0,
                                        .int (.u8) 0,
                                        .int (.u8) 0]
                                       16
                                       1
                                       [(0, 1, .c (.int (.u8) 0)),
                                        (1, 1, .c (.int (.u8) 0)),
                                        (2, 1, .c (.int (.u8) 0)),
                                        (3, 1, .c (.int (.u8) 1)),
                                        (4, 1, .c (.int (.u8) 0)),
                                        (5, 1, .c (.int (.u8) 0)),
                                        (6, 1, .c (.int (.u8) 0)),
                                        (7, 1, .c (.int (.u8) 1)),
                                        (8, 1, .c (.int (.u8) 0)),
                                        (9, 1, .c (.int (.u8) 0)),
                                        (10, 1, .c (.int (.u8) 0)),
                                        (11, 1, .c (.int (.u8) 3)),
                                        (12, 1, .c (.int (.u8) 7)),
                                        (13, 1, .c (.int (.u8) 8)),
                                        (14, 1, .c (.int (.u8) 9)),
                                        (15, 1, .c (.int (.u8) 0))],
                               none⟩,
                             ⟨some 25, .call 18 [.t 23, .t 24], none⟩,
                             ⟨some 26, .un (.not) (.t 25), none⟩])
                          (.cond (.t 26) (.seq (.ops [⟨some 0, .mov (.c (.bool false)), none⟩]) (.ret)) (.skip)))
                        (.seq
                          (.ops
                            [⟨some 27, .mov (.t 2), none⟩,
                             ⟨some 28, .call 21 [.t 27], none⟩,
                             ⟨some 3, .mov (.t 28), none⟩])
                          (.seq
                            (.ops
                              [⟨some 29, .mov (.t 3), none⟩,
                               ⟨some 30, .call 22 [.t 29], none⟩,
                               ⟨some 31, .mov (.t 3), none⟩,
                               ⟨some 32, .call 26 [.t 31], none⟩,
                               ⟨some 33, .mov (.t 3), none⟩,
                               ⟨some 34, .call 28 [.t 33, .c (.int (.i64) 9)], none⟩,
                               ⟨some 4, .mov (.t 30), none⟩,
                               ⟨some 5, .mov (.t 32), none⟩,
                               ⟨some 6, .mov (.t 34), none⟩])
                            (.seq
                              (.ops
                                [⟨some 35, .mov (.t 3), none⟩,
                                 ⟨some 36, .call 31 [.t 35], none⟩,
                                 ⟨some 7, .mov (.t 36), none⟩])
                              (.seq
                                (.ops
                                  [⟨some 37,
                                     .buildSlice
                                             [.int (.u8) 0, .int (.u8) 0, .int (.u8) 0, .int (.u8) 0]
                                             4
                                             1
                                             [(0, 1, .c (.int (.u8) 0)),
                                              (1, 1, .c (.int (.u8) 0)),
                                              (2, 1, .c (.int (.u8) 0)),
                                              (3, 1, .c (.int (.u8) 2))],
                                     none⟩,
                                   ⟨some 38, .call 21 [.t 37], none⟩,
                                   ⟨some 8, .mov (.t 38), none⟩])
                                (.seq
                                  (.ops
                                    [⟨some 39, .mov (.t 8), none⟩,
                                     ⟨some 40, .call 26 [.t 39], none⟩,
                                     ⟨some 9, .mov (.t 40), none⟩])
                                  (.seq
                                    (.ops
                                      [⟨some 41,
                                         .buildSlice
                                                 [.int (.u8) 0, .int (.u8) 0, .int (.u8) 0, .int (.u8) 0]
                                                 4
                                                 1
                                                 [(0, 1, .c (.int (.u8) 0)),
                                                  (1, 1, .c (.int (.u8) 0)),
                                                  (2, 1, .c (.int (.u8) 0)),
                                                  (3, 1, .c (.int (.u8) 9))],
                                         none⟩,
                                       ⟨some 42, .call 21 [.t 41], none⟩,
                                       ⟨some 10, .mov (.t 42), none⟩])
                                    (.seq
                                      (.ops
                                        [⟨some 43, .mov (.t 10), none⟩,
                                         ⟨some 44, .call 28 [.t 43, .c (.int (.i64) 8)], none⟩,
                                         ⟨some 11, .mov (.t 44), none⟩])
                                      (.seq
                                        (.ops
                                          [⟨some 45, .mov (.t 4), none⟩,
                                           ⟨some 46, .bin (.eql) (.other) (.t 45) (.c (.int (.u32) 1)), none⟩,
                                           ⟨some 47, .mov (.t 46), none⟩,
                                           ⟨some 48, .mov (.t 5), some (47, true)⟩,
                                           ⟨some 49, .pick (.t 47) (.t 48) (.c (.bool false)), none⟩,
                                           ⟨some 50, .mov (.t 49), none⟩,
                                           ⟨some 51, .mov (.t 6), some (50, true)⟩,
                                           ⟨some 52,
                                             .buildSlice
                                                     [.int (.u8) 0, .int (.u8) 0, .int (.u8) 0]
                                                     3
                                                     1
                                                     [(0, 1, .c (.int (.u8) 7)), (1, 1, .c (.int (.u8) 8)), (2, 1, .c (.int (.u8) 9))],
                                             some (50, true)⟩,
                                           ⟨some 53, .call 18 [.t 51, .t 52], some (50, true)⟩,
                                           ⟨some 54, .pick (.t 50) (.t 53) (.c (.bool false)), none⟩,
                                           ⟨some 55, .mov (.t 54), none⟩,
                                           ⟨some 56, .mov (.t 7), some (55, true)⟩,
                                           ⟨some 57, .bin (.eql) (.other) (.t 56) (.c (.int (.i64) 0)), some (55, true)⟩,
                                           ⟨some 58, .pick (.t 55) (.t 57) (.c (.bool false)), none⟩,
                                           ⟨some 59, .mov (.t 58), none⟩,
                                           ⟨some 60, .mov (.t 9), some (59, true)⟩,
                                           ⟨some 61, .un (.not) (.t 60), some (59, true)⟩,
                                           ⟨some 62, .pick (.t 59) (.t 61) (.c (.bool false)), none⟩,
                                           ⟨some 63, .mov (.t 62), none⟩,
                                           ⟨some 64, .mov (.t 8), some (63, true)⟩,
                                           ⟨some 65, .call 30 [.t 64], some (63, true)⟩,
                                           ⟨some 66, .bin (.eql) (.other) (.t 65) (.c (.int (.i64) 5)), some (63, true)⟩,
                                           ⟨some 67, .pick (.t 63) (.t 66) (.c (.bool false)), none⟩,
                                           ⟨some 68, .mov (.t 67), none⟩,
                                           ⟨some 69, .mov (.t 11), some (68, true)⟩,
                                           ⟨some 70, .len (.sl) (.t 69), some (68, true)⟩,
                                           ⟨some 71, .bin (.eql) (.other) (.t 70) (.c (.int (.i64) 0)), some (68, true)⟩,
                                           ⟨some 72, .pick (.t 68) (.t 71) (.c (.bool false)), none⟩,
                                           ⟨some 73, .mov (.t 72), none⟩,
                                           ⟨some 74, .mov (.t 10), some (73, true)⟩,
                                           ⟨some 75, .call 30 [.t 74], some (73, true)⟩,
                                           ⟨some 76, .bin (.eql) (.other) (.t 75) (.c (.int (.i64) 3)), some (73, true)⟩,
                                           ⟨some 77, .pick (.t 73) (.t 76) (.c (.bool false)), none⟩,
                                           ⟨some 0, .mov (.t 77), none⟩])
                                        (.ret)))))))))))))))⟩
theorem c20 : cFunc Try.prog Try.f20 = some sf20 := by kernel_rfl

/-- wharfage/xdr.NewReader -/
def sf21 : SFunc := ⟨7,
  [.tmp 2],
  .seq
            (.ops [⟨some 2, .mov (.c (.nilptr)), none⟩])
            (.seq
              (.ops
                [⟨some 3, .mov (.t 0), none⟩,
                 ⟨some 4, .call 40 [.t 3], none⟩,
                 ⟨some 5, .build [.nilsl, .int (.i64) 0, .bool false] [(0, 1, .t 4), (2, 1, .c (.bool true))], none⟩,
                 ⟨some 6, .box (.t 5), none⟩,
                 ⟨some 2, .mov (.t 6), none⟩])
              (.ret))⟩
theorem c21 : cFunc Try.prog Try.f21 = some sf21 := by kernel_rfl

/-- (*wharfage/xdr.Reader).Number -/
def sf22 : SFunc := ⟨6,
  [.tmp 2],
  .seq
            (.ops [⟨some 2, .mov (.c (.int (.u32) 0)), none⟩])
            (.seq
              (.ops
                [⟨some 3, .mov (.t 0), none⟩,
                 ⟨some 4, .call 41 [.t 3, .c (.int (.i64) 4)], none⟩,
                 ⟨some 5, .convInt (.u32) (.t 4), none⟩,
                 ⟨some 2, .mov (.t 5), none⟩])
              (.ret))⟩
theorem c22 : cFunc Try.prog Try.f22 = some sf22 := by kernel_rfl

/-- (*wharfage/wharfageref09.Reader).Number -/
def sf23 : SFunc := ⟨6,
  [.tmp 2],
  .seq
            (.ops [⟨some 2, .mov (.c (.int (.u32) 0)), none⟩])
            (.seq
              (.ops
                [⟨some 3, .mov (.t 0), none⟩,
                 ⟨some 4, .call 42 [.t 3, .c (.int (.i64) 4)], none⟩,
                 ⟨some 5, .convInt (.u32) (.t 4), none⟩,
                 ⟨some 2, .mov (.t 5), none⟩])
              (.ret))⟩
theorem c23 : cFunc Try.prog Try.f23 = some sf23 := by kernel_rfl

/-- (*wharfage/xdr.Reader).Great -/
def sf24 : SFunc := ⟨5,
  [.tmp 2],
  .seq
            (.ops [⟨some 2, .mov (.c (.int (.u64) 0)), none⟩])
            (.seq
              (.ops
                [⟨some 3, .mov (.t 0), none⟩,
                 ⟨some 4, .call 41 [.t 3, .c (.int (.i64) 8)], none⟩,
                 ⟨some 2, .mov (.t 4), none⟩])
              (.ret))⟩
theorem c24 : cFunc Try.prog Try.f24 = some sf24 := by kernel_rfl

/-- (*wharfage/wharfageref09.Reader).Great -/
def sf25 : SFunc := ⟨5,
  [.tmp 2],
  .seq
            (.ops [⟨some 2, .mov (.c (.int (.u64) 0)), none⟩])
            (.seq
              (.ops
                [⟨some 3, .mov (.t 0), none⟩,
                 ⟨some 4, .call 42 [.t 3, .c (.int (.i64) 8)], none⟩,
                 ⟨some 2, .mov (.t 4), none⟩])
              (.ret))⟩
theorem c25 : cFunc Try.prog Try.f25 = some sf25 := by kernel_rfl

/-- (*wharfage/xdr.Reader).Truth -/
def sf26 : SFunc := ⟨12,
  [.tmp 2],
  .seq
            (.ops [⟨some 2, .mov (.c (.bool false)), none⟩])
            (.seq
              (.ops
                [⟨some 4, .mov (.t 0), none⟩, ⟨some 5, .call 22 [.t 4], none⟩, ⟨some 3, .mov (.t 5), none⟩])
              (.seq
                (.ops
                  [⟨some 6, .mov (.t 0), none⟩,
                   ⟨some 7, .mov (.t 3), none⟩,
                   ⟨some 8, .bin (.gtr) (.other) (.t 7) (.c (.int (.u32) 1)), none⟩,
                   ⟨some 9, .call 43 [.t 6, .t 8, .c (.int (.i64) 5)], none⟩])
                (.seq
                  (.ops
                    [⟨some 10, .mov (.t 3), none⟩,
                     ⟨some 11, .bin (.eql) (.other) (.t 10) (.c (.int (.u32) 1)), none⟩,
                     ⟨some 2, .mov (.t 11), none⟩])
                  (.ret))))⟩
theorem c26 : cFunc Try.prog Try.f26 = some sf26 := by kernel_rfl

/-- (*wharfage/wharfageref09.Reader).Truth -/
def sf27 : SFunc := ⟨13,
  [.tmp 2],
  .seq
            (.ops [⟨some 2, .mov (.c (.bool false)), none⟩])
            (.seq
              (.ops
                [⟨some 4, .mov (.t 0), none⟩,
                 ⟨some 5, .call 42 [.t 4, .c (.int (.i64) 4)], none⟩,
                 ⟨some 3, .mov (.t 5), none⟩])
              (.seq
                (.seq
                  (.ops
                    [⟨some 6, .mov (.t 3), none⟩,
                     ⟨some 7, .bin (.gtr) (.other) (.t 6) (.c (.int (.u64) 1)), none⟩])
                  (.cond
                    (.t 7)
                    (.ops
                      [⟨some 8, .mov (.t 0), none⟩,
                       ⟨some 9, .nilChk (.t 8), none⟩,
                       ⟨some 10, .fieldAddr 2 (.t 9), none⟩,
                       ⟨none, .store 1 (.t 10) (.c (.int (.i64) 5)), none⟩])
                    (.skip)))
                (.seq
                  (.ops
                    [⟨some 11, .mov (.t 3), none⟩,
                     ⟨some 12, .bin (.eql) (.other) (.t 11) (.c (.int (.u64) 1)), none⟩,
                     ⟨some 2, .mov (.t 12), none⟩])
                  (.ret))))⟩
theorem c27 : cFunc Try.prog Try.f27 = some sf27 := by kernel_rfl

/-- (*wharfage/xdr.Reader).Bytes -/
def sf28 : SFunc := ⟨73,
  [.tmp 4],
  .seq
            (.ops [⟨some 4, .mov (.c (.nilsl)), none⟩])
            (.seq
              (.ops
                [⟨some 9, .mov (.t 0), none⟩,
                 ⟨some 10, .call 22 [.t 9], none⟩,
                 ⟨some 11, .convInt (.u64) (.t 10), none⟩,
                 ⟨some 5, .mov (.t 11), none⟩])
              (.seq
                (.ops
                  [⟨some 12, .mov (.t 0), none⟩,
                   ⟨some 13, .mov (.t 5), none⟩,
                   ⟨some 14, .mov (.t 1), none⟩,
                   ⟨some 15, .max (.t 14) [.c (.int (.i64) 0)], none⟩,
                   ⟨some 16, .convInt (.u64) (.t 15), none⟩,
                   ⟨some 17, .bin (.gtr) (.other) (.t 13) (.t 16), none⟩,
                   ⟨some 18, .call 43 [.t 12, .t 17, .c (.int (.i64) 3)], none⟩])
                (.seq
                  (.seq
                    (.ops
                      [⟨some 19, .mov (.t 0), none⟩,
                       ⟨some 20, .call 44 [.t 19], none⟩,
                       ⟨some 21, .un (.not) (.t 20), none⟩])
                    (.cond (.t 21) (.seq (.ops [⟨some 4, .mov (.c (.nilsl)), none⟩]) (.ret)) (.skip)))
                  (.seq
                    (.ops
                      [⟨some 22, .mov (.t 5), none⟩,
                       ⟨some 23, .convInt (.i64) (.t 22), none⟩,
                       ⟨some 24, .mov (.t 5), none⟩,
                       ⟨some 25, .convInt (.i64) (.t 24), none⟩,
                       ⟨some 26, .call 38 [.t 25], none⟩,
                       ⟨some 6, .mov (.t 23), none⟩,
                       ⟨some 7, .mov (.t 26), none⟩])
                    (.seq
                      (.ops
                        [⟨some 27, .mov (.t 0), none⟩,
                         ⟨some 28, .mov (.t 0), none⟩,
                         ⟨some 29, .nilChk (.t 28), none⟩,
                         ⟨some 30, .fieldAddr 0 (.t 29), none⟩,
                         ⟨some 31, .load false 1 (.t 30), none⟩,
                         ⟨some 32, .len (.sl) (.t 31), none⟩,
                         ⟨some 33, .mov (.t 6), none⟩,
                         ⟨some 34, .mov (.t 7), none⟩,
                         ⟨some 35, .bin (.add) (.other) (.t 33) (.t 34), none⟩,
                         ⟨some 36, .bin (.lss) (.other) (.t 32) (.t 35), none⟩,
                         ⟨some 37, .call 43 [.t 27, .t 36, .c (.int (.i64) 4)], none⟩])
                      (.seq
                        (.seq
                          (.ops
                            [⟨some 38, .mov (.t 0), none⟩,
                             ⟨some 39, .call 44 [.t 38], none⟩,
                             ⟨some 40, .un (.not) (.t 39), none⟩])
                          (.cond (.t 40) (.seq (.ops [⟨some 4, .mov (.c (.nilsl)), none⟩]) (.ret)) (.skip)))
                        (.seq
                          (.ops
                            [⟨some 41, .mov (.t 0), none⟩,
                             ⟨some 42, .mov (.t 0), none⟩,
                             ⟨some 43, .nilChk (.t 42), none⟩,
                             ⟨some 44, .fieldAddr 0 (.t 43), none⟩,
                             ⟨some 45, .load false 1 (.t 44), none⟩,
                             ⟨some 46, .mov (.t 6), none⟩,
                             ⟨some 47, .mov (.t 7), none⟩,
                             ⟨some 48, .call 45 [.t 45, .t 46, .t 47], none⟩,
                             ⟨some 49, .bin (.neq) (.other) (.t 48) (.c (.int (.i64) 0)), none⟩,
                             ⟨some 50, .call 43 [.t 41, .t 49, .c (.int (.i64) 5)], none⟩])
                          (.seq
                            (.seq
                              (.ops
                                [⟨some 51, .mov (.t 0), none⟩,
                                 ⟨some 52, .call 44 [.t 51], none⟩,
                                 ⟨some 53, .un (.not) (.t 52), none⟩])
                              (.cond (.t 53) (.seq (.ops [⟨some 4, .mov (.c (.nilsl)), none⟩]) (.ret)) (.skip)))
                            (.seq
                              (.ops
                                [⟨some 54, .mov (.t 0), none⟩,
                                 ⟨some 55, .nilChk (.t 54), none⟩,
                                 ⟨some 56, .fieldAddr 0 (.t 55), none⟩,
                                 ⟨some 57, .load false 1 (.t 56), none⟩,
                                 ⟨some 58, .mov (.t 6), none⟩,
                                 ⟨some 59, .slice 1 (.t 57) none (some (.t 58)) none, none⟩,
                                 ⟨some 60, .call 40 [.t 59], none⟩,
                                 ⟨some 8, .mov (.t 60), none⟩])
                              (.seq
                                (.ops
                                  [⟨some 61, .mov (.t 0), none⟩,
                                   ⟨some 62, .mov (.t 0), none⟩,
                                   ⟨some 63, .nilChk (.t 62), none⟩,
                                   ⟨some 64, .fieldAddr 0 (.t 63), none⟩,
                                   ⟨some 65, .load false 1 (.t 64), none⟩,
                                   ⟨some 66, .mov (.t 6), none⟩,
                                   ⟨some 67, .mov (.t 7), none⟩,
                                   ⟨some 68, .bin (.add) (.other) (.t 66) (.t 67), none⟩,
                                   ⟨some 69, .slice 1 (.t 65) (some (.t 68)) none none, none⟩,
                                   ⟨some 70, .nilChk (.t 61), none⟩,
                                   ⟨some 71, .fieldAddr 0 (.t 70), none⟩,
                                   ⟨none, .store 1 (.t 71) (.t 69), none⟩])
                                (.seq (.ops [⟨some 72, .mov (.t 8), none⟩, ⟨some 4, .mov (.t 72), none⟩]) (.ret))))))))))))⟩
theorem c28 : cFunc Try.prog Try.f28 = some sf28 := by kernel_rfl

/-- (*wharfage/wharfageref09.Reader).Bytes -/
def sf29 : SFunc := ⟨94,
  [.tmp 4],
  .seq
            (.ops [⟨some 4, .mov (.c (.nilsl)), none⟩])
            (.seq
              (.ops
                [⟨some 9, .mov (.t 0), none⟩,
                 ⟨some 10, .call 42 [.t 9, .c (.int (.i64) 4)], none⟩,
                 ⟨some 5, .mov (.t 10), none⟩])
              (.seq
                (.seq
                  (.ops
                    [⟨some 11, .mov (.t 0), none⟩,
                     ⟨some 12, .nilChk (.t 11), none⟩,
                     ⟨some 13, .fieldAddr 2 (.t 12), none⟩,
                     ⟨some 14, .load false 1 (.t 13), none⟩,
                     ⟨some 15, .bin (.neq) (.other) (.t 14) (.c (.int (.i64) 0)), none⟩])
                  (.cond (.t 15) (.seq (.ops [⟨some 4, .mov (.c (.nilsl)), none⟩]) (.ret)) (.skip)))
                (.seq
                  (.seq
                    (.ops
                      [⟨some 16, .mov (.t 1), none⟩,
                       ⟨some 17, .bin (.lss) (.other) (.t 16) (.c (.int (.i64) 0)), none⟩])
                    (.cond (.t 17) (.ops [⟨some 1, .mov (.c (.int (.i64) 0)), none⟩]) (.skip)))
                  (.seq
                    (.seq
                      (.ops
                        [⟨some 18, .mov (.t 5), none⟩,
                         ⟨some 19, .mov (.t 1), none⟩,
                         ⟨some 20, .convInt (.u64) (.t 19), none⟩,
                         ⟨some 21, .bin (.gtr) (.other) (.t 18) (.t 20), none⟩])
                      (.cond
                        (.t 21)
                        (.seq
                          (.ops
                            [⟨some 22, .mov (.t 0), none⟩,
                             ⟨some 23, .nilChk (.t 22), none⟩,
                             ⟨some 24, .fieldAddr 2 (.t 23), none⟩,
                             ⟨none, .store 1 (.t 24) (.c (.int (.i64) 3)), none⟩])
                          (.seq (.ops [⟨some 4, .mov (.c (.nilsl)), none⟩]) (.ret)))
                        (.skip)))
                    (.seq
                      (.ops
                        [⟨some 25, .mov (.t 5), none⟩,
                         ⟨some 26, .convInt (.i64) (.t 25), none⟩,
                         ⟨some 6, .mov (.t 26), none⟩])
                      (.seq
                        (.ops
                          [⟨some 27, .mov (.t 6), none⟩,
                           ⟨some 28, .call 39 [.t 27], none⟩,
                           ⟨some 7, .mov (.t 28), none⟩])
                        (.seq
                          (.seq
                            (.ops
                              [⟨some 29, .mov (.t 0), none⟩,
                               ⟨some 30, .nilChk (.t 29), none⟩,
                               ⟨some 31, .fieldAddr 0 (.t 30), none⟩,
                               ⟨some 32, .load false 1 (.t 31), none⟩,
                               ⟨some 33, .len (.sl) (.t 32), none⟩,
                               ⟨some 34, .mov (.t 0), none⟩,
                               ⟨some 35, .nilChk (.t 34), none⟩,
                               ⟨some 36, .fieldAddr 1 (.t 35), none⟩,
                               ⟨some 37, .load false 1 (.t 36), none⟩,
                               ⟨some 38, .bin (.sub) (.other) (.t 33) (.t 37), none⟩,
                               ⟨some 39, .mov (.t 6), none⟩,
                               ⟨some 40, .mov (.t 7), none⟩,
                               ⟨some 41, .bin (.add) (.other) (.t 39) (.t 40), none⟩,
                               ⟨some 42, .bin (.lss) (.other) (.t 38) (.t 41), none⟩])
                            (.cond
                              (.t 42)
                              (.seq
                                (.ops
                                  [⟨some 43, .mov (.t 0), none⟩,
                                   ⟨some 44, .nilChk (.t 43), none⟩,
                                   ⟨some 45, .fieldAddr 2 (.t 44), none⟩,
                                   ⟨none, .store 1 (.t 45) (.c (.int (.i64) 4)), none⟩])
                                (.seq (.ops [⟨some 4, .mov (.c (.nilsl)), none⟩]) (.ret)))
                              (.skip)))
                          (.seq
                            (.ops
                              [⟨some 46, .mov (.t 0), none⟩,
                               ⟨some 47, .mov (.t 0), none⟩,
                               ⟨some 48, .nilChk (.t 47), none⟩,
                               ⟨some 49, .fieldAddr 0 (.t 48), none⟩,
                               ⟨some 50, .load false 1 (.t 49), none⟩,
                               ⟨some 51, .mov (.t 0), none⟩,
                               ⟨some 52, .nilChk (.t 51), none⟩,
                               ⟨some 53, .fieldAddr 1 (.t 52), none⟩,
                               ⟨some 54, .load false 1 (.t 53), none⟩,
                               ⟨some 55, .mov (.t 6), none⟩,
                               ⟨some 56, .bin (.add) (.other) (.t 54) (.t 55), none⟩,
                               ⟨some 57, .mov (.t 7), none⟩,
                               ⟨some 58, .call 46 [.t 50, .t 56, .t 57], none⟩,
                               ⟨some 59, .nilChk (.t 46), none⟩,
                               ⟨some 60, .fieldAddr 2 (.t 59), none⟩,
                               ⟨none, .store 1 (.t 60) (.t 58), none⟩])
                            (.seq
                              (.seq
                                (.ops
                                  [⟨some 61, .mov (.t 0), none⟩,
                                   ⟨some 62, .nilChk (.t 61), none⟩,
                                   ⟨some 63, .fieldAddr 2 (.t 62), none⟩,
                                   ⟨some 64, .load false 1 (.t 63), none⟩,
                                   ⟨some 65, .bin (.neq) (.other) (.t 64) (.c (.int (.i64) 0)), none⟩])
                                (.cond (.t 65) (.seq (.ops [⟨some 4, .mov (.c (.nilsl)), none⟩]) (.ret)) (.skip)))
                              (.seq
                                (.ops
                                  [⟨some 66, .mov (.t 0), none⟩,
                                   ⟨some 67, .nilChk (.t 66), none⟩,
                                   ⟨some 68, .fieldAddr 0 (.t 67), none⟩,
                                   ⟨some 69, .load false 1 (.t 68), none⟩,
                                   ⟨some 70, .mov (.t 0), none⟩,
                                   ⟨some 71, .nilChk (.t 70), none⟩,
                                   ⟨some 72, .fieldAddr 1 (.t 71), none⟩,
                                   ⟨some 73, .load false 1 (.t 72), none⟩,
                                   ⟨some 74, .mov (.t 0), none⟩,
                                   ⟨some 75, .nilChk (.t 74), none⟩,
                                   ⟨some 76, .fieldAddr 1 (.t 75), none⟩,
                                   ⟨some 77, .load false 1 (.t 76), none⟩,
                                   ⟨some 78, .mov (.t 6), none⟩,
                                   ⟨some 79, .bin (.add) (.other) (.t 77) (.t 78), none⟩,
                                   ⟨some 80, .slice 1 (.t 69) (some (.t 73)) (some (.t 79)) none, none⟩,
                                   ⟨some 81, .call 34 [.t 80], none⟩,
                                   ⟨some 8, .mov (.t 81), none⟩])
                                (.seq
                                  (.ops
                                    [⟨some 82, .mov (.t 0), none⟩,
                                     ⟨some 83, .mov (.t 0), none⟩,
                                     ⟨some 84, .nilChk (.t 83), none⟩,
                                     ⟨some 85, .fieldAddr 1 (.t 84), none⟩,
                                     ⟨some 86, .load false 1 (.t 85), none⟩,
                                     ⟨some 87, .mov (.t 6), none⟩,
                                     ⟨some 88, .bin (.add) (.other) (.t 86) (.t 87), none⟩,
                                     ⟨some 89, .mov (.t 7), none⟩,
                                     ⟨some 90, .bin (.add) (.other) (.t 88) (.t 89), none⟩,
                                     ⟨some 91, .nilChk (.t 82), none⟩,
                                     ⟨some 92, .fieldAddr 1 (.t 91), none⟩,
                                     ⟨none, .store 1 (.t 92) (.t 90), none⟩])
                                  (.seq (.ops [⟨some 93, .mov (.t 8), none⟩, ⟨some 4, .mov (.t 93), none⟩]) (.ret)))))))))))))⟩
theorem c29 : cFunc Try.prog Try.f29 = some sf29 := by kernel_rfl

/-- (*wharfage/xdr.Reader).Error -/
def sf30 : SFunc := ⟨9,
  [.tmp 2],
  .seq
            (.ops [⟨some 2, .mov (.c (.int (.i64) 0)), none⟩])
            (.seq
              (.seq
                (.ops [⟨some 3, .mov (.t 0), none⟩, ⟨some 4, .call 47 [.t 3], none⟩])
                (.cond (.t 4) (.seq (.ops [⟨some 2, .mov (.c (.int (.i64) 4)), none⟩]) (.ret)) (.skip)))
              (.seq
                (.ops
                  [⟨some 5, .mov (.t 0), none⟩,
                   ⟨some 6, .nilChk (.t 5), none⟩,
                   ⟨some 7, .fieldAddr 1 (.t 6), none⟩,
                   ⟨some 8, .load false 1 (.t 7), none⟩,
                   ⟨some 2, .mov (.t 8), none⟩])
                (.ret)))⟩
theorem c30 : cFunc Try.prog Try.f30 = some sf30 := by kernel_rfl

/-- (*wharfage/xdr.Reader).End -/
def sf31 : SFunc := ⟨15,
  [.tmp 2],
  .seq
            (.ops [⟨some 2, .mov (.c (.int (.i64) 0)), none⟩])
            (.seq
              (.seq
                (.ops
                  [⟨some 3, .mov (.t 0), none⟩,
                   ⟨some 4, .call 44 [.t 3], none⟩,
                   ⟨some 5, .mov (.t 4), none⟩,
                   ⟨some 6, .mov (.t 0), some (5, true)⟩,
                   ⟨some 7, .nilChk (.t 6), some (5, true)⟩,
                   ⟨some 8, .fieldAddr 0 (.t 7), some (5, true)⟩,
                   ⟨some 9, .load false 1 (.t 8), some (5, true)⟩,
                   ⟨some 10, .len (.sl) (.t 9), some (5, true)⟩,
                   ⟨some 11, .bin (.gtr) (.other) (.t 10) (.c (.int (.i64) 0)), some (5, true)⟩,
                   ⟨some 12, .pick (.t 5) (.t 11) (.c (.bool false)), none⟩])
                (.cond (.t 12) (.seq (.ops [⟨some 2, .mov (.c (.int (.i64) 5)), none⟩]) (.ret)) (.skip)))
              (.seq
                (.ops
                  [⟨some 13, .mov (.t 0), none⟩, ⟨some 14, .call 30 [.t 13], none⟩, ⟨some 2, .mov (.t 14), none⟩])
                (.ret)))⟩
theorem c31 : cFunc Try.prog Try.f31 = some sf31 := by kernel_rfl

/-- (*wharfage/wharfageref09.Reader).End -/
def sf32 : SFunc := ⟨24,
  [.tmp 2],
  .seq
            (.ops [⟨some 2, .mov (.c (.int (.i64) 0)), none⟩])
            (.seq
              (.seq
                (.ops
                  [⟨some 3, .mov (.t 0), none⟩,
                   ⟨some 4, .nilChk (.t 3), none⟩,
                   ⟨some 5, .fieldAddr 2 (.t 4), none⟩,
                   ⟨some 6, .load false 1 (.t 5), none⟩,
                   ⟨some 7, .bin (.eql) (.other) (.t 6) (.c (.int (.i64) 0)), none⟩,
                   ⟨some 8, .mov (.t 7), none⟩,
                   ⟨some 9, .mov (.t 0), some (8, true)⟩,
                   ⟨some 10, .nilChk (.t 9), some (8, true)⟩,
                   ⟨some 11, .fieldAddr 1 (.t 10), some (8, true)⟩,
                   ⟨some 12, .load false 1 (.t 11), some (8, true)⟩,
                   ⟨some 13, .mov (.t 0), some (8, true)⟩,
                   ⟨some 14, .nilChk (.t 13), some (8, true)⟩,
                   ⟨some 15, .fieldAddr 0 (.t 14), some (8, true)⟩,
                   ⟨some 16, .load false 1 (.t 15), some (8, true)⟩,
                   ⟨some 17, .len (.sl) (.t 16), some (8, true)⟩,
                   ⟨some 18, .bin (.lss) (.other) (.t 12) (.t 17), some (8, true)⟩,
                   ⟨some 19, .pick (.t 8) (.t 18) (.c (.bool false)), none⟩])
                (.cond (.t 19) (.seq (.ops [⟨some 2, .mov (.c (.int (.i64) 5)), none⟩]) (.ret)) (.skip)))
              (.seq
                (.ops
                  [⟨some 20, .mov (.t 0), none⟩,
                   ⟨some 21, .nilChk (.t 20), none⟩,
                   ⟨some 22, .fieldAddr 2 (.t 21), none⟩,
                   ⟨some 23, .load false 1 (.t 22), none⟩,
                   ⟨some 2, .mov (.t 23), none⟩])
                (.ret)))⟩
theorem c32 : cFunc Try.prog Try.f32 = some sf32 := by kernel_rfl

/-- wharfage/wharfagelaw09.goes -/
def sf33 : SFunc := ⟨75,
  [.tmp 4],
  .seq
            (.ops [⟨some 4, .mov (.c (.bool false)), none⟩])
            (.seq
              (.seq
                (.ops [⟨some 5, .mov (.c (.int (.i64) 0)), none⟩])
                (.block
                  0
                  (.loop
                    (.seq
                      (.seq
                        (.ops
                          [⟨some 7, .mov (.t 5), none⟩,
                           ⟨some 8, .mov (.t 1), none⟩,
                           ⟨some 9, .len (.sl) (.t 8), none⟩,
                           ⟨some 10, .bin (.lss) (.other) (.t 7) (.t 9), none⟩,
                           ⟨some 11, .mov (.t 10), none⟩,
                           ⟨some 12, .mov (.t 5), some (11, true)⟩,
                           ⟨some 13, .bin (.lss) (.other) (.t 12) (.c (.int (.i64) 60)), some (11, true)⟩,
                           ⟨some 14, .pick (.t 11) (.t 13) (.c (.bool false)), none⟩])
                        (.cond (.t 14) (.skip) (.exit 0)))
                      (.seq
                        (.block
                          1
                          (.seq
                            (.ops [⟨some 6, .mov (.c (.bool true)), none⟩])
                            (.seq
                              (.seq
                                (.ops
                                  [⟨some 17, .mov (.t 1), none⟩,
                                   ⟨some 18, .mov (.t 5), none⟩,
                                   ⟨some 19, .idxAddrSl 5 (.t 17) (.t 18), none⟩,
                                   ⟨some 20, .fieldAddr 0 (.t 19), none⟩,
                                   ⟨some 21, .load false 1 (.t 20), none⟩,
                                   ⟨some 22, .bin (.rem) (.other) (.t 21) (.c (.int (.u8) 4)), none⟩])
                                (.block
                                  2
                                  (.seq
                                    (.ops
                                      [⟨some 38, .bin (.eql) (.other) (.t 22) (.c (.int (.u8) 0)), none⟩,
                                       ⟨some 37, .mov (.t 38), none⟩])
                                    (.cond
                                      (.t 37)
                                      (.drawOps
                                        [⟨some 39, .mov (.t 0), none⟩,
                                         ⟨some 40, .call 22 [.t 39], none⟩,
                                         ⟨some 41, .mov (.t 1), none⟩,
                                         ⟨some 42, .mov (.t 5), none⟩,
                                         ⟨some 43, .idxAddrSl 5 (.t 41) (.t 42), none⟩,
                                         ⟨some 44, .fieldAddr 1 (.t 43), none⟩,
                                         ⟨some 45, .load false 1 (.t 44), none⟩,
                                         ⟨some 46, .convInt (.u32) (.t 45), none⟩,
                                         ⟨some 47, .bin (.eql) (.other) (.t 40) (.t 46), none⟩,
                                         ⟨some 6, .mov (.t 47), none⟩]
                                        [(6, 1)])
                                      (.seq
                                        (.ops
                                          [⟨some 49, .bin (.eql) (.other) (.t 22) (.c (.int (.u8) 1)), none⟩,
                                           ⟨some 48, .mov (.t 49), none⟩])
                                        (.cond
                                          (.t 48)
                                          (.drawOps
                                            [⟨some 50, .mov (.t 0), none⟩,
                                             ⟨some 51, .call 24 [.t 50], none⟩,
                                             ⟨some 52, .mov (.t 1), none⟩,
                                             ⟨some 53, .mov (.t 5), none⟩,
                                             ⟨some 54, .idxAddrSl 5 (.t 52) (.t 53), none⟩,
                                             ⟨some 55, .fieldAddr 1 (.t 54), none⟩,
                                             ⟨some 56, .load false 1 (.t 55), none⟩,
                                             ⟨some 57, .bin (.eql) (.other) (.t 51) (.t 56), none⟩,
                                             ⟨some 6, .mov (.t 57), none⟩]
                                            [(6, 1)])
                                          (.seq
                                            (.ops
                                              [⟨some 59, .bin (.eql) (.other) (.t 22) (.c (.int (.u8) 2)), none⟩,
                                               ⟨some 58, .mov (.t 59), none⟩])
                                            (.cond
                                              (.t 58)
                                              (.drawOps
                                                [⟨some 60, .mov (.t 0), none⟩,
                                                 ⟨some 61, .call 26 [.t 60], none⟩,
                                                 ⟨some 62, .mov (.t 1), none⟩,
                                                 ⟨some 63, .mov (.t 5), none⟩,
                                                 ⟨some 64, .idxAddrSl 5 (.t 62) (.t 63), none⟩,
                                                 ⟨some 65, .fieldAddr 2 (.t 64), none⟩,
                                                 ⟨some 66, .load false 1 (.t 65), none⟩,
                                                 ⟨some 67, .bin (.eql) (.bool) (.t 61) (.t 66), none⟩,
                                                 ⟨some 6, .mov (.t 67), none⟩]
                                                [(6, 1)])
                                              (.drawOps
                                                [⟨some 23, .mov (.t 0), none⟩,
                                                 ⟨some 24, .mov (.t 1), none⟩,
                                                 ⟨some 25, .mov (.t 5), none⟩,
                                                 ⟨some 26, .idxAddrSl 5 (.t 24) (.t 25), none⟩,
                                                 ⟨some 27, .fieldAddr 3 (.t 26), none⟩,
                                                 ⟨some 28, .load false 1 (.t 27), none⟩,
                                                 ⟨some 29, .len (.sl) (.t 28), none⟩,
                                                 ⟨some 30, .call 28 [.t 23, .t 29], none⟩,
                                                 ⟨some 31, .mov (.t 1), none⟩,
                                                 ⟨some 32, .mov (.t 5), none⟩,
                                                 ⟨some 33, .idxAddrSl 5 (.t 31) (.t 32), none⟩,
                                                 ⟨some 34, .fieldAddr 3 (.t 33), none⟩,
                                                 ⟨some 35, .load false 1 (.t 34), none⟩,
                                                 ⟨some 36, .call 18 [.t 30, .t 35], none⟩,
                                                 ⟨some 6, .mov (.t 36), none⟩]
                                                [(12, 7)])))))))))
                              (.seq
                                (.ops
                                  [⟨some 68, .mov (.t 6), none⟩,
                                   ⟨some 69, .un (.not) (.t 68), none⟩,
                                   ⟨some 70, .mov (.t 69), none⟩,
                                   ⟨some 71, .mov (.t 0), some (70, false)⟩,
                                   ⟨some 72, .call 30 [.t 71], some (70, false)⟩,
                                   ⟨some 73, .bin (.neq) (.other) (.t 72) (.c (.int (.i64) 0)), some (70, false)⟩,
                                   ⟨some 74, .pick (.t 70) (.c (.bool true)) (.t 73), none⟩])
                                (.cond (.t 74) (.seq (.ops [⟨some 4, .mov (.c (.bool false)), none⟩]) (.ret)) (.skip))))))
                        (.ops
                          [⟨some 15, .mov (.t 5), none⟩,
                           ⟨some 16, .bin (.add) (.other) (.t 15) (.c (.int (.i64) 1)), none⟩,
                           ⟨some 5, .mov (.t 16), none⟩]))))))
              (.seq (.ops [⟨some 4, .mov (.c (.bool true)), none⟩]) (.ret)))⟩
theorem c33 : cFunc Try.prog Try.f33 = some sf33 := by kernel_rfl

/-- wharfage/wharfageref00.Copy -/
def sf34 : SFunc := ⟨7,
  [.tmp 2],
  .seq
            (.ops [⟨some 2, .mov (.c (.nilsl)), none⟩])
            (.seq
              (.ops [⟨some 3, .mov (.c (.nilsl)), none⟩])
              (.seq
                (.ops
                  [⟨some 4, .mov (.t 3), none⟩,
                   ⟨some 5, .mov (.t 0), none⟩,
                   ⟨some 6, .append 1 1 (.t 4) (.t 5), none⟩,
                   ⟨some 2, .mov (.t 6), none⟩])
                (.ret)))⟩
theorem c34 : cFunc Try.prog Try.f34 = some sf34 := by kernel_rfl

/-- (*wharfage/xdr.Writer).number -/
def sf35 : SFunc := ⟨17,
  [],
  .seq
            (.ops
              [⟨some 9, .mov (.t 1), none⟩,
               ⟨some 10, .mov (.t 2), none⟩,
               ⟨some 11, .call 48 [.t 9, .t 10], none⟩,
               ⟨some 8, .mov (.t 11), none⟩,
               ⟨some 12, .extract (.t 8) 0, none⟩,
               ⟨some 13, .extract (.t 8) 1, none⟩,
               ⟨some 6, .mov (.t 12), none⟩,
               ⟨some 7, .mov (.t 13), none⟩])
            (.ops
              [⟨some 14, .mov (.t 0), none⟩,
               ⟨some 15, .mov (.t 6), none⟩,
               ⟨some 16, .call 37 [.t 14, .t 15], none⟩])⟩
theorem c35 : cFunc Try.prog Try.f35 = some sf35 := by kernel_rfl

/-- wharfage/wharfageref01.Put -/
def sf36 : SFunc := ⟨39,
  [.tmp 4, .tmp 5],
  .seq
            (.ops [⟨some 4, .mov (.c (.nilsl)), none⟩, ⟨some 5, .mov (.c (.int (.i64) 0)), none⟩])
            (.seq
              (.seq
                (.ops
                  [⟨some 8, .mov (.t 1), none⟩,
                   ⟨some 9, .call 49 [.t 8], none⟩,
                   ⟨some 10, .un (.not) (.t 9), none⟩,
                   ⟨some 11, .mov (.t 10), none⟩,
                   ⟨some 12, .mov (.t 1), some (11, false)⟩,
                   ⟨some 13, .bin (.lss) (.other) (.t 12) (.c (.int (.i64) 8)), some (11, false)⟩,
                   ⟨some 14, .mov (.t 13), some (11, false)⟩,
                   ⟨some 15, .mov (.t 0), some (14, true)⟩,
                   ⟨some 16, .mov (.t 1), some (14, true)⟩,
                   ⟨some 17, .bin (.mul) (.other) (.c (.int (.i64) 8)) (.t 16), some (14, true)⟩,
                   ⟨some 18, .convInt (.u64) (.t 17), some (14, true)⟩,
                   ⟨some 19, .bin (.shl) (.other) (.c (.int (.u64) 1)) (.t 18), some (14, true)⟩,
                   ⟨some 20, .bin (.geq) (.other) (.t 15) (.t 19), some (14, true)⟩,
                   ⟨some 21, .pick (.t 14) (.t 20) (.c (.bool false)), some (11, false)⟩,
                   ⟨some 22, .pick (.t 11) (.c (.bool true)) (.t 21), none⟩])
                (.cond
                  (.t 22)
                  (.seq
                    (.ops [⟨some 4, .mov (.c (.nilsl)), none⟩, ⟨some 5, .mov (.c (.int (.i64) 2)), none⟩])
                    (.ret))
                  (.skip)))
              (.seq
                (.ops [⟨some 6, .mov (.c (.nilsl)), none⟩])
                (.seq
                  (.seq
                    (.ops
                      [⟨some 23, .mov (.t 1), none⟩,
                       ⟨some 24, .bin (.sub) (.other) (.t 23) (.c (.int (.i64) 1)), none⟩,
                       ⟨some 7, .mov (.t 24), none⟩])
                    (.block
                      0
                      (.loop
                        (.seq
                          (.seq
                            (.ops
                              [⟨some 25, .mov (.t 7), none⟩,
                               ⟨some 26, .bin (.geq) (.other) (.t 25) (.c (.int (.i64) 0)), none⟩])
                            (.cond (.t 26) (.skip) (.exit 0)))
                          (.seq
                            (.block
                              1
                              (.ops
                                [⟨some 29, .mov (.t 6), none⟩,
                                 ⟨some 30, .mov (.t 0), none⟩,
                                 ⟨some 31, .mov (.t 7), none⟩,
                                 ⟨some 32, .bin (.mul) (.other) (.c (.int (.i64) 8)) (.t 31), none⟩,
                                 ⟨some 33, .convInt (.u64) (.t 32), none⟩,
                                 ⟨some 34, .bin (.shr) (.other) (.t 30) (.t 33), none⟩,
                                 ⟨some 35, .convInt (.u8) (.t 34), none⟩,
                                 ⟨some 36, .buildSlice [.int (.u8) 0] 1 1 [(0, 1, .t 35)], none⟩,
                                 ⟨some 37, .append 1 1 (.t 29) (.t 36), none⟩,
                                 ⟨some 6, .mov (.t 37), none⟩]))
                            (.ops
                              [⟨some 27, .mov (.t 7), none⟩,
                               ⟨some 28, .bin (.sub) (.other) (.t 27) (.c (.int (.i64) 1)), none⟩,
                               ⟨some 7, .mov (.t 28), none⟩]))))))
                  (.seq
                    (.ops
                      [⟨some 38, .mov (.t 6), none⟩,
                       ⟨some 4, .mov (.t 38), none⟩,
                       ⟨some 5, .mov (.c (.int (.i64) 0)), none⟩])
                    (.ret)))))⟩
theorem c36 : cFunc Try.prog Try.f36 = some sf36 := by kernel_rfl

/-- (*wharfage/xdr.Writer).lay -/
def sf37 : SFunc := ⟨15,
  [],
  .seq
            (.ops [⟨some 4, .mov (.t 0), none⟩, ⟨some 5, .bin (.neq) (.ptr) (.t 4) (.c (.nilptr)), none⟩])
            (.cond
              (.t 5)
              (.ops
                [⟨some 6, .mov (.t 0), none⟩,
                 ⟨some 7, .mov (.t 0), none⟩,
                 ⟨some 8, .nilChk (.t 7), none⟩,
                 ⟨some 9, .fieldAddr 0 (.t 8), none⟩,
                 ⟨some 10, .load false 1 (.t 9), none⟩,
                 ⟨some 11, .mov (.t 1), none⟩,
                 ⟨some 12, .append 1 1 (.t 10) (.t 11), none⟩,
                 ⟨some 13, .nilChk (.t 6), none⟩,
                 ⟨some 14, .fieldAddr 0 (.t 13), none⟩,
                 ⟨none, .store 1 (.t 14) (.t 12), none⟩])
              (.skip))⟩
theorem c37 : cFunc Try.prog Try.f37 = some sf37 := by kernel_rfl

/-- wharfage/num.Pad -/
def sf38 : SFunc := ⟨7,
  [.tmp 2],
  .seq
            (.ops [⟨some 2, .mov (.c (.int (.i64) 0)), none⟩])
            (.seq
              (.ops
                [⟨some 3, .mov (.t 0), none⟩,
                 ⟨some 4, .max (.t 3) [.c (.int (.i64) 0)], none⟩,
                 ⟨some 5, .un (.neg) (.t 4), none⟩,
                 ⟨some 6, .bin (.and) (.other) (.t 5) (.c (.int (.i64) 3)), none⟩,
                 ⟨some 2, .mov (.t 6), none⟩])
              (.ret))⟩
theorem c38 : cFunc Try.prog Try.f38 = some sf38 := by kernel_rfl

/-- wharfage/wharfageref01.Pad -/
def sf39 : SFunc := ⟨13,
  [.tmp 2],
  .seq
            (.ops [⟨some 2, .mov (.c (.int (.i64) 0)), none⟩])
            (.seq
              (.seq
                (.ops
                  [⟨some 3, .mov (.t 0), none⟩,
                   ⟨some 4, .bin (.lss) (.other) (.t 3) (.c (.int (.i64) 0)), none⟩,
                   ⟨some 5, .mov (.t 4), none⟩,
                   ⟨some 6, .mov (.t 0), some (5, false)⟩,
                   ⟨some 7, .bin (.rem) (.other) (.t 6) (.c (.int (.i64) 4)), some (5, false)⟩,
                   ⟨some 8, .bin (.eql) (.other) (.t 7) (.c (.int (.i64) 0)), some (5, false)⟩,
                   ⟨some 9, .pick (.t 5) (.c (.bool true)) (.t 8), none⟩])
                (.cond (.t 9) (.seq (.ops [⟨some 2, .mov (.c (.int (.i64) 0)), none⟩]) (.ret)) (.skip)))
              (.seq
                (.ops
                  [⟨some 10, .mov (.t 0), none⟩,
                   ⟨some 11, .bin (.rem) (.other) (.t 10) (.c (.int (.i64) 4)), none⟩,
                   ⟨some 12, .bin (.sub) (.other) (.c (.int (.i64) 4)) (.t 11), none⟩,
                   ⟨some 2, .mov (.t 12), none⟩])
                (.ret)))⟩
theorem c39 : cFunc Try.prog Try.f39 = some sf39 := by kernel_rfl

/-- slices.Clone[[]byte,byte] -/
def sf40 : SFunc := ⟨8,
  [.tmp 2],
  .seq
            (.ops [⟨some 2, .mov (.c (.nilsl)), none⟩])
            (.seq
              (.seq
                (.ops [⟨some 3, .mov (.t 0), none⟩, ⟨some 4, .bin (.eql) (.sl) (.t 3) (.c (.nilsl)), none⟩])
                (.cond (.t 4) (.seq (.ops [⟨some 2, .mov (.c (.nilsl)), none⟩]) (.ret)) (.skip)))
              (.seq
                (.ops
                  [⟨some 5, .buildSlice [] 0 1 [], none⟩,
                   ⟨some 6, .mov (.t 0), none⟩,
                   ⟨some 7, .append 1 1 (.t 5) (.t 6), none⟩,
                   ⟨some 2, .mov (.t 7), none⟩])
                (.ret)))⟩
theorem c40 : cFunc Try.prog Try.f40 = some sf40 := by kernel_rfl

/-- (*wharfage/xdr.Reader).number -/
def sf41 : SFunc := ⟨35,
  [.tmp 4],
  .seq
            (.ops [⟨some 4, .mov (.c (.int (.u64) 0)), none⟩])
            (.seq
              (.seq
                (.ops
                  [⟨some 7, .mov (.t 0), none⟩,
                   ⟨some 8, .call 44 [.t 7], none⟩,
                   ⟨some 9, .un (.not) (.t 8), none⟩])
                (.cond (.t 9) (.seq (.ops [⟨some 4, .mov (.c (.int (.u64) 0)), none⟩]) (.ret)) (.skip)))
              (.seq
                (.ops
                  [⟨some 11, .mov (.t 0), none⟩,
                   ⟨some 12, .nilChk (.t 11), none⟩,
                   ⟨some 13, .fieldAddr 0 (.t 12), none⟩,
                   ⟨some 14, .load false 1 (.t 13), none⟩,
                   ⟨some 15, .mov (.t 1), none⟩,
                   ⟨some 16, .call 50 [.t 14, .c (.int (.i64) 0), .t 15], none⟩,
                   ⟨some 10, .mov (.t 16), none⟩,
                   ⟨some 17, .extract (.t 10) 0, none⟩,
                   ⟨some 18, .extract (.t 10) 1, none⟩,
                   ⟨some 5, .mov (.t 17), none⟩,
                   ⟨some 6, .mov (.t 18), none⟩])
                (.seq
                  (.seq
                    (.ops
                      [⟨some 19, .mov (.t 6), none⟩,
                       ⟨some 20, .bin (.neq) (.other) (.t 19) (.c (.int (.i64) 0)), none⟩])
                    (.cond
                      (.t 20)
                      (.seq
                        (.ops
                          [⟨some 21, .mov (.t 0), none⟩,
                           ⟨some 22, .mov (.t 6), none⟩,
                           ⟨some 23, .nilChk (.t 21), none⟩,
                           ⟨some 24, .fieldAddr 1 (.t 23), none⟩,
                           ⟨none, .store 1 (.t 24) (.t 22), none⟩])
                        (.seq (.ops [⟨some 4, .mov (.c (.int (.u64) 0)), none⟩]) (.ret)))
                      (.skip)))
                  (.seq
                    (.ops
                      [⟨some 25, .mov (.t 0), none⟩,
                       ⟨some 26, .mov (.t 0), none⟩,
                       ⟨some 27, .nilChk (.t 26), none⟩,
                       ⟨some 28, .fieldAddr 0 (.t 27), none⟩,
                       ⟨some 29, .load false 1 (.t 28), none⟩,
                       ⟨some 30, .mov (.t 1), none⟩,
                       ⟨some 31, .slice 1 (.t 29) (some (.t 30)) none none, none⟩,
                       ⟨some 32, .nilChk (.t 25), none⟩,
                       ⟨some 33, .fieldAddr 0 (.t 32), none⟩,
                       ⟨none, .store 1 (.t 33) (.t 31), none⟩])
                    (.seq (.ops [⟨some 34, .mov (.t 5), none⟩, ⟨some 4, .mov (.t 34), none⟩]) (.ret))))))⟩
theorem c41 : cFunc Try.prog Try.f41 = some sf41 := by kernel_rfl

/-- (*wharfage/wharfageref09.Reader).number -/
def sf42 : SFunc := ⟨40,
  [.tmp 4],
  .seq
            (.ops [⟨some 4, .mov (.c (.int (.u64) 0)), none⟩])
            (.seq
              (.seq
                (.ops
                  [⟨some 7, .mov (.t 0), none⟩,
                   ⟨some 8, .nilChk (.t 7), none⟩,
                   ⟨some 9, .fieldAddr 2 (.t 8), none⟩,
                   ⟨some 10, .load false 1 (.t 9), none⟩,
                   ⟨some 11, .bin (.neq) (.other) (.t 10) (.c (.int (.i64) 0)), none⟩])
                (.cond (.t 11) (.seq (.ops [⟨some 4, .mov (.c (.int (.u64) 0)), none⟩]) (.ret)) (.skip)))
              (.seq
                (.ops
                  [⟨some 13, .mov (.t 0), none⟩,
                   ⟨some 14, .nilChk (.t 13), none⟩,
                   ⟨some 15, .fieldAddr 0 (.t 14), none⟩,
                   ⟨some 16, .load false 1 (.t 15), none⟩,
                   ⟨some 17, .mov (.t 0), none⟩,
                   ⟨some 18, .nilChk (.t 17), none⟩,
                   ⟨some 19, .fieldAddr 1 (.t 18), none⟩,
                   ⟨some 20, .load false 1 (.t 19), none⟩,
                   ⟨some 21, .mov (.t 1), none⟩,
                   ⟨some 22, .call 51 [.t 16, .t 20, .t 21], none⟩,
                   ⟨some 12, .mov (.t 22), none⟩,
                   ⟨some 23, .extract (.t 12) 0, none⟩,
                   ⟨some 24, .extract (.t 12) 1, none⟩,
                   ⟨some 5, .mov (.t 23), none⟩,
                   ⟨some 6, .mov (.t 24), none⟩])
                (.seq
                  (.seq
                    (.ops
                      [⟨some 25, .mov (.t 6), none⟩,
                       ⟨some 26, .bin (.neq) (.other) (.t 25) (.c (.int (.i64) 0)), none⟩])
                    (.cond
                      (.t 26)
                      (.seq
                        (.ops
                          [⟨some 27, .mov (.t 0), none⟩,
                           ⟨some 28, .nilChk (.t 27), none⟩,
                           ⟨some 29, .fieldAddr 2 (.t 28), none⟩,
                           ⟨none, .store 1 (.t 29) (.c (.int (.i64) 4)), none⟩])
                        (.seq (.ops [⟨some 4, .mov (.c (.int (.u64) 0)), none⟩]) (.ret)))
                      (.skip)))
                  (.seq
                    (.ops
                      [⟨some 30, .mov (.t 0), none⟩,
                       ⟨some 31, .mov (.t 0), none⟩,
                       ⟨some 32, .nilChk (.t 31), none⟩,
                       ⟨some 33, .fieldAddr 1 (.t 32), none⟩,
                       ⟨some 34, .load false 1 (.t 33), none⟩,
                       ⟨some 35, .mov (.t 1), none⟩,
                       ⟨some 36, .bin (.add) (.other) (.t 34) (.t 35), none⟩,
                       ⟨some 37, .nilChk (.t 30), none⟩,
                       ⟨some 38, .fieldAddr 1 (.t 37), none⟩,
                       ⟨none, .store 1 (.t 38) (.t 36), none⟩])
                    (.seq (.ops [⟨some 39, .mov (.t 5), none⟩, ⟨some 4, .mov (.t 39), none⟩]) (.ret))))))⟩
theorem c42 : cFunc Try.prog Try.f42 = some sf42 := by kernel_rfl

/-- (*wharfage/xdr.Reader).fail -/
def sf43 : SFunc := ⟨15,
  [],
  .seq
            (.ops
              [⟨some 6, .mov (.t 0), none⟩,
               ⟨some 7, .call 44 [.t 6], none⟩,
               ⟨some 8, .mov (.t 7), none⟩,
               ⟨some 9, .mov (.t 1), some (8, true)⟩,
               ⟨some 10, .pick (.t 8) (.t 9) (.c (.bool false)), none⟩])
            (.cond
              (.t 10)
              (.ops
                [⟨some 11, .mov (.t 0), none⟩,
                 ⟨some 12, .mov (.t 2), none⟩,
                 ⟨some 13, .nilChk (.t 11), none⟩,
                 ⟨some 14, .fieldAddr 1 (.t 13), none⟩,
                 ⟨none, .store 1 (.t 14) (.t 12), none⟩])
              (.skip))⟩
theorem c43 : cFunc Try.prog Try.f43 = some sf43 := by kernel_rfl

/-- (*wharfage/xdr.Reader).fine -/
def sf44 : SFunc := ⟨13,
  [.tmp 2],
  .seq
            (.ops [⟨some 2, .mov (.c (.bool false)), none⟩])
            (.seq
              (.ops
                [⟨some 3, .mov (.t 0), none⟩,
                 ⟨some 4, .call 47 [.t 3], none⟩,
                 ⟨some 5, .un (.not) (.t 4), none⟩,
                 ⟨some 6, .mov (.t 5), none⟩,
                 ⟨some 7, .mov (.t 0), some (6, true)⟩,
                 ⟨some 8, .nilChk (.t 7), some (6, true)⟩,
                 ⟨some 9, .fieldAddr 1 (.t 8), some (6, true)⟩,
                 ⟨some 10, .load false 1 (.t 9), some (6, true)⟩,
                 ⟨some 11, .bin (.eql) (.other) (.t 10) (.c (.int (.i64) 0)), some (6, true)⟩,
                 ⟨some 12, .pick (.t 6) (.t 11) (.c (.bool false)), none⟩,
                 ⟨some 2, .mov (.t 12), none⟩])
              (.ret))⟩
theorem c44 : cFunc Try.prog Try.f44 = some sf44 := by kernel_rfl

/-- wharfage/num.Zero -/
def sf45 : SFunc := ⟨35,
  [.tmp 6],
  .seq
            (.ops [⟨some 6, .mov (.c (.int (.i64) 0)), none⟩])
            (.seq
              (.block
                0
                (.seq
                  (.ops
                    [⟨some 8, .mov (.t 1), none⟩,
                     ⟨some 9, .bin (.lss) (.other) (.t 8) (.c (.int (.i64) 0)), none⟩,
                     ⟨some 10, .mov (.t 9), none⟩,
                     ⟨some 11, .mov (.t 1), some (10, false)⟩,
                     ⟨some 12, .mov (.t 0), some (10, false)⟩,
                     ⟨some 13, .len (.sl) (.t 12), some (10, false)⟩,
                     ⟨some 14, .bin (.gtr) (.other) (.t 11) (.t 13), some (10, false)⟩,
                     ⟨some 15, .pick (.t 10) (.c (.bool true)) (.t 14), none⟩,
                     ⟨some 16, .mov (.t 15), none⟩,
                     ⟨some 17, .mov (.t 2), some (16, false)⟩,
                     ⟨some 18, .bin (.lss) (.other) (.t 17) (.c (.int (.i64) 0)), some (16, false)⟩,
                     ⟨some 19, .pick (.t 16) (.c (.bool true)) (.t 18), none⟩,
                     ⟨some 7, .mov (.t 19), none⟩])
                  (.cond
                    (.t 7)
                    (.seq (.ops [⟨some 6, .mov (.c (.int (.i64) 2)), none⟩]) (.ret))
                    (.seq
                      (.ops
                        [⟨some 21, .mov (.t 0), none⟩,
                         ⟨some 22, .len (.sl) (.t 21), none⟩,
                         ⟨some 23, .mov (.t 1), none⟩,
                         ⟨some 24, .bin (.sub) (.other) (.t 22) (.t 23), none⟩,
                         ⟨some 25, .mov (.t 2), none⟩,
                         ⟨some 26, .bin (.lss) (.other) (.t 24) (.t 25), none⟩,
                         ⟨some 20, .mov (.t 26), none⟩])
                      (.cond
                        (.t 20)
                        (.seq (.ops [⟨some 6, .mov (.c (.int (.i64) 4)), none⟩]) (.ret))
                        (.seq
                          (.ops
                            [⟨some 28, .mov (.t 0), none⟩,
                             ⟨some 29, .mov (.t 1), none⟩,
                             ⟨some 30, .mov (.t 1), none⟩,
                             ⟨some 31, .mov (.t 2), none⟩,
                             ⟨some 32, .bin (.add) (.other) (.t 30) (.t 31), none⟩,
                             ⟨some 33, .slice 1 (.t 28) (some (.t 29)) (some (.t 32)) none, none⟩,
                             ⟨some 34, .call 52 [.t 33, .c (.func 53 [] [])], none⟩,
                             ⟨some 27, .mov (.t 34), none⟩])
                          (.cond (.t 27) (.seq (.ops [⟨some 6, .mov (.c (.int (.i64) 5)), none⟩]) (.ret)) (.skip))))))))
              (.seq (.ops [⟨some 6, .mov (.c (.int (.i64) 0)), none⟩]) (.ret)))⟩
theorem c45 : cFunc Try.prog Try.f45 = some sf45 := by kernel_rfl

/-- wharfage/wharfageref01.Zero -/
def sf46 : SFunc := ⟨39,
  [.tmp 6],
  .seq
            (.ops [⟨some 6, .mov (.c (.int (.i64) 0)), none⟩])
            (.seq
              (.seq
                (.ops
                  [⟨some 8, .mov (.t 1), none⟩,
                   ⟨some 9, .bin (.lss) (.other) (.t 8) (.c (.int (.i64) 0)), none⟩,
                   ⟨some 10, .mov (.t 9), none⟩,
                   ⟨some 11, .mov (.t 1), some (10, false)⟩,
                   ⟨some 12, .mov (.t 0), some (10, false)⟩,
                   ⟨some 13, .len (.sl) (.t 12), some (10, false)⟩,
                   ⟨some 14, .bin (.gtr) (.other) (.t 11) (.t 13), some (10, false)⟩,
                   ⟨some 15, .pick (.t 10) (.c (.bool true)) (.t 14), none⟩,
                   ⟨some 16, .mov (.t 15), none⟩,
                   ⟨some 17, .mov (.t 2), some (16, false)⟩,
                   ⟨some 18, .bin (.lss) (.other) (.t 17) (.c (.int (.i64) 0)), some (16, false)⟩,
                   ⟨some 19, .pick (.t 16) (.c (.bool true)) (.t 18), none⟩])
                (.cond (.t 19) (.seq (.ops [⟨some 6, .mov (.c (.int (.i64) 2)), none⟩]) (.ret)) (.skip)))
              (.seq
                (.seq
                  (.ops
                    [⟨some 20, .mov (.t 0), none⟩,
                     ⟨some 21, .len (.sl) (.t 20), none⟩,
                     ⟨some 22, .mov (.t 1), none⟩,
                     ⟨some 23, .bin (.sub) (.other) (.t 21) (.t 22), none⟩,
                     ⟨some 24, .mov (.t 2), none⟩,
                     ⟨some 25, .bin (.lss) (.other) (.t 23) (.t 24), none⟩])
                  (.cond (.t 25) (.seq (.ops [⟨some 6, .mov (.c (.int (.i64) 4)), none⟩]) (.ret)) (.skip)))
                (.seq
                  (.seq
                    (.ops [⟨some 26, .mov (.t 1), none⟩, ⟨some 7, .mov (.t 26), none⟩])
                    (.block
                      0
                      (.loop
                        (.seq
                          (.seq
                            (.ops
                              [⟨some 27, .mov (.t 7), none⟩,
                               ⟨some 28, .mov (.t 1), none⟩,
                               ⟨some 29, .mov (.t 2), none⟩,
                               ⟨some 30, .bin (.add) (.other) (.t 28) (.t 29), none⟩,
                               ⟨some 31, .bin (.lss) (.other) (.t 27) (.t 30), none⟩])
                            (.cond (.t 31) (.skip) (.exit 0)))
                          (.seq
                            (.block
                              1
                              (.seq
                                (.ops
                                  [⟨some 34, .mov (.t 0), none⟩,
                                   ⟨some 35, .mov (.t 7), none⟩,
                                   ⟨some 36, .idxAddrSl 1 (.t 34) (.t 35), none⟩,
                                   ⟨some 37, .load false 1 (.t 36), none⟩,
                                   ⟨some 38, .bin (.neq) (.other) (.t 37) (.c (.int (.u8) 0)), none⟩])
                                (.cond (.t 38) (.seq (.ops [⟨some 6, .mov (.c (.int (.i64) 5)), none⟩]) (.ret)) (.skip))))
                            (.ops
                              [⟨some 32, .mov (.t 7), none⟩,
                               ⟨some 33, .bin (.add) (.other) (.t 32) (.c (.int (.i64) 1)), none⟩,
                               ⟨some 7, .mov (.t 33), none⟩]))))))
                  (.seq (.ops [⟨some 6, .mov (.c (.int (.i64) 0)), none⟩]) (.ret)))))⟩
theorem c46 : cFunc Try.prog Try.f46 = some sf46 := by kernel_rfl

/-- (*wharfage/xdr.Reader).none -/
def sf47 : SFunc := ⟨12,
  [.tmp 2],
  .seq
            (.ops [⟨some 2, .mov (.c (.bool false)), none⟩])
            (.seq
              (.ops
                [⟨some 3, .mov (.t 0), none⟩,
                 ⟨some 4, .bin (.eql) (.ptr) (.t 3) (.c (.nilptr)), none⟩,
                 ⟨some 5, .mov (.t 4), none⟩,
                 ⟨some 6, .mov (.t 0), some (5, false)⟩,
                 ⟨some 7, .nilChk (.t 6), some (5, false)⟩,
                 ⟨some 8, .fieldAddr 2 (.t 7), some (5, false)⟩,
                 ⟨some 9, .load false 1 (.t 8), some (5, false)⟩,
                 ⟨some 10, .un (.not) (.t 9), some (5, false)⟩,
                 ⟨some 11, .pick (.t 5) (.c (.bool true)) (.t 10), none⟩,
                 ⟨some 2, .mov (.t 11), none⟩])
              (.ret))⟩
theorem c47 : cFunc Try.prog Try.f47 = some sf47 := by kernel_rfl

/-- wharfage/num.Put -/
def sf48 : SFunc := ⟨34,
  [.tmp 4, .tmp 5],
  .seq
            (.ops [⟨some 4, .mov (.c (.nilsl)), none⟩, ⟨some 5, .mov (.c (.int (.i64) 0)), none⟩])
            (.seq
              (.seq
                (.ops
                  [⟨some 8, .mov (.t 1), none⟩,
                   ⟨some 9, .call 54 [.t 8], none⟩,
                   ⟨some 10, .un (.not) (.t 9), none⟩,
                   ⟨some 11, .mov (.t 10), none⟩,
                   ⟨some 12, .mov (.t 0), some (11, false)⟩,
                   ⟨some 13, .call 55 [.t 12], some (11, false)⟩,
                   ⟨some 14, .mov (.t 1), some (11, false)⟩,
                   ⟨some 15, .bin (.mul) (.other) (.c (.int (.i64) 8)) (.t 14), some (11, false)⟩,
                   ⟨some 16, .bin (.gtr) (.other) (.t 13) (.t 15), some (11, false)⟩,
                   ⟨some 17, .pick (.t 11) (.c (.bool true)) (.t 16), none⟩])
                (.cond
                  (.t 17)
                  (.seq
                    (.ops [⟨some 4, .mov (.c (.nilsl)), none⟩, ⟨some 5, .mov (.c (.int (.i64) 2)), none⟩])
                    (.ret))
                  (.skip)))
              (.seq
                (.ops
                  [⟨some 18, .mov (.t 1), none⟩,
                   ⟨some 19, .mkSlice [.int (.u8) 0] 1 1 (.t 18) (.t 18), none⟩,
                   ⟨some 6, .mov (.t 19), none⟩])
                (.seq
                  (.seq
                    (.ops
                      [⟨some 20, .mov (.t 1), none⟩,
                       ⟨some 21, .bin (.sub) (.other) (.t 20) (.c (.int (.i64) 1)), none⟩,
                       ⟨some 7, .mov (.t 21), none⟩])
                    (.block
                      0
                      (.loop
                        (.seq
                          (.seq
                            (.ops
                              [⟨some 22, .mov (.t 7), none⟩,
                               ⟨some 23, .bin (.geq) (.other) (.t 22) (.c (.int (.i64) 0)), none⟩])
                            (.cond (.t 23) (.skip) (.exit 0)))
                          (.seq
                            (.block
                              1
                              (.seq
                                (.ops
                                  [⟨some 26, .mov (.t 6), none⟩,
                                   ⟨some 27, .mov (.t 7), none⟩,
                                   ⟨some 28, .mov (.t 0), none⟩,
                                   ⟨some 29, .convInt (.u8) (.t 28), none⟩,
                                   ⟨some 30, .idxAddrSl 1 (.t 26) (.t 27), none⟩,
                                   ⟨none, .store 1 (.t 30) (.t 29), none⟩])
                                (.ops
                                  [⟨some 31, .mov (.t 0), none⟩,
                                   ⟨some 32, .bin (.shr) (.other) (.t 31) (.c (.int (.u64) 8)), none⟩,
                                   ⟨some 0, .mov (.t 32), none⟩])))
                            (.ops
                              [⟨some 24, .mov (.t 7), none⟩,
                               ⟨some 25, .bin (.sub) (.other) (.t 24) (.c (.int (.i64) 1)), none⟩,
                               ⟨some 7, .mov (.t 25), none⟩]))))))
                  (.seq
                    (.ops
                      [⟨some 33, .mov (.t 6), none⟩,
                       ⟨some 4, .mov (.t 33), none⟩,
                       ⟨some 5, .mov (.c (.int (.i64) 0)), none⟩])
                    (.ret)))))⟩
theorem c48 : cFunc Try.prog Try.f48 = some sf48 := by kernel_rfl

/-- wharfage/wharfageref01.size -/
def sf49 : SFunc := ⟨17,
  [.tmp 2],
  .seq
            (.ops [⟨some 2, .mov (.c (.bool false)), none⟩])
            (.seq
              (.ops
                [⟨some 3, .mov (.t 0), none⟩,
                 ⟨some 4, .bin (.eql) (.other) (.t 3) (.c (.int (.i64) 1)), none⟩,
                 ⟨some 5, .mov (.t 4), none⟩,
                 ⟨some 6, .mov (.t 0), some (5, false)⟩,
                 ⟨some 7, .bin (.eql) (.other) (.t 6) (.c (.int (.i64) 2)), some (5, false)⟩,
                 ⟨some 8, .pick (.t 5) (.c (.bool true)) (.t 7), none⟩,
                 ⟨some 9, .mov (.t 8), none⟩,
                 ⟨some 10, .mov (.t 0), some (9, false)⟩,
                 ⟨some 11, .bin (.eql) (.other) (.t 10) (.c (.int (.i64) 4)), some (9, false)⟩,
                 ⟨some 12, .pick (.t 9) (.c (.bool true)) (.t 11), none⟩,
                 ⟨some 13, .mov (.t 12), none⟩,
                 ⟨some 14, .mov (.t 0), some (13, false)⟩,
                 ⟨some 15, .bin (.eql) (.other) (.t 14) (.c (.int (.i64) 8)), some (13, false)⟩,
                 ⟨some 16, .pick (.t 13) (.c (.bool true)) (.t 15), none⟩,
                 ⟨some 2, .mov (.t 16), none⟩])
              (.ret))⟩
theorem c49 : cFunc Try.prog Try.f49 = some sf49 := by kernel_rfl

/-- wharfage/num.Get -/
def sf50 : SFunc := ⟨47,
  [.cell 6 false 1, .tmp 7],
  .seq
            (.ops
              [⟨some 5, .box (.t 2), none⟩,
               ⟨some 6, .box (.c (.int (.u64) 0)), none⟩,
               ⟨some 7, .mov (.c (.int (.i64) 0)), none⟩])
            (.seq
              (.seq
                (.ops
                  [⟨some 10, .load false 1 (.t 5), none⟩,
                   ⟨some 11, .call 54 [.t 10], none⟩,
                   ⟨some 12, .un (.not) (.t 11), none⟩,
                   ⟨some 13, .mov (.t 12), none⟩,
                   ⟨some 14, .mov (.t 1), some (13, false)⟩,
                   ⟨some 15, .bin (.lss) (.other) (.t 14) (.c (.int (.i64) 0)), some (13, false)⟩,
                   ⟨some 16, .pick (.t 13) (.c (.bool true)) (.t 15), none⟩,
                   ⟨some 17, .mov (.t 16), none⟩,
                   ⟨some 18, .mov (.t 1), some (17, false)⟩,
                   ⟨some 19, .mov (.t 0), some (17, false)⟩,
                   ⟨some 20, .len (.sl) (.t 19), some (17, false)⟩,
                   ⟨some 21, .bin (.gtr) (.other) (.t 18) (.t 20), some (17, false)⟩,
                   ⟨some 22, .pick (.t 17) (.c (.bool true)) (.t 21), none⟩])
                (.cond
                  (.t 22)
                  (.seq
                    (.ops
                      [⟨none, .store 1 (.t 6) (.c (.int (.u64) 0)), none⟩,
                       ⟨some 7, .mov (.c (.int (.i64) 2)), none⟩])
                    (.ret))
                  (.skip)))
              (.seq
                (.seq
                  (.ops
                    [⟨some 23, .mov (.t 0), none⟩,
                     ⟨some 24, .mov (.t 1), none⟩,
                     ⟨some 25, .slice 1 (.t 23) (some (.t 24)) none none, none⟩,
                     ⟨some 0, .mov (.t 25), none⟩])
                  (.seq
                    (.ops
                      [⟨some 26, .mov (.t 0), none⟩,
                       ⟨some 27, .len (.sl) (.t 26), none⟩,
                       ⟨some 28, .load false 1 (.t 5), none⟩,
                       ⟨some 29, .bin (.lss) (.other) (.t 27) (.t 28), none⟩])
                    (.cond
                      (.t 29)
                      (.seq
                        (.ops
                          [⟨none, .store 1 (.t 6) (.c (.int (.u64) 0)), none⟩,
                           ⟨some 7, .mov (.c (.int (.i64) 4)), none⟩])
                        (.ret))
                      (.skip))))
                (.seq
                  (.seq
                    (.ops
                      [⟨some 30, .mov (.t 0), none⟩,
                       ⟨some 31, .load false 1 (.t 5), none⟩,
                       ⟨some 32, .slice 1 (.t 30) none (some (.t 31)) none, none⟩,
                       ⟨some 33, .call 56 [.t 32], none⟩])
                    (.block
                      0
                      (.rangeFunc
                        (.t 33)
                        [34, 35]
                        (.seq (.ops [⟨some 8, .mov (.t 34), none⟩]) (.ops [⟨some 9, .mov (.t 35), none⟩]))
                        (.block
                          1
                          (.ops
                            [⟨some 36, .load false 1 (.t 6), none⟩,
                             ⟨some 37, .mov (.t 9), none⟩,
                             ⟨some 38, .convInt (.u64) (.t 37), none⟩,
                             ⟨some 39, .load false 1 (.t 5), none⟩,
                             ⟨some 40, .bin (.sub) (.other) (.t 39) (.c (.int (.i64) 1)), none⟩,
                             ⟨some 41, .mov (.t 8), none⟩,
                             ⟨some 42, .bin (.sub) (.other) (.t 40) (.t 41), none⟩,
                             ⟨some 43, .bin (.mul) (.other) (.c (.int (.i64) 8)) (.t 42), none⟩,
                             ⟨some 44, .bin (.shl) (.other) (.t 38) (.t 43), none⟩,
                             ⟨some 45, .bin (.or) (.other) (.t 36) (.t 44), none⟩,
                             ⟨none, .store 1 (.t 6) (.t 45), none⟩])))))
                  (.seq
                    (.ops
                      [⟨some 46, .load false 1 (.t 6), none⟩,
                       ⟨none, .store 1 (.t 6) (.t 46), none⟩,
                       ⟨some 7, .mov (.c (.int (.i64) 0)), none⟩])
                    (.ret)))))⟩
theorem c50 : cFunc Try.prog Try.f50 = some sf50 := by kernel_rfl

/-- wharfage/wharfageref01.Get -/
def sf51 : SFunc := ⟨46,
  [.tmp 6, .tmp 7],
  .seq
            (.ops [⟨some 6, .mov (.c (.int (.u64) 0)), none⟩, ⟨some 7, .mov (.c (.int (.i64) 0)), none⟩])
            (.seq
              (.seq
                (.ops
                  [⟨some 10, .mov (.t 2), none⟩,
                   ⟨some 11, .call 49 [.t 10], none⟩,
                   ⟨some 12, .un (.not) (.t 11), none⟩,
                   ⟨some 13, .mov (.t 12), none⟩,
                   ⟨some 14, .mov (.t 1), some (13, false)⟩,
                   ⟨some 15, .bin (.lss) (.other) (.t 14) (.c (.int (.i64) 0)), some (13, false)⟩,
                   ⟨some 16, .pick (.t 13) (.c (.bool true)) (.t 15), none⟩,
                   ⟨some 17, .mov (.t 16), none⟩,
                   ⟨some 18, .mov (.t 1), some (17, false)⟩,
                   ⟨some 19, .mov (.t 0), some (17, false)⟩,
                   ⟨some 20, .len (.sl) (.t 19), some (17, false)⟩,
                   ⟨some 21, .bin (.gtr) (.other) (.t 18) (.t 20), some (17, false)⟩,
                   ⟨some 22, .pick (.t 17) (.c (.bool true)) (.t 21), none⟩])
                (.cond
                  (.t 22)
                  (.seq
                    (.ops
                      [⟨some 6, .mov (.c (.int (.u64) 0)), none⟩, ⟨some 7, .mov (.c (.int (.i64) 2)), none⟩])
                    (.ret))
                  (.skip)))
              (.seq
                (.seq
                  (.ops
                    [⟨some 23, .mov (.t 0), none⟩,
                     ⟨some 24, .len (.sl) (.t 23), none⟩,
                     ⟨some 25, .mov (.t 1), none⟩,
                     ⟨some 26, .bin (.sub) (.other) (.t 24) (.t 25), none⟩,
                     ⟨some 27, .mov (.t 2), none⟩,
                     ⟨some 28, .bin (.lss) (.other) (.t 26) (.t 27), none⟩])
                  (.cond
                    (.t 28)
                    (.seq
                      (.ops
                        [⟨some 6, .mov (.c (.int (.u64) 0)), none⟩, ⟨some 7, .mov (.c (.int (.i64) 4)), none⟩])
                      (.ret))
                    (.skip)))
                (.seq
                  (.ops [⟨some 8, .mov (.c (.int (.u64) 0)), none⟩])
                  (.seq
                    (.seq
                      (.ops [⟨some 29, .mov (.t 1), none⟩, ⟨some 9, .mov (.t 29), none⟩])
                      (.block
                        0
                        (.loop
                          (.seq
                            (.seq
                              (.ops
                                [⟨some 30, .mov (.t 9), none⟩,
                                 ⟨some 31, .mov (.t 1), none⟩,
                                 ⟨some 32, .mov (.t 2), none⟩,
                                 ⟨some 33, .bin (.add) (.other) (.t 31) (.t 32), none⟩,
                                 ⟨some 34, .bin (.lss) (.other) (.t 30) (.t 33), none⟩])
                              (.cond (.t 34) (.skip) (.exit 0)))
                            (.seq
                              (.block
                                1
                                (.ops
                                  [⟨some 37, .mov (.t 8), none⟩,
                                   ⟨some 38, .bin (.mul) (.other) (.c (.int (.u64) 256)) (.t 37), none⟩,
                                   ⟨some 39, .mov (.t 0), none⟩,
                                   ⟨some 40, .mov (.t 9), none⟩,
                                   ⟨some 41, .idxAddrSl 1 (.t 39) (.t 40), none⟩,
                                   ⟨some 42, .load false 1 (.t 41), none⟩,
                                   ⟨some 43, .convInt (.u64) (.t 42), none⟩,
                                   ⟨some 44, .bin (.add) (.other) (.t 38) (.t 43), none⟩,
                                   ⟨some 8, .mov (.t 44), none⟩]))
                              (.ops
                                [⟨some 35, .mov (.t 9), none⟩,
                                 ⟨some 36, .bin (.add) (.other) (.t 35) (.c (.int (.i64) 1)), none⟩,
                                 ⟨some 9, .mov (.t 36), none⟩]))))))
                    (.seq
                      (.ops
                        [⟨some 45, .mov (.t 8), none⟩,
                         ⟨some 6, .mov (.t 45), none⟩,
                         ⟨some 7, .mov (.c (.int (.i64) 0)), none⟩])
                      (.ret))))))⟩
theorem c51 : cFunc Try.prog Try.f51 = some sf51 := by kernel_rfl

/-- slices.ContainsFunc[[]byte,byte] -/
def sf52 : SFunc := ⟨9,
  [.tmp 4],
  .seq
            (.ops [⟨some 4, .mov (.c (.bool false)), none⟩])
            (.seq
              (.ops
                [⟨some 5, .mov (.t 0), none⟩,
                 ⟨some 6, .mov (.t 1), none⟩,
                 ⟨some 7, .call 57 [.t 5, .t 6], none⟩,
                 ⟨some 8, .bin (.geq) (.other) (.t 7) (.c (.int (.i64) 0)), none⟩,
                 ⟨some 4, .mov (.t 8), none⟩])
              (.ret))⟩
theorem c52 : cFunc Try.prog Try.f52 = some sf52 := by kernel_rfl

/-- wharfage/num.Zero$1 -/
def sf53 : SFunc := ⟨5,
  [.tmp 2],
  .seq
            (.ops [⟨some 2, .mov (.c (.bool false)), none⟩])
            (.seq
              (.ops
                [⟨some 3, .mov (.t 0), none⟩,
                 ⟨some 4, .bin (.gtr) (.other) (.t 3) (.c (.int (.u8) 0)), none⟩,
                 ⟨some 2, .mov (.t 4), none⟩])
              (.ret))⟩
theorem c53 : cFunc Try.prog Try.f53 = some sf53 := by kernel_rfl

/-- wharfage/num.sized -/
def sf54 : SFunc := ⟨16,
  [.tmp 2],
  .seq
            (.ops [⟨some 2, .mov (.c (.bool false)), none⟩])
            (.seq
              (.ops
                [⟨some 3, .mov (.t 0), none⟩,
                 ⟨some 4, .bin (.geq) (.other) (.t 3) (.c (.int (.i64) 1)), none⟩,
                 ⟨some 5, .mov (.t 4), none⟩,
                 ⟨some 6, .mov (.t 0), some (5, true)⟩,
                 ⟨some 7, .bin (.leq) (.other) (.t 6) (.c (.int (.i64) 8)), some (5, true)⟩,
                 ⟨some 8, .pick (.t 5) (.t 7) (.c (.bool false)), none⟩,
                 ⟨some 9, .mov (.t 8), none⟩,
                 ⟨some 10, .mov (.t 0), some (9, true)⟩,
                 ⟨some 11, .mov (.t 0), some (9, true)⟩,
                 ⟨some 12, .bin (.sub) (.other) (.t 11) (.c (.int (.i64) 1)), some (9, true)⟩,
                 ⟨some 13, .bin (.and) (.other) (.t 10) (.t 12), some (9, true)⟩,
                 ⟨some 14, .bin (.eql) (.other) (.t 13) (.c (.int (.i64) 0)), some (9, true)⟩,
                 ⟨some 15, .pick (.t 9) (.t 14) (.c (.bool false)), none⟩,
                 ⟨some 2, .mov (.t 15), none⟩])
              (.ret))⟩
theorem c54 : cFunc Try.prog Try.f54 = some sf54 := by kernel_rfl

/-- math/bits.Len64 -/
def sf55 : SFunc := ⟨25,
  [.tmp 2],
  .seq
            (.ops [⟨some 2, .mov (.c (.int (.i64) 0)), none⟩])
            (.seq
              (.seq
                (.ops
                  [⟨some 3, .mov (.t 0), none⟩,
                   ⟨some 4, .bin (.geq) (.other) (.t 3) (.c (.int (.u64) 4294967296)), none⟩])
                (.cond
                  (.t 4)
                  (.seq
                    (.ops
                      [⟨some 5, .mov (.t 0), none⟩,
                       ⟨some 6, .bin (.shr) (.other) (.t 5) (.c (.int (.u64) 32)), none⟩,
                       ⟨some 0, .mov (.t 6), none⟩])
                    (.ops [⟨some 2, .mov (.c (.int (.i64) 32)), none⟩]))
                  (.skip)))
              (.seq
                (.seq
                  (.ops
                    [⟨some 7, .mov (.t 0), none⟩,
                     ⟨some 8, .bin (.geq) (.other) (.t 7) (.c (.int (.u64) 65536)), none⟩])
                  (.cond
                    (.t 8)
                    (.seq
                      (.ops
                        [⟨some 9, .mov (.t 0), none⟩,
                         ⟨some 10, .bin (.shr) (.other) (.t 9) (.c (.int (.u64) 16)), none⟩,
                         ⟨some 0, .mov (.t 10), none⟩])
                      (.ops
                        [⟨some 11, .mov (.t 2), none⟩,
                         ⟨some 12, .bin (.add) (.other) (.t 11) (.c (.int (.i64) 16)), none⟩,
                         ⟨some 2, .mov (.t 12), none⟩]))
                    (.skip)))
                (.seq
                  (.seq
                    (.ops
                      [⟨some 13, .mov (.t 0), none⟩,
                       ⟨some 14, .bin (.geq) (.other) (.t 13) (.c (.int (.u64) 256)), none⟩])
                    (.cond
                      (.t 14)
                      (.seq
                        (.ops
                          [⟨some 15, .mov (.t 0), none⟩,
                           ⟨some 16, .bin (.shr) (.other) (.t 15) (.c (.int (.u64) 8)), none⟩,
                           ⟨some 0, .mov (.t 16), none⟩])
                        (.ops
                          [⟨some 17, .mov (.t 2), none⟩,
                           ⟨some 18, .bin (.add) (.other) (.t 17) (.c (.int (.i64) 8)), none⟩,
                           ⟨some 2, .mov (.t 18), none⟩]))
                      (.skip)))
                  (.seq
                    (.ops
                      [⟨some 19, .mov (.t 2), none⟩,
                       ⟨some 20, .mov (.t 0), none⟩,
                       ⟨some 21, .convInt (.u8) (.t 20), none⟩,
                       ⟨some 22,
                         .idxStr
                                 (.c
                                   (.str
                                     [0, 1, 2, 2, 3, 3, 3, 3, 4, 4, 4, 4, 4, 4, 4, 4, 5, 5, 5, 5, 5, 5, 5, 5, 5, 5, 5, 5, 5, 5, 5, 5, 6, 6, 6, 6, 6, 6, 6, 6, 6, 6, 6, 6, 6, 6, 6, 6, 6, 6, 6, 6, 6, 6, 6, 6, 6, 6, 6, 6, 6, 6, 6, 6, 7, 7, 7,
                                      7, 7, 7, 7, 7, 7, 7, 7, 7, 7, 7, 7, 7, 7, 7, 7, 7, 7, 7, 7, 7, 7, 7, 7, 7, 7, 7, 7, 7, 7, 7, 7, 7, 7, 7, 7, 7, 7, 7, 7, 7, 7, 7, 7, 7, 7, 7, 7, 7, 7, 7, 7, 7, 7, 7, 7, 7, 7, 7, 7, 7, 8, 8, 8, 8, 8, 8,
                                      8, 8, 8, 8, 8, 8, 8, 8, 8, 8, 8, 8, 8, 8, 8, 8, 8, 8, 8, 8, 8, 8, 8, 8, 8, 8, 8, 8, 8, 8, 8, 8, 8, 8, 8, 8, 8, 8, 8, 8, 8, 8, 8, 8, 8, 8, 8, 8, 8, 8, 8, 8, 8, 8, 8, 8, 8, 8, 8, 8, 8, 8, 8, 8, 8, 8, 8,
                                      8, 8, 8, 8, 8, 8, 8, 8, 8, 8, 8, 8, 8, 8, 8, 8, 8, 8, 8, 8, 8, 8, 8, 8, 8, 8, 8, 8, 8, 8, 8, 8, 8, 8, 8, 8, 8, 8, 8, 8, 8, 8, 8, 8, 8, 8, 8, 8, 8, 8, 8, 8, 8, 8, 8]))
                                 (.t 21),
                         none⟩,
                       ⟨some 23, .convInt (.i64) (.t 22), none⟩,
                       ⟨some 24, .bin (.add) (.other) (.t 19) (.t 23), none⟩,
                       ⟨some 2, .mov (.t 24), none⟩])
                    (.ret)))))⟩
theorem c55 : cFunc Try.prog Try.f55 = some sf55 := by kernel_rfl

/-- slices.Backward[[]byte,byte] -/
def sf56 : SFunc := ⟨4,
  [.tmp 2],
  .seq
            (.ops [⟨some 1, .box (.t 0), none⟩, ⟨some 2, .mov (.c (.nilf)), none⟩])
            (.seq (.ops [⟨some 3, .mkFunc 58 [] [.t 1], none⟩, ⟨some 2, .mov (.t 3), none⟩]) (.ret))⟩
theorem c56 : cFunc Try.prog Try.f56 = some sf56 := by kernel_rfl

/-- slices.IndexFunc[[]byte,byte] -/
def sf57 : SFunc := ⟨19,
  [.tmp 4],
  .seq
            (.ops [⟨some 4, .mov (.c (.int (.i64) 0)), none⟩])
            (.seq
              (.seq
                (.ops
                  [⟨some 6, .mov (.t 0), none⟩,
                   ⟨some 7, .len (.sl) (.t 6), none⟩,
                   ⟨some 8, .mov (.c (.int (.i64) 0)), none⟩])
                (.block
                  0
                  (.loop
                    (.seq
                      (.ops [⟨some 9, .bin (.lss) (.other) (.t 8) (.t 7), none⟩])
                      (.seq
                        (.cond (.t 9) (.skip) (.exit 0))
                        (.seq
                          (.block
                            1
                            (.seq
                              (.ops [⟨some 10, .mov (.t 8), none⟩, ⟨some 5, .mov (.t 10), none⟩])
                              (.seq
                                (.ops
                                  [⟨some 11, .mov (.t 1), none⟩,
                                   ⟨some 12, .mov (.t 0), none⟩,
                                   ⟨some 13, .mov (.t 5), none⟩,
                                   ⟨some 14, .idxAddrSl 1 (.t 12) (.t 13), none⟩,
                                   ⟨some 15, .load false 1 (.t 14), none⟩,
                                   ⟨some 16, .callV (.t 11) [.t 15], none⟩])
                                (.cond
                                  (.t 16)
                                  (.seq (.ops [⟨some 17, .mov (.t 5), none⟩, ⟨some 4, .mov (.t 17), none⟩]) (.ret))
                                  (.skip)))))
                          (.ops
                            [⟨some 18, .bin (.add) (.other) (.t 8) (.c (.int (.i64) 1)), none⟩,
                             ⟨some 8, .mov (.t 18), none⟩])))))))
              (.seq (.ops [⟨some 4, .mov (.c (.int (.i64) (-1))), none⟩]) (.ret)))⟩
theorem c57 : cFunc Try.prog Try.f57 = some sf57 := by kernel_rfl

/-- slices.Backward[[]byte,byte]$1 -/
def sf58 : SFunc := ⟨19,
  [],
  .seq
            (.ops
              [⟨some 4, .load false 1 (.t 1), none⟩,
               ⟨some 5, .len (.sl) (.t 4), none⟩,
               ⟨some 6, .bin (.sub) (.other) (.t 5) (.c (.int (.i64) 1)), none⟩,
               ⟨some 3, .mov (.t 6), none⟩])
            (.block
              0
              (.loop
                (.seq
                  (.seq
                    (.ops
                      [⟨some 7, .mov (.t 3), none⟩,
                       ⟨some 8, .bin (.geq) (.other) (.t 7) (.c (.int (.i64) 0)), none⟩])
                    (.cond (.t 8) (.skip) (.exit 0)))
                  (.seq
                    (.block
                      1
                      (.seq
                        (.ops
                          [⟨some 11, .mov (.t 0), none⟩,
                           ⟨some 12, .mov (.t 3), none⟩,
                           ⟨some 13, .load false 1 (.t 1), none⟩,
                           ⟨some 14, .mov (.t 3), none⟩,
                           ⟨some 15, .idxAddrSl 1 (.t 13) (.t 14), none⟩,
                           ⟨some 16, .load false 1 (.t 15), none⟩,
                           ⟨some 17, .callV (.t 11) [.t 12, .t 16], none⟩,
                           ⟨some 18, .un (.not) (.t 17), none⟩])
                        (.cond (.t 18) (.ret) (.skip))))
                    (.ops
                      [⟨some 9, .mov (.t 3), none⟩,
                       ⟨some 10, .bin (.sub) (.other) (.t 9) (.c (.int (.i64) 1)), none⟩,
                       ⟨some 3, .mov (.t 10), none⟩])))))⟩
theorem c58 : cFunc Try.prog Try.f58 = some sf58 := by kernel_rfl

def tab : FuncId → Option SFunc
  | 2 => some sf2
  | 3 => some sf3
  | 4 => some sf4
  | 5 => some sf5
  | 6 => some sf6
  | 7 => some sf7
  | 8 => some sf8
  | 9 => some sf9
  | 10 => some sf10
  | 11 => some sf11
  | 12 => some sf12
  | 13 => some sf13
  | 14 => some sf14
  | 15 => some sf15
  | 16 => some sf16
  | 17 => some sf17
  | 18 => some sf18
  | 19 => some sf19
  | 20 => some sf20
  | 21 => some sf21
  | 22 => some sf22
  | 23 => some sf23
  | 24 => some sf24
  | 25 => some sf25
  | 26 => some sf26
  | 27 => some sf27
  | 28 => some sf28
  | 29 => some sf29
  | 30 => some sf30
  | 31 => some sf31
  | 32 => some sf32
  | 33 => some sf33
  | 34 => some sf34
  | 35 => some sf35
  | 36 => some sf36
  | 37 => some sf37
  | 38 => some sf38
  | 39 => some sf39
  | 40 => some sf40
  | 41 => some sf41
  | 42 => some sf42
  | 43 => some sf43
  | 44 => some sf44
  | 45 => some sf45
  | 46 => some sf46
  | 47 => some sf47
  | 48 => some sf48
  | 49 => some sf49
  | 50 => some sf50
  | 51 => some sf51
  | 52 => some sf52
  | 53 => some sf53
  | 54 => some sf54
  | 55 => some sf55
  | 56 => some sf56
  | 57 => some sf57
  | 58 => some sf58
  | _ => none
theorem conv : Conv Try.prog tab := by
  intro f sf h
  unfold tab at h
  split at h
  · cases h; exact ⟨Try.f2, Try.func2, c2⟩
  · cases h; exact ⟨Try.f3, Try.func3, c3⟩
  · cases h; exact ⟨Try.f4, Try.func4, c4⟩
  · cases h; exact ⟨Try.f5, Try.func5, c5⟩
  · cases h; exact ⟨Try.f6, Try.func6, c6⟩
  · cases h; exact ⟨Try.f7, Try.func7, c7⟩
  · cases h; exact ⟨Try.f8, Try.func8, c8⟩
  · cases h; exact ⟨Try.f9, Try.func9, c9⟩
  · cases h; exact ⟨Try.f10, Try.func10, c10⟩
  · cases h; exact ⟨Try.f11, Try.func11, c11⟩
  · cases h; exact ⟨Try.f12, Try.func12, c12⟩
  · cases h; exact ⟨Try.f13, Try.func13, c13⟩
  · cases h; exact ⟨Try.f14, Try.func14, c14⟩
  · cases h; exact ⟨Try.f15, Try.func15, c15⟩
  · cases h; exact ⟨Try.f16, Try.func16, c16⟩
  · cases h; exact ⟨Try.f17, Try.func17, c17⟩
  · cases h; exact ⟨Try.f18, Try.func18, c18⟩
  · cases h; exact ⟨Try.f19, Try.func19, c19⟩
  · cases h; exact ⟨Try.f20, Try.func20, c20⟩
  · cases h; exact ⟨Try.f21, Try.func21, c21⟩
  · cases h; exact ⟨Try.f22, Try.func22, c22⟩
  · cases h; exact ⟨Try.f23, Try.func23, c23⟩
  · cases h; exact ⟨Try.f24, Try.func24, c24⟩
  · cases h; exact ⟨Try.f25, Try.func25, c25⟩
  · cases h; exact ⟨Try.f26, Try.func26, c26⟩
  · cases h; exact ⟨Try.f27, Try.func27, c27⟩
  · cases h; exact ⟨Try.f28, Try.func28, c28⟩
  · cases h; exact ⟨Try.f29, Try.func29, c29⟩
  · cases h; exact ⟨Try.f30, Try.func30, c30⟩
  · cases h; exact ⟨Try.f31, Try.func31, c31⟩
  · cases h; exact ⟨Try.f32, Try.func32, c32⟩
  · cases h; exact ⟨Try.f33, Try.func33, c33⟩
  · cases h; exact ⟨Try.f34, Try.func34, c34⟩
  · cases h; exact ⟨Try.f35, Try.func35, c35⟩
  · cases h; exact ⟨Try.f36, Try.func36, c36⟩
  · cases h; exact ⟨Try.f37, Try.func37, c37⟩
  · cases h; exact ⟨Try.f38, Try.func38, c38⟩
  · cases h; exact ⟨Try.f39, Try.func39, c39⟩
  · cases h; exact ⟨Try.f40, Try.func40, c40⟩
  · cases h; exact ⟨Try.f41, Try.func41, c41⟩
  · cases h; exact ⟨Try.f42, Try.func42, c42⟩
  · cases h; exact ⟨Try.f43, Try.func43, c43⟩
  · cases h; exact ⟨Try.f44, Try.func44, c44⟩
  · cases h; exact ⟨Try.f45, Try.func45, c45⟩
  · cases h; exact ⟨Try.f46, Try.func46, c46⟩
  · cases h; exact ⟨Try.f47, Try.func47, c47⟩
  · cases h; exact ⟨Try.f48, Try.func48, c48⟩
  · cases h; exact ⟨Try.f49, Try.func49, c49⟩
  · cases h; exact ⟨Try.f50, Try.func50, c50⟩
  · cases h; exact ⟨Try.f51, Try.func51, c51⟩
  · cases h; exact ⟨Try.f52, Try.func52, c52⟩
  · cases h; exact ⟨Try.f53, Try.func53, c53⟩
  · cases h; exact ⟨Try.f54, Try.func54, c54⟩
  · cases h; exact ⟨Try.f55, Try.func55, c55⟩
  · cases h; exact ⟨Try.f56, Try.func56, c56⟩
  · cases h; exact ⟨Try.f57, Try.func57, c57⟩
  · cases h; exact ⟨Try.f58, Try.func58, c58⟩
  · cases h
theorem mixed : Try.prog.follows .mixedOrders = true := Try.checked.mixed
theorem laid : laidOutB Try.prog = true := by kernel_rfl
end Go.Proofs.Ytndcokalnpnbgaa.Ya
