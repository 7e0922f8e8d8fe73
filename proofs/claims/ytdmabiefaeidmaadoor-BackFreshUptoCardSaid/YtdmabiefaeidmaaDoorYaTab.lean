/-
  The functions that the laws reach, as the abstract machine has them (printed by wip/gen/Gen.lean).
-/
import Derived.Test.YtdmabiefaeidmaaDoorChecked
import Derived.KernelRfl
import Derived.Test.YtdmabiefaeidmaaDoorYbG
import Derived.Test.YtdmabiefaeidmaaDoorYbL
namespace Go.Proofs.YtdmabiefaeidmaaDoor.Ya
open Go.Ya
set_option maxRecDepth 100000
set_option linter.unusedVariables false

/-- wharfage/wharfagelaw11.BackFresh -/
def sf3 : SFunc := ⟨57,
  [.tmp 4],
  .seq
            (.ops [⟨some 4, .mov (.c (.bool false)), none⟩])
            (.seq
              (.ops
                [⟨some 13, .mov (.t 0), none⟩,
                 ⟨some 14, .call 6 [.t 13], none⟩,
                 ⟨some 12, .mov (.t 14), none⟩,
                 ⟨some 15, .extract (.t 12) 0, none⟩,
                 ⟨some 16, .extract (.t 12) 1, none⟩,
                 ⟨some 5,
                   .box
                           (.c
                             (.agg
                               [.int (.u8) 0,
                                .int (.u32) 0,
                                .int (.u64) 0,
                                .int (.u8) 0,
                                .int (.u32) 0,
                                .int (.u32) 0,
                                .bool false,
                                .int (.u32) 0,
                                .int (.u64) 0,
                                .int (.u64) 0,
                                .nilsl,
                                .nilsl,
                                .int (.u32) 0])),
                   none⟩,
                 ⟨none, .store 13 (.t 5) (.t 15), none⟩,
                 ⟨some 6, .mov (.t 16), none⟩])
              (.seq
                (.ops
                  [⟨some 18, .mov (.t 0), none⟩,
                   ⟨some 19, .call 6 [.t 18], none⟩,
                   ⟨some 17, .mov (.t 19), none⟩,
                   ⟨some 20, .extract (.t 17) 0, none⟩,
                   ⟨some 21, .extract (.t 17) 1, none⟩,
                   ⟨some 7,
                     .box
                             (.c
                               (.agg
                                 [.int (.u8) 0,
                                  .int (.u32) 0,
                                  .int (.u64) 0,
                                  .int (.u8) 0,
                                  .int (.u32) 0,
                                  .int (.u32) 0,
                                  .bool false,
                                  .int (.u32) 0,
                                  .int (.u64) 0,
                                  .int (.u64) 0,
                                  .nilsl,
                                  .nilsl,
                                  .int (.u32) 0])),
                     none⟩,
                   ⟨none, .store 13 (.t 7) (.t 20), none⟩,
                   ⟨some 8, .mov (.t 21), none⟩])
                (.seq
                  (.seq
                    (.ops
                      [⟨some 22, .mov (.t 6), none⟩,
                       ⟨some 23, .mov (.t 8), none⟩,
                       ⟨some 24, .bin (.neq) (.other) (.t 22) (.t 23), none⟩])
                    (.cond (.t 24) (.seq (.ops [⟨some 4, .mov (.c (.bool false)), none⟩]) (.ret)) (.skip)))
                  (.seq
                    (.ops
                      [⟨some 25, .fieldAddr 10 (.t 5), none⟩,
                       ⟨some 26, .load false 1 (.t 25), none⟩,
                       ⟨some 27, .mov (.t 1), none⟩,
                       ⟨some 28, .bin (.or) (.other) (.t 27) (.c (.int (.u8) 1)), none⟩,
                       ⟨some 29, .call 7 [.t 26, .t 28], none⟩])
                    (.seq
                      (.seq
                        (.ops [⟨some 9, .mov (.c (.int (.i64) 0)), none⟩])
                        (.block
                          0
                          (.loop
                            (.seq
                              (.seq
                                (.ops
                                  [⟨some 30, .mov (.t 9), none⟩,
                                   ⟨some 31, .fieldAddr 11 (.t 5), none⟩,
                                   ⟨some 32, .load false 1 (.t 31), none⟩,
                                   ⟨some 33, .len (.sl) (.t 32), none⟩,
                                   ⟨some 34, .bin (.lss) (.other) (.t 30) (.t 33), none⟩])
                                (.cond (.t 34) (.skip) (.exit 0)))
                              (.seq
                                (.block
                                  1
                                  (.ops
                                    [⟨some 37, .fieldAddr 11 (.t 5), none⟩,
                                     ⟨some 38, .load false 1 (.t 37), none⟩,
                                     ⟨some 39, .mov (.t 9), none⟩,
                                     ⟨some 40, .idxAddrSl 1 (.t 38) (.t 39), none⟩,
                                     ⟨none, .store 1 (.t 40) (.c (.str [122])), none⟩]))
                                (.ops
                                  [⟨some 35, .mov (.t 9), none⟩,
                                   ⟨some 36, .bin (.add) (.other) (.t 35) (.c (.int (.i64) 1)), none⟩,
                                   ⟨some 9, .mov (.t 36), none⟩]))))))
                      (.seq
                        (.ops
                          [⟨some 42, .mov (.t 0), none⟩,
                           ⟨some 43, .call 6 [.t 42], none⟩,
                           ⟨some 41, .mov (.t 43), none⟩,
                           ⟨some 44, .extract (.t 41) 0, none⟩,
                           ⟨some 45, .extract (.t 41) 1, none⟩,
                           ⟨some 10,
                             .box
                                     (.c
                                       (.agg
                                         [.int (.u8) 0,
                                          .int (.u32) 0,
                                          .int (.u64) 0,
                                          .int (.u8) 0,
                                          .int (.u32) 0,
                                          .int (.u32) 0,
                                          .bool false,
                                          .int (.u32) 0,
                                          .int (.u64) 0,
                                          .int (.u64) 0,
                                          .nilsl,
                                          .nilsl,
                                          .int (.u32) 0])),
                             none⟩,
                           ⟨none, .store 13 (.t 10) (.t 44), none⟩,
                           ⟨some 11, .mov (.t 45), none⟩])
                        (.seq
                          (.ops
                            [⟨some 46, .mov (.t 11), none⟩,
                             ⟨some 47, .mov (.t 6), none⟩,
                             ⟨some 48, .bin (.eql) (.other) (.t 46) (.t 47), none⟩,
                             ⟨some 49, .mov (.t 48), none⟩,
                             ⟨some 50, .load true 13 (.t 7), some (49, true)⟩,
                             ⟨some 51, .load true 13 (.t 10), some (49, true)⟩,
                             ⟨some 52, .call 8 [.t 50, .t 51], some (49, true)⟩,
                             ⟨some 53, .pick (.t 49) (.t 52) (.c (.bool false)), none⟩,
                             ⟨some 54, .mov (.t 53), none⟩,
                             ⟨some 55, .call 9 [], some (54, true)⟩,
                             ⟨some 56, .pick (.t 54) (.t 55) (.c (.bool false)), none⟩,
                             ⟨some 4, .mov (.t 56), none⟩])
                          (.ret))))))))⟩
theorem c3 : cFunc Tryd.prog Tryd.f3 = some sf3 := by kernel_rfl

/-- wharfage/wharfagelaw11.BackTells -/
def sf4 : SFunc := ⟨130,
  [.tmp 8],
  .seq
            (.ops
              [⟨some 4, .box (.t 0), none⟩,
               ⟨some 5, .box (.t 1), none⟩,
               ⟨some 8, .mov (.c (.bool false)), none⟩])
            (.seq
              (.seq
                (.ops
                  [⟨some 19, .fieldAddr 11 (.t 4), none⟩,
                   ⟨some 20, .load false 1 (.t 19), none⟩,
                   ⟨some 21, .len (.sl) (.t 20), none⟩,
                   ⟨some 22, .bin (.gtr) (.other) (.t 21) (.c (.int (.i64) 100)), none⟩,
                   ⟨some 23, .mov (.t 22), none⟩,
                   ⟨some 24, .fieldAddr 11 (.t 5), some (23, false)⟩,
                   ⟨some 25, .load false 1 (.t 24), some (23, false)⟩,
                   ⟨some 26, .len (.sl) (.t 25), some (23, false)⟩,
                   ⟨some 27, .bin (.gtr) (.other) (.t 26) (.c (.int (.i64) 100)), some (23, false)⟩,
                   ⟨some 28, .pick (.t 23) (.c (.bool true)) (.t 27), none⟩])
                (.cond
                  (.t 28)
                  (.seq (.ops [⟨some 29, .call 9 [], none⟩, ⟨some 8, .mov (.t 29), none⟩]) (.ret))
                  (.skip)))
              (.seq
                (.ops
                  [⟨some 30, .load true 13 (.t 4), none⟩,
                   ⟨some 9,
                     .box
                             (.c
                               (.agg
                                 [.int (.u8) 0,
                                  .int (.u32) 0,
                                  .int (.u64) 0,
                                  .int (.u8) 0,
                                  .int (.u32) 0,
                                  .int (.u32) 0,
                                  .bool false,
                                  .int (.u32) 0,
                                  .int (.u64) 0,
                                  .int (.u64) 0,
                                  .nilsl,
                                  .nilsl,
                                  .int (.u32) 0])),
                     none⟩,
                   ⟨none, .store 13 (.t 9) (.t 30), none⟩])
                (.seq
                  (.ops
                    [⟨some 31, .fieldAddr 10 (.t 4), none⟩,
                     ⟨some 32, .load false 1 (.t 31), none⟩,
                     ⟨some 33, .call 10 [.t 32], none⟩,
                     ⟨some 34, .fieldAddr 10 (.t 9), none⟩,
                     ⟨none, .store 1 (.t 34) (.t 33), none⟩])
                  (.seq
                    (.ops
                      [⟨some 35, .buildSlice [] 0 1 [], none⟩,
                       ⟨some 36, .fieldAddr 11 (.t 4), none⟩,
                       ⟨some 37, .load false 1 (.t 36), none⟩,
                       ⟨some 38, .append 1 16 (.t 35) (.t 37), none⟩,
                       ⟨some 39, .fieldAddr 11 (.t 9), none⟩,
                       ⟨none, .store 1 (.t 39) (.t 38), none⟩])
                    (.seq
                      (.ops
                        [⟨some 40, .mov (.t 2), none⟩,
                         ⟨some 41, .call 10 [.t 40], none⟩,
                         ⟨some 10, .mov (.t 41), none⟩])
                      (.seq
                        (.ops
                          [⟨some 43, .load true 13 (.t 9), none⟩,
                           ⟨some 44, .call 11 [.t 43], none⟩,
                           ⟨some 42, .mov (.t 44), none⟩,
                           ⟨some 45, .extract (.t 42) 0, none⟩,
                           ⟨some 46, .extract (.t 42) 1, none⟩,
                           ⟨some 11, .mov (.t 45), none⟩,
                           ⟨some 12, .mov (.t 46), none⟩])
                        (.seq
                          (.ops
                            [⟨some 48, .load true 13 (.t 4), none⟩,
                             ⟨some 49, .call 12 [.t 48], none⟩,
                             ⟨some 47, .mov (.t 49), none⟩,
                             ⟨some 50, .extract (.t 47) 0, none⟩,
                             ⟨some 51, .extract (.t 47) 1, none⟩,
                             ⟨some 13, .mov (.t 50), none⟩,
                             ⟨some 14, .mov (.t 51), none⟩])
                          (.seq
                            (.ops
                              [⟨some 53, .mov (.t 10), none⟩,
                               ⟨some 54, .call 6 [.t 53], none⟩,
                               ⟨some 52, .mov (.t 54), none⟩,
                               ⟨some 55, .extract (.t 52) 0, none⟩,
                               ⟨some 56, .extract (.t 52) 1, none⟩,
                               ⟨some 15,
                                 .box
                                         (.c
                                           (.agg
                                             [.int (.u8) 0,
                                              .int (.u32) 0,
                                              .int (.u64) 0,
                                              .int (.u8) 0,
                                              .int (.u32) 0,
                                              .int (.u32) 0,
                                              .bool false,
                                              .int (.u32) 0,
                                              .int (.u64) 0,
                                              .int (.u64) 0,
                                              .nilsl,
                                              .nilsl,
                                              .int (.u32) 0])),
                                 none⟩,
                               ⟨none, .store 13 (.t 15) (.t 55), none⟩,
                               ⟨some 16, .mov (.t 56), none⟩])
                            (.seq
                              (.ops
                                [⟨some 58, .mov (.t 2), none⟩,
                                 ⟨some 59, .call 13 [.t 58], none⟩,
                                 ⟨some 57, .mov (.t 59), none⟩,
                                 ⟨some 60, .extract (.t 57) 0, none⟩,
                                 ⟨some 61, .extract (.t 57) 1, none⟩,
                                 ⟨some 17,
                                   .box
                                           (.c
                                             (.agg
                                               [.int (.u8) 0,
                                                .int (.u32) 0,
                                                .int (.u64) 0,
                                                .int (.u8) 0,
                                                .int (.u32) 0,
                                                .int (.u32) 0,
                                                .bool false,
                                                .int (.u32) 0,
                                                .int (.u64) 0,
                                                .int (.u64) 0,
                                                .nilsl,
                                                .nilsl,
                                                .int (.u32) 0])),
                                   none⟩,
                                 ⟨none, .store 13 (.t 17) (.t 60), none⟩,
                                 ⟨some 18, .mov (.t 61), none⟩])
                              (.seq
                                (.seq
                                  (.drawOps
                                    [⟨some 62, .load true 13 (.t 9), none⟩,
                                     ⟨some 63, .call 14 [.t 62], none⟩,
                                     ⟨some 64, .load true 13 (.t 4), none⟩,
                                     ⟨some 65, .call 15 [.t 64], none⟩,
                                     ⟨some 66, .bin (.neq) (.bool) (.t 63) (.t 65), none⟩,
                                     ⟨some 67, .mov (.t 66), none⟩,
                                     ⟨some 68, .mov (.t 11), some (67, false)⟩,
                                     ⟨some 69, .mov (.t 13), some (67, false)⟩,
                                     ⟨some 70, .call 16 [.t 68, .t 69], some (67, false)⟩,
                                     ⟨some 71, .un (.not) (.t 70), some (67, false)⟩,
                                     ⟨some 72, .pick (.t 67) (.c (.bool true)) (.t 71), none⟩,
                                     ⟨some 73, .mov (.t 72), none⟩,
                                     ⟨some 74, .mov (.t 12), some (73, false)⟩,
                                     ⟨some 75, .mov (.t 14), some (73, false)⟩,
                                     ⟨some 76, .bin (.neq) (.other) (.t 74) (.t 75), some (73, false)⟩,
                                     ⟨some 77, .pick (.t 73) (.c (.bool true)) (.t 76), none⟩,
                                     ⟨some 78, .mov (.t 77), none⟩,
                                     ⟨some 79, .load true 13 (.t 15), some (78, false)⟩,
                                     ⟨some 80, .load true 13 (.t 17), some (78, false)⟩,
                                     ⟨some 81, .call 8 [.t 79, .t 80], some (78, false)⟩,
                                     ⟨some 82, .un (.not) (.t 81), some (78, false)⟩,
                                     ⟨some 83, .pick (.t 78) (.c (.bool true)) (.t 82), none⟩,
                                     ⟨some 84, .mov (.t 83), none⟩,
                                     ⟨some 85, .mov (.t 16), some (84, false)⟩,
                                     ⟨some 86, .mov (.t 18), some (84, false)⟩,
                                     ⟨some 87, .bin (.neq) (.other) (.t 85) (.t 86), some (84, false)⟩,
                                     ⟨some 88, .pick (.t 84) (.c (.bool true)) (.t 87), none⟩]
                                    [(2, 1)])
                                  (.cond (.t 88) (.seq (.ops [⟨some 8, .mov (.c (.bool false)), none⟩]) (.ret)) (.skip)))
                                (.seq
                                  (.drawOps
                                    [⟨some 89, .load true 13 (.t 4), none⟩,
                                     ⟨some 90, .load true 13 (.t 5), none⟩,
                                     ⟨some 91, .call 17 [.t 89, .t 90], none⟩,
                                     ⟨some 92, .load true 13 (.t 4), none⟩,
                                     ⟨some 93, .load true 13 (.t 5), none⟩,
                                     ⟨some 94, .call 8 [.t 92, .t 93], none⟩,
                                     ⟨some 95, .bin (.eql) (.bool) (.t 91) (.t 94), none⟩,
                                     ⟨some 96, .mov (.t 95), none⟩,
                                     ⟨some 97, .load true 13 (.t 4), some (96, true)⟩,
                                     ⟨some 98, .load true 13 (.t 9), some (96, true)⟩,
                                     ⟨some 99, .call 17 [.t 97, .t 98], some (96, true)⟩,
                                     ⟨some 100, .pick (.t 96) (.t 99) (.c (.bool false)), none⟩,
                                     ⟨some 101, .mov (.t 100), none⟩,
                                     ⟨some 102, .mov (.t 3), some (101, true)⟩,
                                     ⟨some 103, .call 18 [.t 102], some (101, true)⟩,
                                     ⟨some 104, .mov (.t 3), some (101, true)⟩,
                                     ⟨some 105, .call 19 [.t 104], some (101, true)⟩,
                                     ⟨some 106, .bin (.eql) (.other) (.t 103) (.t 105), some (101, true)⟩,
                                     ⟨some 107, .pick (.t 101) (.t 106) (.c (.bool false)), none⟩,
                                     ⟨some 108, .mov (.t 107), none⟩,
                                     ⟨some 109, .fieldAddr 10 (.t 9), some (108, true)⟩,
                                     ⟨some 110, .load false 1 (.t 109), some (108, true)⟩,
                                     ⟨some 111, .fieldAddr 10 (.t 4), some (108, true)⟩,
                                     ⟨some 112, .load false 1 (.t 111), some (108, true)⟩,
                                     ⟨some 113, .call 20 [.t 110, .t 112], some (108, true)⟩,
                                     ⟨some 114, .pick (.t 108) (.t 113) (.c (.bool false)), none⟩,
                                     ⟨some 115, .mov (.t 114), none⟩,
                                     ⟨some 116, .fieldAddr 11 (.t 9), some (115, true)⟩,
                                     ⟨some 117, .load false 1 (.t 116), some (115, true)⟩,
                                     ⟨some 118, .fieldAddr 11 (.t 4), some (115, true)⟩,
                                     ⟨some 119, .load false 1 (.t 118), some (115, true)⟩,
                                     ⟨some 120, .call 21 [.t 117, .t 119], some (115, true)⟩,
                                     ⟨some 121, .pick (.t 115) (.t 120) (.c (.bool false)), none⟩,
                                     ⟨some 122, .mov (.t 121), none⟩,
                                     ⟨some 123, .mov (.t 10), some (122, true)⟩,
                                     ⟨some 124, .mov (.t 2), some (122, true)⟩,
                                     ⟨some 125, .call 20 [.t 123, .t 124], some (122, true)⟩,
                                     ⟨some 126, .pick (.t 122) (.t 125) (.c (.bool false)), none⟩,
                                     ⟨some 127, .mov (.t 126), none⟩,
                                     ⟨some 128, .call 9 [], some (127, true)⟩,
                                     ⟨some 129, .pick (.t 127) (.t 128) (.c (.bool false)), none⟩,
                                     ⟨some 8, .mov (.t 129), none⟩]
                                    [(3, 2), (4, 2)])
                                  (.ret))))))))))))⟩
theorem c4 : cFunc Tryd.prog Tryd.f4 = some sf4 := by kernel_rfl

/-- wharfage/wharfagelaw11.BackBack -/
def sf5 : SFunc := ⟨122,
  [.tmp 8],
  .seq
            (.ops [⟨some 4, .box (.t 0), none⟩, ⟨some 8, .mov (.c (.bool false)), none⟩])
            (.seq
              (.seq
                (.ops
                  [⟨some 22, .fieldAddr 11 (.t 4), none⟩,
                   ⟨some 23, .load false 1 (.t 22), none⟩,
                   ⟨some 24, .len (.sl) (.t 23), none⟩,
                   ⟨some 25, .bin (.gtr) (.other) (.t 24) (.c (.int (.i64) 100)), none⟩])
                (.cond
                  (.t 25)
                  (.seq (.ops [⟨some 26, .call 9 [], none⟩, ⟨some 8, .mov (.t 26), none⟩]) (.ret))
                  (.skip)))
              (.seq
                (.ops
                  [⟨some 28, .load true 13 (.t 4), none⟩,
                   ⟨some 29, .call 11 [.t 28], none⟩,
                   ⟨some 27, .mov (.t 29), none⟩,
                   ⟨some 30, .extract (.t 27) 0, none⟩,
                   ⟨some 31, .extract (.t 27) 1, none⟩,
                   ⟨some 9, .mov (.t 30), none⟩,
                   ⟨some 10, .mov (.t 31), none⟩])
                (.seq
                  (.seq
                    (.ops
                      [⟨some 32, .mov (.t 10), none⟩,
                       ⟨some 33, .bin (.eql) (.other) (.t 32) (.c (.int (.i64) 0)), none⟩,
                       ⟨some 34, .load true 13 (.t 4), none⟩,
                       ⟨some 35, .call 14 [.t 34], none⟩,
                       ⟨some 36, .bin (.neq) (.bool) (.t 33) (.t 35), none⟩])
                    (.cond (.t 36) (.seq (.ops [⟨some 8, .mov (.c (.bool false)), none⟩]) (.ret)) (.skip)))
                  (.seq
                    (.seq
                      (.ops
                        [⟨some 37, .mov (.t 10), none⟩,
                         ⟨some 38, .bin (.eql) (.other) (.t 37) (.c (.int (.i64) 0)), none⟩])
                      (.cond
                        (.t 38)
                        (.seq
                          (.ops
                            [⟨some 40, .mov (.t 9), none⟩,
                             ⟨some 41, .call 6 [.t 40], none⟩,
                             ⟨some 39, .mov (.t 41), none⟩,
                             ⟨some 42, .extract (.t 39) 0, none⟩,
                             ⟨some 43, .extract (.t 39) 1, none⟩,
                             ⟨some 11,
                               .box
                                       (.c
                                         (.agg
                                           [.int (.u8) 0,
                                            .int (.u32) 0,
                                            .int (.u64) 0,
                                            .int (.u8) 0,
                                            .int (.u32) 0,
                                            .int (.u32) 0,
                                            .bool false,
                                            .int (.u32) 0,
                                            .int (.u64) 0,
                                            .int (.u64) 0,
                                            .nilsl,
                                            .nilsl,
                                            .int (.u32) 0])),
                               none⟩,
                             ⟨none, .store 13 (.t 11) (.t 42), none⟩,
                             ⟨some 12, .mov (.t 43), none⟩])
                          (.seq
                            (.seq
                              (.ops
                                [⟨some 44, .mov (.t 12), none⟩,
                                 ⟨some 45, .bin (.neq) (.other) (.t 44) (.c (.int (.i64) 0)), none⟩,
                                 ⟨some 46, .mov (.t 45), none⟩,
                                 ⟨some 47, .load true 13 (.t 11), some (46, false)⟩,
                                 ⟨some 48, .load true 13 (.t 4), some (46, false)⟩,
                                 ⟨some 49, .call 17 [.t 47, .t 48], some (46, false)⟩,
                                 ⟨some 50, .un (.not) (.t 49), some (46, false)⟩,
                                 ⟨some 51, .pick (.t 46) (.c (.bool true)) (.t 50), none⟩,
                                 ⟨some 52, .mov (.t 51), none⟩,
                                 ⟨some 53, .load true 13 (.t 11), some (52, false)⟩,
                                 ⟨some 54, .load true 13 (.t 4), some (52, false)⟩,
                                 ⟨some 55, .call 8 [.t 53, .t 54], some (52, false)⟩,
                                 ⟨some 56, .un (.not) (.t 55), some (52, false)⟩,
                                 ⟨some 57, .pick (.t 52) (.c (.bool true)) (.t 56), none⟩])
                              (.cond (.t 57) (.seq (.ops [⟨some 8, .mov (.c (.bool false)), none⟩]) (.ret)) (.skip)))
                            (.seq
                              (.seq
                                (.ops
                                  [⟨some 58, .mov (.t 3), none⟩,
                                   ⟨some 59, .bin (.geq) (.other) (.t 58) (.c (.int (.i64) 0)), none⟩,
                                   ⟨some 60, .mov (.t 59), none⟩,
                                   ⟨some 61, .mov (.t 3), some (60, true)⟩,
                                   ⟨some 62, .mov (.t 9), some (60, true)⟩,
                                   ⟨some 63, .len (.sl) (.t 62), some (60, true)⟩,
                                   ⟨some 64, .bin (.lss) (.other) (.t 61) (.t 63), some (60, true)⟩,
                                   ⟨some 65, .pick (.t 60) (.t 64) (.c (.bool false)), none⟩])
                                (.cond
                                  (.t 65)
                                  (.seq
                                    (.ops
                                      [⟨some 67, .mov (.t 9), none⟩,
                                       ⟨some 68, .mov (.t 3), none⟩,
                                       ⟨some 69, .slice 1 (.t 67) none (some (.t 68)) none, none⟩,
                                       ⟨some 70, .call 6 [.t 69], none⟩,
                                       ⟨some 66, .mov (.t 70), none⟩,
                                       ⟨some 71, .extract (.t 66) 0, none⟩,
                                       ⟨some 72, .extract (.t 66) 1, none⟩,
                                       ⟨some 13,
                                         .box
                                                 (.c
                                                   (.agg
                                                     [.int (.u8) 0,
                                                      .int (.u32) 0,
                                                      .int (.u64) 0,
                                                      .int (.u8) 0,
                                                      .int (.u32) 0,
                                                      .int (.u32) 0,
                                                      .bool false,
                                                      .int (.u32) 0,
                                                      .int (.u64) 0,
                                                      .int (.u64) 0,
                                                      .nilsl,
                                                      .nilsl,
                                                      .int (.u32) 0])),
                                         none⟩,
                                       ⟨none, .store 13 (.t 13) (.t 71), none⟩,
                                       ⟨some 14, .mov (.t 72), none⟩])
                                    (.seq
                                      (.ops
                                        [⟨some 73, .mov (.t 14), none⟩,
                                         ⟨some 74, .bin (.neq) (.other) (.t 73) (.c (.int (.i64) 4)), none⟩])
                                      (.cond (.t 74) (.seq (.ops [⟨some 8, .mov (.c (.bool false)), none⟩]) (.ret)) (.skip))))
                                  (.skip)))
                              (.seq
                                (.ops
                                  [⟨some 75, .mov (.t 9), none⟩,
                                   ⟨some 76, .call 22 [.t 75], none⟩,
                                   ⟨some 77, .mov (.t 2), none⟩,
                                   ⟨some 78, .append 1 1 (.t 76) (.t 77), none⟩,
                                   ⟨some 15, .mov (.t 78), none⟩])
                                (.seq
                                  (.ops
                                    [⟨some 80, .mov (.t 15), none⟩,
                                     ⟨some 81, .call 6 [.t 80], none⟩,
                                     ⟨some 79, .mov (.t 81), none⟩,
                                     ⟨some 82, .extract (.t 79) 0, none⟩,
                                     ⟨some 83, .extract (.t 79) 1, none⟩,
                                     ⟨some 16,
                                       .box
                                               (.c
                                                 (.agg
                                                   [.int (.u8) 0,
                                                    .int (.u32) 0,
                                                    .int (.u64) 0,
                                                    .int (.u8) 0,
                                                    .int (.u32) 0,
                                                    .int (.u32) 0,
                                                    .bool false,
                                                    .int (.u32) 0,
                                                    .int (.u64) 0,
                                                    .int (.u64) 0,
                                                    .nilsl,
                                                    .nilsl,
                                                    .int (.u32) 0])),
                                       none⟩,
                                     ⟨none, .store 13 (.t 16) (.t 82), none⟩,
                                     ⟨some 17, .mov (.t 83), none⟩])
                                  (.seq
                                    (.ops
                                      [⟨some 84, .mov (.t 17), none⟩,
                                       ⟨some 85, .bin (.eql) (.other) (.t 84) (.c (.int (.i64) 0)), none⟩,
                                       ⟨some 86, .mov (.t 2), none⟩,
                                       ⟨some 87, .len (.sl) (.t 86), none⟩,
                                       ⟨some 88, .bin (.eql) (.other) (.t 87) (.c (.int (.i64) 0)), none⟩,
                                       ⟨some 89, .bin (.neq) (.bool) (.t 85) (.t 88), none⟩])
                                    (.cond (.t 89) (.seq (.ops [⟨some 8, .mov (.c (.bool false)), none⟩]) (.ret)) (.skip))))))))
                        (.skip)))
                    (.seq
                      (.ops
                        [⟨some 91, .mov (.t 1), none⟩,
                         ⟨some 92, .call 6 [.t 91], none⟩,
                         ⟨some 90, .mov (.t 92), none⟩,
                         ⟨some 93, .extract (.t 90) 0, none⟩,
                         ⟨some 94, .extract (.t 90) 1, none⟩,
                         ⟨some 18,
                           .box
                                   (.c
                                     (.agg
                                       [.int (.u8) 0,
                                        .int (.u32) 0,
                                        .int (.u64) 0,
                                        .int (.u8) 0,
                                        .int (.u32) 0,
                                        .int (.u32) 0,
                                        .bool false,
                                        .int (.u32) 0,
                                        .int (.u64) 0,
                                        .int (.u64) 0,
                                        .nilsl,
                                        .nilsl,
                                        .int (.u32) 0])),
                           none⟩,
                         ⟨none, .store 13 (.t 18) (.t 93), none⟩,
                         ⟨some 19, .mov (.t 94), none⟩])
                      (.seq
                        (.seq
                          (.ops
                            [⟨some 95, .mov (.t 19), none⟩,
                             ⟨some 96, .bin (.neq) (.other) (.t 95) (.c (.int (.i64) 0)), none⟩])
                          (.cond
                            (.t 96)
                            (.seq
                              (.ops
                                [⟨some 97, .load true 13 (.t 18), none⟩,
                                 ⟨some 98,
                                   .build
                                           [.int (.u8) 0,
                                            .int (.u32) 0,
                                            .int (.u64) 0,
                                            .int (.u8) 0,
                                            .int (.u32) 0,
                                            .int (.u32) 0,
                                            .bool false,
                                            .int (.u32) 0,
                                            .int (.u64) 0,
                                            .int (.u64) 0,
                                            .nilsl,
                                            .nilsl,
                                            .int (.u32) 0]
                                           [],
                                   none⟩,
                                 ⟨some 99, .call 8 [.t 97, .t 98], none⟩,
                                 ⟨some 100, .mov (.t 99), none⟩,
                                 ⟨some 101, .call 9 [], some (100, true)⟩,
                                 ⟨some 102, .pick (.t 100) (.t 101) (.c (.bool false)), none⟩,
                                 ⟨some 8, .mov (.t 102), none⟩])
                              (.ret))
                            (.skip)))
                        (.seq
                          (.ops
                            [⟨some 104, .load true 13 (.t 18), none⟩,
                             ⟨some 105, .call 11 [.t 104], none⟩,
                             ⟨some 103, .mov (.t 105), none⟩,
                             ⟨some 106, .extract (.t 103) 0, none⟩,
                             ⟨some 107, .extract (.t 103) 1, none⟩,
                             ⟨some 20, .mov (.t 106), none⟩,
                             ⟨some 21, .mov (.t 107), none⟩])
                          (.seq
                            (.ops
                              [⟨some 108, .mov (.t 21), none⟩,
                               ⟨some 109, .bin (.eql) (.other) (.t 108) (.c (.int (.i64) 0)), none⟩,
                               ⟨some 110, .mov (.t 109), none⟩,
                               ⟨some 111, .mov (.t 20), some (110, true)⟩,
                               ⟨some 112, .mov (.t 1), some (110, true)⟩,
                               ⟨some 113, .call 16 [.t 111, .t 112], some (110, true)⟩,
                               ⟨some 114, .pick (.t 110) (.t 113) (.c (.bool false)), none⟩,
                               ⟨some 115, .mov (.t 114), none⟩,
                               ⟨some 116, .load true 13 (.t 18), some (115, true)⟩,
                               ⟨some 117, .call 14 [.t 116], some (115, true)⟩,
                               ⟨some 118, .pick (.t 115) (.t 117) (.c (.bool false)), none⟩,
                               ⟨some 119, .mov (.t 118), none⟩,
                               ⟨some 120, .call 9 [], some (119, true)⟩,
                               ⟨some 121, .pick (.t 119) (.t 120) (.c (.bool false)), none⟩,
                               ⟨some 8, .mov (.t 121), none⟩])
                            (.ret)))))))))⟩
theorem c5 : cFunc Tryd.prog Tryd.f5 = some sf5 := by kernel_rfl

/-- wharfage/back.Get -/
def sf6 : SFunc := ⟨79,
  [.cell 2 true 13, .tmp 3],
  .seq
            (.ops
              [⟨some 2,
                 .box
                         (.c
                           (.agg
                             [.int (.u8) 0,
                              .int (.u32) 0,
                              .int (.u64) 0,
                              .int (.u8) 0,
                              .int (.u32) 0,
                              .int (.u32) 0,
                              .bool false,
                              .int (.u32) 0,
                              .int (.u64) 0,
                              .int (.u64) 0,
                              .nilsl,
                              .nilsl,
                              .int (.u32) 0])),
                 none⟩,
               ⟨some 3, .mov (.c (.int (.i64) 0)), none⟩])
            (.seq
              (.seq
                (.ops
                  [⟨some 8, .mov (.t 0), none⟩,
                   ⟨some 9, .len (.sl) (.t 8), none⟩,
                   ⟨some 10, .bin (.gtr) (.other) (.t 9) (.c (.int (.i64) 4096)), none⟩])
                (.cond
                  (.t 10)
                  (.seq
                    (.ops
                      [⟨some 11,
                         .build
                                 [.int (.u8) 0,
                                  .int (.u32) 0,
                                  .int (.u64) 0,
                                  .int (.u8) 0,
                                  .int (.u32) 0,
                                  .int (.u32) 0,
                                  .bool false,
                                  .int (.u32) 0,
                                  .int (.u64) 0,
                                  .int (.u64) 0,
                                  .nilsl,
                                  .nilsl,
                                  .int (.u32) 0]
                                 [],
                         none⟩,
                       ⟨none, .store 13 (.t 2) (.t 11), none⟩,
                       ⟨some 3, .mov (.c (.int (.i64) 3)), none⟩])
                    (.ret))
                  (.skip)))
              (.seq
                (.ops
                  [⟨some 12, .mov (.t 0), none⟩, ⟨some 13, .call 23 [.t 12], none⟩, ⟨some 4, .mov (.t 13), none⟩])
                (.seq
                  (.ops
                    [⟨some 14, .mov (.t 4), none⟩,
                     ⟨some 15, .call 25 [.t 14], none⟩,
                     ⟨some 16, .call 24 [.t 15], none⟩,
                     ⟨some 17, .mov (.t 4), none⟩,
                     ⟨some 18, .call 25 [.t 17], none⟩,
                     ⟨some 19, .mov (.t 4), none⟩,
                     ⟨some 20, .call 26 [.t 19], none⟩,
                     ⟨some 21, .mov (.t 4), none⟩,
                     ⟨some 22, .call 25 [.t 21], none⟩,
                     ⟨some 23, .call 24 [.t 22], none⟩,
                     ⟨some 24, .mov (.t 4), none⟩,
                     ⟨some 25, .call 25 [.t 24], none⟩,
                     ⟨some 26,
                       .build
                               [.int (.u8) 0,
                                .int (.u32) 0,
                                .int (.u64) 0,
                                .int (.u8) 0,
                                .int (.u32) 0,
                                .int (.u32) 0,
                                .bool false,
                                .int (.u32) 0,
                                .int (.u64) 0,
                                .int (.u64) 0,
                                .nilsl,
                                .nilsl,
                                .int (.u32) 0]
                               [(0, 1, .t 16), (1, 1, .t 18), (2, 1, .t 20), (3, 1, .t 23), (12, 1, .t 25)],
                       none⟩,
                     ⟨some 5,
                       .box
                               (.c
                                 (.agg
                                   [.int (.u8) 0,
                                    .int (.u32) 0,
                                    .int (.u64) 0,
                                    .int (.u8) 0,
                                    .int (.u32) 0,
                                    .int (.u32) 0,
                                    .bool false,
                                    .int (.u32) 0,
                                    .int (.u64) 0,
                                    .int (.u64) 0,
                                    .nilsl,
                                    .nilsl,
                                    .int (.u32) 0])),
                       none⟩,
                     ⟨none, .store 13 (.t 5) (.t 26), none⟩])
                  (.seq
                    (.ops
                      [⟨some 27, .mov (.t 4), none⟩,
                       ⟨some 28, .call 25 [.t 27], none⟩,
                       ⟨some 29, .mov (.t 4), none⟩,
                       ⟨some 30, .call 25 [.t 29], none⟩,
                       ⟨some 31, .build [.int (.u32) 0, .int (.u32) 0] [(0, 1, .t 28), (1, 1, .t 30)], none⟩,
                       ⟨some 32, .mov (.t 4), none⟩,
                       ⟨some 33, .call 27 [.t 32], none⟩,
                       ⟨some 34, .mov (.t 4), none⟩,
                       ⟨some 35, .call 25 [.t 34], none⟩,
                       ⟨some 36, .mov (.t 4), none⟩,
                       ⟨some 37, .call 26 [.t 36], none⟩,
                       ⟨some 38,
                         .build
                                 [.int (.u32) 0, .int (.u32) 0, .bool false, .int (.u32) 0, .int (.u64) 0]
                                 [(0, 2, .t 31), (2, 1, .t 33), (3, 1, .t 35), (4, 1, .t 37)],
                         none⟩,
                       ⟨some 39, .fieldAddr 4 (.t 5), none⟩,
                       ⟨none, .store 5 (.t 39) (.t 38), none⟩])
                    (.seq
                      (.ops
                        [⟨some 40, .mov (.t 4), none⟩,
                         ⟨some 41, .call 26 [.t 40], none⟩,
                         ⟨some 42, .fieldAddr 9 (.t 5), none⟩,
                         ⟨none, .store 1 (.t 42) (.t 41), none⟩])
                      (.seq
                        (.ops
                          [⟨some 43, .mov (.t 4), none⟩,
                           ⟨some 44, .call 28 [.t 43, .c (.int (.i64) 4096)], none⟩,
                           ⟨some 45, .fieldAddr 10 (.t 5), none⟩,
                           ⟨none, .store 1 (.t 45) (.t 44), none⟩])
                        (.seq
                          (.ops
                            [⟨some 46, .mov (.t 4), none⟩,
                             ⟨some 47, .call 25 [.t 46], none⟩,
                             ⟨some 6, .mov (.t 47), none⟩])
                          (.seq
                            (.seq
                              (.ops
                                [⟨some 48, .mov (.t 6), none⟩,
                                 ⟨some 49, .bin (.gtr) (.other) (.t 48) (.c (.int (.u32) 32)), none⟩,
                                 ⟨some 50, .mov (.t 49), none⟩,
                                 ⟨some 51, .mov (.t 4), some (50, true)⟩,
                                 ⟨some 52, .call 29 [.t 51], some (50, true)⟩,
                                 ⟨some 53, .bin (.eql) (.other) (.t 52) (.c (.int (.i64) 0)), some (50, true)⟩,
                                 ⟨some 54, .pick (.t 50) (.t 53) (.c (.bool false)), none⟩])
                              (.cond
                                (.t 54)
                                (.seq
                                  (.ops
                                    [⟨some 55,
                                       .build
                                               [.int (.u8) 0,
                                                .int (.u32) 0,
                                                .int (.u64) 0,
                                                .int (.u8) 0,
                                                .int (.u32) 0,
                                                .int (.u32) 0,
                                                .bool false,
                                                .int (.u32) 0,
                                                .int (.u64) 0,
                                                .int (.u64) 0,
                                                .nilsl,
                                                .nilsl,
                                                .int (.u32) 0]
                                               [],
                                       none⟩,
                                     ⟨none, .store 13 (.t 2) (.t 55), none⟩,
                                     ⟨some 3, .mov (.c (.int (.i64) 3)), none⟩])
                                  (.ret))
                                (.skip)))
                            (.seq
                              (.seq
                                (.ops [⟨some 56, .mov (.t 6), none⟩, ⟨some 57, .mov (.c (.int (.u32) 0)), none⟩])
                                (.block
                                  0
                                  (.loop
                                    (.seq
                                      (.ops [⟨some 58, .bin (.lss) (.other) (.t 57) (.t 56), none⟩])
                                      (.seq
                                        (.cond (.t 58) (.skip) (.exit 0))
                                        (.seq
                                          (.block
                                            1
                                            (.drawOps
                                              [⟨some 59, .fieldAddr 11 (.t 5), none⟩,
                                               ⟨some 60, .load false 1 (.t 59), none⟩,
                                               ⟨some 61, .mov (.t 4), none⟩,
                                               ⟨some 62, .call 28 [.t 61, .c (.int (.i64) 4096)], none⟩,
                                               ⟨some 63, .bytesToStr (.t 62), none⟩,
                                               ⟨some 64, .buildSlice [.str []] 1 1 [(0, 1, .t 63)], none⟩,
                                               ⟨some 65, .append 1 16 (.t 60) (.t 64), none⟩,
                                               ⟨some 66, .fieldAddr 11 (.t 5), none⟩,
                                               ⟨none, .store 1 (.t 66) (.t 65), none⟩]
                                              [(1, 3), (1, 5)]))
                                          (.ops
                                            [⟨some 67, .bin (.add) (.other) (.t 57) (.c (.int (.u32) 1)), none⟩,
                                             ⟨some 57, .mov (.t 67), none⟩])))))))
                              (.seq
                                (.seq
                                  (.ops
                                    [⟨some 68, .mov (.t 4), none⟩,
                                     ⟨some 69, .call 30 [.t 68], none⟩,
                                     ⟨some 7, .mov (.t 69), none⟩])
                                  (.seq
                                    (.ops
                                      [⟨some 70, .mov (.t 7), none⟩,
                                       ⟨some 71, .bin (.neq) (.other) (.t 70) (.c (.int (.i64) 0)), none⟩])
                                    (.cond
                                      (.t 71)
                                      (.seq
                                        (.ops
                                          [⟨some 72,
                                             .build
                                                     [.int (.u8) 0,
                                                      .int (.u32) 0,
                                                      .int (.u64) 0,
                                                      .int (.u8) 0,
                                                      .int (.u32) 0,
                                                      .int (.u32) 0,
                                                      .bool false,
                                                      .int (.u32) 0,
                                                      .int (.u64) 0,
                                                      .int (.u64) 0,
                                                      .nilsl,
                                                      .nilsl,
                                                      .int (.u32) 0]
                                                     [],
                                             none⟩,
                                           ⟨some 73, .mov (.t 7), none⟩,
                                           ⟨none, .store 13 (.t 2) (.t 72), none⟩,
                                           ⟨some 3, .mov (.t 73), none⟩])
                                        (.ret))
                                      (.skip))))
                                (.seq
                                  (.seq
                                    (.ops
                                      [⟨some 74, .load true 13 (.t 5), none⟩,
                                       ⟨some 75, .call 14 [.t 74], none⟩,
                                       ⟨some 76, .un (.not) (.t 75), none⟩])
                                    (.cond
                                      (.t 76)
                                      (.seq
                                        (.ops
                                          [⟨some 77,
                                             .build
                                                     [.int (.u8) 0,
                                                      .int (.u32) 0,
                                                      .int (.u64) 0,
                                                      .int (.u8) 0,
                                                      .int (.u32) 0,
                                                      .int (.u32) 0,
                                                      .bool false,
                                                      .int (.u32) 0,
                                                      .int (.u64) 0,
                                                      .int (.u64) 0,
                                                      .nilsl,
                                                      .nilsl,
                                                      .int (.u32) 0]
                                                     [],
                                             none⟩,
                                           ⟨none, .store 13 (.t 2) (.t 77), none⟩,
                                           ⟨some 3, .mov (.c (.int (.i64) 5)), none⟩])
                                        (.ret))
                                      (.skip)))
                                  (.seq
                                    (.ops
                                      [⟨some 78, .load true 13 (.t 5), none⟩,
                                       ⟨none, .store 13 (.t 2) (.t 78), none⟩,
                                       ⟨some 3, .mov (.c (.int (.i64) 0)), none⟩])
                                    (.ret)))))))))))))⟩
theorem c6 : cFunc Tryd.prog Tryd.f6 = some sf6 := by kernel_rfl

/-- wharfage/wharfageref00.Spoil -/
def sf7 : SFunc := ⟨27,
  [],
  .seq
            (.ops
              [⟨some 6, .mov (.t 0), none⟩,
               ⟨some 7, .mov (.t 0), none⟩,
               ⟨some 8, .cap (.t 7), none⟩,
               ⟨some 9, .mov (.t 0), none⟩,
               ⟨some 10, .cap (.t 9), none⟩,
               ⟨some 11, .slice 1 (.t 6) none (some (.t 8)) (some (.t 10)), none⟩,
               ⟨some 4, .mov (.t 11), none⟩])
            (.seq
              (.ops [⟨some 5, .mov (.c (.int (.i64) 0)), none⟩])
              (.block
                0
                (.loop
                  (.seq
                    (.seq
                      (.ops
                        [⟨some 12, .mov (.t 5), none⟩,
                         ⟨some 13, .mov (.t 4), none⟩,
                         ⟨some 14, .len (.sl) (.t 13), none⟩,
                         ⟨some 15, .bin (.lss) (.other) (.t 12) (.t 14), none⟩])
                      (.cond (.t 15) (.skip) (.exit 0)))
                    (.seq
                      (.block
                        1
                        (.ops
                          [⟨some 18, .mov (.t 4), none⟩,
                           ⟨some 19, .mov (.t 5), none⟩,
                           ⟨some 20, .mov (.t 4), none⟩,
                           ⟨some 21, .mov (.t 5), none⟩,
                           ⟨some 22, .idxAddrSl 1 (.t 20) (.t 21), none⟩,
                           ⟨some 23, .load false 1 (.t 22), none⟩,
                           ⟨some 24, .mov (.t 1), none⟩,
                           ⟨some 25, .bin (.xor) (.other) (.t 23) (.t 24), none⟩,
                           ⟨some 26, .idxAddrSl 1 (.t 18) (.t 19), none⟩,
                           ⟨none, .store 1 (.t 26) (.t 25), none⟩]))
                      (.ops
                        [⟨some 16, .mov (.t 5), none⟩,
                         ⟨some 17, .bin (.add) (.other) (.t 16) (.c (.int (.i64) 1)), none⟩,
                         ⟨some 5, .mov (.t 17), none⟩]))))))⟩
theorem c7 : cFunc Tryd.prog Tryd.f7 = some sf7 := by kernel_rfl

/-- wharfage/wharfageref11.Same -/
def sf8 : SFunc := ⟨66,
  [.tmp 4],
  .seq
            (.ops
              [⟨some 2, .box (.t 0), none⟩,
               ⟨some 3, .box (.t 1), none⟩,
               ⟨some 4, .mov (.c (.bool false)), none⟩])
            (.seq
              (.ops
                [⟨some 5, .fieldAddr 0 (.t 2), none⟩,
                 ⟨some 6, .load false 1 (.t 5), none⟩,
                 ⟨some 7, .fieldAddr 0 (.t 3), none⟩,
                 ⟨some 8, .load false 1 (.t 7), none⟩,
                 ⟨some 9, .bin (.eql) (.other) (.t 6) (.t 8), none⟩,
                 ⟨some 10, .mov (.t 9), none⟩,
                 ⟨some 11, .fieldAddr 1 (.t 2), some (10, true)⟩,
                 ⟨some 12, .load false 1 (.t 11), some (10, true)⟩,
                 ⟨some 13, .fieldAddr 1 (.t 3), some (10, true)⟩,
                 ⟨some 14, .load false 1 (.t 13), some (10, true)⟩,
                 ⟨some 15, .bin (.eql) (.other) (.t 12) (.t 14), some (10, true)⟩,
                 ⟨some 16, .pick (.t 10) (.t 15) (.c (.bool false)), none⟩,
                 ⟨some 17, .mov (.t 16), none⟩,
                 ⟨some 18, .fieldAddr 2 (.t 2), some (17, true)⟩,
                 ⟨some 19, .load false 1 (.t 18), some (17, true)⟩,
                 ⟨some 20, .fieldAddr 2 (.t 3), some (17, true)⟩,
                 ⟨some 21, .load false 1 (.t 20), some (17, true)⟩,
                 ⟨some 22, .bin (.eql) (.other) (.t 19) (.t 21), some (17, true)⟩,
                 ⟨some 23, .pick (.t 17) (.t 22) (.c (.bool false)), none⟩,
                 ⟨some 24, .mov (.t 23), none⟩,
                 ⟨some 25, .fieldAddr 3 (.t 2), some (24, true)⟩,
                 ⟨some 26, .load false 1 (.t 25), some (24, true)⟩,
                 ⟨some 27, .fieldAddr 3 (.t 3), some (24, true)⟩,
                 ⟨some 28, .load false 1 (.t 27), some (24, true)⟩,
                 ⟨some 29, .bin (.eql) (.other) (.t 26) (.t 28), some (24, true)⟩,
                 ⟨some 30, .pick (.t 24) (.t 29) (.c (.bool false)), none⟩,
                 ⟨some 31, .mov (.t 30), none⟩,
                 ⟨some 32, .fieldAddr 4 (.t 2), some (31, true)⟩,
                 ⟨some 33, .load true 5 (.t 32), some (31, true)⟩,
                 ⟨some 34, .fieldAddr 4 (.t 3), some (31, true)⟩,
                 ⟨some 35, .load true 5 (.t 34), some (31, true)⟩,
                 ⟨some 36, .eqAgg false [1, 1, 0, 1, 1] (.t 33) (.t 35), some (31, true)⟩,
                 ⟨some 37, .pick (.t 31) (.t 36) (.c (.bool false)), none⟩,
                 ⟨some 38, .mov (.t 37), none⟩,
                 ⟨some 39, .fieldAddr 9 (.t 2), some (38, true)⟩,
                 ⟨some 40, .load false 1 (.t 39), some (38, true)⟩,
                 ⟨some 41, .fieldAddr 9 (.t 3), some (38, true)⟩,
                 ⟨some 42, .load false 1 (.t 41), some (38, true)⟩,
                 ⟨some 43, .bin (.eql) (.other) (.t 40) (.t 42), some (38, true)⟩,
                 ⟨some 44, .pick (.t 38) (.t 43) (.c (.bool false)), none⟩,
                 ⟨some 45, .mov (.t 44), none⟩,
                 ⟨some 46, .fieldAddr 10 (.t 2), some (45, true)⟩,
                 ⟨some 47, .load false 1 (.t 46), some (45, true)⟩,
                 ⟨some 48, .fieldAddr 10 (.t 3), some (45, true)⟩,
                 ⟨some 49, .load false 1 (.t 48), some (45, true)⟩,
                 ⟨some 50, .call 16 [.t 47, .t 49], some (45, true)⟩,
                 ⟨some 51, .pick (.t 45) (.t 50) (.c (.bool false)), none⟩,
                 ⟨some 52, .mov (.t 51), none⟩,
                 ⟨some 53, .fieldAddr 11 (.t 2), some (52, true)⟩,
                 ⟨some 54, .load false 1 (.t 53), some (52, true)⟩,
                 ⟨some 55, .fieldAddr 11 (.t 3), some (52, true)⟩,
                 ⟨some 56, .load false 1 (.t 55), some (52, true)⟩,
                 ⟨some 57, .call 21 [.t 54, .t 56], some (52, true)⟩,
                 ⟨some 58, .pick (.t 52) (.t 57) (.c (.bool false)), none⟩,
                 ⟨some 59, .mov (.t 58), none⟩,
                 ⟨some 60, .fieldAddr 12 (.t 2), some (59, true)⟩,
                 ⟨some 61, .load false 1 (.t 60), some (59, true)⟩,
                 ⟨some 62, .fieldAddr 12 (.t 3), some (59, true)⟩,
                 ⟨some 63, .load false 1 (.t 62), some (59, true)⟩,
                 ⟨some 64, .bin (.eql) (.other) (.t 61) (.t 63), some (59, true)⟩,
                 ⟨some 65, .pick (.t 59) (.t 64) (.c (.bool false)), none⟩,
                 ⟨some 4, .mov (.t 65), none⟩])
              (.ret))⟩
theorem c8 : cFunc Tryd.prog Tryd.f8 = some sf8 := by kernel_rfl

/-- wharfage/wharfagelaw11.lives -/
def sf9 : SFunc := ⟨65,
  [.tmp 0],
  .seq
            (.ops [⟨some 0, .mov (.c (.bool false)), none⟩])
            (.seq
              (.ops
                [⟨some 10,
                   .build
                           [.int (.u8) 0,
                            .int (.u32) 0,
                            .int (.u64) 0,
                            .int (.u8) 0,
                            .int (.u32) 0,
                            .int (.u32) 0,
                            .bool false,
                            .int (.u32) 0,
                            .int (.u64) 0,
                            .int (.u64) 0,
                            .nilsl,
                            .nilsl,
                            .int (.u32) 0]
                           [],
                   none⟩,
                 ⟨some 11, .call 11 [.t 10], none⟩,
                 ⟨some 9, .mov (.t 11), none⟩,
                 ⟨some 12, .extract (.t 9) 0, none⟩,
                 ⟨some 13, .extract (.t 9) 1, none⟩,
                 ⟨some 1, .mov (.t 12), none⟩,
                 ⟨some 2, .mov (.t 13), none⟩])
              (.seq
                (.ops
                  [⟨some 15,
                     .build
                             [.int (.u8) 0,
                              .int (.u32) 0,
                              .int (.u64) 0,
                              .int (.u8) 0,
                              .int (.u32) 0,
                              .int (.u32) 0,
                              .bool false,
                              .int (.u32) 0,
                              .int (.u64) 0,
                              .int (.u64) 0,
                              .nilsl,
                              .nilsl,
                              .int (.u32) 0]
                             [(1, 1, .c (.int (.u32) 1)), (2, 1, .c (.int (.u64) 1))],
                     none⟩,
                   ⟨some 16, .call 11 [.t 15], none⟩,
                   ⟨some 14, .mov (.t 16), none⟩,
                   ⟨some 17, .extract (.t 14) 0, none⟩,
                   ⟨some 18, .extract (.t 14) 1, none⟩,
                   ⟨some 3, .mov (.t 17), none⟩,
                   ⟨some 4, .mov (.t 18), none⟩])
                (.seq
                  (.seq
                    (.ops
                      [⟨some 19, .mov (.t 2), none⟩,
                       ⟨some 20, .bin (.neq) (.other) (.t 19) (.c (.int (.i64) 2)), none⟩,
                       ⟨some 21, .mov (.t 20), none⟩,
                       ⟨some 22, .mov (.t 4), some (21, false)⟩,
                       ⟨some 23, .bin (.neq) (.other) (.t 22) (.c (.int (.i64) 0)), some (21, false)⟩,
                       ⟨some 24, .pick (.t 21) (.c (.bool true)) (.t 23), none⟩,
                       ⟨some 25, .mov (.t 24), none⟩,
                       ⟨some 26, .mov (.t 3), some (25, false)⟩,
                       ⟨some 27, .len (.sl) (.t 26), some (25, false)⟩,
                       ⟨some 28, .bin (.neq) (.other) (.t 27) (.c (.int (.i64) 64)), some (25, false)⟩,
                       ⟨some 29, .pick (.t 25) (.c (.bool true)) (.t 28), none⟩])
                    (.cond (.t 29) (.seq (.ops [⟨some 0, .mov (.c (.bool false)), none⟩]) (.ret)) (.skip)))
                  (.seq
                    (.ops
                      [⟨some 31, .mov (.t 3), none⟩,
                       ⟨some 32, .slice 1 (.t 31) none (some (.c (.int (.i64) 63))) none, none⟩,
                       ⟨some 33, .call 6 [.t 32], none⟩,
                       ⟨some 30, .mov (.t 33), none⟩,
                       ⟨some 34, .extract (.t 30) 0, none⟩,
                       ⟨some 35, .extract (.t 30) 1, none⟩,
                       ⟨some 5,
                         .box
                                 (.c
                                   (.agg
                                     [.int (.u8) 0,
                                      .int (.u32) 0,
                                      .int (.u64) 0,
                                      .int (.u8) 0,
                                      .int (.u32) 0,
                                      .int (.u32) 0,
                                      .bool false,
                                      .int (.u32) 0,
                                      .int (.u64) 0,
                                      .int (.u64) 0,
                                      .nilsl,
                                      .nilsl,
                                      .int (.u32) 0])),
                         none⟩,
                       ⟨none, .store 13 (.t 5) (.t 34), none⟩,
                       ⟨some 6, .mov (.t 35), none⟩])
                    (.seq
                      (.ops
                        [⟨some 37, .mov (.t 3), none⟩,
                         ⟨some 38, .call 6 [.t 37], none⟩,
                         ⟨some 36, .mov (.t 38), none⟩,
                         ⟨some 39, .extract (.t 36) 0, none⟩,
                         ⟨some 40, .extract (.t 36) 1, none⟩,
                         ⟨some 7,
                           .box
                                   (.c
                                     (.agg
                                       [.int (.u8) 0,
                                        .int (.u32) 0,
                                        .int (.u64) 0,
                                        .int (.u8) 0,
                                        .int (.u32) 0,
                                        .int (.u32) 0,
                                        .bool false,
                                        .int (.u32) 0,
                                        .int (.u64) 0,
                                        .int (.u64) 0,
                                        .nilsl,
                                        .nilsl,
                                        .int (.u32) 0])),
                           none⟩,
                         ⟨none, .store 13 (.t 7) (.t 39), none⟩,
                         ⟨some 8, .mov (.t 40), none⟩])
                      (.seq
                        (.ops
                          [⟨some 41, .mov (.t 6), none⟩,
                           ⟨some 42, .bin (.eql) (.other) (.t 41) (.c (.int (.i64) 4)), none⟩,
                           ⟨some 43, .mov (.t 42), none⟩,
                           ⟨some 44, .mov (.t 8), some (43, true)⟩,
                           ⟨some 45, .bin (.eql) (.other) (.t 44) (.c (.int (.i64) 0)), some (43, true)⟩,
                           ⟨some 46, .pick (.t 43) (.t 45) (.c (.bool false)), none⟩,
                           ⟨some 47, .mov (.t 46), none⟩,
                           ⟨some 48, .fieldAddr 1 (.t 7), some (47, true)⟩,
                           ⟨some 49, .load false 1 (.t 48), some (47, true)⟩,
                           ⟨some 50, .bin (.eql) (.other) (.t 49) (.c (.int (.u32) 1)), some (47, true)⟩,
                           ⟨some 51, .pick (.t 47) (.t 50) (.c (.bool false)), none⟩,
                           ⟨some 52, .mov (.t 51), none⟩,
                           ⟨some 53, .fieldAddr 2 (.t 7), some (52, true)⟩,
                           ⟨some 54, .load false 1 (.t 53), some (52, true)⟩,
                           ⟨some 55, .bin (.eql) (.other) (.t 54) (.c (.int (.u64) 1)), some (52, true)⟩,
                           ⟨some 56, .pick (.t 52) (.t 55) (.c (.bool false)), none⟩,
                           ⟨some 57, .mov (.t 56), none⟩,
                           ⟨some 58, .call 18 [.c (.int (.u8) 3)], some (57, true)⟩,
                           ⟨some 59, .bin (.eql) (.other) (.t 58) (.c (.int (.i64) 8)), some (57, true)⟩,
                           ⟨some 60, .pick (.t 57) (.t 59) (.c (.bool false)), none⟩,
                           ⟨some 61, .mov (.t 60), none⟩,
                           ⟨some 62, .call 18 [.c (.int (.u8) 77)], some (61, true)⟩,
                           ⟨some 63, .bin (.eql) (.other) (.t 62) (.c (.int (.i64) 2)), some (61, true)⟩,
                           ⟨some 64, .pick (.t 61) (.t 63) (.c (.bool false)), none⟩,
                           ⟨some 0, .mov (.t 64), none⟩])
                        (.ret)))))))⟩
theorem c9 : cFunc Tryd.prog Tryd.f9 = some sf9 := by kernel_rfl

/-- wharfage/wharfageref00.Wide -/
def sf10 : SFunc := ⟨13,
  [.tmp 2],
  .seq
            (.ops [⟨some 2, .mov (.c (.nilsl)), none⟩])
            (.seq
              (.ops
                [⟨some 4, .mov (.t 0), none⟩, ⟨some 5, .call 22 [.t 4], none⟩, ⟨some 3, .mov (.t 5), none⟩])
              (.seq
                (.ops
                  [⟨some 6, .mov (.t 3), none⟩,
                   ⟨some 7,
                     .buildSlice
                             [.int (.u8) 0, .int (.u8) 0, .int (.u8) 0]
                             3
                             1
                             [(0, 1, .c (.int (.u8) 9)), (1, 1, .c (.int (.u8) 9)), (2, 1, .c (.int (.u8) 9))],
                     none⟩,
                   ⟨some 8, .append 1 1 (.t 6) (.t 7), none⟩,
                   ⟨some 3, .mov (.t 8), none⟩])
                (.seq
                  (.ops
                    [⟨some 9, .mov (.t 3), none⟩,
                     ⟨some 10, .mov (.t 0), none⟩,
                     ⟨some 11, .len (.sl) (.t 10), none⟩,
                     ⟨some 12, .slice 1 (.t 9) none (some (.t 11)) none, none⟩,
                     ⟨some 2, .mov (.t 12), none⟩])
                  (.ret))))⟩
theorem c10 : cFunc Tryd.prog Tryd.f10 = some sf10 := by kernel_rfl

/-- wharfage/back.Put -/
def sf11 : SFunc := ⟨93,
  [.tmp 2, .tmp 3],
  .seq
            (.ops
              [⟨some 1, .box (.t 0), none⟩,
               ⟨some 2, .mov (.c (.nilsl)), none⟩,
               ⟨some 3, .mov (.c (.int (.i64) 0)), none⟩])
            (.seq
              (.seq
                (.ops
                  [⟨some 9, .load true 13 (.t 1), none⟩,
                   ⟨some 10, .call 14 [.t 9], none⟩,
                   ⟨some 11, .un (.not) (.t 10), none⟩])
                (.cond
                  (.t 11)
                  (.seq
                    (.ops [⟨some 2, .mov (.c (.nilsl)), none⟩, ⟨some 3, .mov (.c (.int (.i64) 2)), none⟩])
                    (.ret))
                  (.skip)))
              (.seq
                (.ops
                  [⟨some 12, .build [.nilsl] [], none⟩,
                   ⟨some 13, .box (.t 12), none⟩,
                   ⟨some 4, .mov (.t 13), none⟩])
                (.seq
                  (.ops
                    [⟨some 14, .mov (.t 4), none⟩,
                     ⟨some 15, .fieldAddr 0 (.t 1), none⟩,
                     ⟨some 16, .load false 1 (.t 15), none⟩,
                     ⟨some 17, .convInt (.u32) (.t 16), none⟩,
                     ⟨some 18, .call 31 [.t 14, .t 17], none⟩])
                  (.seq
                    (.ops
                      [⟨some 19, .mov (.t 4), none⟩,
                       ⟨some 20, .fieldAddr 1 (.t 1), none⟩,
                       ⟨some 21, .load false 1 (.t 20), none⟩,
                       ⟨some 22, .call 31 [.t 19, .t 21], none⟩])
                    (.seq
                      (.ops
                        [⟨some 23, .mov (.t 4), none⟩,
                         ⟨some 24, .fieldAddr 2 (.t 1), none⟩,
                         ⟨some 25, .load false 1 (.t 24), none⟩,
                         ⟨some 26, .call 32 [.t 23, .t 25], none⟩])
                      (.seq
                        (.seq
                          (.ops
                            [⟨some 27, .fieldAddr 3 (.t 1), none⟩,
                             ⟨some 28, .load false 1 (.t 27), none⟩,
                             ⟨some 29, .convInt (.u32) (.t 28), none⟩,
                             ⟨some 30, .fieldAddr 12 (.t 1), none⟩,
                             ⟨some 31, .load false 1 (.t 30), none⟩,
                             ⟨some 32, .fieldAddr 4 (.t 1), none⟩,
                             ⟨some 33, .fieldAddr 0 (.t 32), none⟩,
                             ⟨some 34, .fieldAddr 0 (.t 33), none⟩,
                             ⟨some 35, .load false 1 (.t 34), none⟩,
                             ⟨some 36, .fieldAddr 4 (.t 1), none⟩,
                             ⟨some 37, .fieldAddr 0 (.t 36), none⟩,
                             ⟨some 38, .fieldAddr 1 (.t 37), none⟩,
                             ⟨some 39, .load false 1 (.t 38), none⟩,
                             ⟨some 40,
                               .buildSlice
                                       [.int (.u32) 0, .int (.u32) 0, .int (.u32) 0, .int (.u32) 0]
                                       4
                                       1
                                       [(0, 1, .t 29), (1, 1, .t 31), (2, 1, .t 35), (3, 1, .t 39)],
                               none⟩,
                             ⟨some 41, .len (.sl) (.t 40), none⟩,
                             ⟨some 42, .mov (.c (.int (.i64) 0)), none⟩])
                          (.block
                            0
                            (.loop
                              (.seq
                                (.ops [⟨some 43, .bin (.lss) (.other) (.t 42) (.t 41), none⟩])
                                (.seq
                                  (.cond (.t 43) (.skip) (.exit 0))
                                  (.seq
                                    (.block
                                      1
                                      (.seq
                                        (.ops
                                          [⟨some 44, .idxAddrSl 1 (.t 40) (.t 42), none⟩,
                                           ⟨some 45, .load false 1 (.t 44), none⟩,
                                           ⟨some 6, .mov (.t 45), none⟩])
                                        (.ops
                                          [⟨some 46, .mov (.t 4), none⟩,
                                           ⟨some 47, .mov (.t 6), none⟩,
                                           ⟨some 48, .call 31 [.t 46, .t 47], none⟩])))
                                    (.ops
                                      [⟨some 49, .bin (.add) (.other) (.t 42) (.c (.int (.i64) 1)), none⟩,
                                       ⟨some 42, .mov (.t 49), none⟩])))))))
                        (.seq
                          (.ops
                            [⟨some 50, .mov (.t 4), none⟩,
                             ⟨some 51, .fieldAddr 4 (.t 1), none⟩,
                             ⟨some 52, .fieldAddr 2 (.t 51), none⟩,
                             ⟨some 53, .load false 1 (.t 52), none⟩,
                             ⟨some 54, .call 33 [.t 50, .t 53], none⟩])
                          (.seq
                            (.ops
                              [⟨some 55, .mov (.t 4), none⟩,
                               ⟨some 56, .fieldAddr 4 (.t 1), none⟩,
                               ⟨some 57, .fieldAddr 3 (.t 56), none⟩,
                               ⟨some 58, .load false 1 (.t 57), none⟩,
                               ⟨some 59, .call 31 [.t 55, .t 58], none⟩])
                            (.seq
                              (.ops
                                [⟨some 60, .mov (.t 4), none⟩,
                                 ⟨some 61, .fieldAddr 4 (.t 1), none⟩,
                                 ⟨some 62, .fieldAddr 4 (.t 61), none⟩,
                                 ⟨some 63, .load false 1 (.t 62), none⟩,
                                 ⟨some 64, .call 32 [.t 60, .t 63], none⟩])
                              (.seq
                                (.ops
                                  [⟨some 65, .mov (.t 4), none⟩,
                                   ⟨some 66, .fieldAddr 9 (.t 1), none⟩,
                                   ⟨some 67, .load false 1 (.t 66), none⟩,
                                   ⟨some 68, .call 32 [.t 65, .t 67], none⟩])
                                (.seq
                                  (.ops
                                    [⟨some 69, .mov (.t 4), none⟩,
                                     ⟨some 70, .fieldAddr 10 (.t 1), none⟩,
                                     ⟨some 71, .load false 1 (.t 70), none⟩,
                                     ⟨some 72, .call 34 [.t 69, .t 71], none⟩])
                                  (.seq
                                    (.ops
                                      [⟨some 73, .mov (.t 4), none⟩,
                                       ⟨some 74, .fieldAddr 11 (.t 1), none⟩,
                                       ⟨some 75, .load false 1 (.t 74), none⟩,
                                       ⟨some 76, .len (.sl) (.t 75), none⟩,
                                       ⟨some 77, .convInt (.u32) (.t 76), none⟩,
                                       ⟨some 78, .call 31 [.t 73, .t 77], none⟩])
                                    (.seq
                                      (.seq
                                        (.ops
                                          [⟨some 79, .fieldAddr 11 (.t 1), none⟩,
                                           ⟨some 80, .load false 1 (.t 79), none⟩,
                                           ⟨some 81, .len (.sl) (.t 80), none⟩,
                                           ⟨some 82, .mov (.c (.int (.i64) 0)), none⟩])
                                        (.block
                                          2
                                          (.loop
                                            (.seq
                                              (.ops [⟨some 83, .bin (.lss) (.other) (.t 82) (.t 81), none⟩])
                                              (.seq
                                                (.cond (.t 83) (.skip) (.exit 2))
                                                (.seq
                                                  (.block
                                                    3
                                                    (.seq
                                                      (.ops
                                                        [⟨some 84, .idxAddrSl 1 (.t 80) (.t 82), none⟩,
                                                         ⟨some 85, .load false 1 (.t 84), none⟩,
                                                         ⟨some 8, .mov (.t 85), none⟩])
                                                      (.ops
                                                        [⟨some 86, .mov (.t 4), none⟩,
                                                         ⟨some 87, .mov (.t 8), none⟩,
                                                         ⟨some 88, .strToBytes (.t 87), none⟩,
                                                         ⟨some 89, .call 34 [.t 86, .t 88], none⟩])))
                                                  (.ops
                                                    [⟨some 90, .bin (.add) (.other) (.t 82) (.c (.int (.i64) 1)), none⟩,
                                                     ⟨some 82, .mov (.t 90), none⟩])))))))
                                      (.seq
                                        (.ops
                                          [⟨some 91, .mov (.t 4), none⟩,
                                           ⟨some 92, .call 35 [.t 91], none⟩,
                                           ⟨some 2, .mov (.t 92), none⟩,
                                           ⟨some 3, .mov (.c (.int (.i64) 0)), none⟩])
                                        (.ret)))))))))))))))⟩
theorem c11 : cFunc Tryd.prog Tryd.f11 = some sf11 := by kernel_rfl

/-- wharfage/wharfageref11.Put -/
def sf12 : SFunc := ⟨100,
  [.tmp 2, .tmp 3],
  .seq
            (.ops
              [⟨some 1, .box (.t 0), none⟩,
               ⟨some 2, .mov (.c (.nilsl)), none⟩,
               ⟨some 3, .mov (.c (.int (.i64) 0)), none⟩])
            (.seq
              (.seq
                (.ops
                  [⟨some 6, .load true 13 (.t 1), none⟩,
                   ⟨some 7, .call 15 [.t 6], none⟩,
                   ⟨some 8, .un (.not) (.t 7), none⟩])
                (.cond
                  (.t 8)
                  (.seq
                    (.ops [⟨some 2, .mov (.c (.nilsl)), none⟩, ⟨some 3, .mov (.c (.int (.i64) 2)), none⟩])
                    (.ret))
                  (.skip)))
              (.seq
                (.ops
                  [⟨some 9, .fieldAddr 0 (.t 1), none⟩,
                   ⟨some 10, .load false 1 (.t 9), none⟩,
                   ⟨some 11, .convInt (.u32) (.t 10), none⟩,
                   ⟨some 12, .call 36 [.t 11], none⟩,
                   ⟨some 4, .mov (.t 12), none⟩])
                (.seq
                  (.ops
                    [⟨some 13, .mov (.t 4), none⟩,
                     ⟨some 14, .fieldAddr 1 (.t 1), none⟩,
                     ⟨some 15, .load false 1 (.t 14), none⟩,
                     ⟨some 16, .call 36 [.t 15], none⟩,
                     ⟨some 17, .append 1 1 (.t 13) (.t 16), none⟩,
                     ⟨some 4, .mov (.t 17), none⟩])
                  (.seq
                    (.ops
                      [⟨some 18, .mov (.t 4), none⟩,
                       ⟨some 19, .fieldAddr 2 (.t 1), none⟩,
                       ⟨some 20, .load false 1 (.t 19), none⟩,
                       ⟨some 21, .call 37 [.t 20], none⟩,
                       ⟨some 22, .append 1 1 (.t 18) (.t 21), none⟩,
                       ⟨some 4, .mov (.t 22), none⟩])
                    (.seq
                      (.ops
                        [⟨some 23, .mov (.t 4), none⟩,
                         ⟨some 24, .fieldAddr 3 (.t 1), none⟩,
                         ⟨some 25, .load false 1 (.t 24), none⟩,
                         ⟨some 26, .convInt (.u32) (.t 25), none⟩,
                         ⟨some 27, .call 36 [.t 26], none⟩,
                         ⟨some 28, .append 1 1 (.t 23) (.t 27), none⟩,
                         ⟨some 4, .mov (.t 28), none⟩])
                      (.seq
                        (.ops
                          [⟨some 29, .mov (.t 4), none⟩,
                           ⟨some 30, .fieldAddr 12 (.t 1), none⟩,
                           ⟨some 31, .load false 1 (.t 30), none⟩,
                           ⟨some 32, .call 36 [.t 31], none⟩,
                           ⟨some 33, .append 1 1 (.t 29) (.t 32), none⟩,
                           ⟨some 4, .mov (.t 33), none⟩])
                        (.seq
                          (.ops
                            [⟨some 34, .mov (.t 4), none⟩,
                             ⟨some 35, .fieldAddr 4 (.t 1), none⟩,
                             ⟨some 36, .fieldAddr 0 (.t 35), none⟩,
                             ⟨some 37, .fieldAddr 0 (.t 36), none⟩,
                             ⟨some 38, .load false 1 (.t 37), none⟩,
                             ⟨some 39, .call 36 [.t 38], none⟩,
                             ⟨some 40, .append 1 1 (.t 34) (.t 39), none⟩,
                             ⟨some 4, .mov (.t 40), none⟩])
                          (.seq
                            (.ops
                              [⟨some 41, .mov (.t 4), none⟩,
                               ⟨some 42, .fieldAddr 4 (.t 1), none⟩,
                               ⟨some 43, .fieldAddr 0 (.t 42), none⟩,
                               ⟨some 44, .fieldAddr 1 (.t 43), none⟩,
                               ⟨some 45, .load false 1 (.t 44), none⟩,
                               ⟨some 46, .call 36 [.t 45], none⟩,
                               ⟨some 47, .append 1 1 (.t 41) (.t 46), none⟩,
                               ⟨some 4, .mov (.t 47), none⟩])
                            (.seq
                              (.ops
                                [⟨some 48, .mov (.t 4), none⟩,
                                 ⟨some 49, .fieldAddr 4 (.t 1), none⟩,
                                 ⟨some 50, .fieldAddr 2 (.t 49), none⟩,
                                 ⟨some 51, .load false 1 (.t 50), none⟩,
                                 ⟨some 52, .call 38 [.t 51], none⟩,
                                 ⟨some 53, .append 1 1 (.t 48) (.t 52), none⟩,
                                 ⟨some 4, .mov (.t 53), none⟩])
                              (.seq
                                (.ops
                                  [⟨some 54, .mov (.t 4), none⟩,
                                   ⟨some 55, .fieldAddr 4 (.t 1), none⟩,
                                   ⟨some 56, .fieldAddr 3 (.t 55), none⟩,
                                   ⟨some 57, .load false 1 (.t 56), none⟩,
                                   ⟨some 58, .call 36 [.t 57], none⟩,
                                   ⟨some 59, .append 1 1 (.t 54) (.t 58), none⟩,
                                   ⟨some 4, .mov (.t 59), none⟩])
                                (.seq
                                  (.ops
                                    [⟨some 60, .mov (.t 4), none⟩,
                                     ⟨some 61, .fieldAddr 4 (.t 1), none⟩,
                                     ⟨some 62, .fieldAddr 4 (.t 61), none⟩,
                                     ⟨some 63, .load false 1 (.t 62), none⟩,
                                     ⟨some 64, .call 37 [.t 63], none⟩,
                                     ⟨some 65, .append 1 1 (.t 60) (.t 64), none⟩,
                                     ⟨some 4, .mov (.t 65), none⟩])
                                  (.seq
                                    (.ops
                                      [⟨some 66, .mov (.t 4), none⟩,
                                       ⟨some 67, .fieldAddr 9 (.t 1), none⟩,
                                       ⟨some 68, .load false 1 (.t 67), none⟩,
                                       ⟨some 69, .call 37 [.t 68], none⟩,
                                       ⟨some 70, .append 1 1 (.t 66) (.t 69), none⟩,
                                       ⟨some 4, .mov (.t 70), none⟩])
                                    (.seq
                                      (.ops
                                        [⟨some 71, .mov (.t 4), none⟩,
                                         ⟨some 72, .fieldAddr 10 (.t 1), none⟩,
                                         ⟨some 73, .load false 1 (.t 72), none⟩,
                                         ⟨some 74, .call 39 [.t 73], none⟩,
                                         ⟨some 75, .append 1 1 (.t 71) (.t 74), none⟩,
                                         ⟨some 4, .mov (.t 75), none⟩])
                                      (.seq
                                        (.ops
                                          [⟨some 76, .mov (.t 4), none⟩,
                                           ⟨some 77, .fieldAddr 11 (.t 1), none⟩,
                                           ⟨some 78, .load false 1 (.t 77), none⟩,
                                           ⟨some 79, .len (.sl) (.t 78), none⟩,
                                           ⟨some 80, .convInt (.u32) (.t 79), none⟩,
                                           ⟨some 81, .call 36 [.t 80], none⟩,
                                           ⟨some 82, .append 1 1 (.t 76) (.t 81), none⟩,
                                           ⟨some 4, .mov (.t 82), none⟩])
                                        (.seq
                                          (.seq
                                            (.ops [⟨some 5, .mov (.c (.int (.i64) 0)), none⟩])
                                            (.block
                                              0
                                              (.loop
                                                (.seq
                                                  (.seq
                                                    (.ops
                                                      [⟨some 83, .mov (.t 5), none⟩,
                                                       ⟨some 84, .fieldAddr 11 (.t 1), none⟩,
                                                       ⟨some 85, .load false 1 (.t 84), none⟩,
                                                       ⟨some 86, .len (.sl) (.t 85), none⟩,
                                                       ⟨some 87, .bin (.lss) (.other) (.t 83) (.t 86), none⟩])
                                                    (.cond (.t 87) (.skip) (.exit 0)))
                                                  (.seq
                                                    (.block
                                                      1
                                                      (.ops
                                                        [⟨some 90, .mov (.t 4), none⟩,
                                                         ⟨some 91, .fieldAddr 11 (.t 1), none⟩,
                                                         ⟨some 92, .load false 1 (.t 91), none⟩,
                                                         ⟨some 93, .mov (.t 5), none⟩,
                                                         ⟨some 94, .idxAddrSl 1 (.t 92) (.t 93), none⟩,
                                                         ⟨some 95, .load false 1 (.t 94), none⟩,
                                                         ⟨some 96, .strToBytes (.t 95), none⟩,
                                                         ⟨some 97, .call 39 [.t 96], none⟩,
                                                         ⟨some 98, .append 1 1 (.t 90) (.t 97), none⟩,
                                                         ⟨some 4, .mov (.t 98), none⟩]))
                                                    (.ops
                                                      [⟨some 88, .mov (.t 5), none⟩,
                                                       ⟨some 89, .bin (.add) (.other) (.t 88) (.c (.int (.i64) 1)), none⟩,
                                                       ⟨some 5, .mov (.t 89), none⟩]))))))
                                          (.seq
                                            (.ops
                                              [⟨some 99, .mov (.t 4), none⟩,
                                               ⟨some 2, .mov (.t 99), none⟩,
                                               ⟨some 3, .mov (.c (.int (.i64) 0)), none⟩])
                                            (.ret)))))))))))))))))⟩
theorem c12 : cFunc Tryd.prog Tryd.f12 = some sf12 := by kernel_rfl

/-- wharfage/wharfageref11.Get -/
def sf13 : SFunc := ⟨118,
  [.cell 2 true 13, .tmp 3],
  .seq
            (.ops
              [⟨some 2,
                 .box
                         (.c
                           (.agg
                             [.int (.u8) 0,
                              .int (.u32) 0,
                              .int (.u64) 0,
                              .int (.u8) 0,
                              .int (.u32) 0,
                              .int (.u32) 0,
                              .bool false,
                              .int (.u32) 0,
                              .int (.u64) 0,
                              .int (.u64) 0,
                              .nilsl,
                              .nilsl,
                              .int (.u32) 0])),
                 none⟩,
               ⟨some 3, .mov (.c (.int (.i64) 0)), none⟩])
            (.seq
              (.seq
                (.ops
                  [⟨some 11, .mov (.t 0), none⟩,
                   ⟨some 12, .len (.sl) (.t 11), none⟩,
                   ⟨some 13, .bin (.gtr) (.other) (.t 12) (.c (.int (.i64) 4096)), none⟩])
                (.cond
                  (.t 13)
                  (.seq
                    (.ops
                      [⟨some 14,
                         .build
                                 [.int (.u8) 0,
                                  .int (.u32) 0,
                                  .int (.u64) 0,
                                  .int (.u8) 0,
                                  .int (.u32) 0,
                                  .int (.u32) 0,
                                  .bool false,
                                  .int (.u32) 0,
                                  .int (.u64) 0,
                                  .int (.u64) 0,
                                  .nilsl,
                                  .nilsl,
                                  .int (.u32) 0]
                                 [],
                         none⟩,
                       ⟨none, .store 13 (.t 2) (.t 14), none⟩,
                       ⟨some 3, .mov (.c (.int (.i64) 3)), none⟩])
                    (.ret))
                  (.skip)))
              (.seq
                (.ops
                  [⟨some 15, .mov (.t 0), none⟩,
                   ⟨some 16, .build [.nilsl, .int (.i64) 0, .int (.i64) 0] [(0, 1, .t 15)], none⟩,
                   ⟨some 17, .box (.t 16), none⟩,
                   ⟨some 4, .mov (.t 17), none⟩])
                (.seq
                  (.ops
                    [⟨some 5,
                       .box
                               (.c
                                 (.agg
                                   [.int (.u8) 0,
                                    .int (.u32) 0,
                                    .int (.u64) 0,
                                    .int (.u8) 0,
                                    .int (.u32) 0,
                                    .int (.u32) 0,
                                    .bool false,
                                    .int (.u32) 0,
                                    .int (.u64) 0,
                                    .int (.u64) 0,
                                    .nilsl,
                                    .nilsl,
                                    .int (.u32) 0])),
                       none⟩])
                  (.seq
                    (.ops
                      [⟨some 18, .mov (.t 4), none⟩,
                       ⟨some 19, .call 40 [.t 18], none⟩,
                       ⟨some 6, .mov (.t 19), none⟩])
                    (.seq
                      (.ops
                        [⟨some 20, .mov (.t 4), none⟩,
                         ⟨some 21, .call 40 [.t 20], none⟩,
                         ⟨some 22, .fieldAddr 1 (.t 5), none⟩,
                         ⟨none, .store 1 (.t 22) (.t 21), none⟩])
                      (.seq
                        (.ops
                          [⟨some 23, .mov (.t 4), none⟩,
                           ⟨some 24, .call 41 [.t 23], none⟩,
                           ⟨some 25, .fieldAddr 2 (.t 5), none⟩,
                           ⟨none, .store 1 (.t 25) (.t 24), none⟩])
                        (.seq
                          (.ops
                            [⟨some 26, .mov (.t 4), none⟩,
                             ⟨some 27, .call 40 [.t 26], none⟩,
                             ⟨some 7, .mov (.t 27), none⟩])
                          (.seq
                            (.ops
                              [⟨some 28, .mov (.t 4), none⟩,
                               ⟨some 29, .call 40 [.t 28], none⟩,
                               ⟨some 30, .fieldAddr 12 (.t 5), none⟩,
                               ⟨none, .store 1 (.t 30) (.t 29), none⟩])
                            (.seq
                              (.ops
                                [⟨some 31, .mov (.t 4), none⟩,
                                 ⟨some 32, .call 40 [.t 31], none⟩,
                                 ⟨some 33, .fieldAddr 4 (.t 5), none⟩,
                                 ⟨some 34, .fieldAddr 0 (.t 33), none⟩,
                                 ⟨some 35, .fieldAddr 0 (.t 34), none⟩,
                                 ⟨none, .store 1 (.t 35) (.t 32), none⟩])
                              (.seq
                                (.ops
                                  [⟨some 36, .mov (.t 4), none⟩,
                                   ⟨some 37, .call 40 [.t 36], none⟩,
                                   ⟨some 38, .fieldAddr 4 (.t 5), none⟩,
                                   ⟨some 39, .fieldAddr 0 (.t 38), none⟩,
                                   ⟨some 40, .fieldAddr 1 (.t 39), none⟩,
                                   ⟨none, .store 1 (.t 40) (.t 37), none⟩])
                                (.seq
                                  (.ops
                                    [⟨some 41, .mov (.t 4), none⟩,
                                     ⟨some 42, .call 42 [.t 41], none⟩,
                                     ⟨some 43, .fieldAddr 4 (.t 5), none⟩,
                                     ⟨some 44, .fieldAddr 2 (.t 43), none⟩,
                                     ⟨none, .store 1 (.t 44) (.t 42), none⟩])
                                  (.seq
                                    (.ops
                                      [⟨some 45, .mov (.t 4), none⟩,
                                       ⟨some 46, .call 40 [.t 45], none⟩,
                                       ⟨some 47, .fieldAddr 4 (.t 5), none⟩,
                                       ⟨some 48, .fieldAddr 3 (.t 47), none⟩,
                                       ⟨none, .store 1 (.t 48) (.t 46), none⟩])
                                    (.seq
                                      (.ops
                                        [⟨some 49, .mov (.t 4), none⟩,
                                         ⟨some 50, .call 41 [.t 49], none⟩,
                                         ⟨some 51, .fieldAddr 4 (.t 5), none⟩,
                                         ⟨some 52, .fieldAddr 4 (.t 51), none⟩,
                                         ⟨none, .store 1 (.t 52) (.t 50), none⟩])
                                      (.seq
                                        (.ops
                                          [⟨some 53, .mov (.t 4), none⟩,
                                           ⟨some 54, .call 41 [.t 53], none⟩,
                                           ⟨some 55, .fieldAddr 9 (.t 5), none⟩,
                                           ⟨none, .store 1 (.t 55) (.t 54), none⟩])
                                        (.seq
                                          (.ops
                                            [⟨some 56, .mov (.t 4), none⟩,
                                             ⟨some 57, .call 43 [.t 56, .c (.int (.i64) 4096)], none⟩,
                                             ⟨some 58, .fieldAddr 10 (.t 5), none⟩,
                                             ⟨none, .store 1 (.t 58) (.t 57), none⟩])
                                          (.seq
                                            (.ops
                                              [⟨some 59, .mov (.t 4), none⟩,
                                               ⟨some 60, .call 40 [.t 59], none⟩,
                                               ⟨some 8, .mov (.t 60), none⟩])
                                            (.seq
                                              (.seq
                                                (.ops
                                                  [⟨some 61, .mov (.t 4), none⟩,
                                                   ⟨some 62, .nilChk (.t 61), none⟩,
                                                   ⟨some 63, .fieldAddr 2 (.t 62), none⟩,
                                                   ⟨some 64, .load false 1 (.t 63), none⟩,
                                                   ⟨some 65, .bin (.eql) (.other) (.t 64) (.c (.int (.i64) 0)), none⟩,
                                                   ⟨some 66, .mov (.t 65), none⟩,
                                                   ⟨some 67, .mov (.t 8), some (66, true)⟩,
                                                   ⟨some 68, .bin (.gtr) (.other) (.t 67) (.c (.int (.u32) 32)), some (66, true)⟩,
                                                   ⟨some 69, .pick (.t 66) (.t 68) (.c (.bool false)), none⟩])
                                                (.cond
                                                  (.t 69)
                                                  (.seq
                                                    (.ops
                                                      [⟨some 70,
                                                         .build
                                                                 [.int (.u8) 0,
                                                                  .int (.u32) 0,
                                                                  .int (.u64) 0,
                                                                  .int (.u8) 0,
                                                                  .int (.u32) 0,
                                                                  .int (.u32) 0,
                                                                  .bool false,
                                                                  .int (.u32) 0,
                                                                  .int (.u64) 0,
                                                                  .int (.u64) 0,
                                                                  .nilsl,
                                                                  .nilsl,
                                                                  .int (.u32) 0]
                                                                 [],
                                                         none⟩,
                                                       ⟨none, .store 13 (.t 2) (.t 70), none⟩,
                                                       ⟨some 3, .mov (.c (.int (.i64) 3)), none⟩])
                                                    (.ret))
                                                  (.skip)))
                                              (.seq
                                                (.seq
                                                  (.ops [⟨some 9, .mov (.c (.int (.u32) 0)), none⟩])
                                                  (.block
                                                    0
                                                    (.loop
                                                      (.seq
                                                        (.seq
                                                          (.ops
                                                            [⟨some 71, .mov (.t 9), none⟩,
                                                             ⟨some 72, .mov (.t 8), none⟩,
                                                             ⟨some 73, .bin (.lss) (.other) (.t 71) (.t 72), none⟩,
                                                             ⟨some 74, .mov (.t 73), none⟩,
                                                             ⟨some 75, .mov (.t 4), some (74, true)⟩,
                                                             ⟨some 76, .nilChk (.t 75), some (74, true)⟩,
                                                             ⟨some 77, .fieldAddr 2 (.t 76), some (74, true)⟩,
                                                             ⟨some 78, .load false 1 (.t 77), some (74, true)⟩,
                                                             ⟨some 79, .bin (.eql) (.other) (.t 78) (.c (.int (.i64) 0)), some (74, true)⟩,
                                                             ⟨some 80, .pick (.t 74) (.t 79) (.c (.bool false)), none⟩])
                                                          (.cond (.t 80) (.skip) (.exit 0)))
                                                        (.seq
                                                          (.block
                                                            1
                                                            (.drawOps
                                                              [⟨some 83, .fieldAddr 11 (.t 5), none⟩,
                                                               ⟨some 84, .load false 1 (.t 83), none⟩,
                                                               ⟨some 85, .mov (.t 4), none⟩,
                                                               ⟨some 86, .call 43 [.t 85, .c (.int (.i64) 4096)], none⟩,
                                                               ⟨some 87, .bytesToStr (.t 86), none⟩,
                                                               ⟨some 88, .buildSlice [.str []] 1 1 [(0, 1, .t 87)], none⟩,
                                                               ⟨some 89, .append 1 16 (.t 84) (.t 88), none⟩,
                                                               ⟨some 90, .fieldAddr 11 (.t 5), none⟩,
                                                               ⟨none, .store 1 (.t 90) (.t 89), none⟩]
                                                              [(1, 3), (1, 5)]))
                                                          (.ops
                                                            [⟨some 81, .mov (.t 9), none⟩,
                                                             ⟨some 82, .bin (.add) (.other) (.t 81) (.c (.int (.u32) 1)), none⟩,
                                                             ⟨some 9, .mov (.t 82), none⟩]))))))
                                                (.seq
                                                  (.seq
                                                    (.ops
                                                      [⟨some 91, .mov (.t 4), none⟩,
                                                       ⟨some 92, .call 44 [.t 91], none⟩,
                                                       ⟨some 10, .mov (.t 92), none⟩])
                                                    (.seq
                                                      (.ops
                                                        [⟨some 93, .mov (.t 10), none⟩,
                                                         ⟨some 94, .bin (.neq) (.other) (.t 93) (.c (.int (.i64) 0)), none⟩])
                                                      (.cond
                                                        (.t 94)
                                                        (.seq
                                                          (.ops
                                                            [⟨some 95,
                                                               .build
                                                                       [.int (.u8) 0,
                                                                        .int (.u32) 0,
                                                                        .int (.u64) 0,
                                                                        .int (.u8) 0,
                                                                        .int (.u32) 0,
                                                                        .int (.u32) 0,
                                                                        .bool false,
                                                                        .int (.u32) 0,
                                                                        .int (.u64) 0,
                                                                        .int (.u64) 0,
                                                                        .nilsl,
                                                                        .nilsl,
                                                                        .int (.u32) 0]
                                                                       [],
                                                               none⟩,
                                                             ⟨some 96, .mov (.t 10), none⟩,
                                                             ⟨none, .store 13 (.t 2) (.t 95), none⟩,
                                                             ⟨some 3, .mov (.t 96), none⟩])
                                                          (.ret))
                                                        (.skip))))
                                                  (.seq
                                                    (.ops
                                                      [⟨some 97, .mov (.t 6), none⟩,
                                                       ⟨some 98, .bin (.rem) (.other) (.t 97) (.c (.int (.u32) 256)), none⟩,
                                                       ⟨some 99, .convInt (.u8) (.t 98), none⟩,
                                                       ⟨some 100, .fieldAddr 0 (.t 5), none⟩,
                                                       ⟨none, .store 1 (.t 100) (.t 99), none⟩])
                                                    (.seq
                                                      (.ops
                                                        [⟨some 101, .mov (.t 7), none⟩,
                                                         ⟨some 102, .bin (.rem) (.other) (.t 101) (.c (.int (.u32) 256)), none⟩,
                                                         ⟨some 103, .convInt (.u8) (.t 102), none⟩,
                                                         ⟨some 104, .fieldAddr 3 (.t 5), none⟩,
                                                         ⟨none, .store 1 (.t 104) (.t 103), none⟩])
                                                      (.seq
                                                        (.seq
                                                          (.ops
                                                            [⟨some 105, .mov (.t 6), none⟩,
                                                             ⟨some 106, .bin (.geq) (.other) (.t 105) (.c (.int (.u32) 4)), none⟩,
                                                             ⟨some 107, .mov (.t 106), none⟩,
                                                             ⟨some 108, .mov (.t 7), some (107, false)⟩,
                                                             ⟨some 109, .bin (.gtr) (.other) (.t 108) (.c (.int (.u32) 9)), some (107, false)⟩,
                                                             ⟨some 110, .pick (.t 107) (.c (.bool true)) (.t 109), none⟩,
                                                             ⟨some 111, .mov (.t 110), none⟩,
                                                             ⟨some 112, .load true 13 (.t 5), some (111, false)⟩,
                                                             ⟨some 113, .call 15 [.t 112], some (111, false)⟩,
                                                             ⟨some 114, .un (.not) (.t 113), some (111, false)⟩,
                                                             ⟨some 115, .pick (.t 111) (.c (.bool true)) (.t 114), none⟩])
                                                          (.cond
                                                            (.t 115)
                                                            (.seq
                                                              (.ops
                                                                [⟨some 116,
                                                                   .build
                                                                           [.int (.u8) 0,
                                                                            .int (.u32) 0,
                                                                            .int (.u64) 0,
                                                                            .int (.u8) 0,
                                                                            .int (.u32) 0,
                                                                            .int (.u32) 0,
                                                                            .bool false,
                                                                            .int (.u32) 0,
                                                                            .int (.u64) 0,
                                                                            .int (.u64) 0,
                                                                            .nilsl,
                                                                            .nilsl,
                                                                            .int (.u32) 0]
                                                                           [],
                                                                   none⟩,
                                                                 ⟨none, .store 13 (.t 2) (.t 116), none⟩,
                                                                 ⟨some 3, .mov (.c (.int (.i64) 5)), none⟩])
                                                              (.ret))
                                                            (.skip)))
                                                        (.seq
                                                          (.ops
                                                            [⟨some 117, .load true 13 (.t 5), none⟩,
                                                             ⟨none, .store 13 (.t 2) (.t 117), none⟩,
                                                             ⟨some 3, .mov (.c (.int (.i64) 0)), none⟩])
                                                          (.ret))))))))))))))))))))))))⟩
theorem c13 : cFunc Tryd.prog Tryd.f13 = some sf13 := by kernel_rfl

/-- wharfage/back.May -/
def sf14 : SFunc := ⟨49,
  [.tmp 2],
  .seq
            (.ops [⟨some 1, .box (.t 0), none⟩, ⟨some 2, .mov (.c (.bool false)), none⟩])
            (.seq
              (.block
                0
                (.seq
                  (.seq
                    (.ops
                      [⟨some 7, .fieldAddr 0 (.t 1), none⟩,
                       ⟨some 8, .load false 1 (.t 7), none⟩,
                       ⟨some 9, .bin (.geq) (.other) (.t 8) (.c (.int (.u8) 4)), none⟩,
                       ⟨some 6, .mov (.t 9), none⟩])
                    (.cond
                      (.t 6)
                      (.skip)
                      (.seq
                        (.ops
                          [⟨some 10, .fieldAddr 1 (.t 1), none⟩,
                           ⟨some 11, .load false 1 (.t 10), none⟩,
                           ⟨some 12, .bin (.eql) (.other) (.t 11) (.c (.int (.u32) 0)), none⟩,
                           ⟨some 6, .mov (.t 12), none⟩])
                        (.cond
                          (.t 6)
                          (.skip)
                          (.seq
                            (.ops
                              [⟨some 13, .fieldAddr 2 (.t 1), none⟩,
                               ⟨some 14, .load false 1 (.t 13), none⟩,
                               ⟨some 15, .bin (.eql) (.other) (.t 14) (.c (.int (.u64) 0)), none⟩,
                               ⟨some 6, .mov (.t 15), none⟩])
                            (.cond
                              (.t 6)
                              (.skip)
                              (.ops
                                [⟨some 16, .fieldAddr 3 (.t 1), none⟩,
                                 ⟨some 17, .load false 1 (.t 16), none⟩,
                                 ⟨some 18, .bin (.gtr) (.other) (.t 17) (.c (.int (.u8) 9)), none⟩,
                                 ⟨some 6, .mov (.t 18), none⟩])))))))
                  (.cond
                    (.t 6)
                    (.seq (.ops [⟨some 2, .mov (.c (.bool false)), none⟩]) (.ret))
                    (.seq
                      (.seq
                        (.ops
                          [⟨some 20, .fieldAddr 4 (.t 1), none⟩,
                           ⟨some 21, .fieldAddr 3 (.t 20), none⟩,
                           ⟨some 22, .load false 1 (.t 21), none⟩,
                           ⟨some 23, .bin (.gtr) (.other) (.t 22) (.c (.int (.u32) 4096)), none⟩,
                           ⟨some 19, .mov (.t 23), none⟩])
                        (.cond
                          (.t 19)
                          (.skip)
                          (.seq
                            (.ops
                              [⟨some 24, .fieldAddr 10 (.t 1), none⟩,
                               ⟨some 25, .load false 1 (.t 24), none⟩,
                               ⟨some 26, .len (.sl) (.t 25), none⟩,
                               ⟨some 27, .bin (.gtr) (.other) (.t 26) (.c (.int (.i64) 64)), none⟩,
                               ⟨some 19, .mov (.t 27), none⟩])
                            (.cond
                              (.t 19)
                              (.skip)
                              (.ops
                                [⟨some 28, .fieldAddr 11 (.t 1), none⟩,
                                 ⟨some 29, .load false 1 (.t 28), none⟩,
                                 ⟨some 30, .len (.sl) (.t 29), none⟩,
                                 ⟨some 31, .bin (.gtr) (.other) (.t 30) (.c (.int (.i64) 32)), none⟩,
                                 ⟨some 19, .mov (.t 31), none⟩])))))
                      (.cond (.t 19) (.seq (.ops [⟨some 2, .mov (.c (.bool false)), none⟩]) (.ret)) (.skip))))))
              (.seq
                (.ops [⟨some 3, .mov (.c (.str [])), none⟩])
                (.seq
                  (.seq
                    (.ops
                      [⟨some 32, .fieldAddr 11 (.t 1), none⟩,
                       ⟨some 33, .load false 1 (.t 32), none⟩,
                       ⟨some 34, .len (.sl) (.t 33), none⟩,
                       ⟨some 35, .mov (.c (.int (.i64) 0)), none⟩])
                    (.block
                      1
                      (.loop
                        (.seq
                          (.ops [⟨some 36, .bin (.lss) (.other) (.t 35) (.t 34), none⟩])
                          (.seq
                            (.cond (.t 36) (.skip) (.exit 1))
                            (.seq
                              (.block
                                2
                                (.seq
                                  (.ops
                                    [⟨some 37, .idxAddrSl 1 (.t 33) (.t 35), none⟩,
                                     ⟨some 38, .load false 1 (.t 37), none⟩,
                                     ⟨some 5, .mov (.t 38), none⟩])
                                  (.seq
                                    (.seq
                                      (.ops
                                        [⟨some 39, .mov (.t 5), none⟩,
                                         ⟨some 40, .call 45 [.t 39], none⟩,
                                         ⟨some 41, .un (.not) (.t 40), none⟩,
                                         ⟨some 42, .mov (.t 41), none⟩,
                                         ⟨some 43, .mov (.t 5), some (42, false)⟩,
                                         ⟨some 44, .mov (.t 3), some (42, false)⟩,
                                         ⟨some 45, .bin (.leq) (.str) (.t 43) (.t 44), some (42, false)⟩,
                                         ⟨some 46, .pick (.t 42) (.c (.bool true)) (.t 45), none⟩])
                                      (.cond (.t 46) (.seq (.ops [⟨some 2, .mov (.c (.bool false)), none⟩]) (.ret)) (.skip)))
                                    (.ops [⟨some 47, .mov (.t 5), none⟩, ⟨some 3, .mov (.t 47), none⟩]))))
                              (.ops
                                [⟨some 48, .bin (.add) (.other) (.t 35) (.c (.int (.i64) 1)), none⟩,
                                 ⟨some 35, .mov (.t 48), none⟩])))))))
                  (.seq (.ops [⟨some 2, .mov (.c (.bool true)), none⟩]) (.ret)))))⟩
theorem c14 : cFunc Tryd.prog Tryd.f14 = some sf14 := by kernel_rfl

/-- wharfage/wharfageref11.May -/
def sf15 : SFunc := ⟨72,
  [.tmp 2],
  .seq
            (.ops [⟨some 1, .box (.t 0), none⟩, ⟨some 2, .mov (.c (.bool false)), none⟩])
            (.seq
              (.seq
                (.ops
                  [⟨some 4, .fieldAddr 0 (.t 1), none⟩,
                   ⟨some 5, .load false 1 (.t 4), none⟩,
                   ⟨some 6, .bin (.geq) (.other) (.t 5) (.c (.int (.u8) 4)), none⟩,
                   ⟨some 7, .mov (.t 6), none⟩,
                   ⟨some 8, .fieldAddr 1 (.t 1), some (7, false)⟩,
                   ⟨some 9, .load false 1 (.t 8), some (7, false)⟩,
                   ⟨some 10, .bin (.lss) (.other) (.t 9) (.c (.int (.u32) 1)), some (7, false)⟩,
                   ⟨some 11, .pick (.t 7) (.c (.bool true)) (.t 10), none⟩,
                   ⟨some 12, .mov (.t 11), none⟩,
                   ⟨some 13, .fieldAddr 2 (.t 1), some (12, false)⟩,
                   ⟨some 14, .load false 1 (.t 13), some (12, false)⟩,
                   ⟨some 15, .bin (.lss) (.other) (.t 14) (.c (.int (.u64) 1)), some (12, false)⟩,
                   ⟨some 16, .pick (.t 12) (.c (.bool true)) (.t 15), none⟩,
                   ⟨some 17, .mov (.t 16), none⟩,
                   ⟨some 18, .fieldAddr 3 (.t 1), some (17, false)⟩,
                   ⟨some 19, .load false 1 (.t 18), some (17, false)⟩,
                   ⟨some 20, .bin (.gtr) (.other) (.t 19) (.c (.int (.u8) 9)), some (17, false)⟩,
                   ⟨some 21, .pick (.t 17) (.c (.bool true)) (.t 20), none⟩,
                   ⟨some 22, .mov (.t 21), none⟩,
                   ⟨some 23, .fieldAddr 4 (.t 1), some (22, false)⟩,
                   ⟨some 24, .fieldAddr 3 (.t 23), some (22, false)⟩,
                   ⟨some 25, .load false 1 (.t 24), some (22, false)⟩,
                   ⟨some 26, .bin (.gtr) (.other) (.t 25) (.c (.int (.u32) 4096)), some (22, false)⟩,
                   ⟨some 27, .pick (.t 22) (.c (.bool true)) (.t 26), none⟩,
                   ⟨some 28, .mov (.t 27), none⟩,
                   ⟨some 29, .fieldAddr 10 (.t 1), some (28, false)⟩,
                   ⟨some 30, .load false 1 (.t 29), some (28, false)⟩,
                   ⟨some 31, .len (.sl) (.t 30), some (28, false)⟩,
                   ⟨some 32, .bin (.gtr) (.other) (.t 31) (.c (.int (.i64) 64)), some (28, false)⟩,
                   ⟨some 33, .pick (.t 28) (.c (.bool true)) (.t 32), none⟩,
                   ⟨some 34, .mov (.t 33), none⟩,
                   ⟨some 35, .fieldAddr 11 (.t 1), some (34, false)⟩,
                   ⟨some 36, .load false 1 (.t 35), some (34, false)⟩,
                   ⟨some 37, .len (.sl) (.t 36), some (34, false)⟩,
                   ⟨some 38, .bin (.gtr) (.other) (.t 37) (.c (.int (.i64) 32)), some (34, false)⟩,
                   ⟨some 39, .pick (.t 34) (.c (.bool true)) (.t 38), none⟩])
                (.cond (.t 39) (.seq (.ops [⟨some 2, .mov (.c (.bool false)), none⟩]) (.ret)) (.skip)))
              (.seq
                (.seq
                  (.ops [⟨some 3, .mov (.c (.int (.i64) 0)), none⟩])
                  (.block
                    0
                    (.loop
                      (.seq
                        (.seq
                          (.ops
                            [⟨some 40, .mov (.t 3), none⟩,
                             ⟨some 41, .fieldAddr 11 (.t 1), none⟩,
                             ⟨some 42, .load false 1 (.t 41), none⟩,
                             ⟨some 43, .len (.sl) (.t 42), none⟩,
                             ⟨some 44, .bin (.lss) (.other) (.t 40) (.t 43), none⟩])
                          (.cond (.t 44) (.skip) (.exit 0)))
                        (.seq
                          (.block
                            1
                            (.seq
                              (.ops
                                [⟨some 47, .fieldAddr 11 (.t 1), none⟩,
                                 ⟨some 48, .load false 1 (.t 47), none⟩,
                                 ⟨some 49, .mov (.t 3), none⟩,
                                 ⟨some 50, .idxAddrSl 1 (.t 48) (.t 49), none⟩,
                                 ⟨some 51, .load false 1 (.t 50), none⟩,
                                 ⟨some 52, .call 46 [.t 51], none⟩,
                                 ⟨some 53, .un (.not) (.t 52), none⟩,
                                 ⟨some 54, .mov (.t 53), none⟩,
                                 ⟨some 55, .mov (.t 3), some (54, false)⟩,
                                 ⟨some 56, .bin (.gtr) (.other) (.t 55) (.c (.int (.i64) 0)), some (54, false)⟩,
                                 ⟨some 57, .mov (.t 56), some (54, false)⟩,
                                 ⟨some 58, .fieldAddr 11 (.t 1), some (57, true)⟩,
                                 ⟨some 59, .load false 1 (.t 58), some (57, true)⟩,
                                 ⟨some 60, .mov (.t 3), some (57, true)⟩,
                                 ⟨some 61, .idxAddrSl 1 (.t 59) (.t 60), some (57, true)⟩,
                                 ⟨some 62, .load false 1 (.t 61), some (57, true)⟩,
                                 ⟨some 63, .fieldAddr 11 (.t 1), some (57, true)⟩,
                                 ⟨some 64, .load false 1 (.t 63), some (57, true)⟩,
                                 ⟨some 65, .mov (.t 3), some (57, true)⟩,
                                 ⟨some 66, .bin (.sub) (.other) (.t 65) (.c (.int (.i64) 1)), some (57, true)⟩,
                                 ⟨some 67, .idxAddrSl 1 (.t 64) (.t 66), some (57, true)⟩,
                                 ⟨some 68, .load false 1 (.t 67), some (57, true)⟩,
                                 ⟨some 69, .bin (.leq) (.str) (.t 62) (.t 68), some (57, true)⟩,
                                 ⟨some 70, .pick (.t 57) (.t 69) (.c (.bool false)), some (54, false)⟩,
                                 ⟨some 71, .pick (.t 54) (.c (.bool true)) (.t 70), none⟩])
                              (.cond (.t 71) (.seq (.ops [⟨some 2, .mov (.c (.bool false)), none⟩]) (.ret)) (.skip))))
                          (.ops
                            [⟨some 45, .mov (.t 3), none⟩,
                             ⟨some 46, .bin (.add) (.other) (.t 45) (.c (.int (.i64) 1)), none⟩,
                             ⟨some 3, .mov (.t 46), none⟩]))))))
                (.seq (.ops [⟨some 2, .mov (.c (.bool true)), none⟩]) (.ret))))⟩
theorem c15 : cFunc Tryd.prog Tryd.f15 = some sf15 := by kernel_rfl

/-- wharfage/wharfageref00.Same -/
def sf16 : SFunc := ⟨10,
  [.tmp 4],
  .seq
            (.ops [⟨some 4, .mov (.c (.bool false)), none⟩])
            (.seq
              (.ops
                [⟨some 5, .mov (.t 0), none⟩,
                 ⟨some 6, .bytesToStr (.t 5), none⟩,
                 ⟨some 7, .mov (.t 1), none⟩,
                 ⟨some 8, .bytesToStr (.t 7), none⟩,
                 ⟨some 9, .bin (.eql) (.str) (.t 6) (.t 8), none⟩,
                 ⟨some 4, .mov (.t 9), none⟩])
              (.ret))⟩
theorem c16 : cFunc Tryd.prog Tryd.f16 = some sf16 := by kernel_rfl

/-- wharfage/back.Same -/
def sf17 : SFunc := ⟨66,
  [.tmp 4],
  .seq
            (.ops
              [⟨some 2, .box (.t 0), none⟩,
               ⟨some 3, .box (.t 1), none⟩,
               ⟨some 4, .mov (.c (.bool false)), none⟩])
            (.seq
              (.ops
                [⟨some 5, .fieldAddr 0 (.t 2), none⟩,
                 ⟨some 6, .load false 1 (.t 5), none⟩,
                 ⟨some 7, .fieldAddr 0 (.t 3), none⟩,
                 ⟨some 8, .load false 1 (.t 7), none⟩,
                 ⟨some 9, .bin (.eql) (.other) (.t 6) (.t 8), none⟩,
                 ⟨some 10, .mov (.t 9), none⟩,
                 ⟨some 11, .fieldAddr 1 (.t 2), some (10, true)⟩,
                 ⟨some 12, .load false 1 (.t 11), some (10, true)⟩,
                 ⟨some 13, .fieldAddr 1 (.t 3), some (10, true)⟩,
                 ⟨some 14, .load false 1 (.t 13), some (10, true)⟩,
                 ⟨some 15, .bin (.eql) (.other) (.t 12) (.t 14), some (10, true)⟩,
                 ⟨some 16, .pick (.t 10) (.t 15) (.c (.bool false)), none⟩,
                 ⟨some 17, .mov (.t 16), none⟩,
                 ⟨some 18, .fieldAddr 2 (.t 2), some (17, true)⟩,
                 ⟨some 19, .load false 1 (.t 18), some (17, true)⟩,
                 ⟨some 20, .fieldAddr 2 (.t 3), some (17, true)⟩,
                 ⟨some 21, .load false 1 (.t 20), some (17, true)⟩,
                 ⟨some 22, .bin (.eql) (.other) (.t 19) (.t 21), some (17, true)⟩,
                 ⟨some 23, .pick (.t 17) (.t 22) (.c (.bool false)), none⟩,
                 ⟨some 24, .mov (.t 23), none⟩,
                 ⟨some 25, .fieldAddr 3 (.t 2), some (24, true)⟩,
                 ⟨some 26, .load false 1 (.t 25), some (24, true)⟩,
                 ⟨some 27, .fieldAddr 3 (.t 3), some (24, true)⟩,
                 ⟨some 28, .load false 1 (.t 27), some (24, true)⟩,
                 ⟨some 29, .bin (.eql) (.other) (.t 26) (.t 28), some (24, true)⟩,
                 ⟨some 30, .pick (.t 24) (.t 29) (.c (.bool false)), none⟩,
                 ⟨some 31, .mov (.t 30), none⟩,
                 ⟨some 32, .fieldAddr 12 (.t 2), some (31, true)⟩,
                 ⟨some 33, .load false 1 (.t 32), some (31, true)⟩,
                 ⟨some 34, .fieldAddr 12 (.t 3), some (31, true)⟩,
                 ⟨some 35, .load false 1 (.t 34), some (31, true)⟩,
                 ⟨some 36, .bin (.eql) (.other) (.t 33) (.t 35), some (31, true)⟩,
                 ⟨some 37, .pick (.t 31) (.t 36) (.c (.bool false)), none⟩,
                 ⟨some 38, .mov (.t 37), none⟩,
                 ⟨some 39, .fieldAddr 4 (.t 2), some (38, true)⟩,
                 ⟨some 40, .load true 5 (.t 39), some (38, true)⟩,
                 ⟨some 41, .fieldAddr 4 (.t 3), some (38, true)⟩,
                 ⟨some 42, .load true 5 (.t 41), some (38, true)⟩,
                 ⟨some 43, .eqAgg false [1, 1, 0, 1, 1] (.t 40) (.t 42), some (38, true)⟩,
                 ⟨some 44, .pick (.t 38) (.t 43) (.c (.bool false)), none⟩,
                 ⟨some 45, .mov (.t 44), none⟩,
                 ⟨some 46, .fieldAddr 9 (.t 2), some (45, true)⟩,
                 ⟨some 47, .load false 1 (.t 46), some (45, true)⟩,
                 ⟨some 48, .fieldAddr 9 (.t 3), some (45, true)⟩,
                 ⟨some 49, .load false 1 (.t 48), some (45, true)⟩,
                 ⟨some 50, .bin (.eql) (.other) (.t 47) (.t 49), some (45, true)⟩,
                 ⟨some 51, .pick (.t 45) (.t 50) (.c (.bool false)), none⟩,
                 ⟨some 52, .mov (.t 51), none⟩,
                 ⟨some 53, .fieldAddr 10 (.t 2), some (52, true)⟩,
                 ⟨some 54, .load false 1 (.t 53), some (52, true)⟩,
                 ⟨some 55, .fieldAddr 10 (.t 3), some (52, true)⟩,
                 ⟨some 56, .load false 1 (.t 55), some (52, true)⟩,
                 ⟨some 57, .call 47 [.t 54, .t 56], some (52, true)⟩,
                 ⟨some 58, .pick (.t 52) (.t 57) (.c (.bool false)), none⟩,
                 ⟨some 59, .mov (.t 58), none⟩,
                 ⟨some 60, .fieldAddr 11 (.t 2), some (59, true)⟩,
                 ⟨some 61, .load false 1 (.t 60), some (59, true)⟩,
                 ⟨some 62, .fieldAddr 11 (.t 3), some (59, true)⟩,
                 ⟨some 63, .load false 1 (.t 62), some (59, true)⟩,
                 ⟨some 64, .call 48 [.t 61, .t 63], some (59, true)⟩,
                 ⟨some 65, .pick (.t 59) (.t 64) (.c (.bool false)), none⟩,
                 ⟨some 4, .mov (.t 65), none⟩])
              (.ret))⟩
theorem c17 : cFunc Tryd.prog Tryd.f17 = some sf17 := by kernel_rfl

/-- wharfage/back.Errno -/
def sf18 : SFunc := ⟨13,
  [.tmp 2],
  .seq
            (.ops [⟨some 2, .mov (.c (.int (.i64) 0)), none⟩])
            (.seq
              (.seq
                (.ops
                  [⟨some 6, .call 49 [], none⟩,
                   ⟨some 7, .mov (.t 0), none⟩,
                   ⟨some 8, .lookup false (.int (.i64) 0) true (.t 6) (.t 7), none⟩,
                   ⟨some 5, .mov (.t 8), none⟩,
                   ⟨some 9, .extract (.t 5) 0, none⟩,
                   ⟨some 10, .extract (.t 5) 1, none⟩,
                   ⟨some 3, .mov (.t 9), none⟩,
                   ⟨some 4, .mov (.t 10), none⟩])
                (.seq
                  (.ops [⟨some 11, .mov (.t 4), none⟩])
                  (.cond
                    (.t 11)
                    (.seq (.ops [⟨some 12, .mov (.t 3), none⟩, ⟨some 2, .mov (.t 12), none⟩]) (.ret))
                    (.skip))))
              (.seq (.ops [⟨some 2, .mov (.c (.int (.i64) 2)), none⟩]) (.ret)))⟩
theorem c18 : cFunc Tryd.prog Tryd.f18 = some sf18 := by kernel_rfl

/-- wharfage/wharfageref11.Errno -/
def sf19 : SFunc := ⟨19,
  [.tmp 2],
  .seq
            (.ops [⟨some 2, .mov (.c (.int (.i64) 0)), none⟩])
            (.seq
              (.seq
                (.ops [⟨some 3, .mov (.t 0), none⟩])
                (.block
                  0
                  (.seq
                    (.ops
                      [⟨some 5, .bin (.eql) (.other) (.t 3) (.c (.int (.u8) 0)), none⟩,
                       ⟨some 4, .mov (.t 5), none⟩])
                    (.cond
                      (.t 4)
                      (.seq (.ops [⟨some 2, .mov (.c (.int (.i64) 0)), none⟩]) (.ret))
                      (.seq
                        (.ops
                          [⟨some 7, .bin (.eql) (.other) (.t 3) (.c (.int (.u8) 1)), none⟩,
                           ⟨some 6, .mov (.t 7), none⟩])
                        (.cond
                          (.t 6)
                          (.seq (.ops [⟨some 2, .mov (.c (.int (.i64) 12)), none⟩]) (.ret))
                          (.seq
                            (.ops
                              [⟨some 9, .bin (.eql) (.other) (.t 3) (.c (.int (.u8) 2)), none⟩,
                               ⟨some 8, .mov (.t 9), none⟩])
                            (.cond
                              (.t 8)
                              (.seq (.ops [⟨some 2, .mov (.c (.int (.i64) 7)), none⟩]) (.ret))
                              (.seq
                                (.ops
                                  [⟨some 11, .bin (.eql) (.other) (.t 3) (.c (.int (.u8) 3)), none⟩,
                                   ⟨some 10, .mov (.t 11), none⟩])
                                (.cond
                                  (.t 10)
                                  (.seq (.ops [⟨some 2, .mov (.c (.int (.i64) 8)), none⟩]) (.ret))
                                  (.seq
                                    (.seq
                                      (.ops
                                        [⟨some 13, .bin (.eql) (.other) (.t 3) (.c (.int (.u8) 4)), none⟩,
                                         ⟨some 12, .mov (.t 13), none⟩])
                                      (.cond
                                        (.t 12)
                                        (.skip)
                                        (.ops
                                          [⟨some 14, .bin (.eql) (.other) (.t 3) (.c (.int (.u8) 5)), none⟩,
                                           ⟨some 12, .mov (.t 14), none⟩])))
                                    (.cond
                                      (.t 12)
                                      (.seq (.ops [⟨some 2, .mov (.c (.int (.i64) 13)), none⟩]) (.ret))
                                      (.seq
                                        (.ops
                                          [⟨some 16, .bin (.eql) (.other) (.t 3) (.c (.int (.u8) 6)), none⟩,
                                           ⟨some 15, .mov (.t 16), none⟩])
                                        (.cond
                                          (.t 15)
                                          (.seq (.ops [⟨some 2, .mov (.c (.int (.i64) 14)), none⟩]) (.ret))
                                          (.seq
                                            (.ops
                                              [⟨some 18, .bin (.eql) (.other) (.t 3) (.c (.int (.u8) 7)), none⟩,
                                               ⟨some 17, .mov (.t 18), none⟩])
                                            (.cond
                                              (.t 17)
                                              (.seq (.ops [⟨some 2, .mov (.c (.int (.i64) 10)), none⟩]) (.ret))
                                              (.skip)))))))))))))))))
              (.seq (.ops [⟨some 2, .mov (.c (.int (.i64) 2)), none⟩]) (.ret)))⟩
theorem c19 : cFunc Tryd.prog Tryd.f19 = some sf19 := by kernel_rfl

/-- wharfage/wharfageref00.Left -/
def sf20 : SFunc := ⟨50,
  [.tmp 4],
  .seq
            (.ops [⟨some 4, .mov (.c (.bool false)), none⟩])
            (.seq
              (.seq
                (.ops
                  [⟨some 6, .mov (.t 0), none⟩,
                   ⟨some 7, .mov (.t 1), none⟩,
                   ⟨some 8, .call 16 [.t 6, .t 7], none⟩,
                   ⟨some 9, .un (.not) (.t 8), none⟩,
                   ⟨some 10, .mov (.t 9), none⟩,
                   ⟨some 11, .mov (.t 0), some (10, false)⟩,
                   ⟨some 12, .cap (.t 11), some (10, false)⟩,
                   ⟨some 13, .mov (.t 0), some (10, false)⟩,
                   ⟨some 14, .len (.sl) (.t 13), some (10, false)⟩,
                   ⟨some 15, .bin (.add) (.other) (.t 14) (.c (.int (.i64) 3)), some (10, false)⟩,
                   ⟨some 16, .bin (.lss) (.other) (.t 12) (.t 15), some (10, false)⟩,
                   ⟨some 17, .pick (.t 10) (.c (.bool true)) (.t 16), none⟩])
                (.cond (.t 17) (.seq (.ops [⟨some 4, .mov (.c (.bool false)), none⟩]) (.ret)) (.skip)))
              (.seq
                (.ops
                  [⟨some 18, .mov (.t 0), none⟩,
                   ⟨some 19, .mov (.t 0), none⟩,
                   ⟨some 20, .len (.sl) (.t 19), none⟩,
                   ⟨some 21, .bin (.add) (.other) (.t 20) (.c (.int (.i64) 3)), none⟩,
                   ⟨some 22, .mov (.t 0), none⟩,
                   ⟨some 23, .len (.sl) (.t 22), none⟩,
                   ⟨some 24, .bin (.add) (.other) (.t 23) (.c (.int (.i64) 3)), none⟩,
                   ⟨some 25, .slice 1 (.t 18) none (some (.t 21)) (some (.t 24)), none⟩,
                   ⟨some 5, .mov (.t 25), none⟩])
                (.seq
                  (.ops
                    [⟨some 26, .mov (.t 5), none⟩,
                     ⟨some 27, .mov (.t 0), none⟩,
                     ⟨some 28, .len (.sl) (.t 27), none⟩,
                     ⟨some 29, .idxAddrSl 1 (.t 26) (.t 28), none⟩,
                     ⟨some 30, .load false 1 (.t 29), none⟩,
                     ⟨some 31, .bin (.eql) (.other) (.t 30) (.c (.int (.u8) 9)), none⟩,
                     ⟨some 32, .mov (.t 31), none⟩,
                     ⟨some 33, .mov (.t 5), some (32, true)⟩,
                     ⟨some 34, .mov (.t 0), some (32, true)⟩,
                     ⟨some 35, .len (.sl) (.t 34), some (32, true)⟩,
                     ⟨some 36, .bin (.add) (.other) (.t 35) (.c (.int (.i64) 1)), some (32, true)⟩,
                     ⟨some 37, .idxAddrSl 1 (.t 33) (.t 36), some (32, true)⟩,
                     ⟨some 38, .load false 1 (.t 37), some (32, true)⟩,
                     ⟨some 39, .bin (.eql) (.other) (.t 38) (.c (.int (.u8) 9)), some (32, true)⟩,
                     ⟨some 40, .pick (.t 32) (.t 39) (.c (.bool false)), none⟩,
                     ⟨some 41, .mov (.t 40), none⟩,
                     ⟨some 42, .mov (.t 5), some (41, true)⟩,
                     ⟨some 43, .mov (.t 0), some (41, true)⟩,
                     ⟨some 44, .len (.sl) (.t 43), some (41, true)⟩,
                     ⟨some 45, .bin (.add) (.other) (.t 44) (.c (.int (.i64) 2)), some (41, true)⟩,
                     ⟨some 46, .idxAddrSl 1 (.t 42) (.t 45), some (41, true)⟩,
                     ⟨some 47, .load false 1 (.t 46), some (41, true)⟩,
                     ⟨some 48, .bin (.eql) (.other) (.t 47) (.c (.int (.u8) 9)), some (41, true)⟩,
                     ⟨some 49, .pick (.t 41) (.t 48) (.c (.bool false)), none⟩,
                     ⟨some 4, .mov (.t 49), none⟩])
                  (.ret))))⟩
theorem c20 : cFunc Tryd.prog Tryd.f20 = some sf20 := by kernel_rfl

/-- wharfage/wharfageref00.Texts -/
def sf21 : SFunc := ⟨26,
  [.tmp 4],
  .seq
            (.ops [⟨some 4, .mov (.c (.bool false)), none⟩])
            (.seq
              (.seq
                (.ops
                  [⟨some 6, .mov (.t 0), none⟩,
                   ⟨some 7, .len (.sl) (.t 6), none⟩,
                   ⟨some 8, .mov (.t 1), none⟩,
                   ⟨some 9, .len (.sl) (.t 8), none⟩,
                   ⟨some 10, .bin (.neq) (.other) (.t 7) (.t 9), none⟩])
                (.cond (.t 10) (.seq (.ops [⟨some 4, .mov (.c (.bool false)), none⟩]) (.ret)) (.skip)))
              (.seq
                (.seq
                  (.ops [⟨some 5, .mov (.c (.int (.i64) 0)), none⟩])
                  (.block
                    0
                    (.loop
                      (.seq
                        (.seq
                          (.ops
                            [⟨some 11, .mov (.t 5), none⟩,
                             ⟨some 12, .mov (.t 0), none⟩,
                             ⟨some 13, .len (.sl) (.t 12), none⟩,
                             ⟨some 14, .bin (.lss) (.other) (.t 11) (.t 13), none⟩])
                          (.cond (.t 14) (.skip) (.exit 0)))
                        (.seq
                          (.block
                            1
                            (.seq
                              (.ops
                                [⟨some 17, .mov (.t 0), none⟩,
                                 ⟨some 18, .mov (.t 5), none⟩,
                                 ⟨some 19, .idxAddrSl 1 (.t 17) (.t 18), none⟩,
                                 ⟨some 20, .load false 1 (.t 19), none⟩,
                                 ⟨some 21, .mov (.t 1), none⟩,
                                 ⟨some 22, .mov (.t 5), none⟩,
                                 ⟨some 23, .idxAddrSl 1 (.t 21) (.t 22), none⟩,
                                 ⟨some 24, .load false 1 (.t 23), none⟩,
                                 ⟨some 25, .bin (.neq) (.str) (.t 20) (.t 24), none⟩])
                              (.cond (.t 25) (.seq (.ops [⟨some 4, .mov (.c (.bool false)), none⟩]) (.ret)) (.skip))))
                          (.ops
                            [⟨some 15, .mov (.t 5), none⟩,
                             ⟨some 16, .bin (.add) (.other) (.t 15) (.c (.int (.i64) 1)), none⟩,
                             ⟨some 5, .mov (.t 16), none⟩]))))))
                (.seq (.ops [⟨some 4, .mov (.c (.bool true)), none⟩]) (.ret))))⟩
theorem c21 : cFunc Tryd.prog Tryd.f21 = some sf21 := by kernel_rfl

/-- wharfage/wharfageref00.Copy -/
def sf22 : SFunc := ⟨7,
  [.tmp 2],
  .seq
            (.ops [⟨some 2, .mov (.c (.nilsl)), none⟩])
            (.seq
              (.ops [⟨some 3, .mov (.c (.nilsl)), none⟩])
              (.seq
                (.ops
                  [⟨some 4, .mov (.t 3), none⟩,
                   ⟨some 5, .mov (.t 0), none⟩,
                   ⟨some 6, .append 1 1 (.t 4) (.t 5), none⟩,
                   ⟨some 2, .mov (.t 6), none⟩])
                (.ret)))⟩
theorem c22 : cFunc Tryd.prog Tryd.f22 = some sf22 := by kernel_rfl

/-- wharfage/xdr.NewReader -/
def sf23 : SFunc := ⟨7,
  [.tmp 2],
  .seq
            (.ops [⟨some 2, .mov (.c (.nilptr)), none⟩])
            (.seq
              (.ops
                [⟨some 3, .mov (.t 0), none⟩,
                 ⟨some 4, .call 50 [.t 3], none⟩,
                 ⟨some 5, .build [.nilsl, .int (.i64) 0, .bool false] [(0, 1, .t 4), (2, 1, .c (.bool true))], none⟩,
                 ⟨some 6, .box (.t 5), none⟩,
                 ⟨some 2, .mov (.t 6), none⟩])
              (.ret))⟩
theorem c23 : cFunc Tryd.prog Tryd.f23 = some sf23 := by kernel_rfl

/-- wharfage/back.small -/
def sf24 : SFunc := ⟨6,
  [.tmp 2],
  .seq
            (.ops [⟨some 2, .mov (.c (.int (.u8) 0)), none⟩])
            (.seq
              (.ops
                [⟨some 3, .mov (.t 0), none⟩,
                 ⟨some 4, .min (.t 3) [.c (.int (.u32) 255)], none⟩,
                 ⟨some 5, .convInt (.u8) (.t 4), none⟩,
                 ⟨some 2, .mov (.t 5), none⟩])
              (.ret))⟩
theorem c24 : cFunc Tryd.prog Tryd.f24 = some sf24 := by kernel_rfl

/-- (*wharfage/xdr.Reader).Number -/
def sf25 : SFunc := ⟨6,
  [.tmp 2],
  .seq
            (.ops [⟨some 2, .mov (.c (.int (.u32) 0)), none⟩])
            (.seq
              (.ops
                [⟨some 3, .mov (.t 0), none⟩,
                 ⟨some 4, .call 51 [.t 3, .c (.int (.i64) 4)], none⟩,
                 ⟨some 5, .convInt (.u32) (.t 4), none⟩,
                 ⟨some 2, .mov (.t 5), none⟩])
              (.ret))⟩
theorem c25 : cFunc Tryd.prog Tryd.f25 = some sf25 := by kernel_rfl

/-- (*wharfage/xdr.Reader).Great -/
def sf26 : SFunc := ⟨5,
  [.tmp 2],
  .seq
            (.ops [⟨some 2, .mov (.c (.int (.u64) 0)), none⟩])
            (.seq
              (.ops
                [⟨some 3, .mov (.t 0), none⟩,
                 ⟨some 4, .call 51 [.t 3, .c (.int (.i64) 8)], none⟩,
                 ⟨some 2, .mov (.t 4), none⟩])
              (.ret))⟩
theorem c26 : cFunc Tryd.prog Tryd.f26 = some sf26 := by kernel_rfl

/-- (*wharfage/xdr.Reader).Truth -/
def sf27 : SFunc := ⟨12,
  [.tmp 2],
  .seq
            (.ops [⟨some 2, .mov (.c (.bool false)), none⟩])
            (.seq
              (.ops
                [⟨some 4, .mov (.t 0), none⟩, ⟨some 5, .call 25 [.t 4], none⟩, ⟨some 3, .mov (.t 5), none⟩])
              (.seq
                (.ops
                  [⟨some 6, .mov (.t 0), none⟩,
                   ⟨some 7, .mov (.t 3), none⟩,
                   ⟨some 8, .bin (.gtr) (.other) (.t 7) (.c (.int (.u32) 1)), none⟩,
                   ⟨some 9, .call 52 [.t 6, .t 8, .c (.int (.i64) 5)], none⟩])
                (.seq
                  (.ops
                    [⟨some 10, .mov (.t 3), none⟩,
                     ⟨some 11, .bin (.eql) (.other) (.t 10) (.c (.int (.u32) 1)), none⟩,
                     ⟨some 2, .mov (.t 11), none⟩])
                  (.ret))))⟩
theorem c27 : cFunc Tryd.prog Tryd.f27 = some sf27 := by kernel_rfl

/-- (*wharfage/xdr.Reader).Bytes -/
def sf28 : SFunc := ⟨73,
  [.tmp 4],
  .seq
            (.ops [⟨some 4, .mov (.c (.nilsl)), none⟩])
            (.seq
              (.ops
                [⟨some 9, .mov (.t 0), none⟩,
                 ⟨some 10, .call 25 [.t 9], none⟩,
                 ⟨some 11, .convInt (.u64) (.t 10), none⟩,
                 ⟨some 5, .mov (.t 11), none⟩])
              (.seq
                (.ops
                  [⟨some 12, .mov (.t 0), none⟩,
                   ⟨some 13, .mov (.t 5), none⟩,
                   ⟨some 14, .mov (.t 1), none⟩,
                   ⟨some 15, .max (.t 14) [.c (.int (.i64) 0)], none⟩,
                   ⟨some 16, .convInt (.u64) (.t 15), none⟩,
                   ⟨some 17, .bin (.gtr) (.other) (.t 13) (.t 16), none⟩,
                   ⟨some 18, .call 52 [.t 12, .t 17, .c (.int (.i64) 3)], none⟩])
                (.seq
                  (.seq
                    (.ops
                      [⟨some 19, .mov (.t 0), none⟩,
                       ⟨some 20, .call 53 [.t 19], none⟩,
                       ⟨some 21, .un (.not) (.t 20), none⟩])
                    (.cond (.t 21) (.seq (.ops [⟨some 4, .mov (.c (.nilsl)), none⟩]) (.ret)) (.skip)))
                  (.seq
                    (.ops
                      [⟨some 22, .mov (.t 5), none⟩,
                       ⟨some 23, .convInt (.i64) (.t 22), none⟩,
                       ⟨some 24, .mov (.t 5), none⟩,
                       ⟨some 25, .convInt (.i64) (.t 24), none⟩,
                       ⟨some 26, .call 54 [.t 25], none⟩,
                       ⟨some 6, .mov (.t 23), none⟩,
                       ⟨some 7, .mov (.t 26), none⟩])
                    (.seq
                      (.ops
                        [⟨some 27, .mov (.t 0), none⟩,
                         ⟨some 28, .mov (.t 0), none⟩,
                         ⟨some 29, .nilChk (.t 28), none⟩,
                         ⟨some 30, .fieldAddr 0 (.t 29), none⟩,
                         ⟨some 31, .load false 1 (.t 30), none⟩,
                         ⟨some 32, .len (.sl) (.t 31), none⟩,
                         ⟨some 33, .mov (.t 6), none⟩,
                         ⟨some 34, .mov (.t 7), none⟩,
                         ⟨some 35, .bin (.add) (.other) (.t 33) (.t 34), none⟩,
                         ⟨some 36, .bin (.lss) (.other) (.t 32) (.t 35), none⟩,
                         ⟨some 37, .call 52 [.t 27, .t 36, .c (.int (.i64) 4)], none⟩])
                      (.seq
                        (.seq
                          (.ops
                            [⟨some 38, .mov (.t 0), none⟩,
                             ⟨some 39, .call 53 [.t 38], none⟩,
                             ⟨some 40, .un (.not) (.t 39), none⟩])
                          (.cond (.t 40) (.seq (.ops [⟨some 4, .mov (.c (.nilsl)), none⟩]) (.ret)) (.skip)))
                        (.seq
                          (.ops
                            [⟨some 41, .mov (.t 0), none⟩,
                             ⟨some 42, .mov (.t 0), none⟩,
                             ⟨some 43, .nilChk (.t 42), none⟩,
                             ⟨some 44, .fieldAddr 0 (.t 43), none⟩,
                             ⟨some 45, .load false 1 (.t 44), none⟩,
                             ⟨some 46, .mov (.t 6), none⟩,
                             ⟨some 47, .mov (.t 7), none⟩,
                             ⟨some 48, .call 55 [.t 45, .t 46, .t 47], none⟩,
                             ⟨some 49, .bin (.neq) (.other) (.t 48) (.c (.int (.i64) 0)), none⟩,
                             ⟨some 50, .call 52 [.t 41, .t 49, .c (.int (.i64) 5)], none⟩])
                          (.seq
                            (.seq
                              (.ops
                                [⟨some 51, .mov (.t 0), none⟩,
                                 ⟨some 52, .call 53 [.t 51], none⟩,
                                 ⟨some 53, .un (.not) (.t 52), none⟩])
                              (.cond (.t 53) (.seq (.ops [⟨some 4, .mov (.c (.nilsl)), none⟩]) (.ret)) (.skip)))
                            (.seq
                              (.ops
                                [⟨some 54, .mov (.t 0), none⟩,
                                 ⟨some 55, .nilChk (.t 54), none⟩,
                                 ⟨some 56, .fieldAddr 0 (.t 55), none⟩,
                                 ⟨some 57, .load false 1 (.t 56), none⟩,
                                 ⟨some 58, .mov (.t 6), none⟩,
                                 ⟨some 59, .slice 1 (.t 57) none (some (.t 58)) none, none⟩,
                                 ⟨some 60, .call 50 [.t 59], none⟩,
                                 ⟨some 8, .mov (.t 60), none⟩])
                              (.seq
                                (.ops
                                  [⟨some 61, .mov (.t 0), none⟩,
                                   ⟨some 62, .mov (.t 0), none⟩,
                                   ⟨some 63, .nilChk (.t 62), none⟩,
                                   ⟨some 64, .fieldAddr 0 (.t 63), none⟩,
                                   ⟨some 65, .load false 1 (.t 64), none⟩,
                                   ⟨some 66, .mov (.t 6), none⟩,
                                   ⟨some 67, .mov (.t 7), none⟩,
                                   ⟨some 68, .bin (.add) (.other) (.t 66) (.t 67), none⟩,
                                   ⟨some 69, .slice 1 (.t 65) (some (.t 68)) none none, none⟩,
                                   ⟨some 70, .nilChk (.t 61), none⟩,
                                   ⟨some 71, .fieldAddr 0 (.t 70), none⟩,
                                   ⟨none, .store 1 (.t 71) (.t 69), none⟩])
                                (.seq (.ops [⟨some 72, .mov (.t 8), none⟩, ⟨some 4, .mov (.t 72), none⟩]) (.ret))))))))))))⟩
theorem c28 : cFunc Tryd.prog Tryd.f28 = some sf28 := by kernel_rfl

/-- (*wharfage/xdr.Reader).Error -/
def sf29 : SFunc := ⟨9,
  [.tmp 2],
  .seq
            (.ops [⟨some 2, .mov (.c (.int (.i64) 0)), none⟩])
            (.seq
              (.seq
                (.ops [⟨some 3, .mov (.t 0), none⟩, ⟨some 4, .call 56 [.t 3], none⟩])
                (.cond (.t 4) (.seq (.ops [⟨some 2, .mov (.c (.int (.i64) 4)), none⟩]) (.ret)) (.skip)))
              (.seq
                (.ops
                  [⟨some 5, .mov (.t 0), none⟩,
                   ⟨some 6, .nilChk (.t 5), none⟩,
                   ⟨some 7, .fieldAddr 1 (.t 6), none⟩,
                   ⟨some 8, .load false 1 (.t 7), none⟩,
                   ⟨some 2, .mov (.t 8), none⟩])
                (.ret)))⟩
theorem c29 : cFunc Tryd.prog Tryd.f29 = some sf29 := by kernel_rfl

/-- (*wharfage/xdr.Reader).End -/
def sf30 : SFunc := ⟨15,
  [.tmp 2],
  .seq
            (.ops [⟨some 2, .mov (.c (.int (.i64) 0)), none⟩])
            (.seq
              (.seq
                (.ops
                  [⟨some 3, .mov (.t 0), none⟩,
                   ⟨some 4, .call 53 [.t 3], none⟩,
                   ⟨some 5, .mov (.t 4), none⟩,
                   ⟨some 6, .mov (.t 0), some (5, true)⟩,
                   ⟨some 7, .nilChk (.t 6), some (5, true)⟩,
                   ⟨some 8, .fieldAddr 0 (.t 7), some (5, true)⟩,
                   ⟨some 9, .load false 1 (.t 8), some (5, true)⟩,
                   ⟨some 10, .len (.sl) (.t 9), some (5, true)⟩,
                   ⟨some 11, .bin (.gtr) (.other) (.t 10) (.c (.int (.i64) 0)), some (5, true)⟩,
                   ⟨some 12, .pick (.t 5) (.t 11) (.c (.bool false)), none⟩])
                (.cond (.t 12) (.seq (.ops [⟨some 2, .mov (.c (.int (.i64) 5)), none⟩]) (.ret)) (.skip)))
              (.seq
                (.ops
                  [⟨some 13, .mov (.t 0), none⟩, ⟨some 14, .call 29 [.t 13], none⟩, ⟨some 2, .mov (.t 14), none⟩])
                (.ret)))⟩
theorem c30 : cFunc Tryd.prog Tryd.f30 = some sf30 := by kernel_rfl

/-- (*wharfage/xdr.Writer).Number -/
def sf31 : SFunc := ⟨8,
  [],
  .ops
            [⟨some 4, .mov (.t 0), none⟩,
             ⟨some 5, .mov (.t 1), none⟩,
             ⟨some 6, .convInt (.u64) (.t 5), none⟩,
             ⟨some 7, .call 57 [.t 4, .t 6, .c (.int (.i64) 4)], none⟩]⟩
theorem c31 : cFunc Tryd.prog Tryd.f31 = some sf31 := by kernel_rfl

/-- (*wharfage/xdr.Writer).Great -/
def sf32 : SFunc := ⟨7,
  [],
  .ops
            [⟨some 4, .mov (.t 0), none⟩,
             ⟨some 5, .mov (.t 1), none⟩,
             ⟨some 6, .call 57 [.t 4, .t 5, .c (.int (.i64) 8)], none⟩]⟩
theorem c32 : cFunc Tryd.prog Tryd.f32 = some sf32 := by kernel_rfl

/-- (*wharfage/xdr.Writer).Truth -/
def sf33 : SFunc := ⟨9,
  [],
  .seq
            (.seq
              (.ops [⟨some 4, .mov (.t 1), none⟩])
              (.cond
                (.t 4)
                (.seq
                  (.ops [⟨some 5, .mov (.t 0), none⟩, ⟨some 6, .call 31 [.t 5, .c (.int (.u32) 1)], none⟩])
                  (.ret))
                (.skip)))
            (.ops [⟨some 7, .mov (.t 0), none⟩, ⟨some 8, .call 31 [.t 7, .c (.int (.u32) 0)], none⟩])⟩
theorem c33 : cFunc Tryd.prog Tryd.f33 = some sf33 := by kernel_rfl

/-- (*wharfage/xdr.Writer).Bytes -/
def sf34 : SFunc := ⟨18,
  [],
  .seq
            (.ops
              [⟨some 4, .mov (.t 0), none⟩,
               ⟨some 5, .mov (.t 1), none⟩,
               ⟨some 6, .len (.sl) (.t 5), none⟩,
               ⟨some 7, .convInt (.u32) (.t 6), none⟩,
               ⟨some 8, .call 31 [.t 4, .t 7], none⟩])
            (.seq
              (.ops
                [⟨some 9, .mov (.t 0), none⟩,
                 ⟨some 10, .mov (.t 1), none⟩,
                 ⟨some 11, .call 58 [.t 9, .t 10], none⟩])
              (.ops
                [⟨some 12, .mov (.t 0), none⟩,
                 ⟨some 13, .mov (.t 1), none⟩,
                 ⟨some 14, .len (.sl) (.t 13), none⟩,
                 ⟨some 15, .call 54 [.t 14], none⟩,
                 ⟨some 16, .mkSlice [.int (.u8) 0] 1 1 (.t 15) (.t 15), none⟩,
                 ⟨some 17, .call 58 [.t 12, .t 16], none⟩]))⟩
theorem c34 : cFunc Tryd.prog Tryd.f34 = some sf34 := by kernel_rfl

/-- (*wharfage/xdr.Writer).Bare -/
def sf35 : SFunc := ⟨10,
  [.tmp 2],
  .seq
            (.ops [⟨some 2, .mov (.c (.nilsl)), none⟩])
            (.seq
              (.seq
                (.ops [⟨some 3, .mov (.t 0), none⟩, ⟨some 4, .bin (.eql) (.ptr) (.t 3) (.c (.nilptr)), none⟩])
                (.cond (.t 4) (.seq (.ops [⟨some 2, .mov (.c (.nilsl)), none⟩]) (.ret)) (.skip)))
              (.seq
                (.ops
                  [⟨some 5, .mov (.t 0), none⟩,
                   ⟨some 6, .nilChk (.t 5), none⟩,
                   ⟨some 7, .fieldAddr 0 (.t 6), none⟩,
                   ⟨some 8, .load false 1 (.t 7), none⟩,
                   ⟨some 9, .call 50 [.t 8], none⟩,
                   ⟨some 2, .mov (.t 9), none⟩])
                (.ret)))⟩
theorem c35 : cFunc Tryd.prog Tryd.f35 = some sf35 := by kernel_rfl

/-- wharfage/wharfageref09.Number -/
def sf36 : SFunc := ⟨12,
  [.tmp 2],
  .seq
            (.ops [⟨some 2, .mov (.c (.nilsl)), none⟩])
            (.seq
              (.ops
                [⟨some 6, .mov (.t 0), none⟩,
                 ⟨some 7, .convInt (.u64) (.t 6), none⟩,
                 ⟨some 8, .call 59 [.t 7, .c (.int (.i64) 4)], none⟩,
                 ⟨some 5, .mov (.t 8), none⟩,
                 ⟨some 9, .extract (.t 5) 0, none⟩,
                 ⟨some 10, .extract (.t 5) 1, none⟩,
                 ⟨some 3, .mov (.t 9), none⟩,
                 ⟨some 4, .mov (.t 10), none⟩])
              (.seq (.ops [⟨some 11, .mov (.t 3), none⟩, ⟨some 2, .mov (.t 11), none⟩]) (.ret)))⟩
theorem c36 : cFunc Tryd.prog Tryd.f36 = some sf36 := by kernel_rfl

/-- wharfage/wharfageref09.Great -/
def sf37 : SFunc := ⟨11,
  [.tmp 2],
  .seq
            (.ops [⟨some 2, .mov (.c (.nilsl)), none⟩])
            (.seq
              (.ops
                [⟨some 6, .mov (.t 0), none⟩,
                 ⟨some 7, .call 59 [.t 6, .c (.int (.i64) 8)], none⟩,
                 ⟨some 5, .mov (.t 7), none⟩,
                 ⟨some 8, .extract (.t 5) 0, none⟩,
                 ⟨some 9, .extract (.t 5) 1, none⟩,
                 ⟨some 3, .mov (.t 8), none⟩,
                 ⟨some 4, .mov (.t 9), none⟩])
              (.seq (.ops [⟨some 10, .mov (.t 3), none⟩, ⟨some 2, .mov (.t 10), none⟩]) (.ret)))⟩
theorem c37 : cFunc Tryd.prog Tryd.f37 = some sf37 := by kernel_rfl

/-- wharfage/wharfageref09.Truth -/
def sf38 : SFunc := ⟨6,
  [.tmp 2],
  .seq
            (.ops [⟨some 2, .mov (.c (.nilsl)), none⟩])
            (.seq
              (.seq
                (.ops [⟨some 3, .mov (.t 0), none⟩])
                (.cond
                  (.t 3)
                  (.seq
                    (.ops [⟨some 4, .call 36 [.c (.int (.u32) 1)], none⟩, ⟨some 2, .mov (.t 4), none⟩])
                    (.ret))
                  (.skip)))
              (.seq (.ops [⟨some 5, .call 36 [.c (.int (.u32) 0)], none⟩, ⟨some 2, .mov (.t 5), none⟩]) (.ret)))⟩
theorem c38 : cFunc Tryd.prog Tryd.f38 = some sf38 := by kernel_rfl

/-- wharfage/wharfageref09.Bytes -/
def sf39 : SFunc := ⟨23,
  [.tmp 2],
  .seq
            (.ops [⟨some 2, .mov (.c (.nilsl)), none⟩])
            (.seq
              (.ops
                [⟨some 5, .mov (.t 0), none⟩,
                 ⟨some 6, .len (.sl) (.t 5), none⟩,
                 ⟨some 7, .convInt (.u32) (.t 6), none⟩,
                 ⟨some 8, .call 36 [.t 7], none⟩,
                 ⟨some 3, .mov (.t 8), none⟩])
              (.seq
                (.ops
                  [⟨some 9, .mov (.t 3), none⟩,
                   ⟨some 10, .mov (.t 0), none⟩,
                   ⟨some 11, .append 1 1 (.t 9) (.t 10), none⟩,
                   ⟨some 3, .mov (.t 11), none⟩])
                (.seq
                  (.seq
                    (.ops [⟨some 4, .mov (.c (.int (.i64) 0)), none⟩])
                    (.block
                      0
                      (.loop
                        (.seq
                          (.seq
                            (.ops
                              [⟨some 12, .mov (.t 4), none⟩,
                               ⟨some 13, .mov (.t 0), none⟩,
                               ⟨some 14, .len (.sl) (.t 13), none⟩,
                               ⟨some 15, .call 60 [.t 14], none⟩,
                               ⟨some 16, .bin (.lss) (.other) (.t 12) (.t 15), none⟩])
                            (.cond (.t 16) (.skip) (.exit 0)))
                          (.seq
                            (.block
                              1
                              (.ops
                                [⟨some 19, .mov (.t 3), none⟩,
                                 ⟨some 20, .buildSlice [.int (.u8) 0] 1 1 [(0, 1, .c (.int (.u8) 0))], none⟩,
                                 ⟨some 21, .append 1 1 (.t 19) (.t 20), none⟩,
                                 ⟨some 3, .mov (.t 21), none⟩]))
                            (.ops
                              [⟨some 17, .mov (.t 4), none⟩,
                               ⟨some 18, .bin (.add) (.other) (.t 17) (.c (.int (.i64) 1)), none⟩,
                               ⟨some 4, .mov (.t 18), none⟩]))))))
                  (.seq (.ops [⟨some 22, .mov (.t 3), none⟩, ⟨some 2, .mov (.t 22), none⟩]) (.ret)))))⟩
theorem c39 : cFunc Tryd.prog Tryd.f39 = some sf39 := by kernel_rfl

/-- (*wharfage/wharfageref09.Reader).Number -/
def sf40 : SFunc := ⟨6,
  [.tmp 2],
  .seq
            (.ops [⟨some 2, .mov (.c (.int (.u32) 0)), none⟩])
            (.seq
              (.ops
                [⟨some 3, .mov (.t 0), none⟩,
                 ⟨some 4, .call 61 [.t 3, .c (.int (.i64) 4)], none⟩,
                 ⟨some 5, .convInt (.u32) (.t 4), none⟩,
                 ⟨some 2, .mov (.t 5), none⟩])
              (.ret))⟩
theorem c40 : cFunc Tryd.prog Tryd.f40 = some sf40 := by kernel_rfl

/-- (*wharfage/wharfageref09.Reader).Great -/
def sf41 : SFunc := ⟨5,
  [.tmp 2],
  .seq
            (.ops [⟨some 2, .mov (.c (.int (.u64) 0)), none⟩])
            (.seq
              (.ops
                [⟨some 3, .mov (.t 0), none⟩,
                 ⟨some 4, .call 61 [.t 3, .c (.int (.i64) 8)], none⟩,
                 ⟨some 2, .mov (.t 4), none⟩])
              (.ret))⟩
theorem c41 : cFunc Tryd.prog Tryd.f41 = some sf41 := by kernel_rfl

/-- (*wharfage/wharfageref09.Reader).Truth -/
def sf42 : SFunc := ⟨13,
  [.tmp 2],
  .seq
            (.ops [⟨some 2, .mov (.c (.bool false)), none⟩])
            (.seq
              (.ops
                [⟨some 4, .mov (.t 0), none⟩,
                 ⟨some 5, .call 61 [.t 4, .c (.int (.i64) 4)], none⟩,
                 ⟨some 3, .mov (.t 5), none⟩])
              (.seq
                (.seq
                  (.ops
                    [⟨some 6, .mov (.t 3), none⟩,
                     ⟨some 7, .bin (.gtr) (.other) (.t 6) (.c (.int (.u64) 1)), none⟩])
                  (.cond
                    (.t 7)
                    (.ops
                      [⟨some 8, .mov (.t 0), none⟩,
                       ⟨some 9, .nilChk (.t 8), none⟩,
                       ⟨some 10, .fieldAddr 2 (.t 9), none⟩,
                       ⟨none, .store 1 (.t 10) (.c (.int (.i64) 5)), none⟩])
                    (.skip)))
                (.seq
                  (.ops
                    [⟨some 11, .mov (.t 3), none⟩,
                     ⟨some 12, .bin (.eql) (.other) (.t 11) (.c (.int (.u64) 1)), none⟩,
                     ⟨some 2, .mov (.t 12), none⟩])
                  (.ret))))⟩
theorem c42 : cFunc Tryd.prog Tryd.f42 = some sf42 := by kernel_rfl

/-- (*wharfage/wharfageref09.Reader).Bytes -/
def sf43 : SFunc := ⟨94,
  [.tmp 4],
  .seq
            (.ops [⟨some 4, .mov (.c (.nilsl)), none⟩])
            (.seq
              (.ops
                [⟨some 9, .mov (.t 0), none⟩,
                 ⟨some 10, .call 61 [.t 9, .c (.int (.i64) 4)], none⟩,
                 ⟨some 5, .mov (.t 10), none⟩])
              (.seq
                (.seq
                  (.ops
                    [⟨some 11, .mov (.t 0), none⟩,
                     ⟨some 12, .nilChk (.t 11), none⟩,
                     ⟨some 13, .fieldAddr 2 (.t 12), none⟩,
                     ⟨some 14, .load false 1 (.t 13), none⟩,
                     ⟨some 15, .bin (.neq) (.other) (.t 14) (.c (.int (.i64) 0)), none⟩])
                  (.cond (.t 15) (.seq (.ops [⟨some 4, .mov (.c (.nilsl)), none⟩]) (.ret)) (.skip)))
                (.seq
                  (.seq
                    (.ops
                      [⟨some 16, .mov (.t 1), none⟩,
                       ⟨some 17, .bin (.lss) (.other) (.t 16) (.c (.int (.i64) 0)), none⟩])
                    (.cond (.t 17) (.ops [⟨some 1, .mov (.c (.int (.i64) 0)), none⟩]) (.skip)))
                  (.seq
                    (.seq
                      (.ops
                        [⟨some 18, .mov (.t 5), none⟩,
                         ⟨some 19, .mov (.t 1), none⟩,
                         ⟨some 20, .convInt (.u64) (.t 19), none⟩,
                         ⟨some 21, .bin (.gtr) (.other) (.t 18) (.t 20), none⟩])
                      (.cond
                        (.t 21)
                        (.seq
                          (.ops
                            [⟨some 22, .mov (.t 0), none⟩,
                             ⟨some 23, .nilChk (.t 22), none⟩,
                             ⟨some 24, .fieldAddr 2 (.t 23), none⟩,
                             ⟨none, .store 1 (.t 24) (.c (.int (.i64) 3)), none⟩])
                          (.seq (.ops [⟨some 4, .mov (.c (.nilsl)), none⟩]) (.ret)))
                        (.skip)))
                    (.seq
                      (.ops
                        [⟨some 25, .mov (.t 5), none⟩,
                         ⟨some 26, .convInt (.i64) (.t 25), none⟩,
                         ⟨some 6, .mov (.t 26), none⟩])
                      (.seq
                        (.ops
                          [⟨some 27, .mov (.t 6), none⟩,
                           ⟨some 28, .call 60 [.t 27], none⟩,
                           ⟨some 7, .mov (.t 28), none⟩])
                        (.seq
                          (.seq
                            (.ops
                              [⟨some 29, .mov (.t 0), none⟩,
                               ⟨some 30, .nilChk (.t 29), none⟩,
                               ⟨some 31, .fieldAddr 0 (.t 30), none⟩,
                               ⟨some 32, .load false 1 (.t 31), none⟩,
                               ⟨some 33, .len (.sl) (.t 32), none⟩,
                               ⟨some 34, .mov (.t 0), none⟩,
                               ⟨some 35, .nilChk (.t 34), none⟩,
                               ⟨some 36, .fieldAddr 1 (.t 35), none⟩,
                               ⟨some 37, .load false 1 (.t 36), none⟩,
                               ⟨some 38, .bin (.sub) (.other) (.t 33) (.t 37), none⟩,
                               ⟨some 39, .mov (.t 6), none⟩,
                               ⟨some 40, .mov (.t 7), none⟩,
                               ⟨some 41, .bin (.add) (.other) (.t 39) (.t 40), none⟩,
                               ⟨some 42, .bin (.lss) (.other) (.t 38) (.t 41), none⟩])
                            (.cond
                              (.t 42)
                              (.seq
                                (.ops
                                  [⟨some 43, .mov (.t 0), none⟩,
                                   ⟨some 44, .nilChk (.t 43), none⟩,
                                   ⟨some 45, .fieldAddr 2 (.t 44), none⟩,
                                   ⟨none, .store 1 (.t 45) (.c (.int (.i64) 4)), none⟩])
                                (.seq (.ops [⟨some 4, .mov (.c (.nilsl)), none⟩]) (.ret)))
                              (.skip)))
                          (.seq
                            (.ops
                              [⟨some 46, .mov (.t 0), none⟩,
                               ⟨some 47, .mov (.t 0), none⟩,
                               ⟨some 48, .nilChk (.t 47), none⟩,
                               ⟨some 49, .fieldAddr 0 (.t 48), none⟩,
                               ⟨some 50, .load false 1 (.t 49), none⟩,
                               ⟨some 51, .mov (.t 0), none⟩,
                               ⟨some 52, .nilChk (.t 51), none⟩,
                               ⟨some 53, .fieldAddr 1 (.t 52), none⟩,
                               ⟨some 54, .load false 1 (.t 53), none⟩,
                               ⟨some 55, .mov (.t 6), none⟩,
                               ⟨some 56, .bin (.add) (.other) (.t 54) (.t 55), none⟩,
                               ⟨some 57, .mov (.t 7), none⟩,
                               ⟨some 58, .call 62 [.t 50, .t 56, .t 57], none⟩,
                               ⟨some 59, .nilChk (.t 46), none⟩,
                               ⟨some 60, .fieldAddr 2 (.t 59), none⟩,
                               ⟨none, .store 1 (.t 60) (.t 58), none⟩])
                            (.seq
                              (.seq
                                (.ops
                                  [⟨some 61, .mov (.t 0), none⟩,
                                   ⟨some 62, .nilChk (.t 61), none⟩,
                                   ⟨some 63, .fieldAddr 2 (.t 62), none⟩,
                                   ⟨some 64, .load false 1 (.t 63), none⟩,
                                   ⟨some 65, .bin (.neq) (.other) (.t 64) (.c (.int (.i64) 0)), none⟩])
                                (.cond (.t 65) (.seq (.ops [⟨some 4, .mov (.c (.nilsl)), none⟩]) (.ret)) (.skip)))
                              (.seq
                                (.ops
                                  [⟨some 66, .mov (.t 0), none⟩,
                                   ⟨some 67, .nilChk (.t 66), none⟩,
                                   ⟨some 68, .fieldAddr 0 (.t 67), none⟩,
                                   ⟨some 69, .load false 1 (.t 68), none⟩,
                                   ⟨some 70, .mov (.t 0), none⟩,
                                   ⟨some 71, .nilChk (.t 70), none⟩,
                                   ⟨some 72, .fieldAddr 1 (.t 71), none⟩,
                                   ⟨some 73, .load false 1 (.t 72), none⟩,
                                   ⟨some 74, .mov (.t 0), none⟩,
                                   ⟨some 75, .nilChk (.t 74), none⟩,
                                   ⟨some 76, .fieldAddr 1 (.t 75), none⟩,
                                   ⟨some 77, .load false 1 (.t 76), none⟩,
                                   ⟨some 78, .mov (.t 6), none⟩,
                                   ⟨some 79, .bin (.add) (.other) (.t 77) (.t 78), none⟩,
                                   ⟨some 80, .slice 1 (.t 69) (some (.t 73)) (some (.t 79)) none, none⟩,
                                   ⟨some 81, .call 22 [.t 80], none⟩,
                                   ⟨some 8, .mov (.t 81), none⟩])
                                (.seq
                                  (.ops
                                    [⟨some 82, .mov (.t 0), none⟩,
                                     ⟨some 83, .mov (.t 0), none⟩,
                                     ⟨some 84, .nilChk (.t 83), none⟩,
                                     ⟨some 85, .fieldAddr 1 (.t 84), none⟩,
                                     ⟨some 86, .load false 1 (.t 85), none⟩,
                                     ⟨some 87, .mov (.t 6), none⟩,
                                     ⟨some 88, .bin (.add) (.other) (.t 86) (.t 87), none⟩,
                                     ⟨some 89, .mov (.t 7), none⟩,
                                     ⟨some 90, .bin (.add) (.other) (.t 88) (.t 89), none⟩,
                                     ⟨some 91, .nilChk (.t 82), none⟩,
                                     ⟨some 92, .fieldAddr 1 (.t 91), none⟩,
                                     ⟨none, .store 1 (.t 92) (.t 90), none⟩])
                                  (.seq (.ops [⟨some 93, .mov (.t 8), none⟩, ⟨some 4, .mov (.t 93), none⟩]) (.ret)))))))))))))⟩
theorem c43 : cFunc Tryd.prog Tryd.f43 = some sf43 := by kernel_rfl

/-- (*wharfage/wharfageref09.Reader).End -/
def sf44 : SFunc := ⟨24,
  [.tmp 2],
  .seq
            (.ops [⟨some 2, .mov (.c (.int (.i64) 0)), none⟩])
            (.seq
              (.seq
                (.ops
                  [⟨some 3, .mov (.t 0), none⟩,
                   ⟨some 4, .nilChk (.t 3), none⟩,
                   ⟨some 5, .fieldAddr 2 (.t 4), none⟩,
                   ⟨some 6, .load false 1 (.t 5), none⟩,
                   ⟨some 7, .bin (.eql) (.other) (.t 6) (.c (.int (.i64) 0)), none⟩,
                   ⟨some 8, .mov (.t 7), none⟩,
                   ⟨some 9, .mov (.t 0), some (8, true)⟩,
                   ⟨some 10, .nilChk (.t 9), some (8, true)⟩,
                   ⟨some 11, .fieldAddr 1 (.t 10), some (8, true)⟩,
                   ⟨some 12, .load false 1 (.t 11), some (8, true)⟩,
                   ⟨some 13, .mov (.t 0), some (8, true)⟩,
                   ⟨some 14, .nilChk (.t 13), some (8, true)⟩,
                   ⟨some 15, .fieldAddr 0 (.t 14), some (8, true)⟩,
                   ⟨some 16, .load false 1 (.t 15), some (8, true)⟩,
                   ⟨some 17, .len (.sl) (.t 16), some (8, true)⟩,
                   ⟨some 18, .bin (.lss) (.other) (.t 12) (.t 17), some (8, true)⟩,
                   ⟨some 19, .pick (.t 8) (.t 18) (.c (.bool false)), none⟩])
                (.cond (.t 19) (.seq (.ops [⟨some 2, .mov (.c (.int (.i64) 5)), none⟩]) (.ret)) (.skip)))
              (.seq
                (.ops
                  [⟨some 20, .mov (.t 0), none⟩,
                   ⟨some 21, .nilChk (.t 20), none⟩,
                   ⟨some 22, .fieldAddr 2 (.t 21), none⟩,
                   ⟨some 23, .load false 1 (.t 22), none⟩,
                   ⟨some 2, .mov (.t 23), none⟩])
                (.ret)))⟩
theorem c44 : cFunc Tryd.prog Tryd.f44 = some sf44 := by kernel_rfl

/-- wharfage/name.Is -/
def sf45 : SFunc := ⟨26,
  [.tmp 2],
  .seq
            (.ops [⟨some 2, .mov (.c (.bool false)), none⟩])
            (.seq
              (.seq
                (.ops
                  [⟨some 5, .mov (.t 0), none⟩,
                   ⟨some 6, .bin (.eql) (.str) (.t 5) (.c (.str [])), none⟩,
                   ⟨some 7, .mov (.t 6), none⟩,
                   ⟨some 8, .mov (.t 0), some (7, false)⟩,
                   ⟨some 9, .len (.str) (.t 8), some (7, false)⟩,
                   ⟨some 10, .bin (.gtr) (.other) (.t 9) (.c (.int (.i64) 32)), some (7, false)⟩,
                   ⟨some 11, .pick (.t 7) (.c (.bool true)) (.t 10), none⟩,
                   ⟨some 12, .mov (.t 11), none⟩,
                   ⟨some 13, .mov (.t 0), some (12, false)⟩,
                   ⟨some 14, .bin (.eql) (.str) (.t 13) (.c (.str [46])), some (12, false)⟩,
                   ⟨some 15, .pick (.t 12) (.c (.bool true)) (.t 14), none⟩,
                   ⟨some 16, .mov (.t 15), none⟩,
                   ⟨some 17, .mov (.t 0), some (16, false)⟩,
                   ⟨some 18, .bin (.eql) (.str) (.t 17) (.c (.str [46, 46])), some (16, false)⟩,
                   ⟨some 19, .pick (.t 16) (.c (.bool true)) (.t 18), none⟩])
                (.cond (.t 19) (.seq (.ops [⟨some 2, .mov (.c (.bool false)), none⟩]) (.ret)) (.skip)))
              (.seq
                (.ops
                  [⟨some 21, .mov (.t 0), none⟩,
                   ⟨some 22, .call 63 [.t 21, .c (.func 64 [] [])], none⟩,
                   ⟨some 20, .mov (.t 22), none⟩,
                   ⟨some 23, .extract (.t 20) 0, none⟩,
                   ⟨some 24, .extract (.t 20) 1, none⟩,
                   ⟨some 3, .mov (.t 23), none⟩,
                   ⟨some 4, .mov (.t 24), none⟩])
                (.seq (.ops [⟨some 25, .mov (.t 4), none⟩, ⟨some 2, .mov (.t 25), none⟩]) (.ret))))⟩
theorem c45 : cFunc Tryd.prog Tryd.f45 = some sf45 := by kernel_rfl

/-- wharfage/wharfageref02.Is -/
def sf46 : SFunc := ⟨50,
  [.tmp 2],
  .seq
            (.ops [⟨some 2, .mov (.c (.bool false)), none⟩])
            (.seq
              (.seq
                (.ops
                  [⟨some 6, .mov (.t 0), none⟩,
                   ⟨some 7, .len (.str) (.t 6), none⟩,
                   ⟨some 8, .bin (.lss) (.other) (.t 7) (.c (.int (.i64) 1)), none⟩,
                   ⟨some 9, .mov (.t 8), none⟩,
                   ⟨some 10, .mov (.t 0), some (9, false)⟩,
                   ⟨some 11, .len (.str) (.t 10), some (9, false)⟩,
                   ⟨some 12, .bin (.gtr) (.other) (.t 11) (.c (.int (.i64) 32)), some (9, false)⟩,
                   ⟨some 13, .pick (.t 9) (.c (.bool true)) (.t 12), none⟩,
                   ⟨some 14, .mov (.t 13), none⟩,
                   ⟨some 15, .mov (.t 0), some (14, false)⟩,
                   ⟨some 16, .bin (.eql) (.str) (.t 15) (.c (.str [46])), some (14, false)⟩,
                   ⟨some 17, .pick (.t 14) (.c (.bool true)) (.t 16), none⟩,
                   ⟨some 18, .mov (.t 17), none⟩,
                   ⟨some 19, .mov (.t 0), some (18, false)⟩,
                   ⟨some 20, .bin (.eql) (.str) (.t 19) (.c (.str [46, 46])), some (18, false)⟩,
                   ⟨some 21, .pick (.t 18) (.c (.bool true)) (.t 20), none⟩])
                (.cond (.t 21) (.seq (.ops [⟨some 2, .mov (.c (.bool false)), none⟩]) (.ret)) (.skip)))
              (.seq
                (.seq
                  (.ops [⟨some 3, .mov (.c (.int (.i64) 0)), none⟩])
                  (.block
                    0
                    (.loop
                      (.seq
                        (.seq
                          (.ops
                            [⟨some 22, .mov (.t 3), none⟩,
                             ⟨some 23, .mov (.t 0), none⟩,
                             ⟨some 24, .len (.str) (.t 23), none⟩,
                             ⟨some 25, .bin (.lss) (.other) (.t 22) (.t 24), none⟩])
                          (.cond (.t 25) (.skip) (.exit 0)))
                        (.seq
                          (.block
                            1
                            (.seq
                              (.ops
                                [⟨some 28, .mov (.t 0), none⟩,
                                 ⟨some 29, .mov (.t 3), none⟩,
                                 ⟨some 30, .idxStr (.t 28) (.t 29), none⟩,
                                 ⟨some 31, .bin (.lss) (.other) (.t 30) (.c (.int (.u8) 32)), none⟩,
                                 ⟨some 32, .mov (.t 31), none⟩,
                                 ⟨some 33, .mov (.t 0), some (32, false)⟩,
                                 ⟨some 34, .mov (.t 3), some (32, false)⟩,
                                 ⟨some 35, .idxStr (.t 33) (.t 34), some (32, false)⟩,
                                 ⟨some 36, .bin (.eql) (.other) (.t 35) (.c (.int (.u8) 127)), some (32, false)⟩,
                                 ⟨some 37, .pick (.t 32) (.c (.bool true)) (.t 36), none⟩,
                                 ⟨some 38, .mov (.t 37), none⟩,
                                 ⟨some 39, .mov (.t 0), some (38, false)⟩,
                                 ⟨some 40, .mov (.t 3), some (38, false)⟩,
                                 ⟨some 41, .idxStr (.t 39) (.t 40), some (38, false)⟩,
                                 ⟨some 42, .bin (.eql) (.other) (.t 41) (.c (.int (.u8) 47)), some (38, false)⟩,
                                 ⟨some 43, .pick (.t 38) (.c (.bool true)) (.t 42), none⟩])
                              (.cond (.t 43) (.seq (.ops [⟨some 2, .mov (.c (.bool false)), none⟩]) (.ret)) (.skip))))
                          (.ops
                            [⟨some 26, .mov (.t 3), none⟩,
                             ⟨some 27, .bin (.add) (.other) (.t 26) (.c (.int (.i64) 1)), none⟩,
                             ⟨some 3, .mov (.t 27), none⟩]))))))
                (.seq
                  (.ops
                    [⟨some 45, .mov (.t 0), none⟩,
                     ⟨some 46, .call 65 [.t 45], none⟩,
                     ⟨some 44, .mov (.t 46), none⟩,
                     ⟨some 47, .extract (.t 44) 0, none⟩,
                     ⟨some 48, .extract (.t 44) 1, none⟩,
                     ⟨some 4, .mov (.t 47), none⟩,
                     ⟨some 5, .mov (.t 48), none⟩])
                  (.seq (.ops [⟨some 49, .mov (.t 5), none⟩, ⟨some 2, .mov (.t 49), none⟩]) (.ret)))))⟩
theorem c46 : cFunc Tryd.prog Tryd.f46 = some sf46 := by kernel_rfl

/-- bytes.Equal -/
def sf47 : SFunc := ⟨10,
  [.tmp 4],
  .seq
            (.ops [⟨some 4, .mov (.c (.bool false)), none⟩])
            (.seq
              (.ops
                [⟨some 5, .mov (.t 0), none⟩,
                 ⟨some 6, .bytesToStr (.t 5), none⟩,
                 ⟨some 7, .mov (.t 1), none⟩,
                 ⟨some 8, .bytesToStr (.t 7), none⟩,
                 ⟨some 9, .bin (.eql) (.str) (.t 6) (.t 8), none⟩,
                 ⟨some 4, .mov (.t 9), none⟩])
              (.ret))⟩
theorem c47 : cFunc Tryd.prog Tryd.f47 = some sf47 := by kernel_rfl

/-- slices.Equal[[]string,string] -/
def sf48 : SFunc := ⟨26,
  [.tmp 4],
  .seq
            (.ops [⟨some 4, .mov (.c (.bool false)), none⟩])
            (.seq
              (.seq
                (.ops
                  [⟨some 6, .mov (.t 0), none⟩,
                   ⟨some 7, .len (.sl) (.t 6), none⟩,
                   ⟨some 8, .mov (.t 1), none⟩,
                   ⟨some 9, .len (.sl) (.t 8), none⟩,
                   ⟨some 10, .bin (.neq) (.other) (.t 7) (.t 9), none⟩])
                (.cond (.t 10) (.seq (.ops [⟨some 4, .mov (.c (.bool false)), none⟩]) (.ret)) (.skip)))
              (.seq
                (.seq
                  (.ops
                    [⟨some 11, .mov (.t 0), none⟩,
                     ⟨some 12, .len (.sl) (.t 11), none⟩,
                     ⟨some 13, .mov (.c (.int (.i64) 0)), none⟩])
                  (.block
                    0
                    (.loop
                      (.seq
                        (.ops [⟨some 14, .bin (.lss) (.other) (.t 13) (.t 12), none⟩])
                        (.seq
                          (.cond (.t 14) (.skip) (.exit 0))
                          (.seq
                            (.block
                              1
                              (.seq
                                (.ops [⟨some 15, .mov (.t 13), none⟩, ⟨some 5, .mov (.t 15), none⟩])
                                (.seq
                                  (.ops
                                    [⟨some 16, .mov (.t 0), none⟩,
                                     ⟨some 17, .mov (.t 5), none⟩,
                                     ⟨some 18, .idxAddrSl 1 (.t 16) (.t 17), none⟩,
                                     ⟨some 19, .load false 1 (.t 18), none⟩,
                                     ⟨some 20, .mov (.t 1), none⟩,
                                     ⟨some 21, .mov (.t 5), none⟩,
                                     ⟨some 22, .idxAddrSl 1 (.t 20) (.t 21), none⟩,
                                     ⟨some 23, .load false 1 (.t 22), none⟩,
                                     ⟨some 24, .bin (.neq) (.str) (.t 19) (.t 23), none⟩])
                                  (.cond (.t 24) (.seq (.ops [⟨some 4, .mov (.c (.bool false)), none⟩]) (.ret)) (.skip)))))
                            (.ops
                              [⟨some 25, .bin (.add) (.other) (.t 13) (.c (.int (.i64) 1)), none⟩,
                               ⟨some 13, .mov (.t 25), none⟩])))))))
                (.seq (.ops [⟨some 4, .mov (.c (.bool true)), none⟩]) (.ret))))⟩
theorem c48 : cFunc Tryd.prog Tryd.f48 = some sf48 := by kernel_rfl

/-- wharfage/back.errnos -/
def sf49 : SFunc := ⟨3,
  [.tmp 0],
  .seq
            (.ops [⟨some 0, .mov (.c (.nilmap)), none⟩])
            (.seq
              (.ops
                [⟨some 1, .mkMap, none⟩,
                 ⟨none, .mapUpdate false (.t 1) (.c (.int (.u8) 0)) (.c (.int (.i64) 0)), none⟩,
                 ⟨none, .mapUpdate false (.t 1) (.c (.int (.u8) 1)) (.c (.int (.i64) 12)), none⟩,
                 ⟨none, .mapUpdate false (.t 1) (.c (.int (.u8) 2)) (.c (.int (.i64) 7)), none⟩,
                 ⟨none, .mapUpdate false (.t 1) (.c (.int (.u8) 3)) (.c (.int (.i64) 8)), none⟩,
                 ⟨none, .mapUpdate false (.t 1) (.c (.int (.u8) 4)) (.c (.int (.i64) 13)), none⟩,
                 ⟨none, .mapUpdate false (.t 1) (.c (.int (.u8) 5)) (.c (.int (.i64) 13)), none⟩,
                 ⟨none, .mapUpdate false (.t 1) (.c (.int (.u8) 6)) (.c (.int (.i64) 14)), none⟩,
                 ⟨none, .mapUpdate false (.t 1) (.c (.int (.u8) 7)) (.c (.int (.i64) 10)), none⟩,
                 ⟨some 2, .mov (.t 1), none⟩,
                 ⟨some 0, .mov (.t 2), none⟩])
              (.ret))⟩
theorem c49 : cFunc Tryd.prog Tryd.f49 = some sf49 := by kernel_rfl

/-- slices.Clone[[]byte,byte] -/
def sf50 : SFunc := ⟨8,
  [.tmp 2],
  .seq
            (.ops [⟨some 2, .mov (.c (.nilsl)), none⟩])
            (.seq
              (.seq
                (.ops [⟨some 3, .mov (.t 0), none⟩, ⟨some 4, .bin (.eql) (.sl) (.t 3) (.c (.nilsl)), none⟩])
                (.cond (.t 4) (.seq (.ops [⟨some 2, .mov (.c (.nilsl)), none⟩]) (.ret)) (.skip)))
              (.seq
                (.ops
                  [⟨some 5, .buildSlice [] 0 1 [], none⟩,
                   ⟨some 6, .mov (.t 0), none⟩,
                   ⟨some 7, .append 1 1 (.t 5) (.t 6), none⟩,
                   ⟨some 2, .mov (.t 7), none⟩])
                (.ret)))⟩
theorem c50 : cFunc Tryd.prog Tryd.f50 = some sf50 := by kernel_rfl

/-- (*wharfage/xdr.Reader).number -/
def sf51 : SFunc := ⟨35,
  [.tmp 4],
  .seq
            (.ops [⟨some 4, .mov (.c (.int (.u64) 0)), none⟩])
            (.seq
              (.seq
                (.ops
                  [⟨some 7, .mov (.t 0), none⟩,
                   ⟨some 8, .call 53 [.t 7], none⟩,
                   ⟨some 9, .un (.not) (.t 8), none⟩])
                (.cond (.t 9) (.seq (.ops [⟨some 4, .mov (.c (.int (.u64) 0)), none⟩]) (.ret)) (.skip)))
              (.seq
                (.ops
                  [⟨some 11, .mov (.t 0), none⟩,
                   ⟨some 12, .nilChk (.t 11), none⟩,
                   ⟨some 13, .fieldAddr 0 (.t 12), none⟩,
                   ⟨some 14, .load false 1 (.t 13), none⟩,
                   ⟨some 15, .mov (.t 1), none⟩,
                   ⟨some 16, .call 66 [.t 14, .c (.int (.i64) 0), .t 15], none⟩,
                   ⟨some 10, .mov (.t 16), none⟩,
                   ⟨some 17, .extract (.t 10) 0, none⟩,
                   ⟨some 18, .extract (.t 10) 1, none⟩,
                   ⟨some 5, .mov (.t 17), none⟩,
                   ⟨some 6, .mov (.t 18), none⟩])
                (.seq
                  (.seq
                    (.ops
                      [⟨some 19, .mov (.t 6), none⟩,
                       ⟨some 20, .bin (.neq) (.other) (.t 19) (.c (.int (.i64) 0)), none⟩])
                    (.cond
                      (.t 20)
                      (.seq
                        (.ops
                          [⟨some 21, .mov (.t 0), none⟩,
                           ⟨some 22, .mov (.t 6), none⟩,
                           ⟨some 23, .nilChk (.t 21), none⟩,
                           ⟨some 24, .fieldAddr 1 (.t 23), none⟩,
                           ⟨none, .store 1 (.t 24) (.t 22), none⟩])
                        (.seq (.ops [⟨some 4, .mov (.c (.int (.u64) 0)), none⟩]) (.ret)))
                      (.skip)))
                  (.seq
                    (.ops
                      [⟨some 25, .mov (.t 0), none⟩,
                       ⟨some 26, .mov (.t 0), none⟩,
                       ⟨some 27, .nilChk (.t 26), none⟩,
                       ⟨some 28, .fieldAddr 0 (.t 27), none⟩,
                       ⟨some 29, .load false 1 (.t 28), none⟩,
                       ⟨some 30, .mov (.t 1), none⟩,
                       ⟨some 31, .slice 1 (.t 29) (some (.t 30)) none none, none⟩,
                       ⟨some 32, .nilChk (.t 25), none⟩,
                       ⟨some 33, .fieldAddr 0 (.t 32), none⟩,
                       ⟨none, .store 1 (.t 33) (.t 31), none⟩])
                    (.seq (.ops [⟨some 34, .mov (.t 5), none⟩, ⟨some 4, .mov (.t 34), none⟩]) (.ret))))))⟩
theorem c51 : cFunc Tryd.prog Tryd.f51 = some sf51 := by kernel_rfl

/-- (*wharfage/xdr.Reader).fail -/
def sf52 : SFunc := ⟨15,
  [],
  .seq
            (.ops
              [⟨some 6, .mov (.t 0), none⟩,
               ⟨some 7, .call 53 [.t 6], none⟩,
               ⟨some 8, .mov (.t 7), none⟩,
               ⟨some 9, .mov (.t 1), some (8, true)⟩,
               ⟨some 10, .pick (.t 8) (.t 9) (.c (.bool false)), none⟩])
            (.cond
              (.t 10)
              (.ops
                [⟨some 11, .mov (.t 0), none⟩,
                 ⟨some 12, .mov (.t 2), none⟩,
                 ⟨some 13, .nilChk (.t 11), none⟩,
                 ⟨some 14, .fieldAddr 1 (.t 13), none⟩,
                 ⟨none, .store 1 (.t 14) (.t 12), none⟩])
              (.skip))⟩
theorem c52 : cFunc Tryd.prog Tryd.f52 = some sf52 := by kernel_rfl

/-- (*wharfage/xdr.Reader).fine -/
def sf53 : SFunc := ⟨13,
  [.tmp 2],
  .seq
            (.ops [⟨some 2, .mov (.c (.bool false)), none⟩])
            (.seq
              (.ops
                [⟨some 3, .mov (.t 0), none⟩,
                 ⟨some 4, .call 56 [.t 3], none⟩,
                 ⟨some 5, .un (.not) (.t 4), none⟩,
                 ⟨some 6, .mov (.t 5), none⟩,
                 ⟨some 7, .mov (.t 0), some (6, true)⟩,
                 ⟨some 8, .nilChk (.t 7), some (6, true)⟩,
                 ⟨some 9, .fieldAddr 1 (.t 8), some (6, true)⟩,
                 ⟨some 10, .load false 1 (.t 9), some (6, true)⟩,
                 ⟨some 11, .bin (.eql) (.other) (.t 10) (.c (.int (.i64) 0)), some (6, true)⟩,
                 ⟨some 12, .pick (.t 6) (.t 11) (.c (.bool false)), none⟩,
                 ⟨some 2, .mov (.t 12), none⟩])
              (.ret))⟩
theorem c53 : cFunc Tryd.prog Tryd.f53 = some sf53 := by kernel_rfl

/-- wharfage/num.Pad -/
def sf54 : SFunc := ⟨7,
  [.tmp 2],
  .seq
            (.ops [⟨some 2, .mov (.c (.int (.i64) 0)), none⟩])
            (.seq
              (.ops
                [⟨some 3, .mov (.t 0), none⟩,
                 ⟨some 4, .max (.t 3) [.c (.int (.i64) 0)], none⟩,
                 ⟨some 5, .un (.neg) (.t 4), none⟩,
                 ⟨some 6, .bin (.and) (.other) (.t 5) (.c (.int (.i64) 3)), none⟩,
                 ⟨some 2, .mov (.t 6), none⟩])
              (.ret))⟩
theorem c54 : cFunc Tryd.prog Tryd.f54 = some sf54 := by kernel_rfl

/-- wharfage/num.Zero -/
def sf55 : SFunc := ⟨35,
  [.tmp 6],
  .seq
            (.ops [⟨some 6, .mov (.c (.int (.i64) 0)), none⟩])
            (.seq
              (.block
                0
                (.seq
                  (.ops
                    [⟨some 8, .mov (.t 1), none⟩,
                     ⟨some 9, .bin (.lss) (.other) (.t 8) (.c (.int (.i64) 0)), none⟩,
                     ⟨some 10, .mov (.t 9), none⟩,
                     ⟨some 11, .mov (.t 1), some (10, false)⟩,
                     ⟨some 12, .mov (.t 0), some (10, false)⟩,
                     ⟨some 13, .len (.sl) (.t 12), some (10, false)⟩,
                     ⟨some 14, .bin (.gtr) (.other) (.t 11) (.t 13), some (10, false)⟩,
                     ⟨some 15, .pick (.t 10) (.c (.bool true)) (.t 14), none⟩,
                     ⟨some 16, .mov (.t 15), none⟩,
                     ⟨some 17, .mov (.t 2), some (16, false)⟩,
                     ⟨some 18, .bin (.lss) (.other) (.t 17) (.c (.int (.i64) 0)), some (16, false)⟩,
                     ⟨some 19, .pick (.t 16) (.c (.bool true)) (.t 18), none⟩,
                     ⟨some 7, .mov (.t 19), none⟩])
                  (.cond
                    (.t 7)
                    (.seq (.ops [⟨some 6, .mov (.c (.int (.i64) 2)), none⟩]) (.ret))
                    (.seq
                      (.ops
                        [⟨some 21, .mov (.t 0), none⟩,
                         ⟨some 22, .len (.sl) (.t 21), none⟩,
                         ⟨some 23, .mov (.t 1), none⟩,
                         ⟨some 24, .bin (.sub) (.other) (.t 22) (.t 23), none⟩,
                         ⟨some 25, .mov (.t 2), none⟩,
                         ⟨some 26, .bin (.lss) (.other) (.t 24) (.t 25), none⟩,
                         ⟨some 20, .mov (.t 26), none⟩])
                      (.cond
                        (.t 20)
                        (.seq (.ops [⟨some 6, .mov (.c (.int (.i64) 4)), none⟩]) (.ret))
                        (.seq
                          (.ops
                            [⟨some 28, .mov (.t 0), none⟩,
                             ⟨some 29, .mov (.t 1), none⟩,
                             ⟨some 30, .mov (.t 1), none⟩,
                             ⟨some 31, .mov (.t 2), none⟩,
                             ⟨some 32, .bin (.add) (.other) (.t 30) (.t 31), none⟩,
                             ⟨some 33, .slice 1 (.t 28) (some (.t 29)) (some (.t 32)) none, none⟩,
                             ⟨some 34, .call 67 [.t 33, .c (.func 68 [] [])], none⟩,
                             ⟨some 27, .mov (.t 34), none⟩])
                          (.cond (.t 27) (.seq (.ops [⟨some 6, .mov (.c (.int (.i64) 5)), none⟩]) (.ret)) (.skip))))))))
              (.seq (.ops [⟨some 6, .mov (.c (.int (.i64) 0)), none⟩]) (.ret)))⟩
theorem c55 : cFunc Tryd.prog Tryd.f55 = some sf55 := by kernel_rfl

/-- (*wharfage/xdr.Reader).none -/
def sf56 : SFunc := ⟨12,
  [.tmp 2],
  .seq
            (.ops [⟨some 2, .mov (.c (.bool false)), none⟩])
            (.seq
              (.ops
                [⟨some 3, .mov (.t 0), none⟩,
                 ⟨some 4, .bin (.eql) (.ptr) (.t 3) (.c (.nilptr)), none⟩,
                 ⟨some 5, .mov (.t 4), none⟩,
                 ⟨some 6, .mov (.t 0), some (5, false)⟩,
                 ⟨some 7, .nilChk (.t 6), some (5, false)⟩,
                 ⟨some 8, .fieldAddr 2 (.t 7), some (5, false)⟩,
                 ⟨some 9, .load false 1 (.t 8), some (5, false)⟩,
                 ⟨some 10, .un (.not) (.t 9), some (5, false)⟩,
                 ⟨some 11, .pick (.t 5) (.c (.bool true)) (.t 10), none⟩,
                 ⟨some 2, .mov (.t 11), none⟩])
              (.ret))⟩
theorem c56 : cFunc Tryd.prog Tryd.f56 = some sf56 := by kernel_rfl

/-- (*wharfage/xdr.Writer).number -/
def sf57 : SFunc := ⟨17,
  [],
  .seq
            (.ops
              [⟨some 9, .mov (.t 1), none⟩,
               ⟨some 10, .mov (.t 2), none⟩,
               ⟨some 11, .call 69 [.t 9, .t 10], none⟩,
               ⟨some 8, .mov (.t 11), none⟩,
               ⟨some 12, .extract (.t 8) 0, none⟩,
               ⟨some 13, .extract (.t 8) 1, none⟩,
               ⟨some 6, .mov (.t 12), none⟩,
               ⟨some 7, .mov (.t 13), none⟩])
            (.ops
              [⟨some 14, .mov (.t 0), none⟩,
               ⟨some 15, .mov (.t 6), none⟩,
               ⟨some 16, .call 58 [.t 14, .t 15], none⟩])⟩
theorem c57 : cFunc Tryd.prog Tryd.f57 = some sf57 := by kernel_rfl

/-- (*wharfage/xdr.Writer).lay -/
def sf58 : SFunc := ⟨15,
  [],
  .seq
            (.ops [⟨some 4, .mov (.t 0), none⟩, ⟨some 5, .bin (.neq) (.ptr) (.t 4) (.c (.nilptr)), none⟩])
            (.cond
              (.t 5)
              (.ops
                [⟨some 6, .mov (.t 0), none⟩,
                 ⟨some 7, .mov (.t 0), none⟩,
                 ⟨some 8, .nilChk (.t 7), none⟩,
                 ⟨some 9, .fieldAddr 0 (.t 8), none⟩,
                 ⟨some 10, .load false 1 (.t 9), none⟩,
                 ⟨some 11, .mov (.t 1), none⟩,
                 ⟨some 12, .append 1 1 (.t 10) (.t 11), none⟩,
                 ⟨some 13, .nilChk (.t 6), none⟩,
                 ⟨some 14, .fieldAddr 0 (.t 13), none⟩,
                 ⟨none, .store 1 (.t 14) (.t 12), none⟩])
              (.skip))⟩
theorem c58 : cFunc Tryd.prog Tryd.f58 = some sf58 := by kernel_rfl

/-- wharfage/wharfageref01.Put -/
def sf59 : SFunc := ⟨39,
  [.tmp 4, .tmp 5],
  .seq
            (.ops [⟨some 4, .mov (.c (.nilsl)), none⟩, ⟨some 5, .mov (.c (.int (.i64) 0)), none⟩])
            (.seq
              (.seq
                (.ops
                  [⟨some 8, .mov (.t 1), none⟩,
                   ⟨some 9, .call 70 [.t 8], none⟩,
                   ⟨some 10, .un (.not) (.t 9), none⟩,
                   ⟨some 11, .mov (.t 10), none⟩,
                   ⟨some 12, .mov (.t 1), some (11, false)⟩,
                   ⟨some 13, .bin (.lss) (.other) (.t 12) (.c (.int (.i64) 8)), some (11, false)⟩,
                   ⟨some 14, .mov (.t 13), some (11, false)⟩,
                   ⟨some 15, .mov (.t 0), some (14, true)⟩,
                   ⟨some 16, .mov (.t 1), some (14, true)⟩,
                   ⟨some 17, .bin (.mul) (.other) (.c (.int (.i64) 8)) (.t 16), some (14, true)⟩,
                   ⟨some 18, .convInt (.u64) (.t 17), some (14, true)⟩,
                   ⟨some 19, .bin (.shl) (.other) (.c (.int (.u64) 1)) (.t 18), some (14, true)⟩,
                   ⟨some 20, .bin (.geq) (.other) (.t 15) (.t 19), some (14, true)⟩,
                   ⟨some 21, .pick (.t 14) (.t 20) (.c (.bool false)), some (11, false)⟩,
                   ⟨some 22, .pick (.t 11) (.c (.bool true)) (.t 21), none⟩])
                (.cond
                  (.t 22)
                  (.seq
                    (.ops [⟨some 4, .mov (.c (.nilsl)), none⟩, ⟨some 5, .mov (.c (.int (.i64) 2)), none⟩])
                    (.ret))
                  (.skip)))
              (.seq
                (.ops [⟨some 6, .mov (.c (.nilsl)), none⟩])
                (.seq
                  (.seq
                    (.ops
                      [⟨some 23, .mov (.t 1), none⟩,
                       ⟨some 24, .bin (.sub) (.other) (.t 23) (.c (.int (.i64) 1)), none⟩,
                       ⟨some 7, .mov (.t 24), none⟩])
                    (.block
                      0
                      (.loop
                        (.seq
                          (.seq
                            (.ops
                              [⟨some 25, .mov (.t 7), none⟩,
                               ⟨some 26, .bin (.geq) (.other) (.t 25) (.c (.int (.i64) 0)), none⟩])
                            (.cond (.t 26) (.skip) (.exit 0)))
                          (.seq
                            (.block
                              1
                              (.ops
                                [⟨some 29, .mov (.t 6), none⟩,
                                 ⟨some 30, .mov (.t 0), none⟩,
                                 ⟨some 31, .mov (.t 7), none⟩,
                                 ⟨some 32, .bin (.mul) (.other) (.c (.int (.i64) 8)) (.t 31), none⟩,
                                 ⟨some 33, .convInt (.u64) (.t 32), none⟩,
                                 ⟨some 34, .bin (.shr) (.other) (.t 30) (.t 33), none⟩,
                                 ⟨some 35, .convInt (.u8) (.t 34), none⟩,
                                 ⟨some 36, .buildSlice [.int (.u8) 0] 1 1 [(0, 1, .t 35)], none⟩,
                                 ⟨some 37, .append 1 1 (.t 29) (.t 36), none⟩,
                                 ⟨some 6, .mov (.t 37), none⟩]))
                            (.ops
                              [⟨some 27, .mov (.t 7), none⟩,
                               ⟨some 28, .bin (.sub) (.other) (.t 27) (.c (.int (.i64) 1)), none⟩,
                               ⟨some 7, .mov (.t 28), none⟩]))))))
                  (.seq
                    (.ops
                      [⟨some 38, .mov (.t 6), none⟩,
                       ⟨some 4, .mov (.t 38), none⟩,
                       ⟨some 5, .mov (.c (.int (.i64) 0)), none⟩])
                    (.ret)))))⟩
theorem c59 : cFunc Tryd.prog Tryd.f59 = some sf59 := by kernel_rfl

/-- wharfage/wharfageref01.Pad -/
def sf60 : SFunc := ⟨13,
  [.tmp 2],
  .seq
            (.ops [⟨some 2, .mov (.c (.int (.i64) 0)), none⟩])
            (.seq
              (.seq
                (.ops
                  [⟨some 3, .mov (.t 0), none⟩,
                   ⟨some 4, .bin (.lss) (.other) (.t 3) (.c (.int (.i64) 0)), none⟩,
                   ⟨some 5, .mov (.t 4), none⟩,
                   ⟨some 6, .mov (.t 0), some (5, false)⟩,
                   ⟨some 7, .bin (.rem) (.other) (.t 6) (.c (.int (.i64) 4)), some (5, false)⟩,
                   ⟨some 8, .bin (.eql) (.other) (.t 7) (.c (.int (.i64) 0)), some (5, false)⟩,
                   ⟨some 9, .pick (.t 5) (.c (.bool true)) (.t 8), none⟩])
                (.cond (.t 9) (.seq (.ops [⟨some 2, .mov (.c (.int (.i64) 0)), none⟩]) (.ret)) (.skip)))
              (.seq
                (.ops
                  [⟨some 10, .mov (.t 0), none⟩,
                   ⟨some 11, .bin (.rem) (.other) (.t 10) (.c (.int (.i64) 4)), none⟩,
                   ⟨some 12, .bin (.sub) (.other) (.c (.int (.i64) 4)) (.t 11), none⟩,
                   ⟨some 2, .mov (.t 12), none⟩])
                (.ret)))⟩
theorem c60 : cFunc Tryd.prog Tryd.f60 = some sf60 := by kernel_rfl

/-- (*wharfage/wharfageref09.Reader).number -/
def sf61 : SFunc := ⟨40,
  [.tmp 4],
  .seq
            (.ops [⟨some 4, .mov (.c (.int (.u64) 0)), none⟩])
            (.seq
              (.seq
                (.ops
                  [⟨some 7, .mov (.t 0), none⟩,
                   ⟨some 8, .nilChk (.t 7), none⟩,
                   ⟨some 9, .fieldAddr 2 (.t 8), none⟩,
                   ⟨some 10, .load false 1 (.t 9), none⟩,
                   ⟨some 11, .bin (.neq) (.other) (.t 10) (.c (.int (.i64) 0)), none⟩])
                (.cond (.t 11) (.seq (.ops [⟨some 4, .mov (.c (.int (.u64) 0)), none⟩]) (.ret)) (.skip)))
              (.seq
                (.ops
                  [⟨some 13, .mov (.t 0), none⟩,
                   ⟨some 14, .nilChk (.t 13), none⟩,
                   ⟨some 15, .fieldAddr 0 (.t 14), none⟩,
                   ⟨some 16, .load false 1 (.t 15), none⟩,
                   ⟨some 17, .mov (.t 0), none⟩,
                   ⟨some 18, .nilChk (.t 17), none⟩,
                   ⟨some 19, .fieldAddr 1 (.t 18), none⟩,
                   ⟨some 20, .load false 1 (.t 19), none⟩,
                   ⟨some 21, .mov (.t 1), none⟩,
                   ⟨some 22, .call 71 [.t 16, .t 20, .t 21], none⟩,
                   ⟨some 12, .mov (.t 22), none⟩,
                   ⟨some 23, .extract (.t 12) 0, none⟩,
                   ⟨some 24, .extract (.t 12) 1, none⟩,
                   ⟨some 5, .mov (.t 23), none⟩,
                   ⟨some 6, .mov (.t 24), none⟩])
                (.seq
                  (.seq
                    (.ops
                      [⟨some 25, .mov (.t 6), none⟩,
                       ⟨some 26, .bin (.neq) (.other) (.t 25) (.c (.int (.i64) 0)), none⟩])
                    (.cond
                      (.t 26)
                      (.seq
                        (.ops
                          [⟨some 27, .mov (.t 0), none⟩,
                           ⟨some 28, .nilChk (.t 27), none⟩,
                           ⟨some 29, .fieldAddr 2 (.t 28), none⟩,
                           ⟨none, .store 1 (.t 29) (.c (.int (.i64) 4)), none⟩])
                        (.seq (.ops [⟨some 4, .mov (.c (.int (.u64) 0)), none⟩]) (.ret)))
                      (.skip)))
                  (.seq
                    (.ops
                      [⟨some 30, .mov (.t 0), none⟩,
                       ⟨some 31, .mov (.t 0), none⟩,
                       ⟨some 32, .nilChk (.t 31), none⟩,
                       ⟨some 33, .fieldAddr 1 (.t 32), none⟩,
                       ⟨some 34, .load false 1 (.t 33), none⟩,
                       ⟨some 35, .mov (.t 1), none⟩,
                       ⟨some 36, .bin (.add) (.other) (.t 34) (.t 35), none⟩,
                       ⟨some 37, .nilChk (.t 30), none⟩,
                       ⟨some 38, .fieldAddr 1 (.t 37), none⟩,
                       ⟨none, .store 1 (.t 38) (.t 36), none⟩])
                    (.seq (.ops [⟨some 39, .mov (.t 5), none⟩, ⟨some 4, .mov (.t 39), none⟩]) (.ret))))))⟩
theorem c61 : cFunc Tryd.prog Tryd.f61 = some sf61 := by kernel_rfl

/-- wharfage/wharfageref01.Zero -/
def sf62 : SFunc := ⟨39,
  [.tmp 6],
  .seq
            (.ops [⟨some 6, .mov (.c (.int (.i64) 0)), none⟩])
            (.seq
              (.seq
                (.ops
                  [⟨some 8, .mov (.t 1), none⟩,
                   ⟨some 9, .bin (.lss) (.other) (.t 8) (.c (.int (.i64) 0)), none⟩,
                   ⟨some 10, .mov (.t 9), none⟩,
                   ⟨some 11, .mov (.t 1), some (10, false)⟩,
                   ⟨some 12, .mov (.t 0), some (10, false)⟩,
                   ⟨some 13, .len (.sl) (.t 12), some (10, false)⟩,
                   ⟨some 14, .bin (.gtr) (.other) (.t 11) (.t 13), some (10, false)⟩,
                   ⟨some 15, .pick (.t 10) (.c (.bool true)) (.t 14), none⟩,
                   ⟨some 16, .mov (.t 15), none⟩,
                   ⟨some 17, .mov (.t 2), some (16, false)⟩,
                   ⟨some 18, .bin (.lss) (.other) (.t 17) (.c (.int (.i64) 0)), some (16, false)⟩,
                   ⟨some 19, .pick (.t 16) (.c (.bool true)) (.t 18), none⟩])
                (.cond (.t 19) (.seq (.ops [⟨some 6, .mov (.c (.int (.i64) 2)), none⟩]) (.ret)) (.skip)))
              (.seq
                (.seq
                  (.ops
                    [⟨some 20, .mov (.t 0), none⟩,
                     ⟨some 21, .len (.sl) (.t 20), none⟩,
                     ⟨some 22, .mov (.t 1), none⟩,
                     ⟨some 23, .bin (.sub) (.other) (.t 21) (.t 22), none⟩,
                     ⟨some 24, .mov (.t 2), none⟩,
                     ⟨some 25, .bin (.lss) (.other) (.t 23) (.t 24), none⟩])
                  (.cond (.t 25) (.seq (.ops [⟨some 6, .mov (.c (.int (.i64) 4)), none⟩]) (.ret)) (.skip)))
                (.seq
                  (.seq
                    (.ops [⟨some 26, .mov (.t 1), none⟩, ⟨some 7, .mov (.t 26), none⟩])
                    (.block
                      0
                      (.loop
                        (.seq
                          (.seq
                            (.ops
                              [⟨some 27, .mov (.t 7), none⟩,
                               ⟨some 28, .mov (.t 1), none⟩,
                               ⟨some 29, .mov (.t 2), none⟩,
                               ⟨some 30, .bin (.add) (.other) (.t 28) (.t 29), none⟩,
                               ⟨some 31, .bin (.lss) (.other) (.t 27) (.t 30), none⟩])
                            (.cond (.t 31) (.skip) (.exit 0)))
                          (.seq
                            (.block
                              1
                              (.seq
                                (.ops
                                  [⟨some 34, .mov (.t 0), none⟩,
                                   ⟨some 35, .mov (.t 7), none⟩,
                                   ⟨some 36, .idxAddrSl 1 (.t 34) (.t 35), none⟩,
                                   ⟨some 37, .load false 1 (.t 36), none⟩,
                                   ⟨some 38, .bin (.neq) (.other) (.t 37) (.c (.int (.u8) 0)), none⟩])
                                (.cond (.t 38) (.seq (.ops [⟨some 6, .mov (.c (.int (.i64) 5)), none⟩]) (.ret)) (.skip))))
                            (.ops
                              [⟨some 32, .mov (.t 7), none⟩,
                               ⟨some 33, .bin (.add) (.other) (.t 32) (.c (.int (.i64) 1)), none⟩,
                               ⟨some 7, .mov (.t 33), none⟩]))))))
                  (.seq (.ops [⟨some 6, .mov (.c (.int (.i64) 0)), none⟩]) (.ret)))))⟩
theorem c62 : cFunc Tryd.prog Tryd.f62 = some sf62 := by kernel_rfl

/-- wharfage/name.runes -/
def sf63 : SFunc := ⟨34,
  [.tmp 4, .tmp 5],
  .seq
            (.ops [⟨some 4, .mov (.c (.int (.i64) 0)), none⟩, ⟨some 5, .mov (.c (.bool false)), none⟩])
            (.seq
              (.seq
                (.ops [⟨some 10, .mov (.t 0), none⟩, ⟨some 11, .rangeStr (.t 10), none⟩])
                (.block
                  0
                  (.loop
                    (.seq
                      (.ops [⟨some 12, .nextStr (.t 11), none⟩, ⟨some 13, .extract (.t 12) 0, none⟩])
                      (.seq
                        (.cond (.t 13) (.skip) (.exit 0))
                        (.block
                          1
                          (.seq
                            (.ops
                              [⟨some 14, .extract (.t 12) 1, none⟩,
                               ⟨some 15, .extract (.t 12) 2, none⟩,
                               ⟨some 6, .mov (.t 14), none⟩,
                               ⟨some 7, .mov (.t 15), none⟩])
                            (.seq
                              (.seq
                                (.ops
                                  [⟨some 16, .mov (.t 7), none⟩,
                                   ⟨some 17, .bin (.eql) (.other) (.t 16) (.c (.int (.i32) 65533)), none⟩])
                                (.cond
                                  (.t 17)
                                  (.seq
                                    (.ops
                                      [⟨some 19, .mov (.t 0), none⟩,
                                       ⟨some 20, .mov (.t 6), none⟩,
                                       ⟨some 21, .sliceStr (.t 19) (some (.t 20)) none, none⟩,
                                       ⟨some 22, .call 72 [.t 21], none⟩,
                                       ⟨some 18, .mov (.t 22), none⟩,
                                       ⟨some 23, .extract (.t 18) 0, none⟩,
                                       ⟨some 24, .extract (.t 18) 1, none⟩,
                                       ⟨some 8, .mov (.t 23), none⟩,
                                       ⟨some 9, .mov (.t 24), none⟩])
                                    (.seq
                                      (.ops
                                        [⟨some 25, .mov (.t 9), none⟩,
                                         ⟨some 26, .bin (.lss) (.other) (.t 25) (.c (.int (.i64) 2)), none⟩])
                                      (.cond
                                        (.t 26)
                                        (.seq
                                          (.ops
                                            [⟨some 4, .mov (.c (.int (.i64) 0)), none⟩, ⟨some 5, .mov (.c (.bool false)), none⟩])
                                          (.ret))
                                        (.skip))))
                                  (.skip)))
                              (.seq
                                (.seq
                                  (.ops
                                    [⟨some 27, .mov (.t 1), none⟩,
                                     ⟨some 28, .mov (.t 7), none⟩,
                                     ⟨some 29, .callV (.t 27) [.t 28], none⟩,
                                     ⟨some 30, .un (.not) (.t 29), none⟩])
                                  (.cond
                                    (.t 30)
                                    (.seq
                                      (.ops
                                        [⟨some 4, .mov (.c (.int (.i64) 0)), none⟩, ⟨some 5, .mov (.c (.bool false)), none⟩])
                                      (.ret))
                                    (.skip)))
                                (.ops
                                  [⟨some 31, .mov (.t 4), none⟩,
                                   ⟨some 32, .bin (.add) (.other) (.t 31) (.c (.int (.i64) 1)), none⟩,
                                   ⟨some 4, .mov (.t 32), none⟩]))))))))))
              (.seq
                (.ops
                  [⟨some 33, .mov (.t 4), none⟩,
                   ⟨some 4, .mov (.t 33), none⟩,
                   ⟨some 5, .mov (.c (.bool true)), none⟩])
                (.ret)))⟩
theorem c63 : cFunc Tryd.prog Tryd.f63 = some sf63 := by kernel_rfl

/-- wharfage/name.named -/
def sf64 : SFunc := ⟨13,
  [.tmp 2],
  .seq
            (.ops [⟨some 2, .mov (.c (.bool false)), none⟩])
            (.seq
              (.ops
                [⟨some 3, .mov (.t 0), none⟩,
                 ⟨some 4, .bin (.geq) (.other) (.t 3) (.c (.int (.i32) 32)), none⟩,
                 ⟨some 5, .mov (.t 4), none⟩,
                 ⟨some 6, .mov (.t 0), some (5, true)⟩,
                 ⟨some 7, .bin (.neq) (.other) (.t 6) (.c (.int (.i32) 127)), some (5, true)⟩,
                 ⟨some 8, .pick (.t 5) (.t 7) (.c (.bool false)), none⟩,
                 ⟨some 9, .mov (.t 8), none⟩,
                 ⟨some 10, .mov (.t 0), some (9, true)⟩,
                 ⟨some 11, .bin (.neq) (.other) (.t 10) (.c (.int (.i32) 47)), some (9, true)⟩,
                 ⟨some 12, .pick (.t 9) (.t 11) (.c (.bool false)), none⟩,
                 ⟨some 2, .mov (.t 12), none⟩])
              (.ret))⟩
theorem c64 : cFunc Tryd.prog Tryd.f64 = some sf64 := by kernel_rfl

/-- wharfage/wharfageref02.Runes -/
def sf65 : SFunc := ⟨26,
  [.tmp 2, .tmp 3],
  .seq
            (.ops [⟨some 2, .mov (.c (.int (.i64) 0)), none⟩, ⟨some 3, .mov (.c (.bool false)), none⟩])
            (.seq
              (.ops [⟨some 4, .mov (.c (.int (.i64) 0)), none⟩])
              (.seq
                (.seq
                  (.ops [⟨some 5, .mov (.c (.int (.i64) 0)), none⟩])
                  (.block
                    0
                    (.loop
                      (.seq
                        (.seq
                          (.ops
                            [⟨some 8, .mov (.t 5), none⟩,
                             ⟨some 9, .mov (.t 0), none⟩,
                             ⟨some 10, .len (.str) (.t 9), none⟩,
                             ⟨some 11, .bin (.lss) (.other) (.t 8) (.t 10), none⟩])
                          (.cond (.t 11) (.skip) (.exit 0)))
                        (.seq
                          (.block
                            1
                            (.seq
                              (.ops
                                [⟨some 15, .mov (.t 0), none⟩,
                                 ⟨some 16, .mov (.t 5), none⟩,
                                 ⟨some 17, .call 73 [.t 15, .t 16], none⟩,
                                 ⟨some 14, .mov (.t 17), none⟩,
                                 ⟨some 18, .extract (.t 14) 0, none⟩,
                                 ⟨some 19, .extract (.t 14) 1, none⟩,
                                 ⟨some 6, .mov (.t 18), none⟩,
                                 ⟨some 7, .mov (.t 19), none⟩])
                              (.seq
                                (.seq
                                  (.ops
                                    [⟨some 20, .mov (.t 7), none⟩,
                                     ⟨some 21, .bin (.eql) (.other) (.t 20) (.c (.int (.i64) 0)), none⟩])
                                  (.cond
                                    (.t 21)
                                    (.seq
                                      (.ops
                                        [⟨some 2, .mov (.c (.int (.i64) 0)), none⟩, ⟨some 3, .mov (.c (.bool false)), none⟩])
                                      (.ret))
                                    (.skip)))
                                (.ops
                                  [⟨some 22, .mov (.t 5), none⟩,
                                   ⟨some 23, .mov (.t 7), none⟩,
                                   ⟨some 24, .bin (.add) (.other) (.t 22) (.t 23), none⟩,
                                   ⟨some 5, .mov (.t 24), none⟩]))))
                          (.ops
                            [⟨some 12, .mov (.t 4), none⟩,
                             ⟨some 13, .bin (.add) (.other) (.t 12) (.c (.int (.i64) 1)), none⟩,
                             ⟨some 4, .mov (.t 13), none⟩]))))))
                (.seq
                  (.ops
                    [⟨some 25, .mov (.t 4), none⟩,
                     ⟨some 2, .mov (.t 25), none⟩,
                     ⟨some 3, .mov (.c (.bool true)), none⟩])
                  (.ret))))⟩
theorem c65 : cFunc Tryd.prog Tryd.f65 = some sf65 := by kernel_rfl

/-- wharfage/num.Get -/
def sf66 : SFunc := ⟨47,
  [.cell 6 false 1, .tmp 7],
  .seq
            (.ops
              [⟨some 5, .box (.t 2), none⟩,
               ⟨some 6, .box (.c (.int (.u64) 0)), none⟩,
               ⟨some 7, .mov (.c (.int (.i64) 0)), none⟩])
            (.seq
              (.seq
                (.ops
                  [⟨some 10, .load false 1 (.t 5), none⟩,
                   ⟨some 11, .call 74 [.t 10], none⟩,
                   ⟨some 12, .un (.not) (.t 11), none⟩,
                   ⟨some 13, .mov (.t 12), none⟩,
                   ⟨some 14, .mov (.t 1), some (13, false)⟩,
                   ⟨some 15, .bin (.lss) (.other) (.t 14) (.c (.int (.i64) 0)), some (13, false)⟩,
                   ⟨some 16, .pick (.t 13) (.c (.bool true)) (.t 15), none⟩,
                   ⟨some 17, .mov (.t 16), none⟩,
                   ⟨some 18, .mov (.t 1), some (17, false)⟩,
                   ⟨some 19, .mov (.t 0), some (17, false)⟩,
                   ⟨some 20, .len (.sl) (.t 19), some (17, false)⟩,
                   ⟨some 21, .bin (.gtr) (.other) (.t 18) (.t 20), some (17, false)⟩,
                   ⟨some 22, .pick (.t 17) (.c (.bool true)) (.t 21), none⟩])
                (.cond
                  (.t 22)
                  (.seq
                    (.ops
                      [⟨none, .store 1 (.t 6) (.c (.int (.u64) 0)), none⟩,
                       ⟨some 7, .mov (.c (.int (.i64) 2)), none⟩])
                    (.ret))
                  (.skip)))
              (.seq
                (.seq
                  (.ops
                    [⟨some 23, .mov (.t 0), none⟩,
                     ⟨some 24, .mov (.t 1), none⟩,
                     ⟨some 25, .slice 1 (.t 23) (some (.t 24)) none none, none⟩,
                     ⟨some 0, .mov (.t 25), none⟩])
                  (.seq
                    (.ops
                      [⟨some 26, .mov (.t 0), none⟩,
                       ⟨some 27, .len (.sl) (.t 26), none⟩,
                       ⟨some 28, .load false 1 (.t 5), none⟩,
                       ⟨some 29, .bin (.lss) (.other) (.t 27) (.t 28), none⟩])
                    (.cond
                      (.t 29)
                      (.seq
                        (.ops
                          [⟨none, .store 1 (.t 6) (.c (.int (.u64) 0)), none⟩,
                           ⟨some 7, .mov (.c (.int (.i64) 4)), none⟩])
                        (.ret))
                      (.skip))))
                (.seq
                  (.seq
                    (.ops
                      [⟨some 30, .mov (.t 0), none⟩,
                       ⟨some 31, .load false 1 (.t 5), none⟩,
                       ⟨some 32, .slice 1 (.t 30) none (some (.t 31)) none, none⟩,
                       ⟨some 33, .call 75 [.t 32], none⟩])
                    (.block
                      0
                      (.rangeFunc
                        (.t 33)
                        [34, 35]
                        (.seq (.ops [⟨some 8, .mov (.t 34), none⟩]) (.ops [⟨some 9, .mov (.t 35), none⟩]))
                        (.block
                          1
                          (.ops
                            [⟨some 36, .load false 1 (.t 6), none⟩,
                             ⟨some 37, .mov (.t 9), none⟩,
                             ⟨some 38, .convInt (.u64) (.t 37), none⟩,
                             ⟨some 39, .load false 1 (.t 5), none⟩,
                             ⟨some 40, .bin (.sub) (.other) (.t 39) (.c (.int (.i64) 1)), none⟩,
                             ⟨some 41, .mov (.t 8), none⟩,
                             ⟨some 42, .bin (.sub) (.other) (.t 40) (.t 41), none⟩,
                             ⟨some 43, .bin (.mul) (.other) (.c (.int (.i64) 8)) (.t 42), none⟩,
                             ⟨some 44, .bin (.shl) (.other) (.t 38) (.t 43), none⟩,
                             ⟨some 45, .bin (.or) (.other) (.t 36) (.t 44), none⟩,
                             ⟨none, .store 1 (.t 6) (.t 45), none⟩])))))
                  (.seq
                    (.ops
                      [⟨some 46, .load false 1 (.t 6), none⟩,
                       ⟨none, .store 1 (.t 6) (.t 46), none⟩,
                       ⟨some 7, .mov (.c (.int (.i64) 0)), none⟩])
                    (.ret)))))⟩
theorem c66 : cFunc Tryd.prog Tryd.f66 = some sf66 := by kernel_rfl

/-- slices.ContainsFunc[[]byte,byte] -/
def sf67 : SFunc := ⟨9,
  [.tmp 4],
  .seq
            (.ops [⟨some 4, .mov (.c (.bool false)), none⟩])
            (.seq
              (.ops
                [⟨some 5, .mov (.t 0), none⟩,
                 ⟨some 6, .mov (.t 1), none⟩,
                 ⟨some 7, .call 76 [.t 5, .t 6], none⟩,
                 ⟨some 8, .bin (.geq) (.other) (.t 7) (.c (.int (.i64) 0)), none⟩,
                 ⟨some 4, .mov (.t 8), none⟩])
              (.ret))⟩
theorem c67 : cFunc Tryd.prog Tryd.f67 = some sf67 := by kernel_rfl

/-- wharfage/num.Zero$1 -/
def sf68 : SFunc := ⟨5,
  [.tmp 2],
  .seq
            (.ops [⟨some 2, .mov (.c (.bool false)), none⟩])
            (.seq
              (.ops
                [⟨some 3, .mov (.t 0), none⟩,
                 ⟨some 4, .bin (.gtr) (.other) (.t 3) (.c (.int (.u8) 0)), none⟩,
                 ⟨some 2, .mov (.t 4), none⟩])
              (.ret))⟩
theorem c68 : cFunc Tryd.prog Tryd.f68 = some sf68 := by kernel_rfl

/-- wharfage/num.Put -/
def sf69 : SFunc := ⟨34,
  [.tmp 4, .tmp 5],
  .seq
            (.ops [⟨some 4, .mov (.c (.nilsl)), none⟩, ⟨some 5, .mov (.c (.int (.i64) 0)), none⟩])
            (.seq
              (.seq
                (.ops
                  [⟨some 8, .mov (.t 1), none⟩,
                   ⟨some 9, .call 74 [.t 8], none⟩,
                   ⟨some 10, .un (.not) (.t 9), none⟩,
                   ⟨some 11, .mov (.t 10), none⟩,
                   ⟨some 12, .mov (.t 0), some (11, false)⟩,
                   ⟨some 13, .call 77 [.t 12], some (11, false)⟩,
                   ⟨some 14, .mov (.t 1), some (11, false)⟩,
                   ⟨some 15, .bin (.mul) (.other) (.c (.int (.i64) 8)) (.t 14), some (11, false)⟩,
                   ⟨some 16, .bin (.gtr) (.other) (.t 13) (.t 15), some (11, false)⟩,
                   ⟨some 17, .pick (.t 11) (.c (.bool true)) (.t 16), none⟩])
                (.cond
                  (.t 17)
                  (.seq
                    (.ops [⟨some 4, .mov (.c (.nilsl)), none⟩, ⟨some 5, .mov (.c (.int (.i64) 2)), none⟩])
                    (.ret))
                  (.skip)))
              (.seq
                (.ops
                  [⟨some 18, .mov (.t 1), none⟩,
                   ⟨some 19, .mkSlice [.int (.u8) 0] 1 1 (.t 18) (.t 18), none⟩,
                   ⟨some 6, .mov (.t 19), none⟩])
                (.seq
                  (.seq
                    (.ops
                      [⟨some 20, .mov (.t 1), none⟩,
                       ⟨some 21, .bin (.sub) (.other) (.t 20) (.c (.int (.i64) 1)), none⟩,
                       ⟨some 7, .mov (.t 21), none⟩])
                    (.block
                      0
                      (.loop
                        (.seq
                          (.seq
                            (.ops
                              [⟨some 22, .mov (.t 7), none⟩,
                               ⟨some 23, .bin (.geq) (.other) (.t 22) (.c (.int (.i64) 0)), none⟩])
                            (.cond (.t 23) (.skip) (.exit 0)))
                          (.seq
                            (.block
                              1
                              (.seq
                                (.ops
                                  [⟨some 26, .mov (.t 6), none⟩,
                                   ⟨some 27, .mov (.t 7), none⟩,
                                   ⟨some 28, .mov (.t 0), none⟩,
                                   ⟨some 29, .convInt (.u8) (.t 28), none⟩,
                                   ⟨some 30, .idxAddrSl 1 (.t 26) (.t 27), none⟩,
                                   ⟨none, .store 1 (.t 30) (.t 29), none⟩])
                                (.ops
                                  [⟨some 31, .mov (.t 0), none⟩,
                                   ⟨some 32, .bin (.shr) (.other) (.t 31) (.c (.int (.u64) 8)), none⟩,
                                   ⟨some 0, .mov (.t 32), none⟩])))
                            (.ops
                              [⟨some 24, .mov (.t 7), none⟩,
                               ⟨some 25, .bin (.sub) (.other) (.t 24) (.c (.int (.i64) 1)), none⟩,
                               ⟨some 7, .mov (.t 25), none⟩]))))))
                  (.seq
                    (.ops
                      [⟨some 33, .mov (.t 6), none⟩,
                       ⟨some 4, .mov (.t 33), none⟩,
                       ⟨some 5, .mov (.c (.int (.i64) 0)), none⟩])
                    (.ret)))))⟩
theorem c69 : cFunc Tryd.prog Tryd.f69 = some sf69 := by kernel_rfl

/-- wharfage/wharfageref01.size -/
def sf70 : SFunc := ⟨17,
  [.tmp 2],
  .seq
            (.ops [⟨some 2, .mov (.c (.bool false)), none⟩])
            (.seq
              (.ops
                [⟨some 3, .mov (.t 0), none⟩,
                 ⟨some 4, .bin (.eql) (.other) (.t 3) (.c (.int (.i64) 1)), none⟩,
                 ⟨some 5, .mov (.t 4), none⟩,
                 ⟨some 6, .mov (.t 0), some (5, false)⟩,
                 ⟨some 7, .bin (.eql) (.other) (.t 6) (.c (.int (.i64) 2)), some (5, false)⟩,
                 ⟨some 8, .pick (.t 5) (.c (.bool true)) (.t 7), none⟩,
                 ⟨some 9, .mov (.t 8), none⟩,
                 ⟨some 10, .mov (.t 0), some (9, false)⟩,
                 ⟨some 11, .bin (.eql) (.other) (.t 10) (.c (.int (.i64) 4)), some (9, false)⟩,
                 ⟨some 12, .pick (.t 9) (.c (.bool true)) (.t 11), none⟩,
                 ⟨some 13, .mov (.t 12), none⟩,
                 ⟨some 14, .mov (.t 0), some (13, false)⟩,
                 ⟨some 15, .bin (.eql) (.other) (.t 14) (.c (.int (.i64) 8)), some (13, false)⟩,
                 ⟨some 16, .pick (.t 13) (.c (.bool true)) (.t 15), none⟩,
                 ⟨some 2, .mov (.t 16), none⟩])
              (.ret))⟩
theorem c70 : cFunc Tryd.prog Tryd.f70 = some sf70 := by kernel_rfl

/-- wharfage/wharfageref01.Get -/
def sf71 : SFunc := ⟨46,
  [.tmp 6, .tmp 7],
  .seq
            (.ops [⟨some 6, .mov (.c (.int (.u64) 0)), none⟩, ⟨some 7, .mov (.c (.int (.i64) 0)), none⟩])
            (.seq
              (.seq
                (.ops
                  [⟨some 10, .mov (.t 2), none⟩,
                   ⟨some 11, .call 70 [.t 10], none⟩,
                   ⟨some 12, .un (.not) (.t 11), none⟩,
                   ⟨some 13, .mov (.t 12), none⟩,
                   ⟨some 14, .mov (.t 1), some (13, false)⟩,
                   ⟨some 15, .bin (.lss) (.other) (.t 14) (.c (.int (.i64) 0)), some (13, false)⟩,
                   ⟨some 16, .pick (.t 13) (.c (.bool true)) (.t 15), none⟩,
                   ⟨some 17, .mov (.t 16), none⟩,
                   ⟨some 18, .mov (.t 1), some (17, false)⟩,
                   ⟨some 19, .mov (.t 0), some (17, false)⟩,
                   ⟨some 20, .len (.sl) (.t 19), some (17, false)⟩,
                   ⟨some 21, .bin (.gtr) (.other) (.t 18) (.t 20), some (17, false)⟩,
                   ⟨some 22, .pick (.t 17) (.c (.bool true)) (.t 21), none⟩])
                (.cond
                  (.t 22)
                  (.seq
                    (.ops
                      [⟨some 6, .mov (.c (.int (.u64) 0)), none⟩, ⟨some 7, .mov (.c (.int (.i64) 2)), none⟩])
                    (.ret))
                  (.skip)))
              (.seq
                (.seq
                  (.ops
                    [⟨some 23, .mov (.t 0), none⟩,
                     ⟨some 24, .len (.sl) (.t 23), none⟩,
                     ⟨some 25, .mov (.t 1), none⟩,
                     ⟨some 26, .bin (.sub) (.other) (.t 24) (.t 25), none⟩,
                     ⟨some 27, .mov (.t 2), none⟩,
                     ⟨some 28, .bin (.lss) (.other) (.t 26) (.t 27), none⟩])
                  (.cond
                    (.t 28)
                    (.seq
                      (.ops
                        [⟨some 6, .mov (.c (.int (.u64) 0)), none⟩, ⟨some 7, .mov (.c (.int (.i64) 4)), none⟩])
                      (.ret))
                    (.skip)))
                (.seq
                  (.ops [⟨some 8, .mov (.c (.int (.u64) 0)), none⟩])
                  (.seq
                    (.seq
                      (.ops [⟨some 29, .mov (.t 1), none⟩, ⟨some 9, .mov (.t 29), none⟩])
                      (.block
                        0
                        (.loop
                          (.seq
                            (.seq
                              (.ops
                                [⟨some 30, .mov (.t 9), none⟩,
                                 ⟨some 31, .mov (.t 1), none⟩,
                                 ⟨some 32, .mov (.t 2), none⟩,
                                 ⟨some 33, .bin (.add) (.other) (.t 31) (.t 32), none⟩,
                                 ⟨some 34, .bin (.lss) (.other) (.t 30) (.t 33), none⟩])
                              (.cond (.t 34) (.skip) (.exit 0)))
                            (.seq
                              (.block
                                1
                                (.ops
                                  [⟨some 37, .mov (.t 8), none⟩,
                                   ⟨some 38, .bin (.mul) (.other) (.c (.int (.u64) 256)) (.t 37), none⟩,
                                   ⟨some 39, .mov (.t 0), none⟩,
                                   ⟨some 40, .mov (.t 9), none⟩,
                                   ⟨some 41, .idxAddrSl 1 (.t 39) (.t 40), none⟩,
                                   ⟨some 42, .load false 1 (.t 41), none⟩,
                                   ⟨some 43, .convInt (.u64) (.t 42), none⟩,
                                   ⟨some 44, .bin (.add) (.other) (.t 38) (.t 43), none⟩,
                                   ⟨some 8, .mov (.t 44), none⟩]))
                              (.ops
                                [⟨some 35, .mov (.t 9), none⟩,
                                 ⟨some 36, .bin (.add) (.other) (.t 35) (.c (.int (.i64) 1)), none⟩,
                                 ⟨some 9, .mov (.t 36), none⟩]))))))
                    (.seq
                      (.ops
                        [⟨some 45, .mov (.t 8), none⟩,
                         ⟨some 6, .mov (.t 45), none⟩,
                         ⟨some 7, .mov (.c (.int (.i64) 0)), none⟩])
                      (.ret))))))⟩
theorem c71 : cFunc Tryd.prog Tryd.f71 = some sf71 := by kernel_rfl

/-- wharfage/wharfageref02.point -/
def sf73 : SFunc := ⟨92,
  [.tmp 4, .tmp 5],
  .seq
            (.ops [⟨some 4, .mov (.c (.int (.i64) 0)), none⟩, ⟨some 5, .mov (.c (.int (.i64) 0)), none⟩])
            (.seq
              (.ops
                [⟨some 12, .mov (.t 0), none⟩,
                 ⟨some 13, .mov (.t 1), none⟩,
                 ⟨some 14, .idxStr (.t 12) (.t 13), none⟩,
                 ⟨some 15, .convInt (.i64) (.t 14), none⟩,
                 ⟨some 6, .mov (.t 15), none⟩])
              (.seq
                (.seq
                  (.ops
                    [⟨some 16, .mov (.t 6), none⟩,
                     ⟨some 17, .bin (.lss) (.other) (.t 16) (.c (.int (.i64) 128)), none⟩])
                  (.cond
                    (.t 17)
                    (.seq
                      (.ops
                        [⟨some 18, .mov (.t 6), none⟩,
                         ⟨some 4, .mov (.t 18), none⟩,
                         ⟨some 5, .mov (.c (.int (.i64) 1)), none⟩])
                      (.ret))
                    (.skip)))
                (.seq
                  (.ops
                    [⟨some 7, .mov (.c (.int (.i64) 0)), none⟩,
                     ⟨some 8, .mov (.c (.int (.i64) 0)), none⟩,
                     ⟨some 9, .mov (.c (.int (.i64) 0)), none⟩])
                  (.seq
                    (.seq
                      (.ops
                        [⟨some 19, .mov (.t 6), none⟩,
                         ⟨some 20, .bin (.geq) (.other) (.t 19) (.c (.int (.i64) 192)), none⟩,
                         ⟨some 21, .mov (.t 20), none⟩,
                         ⟨some 22, .mov (.t 6), some (21, true)⟩,
                         ⟨some 23, .bin (.lss) (.other) (.t 22) (.c (.int (.i64) 224)), some (21, true)⟩,
                         ⟨some 24, .pick (.t 21) (.t 23) (.c (.bool false)), none⟩])
                      (.cond
                        (.t 24)
                        (.ops
                          [⟨some 25, .mov (.t 6), none⟩,
                           ⟨some 26, .bin (.sub) (.other) (.t 25) (.c (.int (.i64) 192)), none⟩,
                           ⟨some 7, .mov (.c (.int (.i64) 2)), none⟩,
                           ⟨some 8, .mov (.t 26), none⟩,
                           ⟨some 9, .mov (.c (.int (.i64) 128)), none⟩])
                        (.seq
                          (.ops
                            [⟨some 27, .mov (.t 6), none⟩,
                             ⟨some 28, .bin (.geq) (.other) (.t 27) (.c (.int (.i64) 224)), none⟩,
                             ⟨some 29, .mov (.t 28), none⟩,
                             ⟨some 30, .mov (.t 6), some (29, true)⟩,
                             ⟨some 31, .bin (.lss) (.other) (.t 30) (.c (.int (.i64) 240)), some (29, true)⟩,
                             ⟨some 32, .pick (.t 29) (.t 31) (.c (.bool false)), none⟩])
                          (.cond
                            (.t 32)
                            (.ops
                              [⟨some 33, .mov (.t 6), none⟩,
                               ⟨some 34, .bin (.sub) (.other) (.t 33) (.c (.int (.i64) 224)), none⟩,
                               ⟨some 7, .mov (.c (.int (.i64) 3)), none⟩,
                               ⟨some 8, .mov (.t 34), none⟩,
                               ⟨some 9, .mov (.c (.int (.i64) 2048)), none⟩])
                            (.seq
                              (.ops
                                [⟨some 35, .mov (.t 6), none⟩,
                                 ⟨some 36, .bin (.geq) (.other) (.t 35) (.c (.int (.i64) 240)), none⟩,
                                 ⟨some 37, .mov (.t 36), none⟩,
                                 ⟨some 38, .mov (.t 6), some (37, true)⟩,
                                 ⟨some 39, .bin (.lss) (.other) (.t 38) (.c (.int (.i64) 248)), some (37, true)⟩,
                                 ⟨some 40, .pick (.t 37) (.t 39) (.c (.bool false)), none⟩])
                              (.cond
                                (.t 40)
                                (.ops
                                  [⟨some 41, .mov (.t 6), none⟩,
                                   ⟨some 42, .bin (.sub) (.other) (.t 41) (.c (.int (.i64) 240)), none⟩,
                                   ⟨some 7, .mov (.c (.int (.i64) 4)), none⟩,
                                   ⟨some 8, .mov (.t 42), none⟩,
                                   ⟨some 9, .mov (.c (.int (.i64) 65536)), none⟩])
                                (.skip)))))))
                    (.seq
                      (.seq
                        (.ops
                          [⟨some 43, .mov (.t 7), none⟩,
                           ⟨some 44, .bin (.eql) (.other) (.t 43) (.c (.int (.i64) 0)), none⟩,
                           ⟨some 45, .mov (.t 44), none⟩,
                           ⟨some 46, .mov (.t 1), some (45, false)⟩,
                           ⟨some 47, .mov (.t 7), some (45, false)⟩,
                           ⟨some 48, .bin (.add) (.other) (.t 46) (.t 47), some (45, false)⟩,
                           ⟨some 49, .mov (.t 0), some (45, false)⟩,
                           ⟨some 50, .len (.str) (.t 49), some (45, false)⟩,
                           ⟨some 51, .bin (.gtr) (.other) (.t 48) (.t 50), some (45, false)⟩,
                           ⟨some 52, .pick (.t 45) (.c (.bool true)) (.t 51), none⟩])
                        (.cond
                          (.t 52)
                          (.seq
                            (.ops
                              [⟨some 4, .mov (.c (.int (.i64) 0)), none⟩, ⟨some 5, .mov (.c (.int (.i64) 0)), none⟩])
                            (.ret))
                          (.skip)))
                      (.seq
                        (.seq
                          (.ops [⟨some 10, .mov (.c (.int (.i64) 1)), none⟩])
                          (.block
                            0
                            (.loop
                              (.seq
                                (.seq
                                  (.ops
                                    [⟨some 53, .mov (.t 10), none⟩,
                                     ⟨some 54, .mov (.t 7), none⟩,
                                     ⟨some 55, .bin (.lss) (.other) (.t 53) (.t 54), none⟩])
                                  (.cond (.t 55) (.skip) (.exit 0)))
                                (.seq
                                  (.block
                                    1
                                    (.seq
                                      (.ops
                                        [⟨some 58, .mov (.t 0), none⟩,
                                         ⟨some 59, .mov (.t 1), none⟩,
                                         ⟨some 60, .mov (.t 10), none⟩,
                                         ⟨some 61, .bin (.add) (.other) (.t 59) (.t 60), none⟩,
                                         ⟨some 62, .idxStr (.t 58) (.t 61), none⟩,
                                         ⟨some 63, .convInt (.i64) (.t 62), none⟩,
                                         ⟨some 11, .mov (.t 63), none⟩])
                                      (.seq
                                        (.seq
                                          (.ops
                                            [⟨some 64, .mov (.t 11), none⟩,
                                             ⟨some 65, .bin (.lss) (.other) (.t 64) (.c (.int (.i64) 128)), none⟩,
                                             ⟨some 66, .mov (.t 65), none⟩,
                                             ⟨some 67, .mov (.t 11), some (66, false)⟩,
                                             ⟨some 68, .bin (.geq) (.other) (.t 67) (.c (.int (.i64) 192)), some (66, false)⟩,
                                             ⟨some 69, .pick (.t 66) (.c (.bool true)) (.t 68), none⟩])
                                          (.cond
                                            (.t 69)
                                            (.seq
                                              (.ops
                                                [⟨some 4, .mov (.c (.int (.i64) 0)), none⟩,
                                                 ⟨some 5, .mov (.c (.int (.i64) 0)), none⟩])
                                              (.ret))
                                            (.skip)))
                                        (.ops
                                          [⟨some 70, .mov (.t 8), none⟩,
                                           ⟨some 71, .bin (.mul) (.other) (.c (.int (.i64) 64)) (.t 70), none⟩,
                                           ⟨some 72, .mov (.t 11), none⟩,
                                           ⟨some 73, .bin (.add) (.other) (.t 71) (.t 72), none⟩,
                                           ⟨some 74, .bin (.sub) (.other) (.t 73) (.c (.int (.i64) 128)), none⟩,
                                           ⟨some 8, .mov (.t 74), none⟩]))))
                                  (.ops
                                    [⟨some 56, .mov (.t 10), none⟩,
                                     ⟨some 57, .bin (.add) (.other) (.t 56) (.c (.int (.i64) 1)), none⟩,
                                     ⟨some 10, .mov (.t 57), none⟩]))))))
                        (.seq
                          (.seq
                            (.ops
                              [⟨some 75, .mov (.t 8), none⟩,
                               ⟨some 76, .mov (.t 9), none⟩,
                               ⟨some 77, .bin (.lss) (.other) (.t 75) (.t 76), none⟩,
                               ⟨some 78, .mov (.t 77), none⟩,
                               ⟨some 79, .mov (.t 8), some (78, false)⟩,
                               ⟨some 80, .bin (.gtr) (.other) (.t 79) (.c (.int (.i64) 1114111)), some (78, false)⟩,
                               ⟨some 81, .pick (.t 78) (.c (.bool true)) (.t 80), none⟩,
                               ⟨some 82, .mov (.t 81), none⟩,
                               ⟨some 83, .mov (.t 8), some (82, false)⟩,
                               ⟨some 84, .bin (.geq) (.other) (.t 83) (.c (.int (.i64) 55296)), some (82, false)⟩,
                               ⟨some 85, .mov (.t 84), some (82, false)⟩,
                               ⟨some 86, .mov (.t 8), some (85, true)⟩,
                               ⟨some 87, .bin (.leq) (.other) (.t 86) (.c (.int (.i64) 57343)), some (85, true)⟩,
                               ⟨some 88, .pick (.t 85) (.t 87) (.c (.bool false)), some (82, false)⟩,
                               ⟨some 89, .pick (.t 82) (.c (.bool true)) (.t 88), none⟩])
                            (.cond
                              (.t 89)
                              (.seq
                                (.ops
                                  [⟨some 4, .mov (.c (.int (.i64) 0)), none⟩,
                                   ⟨some 5, .mov (.c (.int (.i64) 0)), none⟩])
                                (.ret))
                              (.skip)))
                          (.seq
                            (.ops
                              [⟨some 90, .mov (.t 8), none⟩,
                               ⟨some 91, .mov (.t 7), none⟩,
                               ⟨some 4, .mov (.t 90), none⟩,
                               ⟨some 5, .mov (.t 91), none⟩])
                            (.ret)))))))))⟩
theorem c73 : cFunc Tryd.prog Tryd.f73 = some sf73 := by kernel_rfl

/-- wharfage/num.sized -/
def sf74 : SFunc := ⟨16,
  [.tmp 2],
  .seq
            (.ops [⟨some 2, .mov (.c (.bool false)), none⟩])
            (.seq
              (.ops
                [⟨some 3, .mov (.t 0), none⟩,
                 ⟨some 4, .bin (.geq) (.other) (.t 3) (.c (.int (.i64) 1)), none⟩,
                 ⟨some 5, .mov (.t 4), none⟩,
                 ⟨some 6, .mov (.t 0), some (5, true)⟩,
                 ⟨some 7, .bin (.leq) (.other) (.t 6) (.c (.int (.i64) 8)), some (5, true)⟩,
                 ⟨some 8, .pick (.t 5) (.t 7) (.c (.bool false)), none⟩,
                 ⟨some 9, .mov (.t 8), none⟩,
                 ⟨some 10, .mov (.t 0), some (9, true)⟩,
                 ⟨some 11, .mov (.t 0), some (9, true)⟩,
                 ⟨some 12, .bin (.sub) (.other) (.t 11) (.c (.int (.i64) 1)), some (9, true)⟩,
                 ⟨some 13, .bin (.and) (.other) (.t 10) (.t 12), some (9, true)⟩,
                 ⟨some 14, .bin (.eql) (.other) (.t 13) (.c (.int (.i64) 0)), some (9, true)⟩,
                 ⟨some 15, .pick (.t 9) (.t 14) (.c (.bool false)), none⟩,
                 ⟨some 2, .mov (.t 15), none⟩])
              (.ret))⟩
theorem c74 : cFunc Tryd.prog Tryd.f74 = some sf74 := by kernel_rfl

/-- slices.Backward[[]byte,byte] -/
def sf75 : SFunc := ⟨4,
  [.tmp 2],
  .seq
            (.ops [⟨some 1, .box (.t 0), none⟩, ⟨some 2, .mov (.c (.nilf)), none⟩])
            (.seq (.ops [⟨some 3, .mkFunc 79 [] [.t 1], none⟩, ⟨some 2, .mov (.t 3), none⟩]) (.ret))⟩
theorem c75 : cFunc Tryd.prog Tryd.f75 = some sf75 := by kernel_rfl

/-- slices.IndexFunc[[]byte,byte] -/
def sf76 : SFunc := ⟨19,
  [.tmp 4],
  .seq
            (.ops [⟨some 4, .mov (.c (.int (.i64) 0)), none⟩])
            (.seq
              (.seq
                (.ops
                  [⟨some 6, .mov (.t 0), none⟩,
                   ⟨some 7, .len (.sl) (.t 6), none⟩,
                   ⟨some 8, .mov (.c (.int (.i64) 0)), none⟩])
                (.block
                  0
                  (.loop
                    (.seq
                      (.ops [⟨some 9, .bin (.lss) (.other) (.t 8) (.t 7), none⟩])
                      (.seq
                        (.cond (.t 9) (.skip) (.exit 0))
                        (.seq
                          (.block
                            1
                            (.seq
                              (.ops [⟨some 10, .mov (.t 8), none⟩, ⟨some 5, .mov (.t 10), none⟩])
                              (.seq
                                (.ops
                                  [⟨some 11, .mov (.t 1), none⟩,
                                   ⟨some 12, .mov (.t 0), none⟩,
                                   ⟨some 13, .mov (.t 5), none⟩,
                                   ⟨some 14, .idxAddrSl 1 (.t 12) (.t 13), none⟩,
                                   ⟨some 15, .load false 1 (.t 14), none⟩,
                                   ⟨some 16, .callV (.t 11) [.t 15], none⟩])
                                (.cond
                                  (.t 16)
                                  (.seq (.ops [⟨some 17, .mov (.t 5), none⟩, ⟨some 4, .mov (.t 17), none⟩]) (.ret))
                                  (.skip)))))
                          (.ops
                            [⟨some 18, .bin (.add) (.other) (.t 8) (.c (.int (.i64) 1)), none⟩,
                             ⟨some 8, .mov (.t 18), none⟩])))))))
              (.seq (.ops [⟨some 4, .mov (.c (.int (.i64) (-1))), none⟩]) (.ret)))⟩
theorem c76 : cFunc Tryd.prog Tryd.f76 = some sf76 := by kernel_rfl

/-- math/bits.Len64 -/
def sf77 : SFunc := ⟨25,
  [.tmp 2],
  .seq
            (.ops [⟨some 2, .mov (.c (.int (.i64) 0)), none⟩])
            (.seq
              (.seq
                (.ops
                  [⟨some 3, .mov (.t 0), none⟩,
                   ⟨some 4, .bin (.geq) (.other) (.t 3) (.c (.int (.u64) 4294967296)), none⟩])
                (.cond
                  (.t 4)
                  (.seq
                    (.ops
                      [⟨some 5, .mov (.t 0), none⟩,
                       ⟨some 6, .bin (.shr) (.other) (.t 5) (.c (.int (.u64) 32)), none⟩,
                       ⟨some 0, .mov (.t 6), none⟩])
                    (.ops [⟨some 2, .mov (.c (.int (.i64) 32)), none⟩]))
                  (.skip)))
              (.seq
                (.seq
                  (.ops
                    [⟨some 7, .mov (.t 0), none⟩,
                     ⟨some 8, .bin (.geq) (.other) (.t 7) (.c (.int (.u64) 65536)), none⟩])
                  (.cond
                    (.t 8)
                    (.seq
                      (.ops
                        [⟨some 9, .mov (.t 0), none⟩,
                         ⟨some 10, .bin (.shr) (.other) (.t 9) (.c (.int (.u64) 16)), none⟩,
                         ⟨some 0, .mov (.t 10), none⟩])
                      (.ops
                        [⟨some 11, .mov (.t 2), none⟩,
                         ⟨some 12, .bin (.add) (.other) (.t 11) (.c (.int (.i64) 16)), none⟩,
                         ⟨some 2, .mov (.t 12), none⟩]))
                    (.skip)))
                (.seq
                  (.seq
                    (.ops
                      [⟨some 13, .mov (.t 0), none⟩,
                       ⟨some 14, .bin (.geq) (.other) (.t 13) (.c (.int (.u64) 256)), none⟩])
                    (.cond
                      (.t 14)
                      (.seq
                        (.ops
                          [⟨some 15, .mov (.t 0), none⟩,
                           ⟨some 16, .bin (.shr) (.other) (.t 15) (.c (.int (.u64) 8)), none⟩,
                           ⟨some 0, .mov (.t 16), none⟩])
                        (.ops
                          [⟨some 17, .mov (.t 2), none⟩,
                           ⟨some 18, .bin (.add) (.other) (.t 17) (.c (.int (.i64) 8)), none⟩,
                           ⟨some 2, .mov (.t 18), none⟩]))
                      (.skip)))
                  (.seq
                    (.ops
                      [⟨some 19, .mov (.t 2), none⟩,
                       ⟨some 20, .mov (.t 0), none⟩,
                       ⟨some 21, .convInt (.u8) (.t 20), none⟩,
                       ⟨some 22,
                         .idxStr
                                 (.c
                                   (.str
                                     [0, 1, 2, 2, 3, 3, 3, 3, 4, 4, 4, 4, 4, 4, 4, 4, 5, 5, 5, 5, 5, 5, 5, 5, 5, 5, 5, 5, 5, 5, 5, 5, 6, 6, 6, 6, 6, 6, 6, 6, 6, 6, 6, 6, 6, 6, 6, 6, 6, 6, 6, 6, 6, 6, 6, 6, 6, 6, 6, 6, 6, 6, 6, 6, 7, 7, 7,
                                      7, 7, 7, 7, 7, 7, 7, 7, 7, 7, 7, 7, 7, 7, 7, 7, 7, 7, 7, 7, 7, 7, 7, 7, 7, 7, 7, 7, 7, 7, 7, 7, 7, 7, 7, 7, 7, 7, 7, 7, 7, 7, 7, 7, 7, 7, 7, 7, 7, 7, 7, 7, 7, 7, 7, 7, 7, 7, 7, 7, 7, 8, 8, 8, 8, 8, 8,
                                      8, 8, 8, 8, 8, 8, 8, 8, 8, 8, 8, 8, 8, 8, 8, 8, 8, 8, 8, 8, 8, 8, 8, 8, 8, 8, 8, 8, 8, 8, 8, 8, 8, 8, 8, 8, 8, 8, 8, 8, 8, 8, 8, 8, 8, 8, 8, 8, 8, 8, 8, 8, 8, 8, 8, 8, 8, 8, 8, 8, 8, 8, 8, 8, 8, 8, 8,
                                      8, 8, 8, 8, 8, 8, 8, 8, 8, 8, 8, 8, 8, 8, 8, 8, 8, 8, 8, 8, 8, 8, 8, 8, 8, 8, 8, 8, 8, 8, 8, 8, 8, 8, 8, 8, 8, 8, 8, 8, 8, 8, 8, 8, 8, 8, 8, 8, 8, 8, 8, 8, 8, 8, 8]))
                                 (.t 21),
                         none⟩,
                       ⟨some 23, .convInt (.i64) (.t 22), none⟩,
                       ⟨some 24, .bin (.add) (.other) (.t 19) (.t 23), none⟩,
                       ⟨some 2, .mov (.t 24), none⟩])
                    (.ret)))))⟩
theorem c77 : cFunc Tryd.prog Tryd.f77 = some sf77 := by kernel_rfl

/-- slices.Backward[[]byte,byte]$1 -/
def sf79 : SFunc := ⟨19,
  [],
  .seq
            (.ops
              [⟨some 4, .load false 1 (.t 1), none⟩,
               ⟨some 5, .len (.sl) (.t 4), none⟩,
               ⟨some 6, .bin (.sub) (.other) (.t 5) (.c (.int (.i64) 1)), none⟩,
               ⟨some 3, .mov (.t 6), none⟩])
            (.block
              0
              (.loop
                (.seq
                  (.seq
                    (.ops
                      [⟨some 7, .mov (.t 3), none⟩,
                       ⟨some 8, .bin (.geq) (.other) (.t 7) (.c (.int (.i64) 0)), none⟩])
                    (.cond (.t 8) (.skip) (.exit 0)))
                  (.seq
                    (.block
                      1
                      (.seq
                        (.ops
                          [⟨some 11, .mov (.t 0), none⟩,
                           ⟨some 12, .mov (.t 3), none⟩,
                           ⟨some 13, .load false 1 (.t 1), none⟩,
                           ⟨some 14, .mov (.t 3), none⟩,
                           ⟨some 15, .idxAddrSl 1 (.t 13) (.t 14), none⟩,
                           ⟨some 16, .load false 1 (.t 15), none⟩,
                           ⟨some 17, .callV (.t 11) [.t 12, .t 16], none⟩,
                           ⟨some 18, .un (.not) (.t 17), none⟩])
                        (.cond (.t 18) (.ret) (.skip))))
                    (.ops
                      [⟨some 9, .mov (.t 3), none⟩,
                       ⟨some 10, .bin (.sub) (.other) (.t 9) (.c (.int (.i64) 1)), none⟩,
                       ⟨some 3, .mov (.t 10), none⟩])))))⟩
theorem c79 : cFunc Tryd.prog Tryd.f79 = some sf79 := by kernel_rfl

def tab : FuncId → Option SFunc
  | 3 => some sf3
  | 4 => some sf4
  | 5 => some sf5
  | 6 => some sf6
  | 7 => some sf7
  | 8 => some sf8
  | 9 => some sf9
  | 10 => some sf10
  | 11 => some sf11
  | 12 => some sf12
  | 13 => some sf13
  | 14 => some sf14
  | 15 => some sf15
  | 16 => some sf16
  | 17 => some sf17
  | 18 => some sf18
  | 19 => some sf19
  | 20 => some sf20
  | 21 => some sf21
  | 22 => some sf22
  | 23 => some sf23
  | 24 => some sf24
  | 25 => some sf25
  | 26 => some sf26
  | 27 => some sf27
  | 28 => some sf28
  | 29 => some sf29
  | 30 => some sf30
  | 31 => some sf31
  | 32 => some sf32
  | 33 => some sf33
  | 34 => some sf34
  | 35 => some sf35
  | 36 => some sf36
  | 37 => some sf37
  | 38 => some sf38
  | 39 => some sf39
  | 40 => some sf40
  | 41 => some sf41
  | 42 => some sf42
  | 43 => some sf43
  | 44 => some sf44
  | 45 => some sf45
  | 46 => some sf46
  | 47 => some sf47
  | 48 => some sf48
  | 49 => some sf49
  | 50 => some sf50
  | 51 => some sf51
  | 52 => some sf52
  | 53 => some sf53
  | 54 => some sf54
  | 55 => some sf55
  | 56 => some sf56
  | 57 => some sf57
  | 58 => some sf58
  | 59 => some sf59
  | 60 => some sf60
  | 61 => some sf61
  | 62 => some sf62
  | 63 => some sf63
  | 64 => some sf64
  | 65 => some sf65
  | 66 => some sf66
  | 67 => some sf67
  | 68 => some sf68
  | 69 => some sf69
  | 70 => some sf70
  | 71 => some sf71
  | 73 => some sf73
  | 74 => some sf74
  | 75 => some sf75
  | 76 => some sf76
  | 77 => some sf77
  | 79 => some sf79
  | _ => none
theorem conv : Conv Tryd.prog tab := by
  intro f sf h
  unfold tab at h
  split at h
  · cases h; exact ⟨Tryd.f3, Tryd.func3, c3⟩
  · cases h; exact ⟨Tryd.f4, Tryd.func4, c4⟩
  · cases h; exact ⟨Tryd.f5, Tryd.func5, c5⟩
  · cases h; exact ⟨Tryd.f6, Tryd.func6, c6⟩
  · cases h; exact ⟨Tryd.f7, Tryd.func7, c7⟩
  · cases h; exact ⟨Tryd.f8, Tryd.func8, c8⟩
  · cases h; exact ⟨Tryd.f9, Tryd.func9, c9⟩
  · cases h; exact ⟨Tryd.f10, Tryd.func10, c10⟩
  · cases h; exact ⟨Tryd.f11, Tryd.func11, c11⟩
  · cases h; exact ⟨Tryd.f12, Tryd.func12, c12⟩
  · cases h; exact ⟨Tryd.f13, Tryd.func13, c13⟩
  · cases h; exact ⟨Tryd.f14, Tryd.func14, c14⟩
  · cases h; exact ⟨Tryd.f15, Tryd.func15, c15⟩
  · cases h; exact ⟨Tryd.f16, Tryd.func16, c16⟩
  · cases h; exact ⟨Tryd.f17, Tryd.func17, c17⟩
  · cases h; exact ⟨Tryd.f18, Tryd.func18, c18⟩
  · cases h; exact ⟨Tryd.f19, Tryd.func19, c19⟩
  · cases h; exact ⟨Tryd.f20, Tryd.func20, c20⟩
  · cases h; exact ⟨Tryd.f21, Tryd.func21, c21⟩
  · cases h; exact ⟨Tryd.f22, Tryd.func22, c22⟩
  · cases h; exact ⟨Tryd.f23, Tryd.func23, c23⟩
  · cases h; exact ⟨Tryd.f24, Tryd.func24, c24⟩
  · cases h; exact ⟨Tryd.f25, Tryd.func25, c25⟩
  · cases h; exact ⟨Tryd.f26, Tryd.func26, c26⟩
  · cases h; exact ⟨Tryd.f27, Tryd.func27, c27⟩
  · cases h; exact ⟨Tryd.f28, Tryd.func28, c28⟩
  · cases h; exact ⟨Tryd.f29, Tryd.func29, c29⟩
  · cases h; exact ⟨Tryd.f30, Tryd.func30, c30⟩
  · cases h; exact ⟨Tryd.f31, Tryd.func31, c31⟩
  · cases h; exact ⟨Tryd.f32, Tryd.func32, c32⟩
  · cases h; exact ⟨Tryd.f33, Tryd.func33, c33⟩
  · cases h; exact ⟨Tryd.f34, Tryd.func34, c34⟩
  · cases h; exact ⟨Tryd.f35, Tryd.func35, c35⟩
  · cases h; exact ⟨Tryd.f36, Tryd.func36, c36⟩
  · cases h; exact ⟨Tryd.f37, Tryd.func37, c37⟩
  · cases h; exact ⟨Tryd.f38, Tryd.func38, c38⟩
  · cases h; exact ⟨Tryd.f39, Tryd.func39, c39⟩
  · cases h; exact ⟨Tryd.f40, Tryd.func40, c40⟩
  · cases h; exact ⟨Tryd.f41, Tryd.func41, c41⟩
  · cases h; exact ⟨Tryd.f42, Tryd.func42, c42⟩
  · cases h; exact ⟨Tryd.f43, Tryd.func43, c43⟩
  · cases h; exact ⟨Tryd.f44, Tryd.func44, c44⟩
  · cases h; exact ⟨Tryd.f45, Tryd.func45, c45⟩
  · cases h; exact ⟨Tryd.f46, Tryd.func46, c46⟩
  · cases h; exact ⟨Tryd.f47, Tryd.func47, c47⟩
  · cases h; exact ⟨Tryd.f48, Tryd.func48, c48⟩
  · cases h; exact ⟨Tryd.f49, Tryd.func49, c49⟩
  · cases h; exact ⟨Tryd.f50, Tryd.func50, c50⟩
  · cases h; exact ⟨Tryd.f51, Tryd.func51, c51⟩
  · cases h; exact ⟨Tryd.f52, Tryd.func52, c52⟩
  · cases h; exact ⟨Tryd.f53, Tryd.func53, c53⟩
  · cases h; exact ⟨Tryd.f54, Tryd.func54, c54⟩
  · cases h; exact ⟨Tryd.f55, Tryd.func55, c55⟩
  · cases h; exact ⟨Tryd.f56, Tryd.func56, c56⟩
  · cases h; exact ⟨Tryd.f57, Tryd.func57, c57⟩
  · cases h; exact ⟨Tryd.f58, Tryd.func58, c58⟩
  · cases h; exact ⟨Tryd.f59, Tryd.func59, c59⟩
  · cases h; exact ⟨Tryd.f60, Tryd.func60, c60⟩
  · cases h; exact ⟨Tryd.f61, Tryd.func61, c61⟩
  · cases h; exact ⟨Tryd.f62, Tryd.func62, c62⟩
  · cases h; exact ⟨Tryd.f63, Tryd.func63, c63⟩
  · cases h; exact ⟨Tryd.f64, Tryd.func64, c64⟩
  · cases h; exact ⟨Tryd.f65, Tryd.func65, c65⟩
  · cases h; exact ⟨Tryd.f66, Tryd.func66, c66⟩
  · cases h; exact ⟨Tryd.f67, Tryd.func67, c67⟩
  · cases h; exact ⟨Tryd.f68, Tryd.func68, c68⟩
  · cases h; exact ⟨Tryd.f69, Tryd.func69, c69⟩
  · cases h; exact ⟨Tryd.f70, Tryd.func70, c70⟩
  · cases h; exact ⟨Tryd.f71, Tryd.func71, c71⟩
  · cases h; exact ⟨Tryd.f73, Tryd.func73, c73⟩
  · cases h; exact ⟨Tryd.f74, Tryd.func74, c74⟩
  · cases h; exact ⟨Tryd.f75, Tryd.func75, c75⟩
  · cases h; exact ⟨Tryd.f76, Tryd.func76, c76⟩
  · cases h; exact ⟨Tryd.f77, Tryd.func77, c77⟩
  · cases h; exact ⟨Tryd.f79, Tryd.func79, c79⟩
  · cases h
theorem mixed : Tryd.prog.follows .mixedOrders = true := Tryd.checked.mixed
theorem laid : laidOutB Tryd.prog = true := by kernel_rfl
end Go.Proofs.YtdmabiefaeidmaaDoor.Ya
