/- The functions of the program, in the small language. Printed by genp.py. -/
import Derived.Test.YtaphnbaiamnfpaaDoorPsT
import Derived.Test.YtaphnbaiamnfpaaDoorProg
namespace Go.Proofs.YtaphnbaiamnfpaaDoor.Ps
set_option maxRecDepth 100000
open Go Go.RowKit
/-! sortilege/sortilegelaw07.PrinterRights -/
def j3_0 : SCode :=
  (.seq none (.region true [⟨(some 7), (.load true 10 (.t 1)), [], none⟩, ⟨(some 8), (.call 9 [(.t 7)]), [0], none⟩, ⟨(some 9), (.load true 10 (.t 1)), [], none⟩, ⟨(some 10), (.call 10 [(.t 9)]), [2,
  1], none⟩, ⟨(some 11), (.bbin .eql (.t 8) (.t 10)), [1, 3], none⟩, ⟨(some 12), (.mov (.t 11)), [4, 3], none⟩, ⟨(some 13), (.faddr 2 (.t 1)), [5], (some (5, (12, true)))⟩, ⟨(some 14),
  (.load true 8 (.t 13)), [6, 5], (some (5, (12, true)))⟩, ⟨(some 15), (.call 11 [(.t 14)]), [7, 5, 5], (some (5, (12, true)))⟩, ⟨(some 16), (.faddr 2 (.t 1)), [5], (some (5, (12, true)))⟩,
  ⟨(some 17), (.load true 8 (.t 16)), [9, 5], (some (5, (12, true)))⟩, ⟨(some 18), (.call 12 [(.t 17)]), [10, 8, 5], (some (5, (12, true)))⟩, ⟨(some 19), (.bbin .eql (.t 15) (.t 18)), [8, 11, 5],
  (some (5, (12, true)))⟩, ⟨(some 20), (.pick (.t 12) (.t 19) (.k (.one (.d (.bool false))))), [5, 12], none⟩, ⟨(some 21), (.mov (.t 20)), [13, 11], none⟩, ⟨(some 22), (.call 8 []), [14, 14],
  (some (14, (21, true)))⟩, ⟨(some 23), (.pick (.t 21) (.t 22) (.k (.one (.d (.bool false))))), [14, 15], none⟩, ⟨(some 2), (.mov (.t 23)), [16, 15, 0, 1, 2, 3, 4, 5, 6, 7, 8, 9, 10, 11, 12, 13, 14,
  15, 16], none⟩]) .ret)
def sf3 : SFunc :=
  ⟨1, [(.tmp 2)], (.seq none (.region false [⟨(some 1), (.box [(.lst 5), (.lst 14), (.int .i64), (.int .i64), .str, (.lst 1), (.lst 1), (.lst 8), (.int .i64), (.int .i64)] (.t 0)), [], none⟩, ⟨(some 2),
  (.mov (.k (.one (.d (.bool false))))), [], none⟩]) (.seq (some [1]) (.seq none (.region false [⟨(some 3), (.load true 10 (.t 1)), [], none⟩, ⟨(some 4), (.call 7 [(.k (.one (.d (.int .i64 2000)))),
  (.t 3)]), [0], none⟩, ⟨(some 5), (.inot (.t 4)), [1], none⟩]) (.cond (.t 5) (.seq none (.region false [⟨(some 6), (.call 8 []), [], none⟩, ⟨(some 2), (.mov (.t 6)), [0, 0, 0],
  none⟩]) .ret) .skip)) j3_0))⟩
theorem c3 : compFunc Tryd.prog [none, some [1], none, none, none] Tryd.f3 = some sf3 := by kernel_rfl
/-! sortilege/sortilegelaw06.FewProgram -/
def j7_2 : SCode :=
  (.region false [⟨(some 28), (.mov (.t 7)), [], none⟩, ⟨(some 29), (.ibin .i64 .add (.t 28) (.k (.one (.d (.int .i64 1))))), [0], none⟩, ⟨(some 7), (.mov (.t 29)), [1, 0, 1], none⟩])
def j7_1 : SCode :=
  (.seq (some [0, 3, 5, 6, 7]) (.block 1 (.region false [⟨(some 30), (.mov (.t 6)), [], none⟩, ⟨(some 31), (.faddr 0 (.t 3)), [], none⟩, ⟨(some 32), (.load false 1 (.t 31)), [1], none⟩, ⟨(some 33),
  (.mov (.t 7)), [], none⟩, ⟨(some 34), (.iaddr 5 (.t 32) (.t 33)), [2, 3], none⟩, ⟨(some 35), (.faddr 1 (.t 34)), [4], none⟩, ⟨(some 36), (.load true 2 (.t 35)), [5], none⟩, ⟨(some 37),
  (.lit 58 2 [(.t 36)]), [6], none⟩, ⟨(some 38), (.app 58 2 32 (.t 30) (.t 37)), [0, 7], none⟩, ⟨(some 6), (.mov (.t 38)), [8, 8, 0, 1, 2, 3, 4, 5, 6, 7, 8], none⟩])) j7_2)
def lb7_0 : SCode :=
  (.seq (some [0, 3, 5, 6, 7]) (.seq none (.region false [⟨(some 23), (.mov (.t 7)), [], none⟩, ⟨(some 24), (.faddr 0 (.t 3)), [], none⟩, ⟨(some 25), (.load false 1 (.t 24)), [1], none⟩, ⟨(some 26),
  (.len false (.t 25)), [2], none⟩, ⟨(some 27), (.ibin .i64 .lss (.t 23) (.t 26)), [0, 3], none⟩]) (.cond (.t 27) .skip (.exit 0))) j7_1)
def j7_7 : SCode :=
  (.region false [⟨(some 81), (.mov (.t 9)), [], none⟩, ⟨(some 82), (.ibin .i64 .add (.t 81) (.k (.one (.d (.int .i64 1))))), [0], none⟩, ⟨(some 9), (.mov (.t 82)), [1, 0, 1], none⟩])
def j7_6 : SCode :=
  (.seq (some [0, 3, 5, 6, 8, 9]) (.block 5 (.region false [⟨(some 83), (.mov (.t 6)), [], none⟩, ⟨(some 84), (.faddr 1 (.t 3)), [], none⟩, ⟨(some 85), (.load false 1 (.t 84)), [1], none⟩, ⟨(some 86),
  (.mov (.t 8)), [], none⟩, ⟨(some 87), (.iaddr 14 (.t 85) (.t 86)), [2, 3], none⟩, ⟨(some 88), (.faddr 1 (.t 87)), [4], none⟩, ⟨(some 89), (.load false 1 (.t 88)), [5], none⟩, ⟨(some 90),
  (.mov (.t 9)), [], none⟩, ⟨(some 91), (.iaddr 5 (.t 89) (.t 90)), [6, 7], none⟩, ⟨(some 92), (.faddr 1 (.t 91)), [8], none⟩, ⟨(some 93), (.load true 2 (.t 92)), [9], none⟩, ⟨(some 94),
  (.lit 58 2 [(.t 93)]), [10], none⟩, ⟨(some 95), (.app 58 2 32 (.t 83) (.t 94)), [0, 11], none⟩, ⟨(some 6), (.mov (.t 95)), [12, 12, 0, 1, 2, 3, 4, 5, 6, 7, 8, 9, 10, 11, 12], none⟩])) j7_7)
def lb7_2 : SCode :=
  (.seq (some [0, 3, 5, 6, 8, 9]) (.seq none (.region false [⟨(some 72), (.mov (.t 9)), [], none⟩, ⟨(some 73), (.faddr 1 (.t 3)), [], none⟩, ⟨(some 74), (.load false 1 (.t 73)), [1], none⟩, ⟨(some 75),
  (.mov (.t 8)), [], none⟩, ⟨(some 76), (.iaddr 14 (.t 74) (.t 75)), [2, 3], none⟩, ⟨(some 77), (.faddr 1 (.t 76)), [4], none⟩, ⟨(some 78), (.load false 1 (.t 77)), [5], none⟩, ⟨(some 79),
  (.len false (.t 78)), [6], none⟩, ⟨(some 80), (.ibin .i64 .lss (.t 72) (.t 79)), [0, 7], none⟩]) (.cond (.t 80) .skip (.exit 4))) j7_6)
def j7_5 : SCode :=
  (.seq none (.region false [⟨(some 54), (.mov (.t 5)), [], none⟩, ⟨(some 55), (.faddr 1 (.t 3)), [], none⟩, ⟨(some 56), (.load false 1 (.t 55)), [1], none⟩, ⟨(some 57), (.mov (.t 8)), [], none⟩,
  ⟨(some 58), (.iaddr 14 (.t 56) (.t 57)), [2, 3], none⟩, ⟨(some 59), (.faddr 4 (.t 58)), [4], none⟩, ⟨(some 60), (.load true 8 (.t 59)), [5], none⟩, ⟨(some 61), (.lit 28 8 [(.t 60)]), [6], none⟩,
  ⟨(some 62), (.app 28 8 120 (.t 54) (.t 61)), [0, 7], none⟩, ⟨(some 5), (.mov (.t 62)), [8, 8, 0, 1, 2, 3, 4, 5, 6, 7, 8], none⟩]) (.seq none (.region false [⟨(some 63), (.mov (.t 6)), [], none⟩,
  ⟨(some 64), (.faddr 1 (.t 3)), [], none⟩, ⟨(some 65), (.load false 1 (.t 64)), [1], none⟩, ⟨(some 66), (.mov (.t 8)), [], none⟩, ⟨(some 67), (.iaddr 14 (.t 65) (.t 66)), [2, 3], none⟩, ⟨(some 68),
  (.faddr 2 (.t 67)), [4], none⟩, ⟨(some 69), (.load true 2 (.t 68)), [5], none⟩, ⟨(some 70), (.lit 58 2 [(.t 69)]), [6], none⟩, ⟨(some 71), (.app 58 2 32 (.t 63) (.t 70)), [0, 7], none⟩, ⟨(some 6),
  (.mov (.t 71)), [8, 8, 0, 1, 2, 3, 4, 5, 6, 7, 8], none⟩]) (.seq none (.region false [⟨(some 9), (.mov (.k (.one (.d (.int .i64 0))))), [], none⟩]) (.block 4 (.loop [0, 3, 5, 6, 8, 9] lb7_2)))))
def j7_8 : SCode :=
  (.region false [⟨(some 44), (.mov (.t 8)), [], none⟩, ⟨(some 45), (.ibin .i64 .add (.t 44) (.k (.one (.d (.int .i64 1))))), [0], none⟩, ⟨(some 8), (.mov (.t 45)), [1, 0, 1], none⟩])
def j7_4 : SCode :=
  (.seq (some [0, 3, 5, 6, 8]) (.block 3 (.seq (some [0, 3, 5, 6, 8]) (.seq none (.region false [⟨(some 46), (.faddr 1 (.t 3)), [], none⟩, ⟨(some 47), (.load false 1 (.t 46)), [0], none⟩, ⟨(some 48),
  (.mov (.t 8)), [], none⟩, ⟨(some 49), (.iaddr 14 (.t 47) (.t 48)), [1, 2], none⟩, ⟨(some 50), (.faddr 1 (.t 49)), [3], none⟩, ⟨(some 51), (.load false 1 (.t 50)), [4], none⟩, ⟨(some 52),
  (.len false (.t 51)), [5], none⟩, ⟨(some 53), (.ibin .i64 .gtr (.t 52) (.k (.one (.d (.int .i64 100))))), [6], none⟩]) (.cond (.t 53) (.seq none (.region false [⟨(some 4),
  (.mov (.k (.one (.d (.bool false))))), [], none⟩]) .ret) .skip)) j7_5)) j7_8)
def lb7_1 : SCode :=
  (.seq (some [0, 3, 5, 6, 8]) (.seq none (.region false [⟨(some 39), (.mov (.t 8)), [], none⟩, ⟨(some 40), (.faddr 1 (.t 3)), [], none⟩, ⟨(some 41), (.load false 1 (.t 40)), [1], none⟩, ⟨(some 42),
  (.len false (.t 41)), [2], none⟩, ⟨(some 43), (.ibin .i64 .lss (.t 39) (.t 42)), [0, 3], none⟩]) (.cond (.t 43) .skip (.exit 2))) j7_4)
def j7_9 : SCode :=
  (.seq none (.region false [⟨(some 96), (.mov (.t 0)), [], none⟩, ⟨(some 97), (.mov (.t 5)), [], none⟩, ⟨(some 98), (.call 13 [(.t 96), (.t 97)]), [0, 1], none⟩, ⟨(some 99), (.mov (.t 98)), [2, 2],
  none⟩, ⟨(some 100), (.mov (.t 0)), [3], (some (3, (99, true)))⟩, ⟨(some 101), (.mov (.t 6)), [3], (some (3, (99, true)))⟩, ⟨(some 102), (.call 22 [(.t 100), (.t 101)]), [4, 5, 3, 3], (some (3, (99,
  true)))⟩, ⟨(some 103), (.pick (.t 99) (.t 102) (.k (.one (.d (.bool false))))), [3, 6], none⟩, ⟨(some 4), (.mov (.t 103)), [7, 6, 0, 1, 2, 3, 4, 5, 6, 7], none⟩]) .ret)
def j7_3 : SCode :=
  (.seq (some [0, 5, 6]) (.seq none (.region false [⟨(some 8), (.mov (.k (.one (.d (.int .i64 0))))), [], none⟩]) (.block 2 (.loop [0, 3, 5, 6, 8] lb7_1))) j7_9)
def j7_0 : SCode :=
  (.seq none (.region false [⟨(some 20), (.faddr 2 (.t 3)), [], none⟩, ⟨(some 21), (.load true 8 (.t 20)), [0], none⟩, ⟨(some 22), (.lit 28 8 [(.t 21)]), [1], none⟩, ⟨(some 5), (.mov (.t 22)), [2, 0, 1,
  2], none⟩]) (.seq none (.region false [⟨(some 6), (.mov (.k (.one (.nilL 2)))), [], none⟩]) (.seq (some [0, 3, 5, 6]) (.seq none (.region false [⟨(some 7), (.mov (.k (.one (.d (.int .i64 0))))), [],
  none⟩]) (.block 0 (.loop [0, 3, 5, 6, 7] lb7_0))) j7_3)))
def sf7 : SFunc :=
  ⟨2, [(.tmp 4)], (.seq none (.region false [⟨(some 3), (.box [(.lst 5), (.lst 14), (.int .i64), (.int .i64), .str, (.lst 1), (.lst 1), (.lst 8), (.int .i64), (.int .i64)] (.t 1)), [], none⟩, ⟨(some 4),
  (.mov (.k (.one (.d (.bool false))))), [], none⟩]) (.seq (some [0, 3]) (.seq none (.region false [⟨(some 10), (.faddr 0 (.t 3)), [], none⟩, ⟨(some 11), (.load false 1 (.t 10)), [0], none⟩,
  ⟨(some 12), (.len false (.t 11)), [1], none⟩, ⟨(some 13), (.ibin .i64 .gtr (.t 12) (.k (.one (.d (.int .i64 100))))), [2], none⟩, ⟨(some 14), (.mov (.t 13)), [3], none⟩, ⟨(some 15),
  (.faddr 1 (.t 3)), [4], (some (4, (14, false)))⟩, ⟨(some 16), (.load false 1 (.t 15)), [5, 4], (some (4, (14, false)))⟩, ⟨(some 17), (.len false (.t 16)), [6, 4], (some (4, (14, false)))⟩,
  ⟨(some 18), (.ibin .i64 .gtr (.t 17) (.k (.one (.d (.int .i64 100))))), [7, 4], (some (4, (14, false)))⟩, ⟨(some 19), (.pick (.t 14) (.k (.one (.d (.bool true)))) (.t 18)), [4, 8],
  none⟩]) (.cond (.t 19) (.seq none (.region false [⟨(some 4), (.mov (.k (.one (.d (.bool false))))), [], none⟩]) .ret) .skip)) j7_0))⟩
theorem c7 : compFunc Tryd.prog [none, some [0, 3], none, none, none, none, some [0, 3, 5, 6], none, some [0, 3, 5, 6, 7], some [0, 3, 5, 6, 7], none, some [0, 3, 5, 6, 7], some [0, 5, 6], none, some [0, 3, 5, 6, 8], some [0, 3, 5, 6, 8], none, some [0, 3, 5, 6, 8], some [0, 3, 5, 6, 8], none, none, none, none, none, some [0, 3, 5, 6, 8, 9], some [0, 3, 5, 6, 8, 9], none, some [0, 3, 5, 6, 8, 9], none] Tryd.f7 = some sf7 := by kernel_rfl
/-! sortilege/sortilegelaw07.awake -/
def sf8 : SFunc :=
  ⟨0, [(.tmp 0)], (.seq none (.region false [⟨(some 0), (.mov (.k (.one (.d (.bool false))))), [], none⟩]) (.seq none (.region false [⟨(some 13), (.call 24 [(.k (.one (.d (.int .i64 1))))]), [], none⟩,
  ⟨(some 14), (.call 24 [(.k (.one (.d (.int .i64 2))))]), [0], none⟩, ⟨(some 15), (.lit 28 8 [(.t 13), (.t 14)]), [0, 1], none⟩, ⟨(some 16), (.call 23 [(.k (.one (.d (.str ⟨#[43]⟩)))), (.t 15)]), [2,
  1], none⟩, ⟨(some 17), (.call 24 [(.k (.one (.d (.int .i64 3))))]), [3], none⟩, ⟨(some 18), (.lit 28 8 [(.t 16), (.t 17)]), [3, 4], none⟩, ⟨(some 19), (.call 23 [(.k (.one (.d (.str ⟨#[42]⟩)))),
  (.t 18)]), [5, 4], none⟩, ⟨(some 20), (.call 14 [(.t 19)]), [6, 6], none⟩, ⟨(some 12), (.mov (.t 20)), [7], none⟩, ⟨(some 21), (.ext (.t 12) 0), [8], none⟩, ⟨(some 22), (.ext (.t 12) 1), [8], none⟩,
  ⟨(some 1), (.mov (.t 21)), [9, 7, 0, 1, 2, 3, 4, 5, 6, 7, 8, 9], none⟩, ⟨(some 2), (.mov (.t 22)), [10, 11, 0, 1, 2, 3, 4, 5, 6, 7, 8, 9, 10, 11], none⟩]) (.seq none (.region false [⟨(some 24),
  (.call 24 [(.k (.one (.d (.int .i64 1))))]), [], none⟩, ⟨(some 25), (.lit 28 8 [(.t 24)]), [0], none⟩, ⟨(some 26), (.call 23 [(.k (.one (.d (.str ⟨#[110, 101, 103]⟩)))), (.t 25)]), [1, 0], none⟩,
  ⟨(some 27), (.lit 28 8 [(.t 26)]), [2], none⟩, ⟨(some 28), (.call 23 [(.k (.one (.d (.str ⟨#[110, 101, 103]⟩)))), (.t 27)]), [3, 2], none⟩, ⟨(some 29), (.call 14 [(.t 28)]), [4, 4], none⟩,
  ⟨(some 23), (.mov (.t 29)), [5], none⟩, ⟨(some 30), (.ext (.t 23) 0), [6], none⟩, ⟨(some 31), (.ext (.t 23) 1), [6], none⟩, ⟨(some 3), (.mov (.t 30)), [7, 5, 0, 1, 2, 3, 4, 5, 6, 7], none⟩,
  ⟨(some 4), (.mov (.t 31)), [8, 9, 0, 1, 2, 3, 4, 5, 6, 7, 8, 9], none⟩]) (.seq none (.region false [⟨(some 32), (.build [(.d (.int .i64 0)), (.d (.int .i64 0)), (.d (.str ⟨#[]⟩)), (.nilL 1),
  (.nilL 1), (.nilL 8), (.d (.int .i64 0)), (.d (.int .i64 0))] [(0, (1, (.k (.one (.d (.int .i64 3)))))), (2, (1, (.k (.one (.d (.str ⟨#[97]⟩))))))]), [], none⟩, ⟨(some 5), (.alloc [(.int .i64),
  (.int .i64), .str, (.lst 1), (.lst 1), (.lst 8), (.int .i64), (.int .i64)] [(.d (.int .i64 0)), (.d (.int .i64 0)), (.d (.str ⟨#[]⟩)), (.nilL 1), (.nilL 1), (.nilL 8), (.d (.int .i64 0)),
  (.d (.int .i64 0))]), [], none⟩, ⟨none, (.store 8 (.t 5) (.t 32)), [1, 0, 0, 1], none⟩]) (.seq none (.region true [⟨(some 34), (.call 24 [(.k (.one (.d (.int .i64 1))))]), [], none⟩, ⟨(some 35),
  (.load true 8 (.t 5)), [], none⟩, ⟨(some 36), (.load true 8 (.t 5)), [], none⟩, ⟨(some 37), (.load true 8 (.t 5)), [], none⟩, ⟨(some 38), (.lit 28 8 [(.t 35), (.t 36), (.t 37)]), [1, 2, 3], none⟩,
  ⟨(some 39), (.build [(.d (.int .i64 0)), (.d (.int .i64 0)), (.d (.str ⟨#[]⟩)), (.nilL 1), (.nilL 1), (.nilL 8), (.d (.int .i64 0)), (.d (.int .i64 0))] [(0, (1, (.k (.one (.d (.int .i64 9)))))),
  (5, (1, (.t 38)))]), [4], none⟩, ⟨(some 40), (.lit 28 8 [(.t 34), (.t 39)]), [0, 5], none⟩, ⟨(some 41), (.call 23 [(.k (.one (.d (.str ⟨#[43]⟩)))), (.t 40)]), [6, 0], none⟩, ⟨(some 42),
  (.call 14 [(.t 41)]), [7, 7], none⟩, ⟨(some 33), (.mov (.t 42)), [8], none⟩, ⟨(some 43), (.ext (.t 33) 0), [9], none⟩, ⟨(some 44), (.ext (.t 33) 1), [9], none⟩, ⟨(some 6), (.mov (.t 43)), [10, 8, 0,
  1, 2, 3, 4, 5, 6, 7, 8, 9, 10], none⟩, ⟨(some 7), (.mov (.t 44)), [11, 12, 0, 1, 2, 3, 4, 5, 6, 7, 8, 9, 10, 11, 12], none⟩]) (.seq none (.region false [⟨(some 46),
  (.call 24 [(.k (.one (.d (.int .i64 1))))]), [], none⟩, ⟨(some 47), (.lit 28 8 [(.t 46)]), [0], none⟩, ⟨(some 48), (.call 23 [(.k (.one (.d (.str ⟨#[43]⟩)))), (.t 47)]), [1, 0], none⟩, ⟨(some 49),
  (.call 14 [(.t 48)]), [2, 2], none⟩, ⟨(some 45), (.mov (.t 49)), [3], none⟩, ⟨(some 50), (.ext (.t 45) 0), [4], none⟩, ⟨(some 51), (.ext (.t 45) 1), [4], none⟩, ⟨(some 8), (.mov (.t 50)), [5, 3, 0,
  1, 2, 3, 4, 5], none⟩, ⟨(some 9), (.mov (.t 51)), [6, 7, 0, 1, 2, 3, 4, 5, 6, 7], none⟩]) (.seq none (.region false [⟨(some 53), (.build [(.d (.int .i64 0)), (.nilL 2)] [(0, (1,
  (.k (.one (.d (.int .i64 2))))))]), [], none⟩, ⟨(some 54), (.build [(.d (.str ⟨#[]⟩)), (.d (.int .i64 0)), (.nilL 2), (.d (.int .i64 0)), (.d (.int .i64 0))] [(0, (1,
  (.k (.one (.d (.str ⟨#[110]⟩)))))), (1, (2, (.t 53)))]), [0], none⟩, ⟨(some 55), (.lit 60 5 [(.t 54)]), [1], none⟩, ⟨(some 56), (.call 24 [(.k (.one (.d (.int .i64 7))))]), [], none⟩, ⟨(some 57),
  (.build [(.nilL 5), (.nilL 14), (.d (.int .i64 0)), (.d (.int .i64 0)), (.d (.str ⟨#[]⟩)), (.nilL 1), (.nilL 1), (.nilL 8), (.d (.int .i64 0)), (.d (.int .i64 0))] [(0, (1, (.t 55))), (2, (8,
  (.t 56)))]), [2, 3], none⟩, ⟨(some 58), (.call 25 [(.t 57)]), [4, 3], none⟩, ⟨(some 52), (.mov (.t 58)), [5], none⟩, ⟨(some 59), (.ext (.t 52) 0), [6], none⟩, ⟨(some 60), (.ext (.t 52) 1), [6],
  none⟩, ⟨(some 10), (.mov (.t 59)), [7, 5, 0, 1, 2, 3, 4, 5, 6, 7], none⟩, ⟨(some 11), (.mov (.t 60)), [8, 9, 0, 1, 2, 3, 4, 5, 6, 7, 8, 9], none⟩]) (.seq none (.region false [⟨(some 61),
  (.mov (.t 1)), [], none⟩, ⟨(some 62), (.sbin .eql (.t 61) (.k (.one (.d (.str ⟨#[40, 49, 32, 43, 32, 50, 41, 32, 42, 32, 51]⟩))))), [0], none⟩, ⟨(some 63), (.mov (.t 62)), [1], none⟩, ⟨(some 64),
  (.mov (.t 2)), [2], (some (2, (63, true)))⟩, ⟨(some 65), (.ibin .i64 .eql (.t 64) (.k (.one (.d (.int .i64 0))))), [3, 2], (some (2, (63, true)))⟩, ⟨(some 66),
  (.pick (.t 63) (.t 65) (.k (.one (.d (.bool false))))), [2, 4], none⟩, ⟨(some 67), (.mov (.t 66)), [5, 2], none⟩, ⟨(some 68), (.mov (.t 3)), [6], (some (6, (67, true)))⟩, ⟨(some 69),
  (.sbin .eql (.t 68) (.k (.one (.d (.str ⟨#[45, 45, 49]⟩))))), [7, 6], (some (6, (67, true)))⟩, ⟨(some 70), (.pick (.t 67) (.t 69) (.k (.one (.d (.bool false))))), [6, 8], none⟩, ⟨(some 71),
  (.mov (.t 70)), [9, 6], none⟩, ⟨(some 72), (.mov (.t 4)), [10], (some (10, (71, true)))⟩, ⟨(some 73), (.ibin .i64 .eql (.t 72) (.k (.one (.d (.int .i64 0))))), [11, 10], (some (10, (71, true)))⟩,
  ⟨(some 74), (.pick (.t 71) (.t 73) (.k (.one (.d (.bool false))))), [10, 12], none⟩, ⟨(some 75), (.mov (.t 74)), [13, 10], none⟩, ⟨(some 76), (.mov (.t 6)), [14], (some (14, (75, true)))⟩,
  ⟨(some 77), (.sbin .eql (.t 76) (.k (.one (.d (.str ⟨#[49, 32, 43, 32, 40, 105, 102, 32, 97, 32, 116, 104, 101, 110, 32, 97, 32, 101, 108, 115, 101, 32, 97, 41]⟩))))), [15, 14], (some (14, (75,
  true)))⟩, ⟨(some 78), (.pick (.t 75) (.t 77) (.k (.one (.d (.bool false))))), [14, 16], none⟩, ⟨(some 79), (.mov (.t 78)), [17, 14], none⟩, ⟨(some 80), (.mov (.t 7)), [18], (some (18, (79, true)))⟩,
  ⟨(some 81), (.ibin .i64 .eql (.t 80) (.k (.one (.d (.int .i64 0))))), [19, 18], (some (18, (79, true)))⟩, ⟨(some 82), (.pick (.t 79) (.t 81) (.k (.one (.d (.bool false))))), [18, 20], none⟩,
  ⟨(some 83), (.mov (.t 82)), [21, 18], none⟩, ⟨(some 84), (.mov (.t 9)), [22], (some (22, (83, true)))⟩, ⟨(some 85), (.ibin .i64 .eql (.t 84) (.k (.one (.d (.int .i64 1))))), [23, 22], (some (22,
  (83, true)))⟩, ⟨(some 86), (.pick (.t 83) (.t 85) (.k (.one (.d (.bool false))))), [22, 24], none⟩, ⟨(some 87), (.mov (.t 86)), [25, 22], none⟩, ⟨(some 88), (.mov (.t 10)), [26], (some (26, (87,
  true)))⟩, ⟨(some 89), (.sbin .eql (.t 88) (.k (.one (.d (.str ⟨#[105, 110, 112, 117, 116, 32, 110, 58, 32, 105, 110, 116, 59, 10, 55, 10]⟩))))), [27, 26], (some (26, (87, true)))⟩, ⟨(some 90),
  (.pick (.t 87) (.t 89) (.k (.one (.d (.bool false))))), [26, 28], none⟩, ⟨(some 91), (.mov (.t 90)), [29, 26], none⟩, ⟨(some 92), (.mov (.t 11)), [30], (some (30, (91, true)))⟩, ⟨(some 93),
  (.ibin .i64 .eql (.t 92) (.k (.one (.d (.int .i64 0))))), [31, 30], (some (30, (91, true)))⟩, ⟨(some 94), (.pick (.t 91) (.t 93) (.k (.one (.d (.bool false))))), [30, 32], none⟩, ⟨(some 95),
  (.mov (.t 94)), [33, 30], none⟩, ⟨(some 96), (.load true 8 (.t 5)), [34], (some (34, (95, true)))⟩, ⟨(some 97), (.call 11 [(.t 96)]), [35, 34, 34], (some (34, (95, true)))⟩, ⟨(some 98),
  (.pick (.t 95) (.t 97) (.k (.one (.d (.bool false))))), [34, 36], none⟩, ⟨(some 99), (.mov (.t 98)), [37, 36], none⟩, ⟨(some 100), (.build [(.d (.int .i64 0)), (.d (.int .i64 0)), (.d (.str ⟨#[]⟩)),
  (.nilL 1), (.nilL 1), (.nilL 8), (.d (.int .i64 0)), (.d (.int .i64 0))] []), [38], (some (38, (99, true)))⟩, ⟨(some 101), (.call 11 [(.t 100)]), [39, 38, 38], (some (38, (99, true)))⟩, ⟨(some 102),
  (.inot (.t 101)), [40, 38], (some (38, (99, true)))⟩, ⟨(some 103), (.pick (.t 99) (.t 102) (.k (.one (.d (.bool false))))), [38, 41], none⟩, ⟨(some 104), (.mov (.t 103)), [42, 40], none⟩,
  ⟨(some 105), (.load true 8 (.t 5)), [43], (some (43, (104, true)))⟩, ⟨(some 106), (.build [(.nilL 5), (.nilL 14), (.d (.int .i64 0)), (.d (.int .i64 0)), (.d (.str ⟨#[]⟩)), (.nilL 1), (.nilL 1),
  (.nilL 8), (.d (.int .i64 0)), (.d (.int .i64 0))] [(2, (8, (.t 105)))]), [44, 43], (some (43, (104, true)))⟩, ⟨(some 107), (.call 9 [(.t 106)]), [45, 43, 43], (some (43, (104, true)))⟩,
  ⟨(some 108), (.pick (.t 104) (.t 107) (.k (.one (.d (.bool false))))), [43, 46], none⟩, ⟨(some 0), (.mov (.t 108)), [47, 46, 0, 1, 2, 3, 4, 5, 6, 7, 8, 9, 10, 11, 12, 13, 14, 15, 16, 17, 18, 19, 20,
  21, 22, 23, 24, 25, 26, 27, 28, 29, 30, 31, 32, 33, 34, 35, 36, 37, 38, 39, 40, 41, 42, 43, 44, 45, 46, 47], none⟩]) .ret))))))))⟩
theorem c8 : compFunc Tryd.prog [none, none, none, none, none, none, none, none] Tryd.f8 = some sf8 := by kernel_rfl
/-! sortilege/printer.Right -/
def j9_1 : SCode :=
  (.region false [⟨(some 19), (.ibin .i64 .add (.t 12) (.k (.one (.d (.int .i64 1))))), [], none⟩, ⟨(some 12), (.mov (.t 19)), [0], none⟩])
def j9_0 : SCode :=
  (.seq (some [1, 10, 11, 12]) (.block 1 (.seq none (.region false [⟨(some 14), (.iaddr 5 (.t 10) (.t 12)), [], none⟩, ⟨(some 15), (.load true 5 (.t 14)), [0], none⟩, ⟨(some 4), (.alloc [.str,
  (.int .i64), (.lst 2), (.int .i64), (.int .i64)] [(.d (.str ⟨#[]⟩)), (.d (.int .i64 0)), (.nilL 2), (.d (.int .i64 0)), (.d (.int .i64 0))]), [], none⟩, ⟨none, (.store 5 (.t 4) (.t 15)), [2, 1, 0,
  1, 2], none⟩]) (.seq none (.region false [⟨(some 16), (.load true 5 (.t 4)), [], none⟩, ⟨(some 17), (.call 26 [(.t 16)]), [0], none⟩, ⟨(some 18), (.inot (.t 17)), [1],
  none⟩]) (.cond (.t 18) (.seq none (.region false [⟨(some 2), (.mov (.k (.one (.d (.bool false))))), [], none⟩]) .ret) .skip)))) j9_1)
def lb9_0 : SCode :=
  (.seq none (.region false [⟨(some 13), (.ibin .i64 .lss (.t 12) (.t 11)), [], none⟩]) (.seq (some [1, 10, 11, 12]) (.cond (.t 13) .skip (.exit 0)) j9_0))
def j9_5 : SCode :=
  (.region false [⟨(some 37), (.ibin .i64 .add (.t 30) (.k (.one (.d (.int .i64 1))))), [], none⟩, ⟨(some 30), (.mov (.t 37)), [0], none⟩])
def j9_4 : SCode :=
  (.seq (some [1, 6, 21, 22, 23, 28, 29, 30]) (.block 5 (.seq none (.region false [⟨(some 32), (.iaddr 5 (.t 28) (.t 30)), [], none⟩, ⟨(some 33), (.load true 5 (.t 32)), [0], none⟩, ⟨(some 8),
  (.alloc [.str, (.int .i64), (.lst 2), (.int .i64), (.int .i64)] [(.d (.str ⟨#[]⟩)), (.d (.int .i64 0)), (.nilL 2), (.d (.int .i64 0)), (.d (.int .i64 0))]), [], none⟩, ⟨none,
  (.store 5 (.t 8) (.t 33)), [2, 1, 0, 1, 2], none⟩]) (.seq none (.region false [⟨(some 34), (.load true 5 (.t 8)), [], none⟩, ⟨(some 35), (.call 26 [(.t 34)]), [0], none⟩, ⟨(some 36),
  (.inot (.t 35)), [1], none⟩]) (.cond (.t 36) (.seq none (.region false [⟨(some 2), (.mov (.k (.one (.d (.bool false))))), [], none⟩]) .ret) .skip)))) j9_5)
def lb9_2 : SCode :=
  (.seq none (.region false [⟨(some 31), (.ibin .i64 .lss (.t 30) (.t 29)), [], none⟩]) (.seq (some [1, 6, 21, 22, 23, 28, 29, 30]) (.cond (.t 31) .skip (.exit 4)) j9_4))
def j9_6 : SCode :=
  (.seq none (.region false [⟨(some 38), (.faddr 0 (.t 6)), [], none⟩, ⟨(some 39), (.load false 1 (.t 38)), [0], none⟩, ⟨(some 40), (.call 27 [(.t 39)]), [1], none⟩, ⟨(some 41), (.inot (.t 40)), [2],
  none⟩, ⟨(some 42), (.mov (.t 41)), [3, 2], none⟩, ⟨(some 43), (.faddr 2 (.t 6)), [4], (some (4, (42, false)))⟩, ⟨(some 44), (.load true 2 (.t 43)), [5, 4], (some (4, (42, false)))⟩, ⟨(some 45),
  (.call 28 [(.t 44)]), [6, 4, 4], (some (4, (42, false)))⟩, ⟨(some 46), (.inot (.t 45)), [7, 4], (some (4, (42, false)))⟩, ⟨(some 47), (.pick (.t 42) (.k (.one (.d (.bool true)))) (.t 46)), [4, 8],
  none⟩, ⟨(some 48), (.mov (.t 47)), [9, 7], none⟩, ⟨(some 49), (.faddr 4 (.t 6)), [10], (some (10, (48, false)))⟩, ⟨(some 50), (.load true 8 (.t 49)), [11, 10], (some (10, (48, false)))⟩, ⟨(some 51),
  (.call 11 [(.t 50)]), [12, 10, 10], (some (10, (48, false)))⟩, ⟨(some 52), (.inot (.t 51)), [13, 10], (some (10, (48, false)))⟩, ⟨(some 53), (.pick (.t 48) (.k (.one (.d (.bool true)))) (.t 52)),
  [10, 14], none⟩]) (.cond (.t 53) (.seq none (.region false [⟨(some 2), (.mov (.k (.one (.d (.bool false))))), [], none⟩]) .ret) .skip))
def j9_7 : SCode :=
  (.region false [⟨(some 54), (.ibin .i64 .add (.t 23) (.k (.one (.d (.int .i64 1))))), [], none⟩, ⟨(some 23), (.mov (.t 54)), [0], none⟩])
def j9_3 : SCode :=
  (.seq (some [1, 21, 22, 23]) (.block 3 (.seq none (.region false [⟨(some 25), (.iaddr 14 (.t 21) (.t 23)), [], none⟩, ⟨(some 26), (.load true 14 (.t 25)), [0], none⟩, ⟨(some 6), (.alloc [.str,
  (.lst 5), (.int .i64), (.lst 2), (.int .i64), (.int .i64), .str, (.lst 1), (.lst 1), (.lst 8), (.int .i64), (.int .i64), (.int .i64), (.int .i64)] [(.d (.str ⟨#[]⟩)), (.nilL 5), (.d (.int .i64 0)),
  (.nilL 2), (.d (.int .i64 0)), (.d (.int .i64 0)), (.d (.str ⟨#[]⟩)), (.nilL 1), (.nilL 1), (.nilL 8), (.d (.int .i64 0)), (.d (.int .i64 0)), (.d (.int .i64 0)), (.d (.int .i64 0))]), [], none⟩,
  ⟨none, (.store 14 (.t 6) (.t 26)), [2, 1, 0, 1, 2], none⟩]) (.seq (some [1, 6, 21, 22, 23]) (.seq none (.region false [⟨(some 27), (.faddr 1 (.t 6)), [], none⟩, ⟨(some 28), (.load false 1 (.t 27)),
  [0], none⟩, ⟨(some 29), (.len false (.t 28)), [1], none⟩, ⟨(some 30), (.mov (.k (.one (.d (.int .i64 0))))), [], none⟩]) (.block 4 (.loop [1, 6, 21, 22, 23, 28, 29, 30] lb9_2))) j9_6))) j9_7)
def lb9_1 : SCode :=
  (.seq none (.region false [⟨(some 24), (.ibin .i64 .lss (.t 23) (.t 22)), [], none⟩]) (.seq (some [1, 21, 22, 23]) (.cond (.t 24) .skip (.exit 2)) j9_3))
def j9_8 : SCode :=
  (.seq none (.region false [⟨(some 55), (.faddr 2 (.t 1)), [], none⟩, ⟨(some 56), (.load true 8 (.t 55)), [0], none⟩, ⟨(some 57), (.call 11 [(.t 56)]), [1], none⟩, ⟨(some 2), (.mov (.t 57)), [2, 2, 0,
  1, 2], none⟩]) .ret)
def j9_2 : SCode :=
  (.seq (some [1]) (.seq none (.region false [⟨(some 20), (.faddr 1 (.t 1)), [], none⟩, ⟨(some 21), (.load false 1 (.t 20)), [0], none⟩, ⟨(some 22), (.len false (.t 21)), [1], none⟩, ⟨(some 23),
  (.mov (.k (.one (.d (.int .i64 0))))), [], none⟩]) (.block 2 (.loop [1, 21, 22, 23] lb9_1))) j9_8)
def sf9 : SFunc :=
  ⟨1, [(.tmp 2)], (.seq none (.region false [⟨(some 1), (.box [(.lst 5), (.lst 14), (.int .i64), (.int .i64), .str, (.lst 1), (.lst 1), (.lst 8), (.int .i64), (.int .i64)] (.t 0)), [], none⟩, ⟨(some 2),
  (.mov (.k (.one (.d (.bool false))))), [], none⟩]) (.seq (some [1]) (.seq none (.region false [⟨(some 9), (.faddr 0 (.t 1)), [], none⟩, ⟨(some 10), (.load false 1 (.t 9)), [0], none⟩, ⟨(some 11),
  (.len false (.t 10)), [1], none⟩, ⟨(some 12), (.mov (.k (.one (.d (.int .i64 0))))), [], none⟩]) (.block 0 (.loop [1, 10, 11, 12] lb9_0))) j9_2))⟩
theorem c9 : compFunc Tryd.prog [none, some [1], none, some [1, 10, 11, 12], none, some [1, 10, 11, 12], some [1, 10, 11, 12], none, none, none, some [1], none, some [1, 21, 22, 23], none, some [1, 21, 22, 23], some [1, 21, 22, 23], none, some [1, 6, 21, 22, 23], none, some [1, 6, 21, 22, 23, 28, 29, 30], none, some [1, 6, 21, 22, 23, 28, 29, 30], some [1, 6, 21, 22, 23, 28, 29, 30], none, none, none, none, none, none] Tryd.f9 = some sf9 := by kernel_rfl
/-! sortilege/sortilegeref07.Right -/
def j10_2 : SCode :=
  (.region false [⟨(some 14), (.mov (.t 3)), [], none⟩, ⟨(some 15), (.ibin .i64 .add (.t 14) (.k (.one (.d (.int .i64 1))))), [0], none⟩, ⟨(some 3), (.mov (.t 15)), [1, 0, 1], none⟩])
def j10_1 : SCode :=
  (.seq (some [1, 3]) (.block 1 (.seq none (.region false [⟨(some 16), (.faddr 1 (.t 1)), [], none⟩, ⟨(some 17), (.load false 1 (.t 16)), [0], none⟩, ⟨(some 18), (.mov (.t 3)), [], none⟩, ⟨(some 19),
  (.iaddr 14 (.t 17) (.t 18)), [1, 2], none⟩, ⟨(some 20), (.load true 14 (.t 19)), [3], none⟩, ⟨(some 4), (.alloc [.str, (.lst 5), (.int .i64), (.lst 2), (.int .i64), (.int .i64), .str, (.lst 1),
  (.lst 1), (.lst 8), (.int .i64), (.int .i64), (.int .i64), (.int .i64)] [(.d (.str ⟨#[]⟩)), (.nilL 5), (.d (.int .i64 0)), (.nilL 2), (.d (.int .i64 0)), (.d (.int .i64 0)), (.d (.str ⟨#[]⟩)),
  (.nilL 1), (.nilL 1), (.nilL 8), (.d (.int .i64 0)), (.d (.int .i64 0)), (.d (.int .i64 0)), (.d (.int .i64 0))]), [], none⟩, ⟨none, (.store 14 (.t 4) (.t 20)), [5, 4, 0, 1, 2, 3, 4, 5],
  none⟩]) (.seq none (.region false [⟨(some 21), (.faddr 0 (.t 4)), [], none⟩, ⟨(some 22), (.load false 1 (.t 21)), [0], none⟩, ⟨(some 23), (.call 30 [(.t 22), (.k (.one (.d (.bool false))))]), [1],
  none⟩, ⟨(some 24), (.inot (.t 23)), [2], none⟩, ⟨(some 25), (.mov (.t 24)), [3, 2], none⟩, ⟨(some 26), (.faddr 1 (.t 4)), [4], (some (4, (25, false)))⟩, ⟨(some 27), (.load false 1 (.t 26)), [5, 4],
  (some (4, (25, false)))⟩, ⟨(some 28), (.call 29 [(.t 27)]), [6, 4, 4], (some (4, (25, false)))⟩, ⟨(some 29), (.inot (.t 28)), [7, 4], (some (4, (25, false)))⟩, ⟨(some 30),
  (.pick (.t 25) (.k (.one (.d (.bool true)))) (.t 29)), [4, 8], none⟩, ⟨(some 31), (.mov (.t 30)), [9, 7], none⟩, ⟨(some 32), (.faddr 2 (.t 4)), [10], (some (10, (31, false)))⟩, ⟨(some 33),
  (.load true 2 (.t 32)), [11, 10], (some (10, (31, false)))⟩, ⟨(some 34), (.call 31 [(.t 33)]), [12, 10, 10], (some (10, (31, false)))⟩, ⟨(some 35), (.inot (.t 34)), [13, 10], (some (10, (31,
  false)))⟩, ⟨(some 36), (.pick (.t 31) (.k (.one (.d (.bool true)))) (.t 35)), [10, 14], none⟩, ⟨(some 37), (.mov (.t 36)), [15, 13], none⟩, ⟨(some 38), (.faddr 4 (.t 4)), [16], (some (16, (37,
  false)))⟩, ⟨(some 39), (.load true 8 (.t 38)), [17, 16], (some (16, (37, false)))⟩, ⟨(some 40), (.call 12 [(.t 39)]), [18, 16, 16], (some (16, (37, false)))⟩, ⟨(some 41), (.inot (.t 40)), [19, 16],
  (some (16, (37, false)))⟩, ⟨(some 42), (.pick (.t 37) (.k (.one (.d (.bool true)))) (.t 41)), [16, 20], none⟩]) (.cond (.t 42) (.seq none (.region false [⟨(some 2),
  (.mov (.k (.one (.d (.bool false))))), [], none⟩]) .ret) .skip)))) j10_2)
def lb10_0 : SCode :=
  (.seq (some [1, 3]) (.seq none (.region false [⟨(some 9), (.mov (.t 3)), [], none⟩, ⟨(some 10), (.faddr 1 (.t 1)), [], none⟩, ⟨(some 11), (.load false 1 (.t 10)), [1], none⟩, ⟨(some 12),
  (.len false (.t 11)), [2], none⟩, ⟨(some 13), (.ibin .i64 .lss (.t 9) (.t 12)), [0, 3], none⟩]) (.cond (.t 13) .skip (.exit 0))) j10_1)
def j10_3 : SCode :=
  (.seq none (.region false [⟨(some 43), (.faddr 2 (.t 1)), [], none⟩, ⟨(some 44), (.load true 8 (.t 43)), [0], none⟩, ⟨(some 45), (.call 12 [(.t 44)]), [1], none⟩, ⟨(some 2), (.mov (.t 45)), [2, 2, 0,
  1, 2], none⟩]) .ret)
def j10_0 : SCode :=
  (.seq (some [1]) (.seq none (.region false [⟨(some 3), (.mov (.k (.one (.d (.int .i64 0))))), [], none⟩]) (.block 0 (.loop [1, 3] lb10_0))) j10_3)
def sf10 : SFunc :=
  ⟨1, [(.tmp 2)], (.seq none (.region false [⟨(some 1), (.box [(.lst 5), (.lst 14), (.int .i64), (.int .i64), .str, (.lst 1), (.lst 1), (.lst 8), (.int .i64), (.int .i64)] (.t 0)), [], none⟩, ⟨(some 2),
  (.mov (.k (.one (.d (.bool false))))), [], none⟩]) (.seq (some [1]) (.seq none (.region false [⟨(some 5), (.faddr 0 (.t 1)), [], none⟩, ⟨(some 6), (.load false 1 (.t 5)), [0], none⟩, ⟨(some 7),
  (.call 29 [(.t 6)]), [1], none⟩, ⟨(some 8), (.inot (.t 7)), [2], none⟩]) (.cond (.t 8) (.seq none (.region false [⟨(some 2), (.mov (.k (.one (.d (.bool false))))), [], none⟩]) .ret) .skip)) j10_0))⟩
theorem c10 : compFunc Tryd.prog [none, some [1], none, none, some [1], none, some [1, 3], some [1, 3], none, some [1, 3], none, none, none, none] Tryd.f10 = some sf10 := by kernel_rfl
/-! sortilege/printer.RightExpr -/
def sf11 : SFunc :=
  ⟨1, [(.tmp 2)], (.seq none (.region false [⟨(some 1), (.box [(.int .i64), (.int .i64), .str, (.lst 1), (.lst 1), (.lst 8), (.int .i64), (.int .i64)] (.t 0)), [], none⟩, ⟨(some 2),
  (.mov (.k (.one (.d (.bool false))))), [], none⟩]) (.seq none (.region false [⟨(some 3), (.load true 8 (.t 1)), [], none⟩, ⟨(some 4), (.call 32 [(.t 3), (.k (.one (.d (.int .i64 40))))]), [0],
  none⟩, ⟨(some 2), (.mov (.t 4)), [1, 1, 0, 1], none⟩]) .ret))⟩
theorem c11 : compFunc Tryd.prog [none, none] Tryd.f11 = some sf11 := by kernel_rfl
/-! sortilege/sortilegeref07.RightExpr -/
def sf12 : SFunc :=
  ⟨1, [(.tmp 2)], (.seq none (.region false [⟨(some 1), (.box [(.int .i64), (.int .i64), .str, (.lst 1), (.lst 1), (.lst 8), (.int .i64), (.int .i64)] (.t 0)), [], none⟩, ⟨(some 2),
  (.mov (.k (.one (.d (.bool false))))), [], none⟩]) (.seq none (.region false [⟨(some 3), (.load true 8 (.t 1)), [], none⟩, ⟨(some 4), (.call 33 [(.t 3), (.k (.one (.d (.int .i64 40))))]), [0],
  none⟩, ⟨(some 2), (.mov (.t 4)), [1, 1, 0, 1], none⟩]) .ret))⟩
theorem c12 : compFunc Tryd.prog [none, none] Tryd.f12 = some sf12 := by kernel_rfl
/-! sortilege/sortilegelaw06.Few -/
def j13_1 : SCode :=
  (.region false [⟨(some 11), (.mov (.t 6)), [], none⟩, ⟨(some 12), (.ibin .i64 .add (.t 11) (.k (.one (.d (.int .i64 1))))), [0], none⟩, ⟨(some 6), (.mov (.t 12)), [1, 0, 1], none⟩])
def j13_0 : SCode :=
  (.seq (some [0, 1, 5, 6]) (.block 1 (.region false [⟨(some 13), (.mov (.t 1)), [], none⟩, ⟨(some 14), (.mov (.t 6)), [], none⟩, ⟨(some 15), (.iaddr 8 (.t 13) (.t 14)), [0, 1], none⟩, ⟨(some 16),
  (.load true 8 (.t 15)), [2], none⟩, ⟨(some 17), (.mov (.t 5)), [], none⟩, ⟨(some 18), (.mov (.t 0)), [], none⟩, ⟨(some 19), (.call 34 [(.t 16), (.t 17), (.t 18)]), [3, 4, 5], none⟩, ⟨(some 5),
  (.mov (.t 19)), [6, 6, 0, 1, 2, 3, 4, 5, 6], none⟩])) j13_1)
def lb13_0 : SCode :=
  (.seq (some [0, 1, 5, 6]) (.seq none (.region false [⟨(some 7), (.mov (.t 6)), [], none⟩, ⟨(some 8), (.mov (.t 1)), [], none⟩, ⟨(some 9), (.len false (.t 8)), [1], none⟩, ⟨(some 10),
  (.ibin .i64 .lss (.t 7) (.t 9)), [0, 2], none⟩]) (.cond (.t 10) .skip (.exit 0))) j13_0)
def j13_2 : SCode :=
  (.seq none (.region false [⟨(some 20), (.mov (.t 5)), [], none⟩, ⟨(some 21), (.mov (.t 0)), [], none⟩, ⟨(some 22), (.ibin .i64 .leq (.t 20) (.t 21)), [0, 1], none⟩, ⟨(some 4), (.mov (.t 22)), [2, 0,
  1, 2], none⟩]) .ret)
def sf13 : SFunc :=
  ⟨2, [(.tmp 4)], (.seq none (.region false [⟨(some 4), (.mov (.k (.one (.d (.bool false))))), [], none⟩]) (.seq none (.region false [⟨(some 5), (.mov (.k (.one (.d (.int .i64 0))))), [],
  none⟩]) (.seq (some [0, 5]) (.seq none (.region false [⟨(some 6), (.mov (.k (.one (.d (.int .i64 0))))), [], none⟩]) (.block 0 (.loop [0, 1, 5, 6] lb13_0))) j13_2)))⟩
theorem c13 : compFunc Tryd.prog [none, none, some [0, 5], none, some [0, 1, 5, 6], some [0, 1, 5, 6], none, some [0, 1, 5, 6], none] Tryd.f13 = some sf13 := by kernel_rfl
/-! sortilege/printer.Expr -/
def j14_0 : SCode :=
  (.seq none (.region false [⟨(some 8), (.build [(.d .nilP), (.nilL 1)] []), [], none⟩, ⟨(some 9), (.boxB 5 (.t 8)), [0], none⟩, ⟨(some 4), (.mov (.t 9)), [1, 0, 1],
  none⟩]) (.seq none (.region false [⟨(some 10), (.mov (.t 4)), [], none⟩, ⟨(some 11), (.load true 8 (.t 1)), [], none⟩, ⟨(some 12), (.call 35 [(.t 10), (.t 11), (.k (.one (.d (.int .i64 0))))]), [0,
  1], none⟩]) (.seq none (.region false [⟨(some 13), (.mov (.t 4)), [], none⟩, ⟨(some 14), (.call 36 [(.t 13)]), [0], none⟩, ⟨(some 15), (.ext (.t 14) 0), [1], none⟩, ⟨(some 16), (.ext (.t 14) 1),
  [1], none⟩, ⟨(some 2), (.mov (.t 15)), [2, 1, 0, 1, 2, 3], none⟩, ⟨(some 3), (.mov (.t 16)), [3, 4, 0, 1, 2, 3, 4], none⟩]) .ret)))
def sf14 : SFunc :=
  ⟨1, [(.tmp 2), (.tmp 3)], (.seq none (.region false [⟨(some 1), (.box [(.int .i64), (.int .i64), .str, (.lst 1), (.lst 1), (.lst 8), (.int .i64), (.int .i64)] (.t 0)), [], none⟩, ⟨(some 2),
  (.mov (.k (.one (.d (.str ⟨#[]⟩))))), [], none⟩, ⟨(some 3), (.mov (.k (.one (.d (.int .i64 0))))), [1], none⟩]) (.seq (some [1]) (.seq none (.region false [⟨(some 5), (.load true 8 (.t 1)), [],
  none⟩, ⟨(some 6), (.call 11 [(.t 5)]), [0], none⟩, ⟨(some 7), (.inot (.t 6)), [1], none⟩]) (.cond (.t 7) (.seq none (.region false [⟨(some 2), (.mov (.k (.one (.d (.str ⟨#[]⟩))))), [], none⟩,
  ⟨(some 3), (.mov (.k (.one (.d (.int .i64 1))))), [0, 0], none⟩]) .ret) .skip)) j14_0))⟩
theorem c14 : compFunc Tryd.prog [none, some [1], none, none, none, none, none] Tryd.f14 = some sf14 := by kernel_rfl
/-! sortilege/lexer.Tokens -/
def j17_2 : SCode :=
  (.block 4 (.region false [⟨(some 56), (.mov (.t 7)), [], none⟩, ⟨(some 57), (.ibin .i64 .add (.t 56) (.k (.one (.d (.int .i64 1))))), [0], none⟩, ⟨(some 7), (.mov (.t 57)), [1, 0, 1], none⟩]))
def lb17_1 : SCode :=
  (.seq (some [0, 3, 4, 5, 6, 7]) (.seq none (.region false [⟨(some 46), (.mov (.t 7)), [], none⟩, ⟨(some 47), (.mov (.t 0)), [], none⟩, ⟨(some 48), (.len true (.t 47)), [1], none⟩, ⟨(some 49),
  (.ibin .i64 .lss (.t 46) (.t 48)), [0, 2], none⟩, ⟨(some 50), (.mov (.t 49)), [3], none⟩, ⟨(some 51), (.mov (.t 0)), [4], (some (4, (50, true)))⟩, ⟨(some 52), (.mov (.t 7)), [4], (some (4, (50,
  true)))⟩, ⟨(some 53), (.chr (.t 51) (.t 52)), [5, 6, 4], (some (4, (50, true)))⟩, ⟨(some 54), (.ibin .u8 .neq (.t 53) (.k (.one (.d (.int .u8 10))))), [7, 4], (some (4, (50, true)))⟩, ⟨(some 55),
  (.pick (.t 50) (.t 54) (.k (.one (.d (.bool false))))), [4, 8], none⟩]) (.cond (.t 55) .skip (.exit 3))) j17_2)
def j17_3 : SCode :=
  (.exit 1)
def j17_5 : SCode :=
  (.seq none (.region false [⟨(some 82), (.mov (.t 4)), [], none⟩, ⟨(some 83), (.load true 5 (.t 9)), [], none⟩, ⟨(some 84), (.lit 50 5 [(.t 83)]), [1], none⟩, ⟨(some 85),
  (.app 50 5 48 (.t 82) (.t 84)), [0, 2], none⟩, ⟨(some 4), (.mov (.t 85)), [3, 3, 0, 1, 2, 3], none⟩]) (.region false [⟨(some 86), (.mov (.t 7)), [], none⟩, ⟨(some 87), (.faddr 1 (.t 9)), [], none⟩,
  ⟨(some 88), (.load false 1 (.t 87)), [1], none⟩, ⟨(some 89), (.len true (.t 88)), [2], none⟩, ⟨(some 90), (.ibin .i64 .add (.t 86) (.t 89)), [0, 3], none⟩, ⟨(some 7), (.mov (.t 90)), [4, 0, 1, 2, 3,
  4], none⟩]))
def j17_4 : SCode :=
  (.seq none (.region false [⟨(some 59), (.mov (.t 0)), [], none⟩, ⟨(some 60), (.mov (.t 7)), [], none⟩, ⟨(some 61), (.sub (.t 59) (some (.t 60)) none), [0, 1], none⟩, ⟨(some 62), (.call 38 [(.t 61)]),
  [2], none⟩, ⟨(some 58), (.mov (.t 62)), [3], none⟩, ⟨(some 63), (.ext (.t 58) 0), [4], none⟩, ⟨(some 64), (.ext (.t 58) 1), [4], none⟩, ⟨(some 9), (.alloc [(.int .i64), .str, (.int .i64),
  (.int .i64), (.int .i64)] [(.d (.int .i64 0)), (.d (.str ⟨#[]⟩)), (.d (.int .i64 0)), (.d (.int .i64 0)), (.d (.int .i64 0))]), [], none⟩, ⟨none, (.store 5 (.t 9) (.t 63)), [7, 5, 3, 0, 1, 2, 3, 4,
  5, 7], none⟩, ⟨(some 10), (.mov (.t 64)), [6, 8, 0, 1, 2, 3, 4, 5, 6, 7, 8], none⟩]) (.seq none (.region false [⟨(some 65), (.mov (.t 5)), [], none⟩, ⟨(some 66), (.mov (.t 7)), [], none⟩,
  ⟨(some 67), (.mov (.t 6)), [], none⟩, ⟨(some 68), (.ibin .i64 .sub (.t 66) (.t 67)), [1, 2], none⟩, ⟨(some 69), (.ibin .i64 .add (.t 68) (.k (.one (.d (.int .i64 1))))), [3], none⟩, ⟨(some 70),
  (.faddr 3 (.t 9)), [0], none⟩, ⟨none, (.store 1 (.t 70) (.t 65)), [5, 0, 0], none⟩, ⟨(some 71), (.faddr 4 (.t 9)), [0, 1, 2, 3, 4, 5, 6], none⟩, ⟨none, (.store 1 (.t 71) (.t 69)), [7, 4, 6, 0, 1, 2,
  3, 4, 5, 6], none⟩]) (.seq (some [0, 3, 4, 5, 6, 7, 9]) (.seq none (.region false [⟨(some 72), (.mov (.t 10)), [], none⟩, ⟨(some 73), (.ibin .i64 .neq (.t 72) (.k (.one (.d (.int .i64 0))))), [0],
  none⟩]) (.cond (.t 73) (.seq none (.region true [⟨(some 74), (.mov (.t 10)), [], none⟩, ⟨(some 75), (.faddr 1 (.t 9)), [], none⟩, ⟨(some 76), (.load false 1 (.t 75)), [1], none⟩, ⟨(some 77),
  (.faddr 3 (.t 9)), [], none⟩, ⟨(some 78), (.load false 1 (.t 77)), [3], none⟩, ⟨(some 79), (.faddr 4 (.t 9)), [], none⟩, ⟨(some 80), (.load false 1 (.t 79)), [5], none⟩, ⟨(some 81),
  (.build [(.d (.int .i64 0)), (.d (.str ⟨#[]⟩)), (.d (.int .i64 0)), (.d (.int .i64 0))] [(0, (1, (.t 74))), (1, (1, (.t 76))), (2, (1, (.t 78))), (3, (1, (.t 80)))]), [0, 2, 4, 6], none⟩, ⟨(some 2),
  (.mov (.k (.one (.nilL 5)))), [], none⟩, ⟨none, (.store 4 (.t 3) (.t 81)), [7, 8, 0, 1, 2, 3, 4, 5, 6, 7, 8], none⟩]) .ret) .skip)) j17_5)))
def j17_1 : SCode :=
  (.block 1 (.seq (some [0, 3, 4, 5, 6, 7]) (.seq none (.region false [⟨(some 19), (.mov (.t 0)), [], none⟩, ⟨(some 20), (.mov (.t 7)), [], none⟩, ⟨(some 21), (.chr (.t 19) (.t 20)), [0, 1], none⟩,
  ⟨(some 8), (.mov (.t 21)), [2, 0, 1, 2], none⟩]) (.block 2 (.seq none (.region false [⟨(some 23), (.mov (.t 8)), [], none⟩, ⟨(some 24), (.ibin .u8 .eql (.t 23) (.k (.one (.d (.int .u8 10))))), [0],
  none⟩, ⟨(some 22), (.mov (.t 24)), [1], none⟩]) (.cond (.t 22) (.seq none (.region false [⟨(some 25), (.mov (.t 7)), [], none⟩, ⟨(some 26), (.ibin .i64 .add (.t 25) (.k (.one (.d (.int .i64 1))))),
  [0], none⟩, ⟨(some 7), (.mov (.t 26)), [1, 0, 1], none⟩]) (.seq none (.region false [⟨(some 27), (.mov (.t 5)), [], none⟩, ⟨(some 28), (.ibin .i64 .add (.t 27) (.k (.one (.d (.int .i64 1))))), [0],
  none⟩, ⟨(some 29), (.mov (.t 7)), [], none⟩, ⟨(some 5), (.mov (.t 28)), [1, 0, 1], none⟩, ⟨(some 6), (.mov (.t 29)), [2, 3, 0, 1, 2, 3], none⟩]) (.exit 1))) (.seq none (.region false [⟨(some 31),
  (.mov (.t 8)), [], none⟩, ⟨(some 32), (.ibin .u8 .eql (.t 31) (.k (.one (.d (.int .u8 32))))), [0], none⟩, ⟨(some 33), (.mov (.t 32)), [1], none⟩, ⟨(some 34), (.mov (.t 8)), [2], (some (2, (33,
  false)))⟩, ⟨(some 35), (.ibin .u8 .eql (.t 34) (.k (.one (.d (.int .u8 9))))), [3, 2], (some (2, (33, false)))⟩, ⟨(some 36), (.pick (.t 33) (.k (.one (.d (.bool true)))) (.t 35)), [2, 4], none⟩,
  ⟨(some 37), (.mov (.t 36)), [5, 2], none⟩, ⟨(some 38), (.mov (.t 8)), [6], (some (6, (37, false)))⟩, ⟨(some 39), (.ibin .u8 .eql (.t 38) (.k (.one (.d (.int .u8 13))))), [7, 6], (some (6, (37,
  false)))⟩, ⟨(some 40), (.pick (.t 37) (.k (.one (.d (.bool true)))) (.t 39)), [6, 8], none⟩, ⟨(some 30), (.mov (.t 40)), [9, 6], none⟩]) (.cond (.t 30) (.seq none (.region false [⟨(some 41),
  (.mov (.t 7)), [], none⟩, ⟨(some 42), (.ibin .i64 .add (.t 41) (.k (.one (.d (.int .i64 1))))), [0], none⟩, ⟨(some 7), (.mov (.t 42)), [1, 0, 1],
  none⟩]) (.exit 1)) (.seq none (.region false [⟨(some 44), (.mov (.t 8)), [], none⟩, ⟨(some 45), (.ibin .u8 .eql (.t 44) (.k (.one (.d (.int .u8 35))))), [0], none⟩, ⟨(some 43), (.mov (.t 45)), [1],
  none⟩]) (.cond (.t 43) (.seq (some [0, 3, 4, 5, 6, 7]) (.block 3 (.loop [0, 3, 4, 5, 6, 7] lb17_1)) j17_3) .skip)))))))) j17_4))
def lb17_0 : SCode :=
  (.seq (some [0, 3, 4, 5, 6, 7]) (.seq none (.region false [⟨(some 15), (.mov (.t 7)), [], none⟩, ⟨(some 16), (.mov (.t 0)), [], none⟩, ⟨(some 17), (.len true (.t 16)), [1], none⟩, ⟨(some 18),
  (.ibin .i64 .lss (.t 15) (.t 17)), [0, 2], none⟩]) (.cond (.t 18) .skip (.exit 0))) j17_1)
def j17_6 : SCode :=
  (.seq none (.region false [⟨(some 91), (.mov (.t 4)), [], none⟩, ⟨(some 92), (.mov (.t 5)), [], none⟩, ⟨(some 93), (.mov (.t 0)), [], none⟩, ⟨(some 94), (.len true (.t 93)), [2], none⟩, ⟨(some 95),
  (.mov (.t 6)), [], none⟩, ⟨(some 96), (.ibin .i64 .sub (.t 94) (.t 95)), [3, 4], none⟩, ⟨(some 97), (.ibin .i64 .add (.t 96) (.k (.one (.d (.int .i64 1))))), [5], none⟩, ⟨(some 98),
  (.build [(.d (.int .i64 0)), (.d (.str ⟨#[]⟩)), (.d (.int .i64 0)), (.d (.int .i64 0)), (.d (.int .i64 0))] [(0, (1, (.k (.one (.d (.int .i64 5)))))), (3, (1, (.t 92))), (4, (1, (.t 97)))]), [1, 6],
  none⟩, ⟨(some 99), (.lit 50 5 [(.t 98)]), [7], none⟩, ⟨(some 100), (.app 50 5 48 (.t 91) (.t 99)), [0, 8], none⟩, ⟨(some 101), (.build [(.d (.int .i64 0)), (.d (.str ⟨#[]⟩)), (.d (.int .i64 0)),
  (.d (.int .i64 0))] []), [], none⟩, ⟨(some 2), (.mov (.t 100)), [9, 9, 0, 1, 2, 3, 4, 5, 6, 7, 8, 9], none⟩, ⟨none, (.store 4 (.t 3) (.t 101)), [10, 11, 0, 1, 2, 3, 4, 5, 6, 7, 8, 9, 10, 11],
  none⟩]) .ret)
def j17_0 : SCode :=
  (.seq none (.region false [⟨(some 4), (.mov (.k (.one (.nilL 5)))), [], none⟩]) (.seq none (.region false [⟨(some 5), (.mov (.k (.one (.d (.int .i64 1))))), [], none⟩, ⟨(some 6),
  (.mov (.k (.one (.d (.int .i64 0))))), [0, 0], none⟩]) (.seq (some [0, 3, 4, 5, 6]) (.seq none (.region false [⟨(some 7), (.mov (.k (.one (.d (.int .i64 0))))), [], none⟩]) (.block 0 (.loop [0, 3,
  4, 5, 6, 7] lb17_0))) j17_6)))
def sf17 : SFunc :=
  ⟨1, [(.tmp 2), (.cell true 4 3)], (.seq none (.region false [⟨(some 2), (.mov (.k (.one (.nilL 5)))), [], none⟩, ⟨(some 3), (.alloc [(.int .i64), .str, (.int .i64), (.int .i64)] [(.d (.int .i64 0)),
  (.d (.str ⟨#[]⟩)), (.d (.int .i64 0)), (.d (.int .i64 0))]), [], none⟩]) (.seq (some [0, 3]) (.seq none (.region false [⟨(some 11), (.mov (.t 0)), [], none⟩, ⟨(some 12), (.len true (.t 11)), [0],
  none⟩, ⟨(some 13), (.ibin .i64 .gtr (.t 12) (.k (.one (.d (.int .i64 20000))))), [1], none⟩]) (.cond (.t 13) (.seq none (.region false [⟨(some 14), (.build [(.d (.int .i64 0)), (.d (.str ⟨#[]⟩)),
  (.d (.int .i64 0)), (.d (.int .i64 0))] [(0, (1, (.k (.one (.d (.int .i64 2))))))]), [], none⟩, ⟨(some 2), (.mov (.k (.one (.nilL 5)))), [], none⟩, ⟨none, (.store 4 (.t 3) (.t 14)), [0, 1, 0, 1],
  none⟩]) .ret) .skip)) j17_0))⟩
theorem c17 : compFunc Tryd.prog [none, some [0, 3], none, none, none, none, some [0, 3, 4, 5, 6], none, some [0, 3, 4, 5, 6, 7], some [0, 3, 4, 5, 6, 7], none, some [0, 3, 4, 5, 6, 7], none, none, none, none, none, none, none, some [0, 3, 4, 5, 6, 7], some [0, 3, 4, 5, 6, 7], some [0, 3, 4, 5, 6, 7], none, none, none, some [0, 3, 4, 5, 6, 7, 9], none, none, none, none] Tryd.f17 = some sf17 := by kernel_rfl
/-! sortilege/sortilegelaw03.FewTypes -/
def j22_1 : SCode :=
  (.region false [⟨(some 11), (.mov (.t 6)), [], none⟩, ⟨(some 12), (.ibin .i64 .add (.t 11) (.k (.one (.d (.int .i64 1))))), [0], none⟩, ⟨(some 6), (.mov (.t 12)), [1, 0, 1], none⟩])
def j22_0 : SCode :=
  (.seq (some [0, 1, 5, 6]) (.block 1 (.region false [⟨(some 13), (.mov (.t 1)), [], none⟩, ⟨(some 14), (.mov (.t 6)), [], none⟩, ⟨(some 15), (.iaddr 2 (.t 13) (.t 14)), [0, 1], none⟩, ⟨(some 16),
  (.load true 2 (.t 15)), [2], none⟩, ⟨(some 17), (.mov (.t 5)), [], none⟩, ⟨(some 18), (.mov (.t 0)), [], none⟩, ⟨(some 19), (.call 47 [(.t 16), (.t 17), (.t 18)]), [3, 4, 5], none⟩, ⟨(some 5),
  (.mov (.t 19)), [6, 6, 0, 1, 2, 3, 4, 5, 6], none⟩])) j22_1)
def lb22_0 : SCode :=
  (.seq (some [0, 1, 5, 6]) (.seq none (.region false [⟨(some 7), (.mov (.t 6)), [], none⟩, ⟨(some 8), (.mov (.t 1)), [], none⟩, ⟨(some 9), (.len false (.t 8)), [1], none⟩, ⟨(some 10),
  (.ibin .i64 .lss (.t 7) (.t 9)), [0, 2], none⟩]) (.cond (.t 10) .skip (.exit 0))) j22_0)
def j22_2 : SCode :=
  (.seq none (.region false [⟨(some 20), (.mov (.t 5)), [], none⟩, ⟨(some 21), (.mov (.t 0)), [], none⟩, ⟨(some 22), (.ibin .i64 .leq (.t 20) (.t 21)), [0, 1], none⟩, ⟨(some 4), (.mov (.t 22)), [2, 0,
  1, 2], none⟩]) .ret)
def sf22 : SFunc :=
  ⟨2, [(.tmp 4)], (.seq none (.region false [⟨(some 4), (.mov (.k (.one (.d (.bool false))))), [], none⟩]) (.seq none (.region false [⟨(some 5), (.mov (.k (.one (.d (.int .i64 0))))), [],
  none⟩]) (.seq (some [0, 5]) (.seq none (.region false [⟨(some 6), (.mov (.k (.one (.d (.int .i64 0))))), [], none⟩]) (.block 0 (.loop [0, 1, 5, 6] lb22_0))) j22_2)))⟩
theorem c22 : compFunc Tryd.prog [none, none, some [0, 5], none, some [0, 1, 5, 6], some [0, 1, 5, 6], none, some [0, 1, 5, 6], none] Tryd.f22 = some sf22 := by kernel_rfl
/-! sortilege/sortilegelaw07.op -/
def sf23 : SFunc :=
  ⟨2, [(.cell true 8 4)], (.seq none (.region false [⟨(some 4), (.alloc [(.int .i64), (.int .i64), .str, (.lst 1), (.lst 1), (.lst 8), (.int .i64), (.int .i64)] [(.d (.int .i64 0)), (.d (.int .i64 0)),
  (.d (.str ⟨#[]⟩)), (.nilL 1), (.nilL 1), (.nilL 8), (.d (.int .i64 0)), (.d (.int .i64 0))]), [], none⟩]) (.seq none (.region false [⟨(some 5), (.mov (.t 0)), [], none⟩, ⟨(some 6), (.mov (.t 1)),
  [], none⟩, ⟨(some 7), (.build [(.d (.int .i64 0)), (.d (.int .i64 0)), (.d (.str ⟨#[]⟩)), (.nilL 1), (.nilL 1), (.nilL 8), (.d (.int .i64 0)), (.d (.int .i64 0))] [(0, (1,
  (.k (.one (.d (.int .i64 7)))))), (2, (1, (.t 5))), (5, (1, (.t 6)))]), [0, 1], none⟩, ⟨none, (.store 8 (.t 4) (.t 7)), [2, 0, 1, 2], none⟩]) .ret))⟩
theorem c23 : compFunc Tryd.prog [none, none] Tryd.f23 = some sf23 := by kernel_rfl
/-! sortilege/sortilegelaw07.num -/
def sf24 : SFunc :=
  ⟨1, [(.cell true 8 2)], (.seq none (.region false [⟨(some 2), (.alloc [(.int .i64), (.int .i64), .str, (.lst 1), (.lst 1), (.lst 8), (.int .i64), (.int .i64)] [(.d (.int .i64 0)), (.d (.int .i64 0)),
  (.d (.str ⟨#[]⟩)), (.nilL 1), (.nilL 1), (.nilL 8), (.d (.int .i64 0)), (.d (.int .i64 0))]), [], none⟩]) (.seq none (.region false [⟨(some 3), (.mov (.t 0)), [], none⟩, ⟨(some 4),
  (.build [(.d (.int .i64 0)), (.d (.int .i64 0)), (.d (.str ⟨#[]⟩)), (.nilL 1), (.nilL 1), (.nilL 8), (.d (.int .i64 0)), (.d (.int .i64 0))] [(0, (1, (.k (.one (.d (.int .i64 1)))))), (1, (1,
  (.t 3)))]), [0], none⟩, ⟨none, (.store 8 (.t 2) (.t 4)), [1, 0, 1], none⟩]) .ret))⟩
theorem c24 : compFunc Tryd.prog [none, none] Tryd.f24 = some sf24 := by kernel_rfl
/-! sortilege/printer.Program -/
def j25_2 : SCode :=
  (.region false [⟨(some 31), (.ibin .i64 .add (.t 19) (.k (.one (.d (.int .i64 1))))), [], none⟩, ⟨(some 19), (.mov (.t 31)), [0], none⟩])
def j25_1 : SCode :=
  (.seq (some [1, 4, 17, 18, 19]) (.block 1 (.seq none (.region false [⟨(some 21), (.iaddr 5 (.t 17) (.t 19)), [], none⟩, ⟨(some 22), (.load true 5 (.t 21)), [0], none⟩, ⟨(some 6), (.alloc [.str,
  (.int .i64), (.lst 2), (.int .i64), (.int .i64)] [(.d (.str ⟨#[]⟩)), (.d (.int .i64 0)), (.nilL 2), (.d (.int .i64 0)), (.d (.int .i64 0))]), [], none⟩, ⟨none, (.store 5 (.t 6) (.t 22)), [2, 1, 0,
  1, 2], none⟩]) (.region true [⟨(some 23), (.mov (.t 4)), [], none⟩, ⟨(some 24), (.faddr 0 (.t 6)), [], none⟩, ⟨(some 25), (.load false 1 (.t 24)), [1], none⟩, ⟨(some 26), (.faddr 1 (.t 6)), [],
  none⟩, ⟨(some 27), (.load true 2 (.t 26)), [3], none⟩, ⟨(some 28), (.call 49 [(.t 27)]), [4], none⟩, ⟨(some 29), (.lit 9 1 [(.k (.one (.d (.str ⟨#[105, 110, 112, 117, 116, 32]⟩)))), (.t 25),
  (.k (.one (.d (.str ⟨#[58, 32]⟩)))), (.t 28), (.k (.one (.d (.str ⟨#[59, 10]⟩))))]), [2, 5], none⟩, ⟨(some 30), (.call 48 [(.t 23), (.t 29)]), [0, 6, 5], none⟩]))) j25_2)
def lb25_0 : SCode :=
  (.seq none (.region false [⟨(some 20), (.ibin .i64 .lss (.t 19) (.t 18)), [], none⟩]) (.seq (some [1, 4, 17, 18, 19]) (.cond (.t 20) .skip (.exit 0)) j25_1))
def j25_6 : SCode :=
  (.region true [⟨(some 57), (.mov (.t 4)), [], none⟩, ⟨(some 58), (.faddr 0 (.t 10)), [], none⟩, ⟨(some 59), (.load false 1 (.t 58)), [1], none⟩, ⟨(some 60), (.faddr 1 (.t 10)), [], none⟩, ⟨(some 61),
  (.load true 2 (.t 60)), [3], none⟩, ⟨(some 62), (.call 49 [(.t 61)]), [4], none⟩, ⟨(some 63), (.lit 9 1 [(.t 59), (.k (.one (.d (.str ⟨#[58, 32]⟩)))), (.t 62)]), [2, 5], none⟩, ⟨(some 64),
  (.call 48 [(.t 57), (.t 63)]), [0, 6, 5], none⟩])
def j25_7 : SCode :=
  (.region false [⟨(some 65), (.ibin .i64 .add (.t 47) (.k (.one (.d (.int .i64 1))))), [], none⟩, ⟨(some 47), (.mov (.t 65)), [0], none⟩])
def j25_5 : SCode :=
  (.seq (some [1, 4, 8, 33, 34, 35, 45, 46, 47]) (.block 5 (.seq none (.region false [⟨(some 49), (.mov (.t 47)), [], none⟩, ⟨(some 50), (.iaddr 5 (.t 45) (.t 47)), [], none⟩, ⟨(some 51),
  (.load true 5 (.t 50)), [1], none⟩, ⟨(some 10), (.alloc [.str, (.int .i64), (.lst 2), (.int .i64), (.int .i64)] [(.d (.str ⟨#[]⟩)), (.d (.int .i64 0)), (.nilL 2), (.d (.int .i64 0)),
  (.d (.int .i64 0))]), [], none⟩, ⟨(some 9), (.mov (.t 49)), [0, 0, 1, 2, 3], none⟩, ⟨none, (.store 5 (.t 10) (.t 51)), [3, 2, 4, 0, 1, 2, 3, 4], none⟩]) (.seq (some [1, 4, 8, 10, 33, 34, 35, 45, 46,
  47]) (.seq none (.region false [⟨(some 52), (.mov (.t 9)), [], none⟩, ⟨(some 53), (.ibin .i64 .gtr (.t 52) (.k (.one (.d (.int .i64 0))))), [0], none⟩]) (.cond (.t 53) (.region false [⟨(some 54),
  (.mov (.t 4)), [], none⟩, ⟨(some 55), (.lit 9 1 [(.k (.one (.d (.str ⟨#[44, 32]⟩))))]), [], none⟩, ⟨(some 56), (.call 48 [(.t 54), (.t 55)]), [0, 1], none⟩]) .skip)) j25_6))) j25_7)
def lb25_2 : SCode :=
  (.seq none (.region false [⟨(some 48), (.ibin .i64 .lss (.t 47) (.t 46)), [], none⟩]) (.seq (some [1, 4, 8, 33, 34, 35, 45, 46, 47]) (.cond (.t 48) .skip (.exit 4)) j25_5))
def j25_8 : SCode :=
  (.seq none (.region false [⟨(some 66), (.mov (.t 4)), [], none⟩, ⟨(some 67), (.faddr 2 (.t 8)), [], none⟩, ⟨(some 68), (.load true 2 (.t 67)), [1], none⟩, ⟨(some 69), (.call 49 [(.t 68)]), [2], none⟩,
  ⟨(some 70), (.lit 9 1 [(.k (.one (.d (.str ⟨#[41, 58, 32]⟩)))), (.t 69), (.k (.one (.d (.str ⟨#[32, 61, 32]⟩))))]), [3], none⟩, ⟨(some 71), (.call 48 [(.t 66), (.t 70)]), [0, 4, 3],
  none⟩]) (.seq none (.region false [⟨(some 72), (.mov (.t 4)), [], none⟩, ⟨(some 73), (.faddr 4 (.t 8)), [], none⟩, ⟨(some 74), (.load true 8 (.t 73)), [1], none⟩, ⟨(some 75), (.call 35 [(.t 72),
  (.t 74), (.k (.one (.d (.int .i64 0))))]), [0, 2], none⟩]) (.region false [⟨(some 76), (.mov (.t 4)), [], none⟩, ⟨(some 77), (.lit 9 1 [(.k (.one (.d (.str ⟨#[59, 10]⟩))))]), [], none⟩, ⟨(some 78),
  (.call 48 [(.t 76), (.t 77)]), [0, 1], none⟩])))
def j25_9 : SCode :=
  (.region false [⟨(some 79), (.ibin .i64 .add (.t 35) (.k (.one (.d (.int .i64 1))))), [], none⟩, ⟨(some 35), (.mov (.t 79)), [0], none⟩])
def j25_4 : SCode :=
  (.seq (some [1, 4, 33, 34, 35]) (.block 3 (.seq none (.region false [⟨(some 37), (.iaddr 14 (.t 33) (.t 35)), [], none⟩, ⟨(some 38), (.load true 14 (.t 37)), [0], none⟩, ⟨(some 8), (.alloc [.str,
  (.lst 5), (.int .i64), (.lst 2), (.int .i64), (.int .i64), .str, (.lst 1), (.lst 1), (.lst 8), (.int .i64), (.int .i64), (.int .i64), (.int .i64)] [(.d (.str ⟨#[]⟩)), (.nilL 5), (.d (.int .i64 0)),
  (.nilL 2), (.d (.int .i64 0)), (.d (.int .i64 0)), (.d (.str ⟨#[]⟩)), (.nilL 1), (.nilL 1), (.nilL 8), (.d (.int .i64 0)), (.d (.int .i64 0)), (.d (.int .i64 0)), (.d (.int .i64 0))]), [], none⟩,
  ⟨none, (.store 14 (.t 8) (.t 38)), [2, 1, 0, 1, 2], none⟩]) (.seq none (.region false [⟨(some 39), (.mov (.t 4)), [], none⟩, ⟨(some 40), (.faddr 0 (.t 8)), [], none⟩, ⟨(some 41),
  (.load false 1 (.t 40)), [1], none⟩, ⟨(some 42), (.lit 9 1 [(.k (.one (.d (.str ⟨#[102, 117, 110, 32]⟩)))), (.t 41), (.k (.one (.d (.str ⟨#[40]⟩))))]), [2], none⟩, ⟨(some 43), (.call 48 [(.t 39),
  (.t 42)]), [0, 3], none⟩]) (.seq (some [1, 4, 8, 33, 34, 35]) (.seq none (.region false [⟨(some 44), (.faddr 1 (.t 8)), [], none⟩, ⟨(some 45), (.load false 1 (.t 44)), [0], none⟩, ⟨(some 46),
  (.len false (.t 45)), [1], none⟩, ⟨(some 47), (.mov (.k (.one (.d (.int .i64 0))))), [], none⟩]) (.block 4 (.loop [1, 4, 8, 33, 34, 35, 45, 46, 47] lb25_2))) j25_8)))) j25_9)
def lb25_1 : SCode :=
  (.seq none (.region false [⟨(some 36), (.ibin .i64 .lss (.t 35) (.t 34)), [], none⟩]) (.seq (some [1, 4, 33, 34, 35]) (.cond (.t 36) .skip (.exit 2)) j25_4))
def j25_10 : SCode :=
  (.seq none (.region false [⟨(some 80), (.mov (.t 4)), [], none⟩, ⟨(some 81), (.faddr 2 (.t 1)), [], none⟩, ⟨(some 82), (.load true 8 (.t 81)), [1], none⟩, ⟨(some 83), (.call 35 [(.t 80), (.t 82),
  (.k (.one (.d (.int .i64 0))))]), [0, 2], none⟩]) (.seq none (.region false [⟨(some 84), (.mov (.t 4)), [], none⟩, ⟨(some 85), (.lit 9 1 [(.k (.one (.d (.str ⟨#[10]⟩))))]), [], none⟩, ⟨(some 86),
  (.call 48 [(.t 84), (.t 85)]), [0, 1], none⟩]) (.seq none (.region false [⟨(some 87), (.mov (.t 4)), [], none⟩, ⟨(some 88), (.call 36 [(.t 87)]), [0], none⟩, ⟨(some 89), (.ext (.t 88) 0), [1],
  none⟩, ⟨(some 90), (.ext (.t 88) 1), [1], none⟩, ⟨(some 2), (.mov (.t 89)), [2, 1, 0, 1, 2, 3], none⟩, ⟨(some 3), (.mov (.t 90)), [3, 4, 0, 1, 2, 3, 4], none⟩]) .ret)))
def j25_3 : SCode :=
  (.seq (some [1, 4]) (.seq none (.region false [⟨(some 32), (.faddr 1 (.t 1)), [], none⟩, ⟨(some 33), (.load false 1 (.t 32)), [0], none⟩, ⟨(some 34), (.len false (.t 33)), [1], none⟩, ⟨(some 35),
  (.mov (.k (.one (.d (.int .i64 0))))), [], none⟩]) (.block 2 (.loop [1, 4, 33, 34, 35] lb25_1))) j25_10)
def j25_0 : SCode :=
  (.seq none (.region false [⟨(some 14), (.build [(.d .nilP), (.nilL 1)] []), [], none⟩, ⟨(some 15), (.boxB 5 (.t 14)), [0], none⟩, ⟨(some 4), (.mov (.t 15)), [1, 0, 1], none⟩]) (.seq (some [1,
  4]) (.seq none (.region false [⟨(some 16), (.faddr 0 (.t 1)), [], none⟩, ⟨(some 17), (.load false 1 (.t 16)), [0], none⟩, ⟨(some 18), (.len false (.t 17)), [1], none⟩, ⟨(some 19),
  (.mov (.k (.one (.d (.int .i64 0))))), [], none⟩]) (.block 0 (.loop [1, 4, 17, 18, 19] lb25_0))) j25_3))
def sf25 : SFunc :=
  ⟨1, [(.tmp 2), (.tmp 3)], (.seq none (.region false [⟨(some 1), (.box [(.lst 5), (.lst 14), (.int .i64), (.int .i64), .str, (.lst 1), (.lst 1), (.lst 8), (.int .i64), (.int .i64)] (.t 0)), [], none⟩,
  ⟨(some 2), (.mov (.k (.one (.d (.str ⟨#[]⟩))))), [], none⟩, ⟨(some 3), (.mov (.k (.one (.d (.int .i64 0))))), [1], none⟩]) (.seq (some [1]) (.seq none (.region false [⟨(some 11),
  (.load true 10 (.t 1)), [], none⟩, ⟨(some 12), (.call 9 [(.t 11)]), [0], none⟩, ⟨(some 13), (.inot (.t 12)), [1], none⟩]) (.cond (.t 13) (.seq none (.region false [⟨(some 2),
  (.mov (.k (.one (.d (.str ⟨#[]⟩))))), [], none⟩, ⟨(some 3), (.mov (.k (.one (.d (.int .i64 1))))), [0, 0], none⟩]) .ret) .skip)) j25_0))⟩
theorem c25 : compFunc Tryd.prog [none, some [1], none, none, none, some [1, 4], none, some [1, 4, 17, 18, 19], none, some [1, 4, 17, 18, 19], some [1, 4, 17, 18, 19], none, some [1, 4], none, some [1, 4, 33, 34, 35], none, some [1, 4, 33, 34, 35], some [1, 4, 33, 34, 35], none, none, some [1, 4, 8, 33, 34, 35], none, some [1, 4, 8, 33, 34, 35, 45, 46, 47], none, some [1, 4, 8, 33, 34, 35, 45, 46, 47], some [1, 4, 8, 33, 34, 35, 45, 46, 47], none, some [1, 4, 8, 10, 33, 34, 35, 45, 46, 47], none, none, none, none, none, none] Tryd.f25 = some sf25 := by kernel_rfl
/-! sortilege/printer.field -/
def sf26 : SFunc :=
  ⟨1, [(.tmp 2)], (.seq none (.region false [⟨(some 1), (.box [.str, (.int .i64), (.lst 2), (.int .i64), (.int .i64)] (.t 0)), [], none⟩, ⟨(some 2), (.mov (.k (.one (.d (.bool false))))), [],
  none⟩]) (.seq none (.region false [⟨(some 3), (.faddr 0 (.t 1)), [], none⟩, ⟨(some 4), (.load false 1 (.t 3)), [0], none⟩, ⟨(some 5), (.call 27 [(.t 4)]), [1], none⟩, ⟨(some 6), (.mov (.t 5)), [2,
  2], none⟩, ⟨(some 7), (.faddr 1 (.t 1)), [3], (some (3, (6, true)))⟩, ⟨(some 8), (.load true 2 (.t 7)), [4, 3], (some (3, (6, true)))⟩, ⟨(some 9), (.call 28 [(.t 8)]), [5, 3, 3], (some (3, (6,
  true)))⟩, ⟨(some 10), (.pick (.t 6) (.t 9) (.k (.one (.d (.bool false))))), [3, 6], none⟩, ⟨(some 2), (.mov (.t 10)), [7, 6, 0, 1, 2, 3, 4, 5, 6, 7], none⟩]) .ret))⟩
theorem c26 : compFunc Tryd.prog [none, none] Tryd.f26 = some sf26 := by kernel_rfl
/-! sortilege/printer.name -/
def sf27 : SFunc :=
  ⟨1, [(.tmp 2)], (.seq none (.region false [⟨(some 2), (.mov (.k (.one (.d (.bool false))))), [], none⟩]) (.seq none (.region false [⟨(some 6), (.mov (.t 0)), [], none⟩, ⟨(some 7), (.call 17 [(.t 6)]),
  [0], none⟩, ⟨(some 5), (.mov (.t 7)), [1], none⟩, ⟨(some 8), (.ext (.t 5) 0), [2], none⟩, ⟨(some 9), (.ext (.t 5) 1), [2], none⟩, ⟨(some 4), (.alloc [(.int .i64), .str, (.int .i64),
  (.int .i64)] [(.d (.int .i64 0)), (.d (.str ⟨#[]⟩)), (.d (.int .i64 0)), (.d (.int .i64 0))]), [], none⟩, ⟨(some 3), (.mov (.t 8)), [3, 1, 0, 1, 2, 3, 5], none⟩, ⟨none, (.store 4 (.t 4) (.t 9)), [5,
  4, 6, 0, 1, 2, 3, 4, 5, 6], none⟩]) (.seq none (.region false [⟨(some 10), (.faddr 0 (.t 4)), [], none⟩, ⟨(some 11), (.load false 1 (.t 10)), [0], none⟩, ⟨(some 12),
  (.ibin .i64 .eql (.t 11) (.k (.one (.d (.int .i64 0))))), [1], none⟩, ⟨(some 13), (.mov (.t 12)), [2], none⟩, ⟨(some 14), (.mov (.t 3)), [3], (some (3, (13, true)))⟩, ⟨(some 15),
  (.len false (.t 14)), [4, 3], (some (3, (13, true)))⟩, ⟨(some 16), (.ibin .i64 .eql (.t 15) (.k (.one (.d (.int .i64 2))))), [5, 3], (some (3, (13, true)))⟩, ⟨(some 17),
  (.pick (.t 13) (.t 16) (.k (.one (.d (.bool false))))), [3, 6], none⟩, ⟨(some 18), (.mov (.t 17)), [7, 3], none⟩, ⟨(some 19), (.mov (.t 3)), [8], (some (8, (18, true)))⟩, ⟨(some 20),
  (.iaddr 5 (.t 19) (.k (.one (.d (.int .i64 0))))), [9, 8], (some (8, (18, true)))⟩, ⟨(some 21), (.faddr 0 (.t 20)), [10, 8], (some (8, (18, true)))⟩, ⟨(some 22), (.load false 1 (.t 21)), [11, 8],
  (some (8, (18, true)))⟩, ⟨(some 23), (.ibin .i64 .eql (.t 22) (.k (.one (.d (.int .i64 1))))), [12, 8], (some (8, (18, true)))⟩, ⟨(some 24), (.pick (.t 18) (.t 23) (.k (.one (.d (.bool false))))),
  [8, 13], none⟩, ⟨(some 25), (.mov (.t 24)), [14, 8], none⟩, ⟨(some 26), (.mov (.t 3)), [15], (some (15, (25, true)))⟩, ⟨(some 27), (.iaddr 5 (.t 26) (.k (.one (.d (.int .i64 0))))), [16, 15],
  (some (15, (25, true)))⟩, ⟨(some 28), (.faddr 1 (.t 27)), [17, 15], (some (15, (25, true)))⟩, ⟨(some 29), (.load false 1 (.t 28)), [18, 15], (some (15, (25, true)))⟩, ⟨(some 30), (.mov (.t 0)),
  [15], (some (15, (25, true)))⟩, ⟨(some 31), (.sbin .eql (.t 29) (.t 30)), [19, 20, 15], (some (15, (25, true)))⟩, ⟨(some 32), (.pick (.t 25) (.t 31) (.k (.one (.d (.bool false))))), [15, 21], none⟩,
  ⟨(some 2), (.mov (.t 32)), [22, 15, 0, 1, 2, 3, 4, 5, 6, 7, 8, 9, 10, 11, 12, 13, 14, 15, 16, 17, 18, 19, 20, 21, 22], none⟩]) .ret)))⟩
theorem c27 : compFunc Tryd.prog [none, none, none] Tryd.f27 = some sf27 := by kernel_rfl
/-! sortilege/value.TypeRight -/
def sf28 : SFunc :=
  ⟨1, [(.tmp 2)], (.seq none (.region false [⟨(some 1), (.box [(.int .i64), (.lst 2)] (.t 0)), [], none⟩, ⟨(some 2), (.mov (.k (.one (.d (.bool false))))), [],
  none⟩]) (.seq none (.region false [⟨(some 3), (.load true 2 (.t 1)), [], none⟩, ⟨(some 4), (.call 50 [(.t 3), (.k (.one (.d (.int .i64 40))))]), [0], none⟩, ⟨(some 2), (.mov (.t 4)), [1, 1, 0, 1],
  none⟩]) .ret))⟩
theorem c28 : compFunc Tryd.prog [none, none] Tryd.f28 = some sf28 := by kernel_rfl
/-! sortilege/sortilegeref07.fields -/
def j29_1 : SCode :=
  (.region false [⟨(some 8), (.mov (.t 3)), [], none⟩, ⟨(some 9), (.ibin .i64 .add (.t 8) (.k (.one (.d (.int .i64 1))))), [0], none⟩, ⟨(some 3), (.mov (.t 9)), [1, 0, 1], none⟩])
def j29_0 : SCode :=
  (.seq (some [0, 3]) (.block 1 (.seq none (.region false [⟨(some 10), (.mov (.t 0)), [], none⟩, ⟨(some 11), (.mov (.t 3)), [], none⟩, ⟨(some 12), (.iaddr 5 (.t 10) (.t 11)), [0, 1], none⟩, ⟨(some 13),
  (.faddr 0 (.t 12)), [2], none⟩, ⟨(some 14), (.load false 1 (.t 13)), [3], none⟩, ⟨(some 15), (.call 30 [(.t 14), (.k (.one (.d (.bool false))))]), [4], none⟩, ⟨(some 16), (.inot (.t 15)), [5],
  none⟩, ⟨(some 17), (.mov (.t 16)), [6, 5], none⟩, ⟨(some 18), (.mov (.t 0)), [7], (some (7, (17, false)))⟩, ⟨(some 19), (.mov (.t 3)), [7], (some (7, (17, false)))⟩, ⟨(some 20),
  (.iaddr 5 (.t 18) (.t 19)), [8, 9, 7], (some (7, (17, false)))⟩, ⟨(some 21), (.faddr 1 (.t 20)), [10, 7], (some (7, (17, false)))⟩, ⟨(some 22), (.load true 2 (.t 21)), [11, 7], (some (7, (17,
  false)))⟩, ⟨(some 23), (.call 31 [(.t 22)]), [12, 7, 7], (some (7, (17, false)))⟩, ⟨(some 24), (.inot (.t 23)), [13, 7], (some (7, (17, false)))⟩, ⟨(some 25),
  (.pick (.t 17) (.k (.one (.d (.bool true)))) (.t 24)), [7, 14], none⟩]) (.cond (.t 25) (.seq none (.region false [⟨(some 2), (.mov (.k (.one (.d (.bool false))))), [], none⟩]) .ret) .skip))) j29_1)
def lb29_0 : SCode :=
  (.seq (some [0, 3]) (.seq none (.region false [⟨(some 4), (.mov (.t 3)), [], none⟩, ⟨(some 5), (.mov (.t 0)), [], none⟩, ⟨(some 6), (.len false (.t 5)), [1], none⟩, ⟨(some 7),
  (.ibin .i64 .lss (.t 4) (.t 6)), [0, 2], none⟩]) (.cond (.t 7) .skip (.exit 0))) j29_0)
def j29_2 : SCode :=
  (.seq none (.region false [⟨(some 2), (.mov (.k (.one (.d (.bool true))))), [], none⟩]) .ret)
def sf29 : SFunc :=
  ⟨1, [(.tmp 2)], (.seq none (.region false [⟨(some 2), (.mov (.k (.one (.d (.bool false))))), [], none⟩]) (.seq (some []) (.seq none (.region false [⟨(some 3), (.mov (.k (.one (.d (.int .i64 0))))),
  [], none⟩]) (.block 0 (.loop [0, 3] lb29_0))) j29_2))⟩
theorem c29 : compFunc Tryd.prog [none, some [], none, some [0, 3], some [0, 3], none, some [0, 3], none, none, none] Tryd.f29 = some sf29 := by kernel_rfl
/-! sortilege/sortilegeref05.IsName -/
def j30_2 : SCode :=
  (.region false [⟨(some 31), (.mov (.t 5)), [], none⟩, ⟨(some 32), (.ibin .i64 .add (.t 31) (.k (.one (.d (.int .i64 1))))), [0], none⟩, ⟨(some 5), (.mov (.t 32)), [1, 0, 1], none⟩])
def j30_1 : SCode :=
  (.seq (some [0, 5]) (.block 1 (.seq none (.region false [⟨(some 33), (.mov (.t 0)), [], none⟩, ⟨(some 34), (.mov (.t 5)), [], none⟩, ⟨(some 35), (.chr (.t 33) (.t 34)), [0, 1], none⟩, ⟨(some 36),
  (.call 51 [(.t 35)]), [2], none⟩, ⟨(some 37), (.inot (.t 36)), [3], none⟩, ⟨(some 38), (.mov (.t 37)), [4, 3], none⟩, ⟨(some 39), (.mov (.t 0)), [5], (some (5, (38, true)))⟩, ⟨(some 40),
  (.mov (.t 5)), [5], (some (5, (38, true)))⟩, ⟨(some 41), (.chr (.t 39) (.t 40)), [6, 7, 5], (some (5, (38, true)))⟩, ⟨(some 42), (.call 53 [(.t 41)]), [8, 5, 5], (some (5, (38, true)))⟩, ⟨(some 43),
  (.inot (.t 42)), [9, 5], (some (5, (38, true)))⟩, ⟨(some 44), (.pick (.t 38) (.t 43) (.k (.one (.d (.bool false))))), [5, 10], none⟩, ⟨(some 45), (.mov (.t 44)), [11, 9], none⟩, ⟨(some 46),
  (.mov (.t 0)), [12], (some (12, (45, true)))⟩, ⟨(some 47), (.mov (.t 5)), [12], (some (12, (45, true)))⟩, ⟨(some 48), (.chr (.t 46) (.t 47)), [13, 14, 12], (some (12, (45, true)))⟩, ⟨(some 49),
  (.ibin .u8 .neq (.t 48) (.k (.one (.d (.int .u8 95))))), [15, 12], (some (12, (45, true)))⟩, ⟨(some 50), (.pick (.t 45) (.t 49) (.k (.one (.d (.bool false))))), [12, 16],
  none⟩]) (.cond (.t 50) (.seq none (.region false [⟨(some 4), (.mov (.k (.one (.d (.bool false))))), [], none⟩]) .ret) .skip))) j30_2)
def lb30_0 : SCode :=
  (.seq (some [0, 5]) (.seq none (.region false [⟨(some 27), (.mov (.t 5)), [], none⟩, ⟨(some 28), (.mov (.t 0)), [], none⟩, ⟨(some 29), (.len true (.t 28)), [1], none⟩, ⟨(some 30),
  (.ibin .i64 .lss (.t 27) (.t 29)), [0, 2], none⟩]) (.cond (.t 30) .skip (.exit 0))) j30_1)
def j30_3 : SCode :=
  (.seq none (.region false [⟨(some 4), (.mov (.k (.one (.d (.bool true))))), [], none⟩]) .ret)
def j30_0 : SCode :=
  (.seq (some []) (.seq none (.region false [⟨(some 5), (.mov (.k (.one (.d (.int .i64 0))))), [], none⟩]) (.block 0 (.loop [0, 5] lb30_0))) j30_3)
def sf30 : SFunc :=
  ⟨2, [(.tmp 4)], (.seq none (.region false [⟨(some 4), (.mov (.k (.one (.d (.bool false))))), [], none⟩]) (.seq (some [0]) (.seq none (.region false [⟨(some 6), (.mov (.t 0)), [], none⟩, ⟨(some 7),
  (.sbin .eql (.t 6) (.k (.one (.d (.str ⟨#[]⟩))))), [0], none⟩, ⟨(some 8), (.mov (.t 7)), [1], none⟩, ⟨(some 9), (.mov (.t 0)), [2], (some (2, (8, false)))⟩, ⟨(some 10),
  (.chr (.t 9) (.k (.one (.d (.int .i64 0))))), [3, 2], (some (2, (8, false)))⟩, ⟨(some 11), (.call 51 [(.t 10)]), [4, 2, 2], (some (2, (8, false)))⟩, ⟨(some 12), (.inot (.t 11)), [5, 2], (some (2,
  (8, false)))⟩, ⟨(some 13), (.pick (.t 8) (.k (.one (.d (.bool true)))) (.t 12)), [2, 6], none⟩, ⟨(some 14), (.mov (.t 13)), [7, 5], none⟩, ⟨(some 15), (.mov (.t 0)), [8], (some (8, (14, false)))⟩,
  ⟨(some 16), (.call 52 [(.t 15)]), [9, 8, 8], (some (8, (14, false)))⟩, ⟨(some 17), (.pick (.t 14) (.k (.one (.d (.bool true)))) (.t 16)), [8, 10], none⟩, ⟨(some 18), (.mov (.t 17)), [11, 10], none⟩,
  ⟨(some 19), (.mov (.t 1)), [12], (some (12, (18, false)))⟩, ⟨(some 20), (.inot (.t 19)), [13, 12], (some (12, (18, false)))⟩, ⟨(some 21), (.mov (.t 20)), [14, 12, 12], (some (12, (18, false)))⟩,
  ⟨(some 22), (.mov (.t 0)), [15], (some (15, (21, true)))⟩, ⟨(some 23), (.len true (.t 22)), [16, 15], (some (15, (21, true)))⟩, ⟨(some 24), (.ibin .i64 .gtr (.t 23) (.k (.one (.d (.int .i64 24))))),
  [17, 15], (some (15, (21, true)))⟩, ⟨(some 25), (.pick (.t 21) (.t 24) (.k (.one (.d (.bool false))))), [15, 18, 12], (some (12, (18, false)))⟩, ⟨(some 26),
  (.pick (.t 18) (.k (.one (.d (.bool true)))) (.t 25)), [12, 19], none⟩]) (.cond (.t 26) (.seq none (.region false [⟨(some 4), (.mov (.k (.one (.d (.bool false))))), [],
  none⟩]) .ret) .skip)) j30_0))⟩
theorem c30 : compFunc Tryd.prog [none, some [0], none, none, some [], none, some [0, 5], some [0, 5], none, some [0, 5], none, none, none] Tryd.f30 = some sf30 := by kernel_rfl
/-! sortilege/sortilegeref03.TypeRight -/
def sf31 : SFunc :=
  ⟨1, [(.tmp 2)], (.seq none (.region false [⟨(some 1), (.box [(.int .i64), (.lst 2)] (.t 0)), [], none⟩, ⟨(some 2), (.mov (.k (.one (.d (.bool false))))), [],
  none⟩]) (.seq none (.region false [⟨(some 3), (.load true 2 (.t 1)), [], none⟩, ⟨(some 4), (.call 54 [(.t 3), (.k (.one (.d (.int .i64 1))))]), [0], none⟩, ⟨(some 2), (.mov (.t 4)), [1, 1, 0, 1],
  none⟩]) .ret))⟩
theorem c31 : compFunc Tryd.prog [none, none] Tryd.f31 = some sf31 := by kernel_rfl
/-! sortilege/printer.right -/
def j32_2 : SCode :=
  (.region false [⟨(some 26), (.ibin .i64 .add (.t 17) (.k (.one (.d (.int .i64 1))))), [], none⟩, ⟨(some 17), (.mov (.t 26)), [0], none⟩])
def j32_1 : SCode :=
  (.seq (some [1, 15, 16, 17]) (.block 1 (.seq none (.region false [⟨(some 19), (.iaddr 8 (.t 15) (.t 17)), [], none⟩, ⟨(some 20), (.load true 8 (.t 19)), [0], none⟩, ⟨(some 6), (.alloc [(.int .i64),
  (.int .i64), .str, (.lst 1), (.lst 1), (.lst 8), (.int .i64), (.int .i64)] [(.d (.int .i64 0)), (.d (.int .i64 0)), (.d (.str ⟨#[]⟩)), (.nilL 1), (.nilL 1), (.nilL 8), (.d (.int .i64 0)),
  (.d (.int .i64 0))]), [], none⟩, ⟨none, (.store 8 (.t 6) (.t 20)), [2, 1, 0, 1, 2], none⟩]) (.seq none (.region false [⟨(some 21), (.load true 8 (.t 6)), [], none⟩, ⟨(some 22), (.mov (.t 1)), [],
  none⟩, ⟨(some 23), (.ibin .i64 .sub (.t 22) (.k (.one (.d (.int .i64 1))))), [1], none⟩, ⟨(some 24), (.call 32 [(.t 21), (.t 23)]), [0, 2], none⟩, ⟨(some 25), (.inot (.t 24)), [3],
  none⟩]) (.cond (.t 25) (.seq none (.region false [⟨(some 4), (.mov (.k (.one (.d (.bool false))))), [], none⟩]) .ret) .skip)))) j32_2)
def lb32_0 : SCode :=
  (.seq none (.region false [⟨(some 18), (.ibin .i64 .lss (.t 17) (.t 16)), [], none⟩]) (.seq (some [1, 15, 16, 17]) (.cond (.t 18) .skip (.exit 0)) j32_1))
def j32_3 : SCode :=
  (.seq none (.region false [⟨(some 4), (.mov (.k (.one (.d (.bool true))))), [], none⟩]) .ret)
def j32_0 : SCode :=
  (.seq (some []) (.seq none (.region false [⟨(some 14), (.faddr 5 (.t 2)), [], none⟩, ⟨(some 15), (.load false 1 (.t 14)), [0], none⟩, ⟨(some 16), (.len false (.t 15)), [1], none⟩, ⟨(some 17),
  (.mov (.k (.one (.d (.int .i64 0))))), [], none⟩]) (.block 0 (.loop [1, 15, 16, 17] lb32_0))) j32_3)
def sf32 : SFunc :=
  ⟨2, [(.tmp 4)], (.seq none (.region false [⟨(some 2), (.box [(.int .i64), (.int .i64), .str, (.lst 1), (.lst 1), (.lst 8), (.int .i64), (.int .i64)] (.t 0)), [], none⟩, ⟨(some 4),
  (.mov (.k (.one (.d (.bool false))))), [], none⟩]) (.seq (some [1, 2]) (.seq none (.region false [⟨(some 7), (.mov (.t 1)), [], none⟩, ⟨(some 8),
  (.ibin .i64 .lss (.t 7) (.k (.one (.d (.int .i64 1))))), [0], none⟩, ⟨(some 9), (.mov (.t 8)), [1], none⟩, ⟨(some 10), (.load true 8 (.t 2)), [2], (some (2, (9, false)))⟩, ⟨(some 11),
  (.call 55 [(.t 10)]), [3, 2, 2], (some (2, (9, false)))⟩, ⟨(some 12), (.inot (.t 11)), [4, 2], (some (2, (9, false)))⟩, ⟨(some 13), (.pick (.t 9) (.k (.one (.d (.bool true)))) (.t 12)), [2, 5],
  none⟩]) (.cond (.t 13) (.seq none (.region false [⟨(some 4), (.mov (.k (.one (.d (.bool false))))), [], none⟩]) .ret) .skip)) j32_0))⟩
theorem c32 : compFunc Tryd.prog [none, some [1, 2], none, none, some [], none, some [1, 15, 16, 17], none, some [1, 15, 16, 17], some [1, 15, 16, 17], none, none, none, none] Tryd.f32 = some sf32 := by kernel_rfl
/-! sortilege/sortilegeref07.right -/
def j33_2 : SCode :=
  (.region false [⟨(some 18), (.mov (.t 5)), [], none⟩, ⟨(some 19), (.ibin .i64 .add (.t 18) (.k (.one (.d (.int .i64 1))))), [0], none⟩, ⟨(some 5), (.mov (.t 19)), [1, 0, 1], none⟩])
def j33_1 : SCode :=
  (.seq (some [1, 2, 5]) (.block 1 (.seq none (.region false [⟨(some 20), (.faddr 5 (.t 2)), [], none⟩, ⟨(some 21), (.load false 1 (.t 20)), [0], none⟩, ⟨(some 22), (.mov (.t 5)), [], none⟩, ⟨(some 23),
  (.iaddr 8 (.t 21) (.t 22)), [1, 2], none⟩, ⟨(some 24), (.load true 8 (.t 23)), [3], none⟩, ⟨(some 25), (.mov (.t 1)), [], none⟩, ⟨(some 26), (.ibin .i64 .sub (.t 25) (.k (.one (.d (.int .i64 1))))),
  [5], none⟩, ⟨(some 27), (.call 33 [(.t 24), (.t 26)]), [4, 6], none⟩, ⟨(some 28), (.inot (.t 27)), [7], none⟩]) (.cond (.t 28) (.seq none (.region false [⟨(some 4),
  (.mov (.k (.one (.d (.bool false))))), [], none⟩]) .ret) .skip))) j33_2)
def lb33_0 : SCode :=
  (.seq (some [1, 2, 5]) (.seq none (.region false [⟨(some 13), (.mov (.t 5)), [], none⟩, ⟨(some 14), (.faddr 5 (.t 2)), [], none⟩, ⟨(some 15), (.load false 1 (.t 14)), [1], none⟩, ⟨(some 16),
  (.len false (.t 15)), [2], none⟩, ⟨(some 17), (.ibin .i64 .lss (.t 13) (.t 16)), [0, 3], none⟩]) (.cond (.t 17) .skip (.exit 0))) j33_1)
def j33_3 : SCode :=
  (.seq none (.region false [⟨(some 4), (.mov (.k (.one (.d (.bool true))))), [], none⟩]) .ret)
def j33_0 : SCode :=
  (.seq (some []) (.seq none (.region false [⟨(some 5), (.mov (.k (.one (.d (.int .i64 0))))), [], none⟩]) (.block 0 (.loop [1, 2, 5] lb33_0))) j33_3)
def sf33 : SFunc :=
  ⟨2, [(.tmp 4)], (.seq none (.region false [⟨(some 2), (.box [(.int .i64), (.int .i64), .str, (.lst 1), (.lst 1), (.lst 8), (.int .i64), (.int .i64)] (.t 0)), [], none⟩, ⟨(some 4),
  (.mov (.k (.one (.d (.bool false))))), [], none⟩]) (.seq (some [1, 2]) (.seq none (.region false [⟨(some 6), (.mov (.t 1)), [], none⟩, ⟨(some 7),
  (.ibin .i64 .lss (.t 6) (.k (.one (.d (.int .i64 1))))), [0], none⟩, ⟨(some 8), (.mov (.t 7)), [1], none⟩, ⟨(some 9), (.load true 8 (.t 2)), [2], (some (2, (8, false)))⟩, ⟨(some 10),
  (.call 56 [(.t 9)]), [3, 2, 2], (some (2, (8, false)))⟩, ⟨(some 11), (.inot (.t 10)), [4, 2], (some (2, (8, false)))⟩, ⟨(some 12), (.pick (.t 8) (.k (.one (.d (.bool true)))) (.t 11)), [2, 5],
  none⟩]) (.cond (.t 12) (.seq none (.region false [⟨(some 4), (.mov (.k (.one (.d (.bool false))))), [], none⟩]) .ret) .skip)) j33_0))⟩
theorem c33 : compFunc Tryd.prog [none, some [1, 2], none, none, some [], none, some [1, 2, 5], some [1, 2, 5], none, some [1, 2, 5], none, none, none] Tryd.f33 = some sf33 := by kernel_rfl
/-! sortilege/sortilegelaw06.size -/
def j34_1 : SCode :=
  (.region false [⟨(some 28), (.mov (.t 7)), [], none⟩, ⟨(some 29), (.ibin .i64 .add (.t 28) (.k (.one (.d (.int .i64 1))))), [0], none⟩, ⟨(some 7), (.mov (.t 29)), [1, 0, 1], none⟩])
def j34_0 : SCode :=
  (.seq (some [1, 2, 3, 7]) (.block 1 (.region false [⟨(some 30), (.faddr 5 (.t 3)), [], none⟩, ⟨(some 31), (.load false 1 (.t 30)), [0], none⟩, ⟨(some 32), (.mov (.t 7)), [], none⟩, ⟨(some 33),
  (.iaddr 8 (.t 31) (.t 32)), [1, 2], none⟩, ⟨(some 34), (.load true 8 (.t 33)), [3], none⟩, ⟨(some 35), (.mov (.t 1)), [], none⟩, ⟨(some 36), (.mov (.t 2)), [], none⟩, ⟨(some 37), (.call 34 [(.t 34),
  (.t 35), (.t 36)]), [4, 5, 6], none⟩, ⟨(some 1), (.mov (.t 37)), [7, 7, 0, 1, 2, 3, 4, 5, 6, 7], none⟩])) j34_1)
def lb34_0 : SCode :=
  (.seq (some [1, 2, 3, 7]) (.seq none (.region false [⟨(some 18), (.mov (.t 7)), [], none⟩, ⟨(some 19), (.faddr 5 (.t 3)), [], none⟩, ⟨(some 20), (.load false 1 (.t 19)), [1], none⟩, ⟨(some 21),
  (.len false (.t 20)), [2], none⟩, ⟨(some 22), (.ibin .i64 .lss (.t 18) (.t 21)), [0, 3], none⟩, ⟨(some 23), (.mov (.t 22)), [4], none⟩, ⟨(some 24), (.mov (.t 1)), [5], (some (5, (23, true)))⟩,
  ⟨(some 25), (.mov (.t 2)), [5], (some (5, (23, true)))⟩, ⟨(some 26), (.ibin .i64 .leq (.t 24) (.t 25)), [6, 7, 5], (some (5, (23, true)))⟩, ⟨(some 27),
  (.pick (.t 23) (.t 26) (.k (.one (.d (.bool false))))), [5, 8], none⟩]) (.cond (.t 27) .skip (.exit 0))) j34_0)
def j34_2 : SCode :=
  (.seq none (.region false [⟨(some 38), (.mov (.t 1)), [], none⟩, ⟨(some 6), (.mov (.t 38)), [0, 0], none⟩]) .ret)
def sf34 : SFunc :=
  ⟨3, [(.tmp 6)], (.seq none (.region false [⟨(some 3), (.box [(.int .i64), (.int .i64), .str, (.lst 1), (.lst 1), (.lst 8), (.int .i64), (.int .i64)] (.t 0)), [], none⟩, ⟨(some 6),
  (.mov (.k (.one (.d (.int .i64 0))))), [], none⟩]) (.seq none (.region false [⟨(some 8), (.mov (.t 1)), [], none⟩, ⟨(some 9), (.ibin .i64 .add (.t 8) (.k (.one (.d (.int .i64 1))))), [0], none⟩,
  ⟨(some 10), (.faddr 3 (.t 3)), [], none⟩, ⟨(some 11), (.load false 1 (.t 10)), [2], none⟩, ⟨(some 12), (.len false (.t 11)), [3], none⟩, ⟨(some 13), (.ibin .i64 .add (.t 9) (.t 12)), [1, 4], none⟩,
  ⟨(some 14), (.faddr 4 (.t 3)), [], none⟩, ⟨(some 15), (.load false 1 (.t 14)), [6], none⟩, ⟨(some 16), (.len false (.t 15)), [7], none⟩, ⟨(some 17), (.ibin .i64 .add (.t 13) (.t 16)), [5, 8], none⟩,
  ⟨(some 1), (.mov (.t 17)), [9, 0, 1, 2, 3, 4, 5, 6, 7, 8, 9], none⟩]) (.seq (some [1]) (.seq none (.region false [⟨(some 7), (.mov (.k (.one (.d (.int .i64 0))))), [], none⟩]) (.block 0 (.loop [1,
  2, 3, 7] lb34_0))) j34_2)))⟩
theorem c34 : compFunc Tryd.prog [none, none, some [1], none, some [1, 2, 3, 7], some [1, 2, 3, 7], none, some [1, 2, 3, 7], none] Tryd.f34 = some sf34 := by kernel_rfl
/-! (*sortilege/printer.writer).expr -/
def j35_2 : SCode :=
  (.seq none (.region false [⟨(some 115), (.mov (.t 0)), [], none⟩, ⟨(some 116), (.lit 9 1 [(.k (.one (.d (.str ⟨#[32, 61, 32]⟩))))]), [], none⟩, ⟨(some 117), (.call 48 [(.t 115), (.t 116)]), [0, 1],
  none⟩]) (.seq none (.region false [⟨(some 118), (.mov (.t 0)), [], none⟩, ⟨(some 119), (.faddr 5 (.t 4)), [], none⟩, ⟨(some 120), (.load false 1 (.t 119)), [1], none⟩, ⟨(some 121),
  (.iaddr 8 (.t 120) (.k (.one (.d (.int .i64 0))))), [2], none⟩, ⟨(some 122), (.load true 8 (.t 121)), [3], none⟩, ⟨(some 123), (.call 35 [(.t 118), (.t 122), (.k (.one (.d (.int .i64 0))))]), [0,
  4], none⟩]) (.seq none (.region false [⟨(some 124), (.mov (.t 0)), [], none⟩, ⟨(some 125), (.lit 9 1 [(.k (.one (.d (.str ⟨#[32, 105, 110, 32]⟩))))]), [], none⟩, ⟨(some 126), (.call 48 [(.t 124),
  (.t 125)]), [0, 1], none⟩]) (.region false [⟨(some 127), (.mov (.t 0)), [], none⟩, ⟨(some 128), (.faddr 5 (.t 4)), [], none⟩, ⟨(some 129), (.load false 1 (.t 128)), [1], none⟩, ⟨(some 130),
  (.iaddr 8 (.t 129) (.k (.one (.d (.int .i64 1))))), [2], none⟩, ⟨(some 131), (.load true 8 (.t 130)), [3], none⟩, ⟨(some 132), (.call 35 [(.t 127), (.t 131), (.k (.one (.d (.int .i64 0))))]), [0,
  4], none⟩]))))
def j35_4 : SCode :=
  (.seq none (.region false [⟨(some 260), (.mov (.t 0)), [], none⟩, ⟨(some 261), (.mov (.t 6)), [], none⟩, ⟨(some 262), (.faddr 4 (.t 4)), [], none⟩, ⟨(some 263), (.load false 1 (.t 262)), [2], none⟩,
  ⟨(some 264), (.mov (.t 7)), [], none⟩, ⟨(some 265), (.iaddr 1 (.t 263) (.t 264)), [3, 4], none⟩, ⟨(some 266), (.load false 1 (.t 265)), [5], none⟩, ⟨(some 267), (.callv (.t 261) [(.t 266)]), [1, 6],
  none⟩, ⟨(some 268), (.lit 9 1 [(.t 267), (.k (.one (.d (.str ⟨#[58, 32]⟩))))]), [7], none⟩, ⟨(some 269), (.call 48 [(.t 260), (.t 268)]), [0, 8, 7], none⟩]) (.region false [⟨(some 270),
  (.mov (.t 0)), [], none⟩, ⟨(some 271), (.load true 8 (.t 8)), [], none⟩, ⟨(some 272), (.call 35 [(.t 270), (.t 271), (.k (.one (.d (.int .i64 0))))]), [0, 1], none⟩]))
def j35_5 : SCode :=
  (.region false [⟨(some 273), (.ibin .i64 .add (.t 247) (.k (.one (.d (.int .i64 1))))), [], none⟩, ⟨(some 247), (.mov (.t 273)), [0], none⟩])
def j35_3 : SCode :=
  (.seq (some [0, 4, 6, 245, 246, 247]) (.block 2 (.seq none (.region false [⟨(some 249), (.mov (.t 247)), [], none⟩, ⟨(some 250), (.iaddr 8 (.t 245) (.t 247)), [], none⟩, ⟨(some 251),
  (.load true 8 (.t 250)), [1], none⟩, ⟨(some 8), (.alloc [(.int .i64), (.int .i64), .str, (.lst 1), (.lst 1), (.lst 8), (.int .i64), (.int .i64)] [(.d (.int .i64 0)), (.d (.int .i64 0)),
  (.d (.str ⟨#[]⟩)), (.nilL 1), (.nilL 1), (.nilL 8), (.d (.int .i64 0)), (.d (.int .i64 0))]), [], none⟩, ⟨(some 7), (.mov (.t 249)), [0, 0, 1, 2, 3], none⟩, ⟨none, (.store 8 (.t 8) (.t 251)), [3, 2,
  4, 0, 1, 2, 3, 4], none⟩]) (.seq (some [0, 4, 6, 7, 8, 245, 246, 247]) (.seq none (.region false [⟨(some 252), (.mov (.t 7)), [], none⟩, ⟨(some 253),
  (.ibin .i64 .eql (.t 252) (.k (.one (.d (.int .i64 0))))), [0], none⟩]) (.cond (.t 253) (.region false [⟨(some 254), (.mov (.t 0)), [], none⟩, ⟨(some 255), (.lit 9 1 [(.k (.one (.d (.str ⟨#[112,
  105, 99, 107, 32, 123, 32]⟩))))]), [], none⟩, ⟨(some 256), (.call 48 [(.t 254), (.t 255)]), [0, 1], none⟩]) (.region false [⟨(some 257), (.mov (.t 0)), [], none⟩, ⟨(some 258),
  (.lit 9 1 [(.k (.one (.d (.str ⟨#[44, 32]⟩))))]), [], none⟩, ⟨(some 259), (.call 48 [(.t 257), (.t 258)]), [0, 1], none⟩]))) j35_4))) j35_5)
def lb35_0 : SCode :=
  (.seq none (.region false [⟨(some 248), (.ibin .i64 .lss (.t 247) (.t 246)), [], none⟩]) (.seq (some [0, 4, 6, 245, 246, 247]) (.cond (.t 248) .skip (.exit 1)) j35_3))
def j35_6 : SCode :=
  (.region false [⟨(some 274), (.mov (.t 0)), [], none⟩, ⟨(some 275), (.lit 9 1 [(.k (.one (.d (.str ⟨#[32, 125]⟩))))]), [], none⟩, ⟨(some 276), (.call 48 [(.t 274), (.t 275)]), [0, 1], none⟩])
def j35_1 : SCode :=
  (.seq none (.region false [⟨(some 6), (.mov (.k (.one (.fn 59 [])))), [], none⟩]) (.seq none (.region false [⟨(some 23), (.faddr 0 (.t 4)), [], none⟩, ⟨(some 24), (.load false 1 (.t 23)), [0],
  none⟩]) (.block 0 (.seq none (.region false [⟨(some 26), (.ibin .i64 .eql (.t 24) (.k (.one (.d (.int .i64 1))))), [], none⟩, ⟨(some 25), (.mov (.t 26)), [0],
  none⟩]) (.cond (.t 25) (.region false [⟨(some 27), (.mov (.t 0)), [], none⟩, ⟨(some 28), (.mov (.t 6)), [], none⟩, ⟨(some 29), (.faddr 1 (.t 4)), [], none⟩, ⟨(some 30), (.load false 1 (.t 29)), [2],
  none⟩, ⟨(some 31), (.callv (.t 28) [(.t 30)]), [1, 3], none⟩, ⟨(some 32), (.lit 9 1 [(.t 31)]), [4], none⟩, ⟨(some 33), (.call 48 [(.t 27), (.t 32)]), [0, 5, 4],
  none⟩]) (.seq none (.region false [⟨(some 35), (.ibin .i64 .eql (.t 24) (.k (.one (.d (.int .i64 2))))), [], none⟩, ⟨(some 34), (.mov (.t 35)), [0],
  none⟩]) (.cond (.t 34) (.region false [⟨(some 36), (.mov (.t 0)), [], none⟩, ⟨(some 37), (.faddr 1 (.t 4)), [], none⟩, ⟨(some 38), (.load false 1 (.t 37)), [1], none⟩, ⟨(some 39),
  (.ibin .i64 .eql (.t 38) (.k (.one (.d (.int .i64 1))))), [2], none⟩, ⟨(some 40), (.call 60 [(.t 39)]), [3], none⟩, ⟨(some 41), (.lit 9 1 [(.t 40)]), [4], none⟩, ⟨(some 42), (.call 48 [(.t 36),
  (.t 41)]), [0, 5, 4], none⟩]) (.seq none (.region false [⟨(some 44), (.ibin .i64 .eql (.t 24) (.k (.one (.d (.int .i64 3))))), [], none⟩, ⟨(some 43), (.mov (.t 44)), [0],
  none⟩]) (.cond (.t 43) (.region false [⟨(some 45), (.mov (.t 0)), [], none⟩, ⟨(some 46), (.faddr 2 (.t 4)), [], none⟩, ⟨(some 47), (.load false 1 (.t 46)), [1], none⟩, ⟨(some 48),
  (.lit 9 1 [(.t 47)]), [2], none⟩, ⟨(some 49), (.call 48 [(.t 45), (.t 48)]), [0, 3], none⟩]) (.seq none (.region false [⟨(some 51), (.ibin .i64 .eql (.t 24) (.k (.one (.d (.int .i64 4))))), [],
  none⟩, ⟨(some 50), (.mov (.t 51)), [0], none⟩]) (.cond (.t 50) (.seq none (.region false [⟨(some 52), (.mov (.t 0)), [], none⟩, ⟨(some 53), (.faddr 2 (.t 4)), [], none⟩, ⟨(some 54),
  (.load false 1 (.t 53)), [1], none⟩, ⟨(some 55), (.lit 9 1 [(.t 54), (.k (.one (.d (.str ⟨#[40]⟩))))]), [2], none⟩, ⟨(some 56), (.call 48 [(.t 52), (.t 55)]), [0, 3],
  none⟩]) (.seq none (.region false [⟨(some 57), (.mov (.t 0)), [], none⟩, ⟨(some 58), (.faddr 5 (.t 4)), [], none⟩, ⟨(some 59), (.load false 1 (.t 58)), [1], none⟩, ⟨(some 60), (.call 61 [(.t 57),
  (.t 59)]), [0, 2], none⟩]) (.region false [⟨(some 61), (.mov (.t 0)), [], none⟩, ⟨(some 62), (.lit 9 1 [(.k (.one (.d (.str ⟨#[41]⟩))))]), [], none⟩, ⟨(some 63), (.call 48 [(.t 61), (.t 62)]), [0,
  1], none⟩]))) (.seq none (.region false [⟨(some 65), (.ibin .i64 .eql (.t 24) (.k (.one (.d (.int .i64 5))))), [], none⟩, ⟨(some 64), (.mov (.t 65)), [0],
  none⟩]) (.cond (.t 64) (.seq none (.region false [⟨(some 66), (.mov (.t 0)), [], none⟩, ⟨(some 67), (.lit 9 1 [(.k (.one (.d (.str ⟨#[40]⟩))))]), [], none⟩, ⟨(some 68), (.call 48 [(.t 66),
  (.t 67)]), [0, 1], none⟩]) (.seq none (.region false [⟨(some 69), (.mov (.t 0)), [], none⟩, ⟨(some 70), (.faddr 5 (.t 4)), [], none⟩, ⟨(some 71), (.load false 1 (.t 70)), [1], none⟩, ⟨(some 72),
  (.call 61 [(.t 69), (.t 71)]), [0, 2], none⟩]) (.region false [⟨(some 73), (.mov (.t 0)), [], none⟩, ⟨(some 74), (.lit 9 1 [(.k (.one (.d (.str ⟨#[41]⟩))))]), [], none⟩, ⟨(some 75),
  (.call 48 [(.t 73), (.t 74)]), [0, 1], none⟩]))) (.seq none (.region false [⟨(some 77), (.ibin .i64 .eql (.t 24) (.k (.one (.d (.int .i64 6))))), [], none⟩, ⟨(some 76), (.mov (.t 77)), [0],
  none⟩]) (.cond (.t 76) (.seq none (.region false [⟨(some 78), (.mov (.t 0)), [], none⟩, ⟨(some 79), (.lit 9 1 [(.k (.one (.d (.str ⟨#[91]⟩))))]), [], none⟩, ⟨(some 80), (.call 48 [(.t 78),
  (.t 79)]), [0, 1], none⟩]) (.seq none (.region false [⟨(some 81), (.mov (.t 0)), [], none⟩, ⟨(some 82), (.faddr 5 (.t 4)), [], none⟩, ⟨(some 83), (.load false 1 (.t 82)), [1], none⟩, ⟨(some 84),
  (.call 61 [(.t 81), (.t 83)]), [0, 2], none⟩]) (.region false [⟨(some 85), (.mov (.t 0)), [], none⟩, ⟨(some 86), (.lit 9 1 [(.k (.one (.d (.str ⟨#[93]⟩))))]), [], none⟩, ⟨(some 87),
  (.call 48 [(.t 85), (.t 86)]), [0, 1], none⟩]))) (.seq none (.region false [⟨(some 89), (.ibin .i64 .eql (.t 24) (.k (.one (.d (.int .i64 7))))), [], none⟩, ⟨(some 88), (.mov (.t 89)), [0],
  none⟩]) (.cond (.t 88) (.region false [⟨(some 90), (.mov (.t 0)), [], none⟩, ⟨(some 91), (.load true 8 (.t 4)), [], none⟩, ⟨(some 92), (.call 62 [(.t 90), (.t 91)]), [0, 1],
  none⟩]) (.seq none (.region false [⟨(some 94), (.ibin .i64 .eql (.t 24) (.k (.one (.d (.int .i64 8))))), [], none⟩, ⟨(some 93), (.mov (.t 94)), [0],
  none⟩]) (.cond (.t 93) (.seq none (.region false [⟨(some 95), (.mov (.t 0)), [], none⟩, ⟨(some 96), (.lit 9 1 [(.k (.one (.d (.str ⟨#[108, 101, 116, 32]⟩))))]), [], none⟩, ⟨(some 97),
  (.call 48 [(.t 95), (.t 96)]), [0, 1], none⟩]) (.seq (some [0, 4]) (.seq none (.region false [⟨(some 98), (.faddr 3 (.t 4)), [], none⟩, ⟨(some 99), (.load false 1 (.t 98)), [0], none⟩, ⟨(some 100),
  (.len false (.t 99)), [1], none⟩, ⟨(some 101), (.ibin .i64 .eql (.t 100) (.k (.one (.d (.int .i64 1))))), [2], none⟩]) (.cond (.t 101) (.region false [⟨(some 102), (.mov (.t 0)), [], none⟩,
  ⟨(some 103), (.faddr 3 (.t 4)), [], none⟩, ⟨(some 104), (.load false 1 (.t 103)), [1], none⟩, ⟨(some 105), (.iaddr 1 (.t 104) (.k (.one (.d (.int .i64 0))))), [2], none⟩, ⟨(some 106),
  (.load false 1 (.t 105)), [3], none⟩, ⟨(some 107), (.lit 9 1 [(.t 106)]), [4], none⟩, ⟨(some 108), (.call 48 [(.t 102), (.t 107)]), [0, 5], none⟩]) (.region false [⟨(some 109), (.mov (.t 0)), [],
  none⟩, ⟨(some 110), (.faddr 3 (.t 4)), [], none⟩, ⟨(some 111), (.load false 1 (.t 110)), [1], none⟩, ⟨(some 112), (.call 43 [(.t 111), (.k (.one (.d (.str ⟨#[44, 32]⟩))))]), [2], none⟩, ⟨(some 113),
  (.lit 9 1 [(.k (.one (.d (.str ⟨#[40]⟩)))), (.t 112), (.k (.one (.d (.str ⟨#[41]⟩))))]), [3], none⟩, ⟨(some 114), (.call 48 [(.t 109), (.t 113)]), [0, 4, 3],
  none⟩]))) j35_2)) (.seq none (.region false [⟨(some 134), (.ibin .i64 .eql (.t 24) (.k (.one (.d (.int .i64 9))))), [], none⟩, ⟨(some 133), (.mov (.t 134)), [0],
  none⟩]) (.cond (.t 133) (.seq none (.region false [⟨(some 135), (.mov (.t 0)), [], none⟩, ⟨(some 136), (.lit 9 1 [(.k (.one (.d (.str ⟨#[105, 102, 32]⟩))))]), [], none⟩, ⟨(some 137),
  (.call 48 [(.t 135), (.t 136)]), [0, 1], none⟩]) (.seq none (.region false [⟨(some 138), (.mov (.t 0)), [], none⟩, ⟨(some 139), (.faddr 5 (.t 4)), [], none⟩, ⟨(some 140), (.load false 1 (.t 139)),
  [1], none⟩, ⟨(some 141), (.iaddr 8 (.t 140) (.k (.one (.d (.int .i64 0))))), [2], none⟩, ⟨(some 142), (.load true 8 (.t 141)), [3], none⟩, ⟨(some 143), (.call 35 [(.t 138), (.t 142),
  (.k (.one (.d (.int .i64 0))))]), [0, 4], none⟩]) (.seq none (.region false [⟨(some 144), (.mov (.t 0)), [], none⟩, ⟨(some 145), (.lit 9 1 [(.k (.one (.d (.str ⟨#[32, 116, 104, 101, 110, 32]⟩))))]),
  [], none⟩, ⟨(some 146), (.call 48 [(.t 144), (.t 145)]), [0, 1], none⟩]) (.seq none (.region false [⟨(some 147), (.mov (.t 0)), [], none⟩, ⟨(some 148), (.faddr 5 (.t 4)), [], none⟩, ⟨(some 149),
  (.load false 1 (.t 148)), [1], none⟩, ⟨(some 150), (.iaddr 8 (.t 149) (.k (.one (.d (.int .i64 1))))), [2], none⟩, ⟨(some 151), (.load true 8 (.t 150)), [3], none⟩, ⟨(some 152), (.call 35 [(.t 147),
  (.t 151), (.k (.one (.d (.int .i64 0))))]), [0, 4], none⟩]) (.seq none (.region false [⟨(some 153), (.mov (.t 0)), [], none⟩, ⟨(some 154), (.lit 9 1 [(.k (.one (.d (.str ⟨#[32, 101, 108, 115, 101,
  32]⟩))))]), [], none⟩, ⟨(some 155), (.call 48 [(.t 153), (.t 154)]), [0, 1], none⟩]) (.region false [⟨(some 156), (.mov (.t 0)), [], none⟩, ⟨(some 157), (.faddr 5 (.t 4)), [], none⟩, ⟨(some 158),
  (.load false 1 (.t 157)), [1], none⟩, ⟨(some 159), (.iaddr 8 (.t 158) (.k (.one (.d (.int .i64 2))))), [2], none⟩, ⟨(some 160), (.load true 8 (.t 159)), [3], none⟩, ⟨(some 161), (.call 35 [(.t 156),
  (.t 160), (.k (.one (.d (.int .i64 0))))]), [0, 4], none⟩])))))) (.seq none (.region false [⟨(some 163), (.ibin .i64 .eql (.t 24) (.k (.one (.d (.int .i64 10))))), [], none⟩, ⟨(some 162),
  (.mov (.t 163)), [0], none⟩]) (.cond (.t 162) (.seq none (.region false [⟨(some 164), (.mov (.t 0)), [], none⟩, ⟨(some 165), (.lit 9 1 [(.k (.one (.d (.str ⟨#[99, 97, 115, 101, 32]⟩))))]), [],
  none⟩, ⟨(some 166), (.call 48 [(.t 164), (.t 165)]), [0, 1], none⟩]) (.seq none (.region false [⟨(some 167), (.mov (.t 0)), [], none⟩, ⟨(some 168), (.faddr 5 (.t 4)), [], none⟩, ⟨(some 169),
  (.load false 1 (.t 168)), [1], none⟩, ⟨(some 170), (.iaddr 8 (.t 169) (.k (.one (.d (.int .i64 0))))), [2], none⟩, ⟨(some 171), (.load true 8 (.t 170)), [3], none⟩, ⟨(some 172), (.call 35 [(.t 167),
  (.t 171), (.k (.one (.d (.int .i64 0))))]), [0, 4], none⟩]) (.seq none (.region false [⟨(some 173), (.mov (.t 0)), [], none⟩, ⟨(some 174), (.lit 9 1 [(.k (.one (.d (.str ⟨#[32, 111, 102, 32, 91, 93,
  32, 61, 62, 32]⟩))))]), [], none⟩, ⟨(some 175), (.call 48 [(.t 173), (.t 174)]), [0, 1], none⟩]) (.seq none (.region false [⟨(some 176), (.mov (.t 0)), [], none⟩, ⟨(some 177), (.faddr 5 (.t 4)), [],
  none⟩, ⟨(some 178), (.load false 1 (.t 177)), [1], none⟩, ⟨(some 179), (.iaddr 8 (.t 178) (.k (.one (.d (.int .i64 1))))), [2], none⟩, ⟨(some 180), (.load true 8 (.t 179)), [3], none⟩, ⟨(some 181),
  (.call 35 [(.t 176), (.t 180), (.k (.one (.d (.int .i64 0))))]), [0, 4], none⟩]) (.seq none (.region true [⟨(some 182), (.mov (.t 0)), [], none⟩, ⟨(some 183), (.faddr 3 (.t 4)), [], none⟩,
  ⟨(some 184), (.load false 1 (.t 183)), [1], none⟩, ⟨(some 185), (.iaddr 1 (.t 184) (.k (.one (.d (.int .i64 0))))), [2], none⟩, ⟨(some 186), (.load false 1 (.t 185)), [3], none⟩, ⟨(some 187),
  (.faddr 3 (.t 4)), [], none⟩, ⟨(some 188), (.load false 1 (.t 187)), [5], none⟩, ⟨(some 189), (.iaddr 1 (.t 188) (.k (.one (.d (.int .i64 1))))), [6], none⟩, ⟨(some 190), (.load false 1 (.t 189)),
  [7], none⟩, ⟨(some 191), (.lit 9 1 [(.k (.one (.d (.str ⟨#[32, 124, 32]⟩)))), (.t 186), (.k (.one (.d (.str ⟨#[32, 58, 58, 32]⟩)))), (.t 190), (.k (.one (.d (.str ⟨#[32, 61, 62, 32]⟩))))]), [4, 8],
  none⟩, ⟨(some 192), (.call 48 [(.t 182), (.t 191)]), [0, 9], none⟩]) (.region false [⟨(some 193), (.mov (.t 0)), [], none⟩, ⟨(some 194), (.faddr 5 (.t 4)), [], none⟩, ⟨(some 195),
  (.load false 1 (.t 194)), [1], none⟩, ⟨(some 196), (.iaddr 8 (.t 195) (.k (.one (.d (.int .i64 2))))), [2], none⟩, ⟨(some 197), (.load true 8 (.t 196)), [3], none⟩, ⟨(some 198), (.call 35 [(.t 193),
  (.t 197), (.k (.one (.d (.int .i64 0))))]), [0, 4], none⟩])))))) (.seq none (.region false [⟨(some 200), (.ibin .i64 .eql (.t 24) (.k (.one (.d (.int .i64 11))))), [], none⟩, ⟨(some 199),
  (.mov (.t 200)), [0], none⟩]) (.cond (.t 199) (.seq none (.region false [⟨(some 201), (.mov (.t 0)), [], none⟩, ⟨(some 202), (.lit 9 1 [(.k (.one (.d (.str ⟨#[111, 98, 115, 101, 114, 118, 101,
  32]⟩))))]), [], none⟩, ⟨(some 203), (.call 48 [(.t 201), (.t 202)]), [0, 1], none⟩]) (.seq none (.region false [⟨(some 204), (.mov (.t 0)), [], none⟩, ⟨(some 205), (.faddr 5 (.t 4)), [], none⟩,
  ⟨(some 206), (.load false 1 (.t 205)), [1], none⟩, ⟨(some 207), (.iaddr 8 (.t 206) (.k (.one (.d (.int .i64 0))))), [2], none⟩, ⟨(some 208), (.load true 8 (.t 207)), [3], none⟩, ⟨(some 209),
  (.call 35 [(.t 204), (.t 208), (.k (.one (.d (.int .i64 0))))]), [0, 4], none⟩]) (.seq none (.region false [⟨(some 210), (.mov (.t 0)), [], none⟩, ⟨(some 211), (.lit 9 1 [(.k (.one (.d (.str ⟨#[32,
  105, 110, 32]⟩))))]), [], none⟩, ⟨(some 212), (.call 48 [(.t 210), (.t 211)]), [0, 1], none⟩]) (.region false [⟨(some 213), (.mov (.t 0)), [], none⟩, ⟨(some 214), (.faddr 5 (.t 4)), [], none⟩,
  ⟨(some 215), (.load false 1 (.t 214)), [1], none⟩, ⟨(some 216), (.iaddr 8 (.t 215) (.k (.one (.d (.int .i64 1))))), [2], none⟩, ⟨(some 217), (.load true 8 (.t 216)), [3], none⟩, ⟨(some 218),
  (.call 35 [(.t 213), (.t 217), (.k (.one (.d (.int .i64 0))))]), [0, 4], none⟩])))) (.seq none (.region false [⟨(some 220), (.ibin .i64 .eql (.t 24) (.k (.one (.d (.int .i64 12))))), [], none⟩,
  ⟨(some 219), (.mov (.t 220)), [0], none⟩]) (.cond (.t 219) (.seq none (.region true [⟨(some 221), (.mov (.t 0)), [], none⟩, ⟨(some 222), (.mov (.t 6)), [], none⟩, ⟨(some 223), (.faddr 4 (.t 4)), [],
  none⟩, ⟨(some 224), (.load false 1 (.t 223)), [2], none⟩, ⟨(some 225), (.iaddr 1 (.t 224) (.k (.one (.d (.int .i64 0))))), [3], none⟩, ⟨(some 226), (.load false 1 (.t 225)), [4], none⟩, ⟨(some 227),
  (.callv (.t 222) [(.t 226)]), [1, 5], none⟩, ⟨(some 228), (.mov (.t 6)), [], none⟩, ⟨(some 229), (.faddr 4 (.t 4)), [], none⟩, ⟨(some 230), (.load false 1 (.t 229)), [8], none⟩, ⟨(some 231),
  (.iaddr 1 (.t 230) (.k (.one (.d (.int .i64 1))))), [9], none⟩, ⟨(some 232), (.load false 1 (.t 231)), [10], none⟩, ⟨(some 233), (.callv (.t 228) [(.t 232)]), [7, 11, 6], none⟩, ⟨(some 234),
  (.lit 9 1 [(.k (.one (.d (.str ⟨#[115, 99, 111, 114, 101, 32]⟩)))), (.t 227), (.k (.one (.d (.str ⟨#[47]⟩)))), (.t 233), (.k (.one (.d (.str ⟨#[32, 105, 110, 32]⟩))))]), [6, 12], none⟩, ⟨(some 235),
  (.call 48 [(.t 221), (.t 234)]), [0, 13, 12], none⟩]) (.region false [⟨(some 236), (.mov (.t 0)), [], none⟩, ⟨(some 237), (.faddr 5 (.t 4)), [], none⟩, ⟨(some 238), (.load false 1 (.t 237)), [1],
  none⟩, ⟨(some 239), (.iaddr 8 (.t 238) (.k (.one (.d (.int .i64 0))))), [2], none⟩, ⟨(some 240), (.load true 8 (.t 239)), [3], none⟩, ⟨(some 241), (.call 35 [(.t 236), (.t 240),
  (.k (.one (.d (.int .i64 0))))]), [0, 4], none⟩])) (.seq none (.region false [⟨(some 243), (.ibin .i64 .eql (.t 24) (.k (.one (.d (.int .i64 13))))), [], none⟩, ⟨(some 242), (.mov (.t 243)), [0],
  none⟩]) (.cond (.t 242) (.seq (some [0]) (.seq none (.region false [⟨(some 244), (.faddr 5 (.t 4)), [], none⟩, ⟨(some 245), (.load false 1 (.t 244)), [0], none⟩, ⟨(some 246), (.len false (.t 245)),
  [1], none⟩, ⟨(some 247), (.mov (.k (.one (.d (.int .i64 0))))), [], none⟩]) (.block 1 (.loop [0, 4, 6, 245, 246, 247] lb35_0))) j35_6) (.seq none (.region false [⟨(some 278),
  (.ibin .i64 .eql (.t 24) (.k (.one (.d (.int .i64 14))))), [], none⟩, ⟨(some 277), (.mov (.t 278)), [0], none⟩]) (.cond (.t 277) (.region true [⟨(some 279), (.mov (.t 0)), [], none⟩, ⟨(some 280),
  (.mov (.t 6)), [], none⟩, ⟨(some 281), (.faddr 4 (.t 4)), [], none⟩, ⟨(some 282), (.load false 1 (.t 281)), [2], none⟩, ⟨(some 283), (.iaddr 1 (.t 282) (.k (.one (.d (.int .i64 0))))), [3], none⟩,
  ⟨(some 284), (.load false 1 (.t 283)), [4], none⟩, ⟨(some 285), (.callv (.t 280) [(.t 284)]), [1, 5], none⟩, ⟨(some 286), (.mov (.t 6)), [], none⟩, ⟨(some 287), (.faddr 4 (.t 4)), [], none⟩,
  ⟨(some 288), (.load false 1 (.t 287)), [8], none⟩, ⟨(some 289), (.iaddr 1 (.t 288) (.k (.one (.d (.int .i64 1))))), [9], none⟩, ⟨(some 290), (.load false 1 (.t 289)), [10], none⟩, ⟨(some 291),
  (.callv (.t 286) [(.t 290)]), [7, 11, 6], none⟩, ⟨(some 292), (.lit 9 1 [(.k (.one (.d (.str ⟨#[102, 108, 105, 112, 40]⟩)))), (.t 285), (.k (.one (.d (.str ⟨#[47]⟩)))), (.t 291),
  (.k (.one (.d (.str ⟨#[41]⟩))))]), [6, 12], none⟩, ⟨(some 293), (.call 48 [(.t 279), (.t 292)]), [0, 13, 12], none⟩]) (.seq none (.region false [⟨(some 295),
  (.ibin .i64 .eql (.t 24) (.k (.one (.d (.int .i64 15))))), [], none⟩, ⟨(some 294), (.mov (.t 295)), [0], none⟩]) (.cond (.t 294) (.region true [⟨(some 296), (.mov (.t 0)), [], none⟩, ⟨(some 297),
  (.mov (.t 6)), [], none⟩, ⟨(some 298), (.faddr 4 (.t 4)), [], none⟩, ⟨(some 299), (.load false 1 (.t 298)), [2], none⟩, ⟨(some 300), (.iaddr 1 (.t 299) (.k (.one (.d (.int .i64 0))))), [3], none⟩,
  ⟨(some 301), (.load false 1 (.t 300)), [4], none⟩, ⟨(some 302), (.callv (.t 297) [(.t 301)]), [1, 5], none⟩, ⟨(some 303), (.mov (.t 6)), [], none⟩, ⟨(some 304), (.faddr 4 (.t 4)), [], none⟩,
  ⟨(some 305), (.load false 1 (.t 304)), [8], none⟩, ⟨(some 306), (.iaddr 1 (.t 305) (.k (.one (.d (.int .i64 1))))), [9], none⟩, ⟨(some 307), (.load false 1 (.t 306)), [10], none⟩, ⟨(some 308),
  (.callv (.t 303) [(.t 307)]), [7, 11, 6], none⟩, ⟨(some 309), (.lit 9 1 [(.k (.one (.d (.str ⟨#[114, 97, 110, 103, 101, 40]⟩)))), (.t 302), (.k (.one (.d (.str ⟨#[44, 32]⟩)))), (.t 308),
  (.k (.one (.d (.str ⟨#[41]⟩))))]), [6, 12], none⟩, ⟨(some 310), (.call 48 [(.t 296), (.t 309)]), [0, 13, 12], none⟩]) .skip)))))))))))))))))))))))))))))))))
def j35_0 : SCode :=
  (.seq (some [0, 4]) (.seq none (.region false [⟨(some 14), (.load true 8 (.t 4)), [], none⟩, ⟨(some 15), (.call 58 [(.t 14)]), [0], none⟩, ⟨(some 16), (.mov (.t 2)), [], none⟩, ⟨(some 17),
  (.ibin .i64 .lss (.t 15) (.t 16)), [1, 2], none⟩]) (.cond (.t 17) (.seq none (.region false [⟨(some 18), (.mov (.t 0)), [], none⟩, ⟨(some 19), (.lit 9 1 [(.k (.one (.d (.str ⟨#[40]⟩))))]), [],
  none⟩, ⟨(some 20), (.call 48 [(.t 18), (.t 19)]), [0, 1], none⟩]) (.region false [⟨(some 21), (.mov (.t 0)), [], none⟩, ⟨(some 22), (.lit 9 1 [(.k (.one (.d (.str ⟨#[41]⟩))))]), [], none⟩, ⟨none,
  (.dfr 48 [(.t 21), (.t 22)]), [0, 1], none⟩])) .skip)) j35_1)
def sf35 : SFunc :=
  ⟨3, [], (.seq none (.region false [⟨(some 4), (.box [(.int .i64), (.int .i64), .str, (.lst 1), (.lst 1), (.lst 8), (.int .i64), (.int .i64)] (.t 1)), [], none⟩]) (.seq (some [0, 2,
  4]) (.seq none (.region false [⟨(some 9), (.mov (.t 0)), [], none⟩, ⟨(some 10), (.nchk (.t 9)), [0], none⟩, ⟨(some 11), (.faddr 0 (.t 10)), [1], none⟩, ⟨(some 12), (.call 57 [(.t 11)]), [2], none⟩,
  ⟨(some 13), (.ibin .i64 .gtr (.t 12) (.k (.one (.d (.int .i64 20000))))), [3], none⟩]) (.cond (.t 13) .ret .skip)) j35_0))⟩
theorem c35 : compFunc Tryd.prog [none, some [0, 2, 4], none, some [0, 4], none, none, none, none, none, none, none, none, none, none, none, none, none, none, none, none, none, none, none, some [0, 4], none, none, none, none, none, none, none, none, none, none, none, none, none, none, none, none, none, none, none, none, none, none, none, some [0], none, some [0, 4, 6, 245, 246, 247], none, some [0, 4, 6, 245, 246, 247], some [0, 4, 6, 245, 246, 247], none, some [0, 4, 6, 7, 8, 245, 246, 247], none, none, none, none] Tryd.f35 = some sf35 := by kernel_rfl
/-! (*sortilege/printer.writer).told -/
def j36_0 : SCode :=
  (.seq none (.region false [⟨(some 9), (.mov (.t 0)), [], none⟩, ⟨(some 10), (.nchk (.t 9)), [0], none⟩, ⟨(some 11), (.faddr 0 (.t 10)), [1], none⟩, ⟨(some 12), (.call 63 [(.t 11)]), [2], none⟩,
  ⟨(some 2), (.mov (.t 12)), [3, 3, 0, 1, 2, 3], none⟩, ⟨(some 3), (.mov (.k (.one (.d (.int .i64 0))))), [4, 0, 1, 2, 3, 4], none⟩]) .ret)
def sf36 : SFunc :=
  ⟨1, [(.tmp 2), (.tmp 3)], (.seq none (.region false [⟨(some 2), (.mov (.k (.one (.d (.str ⟨#[]⟩))))), [], none⟩, ⟨(some 3), (.mov (.k (.one (.d (.int .i64 0))))), [0],
  none⟩]) (.seq (some [0]) (.seq none (.region false [⟨(some 4), (.mov (.t 0)), [], none⟩, ⟨(some 5), (.nchk (.t 4)), [0], none⟩, ⟨(some 6), (.faddr 0 (.t 5)), [1], none⟩, ⟨(some 7),
  (.call 57 [(.t 6)]), [2], none⟩, ⟨(some 8), (.ibin .i64 .gtr (.t 7) (.k (.one (.d (.int .i64 20000))))), [3], none⟩]) (.cond (.t 8) (.seq none (.region false [⟨(some 2),
  (.mov (.k (.one (.d (.str ⟨#[]⟩))))), [], none⟩, ⟨(some 3), (.mov (.k (.one (.d (.int .i64 2))))), [0, 0], none⟩]) .ret) .skip)) j36_0))⟩
theorem c36 : compFunc Tryd.prog [none, some [0], none, none, none] Tryd.f36 = some sf36 := by kernel_rfl
/-! sortilege/lexer.one -/
def j38_0 : SCode :=
  (.block 2 (.region false [⟨(some 33), (.mov (.t 4)), [], none⟩, ⟨(some 34), (.ibin .i64 .add (.t 33) (.k (.one (.d (.int .i64 1))))), [0], none⟩, ⟨(some 4), (.mov (.t 34)), [1, 0, 1], none⟩]))
def lb38_0 : SCode :=
  (.seq (some [0, 2, 4]) (.seq none (.region false [⟨(some 11), (.mov (.t 4)), [], none⟩, ⟨(some 12), (.mov (.t 0)), [], none⟩, ⟨(some 13), (.len true (.t 12)), [1], none⟩, ⟨(some 14),
  (.ibin .i64 .lss (.t 11) (.t 13)), [0, 2], none⟩, ⟨(some 15), (.mov (.t 14)), [3], none⟩, ⟨(some 16), (.mov (.t 0)), [4], (some (4, (15, true)))⟩, ⟨(some 17), (.mov (.t 4)), [4], (some (4, (15,
  true)))⟩, ⟨(some 18), (.chr (.t 16) (.t 17)), [5, 6, 4], (some (4, (15, true)))⟩, ⟨(some 19), (.call 70 [(.t 18)]), [7, 4, 4], (some (4, (15, true)))⟩, ⟨(some 20), (.mov (.t 19)), [8, 8, 4],
  (some (4, (15, true)))⟩, ⟨(some 21), (.mov (.t 0)), [9], (some (9, (20, false)))⟩, ⟨(some 22), (.mov (.t 4)), [9], (some (9, (20, false)))⟩, ⟨(some 23), (.chr (.t 21) (.t 22)), [10, 11, 9],
  (some (9, (20, false)))⟩, ⟨(some 24), (.call 71 [(.t 23)]), [12, 9, 9], (some (9, (20, false)))⟩, ⟨(some 25), (.pick (.t 20) (.k (.one (.d (.bool true)))) (.t 24)), [9, 13, 4], (some (4, (15,
  true)))⟩, ⟨(some 26), (.mov (.t 25)), [14, 13, 4], (some (4, (15, true)))⟩, ⟨(some 27), (.mov (.t 0)), [15], (some (15, (26, false)))⟩, ⟨(some 28), (.mov (.t 4)), [15], (some (15, (26, false)))⟩,
  ⟨(some 29), (.chr (.t 27) (.t 28)), [16, 17, 15], (some (15, (26, false)))⟩, ⟨(some 30), (.ibin .u8 .eql (.t 29) (.k (.one (.d (.int .u8 95))))), [18, 15], (some (15, (26, false)))⟩, ⟨(some 31),
  (.pick (.t 26) (.k (.one (.d (.bool true)))) (.t 30)), [15, 19, 4], (some (4, (15, true)))⟩, ⟨(some 32), (.pick (.t 15) (.t 31) (.k (.one (.d (.bool false))))), [4, 20],
  none⟩]) (.cond (.t 32) .skip (.exit 1))) j38_0)
def j38_3 : SCode :=
  (.seq none (.region false [⟨(some 51), (.mov (.t 0)), [], none⟩, ⟨(some 52), (.mov (.t 4)), [], none⟩, ⟨(some 53), (.sub (.t 51) none (some (.t 52))), [0, 1], none⟩, ⟨(some 54),
  (.build [(.d (.int .i64 0)), (.d (.str ⟨#[]⟩)), (.d (.int .i64 0)), (.d (.int .i64 0)), (.d (.int .i64 0))] [(0, (1, (.k (.one (.d (.int .i64 1)))))), (1, (1, (.t 53)))]), [2], none⟩, ⟨none,
  (.store 5 (.t 2) (.t 54)), [3, 0, 1, 2, 3], none⟩, ⟨(some 3), (.mov (.k (.one (.d (.int .i64 0))))), [4, 0, 1, 2, 3, 4], none⟩]) .ret)
def j38_2 : SCode :=
  (.seq (some [0, 2, 4]) (.seq none (.region false [⟨(some 41), (.mov (.t 0)), [], none⟩, ⟨(some 42), (.mov (.t 4)), [], none⟩, ⟨(some 43), (.sub (.t 41) none (some (.t 42))), [0, 1], none⟩, ⟨(some 44),
  (.sbin .add (.k (.one (.d (.str ⟨#[32]⟩)))) (.t 43)), [2], none⟩, ⟨(some 45), (.sbin .add (.t 44) (.k (.one (.d (.str ⟨#[32]⟩))))), [3], none⟩, ⟨(some 46), (.call 72 [(.k (.one (.d (.str ⟨#[32, 97,
  110, 100, 32, 98, 111, 111, 108, 32, 99, 97, 115, 101, 32, 101, 108, 115, 101, 32, 102, 97, 108, 115, 101, 32, 102, 108, 105, 112, 32, 102, 117, 110, 32, 105, 102, 32, 105, 110, 32, 105, 110, 112,
  117, 116, 32, 105, 110, 116, 32, 108, 101, 116, 32, 110, 111, 116, 32, 111, 98, 115, 101, 114, 118, 101, 32, 111, 102, 32, 111, 114, 32, 112, 105, 99, 107, 32, 114, 97, 110, 103, 101, 32, 115, 99,
  111, 114, 101, 32, 116, 104, 101, 110, 32, 116, 114, 117, 101, 32]⟩)))), (.t 45)]), [4], none⟩]) (.cond (.t 46) (.seq none (.region false [⟨(some 47), (.mov (.t 0)), [], none⟩, ⟨(some 48),
  (.mov (.t 4)), [], none⟩, ⟨(some 49), (.sub (.t 47) none (some (.t 48))), [0, 1], none⟩, ⟨(some 50), (.build [(.d (.int .i64 0)), (.d (.str ⟨#[]⟩)), (.d (.int .i64 0)), (.d (.int .i64 0)),
  (.d (.int .i64 0))] [(0, (1, (.k (.one (.d (.int .i64 2)))))), (1, (1, (.t 49)))]), [2], none⟩, ⟨none, (.store 5 (.t 2) (.t 50)), [3, 0, 1, 2, 3], none⟩, ⟨(some 3),
  (.mov (.k (.one (.d (.int .i64 0))))), [4, 0, 1, 2, 3, 4], none⟩]) .ret) .skip)) j38_3)
def j38_1 : SCode :=
  (.seq (some [0, 2, 4]) (.seq none (.region false [⟨(some 35), (.mov (.t 4)), [], none⟩, ⟨(some 36), (.ibin .i64 .gtr (.t 35) (.k (.one (.d (.int .i64 24))))), [0],
  none⟩]) (.cond (.t 36) (.seq none (.region false [⟨(some 37), (.mov (.t 0)), [], none⟩, ⟨(some 38), (.mov (.t 4)), [], none⟩, ⟨(some 39), (.sub (.t 37) none (some (.t 38))), [0, 1], none⟩,
  ⟨(some 40), (.build [(.d (.int .i64 0)), (.d (.str ⟨#[]⟩)), (.d (.int .i64 0)), (.d (.int .i64 0)), (.d (.int .i64 0))] [(1, (1, (.t 39)))]), [2], none⟩, ⟨none, (.store 5 (.t 2) (.t 40)), [3, 0, 1,
  2, 3], none⟩, ⟨(some 3), (.mov (.k (.one (.d (.int .i64 2))))), [4, 0, 1, 2, 3, 4], none⟩]) .ret) .skip)) j38_2)
def j38_5 : SCode :=
  (.region false [⟨(some 69), (.mov (.t 4)), [], none⟩, ⟨(some 70), (.ibin .i64 .add (.t 69) (.k (.one (.d (.int .i64 1))))), [0], none⟩, ⟨(some 4), (.mov (.t 70)), [1, 0, 1], none⟩])
def j38_4 : SCode :=
  (.seq (some [0, 2, 4, 5]) (.block 4 (.region false [⟨(some 71), (.mov (.t 5)), [], none⟩, ⟨(some 72), (.ibin .i64 .mul (.t 71) (.k (.one (.d (.int .i64 10))))), [0], none⟩, ⟨(some 73), (.mov (.t 0)),
  [], none⟩, ⟨(some 74), (.mov (.t 4)), [], none⟩, ⟨(some 75), (.chr (.t 73) (.t 74)), [2, 3], none⟩, ⟨(some 76), (.ibin .u8 .sub (.t 75) (.k (.one (.d (.int .u8 48))))), [4], none⟩, ⟨(some 77),
  (.conv .u8 .i64 (.t 76)), [5], none⟩, ⟨(some 78), (.ibin .i64 .add (.t 72) (.t 77)), [1, 6], none⟩, ⟨(some 79), (.mnmx false (.t 78) (.k (.one (.d (.int .i64 2147483648))))), [7], none⟩, ⟨(some 5),
  (.mov (.t 79)), [8, 0, 1, 2, 3, 4, 5, 6, 7, 8], none⟩])) j38_5)
def lb38_1 : SCode :=
  (.seq (some [0, 2, 4, 5]) (.seq none (.region false [⟨(some 59), (.mov (.t 4)), [], none⟩, ⟨(some 60), (.mov (.t 0)), [], none⟩, ⟨(some 61), (.len true (.t 60)), [1], none⟩, ⟨(some 62),
  (.ibin .i64 .lss (.t 59) (.t 61)), [0, 2], none⟩, ⟨(some 63), (.mov (.t 62)), [3], none⟩, ⟨(some 64), (.mov (.t 0)), [4], (some (4, (63, true)))⟩, ⟨(some 65), (.mov (.t 4)), [4], (some (4, (63,
  true)))⟩, ⟨(some 66), (.chr (.t 64) (.t 65)), [5, 6, 4], (some (4, (63, true)))⟩, ⟨(some 67), (.call 71 [(.t 66)]), [7, 4, 4], (some (4, (63, true)))⟩, ⟨(some 68),
  (.pick (.t 63) (.t 67) (.k (.one (.d (.bool false))))), [4, 8], none⟩]) (.cond (.t 68) .skip (.exit 3))) j38_4)
def j38_7 : SCode :=
  (.seq none (.region false [⟨(some 86), (.mov (.t 0)), [], none⟩, ⟨(some 87), (.mov (.t 4)), [], none⟩, ⟨(some 88), (.sub (.t 86) none (some (.t 87))), [0, 1], none⟩, ⟨(some 89), (.mov (.t 5)), [],
  none⟩, ⟨(some 90), (.build [(.d (.int .i64 0)), (.d (.str ⟨#[]⟩)), (.d (.int .i64 0)), (.d (.int .i64 0)), (.d (.int .i64 0))] [(0, (1, (.k (.one (.d (.int .i64 3)))))), (1, (1, (.t 88))), (2, (1,
  (.t 89)))]), [2, 3], none⟩, ⟨none, (.store 5 (.t 2) (.t 90)), [4, 0, 1, 2, 3, 4], none⟩, ⟨(some 3), (.mov (.k (.one (.d (.int .i64 0))))), [5, 0, 1, 2, 3, 4, 5], none⟩]) .ret)
def j38_6 : SCode :=
  (.seq (some [0, 2, 4, 5]) (.seq none (.region false [⟨(some 80), (.mov (.t 5)), [], none⟩, ⟨(some 81), (.ibin .i64 .gtr (.t 80) (.k (.one (.d (.int .i64 2147483647))))), [0],
  none⟩]) (.cond (.t 81) (.seq none (.region false [⟨(some 82), (.mov (.t 0)), [], none⟩, ⟨(some 83), (.mov (.t 4)), [], none⟩, ⟨(some 84), (.sub (.t 82) none (some (.t 83))), [0, 1], none⟩,
  ⟨(some 85), (.build [(.d (.int .i64 0)), (.d (.str ⟨#[]⟩)), (.d (.int .i64 0)), (.d (.int .i64 0)), (.d (.int .i64 0))] [(1, (1, (.t 84)))]), [2], none⟩, ⟨none, (.store 5 (.t 2) (.t 85)), [3, 0, 1,
  2, 3], none⟩, ⟨(some 3), (.mov (.k (.one (.d (.int .i64 2))))), [4, 0, 1, 2, 3, 4], none⟩]) .ret) .skip)) j38_7)
def j38_9 : SCode :=
  (.seq none (.region false [⟨(some 97), (.mov (.t 0)), [], none⟩, ⟨(some 98), (.sub (.t 97) none (some (.k (.one (.d (.int .i64 1)))))), [0], none⟩, ⟨(some 99), (.build [(.d (.int .i64 0)),
  (.d (.str ⟨#[]⟩)), (.d (.int .i64 0)), (.d (.int .i64 0)), (.d (.int .i64 0))] [(1, (1, (.t 98)))]), [1], none⟩, ⟨none, (.store 5 (.t 2) (.t 99)), [2, 0, 1, 2], none⟩, ⟨(some 3),
  (.mov (.k (.one (.d (.int .i64 10))))), [3, 0, 1, 2, 3], none⟩]) .ret)
def j38_8 : SCode :=
  (.seq (some [0, 2]) (.seq none (.region false [⟨(some 91), (.mov (.t 0)), [], none⟩, ⟨(some 92), (.call 73 [(.t 91)]), [0], none⟩, ⟨(some 6), (.mov (.t 92)), [1, 1, 0, 1],
  none⟩]) (.seq none (.region false [⟨(some 93), (.mov (.t 6)), [], none⟩, ⟨(some 94), (.sbin .neq (.t 93) (.k (.one (.d (.str ⟨#[]⟩))))), [0],
  none⟩]) (.cond (.t 94) (.seq none (.region false [⟨(some 95), (.mov (.t 6)), [], none⟩, ⟨(some 96), (.build [(.d (.int .i64 0)), (.d (.str ⟨#[]⟩)), (.d (.int .i64 0)), (.d (.int .i64 0)),
  (.d (.int .i64 0))] [(0, (1, (.k (.one (.d (.int .i64 4)))))), (1, (1, (.t 95)))]), [0], none⟩, ⟨none, (.store 5 (.t 2) (.t 96)), [1, 0, 1], none⟩, ⟨(some 3), (.mov (.k (.one (.d (.int .i64 0))))),
  [2, 0, 1, 2], none⟩]) .ret) .skip))) j38_9)
def sf38 : SFunc :=
  ⟨1, [(.cell true 5 2), (.tmp 3)], (.seq none (.region false [⟨(some 2), (.alloc [(.int .i64), .str, (.int .i64), (.int .i64), (.int .i64)] [(.d (.int .i64 0)), (.d (.str ⟨#[]⟩)), (.d (.int .i64 0)),
  (.d (.int .i64 0)), (.d (.int .i64 0))]), [], none⟩, ⟨(some 3), (.mov (.k (.one (.d (.int .i64 0))))), [], none⟩]) (.seq none (.region false [⟨(some 4), (.mov (.k (.one (.d (.int .i64 0))))), [],
  none⟩]) (.seq (some [0, 2]) (.block 0 (.seq none (.region false [⟨(some 8), (.mov (.t 0)), [], none⟩, ⟨(some 9), (.chr (.t 8) (.k (.one (.d (.int .i64 0))))), [0], none⟩, ⟨(some 10),
  (.call 70 [(.t 9)]), [1], none⟩, ⟨(some 7), (.mov (.t 10)), [2, 2], none⟩]) (.cond (.t 7) (.seq (some [0, 2, 4]) (.block 1 (.loop [0, 2, 4] lb38_0)) j38_1) (.seq none (.region false [⟨(some 56),
  (.mov (.t 0)), [], none⟩, ⟨(some 57), (.chr (.t 56) (.k (.one (.d (.int .i64 0))))), [0], none⟩, ⟨(some 58), (.call 71 [(.t 57)]), [1], none⟩, ⟨(some 55), (.mov (.t 58)), [2, 2],
  none⟩]) (.cond (.t 55) (.seq none (.region false [⟨(some 5), (.mov (.k (.one (.d (.int .i64 0))))), [], none⟩]) (.seq (some [0, 2, 4, 5]) (.block 3 (.loop [0, 2, 4,
  5] lb38_1)) j38_6)) .skip))))) j38_8)))⟩
theorem c38 : compFunc Tryd.prog [none, none, some [0, 2], none, some [0, 2, 4], some [0, 2, 4], some [0, 2, 4], none, some [0, 2, 4], none, none, some [0, 2, 4], none, none, none, none, none, some [0, 2, 4, 5], some [0, 2, 4, 5], some [0, 2, 4, 5], none, some [0, 2, 4, 5], some [0, 2, 4, 5], none, none, none, some [0, 2], none, none, none, none] Tryd.f38 = some sf38 := by kernel_rfl
/-! sortilege/sortilegelaw03.typeSize -/
def j47_1 : SCode :=
  (.region false [⟨(some 20), (.mov (.t 7)), [], none⟩, ⟨(some 21), (.ibin .i64 .add (.t 20) (.k (.one (.d (.int .i64 1))))), [0], none⟩, ⟨(some 7), (.mov (.t 21)), [1, 0, 1], none⟩])
def j47_0 : SCode :=
  (.seq (some [1, 2, 3, 7]) (.block 1 (.region false [⟨(some 22), (.faddr 1 (.t 3)), [], none⟩, ⟨(some 23), (.load false 1 (.t 22)), [0], none⟩, ⟨(some 24), (.mov (.t 7)), [], none⟩, ⟨(some 25),
  (.iaddr 2 (.t 23) (.t 24)), [1, 2], none⟩, ⟨(some 26), (.load true 2 (.t 25)), [3], none⟩, ⟨(some 27), (.mov (.t 1)), [], none⟩, ⟨(some 28), (.mov (.t 2)), [], none⟩, ⟨(some 29), (.call 47 [(.t 26),
  (.t 27), (.t 28)]), [4, 5, 6], none⟩, ⟨(some 1), (.mov (.t 29)), [7, 7, 0, 1, 2, 3, 4, 5, 6, 7], none⟩])) j47_1)
def lb47_0 : SCode :=
  (.seq (some [1, 2, 3, 7]) (.seq none (.region false [⟨(some 10), (.mov (.t 7)), [], none⟩, ⟨(some 11), (.faddr 1 (.t 3)), [], none⟩, ⟨(some 12), (.load false 1 (.t 11)), [1], none⟩, ⟨(some 13),
  (.len false (.t 12)), [2], none⟩, ⟨(some 14), (.ibin .i64 .lss (.t 10) (.t 13)), [0, 3], none⟩, ⟨(some 15), (.mov (.t 14)), [4], none⟩, ⟨(some 16), (.mov (.t 1)), [5], (some (5, (15, true)))⟩,
  ⟨(some 17), (.mov (.t 2)), [5], (some (5, (15, true)))⟩, ⟨(some 18), (.ibin .i64 .leq (.t 16) (.t 17)), [6, 7, 5], (some (5, (15, true)))⟩, ⟨(some 19),
  (.pick (.t 15) (.t 18) (.k (.one (.d (.bool false))))), [5, 8], none⟩]) (.cond (.t 19) .skip (.exit 0))) j47_0)
def j47_2 : SCode :=
  (.seq none (.region false [⟨(some 30), (.mov (.t 1)), [], none⟩, ⟨(some 6), (.mov (.t 30)), [0, 0], none⟩]) .ret)
def sf47 : SFunc :=
  ⟨3, [(.tmp 6)], (.seq none (.region false [⟨(some 3), (.box [(.int .i64), (.lst 2)] (.t 0)), [], none⟩, ⟨(some 6), (.mov (.k (.one (.d (.int .i64 0))))), [],
  none⟩]) (.seq none (.region false [⟨(some 8), (.mov (.t 1)), [], none⟩, ⟨(some 9), (.ibin .i64 .add (.t 8) (.k (.one (.d (.int .i64 1))))), [0], none⟩, ⟨(some 1), (.mov (.t 9)), [1, 0, 1],
  none⟩]) (.seq (some [1]) (.seq none (.region false [⟨(some 7), (.mov (.k (.one (.d (.int .i64 0))))), [], none⟩]) (.block 0 (.loop [1, 2, 3, 7] lb47_0))) j47_2)))⟩
theorem c47 : compFunc Tryd.prog [none, none, some [1], none, some [1, 2, 3, 7], some [1, 2, 3, 7], none, some [1, 2, 3, 7], none] Tryd.f47 = some sf47 := by kernel_rfl
/-! (*sortilege/printer.writer).put -/
def j48_1 : SCode :=
  (.region false [⟨(some 22), (.ibin .i64 .add (.t 8) (.k (.one (.d (.int .i64 1))))), [], none⟩, ⟨(some 8), (.mov (.t 22)), [0], none⟩])
def j48_0 : SCode :=
  (.seq (some [0, 6, 7, 8]) (.block 1 (.seq none (.region false [⟨(some 10), (.iaddr 1 (.t 6) (.t 8)), [], none⟩, ⟨(some 11), (.load false 1 (.t 10)), [0], none⟩, ⟨(some 5), (.mov (.t 11)), [1, 0, 1],
  none⟩]) (.seq none (.region false [⟨(some 12), (.mov (.t 0)), [], none⟩, ⟨(some 13), (.nchk (.t 12)), [0], none⟩, ⟨(some 14), (.faddr 0 (.t 13)), [1], none⟩, ⟨(some 15), (.call 57 [(.t 14)]), [2],
  none⟩, ⟨(some 16), (.ibin .i64 .leq (.t 15) (.k (.one (.d (.int .i64 20000))))), [3], none⟩]) (.cond (.t 16) (.region false [⟨(some 17), (.mov (.t 0)), [], none⟩, ⟨(some 18), (.nchk (.t 17)), [0],
  none⟩, ⟨(some 19), (.faddr 0 (.t 18)), [1], none⟩, ⟨(some 20), (.mov (.t 5)), [], none⟩, ⟨(some 21), (.call 85 [(.t 19), (.t 20)]), [2, 3], none⟩]) .skip)))) j48_1)
def lb48_0 : SCode :=
  (.seq none (.region false [⟨(some 9), (.ibin .i64 .lss (.t 8) (.t 7)), [], none⟩]) (.seq (some [0, 6, 7, 8]) (.cond (.t 9) .skip (.exit 0)) j48_0))
def sf48 : SFunc :=
  ⟨2, [], (.seq none (.region false [⟨(some 6), (.mov (.t 1)), [], none⟩, ⟨(some 7), (.len false (.t 6)), [0], none⟩, ⟨(some 8), (.mov (.k (.one (.d (.int .i64 0))))), [], none⟩]) (.block 0 (.loop [0,
  6, 7, 8] lb48_0)))⟩
theorem c48 : compFunc Tryd.prog [none, some [0, 6, 7, 8], none, some [0, 6, 7, 8], some [0, 6, 7, 8], none, none] Tryd.f48 = some sf48 := by kernel_rfl
/-! sortilege/value.TypeText -/
def j49_1 : SCode :=
  (.region false [⟨(some 19), (.ibin .i64 .add (.t 10) (.k (.one (.d (.int .i64 1))))), [], none⟩, ⟨(some 10), (.mov (.t 19)), [0], none⟩])
def j49_0 : SCode :=
  (.seq (some [1, 3, 8, 9, 10]) (.block 1 (.seq none (.region false [⟨(some 12), (.iaddr 2 (.t 8) (.t 10)), [], none⟩, ⟨(some 13), (.load true 2 (.t 12)), [0], none⟩, ⟨(some 5), (.alloc [(.int .i64),
  (.lst 2)] [(.d (.int .i64 0)), (.nilL 2)]), [], none⟩, ⟨none, (.store 2 (.t 5) (.t 13)), [2, 1, 0, 1, 2], none⟩]) (.region false [⟨(some 14), (.mov (.t 3)), [], none⟩, ⟨(some 15),
  (.load true 2 (.t 5)), [], none⟩, ⟨(some 16), (.call 49 [(.t 15)]), [1], none⟩, ⟨(some 17), (.lit 9 1 [(.t 16)]), [2], none⟩, ⟨(some 18), (.app 9 1 16 (.t 14) (.t 17)), [0, 3, 2], none⟩, ⟨(some 3),
  (.mov (.t 18)), [4, 4, 0, 1, 2, 3, 4], none⟩]))) j49_1)
def lb49_0 : SCode :=
  (.seq none (.region false [⟨(some 11), (.ibin .i64 .lss (.t 10) (.t 9)), [], none⟩]) (.seq (some [1, 3, 8, 9, 10]) (.cond (.t 11) .skip (.exit 0)) j49_0))
def j49_3 : SCode :=
  (.seq none (.region false [⟨(some 2), (.mov (.k (.one (.d (.str ⟨#[63]⟩))))), [], none⟩]) .ret)
def j49_2 : SCode :=
  (.seq none (.region false [⟨(some 20), (.mov (.t 3)), [], none⟩, ⟨(some 21), (.call 43 [(.t 20), (.k (.one (.d (.str ⟨#[44, 32]⟩))))]), [0], none⟩, ⟨(some 6), (.mov (.t 21)), [1, 1, 0, 1],
  none⟩]) (.seq (some []) (.seq none (.region false [⟨(some 22), (.faddr 0 (.t 1)), [], none⟩, ⟨(some 23), (.load false 1 (.t 22)), [0], none⟩]) (.block 2 (.seq none (.region false [⟨(some 25),
  (.ibin .i64 .eql (.t 23) (.k (.one (.d (.int .i64 1))))), [], none⟩, ⟨(some 24), (.mov (.t 25)), [0], none⟩]) (.cond (.t 24) (.seq none (.region false [⟨(some 2), (.mov (.k (.one (.d (.str ⟨#[98,
  111, 111, 108]⟩))))), [], none⟩]) .ret) (.seq none (.region false [⟨(some 27), (.ibin .i64 .eql (.t 23) (.k (.one (.d (.int .i64 2))))), [], none⟩, ⟨(some 26), (.mov (.t 27)), [0],
  none⟩]) (.cond (.t 26) (.seq none (.region false [⟨(some 2), (.mov (.k (.one (.d (.str ⟨#[105, 110, 116]⟩))))), [], none⟩]) .ret) (.seq none (.region false [⟨(some 29),
  (.ibin .i64 .eql (.t 23) (.k (.one (.d (.int .i64 3))))), [], none⟩, ⟨(some 28), (.mov (.t 29)), [0], none⟩]) (.cond (.t 28) (.seq none (.region false [⟨(some 30), (.mov (.t 6)), [], none⟩,
  ⟨(some 31), (.sbin .add (.k (.one (.d (.str ⟨#[40]⟩)))) (.t 30)), [0], none⟩, ⟨(some 32), (.sbin .add (.t 31) (.k (.one (.d (.str ⟨#[41]⟩))))), [1], none⟩, ⟨(some 2), (.mov (.t 32)), [2, 0, 1, 2],
  none⟩]) .ret) (.seq none (.region false [⟨(some 34), (.ibin .i64 .eql (.t 23) (.k (.one (.d (.int .i64 4))))), [], none⟩, ⟨(some 33), (.mov (.t 34)), [0],
  none⟩]) (.cond (.t 33) (.seq none (.region false [⟨(some 35), (.mov (.t 6)), [], none⟩, ⟨(some 36), (.sbin .add (.k (.one (.d (.str ⟨#[91]⟩)))) (.t 35)), [0], none⟩, ⟨(some 37),
  (.sbin .add (.t 36) (.k (.one (.d (.str ⟨#[93]⟩))))), [1], none⟩, ⟨(some 2), (.mov (.t 37)), [2, 0, 1, 2], none⟩]) .ret) .skip)))))))))) j49_3))
def sf49 : SFunc :=
  ⟨1, [(.tmp 2)], (.seq none (.region false [⟨(some 1), (.box [(.int .i64), (.lst 2)] (.t 0)), [], none⟩, ⟨(some 2), (.mov (.k (.one (.d (.str ⟨#[]⟩))))), [],
  none⟩]) (.seq none (.region false [⟨(some 3), (.mov (.k (.one (.nilL 1)))), [], none⟩]) (.seq (some [1, 3]) (.seq none (.region false [⟨(some 7), (.faddr 1 (.t 1)), [], none⟩, ⟨(some 8),
  (.load false 1 (.t 7)), [0], none⟩, ⟨(some 9), (.len false (.t 8)), [1], none⟩, ⟨(some 10), (.mov (.k (.one (.d (.int .i64 0))))), [], none⟩]) (.block 0 (.loop [1, 3, 8, 9, 10] lb49_0))) j49_2)))⟩
theorem c49 : compFunc Tryd.prog [none, none, some [1, 3], none, some [1, 3, 8, 9, 10], none, some [1, 3, 8, 9, 10], some [1, 3, 8, 9, 10], none, none, some [], none, none, none, none, none, none, none, none, none, none] Tryd.f49 = some sf49 := by kernel_rfl
/-! sortilege/value.deep -/
def j50_1 : SCode :=
  (.cond (.t 9) (.seq none (.region false [⟨(some 12), (.faddr 1 (.t 2)), [], none⟩, ⟨(some 13), (.load false 1 (.t 12)), [0], none⟩, ⟨(some 14), (.len false (.t 13)), [1], none⟩, ⟨(some 15),
  (.ibin .i64 .eql (.t 14) (.k (.one (.d (.int .i64 0))))), [2], none⟩, ⟨(some 4), (.mov (.t 15)), [3, 0, 1, 2, 3], none⟩]) .ret) (.seq none (.region false [⟨(some 17),
  (.ibin .i64 .eql (.t 8) (.k (.one (.d (.int .i64 3))))), [], none⟩, ⟨(some 16), (.mov (.t 17)), [0], none⟩]) (.cond (.t 16) (.seq none (.region false [⟨(some 18), (.faddr 1 (.t 2)), [], none⟩,
  ⟨(some 19), (.load false 1 (.t 18)), [0], none⟩, ⟨(some 20), (.len false (.t 19)), [1], none⟩, ⟨(some 21), (.ibin .i64 .lss (.t 20) (.k (.one (.d (.int .i64 2))))), [2], none⟩, ⟨(some 22),
  (.mov (.t 21)), [3], none⟩, ⟨(some 23), (.faddr 1 (.t 2)), [4], (some (4, (22, false)))⟩, ⟨(some 24), (.load false 1 (.t 23)), [5, 4], (some (4, (22, false)))⟩, ⟨(some 25), (.len false (.t 24)), [6,
  4], (some (4, (22, false)))⟩, ⟨(some 26), (.ibin .i64 .gtr (.t 25) (.k (.one (.d (.int .i64 4))))), [7, 4], (some (4, (22, false)))⟩, ⟨(some 27),
  (.pick (.t 22) (.k (.one (.d (.bool true)))) (.t 26)), [4, 8], none⟩]) (.cond (.t 27) (.seq none (.region false [⟨(some 4), (.mov (.k (.one (.d (.bool false))))), [],
  none⟩]) .ret) .skip)) (.seq none (.region false [⟨(some 29), (.ibin .i64 .eql (.t 8) (.k (.one (.d (.int .i64 4))))), [], none⟩, ⟨(some 28), (.mov (.t 29)), [0],
  none⟩]) (.cond (.t 28) (.seq none (.region false [⟨(some 30), (.faddr 1 (.t 2)), [], none⟩, ⟨(some 31), (.load false 1 (.t 30)), [0], none⟩, ⟨(some 32), (.len false (.t 31)), [1], none⟩, ⟨(some 33),
  (.ibin .i64 .neq (.t 32) (.k (.one (.d (.int .i64 1))))), [2], none⟩]) (.cond (.t 33) (.seq none (.region false [⟨(some 4), (.mov (.k (.one (.d (.bool false))))), [],
  none⟩]) .ret) .skip)) (.seq none (.region false [⟨(some 4), (.mov (.k (.one (.d (.bool false))))), [], none⟩]) .ret))))))
def j50_2 : SCode :=
  (.seq none (.region false [⟨(some 34), (.faddr 1 (.t 2)), [], none⟩, ⟨(some 35), (.load false 1 (.t 34)), [0], none⟩, ⟨(some 36), (.mkF 87 [(.t 3)]), [], none⟩, ⟨(some 37), (.call 86 [(.t 35),
  (.t 36)]), [1, 2], none⟩, ⟨(some 38), (.inot (.t 37)), [3], none⟩, ⟨(some 4), (.mov (.t 38)), [4, 3, 0, 1, 2, 3, 4], none⟩]) .ret)
def j50_0 : SCode :=
  (.seq (some [2, 3]) (.seq none (.region false [⟨(some 7), (.faddr 0 (.t 2)), [], none⟩, ⟨(some 8), (.load false 1 (.t 7)), [0], none⟩]) (.block 0 (.seq (some [2, 3, 8,
  9]) (.seq none (.region false [⟨(some 10), (.ibin .i64 .eql (.t 8) (.k (.one (.d (.int .i64 1))))), [], none⟩, ⟨(some 9), (.mov (.t 10)), [0], none⟩]) (.cond (.t 9) .skip (.region false [⟨(some 11),
  (.ibin .i64 .eql (.t 8) (.k (.one (.d (.int .i64 2))))), [], none⟩, ⟨(some 9), (.mov (.t 11)), [0], none⟩]))) j50_1))) j50_2)
def sf50 : SFunc :=
  ⟨2, [(.tmp 4)], (.seq none (.region false [⟨(some 2), (.box [(.int .i64), (.lst 2)] (.t 0)), [], none⟩, ⟨(some 3), (.box [(.int .i64)] (.t 1)), [], none⟩, ⟨(some 4),
  (.mov (.k (.one (.d (.bool false))))), [], none⟩]) (.seq (some [2, 3]) (.seq none (.region false [⟨(some 5), (.load false 1 (.t 3)), [], none⟩, ⟨(some 6),
  (.ibin .i64 .lss (.t 5) (.k (.one (.d (.int .i64 1))))), [0], none⟩]) (.cond (.t 6) (.seq none (.region false [⟨(some 4), (.mov (.k (.one (.d (.bool false))))), [], none⟩]) .ret) .skip)) j50_0))⟩
theorem c50 : compFunc Tryd.prog [none, some [2, 3], none, none, some [2, 3], none, some [2, 3, 8, 9], none, none, none, none, none, none, none, none, none, none] Tryd.f50 = some sf50 := by kernel_rfl
/-! sortilege/sortilegeref05.small -/
def sf51 : SFunc :=
  ⟨1, [(.tmp 2)], (.seq none (.region false [⟨(some 2), (.mov (.k (.one (.d (.bool false))))), [], none⟩]) (.seq none (.region false [⟨(some 3), (.mov (.t 0)), [], none⟩, ⟨(some 4),
  (.ibin .u8 .geq (.t 3) (.k (.one (.d (.int .u8 97))))), [0], none⟩, ⟨(some 5), (.mov (.t 4)), [1], none⟩, ⟨(some 6), (.mov (.t 0)), [2], (some (2, (5, true)))⟩, ⟨(some 7),
  (.ibin .u8 .leq (.t 6) (.k (.one (.d (.int .u8 122))))), [3, 2], (some (2, (5, true)))⟩, ⟨(some 8), (.pick (.t 5) (.t 7) (.k (.one (.d (.bool false))))), [2, 4], none⟩, ⟨(some 2), (.mov (.t 8)), [5,
  2, 0, 1, 2, 3, 4, 5], none⟩]) .ret))⟩
theorem c51 : compFunc Tryd.prog [none, none] Tryd.f51 = some sf51 := by kernel_rfl
/-! sortilege/sortilegeref05.IsWord -/
def j52_1 : SCode :=
  (.region false [⟨(some 10), (.mov (.t 4)), [], none⟩, ⟨(some 11), (.ibin .i64 .add (.t 10) (.k (.one (.d (.int .i64 1))))), [0], none⟩, ⟨(some 4), (.mov (.t 11)), [1, 0, 1], none⟩])
def j52_0 : SCode :=
  (.seq (some [0, 3, 4]) (.block 1 (.seq none (.region false [⟨(some 12), (.mov (.t 3)), [], none⟩, ⟨(some 13), (.mov (.t 4)), [], none⟩, ⟨(some 14), (.iaddr 1 (.t 12) (.t 13)), [0, 1], none⟩,
  ⟨(some 15), (.load false 1 (.t 14)), [2], none⟩, ⟨(some 16), (.mov (.t 0)), [], none⟩, ⟨(some 17), (.sbin .eql (.t 15) (.t 16)), [3, 4], none⟩]) (.cond (.t 17) (.seq none (.region false [⟨(some 2),
  (.mov (.k (.one (.d (.bool true))))), [], none⟩]) .ret) .skip))) j52_1)
def lb52_0 : SCode :=
  (.seq (some [0, 3, 4]) (.seq none (.region false [⟨(some 6), (.mov (.t 4)), [], none⟩, ⟨(some 7), (.mov (.t 3)), [], none⟩, ⟨(some 8), (.len false (.t 7)), [1], none⟩, ⟨(some 9),
  (.ibin .i64 .lss (.t 6) (.t 8)), [0, 2], none⟩]) (.cond (.t 9) .skip (.exit 0))) j52_0)
def j52_2 : SCode :=
  (.seq none (.region false [⟨(some 2), (.mov (.k (.one (.d (.bool false))))), [], none⟩]) .ret)
def sf52 : SFunc :=
  ⟨1, [(.tmp 2)], (.seq none (.region false [⟨(some 2), (.mov (.k (.one (.d (.bool false))))), [], none⟩]) (.seq none (.region false [⟨(some 5), (.call 88 []), [], none⟩, ⟨(some 3), (.mov (.t 5)), [0,
  0, 0], none⟩]) (.seq (some []) (.seq none (.region false [⟨(some 4), (.mov (.k (.one (.d (.int .i64 0))))), [], none⟩]) (.block 0 (.loop [0, 3, 4] lb52_0))) j52_2)))⟩
theorem c52 : compFunc Tryd.prog [none, none, some [], none, some [0, 3, 4], some [0, 3, 4], none, some [0, 3, 4], none, none, none] Tryd.f52 = some sf52 := by kernel_rfl
/-! sortilege/sortilegeref05.digit -/
def sf53 : SFunc :=
  ⟨1, [(.tmp 2)], (.seq none (.region false [⟨(some 2), (.mov (.k (.one (.d (.bool false))))), [], none⟩]) (.seq none (.region false [⟨(some 3), (.mov (.t 0)), [], none⟩, ⟨(some 4),
  (.ibin .u8 .geq (.t 3) (.k (.one (.d (.int .u8 48))))), [0], none⟩, ⟨(some 5), (.mov (.t 4)), [1], none⟩, ⟨(some 6), (.mov (.t 0)), [2], (some (2, (5, true)))⟩, ⟨(some 7),
  (.ibin .u8 .leq (.t 6) (.k (.one (.d (.int .u8 57))))), [3, 2], (some (2, (5, true)))⟩, ⟨(some 8), (.pick (.t 5) (.t 7) (.k (.one (.d (.bool false))))), [2, 4], none⟩, ⟨(some 2), (.mov (.t 8)), [5,
  2, 0, 1, 2, 3, 4, 5], none⟩]) .ret))⟩
theorem c53 : compFunc Tryd.prog [none, none] Tryd.f53 = some sf53 := by kernel_rfl
/-! sortilege/sortilegeref03.typed -/
def j54_2 : SCode :=
  (.region false [⟨(some 54), (.mov (.t 7)), [], none⟩, ⟨(some 55), (.ibin .i64 .add (.t 54) (.k (.one (.d (.int .i64 1))))), [0], none⟩, ⟨(some 7), (.mov (.t 55)), [1, 0, 1], none⟩])
def j54_1 : SCode :=
  (.seq (some [1, 2, 5, 7]) (.block 1 (.seq none (.region false [⟨(some 56), (.faddr 1 (.t 2)), [], none⟩, ⟨(some 57), (.load false 1 (.t 56)), [0], none⟩, ⟨(some 58), (.mov (.t 7)), [], none⟩,
  ⟨(some 59), (.iaddr 2 (.t 57) (.t 58)), [1, 2], none⟩, ⟨(some 60), (.load true 2 (.t 59)), [3], none⟩, ⟨(some 61), (.mov (.t 1)), [], none⟩, ⟨(some 62),
  (.ibin .i64 .add (.t 61) (.k (.one (.d (.int .i64 1))))), [5], none⟩, ⟨(some 63), (.call 54 [(.t 60), (.t 62)]), [4, 6], none⟩, ⟨(some 64), (.inot (.t 63)), [7],
  none⟩]) (.cond (.t 64) (.seq none (.region false [⟨(some 4), (.mov (.k (.one (.d (.bool false))))), [], none⟩]) .ret) .skip))) j54_2)
def lb54_0 : SCode :=
  (.seq (some [1, 2, 5, 7]) (.seq none (.region false [⟨(some 51), (.mov (.t 7)), [], none⟩, ⟨(some 52), (.mov (.t 5)), [], none⟩, ⟨(some 53), (.ibin .i64 .lss (.t 51) (.t 52)), [0, 1],
  none⟩]) (.cond (.t 53) .skip (.exit 0))) j54_1)
def j54_3 : SCode :=
  (.seq none (.region false [⟨(some 4), (.mov (.k (.one (.d (.bool true))))), [], none⟩]) .ret)
def j54_0 : SCode :=
  (.seq (some []) (.seq none (.region false [⟨(some 7), (.mov (.k (.one (.d (.int .i64 0))))), [], none⟩]) (.block 0 (.loop [1, 2, 5, 7] lb54_0))) j54_3)
def sf54 : SFunc :=
  ⟨2, [(.tmp 4)], (.seq none (.region false [⟨(some 2), (.box [(.int .i64), (.lst 2)] (.t 0)), [], none⟩, ⟨(some 4), (.mov (.k (.one (.d (.bool false))))), [],
  none⟩]) (.seq none (.region false [⟨(some 8), (.faddr 1 (.t 2)), [], none⟩, ⟨(some 9), (.load false 1 (.t 8)), [0], none⟩, ⟨(some 10), (.len false (.t 9)), [1], none⟩, ⟨(some 5), (.mov (.t 10)), [2,
  0, 1, 2], none⟩]) (.seq none (.region false [⟨(some 11), (.faddr 0 (.t 2)), [], none⟩, ⟨(some 12), (.load false 1 (.t 11)), [0], none⟩, ⟨(some 13),
  (.ibin .i64 .eql (.t 12) (.k (.one (.d (.int .i64 1))))), [1], none⟩, ⟨(some 14), (.mov (.t 13)), [2], none⟩, ⟨(some 15), (.faddr 0 (.t 2)), [3], (some (3, (14, false)))⟩, ⟨(some 16),
  (.load false 1 (.t 15)), [4, 3], (some (3, (14, false)))⟩, ⟨(some 17), (.ibin .i64 .eql (.t 16) (.k (.one (.d (.int .i64 2))))), [5, 3], (some (3, (14, false)))⟩, ⟨(some 18),
  (.pick (.t 14) (.k (.one (.d (.bool true)))) (.t 17)), [3, 6], none⟩, ⟨(some 19), (.mov (.t 18)), [7, 3], none⟩, ⟨(some 20), (.mov (.t 5)), [8], (some (8, (19, true)))⟩, ⟨(some 21),
  (.ibin .i64 .eql (.t 20) (.k (.one (.d (.int .i64 0))))), [9, 8], (some (8, (19, true)))⟩, ⟨(some 22), (.pick (.t 19) (.t 21) (.k (.one (.d (.bool false))))), [8, 10], none⟩, ⟨(some 23),
  (.mov (.t 22)), [11, 8], none⟩, ⟨(some 24), (.faddr 0 (.t 2)), [12], (some (12, (23, false)))⟩, ⟨(some 25), (.load false 1 (.t 24)), [13, 12], (some (12, (23, false)))⟩, ⟨(some 26),
  (.ibin .i64 .eql (.t 25) (.k (.one (.d (.int .i64 3))))), [14, 12], (some (12, (23, false)))⟩, ⟨(some 27), (.mov (.t 26)), [15, 12, 12], (some (12, (23, false)))⟩, ⟨(some 28), (.mov (.t 5)), [16],
  (some (16, (27, true)))⟩, ⟨(some 29), (.ibin .i64 .geq (.t 28) (.k (.one (.d (.int .i64 2))))), [17, 16], (some (16, (27, true)))⟩, ⟨(some 30),
  (.pick (.t 27) (.t 29) (.k (.one (.d (.bool false))))), [16, 18, 12], (some (12, (23, false)))⟩, ⟨(some 31), (.mov (.t 30)), [19, 16, 12], (some (12, (23, false)))⟩, ⟨(some 32), (.mov (.t 5)), [20],
  (some (20, (31, true)))⟩, ⟨(some 33), (.ibin .i64 .leq (.t 32) (.k (.one (.d (.int .i64 4))))), [21, 20], (some (20, (31, true)))⟩, ⟨(some 34),
  (.pick (.t 31) (.t 33) (.k (.one (.d (.bool false))))), [20, 22, 12], (some (12, (23, false)))⟩, ⟨(some 35), (.pick (.t 23) (.k (.one (.d (.bool true)))) (.t 34)), [12, 23], none⟩, ⟨(some 36),
  (.mov (.t 35)), [24, 20], none⟩, ⟨(some 37), (.faddr 0 (.t 2)), [25], (some (25, (36, false)))⟩, ⟨(some 38), (.load false 1 (.t 37)), [26, 25], (some (25, (36, false)))⟩, ⟨(some 39),
  (.ibin .i64 .eql (.t 38) (.k (.one (.d (.int .i64 4))))), [27, 25], (some (25, (36, false)))⟩, ⟨(some 40), (.mov (.t 39)), [28, 25, 25], (some (25, (36, false)))⟩, ⟨(some 41), (.mov (.t 5)), [29],
  (some (29, (40, true)))⟩, ⟨(some 42), (.ibin .i64 .eql (.t 41) (.k (.one (.d (.int .i64 1))))), [30, 29], (some (29, (40, true)))⟩, ⟨(some 43),
  (.pick (.t 40) (.t 42) (.k (.one (.d (.bool false))))), [29, 31, 25], (some (25, (36, false)))⟩, ⟨(some 44), (.pick (.t 36) (.k (.one (.d (.bool true)))) (.t 43)), [25, 32], none⟩, ⟨(some 6),
  (.mov (.t 44)), [33, 29, 0, 1, 2, 3, 4, 5, 6, 7, 8, 9, 10, 11, 12, 13, 14, 15, 16, 17, 18, 19, 20, 21, 22, 23, 24, 25, 26, 27, 28, 29, 30, 31, 32, 33], none⟩]) (.seq (some [1, 2,
  5]) (.seq none (.region false [⟨(some 45), (.mov (.t 6)), [], none⟩, ⟨(some 46), (.inot (.t 45)), [0], none⟩, ⟨(some 47), (.mov (.t 46)), [1], none⟩, ⟨(some 48), (.mov (.t 1)), [2], (some (2, (47,
  false)))⟩, ⟨(some 49), (.ibin .i64 .gtr (.t 48) (.k (.one (.d (.int .i64 40))))), [3, 2], (some (2, (47, false)))⟩, ⟨(some 50), (.pick (.t 47) (.k (.one (.d (.bool true)))) (.t 49)), [2, 4],
  none⟩]) (.cond (.t 50) (.seq none (.region false [⟨(some 4), (.mov (.k (.one (.d (.bool false))))), [], none⟩]) .ret) .skip)) j54_0))))⟩
theorem c54 : compFunc Tryd.prog [none, none, none, some [1, 2, 5], none, none, some [], none, some [1, 2, 5, 7], some [1, 2, 5, 7], none, some [1, 2, 5, 7], none, none, none] Tryd.f54 = some sf54 := by kernel_rfl
/-! sortilege/printer.Shape -/
def j55_0 : SCode :=
  (.cond (.t 92) (.region false [⟨(some 4), (.mov (.k (.one (.d (.int .i64 2))))), [], none⟩]) (.seq none (.region false [⟨(some 2), (.mov (.k (.one (.d (.bool false))))), [], none⟩]) .ret))
def j55_5 : SCode :=
  (.region false [⟨(some 144), (.ibin .i64 .add (.t 125) (.k (.one (.d (.int .i64 1))))), [], none⟩, ⟨(some 125), (.mov (.t 144)), [0], none⟩])
def j55_4 : SCode :=
  (.seq (some [1, 3, 4, 5, 6, 7, 123, 124, 125]) (.block 2 (.seq none (.region false [⟨(some 127), (.iaddr 1 (.t 123) (.t 125)), [], none⟩, ⟨(some 128), (.load false 1 (.t 127)), [0], none⟩, ⟨(some 9),
  (.mov (.t 128)), [1, 0, 1], none⟩]) (.seq none (.region false [⟨(some 129), (.mov (.t 9)), [], none⟩, ⟨(some 130), (.ibin .i64 .gtr (.t 129) (.k (.one (.d (.int .i64 2147483647))))), [0], none⟩,
  ⟨(some 131), (.mov (.t 130)), [1], none⟩, ⟨(some 132), (.mov (.t 9)), [2], (some (2, (131, false)))⟩, ⟨(some 133), (.ibin .i64 .lss (.t 132) (.k (.one (.d (.int .i64 0))))), [3, 2], (some (2, (131,
  false)))⟩, ⟨(some 134), (.mov (.t 133)), [4, 2, 2], (some (2, (131, false)))⟩, ⟨(some 135), (.faddr 0 (.t 1)), [5], (some (5, (134, true)))⟩, ⟨(some 136), (.load false 1 (.t 135)), [6, 5], (some (5,
  (134, true)))⟩, ⟨(some 137), (.ibin .i64 .neq (.t 136) (.k (.one (.d (.int .i64 15))))), [7, 5], (some (5, (134, true)))⟩, ⟨(some 138), (.mov (.t 137)), [8, 5, 5], (some (5, (134, true)))⟩,
  ⟨(some 139), (.mov (.t 9)), [9], (some (9, (138, false)))⟩, ⟨(some 140), (.ibin .i64 .lss (.t 139) (.k (.one (.d (.int .i64 (-2147483647)))))), [10, 9], (some (9, (138, false)))⟩, ⟨(some 141),
  (.pick (.t 138) (.k (.one (.d (.bool true)))) (.t 140)), [9, 11, 5], (some (5, (134, true)))⟩, ⟨(some 142), (.pick (.t 134) (.t 141) (.k (.one (.d (.bool false))))), [5, 12, 2], (some (2, (131,
  false)))⟩, ⟨(some 143), (.pick (.t 131) (.k (.one (.d (.bool true)))) (.t 142)), [2, 13], none⟩]) (.cond (.t 143) (.seq none (.region false [⟨(some 2), (.mov (.k (.one (.d (.bool false))))), [],
  none⟩]) .ret) .skip)))) j55_5)
def lb55_0 : SCode :=
  (.seq none (.region false [⟨(some 126), (.ibin .i64 .lss (.t 125) (.t 124)), [], none⟩]) (.seq (some [1, 3, 4, 5, 6, 7, 123, 124, 125]) (.cond (.t 126) .skip (.exit 1)) j55_4))
def j55_6 : SCode :=
  (.seq none (.region false [⟨(some 145), (.mov (.t 6)), [], none⟩, ⟨(some 146), (.mov (.t 145)), [0], none⟩, ⟨(some 147), (.mov (.t 7)), [1], (some (1, (146, true)))⟩, ⟨(some 148),
  (.pick (.t 146) (.t 147) (.k (.one (.d (.bool false))))), [1, 2], none⟩, ⟨(some 149), (.mov (.t 148)), [3, 1], none⟩, ⟨(some 150), (.faddr 5 (.t 1)), [4], (some (4, (149, true)))⟩, ⟨(some 151),
  (.load false 1 (.t 150)), [5, 4], (some (4, (149, true)))⟩, ⟨(some 152), (.len false (.t 151)), [6, 4], (some (4, (149, true)))⟩, ⟨(some 153), (.mov (.t 3)), [4], (some (4, (149, true)))⟩,
  ⟨(some 154), (.ibin .i64 .eql (.t 152) (.t 153)), [7, 8, 4], (some (4, (149, true)))⟩, ⟨(some 155), (.pick (.t 149) (.t 154) (.k (.one (.d (.bool false))))), [4, 9], none⟩, ⟨(some 156),
  (.mov (.t 155)), [10, 4], none⟩, ⟨(some 157), (.faddr 4 (.t 1)), [11], (some (11, (156, true)))⟩, ⟨(some 158), (.load false 1 (.t 157)), [12, 11], (some (11, (156, true)))⟩, ⟨(some 159),
  (.len false (.t 158)), [13, 11], (some (11, (156, true)))⟩, ⟨(some 160), (.mov (.t 4)), [11], (some (11, (156, true)))⟩, ⟨(some 161), (.ibin .i64 .eql (.t 159) (.t 160)), [14, 15, 11], (some (11,
  (156, true)))⟩, ⟨(some 162), (.pick (.t 156) (.t 161) (.k (.one (.d (.bool false))))), [11, 16], none⟩, ⟨(some 163), (.mov (.t 162)), [17, 11], none⟩, ⟨(some 164), (.faddr 3 (.t 1)), [18],
  (some (18, (163, true)))⟩, ⟨(some 165), (.load false 1 (.t 164)), [19, 18], (some (18, (163, true)))⟩, ⟨(some 166), (.len false (.t 165)), [20, 18], (some (18, (163, true)))⟩, ⟨(some 167),
  (.mov (.t 5)), [18], (some (18, (163, true)))⟩, ⟨(some 168), (.ibin .i64 .eql (.t 166) (.t 167)), [21, 22, 18], (some (18, (163, true)))⟩, ⟨(some 169),
  (.pick (.t 163) (.t 168) (.k (.one (.d (.bool false))))), [18, 23], none⟩, ⟨(some 170), (.mov (.t 169)), [24, 18], none⟩, ⟨(some 171), (.faddr 3 (.t 1)), [25], (some (25, (170, true)))⟩,
  ⟨(some 172), (.load false 1 (.t 171)), [26, 25], (some (25, (170, true)))⟩, ⟨(some 173), (.call 90 [(.t 172)]), [27, 25, 25], (some (25, (170, true)))⟩, ⟨(some 174),
  (.pick (.t 170) (.t 173) (.k (.one (.d (.bool false))))), [25, 28], none⟩, ⟨(some 2), (.mov (.t 174)), [29, 28, 0, 1, 2, 3, 4, 5, 6, 7, 8, 9, 10, 11, 12, 13, 14, 15, 16, 17, 18, 19, 20, 21, 22, 23,
  24, 25, 26, 27, 28, 29], none⟩]) .ret)
def j55_3 : SCode :=
  (.seq (some [1, 3, 4, 5, 6, 7]) (.seq none (.region false [⟨(some 122), (.faddr 4 (.t 1)), [], none⟩, ⟨(some 123), (.load false 1 (.t 122)), [0], none⟩, ⟨(some 124), (.len false (.t 123)), [1], none⟩,
  ⟨(some 125), (.mov (.k (.one (.d (.int .i64 0))))), [], none⟩]) (.block 1 (.loop [1, 3, 4, 5, 6, 7, 123, 124, 125] lb55_0))) j55_6)
def j55_2 : SCode :=
  (.seq (some [1, 3, 4, 5, 6, 7]) (.seq none (.region false [⟨(some 106), (.faddr 0 (.t 1)), [], none⟩, ⟨(some 107), (.load false 1 (.t 106)), [0], none⟩, ⟨(some 108),
  (.ibin .i64 .neq (.t 107) (.k (.one (.d (.int .i64 3))))), [1], none⟩, ⟨(some 109), (.mov (.t 108)), [2], none⟩, ⟨(some 110), (.faddr 0 (.t 1)), [3], (some (3, (109, true)))⟩, ⟨(some 111),
  (.load false 1 (.t 110)), [4, 3], (some (3, (109, true)))⟩, ⟨(some 112), (.ibin .i64 .neq (.t 111) (.k (.one (.d (.int .i64 4))))), [5, 3], (some (3, (109, true)))⟩, ⟨(some 113),
  (.pick (.t 109) (.t 112) (.k (.one (.d (.bool false))))), [3, 6], none⟩, ⟨(some 114), (.mov (.t 113)), [7, 3], none⟩, ⟨(some 115), (.faddr 0 (.t 1)), [8], (some (8, (114, true)))⟩, ⟨(some 116),
  (.load false 1 (.t 115)), [9, 8], (some (8, (114, true)))⟩, ⟨(some 117), (.ibin .i64 .neq (.t 116) (.k (.one (.d (.int .i64 7))))), [10, 8], (some (8, (114, true)))⟩, ⟨(some 118),
  (.pick (.t 114) (.t 117) (.k (.one (.d (.bool false))))), [8, 11], none⟩]) (.cond (.t 118) (.region false [⟨(some 119), (.faddr 2 (.t 1)), [], none⟩, ⟨(some 120), (.load false 1 (.t 119)), [0],
  none⟩, ⟨(some 121), (.sbin .eql (.t 120) (.k (.one (.d (.str ⟨#[]⟩))))), [1], none⟩, ⟨(some 7), (.mov (.t 121)), [2, 0, 1, 2], none⟩]) .skip)) j55_3)
def j55_1 : SCode :=
  (.seq (some [1, 3, 4, 5, 6, 7]) (.seq none (.region false [⟨(some 95), (.faddr 0 (.t 1)), [], none⟩, ⟨(some 96), (.load false 1 (.t 95)), [0], none⟩, ⟨(some 97),
  (.ibin .i64 .neq (.t 96) (.k (.one (.d (.int .i64 1))))), [1], none⟩, ⟨(some 98), (.mov (.t 97)), [2], none⟩, ⟨(some 99), (.faddr 0 (.t 1)), [3], (some (3, (98, true)))⟩, ⟨(some 100),
  (.load false 1 (.t 99)), [4, 3], (some (3, (98, true)))⟩, ⟨(some 101), (.ibin .i64 .neq (.t 100) (.k (.one (.d (.int .i64 2))))), [5, 3], (some (3, (98, true)))⟩, ⟨(some 102),
  (.pick (.t 98) (.t 101) (.k (.one (.d (.bool false))))), [3, 6], none⟩]) (.cond (.t 102) (.region false [⟨(some 103), (.faddr 1 (.t 1)), [], none⟩, ⟨(some 104), (.load false 1 (.t 103)), [0], none⟩,
  ⟨(some 105), (.ibin .i64 .eql (.t 104) (.k (.one (.d (.int .i64 0))))), [1], none⟩, ⟨(some 6), (.mov (.t 105)), [2, 0, 1, 2], none⟩]) .skip)) j55_2)
def sf55 : SFunc :=
  ⟨1, [(.tmp 2)], (.seq none (.region false [⟨(some 1), (.box [(.int .i64), (.int .i64), .str, (.lst 1), (.lst 1), (.lst 8), (.int .i64), (.int .i64)] (.t 0)), [], none⟩, ⟨(some 2),
  (.mov (.k (.one (.d (.bool false))))), [], none⟩]) (.seq none (.region false [⟨(some 3), (.mov (.k (.one (.d (.int .i64 0))))), [], none⟩, ⟨(some 4), (.mov (.k (.one (.d (.int .i64 0))))), [0, 0],
  none⟩, ⟨(some 5), (.mov (.k (.one (.d (.int .i64 0))))), [1, 0, 1], none⟩]) (.seq none (.region false [⟨(some 6), (.mov (.k (.one (.d (.bool false))))), [], none⟩, ⟨(some 7),
  (.mov (.k (.one (.d (.bool false))))), [0, 0], none⟩]) (.seq (some [1, 3, 4, 5, 6, 7]) (.seq none (.region false [⟨(some 10), (.faddr 0 (.t 1)), [], none⟩, ⟨(some 11), (.load false 1 (.t 10)), [0],
  none⟩]) (.block 0 (.seq none (.region false [⟨(some 13), (.ibin .i64 .eql (.t 11) (.k (.one (.d (.int .i64 1))))), [], none⟩, ⟨(some 12), (.mov (.t 13)), [0],
  none⟩]) (.cond (.t 12) (.region false [⟨(some 14), (.faddr 1 (.t 1)), [], none⟩, ⟨(some 15), (.load false 1 (.t 14)), [0], none⟩, ⟨(some 16),
  (.ibin .i64 .geq (.t 15) (.k (.one (.d (.int .i64 0))))), [1], none⟩, ⟨(some 17), (.mov (.t 16)), [2], none⟩, ⟨(some 18), (.faddr 1 (.t 1)), [3], (some (3, (17, true)))⟩, ⟨(some 19),
  (.load false 1 (.t 18)), [4, 3], (some (3, (17, true)))⟩, ⟨(some 20), (.ibin .i64 .leq (.t 19) (.k (.one (.d (.int .i64 2147483647))))), [5, 3], (some (3, (17, true)))⟩, ⟨(some 21),
  (.pick (.t 17) (.t 20) (.k (.one (.d (.bool false))))), [3, 6], none⟩, ⟨(some 6), (.mov (.t 21)), [7, 3, 0, 1, 2, 3, 4, 5, 6, 7], none⟩]) (.seq none (.region false [⟨(some 23),
  (.ibin .i64 .eql (.t 11) (.k (.one (.d (.int .i64 2))))), [], none⟩, ⟨(some 22), (.mov (.t 23)), [0], none⟩]) (.cond (.t 22) (.region false [⟨(some 24), (.faddr 1 (.t 1)), [], none⟩, ⟨(some 25),
  (.load false 1 (.t 24)), [0], none⟩, ⟨(some 26), (.ibin .i64 .eql (.t 25) (.k (.one (.d (.int .i64 0))))), [1], none⟩, ⟨(some 27), (.mov (.t 26)), [2], none⟩, ⟨(some 28), (.faddr 1 (.t 1)), [3],
  (some (3, (27, false)))⟩, ⟨(some 29), (.load false 1 (.t 28)), [4, 3], (some (3, (27, false)))⟩, ⟨(some 30), (.ibin .i64 .eql (.t 29) (.k (.one (.d (.int .i64 1))))), [5, 3], (some (3, (27,
  false)))⟩, ⟨(some 31), (.pick (.t 27) (.k (.one (.d (.bool true)))) (.t 30)), [3, 6], none⟩, ⟨(some 6), (.mov (.t 31)), [7, 3, 0, 1, 2, 3, 4, 5, 6, 7], none⟩]) (.seq none (.region false [⟨(some 33),
  (.ibin .i64 .eql (.t 11) (.k (.one (.d (.int .i64 3))))), [], none⟩, ⟨(some 32), (.mov (.t 33)), [0], none⟩]) (.cond (.t 32) (.seq none (.region false [⟨(some 34), (.faddr 2 (.t 1)), [], none⟩,
  ⟨(some 35), (.load false 1 (.t 34)), [0], none⟩, ⟨(some 36), (.call 27 [(.t 35)]), [1], none⟩, ⟨(some 7), (.mov (.t 36)), [2, 2, 0, 1, 2], none⟩]) (.region false [⟨(some 37), (.faddr 1 (.t 1)), [],
  none⟩, ⟨(some 38), (.load false 1 (.t 37)), [0], none⟩, ⟨(some 39), (.ibin .i64 .eql (.t 38) (.k (.one (.d (.int .i64 0))))), [1], none⟩, ⟨(some 6), (.mov (.t 39)), [2, 0, 1, 2],
  none⟩])) (.seq none (.region false [⟨(some 41), (.ibin .i64 .eql (.t 11) (.k (.one (.d (.int .i64 4))))), [], none⟩, ⟨(some 40), (.mov (.t 41)), [0],
  none⟩]) (.cond (.t 40) (.region true [⟨(some 42), (.faddr 2 (.t 1)), [], none⟩, ⟨(some 43), (.load false 1 (.t 42)), [0], none⟩, ⟨(some 44), (.call 27 [(.t 43)]), [1], none⟩, ⟨(some 45),
  (.faddr 5 (.t 1)), [], none⟩, ⟨(some 46), (.load false 1 (.t 45)), [3], none⟩, ⟨(some 47), (.len false (.t 46)), [4], none⟩, ⟨(some 7), (.mov (.t 44)), [2, 2, 0, 1, 2], none⟩, ⟨(some 3),
  (.mov (.t 47)), [5, 6, 0, 1, 2, 3, 4, 5, 6], none⟩]) (.seq none (.region false [⟨(some 49), (.ibin .i64 .eql (.t 11) (.k (.one (.d (.int .i64 5))))), [], none⟩, ⟨(some 48), (.mov (.t 49)), [0],
  none⟩]) (.cond (.t 48) (.region false [⟨(some 50), (.faddr 5 (.t 1)), [], none⟩, ⟨(some 51), (.load false 1 (.t 50)), [0], none⟩, ⟨(some 52), (.len false (.t 51)), [1], none⟩, ⟨(some 53),
  (.mnmx true (.t 52) (.k (.one (.d (.int .i64 2))))), [2], none⟩, ⟨(some 54), (.mnmx false (.t 53) (.k (.one (.d (.int .i64 4))))), [3], none⟩, ⟨(some 3), (.mov (.t 54)), [4, 0, 1, 2, 3, 4],
  none⟩]) (.seq none (.region false [⟨(some 56), (.ibin .i64 .eql (.t 11) (.k (.one (.d (.int .i64 6))))), [], none⟩, ⟨(some 55), (.mov (.t 56)), [0],
  none⟩]) (.cond (.t 55) (.region false [⟨(some 57), (.faddr 5 (.t 1)), [], none⟩, ⟨(some 58), (.load false 1 (.t 57)), [0], none⟩, ⟨(some 59), (.len false (.t 58)), [1], none⟩, ⟨(some 3),
  (.mov (.t 59)), [2, 0, 1, 2], none⟩]) (.seq none (.region false [⟨(some 61), (.ibin .i64 .eql (.t 11) (.k (.one (.d (.int .i64 7))))), [], none⟩, ⟨(some 60), (.mov (.t 61)), [0],
  none⟩]) (.cond (.t 60) (.seq none (.region false [⟨(some 62), (.faddr 2 (.t 1)), [], none⟩, ⟨(some 63), (.load false 1 (.t 62)), [0], none⟩, ⟨(some 64), (.call 89 [(.t 63)]), [1], none⟩, ⟨(some 65),
  (.ibin .i64 .gtr (.t 64) (.k (.one (.d (.int .i64 0))))), [2], none⟩, ⟨(some 7), (.mov (.t 65)), [3, 2, 0, 1, 2, 3], none⟩, ⟨(some 3), (.mov (.k (.one (.d (.int .i64 2))))), [4, 0, 1, 2, 3, 4],
  none⟩]) (.seq none (.region false [⟨(some 66), (.faddr 2 (.t 1)), [], none⟩, ⟨(some 67), (.load false 1 (.t 66)), [0], none⟩, ⟨(some 68), (.call 89 [(.t 67)]), [1], none⟩, ⟨(some 69),
  (.ibin .i64 .eql (.t 68) (.k (.one (.d (.int .i64 7))))), [2], none⟩]) (.cond (.t 69) (.region false [⟨(some 3), (.mov (.k (.one (.d (.int .i64 1))))), [],
  none⟩]) .skip))) (.seq none (.region false [⟨(some 71), (.ibin .i64 .eql (.t 11) (.k (.one (.d (.int .i64 8))))), [], none⟩, ⟨(some 70), (.mov (.t 71)), [0],
  none⟩]) (.cond (.t 70) (.region true [⟨(some 72), (.faddr 3 (.t 1)), [], none⟩, ⟨(some 73), (.load false 1 (.t 72)), [0], none⟩, ⟨(some 74), (.len false (.t 73)), [1], none⟩, ⟨(some 75),
  (.mnmx true (.t 74) (.k (.one (.d (.int .i64 1))))), [2], none⟩, ⟨(some 76), (.mnmx false (.t 75) (.k (.one (.d (.int .i64 4))))), [3], none⟩, ⟨(some 3), (.mov (.k (.one (.d (.int .i64 2))))), [],
  none⟩, ⟨(some 5), (.mov (.t 76)), [4, 5, 0, 1, 2, 3, 4, 5], none⟩]) (.seq none (.region false [⟨(some 78), (.ibin .i64 .eql (.t 11) (.k (.one (.d (.int .i64 9))))), [], none⟩, ⟨(some 77),
  (.mov (.t 78)), [0], none⟩]) (.cond (.t 77) (.region false [⟨(some 3), (.mov (.k (.one (.d (.int .i64 3))))), [], none⟩]) (.seq none (.region false [⟨(some 80),
  (.ibin .i64 .eql (.t 11) (.k (.one (.d (.int .i64 10))))), [], none⟩, ⟨(some 79), (.mov (.t 80)), [0], none⟩]) (.cond (.t 79) (.region false [⟨(some 3), (.mov (.k (.one (.d (.int .i64 3))))), [],
  none⟩, ⟨(some 5), (.mov (.k (.one (.d (.int .i64 2))))), [0, 0], none⟩]) (.seq none (.region false [⟨(some 82), (.ibin .i64 .eql (.t 11) (.k (.one (.d (.int .i64 11))))), [], none⟩, ⟨(some 81),
  (.mov (.t 82)), [0], none⟩]) (.cond (.t 81) (.region false [⟨(some 3), (.mov (.k (.one (.d (.int .i64 2))))), [], none⟩]) (.seq none (.region false [⟨(some 84),
  (.ibin .i64 .eql (.t 11) (.k (.one (.d (.int .i64 12))))), [], none⟩, ⟨(some 83), (.mov (.t 84)), [0], none⟩]) (.cond (.t 83) (.region false [⟨(some 3), (.mov (.k (.one (.d (.int .i64 1))))), [],
  none⟩, ⟨(some 4), (.mov (.k (.one (.d (.int .i64 2))))), [0, 0], none⟩]) (.seq none (.region false [⟨(some 86), (.ibin .i64 .eql (.t 11) (.k (.one (.d (.int .i64 13))))), [], none⟩, ⟨(some 85),
  (.mov (.t 86)), [0], none⟩]) (.cond (.t 85) (.seq none (.region false [⟨(some 87), (.faddr 5 (.t 1)), [], none⟩, ⟨(some 88), (.load false 1 (.t 87)), [0], none⟩, ⟨(some 89), (.len false (.t 88)),
  [1], none⟩, ⟨(some 90), (.mnmx true (.t 89) (.k (.one (.d (.int .i64 1))))), [2], none⟩, ⟨(some 3), (.mov (.t 90)), [3, 0, 1, 2, 3], none⟩]) (.region false [⟨(some 91), (.mov (.t 3)), [], none⟩,
  ⟨(some 4), (.mov (.t 91)), [0, 0], none⟩])) (.seq (some [1, 3, 5, 6, 7, 92]) (.seq none (.region false [⟨(some 93), (.ibin .i64 .eql (.t 11) (.k (.one (.d (.int .i64 14))))), [], none⟩, ⟨(some 92),
  (.mov (.t 93)), [0], none⟩]) (.cond (.t 92) .skip (.region false [⟨(some 94), (.ibin .i64 .eql (.t 11) (.k (.one (.d (.int .i64 15))))), [], none⟩, ⟨(some 92), (.mov (.t 94)), [0],
  none⟩]))) j55_0))))))))))))))))))))))))))))) j55_1))))⟩
theorem c55 : compFunc Tryd.prog [none, none, none, some [1, 3, 4, 5, 6, 7], none, none, none, none, none, none, none, none, none, none, none, none, none, none, none, none, none, none, some [1, 3, 5, 6, 7, 92], none, none, some [1, 3, 4, 5, 6, 7], none, some [1, 3, 4, 5, 6, 7], none, some [1, 3, 4, 5, 6, 7], none, some [1, 3, 4, 5, 6, 7, 123, 124, 125], none, some [1, 3, 4, 5, 6, 7, 123, 124, 125], some [1, 3, 4, 5, 6, 7, 123, 124, 125], none, none, none, none] Tryd.f55 = some sf55 := by kernel_rfl
/-! sortilege/sortilegeref07.Shaped -/
def j56_0 : SCode :=
  (.seq none (.region false [⟨(some 2), (.mov (.k (.one (.d (.bool false))))), [], none⟩]) .ret)
def sf56 : SFunc :=
  ⟨1, [(.tmp 2)], (.seq none (.region false [⟨(some 1), (.box [(.int .i64), (.int .i64), .str, (.lst 1), (.lst 1), (.lst 8), (.int .i64), (.int .i64)] (.t 0)), [], none⟩, ⟨(some 2),
  (.mov (.k (.one (.d (.bool false))))), [], none⟩]) (.seq none (.region true [⟨(some 10), (.faddr 3 (.t 1)), [], none⟩, ⟨(some 11), (.load false 1 (.t 10)), [0], none⟩, ⟨(some 12),
  (.len false (.t 11)), [1], none⟩, ⟨(some 13), (.faddr 4 (.t 1)), [], none⟩, ⟨(some 14), (.load false 1 (.t 13)), [3], none⟩, ⟨(some 15), (.len false (.t 14)), [4], none⟩, ⟨(some 16),
  (.faddr 5 (.t 1)), [], none⟩, ⟨(some 17), (.load false 1 (.t 16)), [6], none⟩, ⟨(some 18), (.len false (.t 17)), [7], none⟩, ⟨(some 19), (.faddr 1 (.t 1)), [], none⟩, ⟨(some 20),
  (.load false 1 (.t 19)), [9], none⟩, ⟨(some 3), (.mov (.t 12)), [2, 0, 1, 2], none⟩, ⟨(some 4), (.mov (.t 15)), [5, 11, 0, 1, 2, 3, 4, 5, 11], none⟩, ⟨(some 5), (.mov (.t 18)), [8, 12, 0, 1, 2, 3,
  4, 5, 6, 7, 8, 11, 12], none⟩, ⟨(some 6), (.mov (.t 20)), [10, 13, 0, 1, 2, 3, 4, 5, 6, 7, 8, 9, 10, 11, 12, 13], none⟩]) (.seq none (.region false [⟨(some 21), (.mov (.t 3)), [], none⟩, ⟨(some 22),
  (.ibin .i64 .eql (.t 21) (.k (.one (.d (.int .i64 0))))), [0], none⟩, ⟨(some 23), (.mov (.t 22)), [1], none⟩, ⟨(some 24), (.mov (.t 4)), [2], (some (2, (23, true)))⟩, ⟨(some 25),
  (.ibin .i64 .eql (.t 24) (.k (.one (.d (.int .i64 0))))), [3, 2], (some (2, (23, true)))⟩, ⟨(some 26), (.pick (.t 23) (.t 25) (.k (.one (.d (.bool false))))), [2, 4], none⟩, ⟨(some 7),
  (.mov (.t 26)), [5, 2, 0, 1, 2, 3, 4, 5], none⟩]) (.seq none (.region false [⟨(some 27), (.faddr 2 (.t 1)), [], none⟩, ⟨(some 28), (.load false 1 (.t 27)), [0], none⟩, ⟨(some 29),
  (.sbin .eql (.t 28) (.k (.one (.d (.str ⟨#[]⟩))))), [1], none⟩, ⟨(some 30), (.mov (.t 29)), [2], none⟩, ⟨(some 31), (.mov (.t 6)), [3], (some (3, (30, true)))⟩, ⟨(some 32),
  (.ibin .i64 .eql (.t 31) (.k (.one (.d (.int .i64 0))))), [4, 3], (some (3, (30, true)))⟩, ⟨(some 33), (.pick (.t 30) (.t 32) (.k (.one (.d (.bool false))))), [3, 5], none⟩, ⟨(some 8),
  (.mov (.t 33)), [6, 3, 0, 1, 2, 3, 4, 5, 6], none⟩]) (.seq (some []) (.seq none (.region false [⟨(some 34), (.faddr 0 (.t 1)), [], none⟩, ⟨(some 35), (.load false 1 (.t 34)), [0],
  none⟩]) (.block 0 (.seq none (.region false [⟨(some 37), (.ibin .i64 .eql (.t 35) (.k (.one (.d (.int .i64 1))))), [], none⟩, ⟨(some 36), (.mov (.t 37)), [0],
  none⟩]) (.cond (.t 36) (.seq none (.region false [⟨(some 38), (.mov (.t 7)), [], none⟩, ⟨(some 39), (.mov (.t 38)), [0], none⟩, ⟨(some 40), (.mov (.t 5)), [1], (some (1, (39, true)))⟩, ⟨(some 41),
  (.ibin .i64 .eql (.t 40) (.k (.one (.d (.int .i64 0))))), [2, 1], (some (1, (39, true)))⟩, ⟨(some 42), (.pick (.t 39) (.t 41) (.k (.one (.d (.bool false))))), [1, 3], none⟩, ⟨(some 43),
  (.mov (.t 42)), [4, 1], none⟩, ⟨(some 44), (.faddr 2 (.t 1)), [5], (some (5, (43, true)))⟩, ⟨(some 45), (.load false 1 (.t 44)), [6, 5], (some (5, (43, true)))⟩, ⟨(some 46),
  (.sbin .eql (.t 45) (.k (.one (.d (.str ⟨#[]⟩))))), [7, 5], (some (5, (43, true)))⟩, ⟨(some 47), (.pick (.t 43) (.t 46) (.k (.one (.d (.bool false))))), [5, 8], none⟩, ⟨(some 48), (.mov (.t 47)),
  [9, 5], none⟩, ⟨(some 49), (.mov (.t 6)), [10], (some (10, (48, true)))⟩, ⟨(some 50), (.ibin .i64 .geq (.t 49) (.k (.one (.d (.int .i64 0))))), [11, 10], (some (10, (48, true)))⟩, ⟨(some 51),
  (.pick (.t 48) (.t 50) (.k (.one (.d (.bool false))))), [10, 12], none⟩, ⟨(some 52), (.mov (.t 51)), [13, 10], none⟩, ⟨(some 53), (.mov (.t 6)), [14], (some (14, (52, true)))⟩, ⟨(some 54),
  (.ibin .i64 .leq (.t 53) (.k (.one (.d (.int .i64 2147483647))))), [15, 14], (some (14, (52, true)))⟩, ⟨(some 55), (.pick (.t 52) (.t 54) (.k (.one (.d (.bool false))))), [14, 16], none⟩, ⟨(some 2),
  (.mov (.t 55)), [17, 14, 0, 1, 2, 3, 4, 5, 6, 7, 8, 9, 10, 11, 12, 13, 14, 15, 16, 17], none⟩]) .ret) (.seq none (.region false [⟨(some 57), (.ibin .i64 .eql (.t 35) (.k (.one (.d (.int .i64 2))))),
  [], none⟩, ⟨(some 56), (.mov (.t 57)), [0], none⟩]) (.cond (.t 56) (.seq none (.region false [⟨(some 58), (.mov (.t 7)), [], none⟩, ⟨(some 59), (.mov (.t 58)), [0], none⟩, ⟨(some 60), (.mov (.t 5)),
  [1], (some (1, (59, true)))⟩, ⟨(some 61), (.ibin .i64 .eql (.t 60) (.k (.one (.d (.int .i64 0))))), [2, 1], (some (1, (59, true)))⟩, ⟨(some 62),
  (.pick (.t 59) (.t 61) (.k (.one (.d (.bool false))))), [1, 3], none⟩, ⟨(some 63), (.mov (.t 62)), [4, 1], none⟩, ⟨(some 64), (.faddr 2 (.t 1)), [5], (some (5, (63, true)))⟩, ⟨(some 65),
  (.load false 1 (.t 64)), [6, 5], (some (5, (63, true)))⟩, ⟨(some 66), (.sbin .eql (.t 65) (.k (.one (.d (.str ⟨#[]⟩))))), [7, 5], (some (5, (63, true)))⟩, ⟨(some 67),
  (.pick (.t 63) (.t 66) (.k (.one (.d (.bool false))))), [5, 8], none⟩, ⟨(some 68), (.mov (.t 67)), [9, 5], none⟩, ⟨(some 69), (.mov (.t 6)), [10], (some (10, (68, true)))⟩, ⟨(some 70),
  (.ibin .i64 .eql (.t 69) (.k (.one (.d (.int .i64 0))))), [11, 10], (some (10, (68, true)))⟩, ⟨(some 71), (.mov (.t 70)), [12, 10, 10], (some (10, (68, true)))⟩, ⟨(some 72), (.mov (.t 6)), [13],
  (some (13, (71, false)))⟩, ⟨(some 73), (.ibin .i64 .eql (.t 72) (.k (.one (.d (.int .i64 1))))), [14, 13], (some (13, (71, false)))⟩, ⟨(some 74),
  (.pick (.t 71) (.k (.one (.d (.bool true)))) (.t 73)), [13, 15, 10], (some (10, (68, true)))⟩, ⟨(some 75), (.pick (.t 68) (.t 74) (.k (.one (.d (.bool false))))), [10, 16], none⟩, ⟨(some 2),
  (.mov (.t 75)), [17, 13, 0, 1, 2, 3, 4, 5, 6, 7, 8, 9, 10, 11, 12, 13, 14, 15, 16, 17], none⟩]) .ret) (.seq none (.region false [⟨(some 77), (.ibin .i64 .eql (.t 35) (.k (.one (.d (.int .i64 3))))),
  [], none⟩, ⟨(some 76), (.mov (.t 77)), [0], none⟩]) (.cond (.t 76) (.seq none (.region false [⟨(some 78), (.mov (.t 7)), [], none⟩, ⟨(some 79), (.mov (.t 78)), [0], none⟩, ⟨(some 80), (.mov (.t 5)),
  [1], (some (1, (79, true)))⟩, ⟨(some 81), (.ibin .i64 .eql (.t 80) (.k (.one (.d (.int .i64 0))))), [2, 1], (some (1, (79, true)))⟩, ⟨(some 82),
  (.pick (.t 79) (.t 81) (.k (.one (.d (.bool false))))), [1, 3], none⟩, ⟨(some 83), (.mov (.t 82)), [4, 1], none⟩, ⟨(some 84), (.mov (.t 6)), [5], (some (5, (83, true)))⟩, ⟨(some 85),
  (.ibin .i64 .eql (.t 84) (.k (.one (.d (.int .i64 0))))), [6, 5], (some (5, (83, true)))⟩, ⟨(some 86), (.pick (.t 83) (.t 85) (.k (.one (.d (.bool false))))), [5, 7], none⟩, ⟨(some 87),
  (.mov (.t 86)), [8, 5], none⟩, ⟨(some 88), (.faddr 2 (.t 1)), [9], (some (9, (87, true)))⟩, ⟨(some 89), (.load false 1 (.t 88)), [10, 9], (some (9, (87, true)))⟩, ⟨(some 90), (.call 30 [(.t 89),
  (.k (.one (.d (.bool false))))]), [11, 9, 9], (some (9, (87, true)))⟩, ⟨(some 91), (.pick (.t 87) (.t 90) (.k (.one (.d (.bool false))))), [9, 12], none⟩, ⟨(some 2), (.mov (.t 91)), [13, 12, 0, 1,
  2, 3, 4, 5, 6, 7, 8, 9, 10, 11, 12, 13], none⟩]) .ret) (.seq none (.region false [⟨(some 93), (.ibin .i64 .eql (.t 35) (.k (.one (.d (.int .i64 4))))), [], none⟩, ⟨(some 92), (.mov (.t 93)), [0],
  none⟩]) (.cond (.t 92) (.seq none (.region false [⟨(some 94), (.mov (.t 7)), [], none⟩, ⟨(some 95), (.mov (.t 94)), [0], none⟩, ⟨(some 96), (.mov (.t 6)), [1], (some (1, (95, true)))⟩, ⟨(some 97),
  (.ibin .i64 .eql (.t 96) (.k (.one (.d (.int .i64 0))))), [2, 1], (some (1, (95, true)))⟩, ⟨(some 98), (.pick (.t 95) (.t 97) (.k (.one (.d (.bool false))))), [1, 3], none⟩, ⟨(some 99),
  (.mov (.t 98)), [4, 1], none⟩, ⟨(some 100), (.faddr 2 (.t 1)), [5], (some (5, (99, true)))⟩, ⟨(some 101), (.load false 1 (.t 100)), [6, 5], (some (5, (99, true)))⟩, ⟨(some 102), (.call 30 [(.t 101),
  (.k (.one (.d (.bool false))))]), [7, 5, 5], (some (5, (99, true)))⟩, ⟨(some 103), (.pick (.t 99) (.t 102) (.k (.one (.d (.bool false))))), [5, 8], none⟩, ⟨(some 2), (.mov (.t 103)), [9, 8, 0, 1, 2,
  3, 4, 5, 6, 7, 8, 9], none⟩]) .ret) (.seq none (.region false [⟨(some 105), (.ibin .i64 .eql (.t 35) (.k (.one (.d (.int .i64 5))))), [], none⟩, ⟨(some 104), (.mov (.t 105)), [0],
  none⟩]) (.cond (.t 104) (.seq none (.region false [⟨(some 106), (.mov (.t 7)), [], none⟩, ⟨(some 107), (.mov (.t 106)), [0], none⟩, ⟨(some 108), (.mov (.t 8)), [1], (some (1, (107, true)))⟩,
  ⟨(some 109), (.pick (.t 107) (.t 108) (.k (.one (.d (.bool false))))), [1, 2], none⟩, ⟨(some 110), (.mov (.t 109)), [3, 1], none⟩, ⟨(some 111), (.mov (.t 5)), [4], (some (4, (110, true)))⟩,
  ⟨(some 112), (.ibin .i64 .geq (.t 111) (.k (.one (.d (.int .i64 2))))), [5, 4], (some (4, (110, true)))⟩, ⟨(some 113), (.pick (.t 110) (.t 112) (.k (.one (.d (.bool false))))), [4, 6], none⟩,
  ⟨(some 114), (.mov (.t 113)), [7, 4], none⟩, ⟨(some 115), (.mov (.t 5)), [8], (some (8, (114, true)))⟩, ⟨(some 116), (.ibin .i64 .leq (.t 115) (.k (.one (.d (.int .i64 4))))), [9, 8], (some (8,
  (114, true)))⟩, ⟨(some 117), (.pick (.t 114) (.t 116) (.k (.one (.d (.bool false))))), [8, 10], none⟩, ⟨(some 2), (.mov (.t 117)), [11, 8, 0, 1, 2, 3, 4, 5, 6, 7, 8, 9, 10, 11],
  none⟩]) .ret) (.seq none (.region false [⟨(some 119), (.ibin .i64 .eql (.t 35) (.k (.one (.d (.int .i64 6))))), [], none⟩, ⟨(some 118), (.mov (.t 119)), [0],
  none⟩]) (.cond (.t 118) (.seq none (.region false [⟨(some 120), (.mov (.t 7)), [], none⟩, ⟨(some 121), (.mov (.t 120)), [0], none⟩, ⟨(some 122), (.mov (.t 8)), [1], (some (1, (121, true)))⟩,
  ⟨(some 123), (.pick (.t 121) (.t 122) (.k (.one (.d (.bool false))))), [1, 2], none⟩, ⟨(some 2), (.mov (.t 123)), [3, 1, 0, 1, 2, 3], none⟩]) .ret) (.seq none (.region false [⟨(some 125),
  (.ibin .i64 .eql (.t 35) (.k (.one (.d (.int .i64 7))))), [], none⟩, ⟨(some 124), (.mov (.t 125)), [0], none⟩]) (.cond (.t 124) (.seq none (.region false [⟨(some 126), (.faddr 2 (.t 1)), [], none⟩,
  ⟨(some 127), (.load false 1 (.t 126)), [0], none⟩, ⟨(some 128), (.call 91 [(.t 127)]), [1], none⟩, ⟨(some 9), (.mov (.t 128)), [2, 2, 0, 1, 2], none⟩]) (.seq none (.region false [⟨(some 129),
  (.mov (.t 7)), [], none⟩, ⟨(some 130), (.mov (.t 129)), [0], none⟩, ⟨(some 131), (.mov (.t 6)), [1], (some (1, (130, true)))⟩, ⟨(some 132), (.ibin .i64 .eql (.t 131) (.k (.one (.d (.int .i64 0))))),
  [2, 1], (some (1, (130, true)))⟩, ⟨(some 133), (.pick (.t 130) (.t 132) (.k (.one (.d (.bool false))))), [1, 3], none⟩, ⟨(some 134), (.mov (.t 133)), [4, 1], none⟩, ⟨(some 135), (.mov (.t 9)), [5],
  (some (5, (134, true)))⟩, ⟨(some 136), (.ibin .i64 .gtr (.t 135) (.k (.one (.d (.int .i64 0))))), [6, 5], (some (5, (134, true)))⟩, ⟨(some 137),
  (.pick (.t 134) (.t 136) (.k (.one (.d (.bool false))))), [5, 7], none⟩, ⟨(some 138), (.mov (.t 137)), [8, 5], none⟩, ⟨(some 139), (.mov (.t 9)), [9], (some (9, (138, true)))⟩, ⟨(some 140),
  (.ibin .i64 .eql (.t 139) (.k (.one (.d (.int .i64 7))))), [10, 9], (some (9, (138, true)))⟩, ⟨(some 141), (.mov (.t 140)), [11, 9, 9], (some (9, (138, true)))⟩, ⟨(some 142), (.mov (.t 5)), [12],
  (some (12, (141, true)))⟩, ⟨(some 143), (.ibin .i64 .eql (.t 142) (.k (.one (.d (.int .i64 1))))), [13, 12], (some (12, (141, true)))⟩, ⟨(some 144),
  (.pick (.t 141) (.t 143) (.k (.one (.d (.bool false))))), [12, 14, 9], (some (9, (138, true)))⟩, ⟨(some 145), (.mov (.t 144)), [15, 12, 9], (some (9, (138, true)))⟩, ⟨(some 146), (.mov (.t 9)),
  [16], (some (16, (145, false)))⟩, ⟨(some 147), (.ibin .i64 .lss (.t 146) (.k (.one (.d (.int .i64 7))))), [17, 16], (some (16, (145, false)))⟩, ⟨(some 148), (.mov (.t 147)), [18, 16, 16], (some (16,
  (145, false)))⟩, ⟨(some 149), (.mov (.t 5)), [19], (some (19, (148, true)))⟩, ⟨(some 150), (.ibin .i64 .eql (.t 149) (.k (.one (.d (.int .i64 2))))), [20, 19], (some (19, (148, true)))⟩,
  ⟨(some 151), (.pick (.t 148) (.t 150) (.k (.one (.d (.bool false))))), [19, 21, 16], (some (16, (145, false)))⟩, ⟨(some 152), (.pick (.t 145) (.k (.one (.d (.bool true)))) (.t 151)), [16, 22, 9],
  (some (9, (138, true)))⟩, ⟨(some 153), (.pick (.t 138) (.t 152) (.k (.one (.d (.bool false))))), [9, 23], none⟩, ⟨(some 2), (.mov (.t 153)), [24, 19, 0, 1, 2, 3, 4, 5, 6, 7, 8, 9, 10, 11, 12, 13,
  14, 15, 16, 17, 18, 19, 20, 21, 22, 23, 24], none⟩]) .ret)) (.seq none (.region false [⟨(some 155), (.ibin .i64 .eql (.t 35) (.k (.one (.d (.int .i64 8))))), [], none⟩, ⟨(some 154), (.mov (.t 155)),
  [0], none⟩]) (.cond (.t 154) (.seq none (.region false [⟨(some 156), (.mov (.t 8)), [], none⟩, ⟨(some 157), (.mov (.t 156)), [0], none⟩, ⟨(some 158), (.mov (.t 4)), [1], (some (1, (157, true)))⟩,
  ⟨(some 159), (.ibin .i64 .eql (.t 158) (.k (.one (.d (.int .i64 0))))), [2, 1], (some (1, (157, true)))⟩, ⟨(some 160), (.pick (.t 157) (.t 159) (.k (.one (.d (.bool false))))), [1, 3], none⟩,
  ⟨(some 161), (.mov (.t 160)), [4, 1], none⟩, ⟨(some 162), (.mov (.t 5)), [5], (some (5, (161, true)))⟩, ⟨(some 163), (.ibin .i64 .eql (.t 162) (.k (.one (.d (.int .i64 2))))), [6, 5], (some (5,
  (161, true)))⟩, ⟨(some 164), (.pick (.t 161) (.t 163) (.k (.one (.d (.bool false))))), [5, 7], none⟩, ⟨(some 165), (.mov (.t 164)), [8, 5], none⟩, ⟨(some 166), (.mov (.t 3)), [9], (some (9, (165,
  true)))⟩, ⟨(some 167), (.ibin .i64 .geq (.t 166) (.k (.one (.d (.int .i64 1))))), [10, 9], (some (9, (165, true)))⟩, ⟨(some 168), (.pick (.t 165) (.t 167) (.k (.one (.d (.bool false))))), [9, 11],
  none⟩, ⟨(some 169), (.mov (.t 168)), [12, 9], none⟩, ⟨(some 170), (.mov (.t 3)), [13], (some (13, (169, true)))⟩, ⟨(some 171), (.ibin .i64 .leq (.t 170) (.k (.one (.d (.int .i64 4))))), [14, 13],
  (some (13, (169, true)))⟩, ⟨(some 172), (.pick (.t 169) (.t 171) (.k (.one (.d (.bool false))))), [13, 15], none⟩, ⟨(some 173), (.mov (.t 172)), [16, 13], none⟩, ⟨(some 174), (.faddr 3 (.t 1)),
  [17], (some (17, (173, true)))⟩, ⟨(some 175), (.load false 1 (.t 174)), [18, 17], (some (17, (173, true)))⟩, ⟨(some 176), (.call 92 [(.t 175)]), [19, 17, 17], (some (17, (173, true)))⟩, ⟨(some 177),
  (.pick (.t 173) (.t 176) (.k (.one (.d (.bool false))))), [17, 20], none⟩, ⟨(some 2), (.mov (.t 177)), [21, 20, 0, 1, 2, 3, 4, 5, 6, 7, 8, 9, 10, 11, 12, 13, 14, 15, 16, 17, 18, 19, 20, 21],
  none⟩]) .ret) (.seq none (.region false [⟨(some 179), (.ibin .i64 .eql (.t 35) (.k (.one (.d (.int .i64 9))))), [], none⟩, ⟨(some 178), (.mov (.t 179)), [0],
  none⟩]) (.cond (.t 178) (.seq none (.region false [⟨(some 180), (.mov (.t 7)), [], none⟩, ⟨(some 181), (.mov (.t 180)), [0], none⟩, ⟨(some 182), (.mov (.t 8)), [1], (some (1, (181, true)))⟩,
  ⟨(some 183), (.pick (.t 181) (.t 182) (.k (.one (.d (.bool false))))), [1, 2], none⟩, ⟨(some 184), (.mov (.t 183)), [3, 1], none⟩, ⟨(some 185), (.mov (.t 5)), [4], (some (4, (184, true)))⟩,
  ⟨(some 186), (.ibin .i64 .eql (.t 185) (.k (.one (.d (.int .i64 3))))), [5, 4], (some (4, (184, true)))⟩, ⟨(some 187), (.pick (.t 184) (.t 186) (.k (.one (.d (.bool false))))), [4, 6], none⟩,
  ⟨(some 2), (.mov (.t 187)), [7, 4, 0, 1, 2, 3, 4, 5, 6, 7], none⟩]) .ret) (.seq none (.region false [⟨(some 189), (.ibin .i64 .eql (.t 35) (.k (.one (.d (.int .i64 10))))), [], none⟩, ⟨(some 188),
  (.mov (.t 189)), [0], none⟩]) (.cond (.t 188) (.seq none (.region false [⟨(some 190), (.mov (.t 8)), [], none⟩, ⟨(some 191), (.mov (.t 190)), [0], none⟩, ⟨(some 192), (.mov (.t 4)), [1], (some (1,
  (191, true)))⟩, ⟨(some 193), (.ibin .i64 .eql (.t 192) (.k (.one (.d (.int .i64 0))))), [2, 1], (some (1, (191, true)))⟩, ⟨(some 194), (.pick (.t 191) (.t 193) (.k (.one (.d (.bool false))))), [1,
  3], none⟩, ⟨(some 195), (.mov (.t 194)), [4, 1], none⟩, ⟨(some 196), (.mov (.t 5)), [5], (some (5, (195, true)))⟩, ⟨(some 197), (.ibin .i64 .eql (.t 196) (.k (.one (.d (.int .i64 3))))), [6, 5],
  (some (5, (195, true)))⟩, ⟨(some 198), (.pick (.t 195) (.t 197) (.k (.one (.d (.bool false))))), [5, 7], none⟩, ⟨(some 199), (.mov (.t 198)), [8, 5], none⟩, ⟨(some 200), (.mov (.t 3)), [9],
  (some (9, (199, true)))⟩, ⟨(some 201), (.ibin .i64 .eql (.t 200) (.k (.one (.d (.int .i64 2))))), [10, 9], (some (9, (199, true)))⟩, ⟨(some 202),
  (.pick (.t 199) (.t 201) (.k (.one (.d (.bool false))))), [9, 11], none⟩, ⟨(some 203), (.mov (.t 202)), [12, 9], none⟩, ⟨(some 204), (.faddr 3 (.t 1)), [13], (some (13, (203, true)))⟩, ⟨(some 205),
  (.load false 1 (.t 204)), [14, 13], (some (13, (203, true)))⟩, ⟨(some 206), (.call 92 [(.t 205)]), [15, 13, 13], (some (13, (203, true)))⟩, ⟨(some 207),
  (.pick (.t 203) (.t 206) (.k (.one (.d (.bool false))))), [13, 16], none⟩, ⟨(some 2), (.mov (.t 207)), [17, 16, 0, 1, 2, 3, 4, 5, 6, 7, 8, 9, 10, 11, 12, 13, 14, 15, 16, 17],
  none⟩]) .ret) (.seq none (.region false [⟨(some 209), (.ibin .i64 .eql (.t 35) (.k (.one (.d (.int .i64 11))))), [], none⟩, ⟨(some 208), (.mov (.t 209)), [0],
  none⟩]) (.cond (.t 208) (.seq none (.region false [⟨(some 210), (.mov (.t 7)), [], none⟩, ⟨(some 211), (.mov (.t 210)), [0], none⟩, ⟨(some 212), (.mov (.t 8)), [1], (some (1, (211, true)))⟩,
  ⟨(some 213), (.pick (.t 211) (.t 212) (.k (.one (.d (.bool false))))), [1, 2], none⟩, ⟨(some 214), (.mov (.t 213)), [3, 1], none⟩, ⟨(some 215), (.mov (.t 5)), [4], (some (4, (214, true)))⟩,
  ⟨(some 216), (.ibin .i64 .eql (.t 215) (.k (.one (.d (.int .i64 2))))), [5, 4], (some (4, (214, true)))⟩, ⟨(some 217), (.pick (.t 214) (.t 216) (.k (.one (.d (.bool false))))), [4, 6], none⟩,
  ⟨(some 2), (.mov (.t 217)), [7, 4, 0, 1, 2, 3, 4, 5, 6, 7], none⟩]) .ret) (.seq none (.region false [⟨(some 219), (.ibin .i64 .eql (.t 35) (.k (.one (.d (.int .i64 12))))), [], none⟩, ⟨(some 218),
  (.mov (.t 219)), [0], none⟩]) (.cond (.t 218) (.seq none (.region false [⟨(some 220), (.mov (.t 8)), [], none⟩, ⟨(some 221), (.mov (.t 220)), [0], none⟩, ⟨(some 222), (.mov (.t 3)), [1], (some (1,
  (221, true)))⟩, ⟨(some 223), (.ibin .i64 .eql (.t 222) (.k (.one (.d (.int .i64 0))))), [2, 1], (some (1, (221, true)))⟩, ⟨(some 224), (.pick (.t 221) (.t 223) (.k (.one (.d (.bool false))))), [1,
  3], none⟩, ⟨(some 225), (.mov (.t 224)), [4, 1], none⟩, ⟨(some 226), (.mov (.t 5)), [5], (some (5, (225, true)))⟩, ⟨(some 227), (.ibin .i64 .eql (.t 226) (.k (.one (.d (.int .i64 1))))), [6, 5],
  (some (5, (225, true)))⟩, ⟨(some 228), (.pick (.t 225) (.t 227) (.k (.one (.d (.bool false))))), [5, 7], none⟩, ⟨(some 229), (.mov (.t 228)), [8, 5], none⟩, ⟨(some 230), (.mov (.t 4)), [9],
  (some (9, (229, true)))⟩, ⟨(some 231), (.ibin .i64 .eql (.t 230) (.k (.one (.d (.int .i64 2))))), [10, 9], (some (9, (229, true)))⟩, ⟨(some 232),
  (.pick (.t 229) (.t 231) (.k (.one (.d (.bool false))))), [9, 11], none⟩, ⟨(some 233), (.mov (.t 232)), [12, 9], none⟩, ⟨(some 234), (.faddr 4 (.t 1)), [13], (some (13, (233, true)))⟩, ⟨(some 235),
  (.load false 1 (.t 234)), [14, 13], (some (13, (233, true)))⟩, ⟨(some 236), (.call 93 [(.t 235), (.k (.one (.d (.int .i64 0)))), (.k (.one (.d (.int .i64 2147483647))))]), [15, 13, 13], (some (13,
  (233, true)))⟩, ⟨(some 237), (.pick (.t 233) (.t 236) (.k (.one (.d (.bool false))))), [13, 16], none⟩, ⟨(some 2), (.mov (.t 237)), [17, 16, 0, 1, 2, 3, 4, 5, 6, 7, 8, 9, 10, 11, 12, 13, 14, 15, 16,
  17], none⟩]) .ret) (.seq none (.region false [⟨(some 239), (.ibin .i64 .eql (.t 35) (.k (.one (.d (.int .i64 13))))), [], none⟩, ⟨(some 238), (.mov (.t 239)), [0],
  none⟩]) (.cond (.t 238) (.seq none (.region false [⟨(some 240), (.mov (.t 8)), [], none⟩, ⟨(some 241), (.mov (.t 240)), [0], none⟩, ⟨(some 242), (.mov (.t 3)), [1], (some (1, (241, true)))⟩,
  ⟨(some 243), (.ibin .i64 .eql (.t 242) (.k (.one (.d (.int .i64 0))))), [2, 1], (some (1, (241, true)))⟩, ⟨(some 244), (.pick (.t 241) (.t 243) (.k (.one (.d (.bool false))))), [1, 3], none⟩,
  ⟨(some 245), (.mov (.t 244)), [4, 1], none⟩, ⟨(some 246), (.mov (.t 5)), [5], (some (5, (245, true)))⟩, ⟨(some 247), (.ibin .i64 .geq (.t 246) (.k (.one (.d (.int .i64 1))))), [6, 5], (some (5,
  (245, true)))⟩, ⟨(some 248), (.pick (.t 245) (.t 247) (.k (.one (.d (.bool false))))), [5, 7], none⟩, ⟨(some 249), (.mov (.t 248)), [8, 5], none⟩, ⟨(some 250), (.mov (.t 4)), [9], (some (9, (249,
  true)))⟩, ⟨(some 251), (.mov (.t 5)), [9], (some (9, (249, true)))⟩, ⟨(some 252), (.ibin .i64 .eql (.t 250) (.t 251)), [10, 11, 9], (some (9, (249, true)))⟩, ⟨(some 253),
  (.pick (.t 249) (.t 252) (.k (.one (.d (.bool false))))), [9, 12], none⟩, ⟨(some 254), (.mov (.t 253)), [13, 9], none⟩, ⟨(some 255), (.faddr 4 (.t 1)), [14], (some (14, (254, true)))⟩, ⟨(some 256),
  (.load false 1 (.t 255)), [15, 14], (some (14, (254, true)))⟩, ⟨(some 257), (.call 93 [(.t 256), (.k (.one (.d (.int .i64 0)))), (.k (.one (.d (.int .i64 2147483647))))]), [16, 14, 14], (some (14,
  (254, true)))⟩, ⟨(some 258), (.pick (.t 254) (.t 257) (.k (.one (.d (.bool false))))), [14, 17], none⟩, ⟨(some 2), (.mov (.t 258)), [18, 17, 0, 1, 2, 3, 4, 5, 6, 7, 8, 9, 10, 11, 12, 13, 14, 15, 16,
  17, 18], none⟩]) .ret) (.seq none (.region false [⟨(some 260), (.ibin .i64 .eql (.t 35) (.k (.one (.d (.int .i64 14))))), [], none⟩, ⟨(some 259), (.mov (.t 260)), [0],
  none⟩]) (.cond (.t 259) (.seq none (.region false [⟨(some 261), (.mov (.t 8)), [], none⟩, ⟨(some 262), (.mov (.t 261)), [0], none⟩, ⟨(some 263), (.mov (.t 3)), [1], (some (1, (262, true)))⟩,
  ⟨(some 264), (.ibin .i64 .eql (.t 263) (.k (.one (.d (.int .i64 0))))), [2, 1], (some (1, (262, true)))⟩, ⟨(some 265), (.pick (.t 262) (.t 264) (.k (.one (.d (.bool false))))), [1, 3], none⟩,
  ⟨(some 266), (.mov (.t 265)), [4, 1], none⟩, ⟨(some 267), (.mov (.t 5)), [5], (some (5, (266, true)))⟩, ⟨(some 268), (.ibin .i64 .eql (.t 267) (.k (.one (.d (.int .i64 0))))), [6, 5], (some (5,
  (266, true)))⟩, ⟨(some 269), (.pick (.t 266) (.t 268) (.k (.one (.d (.bool false))))), [5, 7], none⟩, ⟨(some 270), (.mov (.t 269)), [8, 5], none⟩, ⟨(some 271), (.mov (.t 4)), [9], (some (9, (270,
  true)))⟩, ⟨(some 272), (.ibin .i64 .eql (.t 271) (.k (.one (.d (.int .i64 2))))), [10, 9], (some (9, (270, true)))⟩, ⟨(some 273), (.pick (.t 270) (.t 272) (.k (.one (.d (.bool false))))), [9, 11],
  none⟩, ⟨(some 274), (.mov (.t 273)), [12, 9], none⟩, ⟨(some 275), (.faddr 4 (.t 1)), [13], (some (13, (274, true)))⟩, ⟨(some 276), (.load false 1 (.t 275)), [14, 13], (some (13, (274, true)))⟩,
  ⟨(some 277), (.call 93 [(.t 276), (.k (.one (.d (.int .i64 0)))), (.k (.one (.d (.int .i64 2147483647))))]), [15, 13, 13], (some (13, (274, true)))⟩, ⟨(some 278),
  (.pick (.t 274) (.t 277) (.k (.one (.d (.bool false))))), [13, 16], none⟩, ⟨(some 2), (.mov (.t 278)), [17, 16, 0, 1, 2, 3, 4, 5, 6, 7, 8, 9, 10, 11, 12, 13, 14, 15, 16, 17],
  none⟩]) .ret) (.seq none (.region false [⟨(some 280), (.ibin .i64 .eql (.t 35) (.k (.one (.d (.int .i64 15))))), [], none⟩, ⟨(some 279), (.mov (.t 280)), [0],
  none⟩]) (.cond (.t 279) (.seq none (.region false [⟨(some 281), (.mov (.t 8)), [], none⟩, ⟨(some 282), (.mov (.t 281)), [0], none⟩, ⟨(some 283), (.mov (.t 3)), [1], (some (1, (282, true)))⟩,
  ⟨(some 284), (.ibin .i64 .eql (.t 283) (.k (.one (.d (.int .i64 0))))), [2, 1], (some (1, (282, true)))⟩, ⟨(some 285), (.pick (.t 282) (.t 284) (.k (.one (.d (.bool false))))), [1, 3], none⟩,
  ⟨(some 286), (.mov (.t 285)), [4, 1], none⟩, ⟨(some 287), (.mov (.t 5)), [5], (some (5, (286, true)))⟩, ⟨(some 288), (.ibin .i64 .eql (.t 287) (.k (.one (.d (.int .i64 0))))), [6, 5], (some (5,
  (286, true)))⟩, ⟨(some 289), (.pick (.t 286) (.t 288) (.k (.one (.d (.bool false))))), [5, 7], none⟩, ⟨(some 290), (.mov (.t 289)), [8, 5], none⟩, ⟨(some 291), (.mov (.t 4)), [9], (some (9, (290,
  true)))⟩, ⟨(some 292), (.ibin .i64 .eql (.t 291) (.k (.one (.d (.int .i64 2))))), [10, 9], (some (9, (290, true)))⟩, ⟨(some 293), (.pick (.t 290) (.t 292) (.k (.one (.d (.bool false))))), [9, 11],
  none⟩, ⟨(some 294), (.mov (.t 293)), [12, 9], none⟩, ⟨(some 295), (.faddr 4 (.t 1)), [13], (some (13, (294, true)))⟩, ⟨(some 296), (.load false 1 (.t 295)), [14, 13], (some (13, (294, true)))⟩,
  ⟨(some 297), (.call 93 [(.t 296), (.k (.one (.d (.int .i64 (-2147483647))))), (.k (.one (.d (.int .i64 2147483647))))]), [15, 13, 13], (some (13, (294, true)))⟩, ⟨(some 298),
  (.pick (.t 294) (.t 297) (.k (.one (.d (.bool false))))), [13, 16], none⟩, ⟨(some 2), (.mov (.t 298)), [17, 16, 0, 1, 2, 3, 4, 5, 6, 7, 8, 9, 10, 11, 12, 13, 14, 15, 16, 17],
  none⟩]) .ret) .skip)))))))))))))))))))))))))))))))) j56_0)))))⟩
theorem c56 : compFunc Tryd.prog [none, none, none, none, some [], none, none, none, none, none, none, none, none, none, none, none, none, none, none, none, none, none, none, none, none, none, none, none, none, none, none, none, none, none, none, none, none, none] Tryd.f56 = some sf56 := by kernel_rfl
/-! (*strings.Builder).Len -/
def sf57 : SFunc :=
  ⟨1, [(.tmp 2)], (.seq none (.region false [⟨(some 2), (.mov (.k (.one (.d (.int .i64 0))))), [], none⟩]) (.seq none (.region false [⟨(some 3), (.mov (.t 0)), [], none⟩, ⟨(some 4), (.nchk (.t 3)), [0],
  none⟩, ⟨(some 5), (.faddr 1 (.t 4)), [1], none⟩, ⟨(some 6), (.load false 1 (.t 5)), [2], none⟩, ⟨(some 7), (.len false (.t 6)), [3], none⟩, ⟨(some 2), (.mov (.t 7)), [4, 0, 1, 2, 3, 4],
  none⟩]) .ret))⟩
theorem c57 : compFunc Tryd.prog [none, none] Tryd.f57 = some sf57 := by kernel_rfl
/-! sortilege/printer.rank -/
def j58_0 : SCode :=
  (.cond (.t 10) (.seq none (.region false [⟨(some 2), (.mov (.k (.one (.d (.int .i64 0))))), [], none⟩]) .ret) .skip)
def j58_1 : SCode :=
  (.seq none (.region false [⟨(some 2), (.mov (.k (.one (.d (.int .i64 8))))), [], none⟩]) .ret)
def sf58 : SFunc :=
  ⟨1, [(.tmp 2)], (.seq none (.region false [⟨(some 1), (.box [(.int .i64), (.int .i64), .str, (.lst 1), (.lst 1), (.lst 8), (.int .i64), (.int .i64)] (.t 0)), [], none⟩, ⟨(some 2),
  (.mov (.k (.one (.d (.int .i64 0))))), [], none⟩]) (.seq (some []) (.seq none (.region false [⟨(some 3), (.faddr 0 (.t 1)), [], none⟩, ⟨(some 4), (.load false 1 (.t 3)), [0],
  none⟩]) (.block 0 (.seq none (.region false [⟨(some 6), (.ibin .i64 .eql (.t 4) (.k (.one (.d (.int .i64 7))))), [], none⟩, ⟨(some 5), (.mov (.t 6)), [0],
  none⟩]) (.cond (.t 5) (.seq none (.region false [⟨(some 7), (.faddr 2 (.t 1)), [], none⟩, ⟨(some 8), (.load false 1 (.t 7)), [0], none⟩, ⟨(some 9), (.call 89 [(.t 8)]), [1], none⟩, ⟨(some 2),
  (.mov (.t 9)), [2, 2, 0, 1, 2], none⟩]) .ret) (.seq (some [10]) (.seq none (.region false [⟨(some 11), (.ibin .i64 .eql (.t 4) (.k (.one (.d (.int .i64 8))))), [], none⟩, ⟨(some 10), (.mov (.t 11)),
  [0], none⟩]) (.cond (.t 10) .skip (.seq none (.region false [⟨(some 12), (.ibin .i64 .eql (.t 4) (.k (.one (.d (.int .i64 9))))), [], none⟩, ⟨(some 10), (.mov (.t 12)), [0],
  none⟩]) (.cond (.t 10) .skip (.seq none (.region false [⟨(some 13), (.ibin .i64 .eql (.t 4) (.k (.one (.d (.int .i64 10))))), [], none⟩, ⟨(some 10), (.mov (.t 13)), [0],
  none⟩]) (.cond (.t 10) .skip (.seq none (.region false [⟨(some 14), (.ibin .i64 .eql (.t 4) (.k (.one (.d (.int .i64 11))))), [], none⟩, ⟨(some 10), (.mov (.t 14)), [0],
  none⟩]) (.cond (.t 10) .skip (.region false [⟨(some 15), (.ibin .i64 .eql (.t 4) (.k (.one (.d (.int .i64 12))))), [], none⟩, ⟨(some 10), (.mov (.t 15)), [0], none⟩]))))))))) j58_0))))) j58_1))⟩
theorem c58 : compFunc Tryd.prog [none, some [], none, none, none, some [10], none, none, none, none, none, none] Tryd.f58 = some sf58 := by kernel_rfl
/-! strconv.FormatBool -/
def sf60 : SFunc :=
  ⟨1, [(.tmp 2)], (.seq none (.region false [⟨(some 2), (.mov (.k (.one (.d (.str ⟨#[]⟩))))), [], none⟩]) (.seq none (.region false [⟨(some 3), (.mov (.t 0)), [], none⟩, ⟨(some 4), (.call 95 [(.t 3)]),
  [0], none⟩, ⟨(some 2), (.mov (.t 4)), [1, 1, 0, 1], none⟩]) .ret))⟩
theorem c60 : compFunc Tryd.prog [none, none] Tryd.f60 = some sf60 := by kernel_rfl
/-! (*sortilege/printer.writer).list -/
def j61_1 : SCode :=
  (.region false [⟨(some 18), (.mov (.t 0)), [], none⟩, ⟨(some 19), (.load true 8 (.t 5)), [], none⟩, ⟨(some 20), (.call 35 [(.t 18), (.t 19), (.k (.one (.d (.int .i64 0))))]), [0, 1], none⟩])
def j61_2 : SCode :=
  (.region false [⟨(some 21), (.ibin .i64 .add (.t 8) (.k (.one (.d (.int .i64 1))))), [], none⟩, ⟨(some 8), (.mov (.t 21)), [0], none⟩])
def j61_0 : SCode :=
  (.seq (some [0, 6, 7, 8]) (.block 1 (.seq none (.region false [⟨(some 10), (.mov (.t 8)), [], none⟩, ⟨(some 11), (.iaddr 8 (.t 6) (.t 8)), [], none⟩, ⟨(some 12), (.load true 8 (.t 11)), [1], none⟩,
  ⟨(some 5), (.alloc [(.int .i64), (.int .i64), .str, (.lst 1), (.lst 1), (.lst 8), (.int .i64), (.int .i64)] [(.d (.int .i64 0)), (.d (.int .i64 0)), (.d (.str ⟨#[]⟩)), (.nilL 1), (.nilL 1),
  (.nilL 8), (.d (.int .i64 0)), (.d (.int .i64 0))]), [], none⟩, ⟨(some 4), (.mov (.t 10)), [0, 0, 1, 2, 3], none⟩, ⟨none, (.store 8 (.t 5) (.t 12)), [3, 2, 4, 0, 1, 2, 3, 4], none⟩]) (.seq (some [0,
  5, 6, 7, 8]) (.seq none (.region false [⟨(some 13), (.mov (.t 4)), [], none⟩, ⟨(some 14), (.ibin .i64 .gtr (.t 13) (.k (.one (.d (.int .i64 0))))), [0],
  none⟩]) (.cond (.t 14) (.region false [⟨(some 15), (.mov (.t 0)), [], none⟩, ⟨(some 16), (.lit 9 1 [(.k (.one (.d (.str ⟨#[44, 32]⟩))))]), [], none⟩, ⟨(some 17), (.call 48 [(.t 15), (.t 16)]), [0,
  1], none⟩]) .skip)) j61_1))) j61_2)
def lb61_0 : SCode :=
  (.seq none (.region false [⟨(some 9), (.ibin .i64 .lss (.t 8) (.t 7)), [], none⟩]) (.seq (some [0, 6, 7, 8]) (.cond (.t 9) .skip (.exit 0)) j61_0))
def sf61 : SFunc :=
  ⟨2, [], (.seq none (.region false [⟨(some 6), (.mov (.t 1)), [], none⟩, ⟨(some 7), (.len false (.t 6)), [0], none⟩, ⟨(some 8), (.mov (.k (.one (.d (.int .i64 0))))), [], none⟩]) (.block 0 (.loop [0,
  6, 7, 8] lb61_0)))⟩
theorem c61 : compFunc Tryd.prog [none, some [0, 6, 7, 8], none, some [0, 6, 7, 8], some [0, 6, 7, 8], none, some [0, 5, 6, 7, 8], none] Tryd.f61 = some sf61 := by kernel_rfl
/-! (*sortilege/printer.writer).operator -/
def j62_2 : SCode :=
  (.seq none (.region false [⟨(some 47), (.mov (.t 0)), [], none⟩, ⟨(some 48), (.faddr 5 (.t 3)), [], none⟩, ⟨(some 49), (.load false 1 (.t 48)), [1], none⟩, ⟨(some 50),
  (.iaddr 8 (.t 49) (.k (.one (.d (.int .i64 0))))), [2], none⟩, ⟨(some 51), (.load true 8 (.t 50)), [3], none⟩, ⟨(some 52), (.mov (.t 5)), [], none⟩, ⟨(some 53), (.call 35 [(.t 47), (.t 51),
  (.t 52)]), [0, 4, 5], none⟩]) (.seq none (.region false [⟨(some 54), (.mov (.t 0)), [], none⟩, ⟨(some 55), (.faddr 2 (.t 3)), [], none⟩, ⟨(some 56), (.load false 1 (.t 55)), [1], none⟩, ⟨(some 57),
  (.lit 9 1 [(.k (.one (.d (.str ⟨#[32]⟩)))), (.t 56), (.k (.one (.d (.str ⟨#[32]⟩))))]), [2], none⟩, ⟨(some 58), (.call 48 [(.t 54), (.t 57)]), [0, 3], none⟩]) (.region false [⟨(some 59),
  (.mov (.t 0)), [], none⟩, ⟨(some 60), (.faddr 5 (.t 3)), [], none⟩, ⟨(some 61), (.load false 1 (.t 60)), [1], none⟩, ⟨(some 62), (.iaddr 8 (.t 61) (.k (.one (.d (.int .i64 1))))), [2], none⟩,
  ⟨(some 63), (.load true 8 (.t 62)), [3], none⟩, ⟨(some 64), (.mov (.t 6)), [], none⟩, ⟨(some 65), (.call 35 [(.t 59), (.t 63), (.t 64)]), [0, 4, 5], none⟩])))
def j62_1 : SCode :=
  (.seq (some [0, 3, 5, 6]) (.seq none (.region false [⟨(some 45), (.mov (.t 4)), [], none⟩, ⟨(some 46), (.ibin .i64 .eql (.t 45) (.k (.one (.d (.int .i64 4))))), [0],
  none⟩]) (.cond (.t 46) (.region false [⟨(some 6), (.mov (.k (.one (.d (.int .i64 4))))), [], none⟩]) .skip)) j62_2)
def j62_0 : SCode :=
  (.seq none (.region false [⟨(some 34), (.mov (.t 4)), [], none⟩, ⟨(some 35), (.mov (.t 4)), [], none⟩, ⟨(some 36), (.ibin .i64 .add (.t 35) (.k (.one (.d (.int .i64 1))))), [1], none⟩, ⟨(some 5),
  (.mov (.t 34)), [0, 0], none⟩, ⟨(some 6), (.mov (.t 36)), [2, 3, 0, 1, 2, 3], none⟩]) (.seq (some [0, 3, 4, 5, 6]) (.seq none (.region false [⟨(some 37), (.mov (.t 4)), [], none⟩, ⟨(some 38),
  (.ibin .i64 .eql (.t 37) (.k (.one (.d (.int .i64 3))))), [0], none⟩, ⟨(some 39), (.mov (.t 38)), [1], none⟩, ⟨(some 40), (.mov (.t 4)), [2], (some (2, (39, false)))⟩, ⟨(some 41),
  (.ibin .i64 .eql (.t 40) (.k (.one (.d (.int .i64 4))))), [3, 2], (some (2, (39, false)))⟩, ⟨(some 42), (.pick (.t 39) (.k (.one (.d (.bool true)))) (.t 41)), [2, 4],
  none⟩]) (.cond (.t 42) (.region false [⟨(some 43), (.mov (.t 4)), [], none⟩, ⟨(some 44), (.ibin .i64 .add (.t 43) (.k (.one (.d (.int .i64 1))))), [0], none⟩, ⟨(some 5), (.mov (.t 44)), [1, 0, 1],
  none⟩]) .skip)) j62_1))
def sf62 : SFunc :=
  ⟨2, [], (.seq none (.region false [⟨(some 3), (.box [(.int .i64), (.int .i64), .str, (.lst 1), (.lst 1), (.lst 8), (.int .i64), (.int .i64)] (.t 1)), [], none⟩]) (.seq none (.region false [⟨(some 7),
  (.faddr 2 (.t 3)), [], none⟩, ⟨(some 8), (.load false 1 (.t 7)), [0], none⟩, ⟨(some 9), (.call 89 [(.t 8)]), [1], none⟩, ⟨(some 4), (.mov (.t 9)), [2, 2, 0, 1, 2], none⟩]) (.seq (some [0, 3,
  4]) (.seq none (.region false [⟨(some 10), (.faddr 2 (.t 3)), [], none⟩, ⟨(some 11), (.load false 1 (.t 10)), [0], none⟩]) (.block 0 (.seq none (.region false [⟨(some 13),
  (.sbin .eql (.t 11) (.k (.one (.d (.str ⟨#[110, 101, 103]⟩))))), [], none⟩, ⟨(some 12), (.mov (.t 13)), [0], none⟩]) (.cond (.t 12) (.seq none (.region false [⟨(some 14), (.mov (.t 0)), [], none⟩,
  ⟨(some 15), (.lit 9 1 [(.k (.one (.d (.str ⟨#[45]⟩))))]), [], none⟩, ⟨(some 16), (.call 48 [(.t 14), (.t 15)]), [0, 1], none⟩]) (.seq none (.region false [⟨(some 17), (.mov (.t 0)), [], none⟩,
  ⟨(some 18), (.faddr 5 (.t 3)), [], none⟩, ⟨(some 19), (.load false 1 (.t 18)), [1], none⟩, ⟨(some 20), (.iaddr 8 (.t 19) (.k (.one (.d (.int .i64 0))))), [2], none⟩, ⟨(some 21),
  (.load true 8 (.t 20)), [3], none⟩, ⟨(some 22), (.call 35 [(.t 17), (.t 21), (.k (.one (.d (.int .i64 7))))]), [0, 4], none⟩]) .ret)) (.seq none (.region false [⟨(some 24),
  (.sbin .eql (.t 11) (.k (.one (.d (.str ⟨#[110, 111, 116]⟩))))), [], none⟩, ⟨(some 23), (.mov (.t 24)), [0], none⟩]) (.cond (.t 23) (.seq none (.region false [⟨(some 25), (.mov (.t 0)), [], none⟩,
  ⟨(some 26), (.lit 9 1 [(.k (.one (.d (.str ⟨#[110, 111, 116, 32]⟩))))]), [], none⟩, ⟨(some 27), (.call 48 [(.t 25), (.t 26)]), [0, 1], none⟩]) (.seq none (.region false [⟨(some 28), (.mov (.t 0)),
  [], none⟩, ⟨(some 29), (.faddr 5 (.t 3)), [], none⟩, ⟨(some 30), (.load false 1 (.t 29)), [1], none⟩, ⟨(some 31), (.iaddr 8 (.t 30) (.k (.one (.d (.int .i64 0))))), [2], none⟩, ⟨(some 32),
  (.load true 8 (.t 31)), [3], none⟩, ⟨(some 33), (.call 35 [(.t 28), (.t 32), (.k (.one (.d (.int .i64 7))))]), [0, 4], none⟩]) .ret)) .skip)))))) j62_0)))⟩
theorem c62 : compFunc Tryd.prog [none, none, some [0, 3, 4], none, none, none, none, none, none, none, none, some [0, 3, 4, 5, 6], none, some [0, 3, 5, 6], none, none, none] Tryd.f62 = some sf62 := by kernel_rfl
/-! sortilege/lexer.small -/
def sf70 : SFunc :=
  ⟨1, [(.tmp 2)], (.seq none (.region false [⟨(some 2), (.mov (.k (.one (.d (.bool false))))), [], none⟩]) (.seq none (.region false [⟨(some 3), (.mov (.t 0)), [], none⟩, ⟨(some 4),
  (.ibin .u8 .geq (.t 3) (.k (.one (.d (.int .u8 97))))), [0], none⟩, ⟨(some 5), (.mov (.t 4)), [1], none⟩, ⟨(some 6), (.mov (.t 0)), [2], (some (2, (5, true)))⟩, ⟨(some 7),
  (.ibin .u8 .leq (.t 6) (.k (.one (.d (.int .u8 122))))), [3, 2], (some (2, (5, true)))⟩, ⟨(some 8), (.pick (.t 5) (.t 7) (.k (.one (.d (.bool false))))), [2, 4], none⟩, ⟨(some 2), (.mov (.t 8)), [5,
  2, 0, 1, 2, 3, 4, 5], none⟩]) .ret))⟩
theorem c70 : compFunc Tryd.prog [none, none] Tryd.f70 = some sf70 := by kernel_rfl
/-! sortilege/lexer.digit -/
def sf71 : SFunc :=
  ⟨1, [(.tmp 2)], (.seq none (.region false [⟨(some 2), (.mov (.k (.one (.d (.bool false))))), [], none⟩]) (.seq none (.region false [⟨(some 3), (.mov (.t 0)), [], none⟩, ⟨(some 4),
  (.ibin .u8 .geq (.t 3) (.k (.one (.d (.int .u8 48))))), [0], none⟩, ⟨(some 5), (.mov (.t 4)), [1], none⟩, ⟨(some 6), (.mov (.t 0)), [2], (some (2, (5, true)))⟩, ⟨(some 7),
  (.ibin .u8 .leq (.t 6) (.k (.one (.d (.int .u8 57))))), [3, 2], (some (2, (5, true)))⟩, ⟨(some 8), (.pick (.t 5) (.t 7) (.k (.one (.d (.bool false))))), [2, 4], none⟩, ⟨(some 2), (.mov (.t 8)), [5,
  2, 0, 1, 2, 3, 4, 5], none⟩]) .ret))⟩
theorem c71 : compFunc Tryd.prog [none, none] Tryd.f71 = some sf71 := by kernel_rfl
/-! sortilege/lexer.sign -/
def j73_1 : SCode :=
  (.region false [⟨(some 15), (.ibin .i64 .add (.t 7) (.k (.one (.d (.int .i64 1))))), [], none⟩, ⟨(some 7), (.mov (.t 15)), [0], none⟩])
def j73_0 : SCode :=
  (.seq (some [0, 5, 6, 7]) (.block 1 (.seq none (.region false [⟨(some 9), (.iaddr 1 (.t 5) (.t 7)), [], none⟩, ⟨(some 10), (.load false 1 (.t 9)), [0], none⟩, ⟨(some 4), (.mov (.t 10)), [1, 0, 1],
  none⟩]) (.seq none (.region false [⟨(some 11), (.mov (.t 0)), [], none⟩, ⟨(some 12), (.mov (.t 4)), [], none⟩, ⟨(some 13), (.call 100 [(.t 11), (.t 12)]), [0, 1],
  none⟩]) (.cond (.t 13) (.seq none (.region false [⟨(some 14), (.mov (.t 4)), [], none⟩, ⟨(some 2), (.mov (.t 14)), [0, 0], none⟩]) .ret) .skip)))) j73_1)
def lb73_0 : SCode :=
  (.seq none (.region false [⟨(some 8), (.ibin .i64 .lss (.t 7) (.t 6)), [], none⟩]) (.seq (some [0, 5, 6, 7]) (.cond (.t 8) .skip (.exit 0)) j73_0))
def j73_3 : SCode :=
  (.seq none (.region false [⟨(some 2), (.mov (.k (.one (.d (.str ⟨#[]⟩))))), [], none⟩]) .ret)
def j73_2 : SCode :=
  (.seq (some []) (.seq none (.region false [⟨(some 16), (.mov (.t 0)), [], none⟩, ⟨(some 17), (.chr (.t 16) (.k (.one (.d (.int .i64 0))))), [0], none⟩, ⟨(some 18),
  (.call 101 [(.k (.one (.d (.str ⟨#[40, 41, 91, 93, 123, 125, 44, 59, 58, 124, 43, 45, 42, 47, 37, 61, 60]⟩)))), (.t 17)]), [1], none⟩, ⟨(some 19),
  (.ibin .i64 .geq (.t 18) (.k (.one (.d (.int .i64 0))))), [2], none⟩]) (.cond (.t 19) (.seq none (.region false [⟨(some 20), (.mov (.t 0)), [], none⟩, ⟨(some 21),
  (.sub (.t 20) none (some (.k (.one (.d (.int .i64 1)))))), [0], none⟩, ⟨(some 2), (.mov (.t 21)), [1, 0, 1], none⟩]) .ret) .skip)) j73_3)
def sf73 : SFunc :=
  ⟨1, [(.tmp 2)], (.seq none (.region false [⟨(some 2), (.mov (.k (.one (.d (.str ⟨#[]⟩))))), [], none⟩]) (.seq (some [0]) (.seq none (.region false [⟨(some 5), (.lit 9 1 [(.k (.one (.d (.str ⟨#[61,
  61]⟩)))), (.k (.one (.d (.str ⟨#[61, 62]⟩)))), (.k (.one (.d (.str ⟨#[60, 61]⟩)))), (.k (.one (.d (.str ⟨#[58, 58]⟩))))]), [], none⟩, ⟨(some 6), (.len false (.t 5)), [0], none⟩, ⟨(some 7),
  (.mov (.k (.one (.d (.int .i64 0))))), [], none⟩]) (.block 0 (.loop [0, 5, 6, 7] lb73_0))) j73_2))⟩
theorem c73 : compFunc Tryd.prog [none, some [0], none, some [0, 5, 6, 7], none, some [0, 5, 6, 7], some [0, 5, 6, 7], none, none, none, some [], none, none, none] Tryd.f73 = some sf73 := by kernel_rfl
/-! slices.ContainsFunc[[]sortilege/api.Type,sortilege/api.Type] -/
def sf86 : SFunc :=
  ⟨2, [(.tmp 4)], (.seq none (.region false [⟨(some 4), (.mov (.k (.one (.d (.bool false))))), [], none⟩]) (.seq none (.region false [⟨(some 5), (.mov (.t 0)), [], none⟩, ⟨(some 6), (.mov (.t 1)), [],
  none⟩, ⟨(some 7), (.call 107 [(.t 5), (.t 6)]), [0, 1], none⟩, ⟨(some 8), (.ibin .i64 .geq (.t 7) (.k (.one (.d (.int .i64 0))))), [2], none⟩, ⟨(some 4), (.mov (.t 8)), [3, 2, 0, 1, 2, 3],
  none⟩]) .ret))⟩
theorem c86 : compFunc Tryd.prog [none, none] Tryd.f86 = some sf86 := by kernel_rfl
/-! sortilege/value.deep$1 -/
def sf87 : SFunc :=
  ⟨2, [(.tmp 3)], (.seq none (.region false [⟨(some 2), (.box [(.int .i64), (.lst 2)] (.t 0)), [], none⟩, ⟨(some 3), (.mov (.k (.one (.d (.bool false))))), [],
  none⟩]) (.seq none (.region false [⟨(some 4), (.load true 2 (.t 2)), [], none⟩, ⟨(some 5), (.load false 1 (.t 1)), [], none⟩, ⟨(some 6), (.ibin .i64 .sub (.t 5) (.k (.one (.d (.int .i64 1))))), [1],
  none⟩, ⟨(some 7), (.call 50 [(.t 4), (.t 6)]), [0, 2], none⟩, ⟨(some 8), (.inot (.t 7)), [3], none⟩, ⟨(some 3), (.mov (.t 8)), [4, 3, 0, 1, 2, 3, 4], none⟩]) .ret))⟩
theorem c87 : compFunc Tryd.prog [none, none] Tryd.f87 = some sf87 := by kernel_rfl
/-! sortilege/sortilegeref05.Words -/
def sf88 : SFunc :=
  ⟨0, [(.tmp 0)], (.seq none (.region false [⟨(some 0), (.mov (.k (.one (.nilL 1)))), [], none⟩]) (.seq none (.region false [⟨(some 1), (.lit 9 1 [(.k (.one (.d (.str ⟨#[97, 110, 100]⟩)))),
  (.k (.one (.d (.str ⟨#[98, 111, 111, 108]⟩)))), (.k (.one (.d (.str ⟨#[99, 97, 115, 101]⟩)))), (.k (.one (.d (.str ⟨#[101, 108, 115, 101]⟩)))), (.k (.one (.d (.str ⟨#[102, 97, 108, 115, 101]⟩)))),
  (.k (.one (.d (.str ⟨#[102, 108, 105, 112]⟩)))), (.k (.one (.d (.str ⟨#[102, 117, 110]⟩)))), (.k (.one (.d (.str ⟨#[105, 102]⟩)))), (.k (.one (.d (.str ⟨#[105, 110]⟩)))), (.k (.one (.d (.str ⟨#[105,
  110, 112, 117, 116]⟩)))), (.k (.one (.d (.str ⟨#[105, 110, 116]⟩)))), (.k (.one (.d (.str ⟨#[108, 101, 116]⟩)))), (.k (.one (.d (.str ⟨#[110, 111, 116]⟩)))), (.k (.one (.d (.str ⟨#[111, 98, 115,
  101, 114, 118, 101]⟩)))), (.k (.one (.d (.str ⟨#[111, 102]⟩)))), (.k (.one (.d (.str ⟨#[111, 114]⟩)))), (.k (.one (.d (.str ⟨#[112, 105, 99, 107]⟩)))), (.k (.one (.d (.str ⟨#[114, 97, 110, 103,
  101]⟩)))), (.k (.one (.d (.str ⟨#[115, 99, 111, 114, 101]⟩)))), (.k (.one (.d (.str ⟨#[116, 104, 101, 110]⟩)))), (.k (.one (.d (.str ⟨#[116, 114, 117, 101]⟩))))]), [], none⟩, ⟨(some 0),
  (.mov (.t 1)), [0, 0], none⟩]) .ret))⟩
theorem c88 : compFunc Tryd.prog [none, none] Tryd.f88 = some sf88 := by kernel_rfl
/-! sortilege/printer.level -/
def j89_3 : SCode :=
  (.cond (.t 21) (.seq none (.region false [⟨(some 2), (.mov (.k (.one (.d (.int .i64 7))))), [], none⟩]) .ret) .skip)
def j89_2 : SCode :=
  (.cond (.t 17) (.seq none (.region false [⟨(some 2), (.mov (.k (.one (.d (.int .i64 6))))), [], none⟩]) .ret) (.seq (some [21]) (.seq none (.region false [⟨(some 22),
  (.sbin .eql (.t 3) (.k (.one (.d (.str ⟨#[110, 111, 116]⟩))))), [], none⟩, ⟨(some 21), (.mov (.t 22)), [0], none⟩]) (.cond (.t 21) .skip (.region false [⟨(some 23),
  (.sbin .eql (.t 3) (.k (.one (.d (.str ⟨#[110, 101, 103]⟩))))), [], none⟩, ⟨(some 21), (.mov (.t 23)), [0], none⟩]))) j89_3))
def j89_1 : SCode :=
  (.cond (.t 14) (.seq none (.region false [⟨(some 2), (.mov (.k (.one (.d (.int .i64 5))))), [], none⟩]) .ret) (.seq (some [3, 17]) (.seq none (.region false [⟨(some 18),
  (.sbin .eql (.t 3) (.k (.one (.d (.str ⟨#[42]⟩))))), [], none⟩, ⟨(some 17), (.mov (.t 18)), [0], none⟩]) (.cond (.t 17) .skip (.seq none (.region false [⟨(some 19),
  (.sbin .eql (.t 3) (.k (.one (.d (.str ⟨#[47]⟩))))), [], none⟩, ⟨(some 17), (.mov (.t 19)), [0], none⟩]) (.cond (.t 17) .skip (.region false [⟨(some 20),
  (.sbin .eql (.t 3) (.k (.one (.d (.str ⟨#[37]⟩))))), [], none⟩, ⟨(some 17), (.mov (.t 20)), [0], none⟩]))))) j89_2))
def j89_0 : SCode :=
  (.cond (.t 8) (.seq none (.region false [⟨(some 2), (.mov (.k (.one (.d (.int .i64 3))))), [], none⟩]) .ret) (.seq none (.region false [⟨(some 13), (.sbin .eql (.t 3) (.k (.one (.d (.str ⟨#[58,
  58]⟩))))), [], none⟩, ⟨(some 12), (.mov (.t 13)), [0], none⟩]) (.cond (.t 12) (.seq none (.region false [⟨(some 2), (.mov (.k (.one (.d (.int .i64 4))))), [], none⟩]) .ret) (.seq (some [3,
  14]) (.seq none (.region false [⟨(some 15), (.sbin .eql (.t 3) (.k (.one (.d (.str ⟨#[43]⟩))))), [], none⟩, ⟨(some 14), (.mov (.t 15)), [0], none⟩]) (.cond (.t 14) .skip (.region false [⟨(some 16),
  (.sbin .eql (.t 3) (.k (.one (.d (.str ⟨#[45]⟩))))), [], none⟩, ⟨(some 14), (.mov (.t 16)), [0], none⟩]))) j89_1))))
def j89_4 : SCode :=
  (.seq none (.region false [⟨(some 2), (.mov (.k (.one (.d (.int .i64 0))))), [], none⟩]) .ret)
def sf89 : SFunc :=
  ⟨1, [(.tmp 2)], (.seq none (.region false [⟨(some 2), (.mov (.k (.one (.d (.int .i64 0))))), [], none⟩]) (.seq (some []) (.seq none (.region false [⟨(some 3), (.mov (.t 0)), [],
  none⟩]) (.block 0 (.seq none (.region false [⟨(some 5), (.sbin .eql (.t 3) (.k (.one (.d (.str ⟨#[111, 114]⟩))))), [], none⟩, ⟨(some 4), (.mov (.t 5)), [0],
  none⟩]) (.cond (.t 4) (.seq none (.region false [⟨(some 2), (.mov (.k (.one (.d (.int .i64 1))))), [], none⟩]) .ret) (.seq none (.region false [⟨(some 7),
  (.sbin .eql (.t 3) (.k (.one (.d (.str ⟨#[97, 110, 100]⟩))))), [], none⟩, ⟨(some 6), (.mov (.t 7)), [0], none⟩]) (.cond (.t 6) (.seq none (.region false [⟨(some 2),
  (.mov (.k (.one (.d (.int .i64 2))))), [], none⟩]) .ret) (.seq (some [3, 8]) (.seq none (.region false [⟨(some 9), (.sbin .eql (.t 3) (.k (.one (.d (.str ⟨#[61, 61]⟩))))), [], none⟩, ⟨(some 8),
  (.mov (.t 9)), [0], none⟩]) (.cond (.t 8) .skip (.seq none (.region false [⟨(some 10), (.sbin .eql (.t 3) (.k (.one (.d (.str ⟨#[60]⟩))))), [], none⟩, ⟨(some 8), (.mov (.t 10)), [0],
  none⟩]) (.cond (.t 8) .skip (.region false [⟨(some 11), (.sbin .eql (.t 3) (.k (.one (.d (.str ⟨#[60, 61]⟩))))), [], none⟩, ⟨(some 8), (.mov (.t 11)), [0], none⟩]))))) j89_0))))))) j89_4))⟩
theorem c89 : compFunc Tryd.prog [none, some [], none, none, none, none, none, some [3, 8], none, none, none, none, none, some [3, 14], none, none, some [3, 17], none, none, none, some [21], none, none, none] Tryd.f89 = some sf89 := by kernel_rfl
/-! sortilege/printer.names -/
def j90_1 : SCode :=
  (.region false [⟨(some 14), (.ibin .i64 .add (.t 7) (.k (.one (.d (.int .i64 1))))), [], none⟩, ⟨(some 7), (.mov (.t 14)), [0], none⟩])
def j90_0 : SCode :=
  (.seq (some [5, 6, 7]) (.block 1 (.seq none (.region false [⟨(some 9), (.iaddr 1 (.t 5) (.t 7)), [], none⟩, ⟨(some 10), (.load false 1 (.t 9)), [0], none⟩, ⟨(some 4), (.mov (.t 10)), [1, 0, 1],
  none⟩]) (.seq none (.region false [⟨(some 11), (.mov (.t 4)), [], none⟩, ⟨(some 12), (.call 27 [(.t 11)]), [0], none⟩, ⟨(some 13), (.inot (.t 12)), [1],
  none⟩]) (.cond (.t 13) (.seq none (.region false [⟨(some 2), (.mov (.k (.one (.d (.bool false))))), [], none⟩]) .ret) .skip)))) j90_1)
def lb90_0 : SCode :=
  (.seq none (.region false [⟨(some 8), (.ibin .i64 .lss (.t 7) (.t 6)), [], none⟩]) (.seq (some [5, 6, 7]) (.cond (.t 8) .skip (.exit 0)) j90_0))
def j90_2 : SCode :=
  (.seq none (.region false [⟨(some 2), (.mov (.k (.one (.d (.bool true))))), [], none⟩]) .ret)
def sf90 : SFunc :=
  ⟨1, [(.tmp 2)], (.seq none (.region false [⟨(some 2), (.mov (.k (.one (.d (.bool false))))), [], none⟩]) (.seq (some []) (.seq none (.region false [⟨(some 5), (.mov (.t 0)), [], none⟩, ⟨(some 6),
  (.len false (.t 5)), [0], none⟩, ⟨(some 7), (.mov (.k (.one (.d (.int .i64 0))))), [], none⟩]) (.block 0 (.loop [5, 6, 7] lb90_0))) j90_2))⟩
theorem c90 : compFunc Tryd.prog [none, some [], none, some [5, 6, 7], none, some [5, 6, 7], some [5, 6, 7], none, none, none, none] Tryd.f90 = some sf90 := by kernel_rfl
/-! sortilege/sortilegeref07.Level -/
def j91_3 : SCode :=
  (.cond (.t 21) (.seq none (.region false [⟨(some 2), (.mov (.k (.one (.d (.int .i64 7))))), [], none⟩]) .ret) .skip)
def j91_2 : SCode :=
  (.cond (.t 17) (.seq none (.region false [⟨(some 2), (.mov (.k (.one (.d (.int .i64 6))))), [], none⟩]) .ret) (.seq (some [21]) (.seq none (.region false [⟨(some 22),
  (.sbin .eql (.t 3) (.k (.one (.d (.str ⟨#[110, 111, 116]⟩))))), [], none⟩, ⟨(some 21), (.mov (.t 22)), [0], none⟩]) (.cond (.t 21) .skip (.region false [⟨(some 23),
  (.sbin .eql (.t 3) (.k (.one (.d (.str ⟨#[110, 101, 103]⟩))))), [], none⟩, ⟨(some 21), (.mov (.t 23)), [0], none⟩]))) j91_3))
def j91_1 : SCode :=
  (.cond (.t 14) (.seq none (.region false [⟨(some 2), (.mov (.k (.one (.d (.int .i64 5))))), [], none⟩]) .ret) (.seq (some [3, 17]) (.seq none (.region false [⟨(some 18),
  (.sbin .eql (.t 3) (.k (.one (.d (.str ⟨#[42]⟩))))), [], none⟩, ⟨(some 17), (.mov (.t 18)), [0], none⟩]) (.cond (.t 17) .skip (.seq none (.region false [⟨(some 19),
  (.sbin .eql (.t 3) (.k (.one (.d (.str ⟨#[47]⟩))))), [], none⟩, ⟨(some 17), (.mov (.t 19)), [0], none⟩]) (.cond (.t 17) .skip (.region false [⟨(some 20),
  (.sbin .eql (.t 3) (.k (.one (.d (.str ⟨#[37]⟩))))), [], none⟩, ⟨(some 17), (.mov (.t 20)), [0], none⟩]))))) j91_2))
def j91_0 : SCode :=
  (.cond (.t 8) (.seq none (.region false [⟨(some 2), (.mov (.k (.one (.d (.int .i64 3))))), [], none⟩]) .ret) (.seq none (.region false [⟨(some 13), (.sbin .eql (.t 3) (.k (.one (.d (.str ⟨#[58,
  58]⟩))))), [], none⟩, ⟨(some 12), (.mov (.t 13)), [0], none⟩]) (.cond (.t 12) (.seq none (.region false [⟨(some 2), (.mov (.k (.one (.d (.int .i64 4))))), [], none⟩]) .ret) (.seq (some [3,
  14]) (.seq none (.region false [⟨(some 15), (.sbin .eql (.t 3) (.k (.one (.d (.str ⟨#[43]⟩))))), [], none⟩, ⟨(some 14), (.mov (.t 15)), [0], none⟩]) (.cond (.t 14) .skip (.region false [⟨(some 16),
  (.sbin .eql (.t 3) (.k (.one (.d (.str ⟨#[45]⟩))))), [], none⟩, ⟨(some 14), (.mov (.t 16)), [0], none⟩]))) j91_1))))
def j91_4 : SCode :=
  (.seq none (.region false [⟨(some 2), (.mov (.k (.one (.d (.int .i64 0))))), [], none⟩]) .ret)
def sf91 : SFunc :=
  ⟨1, [(.tmp 2)], (.seq none (.region false [⟨(some 2), (.mov (.k (.one (.d (.int .i64 0))))), [], none⟩]) (.seq (some []) (.seq none (.region false [⟨(some 3), (.mov (.t 0)), [],
  none⟩]) (.block 0 (.seq none (.region false [⟨(some 5), (.sbin .eql (.t 3) (.k (.one (.d (.str ⟨#[111, 114]⟩))))), [], none⟩, ⟨(some 4), (.mov (.t 5)), [0],
  none⟩]) (.cond (.t 4) (.seq none (.region false [⟨(some 2), (.mov (.k (.one (.d (.int .i64 1))))), [], none⟩]) .ret) (.seq none (.region false [⟨(some 7),
  (.sbin .eql (.t 3) (.k (.one (.d (.str ⟨#[97, 110, 100]⟩))))), [], none⟩, ⟨(some 6), (.mov (.t 7)), [0], none⟩]) (.cond (.t 6) (.seq none (.region false [⟨(some 2),
  (.mov (.k (.one (.d (.int .i64 2))))), [], none⟩]) .ret) (.seq (some [3, 8]) (.seq none (.region false [⟨(some 9), (.sbin .eql (.t 3) (.k (.one (.d (.str ⟨#[61, 61]⟩))))), [], none⟩, ⟨(some 8),
  (.mov (.t 9)), [0], none⟩]) (.cond (.t 8) .skip (.seq none (.region false [⟨(some 10), (.sbin .eql (.t 3) (.k (.one (.d (.str ⟨#[60]⟩))))), [], none⟩, ⟨(some 8), (.mov (.t 10)), [0],
  none⟩]) (.cond (.t 8) .skip (.region false [⟨(some 11), (.sbin .eql (.t 3) (.k (.one (.d (.str ⟨#[60, 61]⟩))))), [], none⟩, ⟨(some 8), (.mov (.t 11)), [0], none⟩]))))) j91_0))))))) j91_4))⟩
theorem c91 : compFunc Tryd.prog [none, some [], none, none, none, none, none, some [3, 8], none, none, none, none, none, some [3, 14], none, none, some [3, 17], none, none, none, some [21], none, none, none] Tryd.f91 = some sf91 := by kernel_rfl
/-! sortilege/sortilegeref07.names -/
def j92_1 : SCode :=
  (.region false [⟨(some 8), (.mov (.t 3)), [], none⟩, ⟨(some 9), (.ibin .i64 .add (.t 8) (.k (.one (.d (.int .i64 1))))), [0], none⟩, ⟨(some 3), (.mov (.t 9)), [1, 0, 1], none⟩])
def j92_0 : SCode :=
  (.seq (some [0, 3]) (.block 1 (.seq none (.region false [⟨(some 10), (.mov (.t 0)), [], none⟩, ⟨(some 11), (.mov (.t 3)), [], none⟩, ⟨(some 12), (.iaddr 1 (.t 10) (.t 11)), [0, 1], none⟩, ⟨(some 13),
  (.load false 1 (.t 12)), [2], none⟩, ⟨(some 14), (.call 30 [(.t 13), (.k (.one (.d (.bool false))))]), [3], none⟩, ⟨(some 15), (.inot (.t 14)), [4],
  none⟩]) (.cond (.t 15) (.seq none (.region false [⟨(some 2), (.mov (.k (.one (.d (.bool false))))), [], none⟩]) .ret) .skip))) j92_1)
def lb92_0 : SCode :=
  (.seq (some [0, 3]) (.seq none (.region false [⟨(some 4), (.mov (.t 3)), [], none⟩, ⟨(some 5), (.mov (.t 0)), [], none⟩, ⟨(some 6), (.len false (.t 5)), [1], none⟩, ⟨(some 7),
  (.ibin .i64 .lss (.t 4) (.t 6)), [0, 2], none⟩]) (.cond (.t 7) .skip (.exit 0))) j92_0)
def j92_2 : SCode :=
  (.seq none (.region false [⟨(some 2), (.mov (.k (.one (.d (.bool true))))), [], none⟩]) .ret)
def sf92 : SFunc :=
  ⟨1, [(.tmp 2)], (.seq none (.region false [⟨(some 2), (.mov (.k (.one (.d (.bool false))))), [], none⟩]) (.seq (some []) (.seq none (.region false [⟨(some 3), (.mov (.k (.one (.d (.int .i64 0))))),
  [], none⟩]) (.block 0 (.loop [0, 3] lb92_0))) j92_2))⟩
theorem c92 : compFunc Tryd.prog [none, some [], none, some [0, 3], some [0, 3], none, some [0, 3], none, none, none] Tryd.f92 = some sf92 := by kernel_rfl
/-! sortilege/sortilegeref07.within -/
def j93_1 : SCode :=
  (.region false [⟨(some 12), (.mov (.t 7)), [], none⟩, ⟨(some 13), (.ibin .i64 .add (.t 12) (.k (.one (.d (.int .i64 1))))), [0], none⟩, ⟨(some 7), (.mov (.t 13)), [1, 0, 1], none⟩])
def j93_0 : SCode :=
  (.seq (some [0, 1, 2, 7]) (.block 1 (.seq none (.region false [⟨(some 14), (.mov (.t 0)), [], none⟩, ⟨(some 15), (.mov (.t 7)), [], none⟩, ⟨(some 16), (.iaddr 1 (.t 14) (.t 15)), [0, 1], none⟩,
  ⟨(some 17), (.load false 1 (.t 16)), [2], none⟩, ⟨(some 18), (.mov (.t 1)), [], none⟩, ⟨(some 19), (.ibin .i64 .lss (.t 17) (.t 18)), [3, 4], none⟩, ⟨(some 20), (.mov (.t 19)), [5], none⟩,
  ⟨(some 21), (.mov (.t 0)), [6], (some (6, (20, false)))⟩, ⟨(some 22), (.mov (.t 7)), [6], (some (6, (20, false)))⟩, ⟨(some 23), (.iaddr 1 (.t 21) (.t 22)), [7, 8, 6], (some (6, (20, false)))⟩,
  ⟨(some 24), (.load false 1 (.t 23)), [9, 6], (some (6, (20, false)))⟩, ⟨(some 25), (.mov (.t 2)), [6], (some (6, (20, false)))⟩, ⟨(some 26), (.ibin .i64 .gtr (.t 24) (.t 25)), [10, 11, 6], (some (6,
  (20, false)))⟩, ⟨(some 27), (.pick (.t 20) (.k (.one (.d (.bool true)))) (.t 26)), [6, 12], none⟩]) (.cond (.t 27) (.seq none (.region false [⟨(some 6), (.mov (.k (.one (.d (.bool false))))), [],
  none⟩]) .ret) .skip))) j93_1)
def lb93_0 : SCode :=
  (.seq (some [0, 1, 2, 7]) (.seq none (.region false [⟨(some 8), (.mov (.t 7)), [], none⟩, ⟨(some 9), (.mov (.t 0)), [], none⟩, ⟨(some 10), (.len false (.t 9)), [1], none⟩, ⟨(some 11),
  (.ibin .i64 .lss (.t 8) (.t 10)), [0, 2], none⟩]) (.cond (.t 11) .skip (.exit 0))) j93_0)
def j93_2 : SCode :=
  (.seq none (.region false [⟨(some 6), (.mov (.k (.one (.d (.bool true))))), [], none⟩]) .ret)
def sf93 : SFunc :=
  ⟨3, [(.tmp 6)], (.seq none (.region false [⟨(some 6), (.mov (.k (.one (.d (.bool false))))), [], none⟩]) (.seq (some []) (.seq none (.region false [⟨(some 7), (.mov (.k (.one (.d (.int .i64 0))))),
  [], none⟩]) (.block 0 (.loop [0, 1, 2, 7] lb93_0))) j93_2))⟩
theorem c93 : compFunc Tryd.prog [none, some [], none, some [0, 1, 2, 7], some [0, 1, 2, 7], none, some [0, 1, 2, 7], none, none, none] Tryd.f93 = some sf93 := by kernel_rfl
/-! internal/strconv.FormatBool -/
def j95_0 : SCode :=
  (.seq none (.region false [⟨(some 2), (.mov (.k (.one (.d (.str ⟨#[102, 97, 108, 115, 101]⟩))))), [], none⟩]) .ret)
def sf95 : SFunc :=
  ⟨1, [(.tmp 2)], (.seq none (.region false [⟨(some 2), (.mov (.k (.one (.d (.str ⟨#[]⟩))))), [], none⟩]) (.seq (some []) (.seq none (.region false [⟨(some 3), (.mov (.t 0)), [],
  none⟩]) (.cond (.t 3) (.seq none (.region false [⟨(some 2), (.mov (.k (.one (.d (.str ⟨#[116, 114, 117, 101]⟩))))), [], none⟩]) .ret) .skip)) j95_0))⟩
theorem c95 : compFunc Tryd.prog [none, some [], none, none, none] Tryd.f95 = some sf95 := by kernel_rfl
/-! strings.HasPrefix -/
def sf100 : SFunc :=
  ⟨2, [(.tmp 4)], (.seq none (.region false [⟨(some 4), (.mov (.k (.one (.d (.bool false))))), [], none⟩]) (.seq none (.region false [⟨(some 5), (.mov (.t 0)), [], none⟩, ⟨(some 6), (.mov (.t 1)), [],
  none⟩, ⟨(some 7), (.call 112 [(.t 5), (.t 6)]), [0, 1], none⟩, ⟨(some 4), (.mov (.t 7)), [2, 2, 0, 1, 2], none⟩]) .ret))⟩
theorem c100 : compFunc Tryd.prog [none, none] Tryd.f100 = some sf100 := by kernel_rfl
/-! slices.IndexFunc[[]sortilege/api.Type,sortilege/api.Type] -/
def j107_1 : SCode :=
  (.region false [⟨(some 18), (.ibin .i64 .add (.t 8) (.k (.one (.d (.int .i64 1))))), [], none⟩, ⟨(some 8), (.mov (.t 18)), [0], none⟩])
def j107_0 : SCode :=
  (.seq (some [0, 1, 7, 8]) (.block 1 (.seq none (.region false [⟨(some 10), (.mov (.t 8)), [], none⟩, ⟨(some 5), (.mov (.t 10)), [0, 0], none⟩]) (.seq none (.region false [⟨(some 11), (.mov (.t 1)),
  [], none⟩, ⟨(some 12), (.mov (.t 0)), [], none⟩, ⟨(some 13), (.mov (.t 5)), [], none⟩, ⟨(some 14), (.iaddr 2 (.t 12) (.t 13)), [1, 2], none⟩, ⟨(some 15), (.load true 2 (.t 14)), [3], none⟩,
  ⟨(some 16), (.callv (.t 11) [(.t 15)]), [0, 4], none⟩]) (.cond (.t 16) (.seq none (.region false [⟨(some 17), (.mov (.t 5)), [], none⟩, ⟨(some 4), (.mov (.t 17)), [0, 0],
  none⟩]) .ret) .skip)))) j107_1)
def lb107_0 : SCode :=
  (.seq none (.region false [⟨(some 9), (.ibin .i64 .lss (.t 8) (.t 7)), [], none⟩]) (.seq (some [0, 1, 7, 8]) (.cond (.t 9) .skip (.exit 0)) j107_0))
def j107_2 : SCode :=
  (.seq none (.region false [⟨(some 4), (.mov (.k (.one (.d (.int .i64 (-1)))))), [], none⟩]) .ret)
def sf107 : SFunc :=
  ⟨2, [(.tmp 4)], (.seq none (.region false [⟨(some 4), (.mov (.k (.one (.d (.int .i64 0))))), [], none⟩]) (.seq (some []) (.seq none (.region false [⟨(some 6), (.mov (.t 0)), [], none⟩, ⟨(some 7),
  (.len false (.t 6)), [0], none⟩, ⟨(some 8), (.mov (.k (.one (.d (.int .i64 0))))), [], none⟩]) (.block 0 (.loop [0, 1, 7, 8] lb107_0))) j107_2))⟩
theorem c107 : compFunc Tryd.prog [none, some [], none, some [0, 1, 7, 8], none, some [0, 1, 7, 8], some [0, 1, 7, 8], none, none, none, none] Tryd.f107 = some sf107 := by kernel_rfl
/-! internal/stringslite.HasPrefix -/
def sf112 : SFunc :=
  ⟨2, [(.tmp 4)], (.seq none (.region false [⟨(some 4), (.mov (.k (.one (.d (.bool false))))), [], none⟩]) (.seq none (.region false [⟨(some 5), (.mov (.t 0)), [], none⟩, ⟨(some 6), (.len true (.t 5)),
  [0], none⟩, ⟨(some 7), (.mov (.t 1)), [], none⟩, ⟨(some 8), (.len true (.t 7)), [2], none⟩, ⟨(some 9), (.ibin .i64 .geq (.t 6) (.t 8)), [1, 3], none⟩, ⟨(some 10), (.mov (.t 9)), [4], none⟩,
  ⟨(some 11), (.mov (.t 0)), [5], (some (5, (10, true)))⟩, ⟨(some 12), (.mov (.t 1)), [5], (some (5, (10, true)))⟩, ⟨(some 13), (.len true (.t 12)), [7, 5], (some (5, (10, true)))⟩, ⟨(some 14),
  (.sub (.t 11) none (some (.t 13))), [6, 8, 5], (some (5, (10, true)))⟩, ⟨(some 15), (.mov (.t 1)), [5], (some (5, (10, true)))⟩, ⟨(some 16), (.sbin .eql (.t 14) (.t 15)), [9, 10, 5], (some (5, (10,
  true)))⟩, ⟨(some 17), (.pick (.t 10) (.t 16) (.k (.one (.d (.bool false))))), [5, 11], none⟩, ⟨(some 4), (.mov (.t 17)), [12, 5, 0, 1, 2, 3, 4, 5, 6, 7, 8, 9, 10, 11, 12], none⟩]) .ret))⟩
theorem c112 : compFunc Tryd.prog [none, none] Tryd.f112 = some sf112 := by kernel_rfl
end Go.Proofs.YtaphnbaiamnfpaaDoor.Ps
